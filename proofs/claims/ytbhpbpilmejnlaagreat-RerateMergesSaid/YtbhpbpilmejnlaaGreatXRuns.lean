/- The interpreter gives these functions. -/
import Derived.Test.YtbhpbpilmejnlaaGreatXFns
import Derived.Test.YtbhpbpilmejnlaaGreatProg
namespace Gx
open Go Gd Go.Proofs
set_option linter.unusedVariables false
def tab:Tab:=[
 ⟨1,.func ⟨[]⟩ ⟨[]⟩ false,.nilFunc,1,8⟩,
 ⟨2,.int .i64,.int .i64 0,1,8⟩,
 ⟨3,.int .i64,.int .i64 0,1,8⟩,
 ⟨4,.bool,.bool false,1,1⟩,
 ⟨5,.int .u8,.int .u8 0,1,1⟩,
 ⟨9,.string,Y8 [],1,16⟩,
 ⟨23,.struct ⟨[⟨"Id",3,0,false, "", "",0⟩,⟨"Kind",3,1,false, "", "",8⟩,⟨"Account",3,2,false, "", "",16⟩,⟨"Sub",3,3,false, "", "",24⟩,⟨"A",9,4,false, "", "",32⟩,⟨"B",9,5,false, "", "",48⟩,⟨"Start",3,6,false, "", "",64⟩,⟨"Units",3,7,false, "", "",72⟩,⟨"Trunk",3,8,false, "", "",80⟩,⟨"Inbound",4,9,false, "", "",88⟩,⟨"Source",3,10,false, "", "",96⟩,⟨"Serial",3,11,false, "", "",104⟩]⟩,.agg ⟨[.int .i64 0,.int .i64 0,.int .i64 0,.int .i64 0,Y8 [],Y8 [],.int .i64 0,.int .i64 0,.int .i64 0,.bool false,.int .i64 0,.int .i64 0]⟩,12,112⟩,
 ⟨24,.int .i64,.int .i64 0,1,8⟩,
 ⟨25,.slice 33,.slice none 0 0,1,24⟩,
 ⟨26,.slice 35,.slice none 0 0,1,24⟩,
 ⟨27,.slice 76,.slice none 0 0,1,24⟩,
 ⟨29,.struct ⟨[⟨"Usage",23,0,false, "", "",0⟩,⟨"Err",24,12,false, "", "",112⟩,⟨"Plan",9,13,false, "", "",120⟩,⟨"Version",3,14,false, "", "",136⟩,⟨"Zone",9,15,false, "", "",144⟩,⟨"Takes",25,16,false, "", "",160⟩,⟨"Segments",26,17,false, "", "",184⟩,⟨"Setup",3,18,false, "", "",208⟩,⟨"Gross",3,19,false, "", "",216⟩,⟨"Net",3,20,false, "", "",224⟩,⟨"Given",27,21,false, "", "",232⟩,⟨"Paid",3,22,false, "", "",256⟩,⟨"Owed",3,23,false, "", "",264⟩]⟩,.agg ⟨[.int .i64 0,.int .i64 0,.int .i64 0,.int .i64 0,Y8 [],Y8 [],.int .i64 0,.int .i64 0,.int .i64 0,.bool false,.int .i64 0,.int .i64 0,.int .i64 0,Y8 [],.int .i64 0,Y8 [],.slice none 0 0,.slice none 0 0,.int .i64 0,.int .i64 0,.int .i64 0,.slice none 0 0,.int .i64 0,.int .i64 0]⟩,24,272⟩,
 ⟨33,.struct ⟨[⟨"Sub",3,0,false, "", "",0⟩,⟨"Product",9,1,false, "", "",8⟩,⟨"Index",3,2,false, "", "",24⟩,⟨"From",3,3,false, "", "",32⟩,⟨"Units",3,4,false, "", "",40⟩]⟩,.agg ⟨[.int .i64 0,Y8 [],.int .i64 0,.int .i64 0,.int .i64 0]⟩,5,48⟩,
 ⟨35,.struct ⟨[⟨"Band",9,0,false, "", "",0⟩,⟨"Start",3,1,false, "", "",16⟩,⟨"Units",3,2,false, "", "",24⟩,⟨"Amount",3,3,false, "", "",32⟩]⟩,.agg ⟨[Y8 [],.int .i64 0,.int .i64 0,.int .i64 0]⟩,4,40⟩,
 ⟨38,.slice 29,.slice none 0 0,1,24⟩,
 ⟨44,.slice 51,.slice none 0 0,1,24⟩,
 ⟨51,.struct ⟨[⟨"Usage",3,0,false, "", "",0⟩,⟨"Account",3,1,false, "", "",8⟩,⟨"Sub",3,2,false, "", "",16⟩,⟨"Kind",3,3,false, "", "",24⟩,⟨"Start",3,4,false, "", "",32⟩,⟨"Paid",3,5,false, "", "",40⟩,⟨"Owed",3,6,false, "", "",48⟩]⟩,.agg ⟨[.int .i64 0,.int .i64 0,.int .i64 0,.int .i64 0,.int .i64 0,.int .i64 0,.int .i64 0]⟩,7,56⟩,
 ⟨53,.slice 142,.slice none 0 0,1,24⟩,
 ⟨54,.slice 71,.slice none 0 0,1,24⟩,
 ⟨55,.slice 73,.slice none 0 0,1,24⟩,
 ⟨57,.struct ⟨[⟨"Buckets",53,0,false, "", "",0⟩,⟨"Wallets",54,1,false, "", "",24⟩,⟨"Counters",55,2,false, "", "",48⟩]⟩,.agg ⟨[.slice none 0 0,.slice none 0 0,.slice none 0 0]⟩,3,72⟩,
 ⟨60,.slice 133,.slice none 0 0,1,24⟩,
 ⟨61,.slice 112,.slice none 0 0,1,24⟩,
 ⟨62,.slice 131,.slice none 0 0,1,24⟩,
 ⟨63,.slice 407,.slice none 0 0,1,24⟩,
 ⟨64,.slice 3,.slice none 0 0,1,24⟩,
 ⟨65,.slice 409,.slice none 0 0,1,24⟩,
 ⟨67,.struct ⟨[⟨"Events",60,0,false, "", "",0⟩,⟨"Tariffs",61,1,false, "", "",24⟩,⟨"Products",62,2,false, "", "",48⟩,⟨"Taxes",63,3,false, "", "",72⟩,⟨"Holidays",64,4,false, "", "",96⟩,⟨"Agreements",65,5,false, "", "",120⟩]⟩,.agg ⟨[.slice none 0 0,.slice none 0 0,.slice none 0 0,.slice none 0 0,.slice none 0 0,.slice none 0 0]⟩,6,144⟩,
 ⟨71,.struct ⟨[⟨"Account",3,0,false, "", "",0⟩,⟨"Balance",3,1,false, "", "",8⟩,⟨"Floor",3,2,false, "", "",16⟩,⟨"Held",3,3,false, "", "",24⟩,⟨"Until",3,4,false, "", "",32⟩]⟩,.agg ⟨[.int .i64 0,.int .i64 0,.int .i64 0,.int .i64 0,.int .i64 0]⟩,5,40⟩,
 ⟨73,.struct ⟨[⟨"Sub",3,0,false, "", "",0⟩,⟨"Kind",3,1,false, "", "",8⟩,⟨"From",3,2,false, "", "",16⟩,⟨"Units",3,3,false, "", "",24⟩,⟨"Spent",3,4,false, "", "",32⟩]⟩,.agg ⟨[.int .i64 0,.int .i64 0,.int .i64 0,.int .i64 0,.int .i64 0]⟩,5,40⟩,
 ⟨76,.struct ⟨[⟨"Name",9,0,false, "", "",0⟩,⟨"Amount",3,1,false, "", "",16⟩]⟩,.agg ⟨[Y8 [],.int .i64 0]⟩,2,24⟩,
 ⟨79,.slice 23,.slice none 0 0,1,24⟩,
 ⟨82,.slice 86,.slice none 0 0,1,24⟩,
 ⟨86,.struct ⟨[⟨"Kind",3,0,false, "", "",0⟩,⟨"Sub",3,1,false, "", "",8⟩,⟨"Name",9,2,false, "", "",16⟩,⟨"Category",9,3,false, "", "",32⟩,⟨"Count",3,4,false, "", "",48⟩,⟨"Units",3,5,false, "", "",56⟩,⟨"Amount",3,6,false, "", "",64⟩,⟨"Rounded",3,7,false, "", "",72⟩]⟩,.agg ⟨[.int .i64 0,.int .i64 0,Y8 [],Y8 [],.int .i64 0,.int .i64 0,.int .i64 0,.int .i64 0]⟩,8,80⟩,
 ⟨88,.func ⟨[29]⟩ ⟨[3]⟩ false,.nilFunc,1,8⟩,
 ⟨89,.pointer 29,.pointer none,1,8⟩,
 ⟨91,.func ⟨[89,89]⟩ ⟨[51]⟩ false,.nilFunc,1,8⟩,
 ⟨95,.func ⟨[51]⟩ ⟨[3]⟩ false,.nilFunc,1,8⟩,
 ⟨96,.pointer 51,.pointer none,1,8⟩,
 ⟨97,.func ⟨[96,96]⟩ ⟨[51]⟩ false,.nilFunc,1,8⟩,
 ⟨99,.pointer 114,.pointer none,1,8⟩,
 ⟨101,.struct ⟨[⟨"From",3,0,false, "", "",0⟩,⟨"To",3,1,false, "", "",8⟩]⟩,.agg ⟨[.int .i64 0,.int .i64 0]⟩,2,16⟩,
 ⟨102,.slice 9,.slice none 0 0,1,24⟩,
 ⟨104,.struct ⟨[⟨"Period",101,0,false, "", "",0⟩,⟨"Plan",9,2,false, "", "",16⟩,⟨"Products",102,3,false, "", "",32⟩,⟨"Suspended",4,4,false, "", "",56⟩,⟨"Family",4,5,false, "", "",57⟩]⟩,.agg ⟨[.int .i64 0,.int .i64 0,Y8 [],.slice none 0 0,.bool false,.bool false]⟩,6,64⟩,
 ⟨106,.struct ⟨[⟨"Id",3,0,false, "", "",0⟩,⟨"Since",3,1,false, "", "",8⟩,⟨"Anchor",3,2,false, "", "",16⟩,⟨"Prepaid",4,3,false, "", "",24⟩,⟨"Closed",4,4,false, "", "",25⟩,⟨"Subs",64,5,false, "", "",32⟩]⟩,.agg ⟨[.int .i64 0,.int .i64 0,.int .i64 0,.bool false,.bool false,.slice none 0 0]⟩,6,56⟩,
 ⟨107,.slice 118,.slice none 0 0,1,24⟩,
 ⟨108,.slice 121,.slice none 0 0,1,24⟩,
 ⟨109,.slice 126,.slice none 0 0,1,24⟩,
 ⟨110,.slice 231,.slice none 0 0,1,24⟩,
 ⟨112,.struct ⟨[⟨"Name",9,0,false, "", "",0⟩,⟨"From",3,1,false, "", "",16⟩,⟨"Split",4,2,false, "", "",24⟩,⟨"Zones",107,3,false, "", "",32⟩,⟨"Bands",108,4,false, "", "",56⟩,⟨"Rates",109,5,false, "", "",80⟩,⟨"Discounts",110,6,false, "", "",104⟩]⟩,.agg ⟨[Y8 [],.int .i64 0,.bool false,.slice none 0 0,.slice none 0 0,.slice none 0 0,.slice none 0 0]⟩,7,128⟩,
 ⟨114,.struct ⟨[⟨"book",67,0,false, "", "billing/rate",0⟩,⟨"state",57,6,false, "", "billing/rate",144⟩,⟨"u",23,9,false, "", "billing/rate",216⟩,⟨"spell",104,21,false, "", "billing/rate",328⟩,⟨"account",106,27,false, "", "billing/rate",392⟩,⟨"tariff",112,33,false, "", "billing/rate",448⟩,⟨"free",3,40,false, "", "billing/rate",576⟩,⟨"r",29,41,false, "", "billing/rate",584⟩]⟩,.agg ⟨[.slice none 0 0,.slice none 0 0,.slice none 0 0,.slice none 0 0,.slice none 0 0,.slice none 0 0,.slice none 0 0,.slice none 0 0,.slice none 0 0,.int .i64 0,.int .i64 0,.int .i64 0,.int .i64 0,Y8 [],Y8 [],.int .i64 0,.int .i64 0,.int .i64 0,.bool false,.int .i64 0,.int .i64 0,.int .i64 0,.int .i64 0,Y8 [],.slice none 0 0,.bool false,.bool false,.int .i64 0,.int .i64 0,.int .i64 0,.bool false,.bool false,.slice none 0 0,Y8 [],.int .i64 0,.bool false,.slice none 0 0,.slice none 0 0,.slice none 0 0,.slice none 0 0,.int .i64 0,.int .i64 0,.int .i64 0,.int .i64 0,.int .i64 0,Y8 [],Y8 [],.int .i64 0,.int .i64 0,.int .i64 0,.bool false,.int .i64 0,.int .i64 0,.int .i64 0,Y8 [],.int .i64 0,Y8 [],.slice none 0 0,.slice none 0 0,.int .i64 0,.int .i64 0,.int .i64 0,.slice none 0 0,.int .i64 0,.int .i64 0]⟩,65,856⟩,
 ⟨115,.func ⟨[]⟩ ⟨[24]⟩ false,.nilFunc,1,8⟩,
 ⟨118,.struct ⟨[⟨"Name",9,0,false, "", "",0⟩,⟨"Prefixes",102,1,false, "", "",16⟩]⟩,.agg ⟨[Y8 [],.slice none 0 0]⟩,2,40⟩,
 ⟨119,.slice 264,.slice none 0 0,1,24⟩,
 ⟨121,.struct ⟨[⟨"Name",9,0,false, "", "",0⟩,⟨"Slots",119,1,false, "", "",16⟩]⟩,.agg ⟨[Y8 [],.slice none 0 0]⟩,2,40⟩,
 ⟨123,.struct ⟨[⟨"Upto",3,0,false, "", "",0⟩,⟨"Quantum",3,1,false, "", "",8⟩,⟨"Price",3,2,false, "", "",16⟩]⟩,.agg ⟨[.int .i64 0,.int .i64 0,.int .i64 0]⟩,3,24⟩,
 ⟨124,.slice 123,.slice none 0 0,1,24⟩,
 ⟨126,.struct ⟨[⟨"Kind",3,0,false, "", "",0⟩,⟨"Zone",9,1,false, "", "",8⟩,⟨"Band",9,2,false, "", "",24⟩,⟨"Setup",3,3,false, "", "",40⟩,⟨"Steps",124,4,false, "", "",48⟩]⟩,.agg ⟨[.int .i64 0,Y8 [],Y8 [],.int .i64 0,.slice none 0 0]⟩,5,72⟩,
 ⟨128,.struct ⟨[⟨"Kind",3,0,false, "", "",0⟩,⟨"Zones",102,1,false, "", "",8⟩,⟨"Units",3,2,false, "", "",32⟩,⟨"Rollover",3,3,false, "", "",40⟩,⟨"Priority",3,4,false, "", "",48⟩,⟨"Shared",4,5,false, "", "",56⟩]⟩,.agg ⟨[.int .i64 0,.slice none 0 0,.int .i64 0,.int .i64 0,.int .i64 0,.bool false]⟩,6,64⟩,
 ⟨129,.slice 128,.slice none 0 0,1,24⟩,
 ⟨131,.struct ⟨[⟨"Name",9,0,false, "", "",0⟩,⟨"From",3,1,false, "", "",16⟩,⟨"Fee",3,2,false, "", "",24⟩,⟨"Category",9,3,false, "", "",32⟩,⟨"Prorate",4,4,false, "", "",48⟩,⟨"Bundles",129,5,false, "", "",56⟩]⟩,.agg ⟨[Y8 [],.int .i64 0,.int .i64 0,Y8 [],.bool false,.slice none 0 0]⟩,6,80⟩,
 ⟨133,.struct ⟨[⟨"At",3,0,false, "", "",0⟩,⟨"Kind",3,1,false, "", "",8⟩,⟨"Account",3,2,false, "", "",16⟩,⟨"Sub",3,3,false, "", "",24⟩,⟨"Number",9,4,false, "", "",32⟩,⟨"Name",9,5,false, "", "",48⟩,⟨"Value",3,6,false, "", "",64⟩]⟩,.agg ⟨[.int .i64 0,.int .i64 0,.int .i64 0,.int .i64 0,Y8 [],Y8 [],.int .i64 0]⟩,7,72⟩,
 ⟨137,.map 3 3,.map none,1,8⟩,
 ⟨138,.map 3 4,.map none,1,8⟩,
 ⟨142,.struct ⟨[⟨"Account",3,0,false, "", "",0⟩,⟨"Sub",3,1,false, "", "",8⟩,⟨"Product",9,2,false, "", "",16⟩,⟨"Index",3,3,false, "", "",32⟩,⟨"Kind",3,4,false, "", "",40⟩,⟨"Zones",102,5,false, "", "",48⟩,⟨"Valid",101,6,false, "", "",72⟩,⟨"Units",3,8,false, "", "",88⟩,⟨"Left",3,9,false, "", "",96⟩,⟨"Priority",3,10,false, "", "",104⟩,⟨"Shared",4,11,false, "", "",112⟩]⟩,.agg ⟨[.int .i64 0,.int .i64 0,Y8 [],.int .i64 0,.int .i64 0,.slice none 0 0,.int .i64 0,.int .i64 0,.int .i64 0,.int .i64 0,.int .i64 0,.bool false]⟩,12,120⟩,
 ⟨146,.struct ⟨[⟨"Id",3,0,false, "", "",0⟩,⟨"Account",3,1,false, "", "",8⟩,⟨"Since",3,2,false, "", "",16⟩,⟨"Plan",9,3,false, "", "",24⟩,⟨"Numbers",102,4,false, "", "",40⟩,⟨"Products",102,5,false, "", "",64⟩,⟨"Suspended",4,6,false, "", "",88⟩,⟨"Family",4,7,false, "", "",89⟩]⟩,.agg ⟨[.int .i64 0,.int .i64 0,.int .i64 0,Y8 [],.slice none 0 0,.slice none 0 0,.bool false,.bool false]⟩,8,96⟩,
 ⟨167,.struct ⟨[⟨"Kind",3,0,false, "", "",0⟩,⟨"Units",3,1,false, "", "",8⟩,⟨"Weekday",3,2,false, "", "",16⟩,⟨"Minute",3,3,false, "", "",24⟩,⟨"Total",3,4,false, "", "",32⟩,⟨"Spent",3,5,false, "", "",40⟩,⟨"Zone",9,6,false, "", "",48⟩,⟨"Band",9,7,false, "", "",64⟩,⟨"Family",4,8,false, "", "",80⟩]⟩,.agg ⟨[.int .i64 0,.int .i64 0,.int .i64 0,.int .i64 0,.int .i64 0,.int .i64 0,Y8 [],Y8 [],.bool false]⟩,9,88⟩,
 ⟨175,.slice 104,.slice none 0 0,1,24⟩,
 ⟨178,.slice 106,.slice none 0 0,1,24⟩,
 ⟨179,.slice 146,.slice none 0 0,1,24⟩,
 ⟨181,.struct ⟨[⟨"Accounts",178,0,false, "", "",0⟩,⟨"Subs",179,1,false, "", "",24⟩]⟩,.agg ⟨[.slice none 0 0,.slice none 0 0]⟩,2,48⟩,
 ⟨184,.map 9 9,.map none,1,8⟩,
 ⟨195,.pointer 198,.pointer none,1,8⟩,
 ⟨196,.map 201 4,.map none,1,8⟩,
 ⟨198,.struct ⟨[⟨"list",53,0,false, "", "billing/bundle",0⟩,⟨"has",196,1,false, "", "billing/bundle",24⟩]⟩,.agg ⟨[.slice none 0 0,.map none]⟩,2,32⟩,
 ⟨201,.struct ⟨[⟨"sub",3,0,false, "", "billing/bundle",0⟩,⟨"product",9,1,false, "", "billing/bundle",8⟩,⟨"index",3,2,false, "", "billing/bundle",24⟩,⟨"from",3,3,false, "", "billing/bundle",32⟩]⟩,.agg ⟨[.int .i64 0,Y8 [],.int .i64 0,.int .i64 0]⟩,4,40⟩,
 ⟨204,.slice 209,.slice none 0 0,1,24⟩,
 ⟨206,.slice 101,.slice none 0 0,1,24⟩,
 ⟨209,.struct ⟨[⟨"account",3,0,false, "", "billing/bundle",0⟩,⟨"sub",3,1,false, "", "billing/bundle",8⟩,⟨"product",9,2,false, "", "billing/bundle",16⟩,⟨"active",206,3,false, "", "billing/bundle",32⟩]⟩,.agg ⟨[.int .i64 0,.int .i64 0,Y8 [],.slice none 0 0]⟩,4,56⟩,
 ⟨210,.slice 213,.slice none 0 0,1,24⟩,
 ⟨213,.struct ⟨[⟨"bucket",142,0,false, "", "billing/bundle",0⟩,⟨"rollover",3,12,false, "", "billing/bundle",120⟩]⟩,.agg ⟨[.int .i64 0,.int .i64 0,Y8 [],.int .i64 0,.int .i64 0,.slice none 0 0,.int .i64 0,.int .i64 0,.int .i64 0,.int .i64 0,.int .i64 0,.bool false,.int .i64 0]⟩,13,128⟩,
 ⟨227,.slice 229,.slice none 0 0,1,24⟩,
 ⟨229,.struct ⟨[⟨"Op",3,0,false, "", "",0⟩,⟨"Num",3,1,false, "", "",8⟩,⟨"Text",9,2,false, "", "",16⟩,⟨"Args",227,3,false, "", "",32⟩]⟩,.agg ⟨[.int .i64 0,.int .i64 0,Y8 [],.slice none 0 0]⟩,4,56⟩,
 ⟨231,.struct ⟨[⟨"Name",9,0,false, "", "",0⟩,⟨"When",229,1,false, "", "",16⟩,⟨"Points",3,5,false, "", "",72⟩]⟩,.agg ⟨[Y8 [],.int .i64 0,.int .i64 0,Y8 [],.slice none 0 0,.int .i64 0]⟩,6,80⟩,
 ⟨235,.array 2 3,.agg ⟨[.int .i64 0,.int .i64 0]⟩,2,16⟩,
 ⟨244,.struct ⟨[⟨"start",3,0,false, "", "billing/history",0⟩,⟨"source",3,1,false, "", "billing/history",8⟩,⟨"serial",3,2,false, "", "billing/history",16⟩,⟨"id",3,3,false, "", "billing/history",24⟩]⟩,.agg ⟨[.int .i64 0,.int .i64 0,.int .i64 0,.int .i64 0]⟩,4,32⟩,
 ⟨246,.slice 249,.slice none 0 0,1,24⟩,
 ⟨249,.struct ⟨[⟨"at",3,0,false, "", "billing/subscribe",0⟩,⟨"s",146,1,false, "", "billing/subscribe",8⟩]⟩,.agg ⟨[.int .i64 0,.int .i64 0,.int .i64 0,.int .i64 0,Y8 [],.slice none 0 0,.slice none 0 0,.bool false,.bool false]⟩,9,104⟩,
 ⟨252,.func ⟨[249,249]⟩ ⟨[4]⟩ false,.nilFunc,1,8⟩,
 ⟨253,.func ⟨[249,249]⟩ ⟨[249]⟩ false,.nilFunc,1,8⟩,
 ⟨255,.pointer 314,.pointer none,1,8⟩,
 ⟨264,.struct ⟨[⟨"Days",3,0,false, "", "",0⟩,⟨"From",3,1,false, "", "",8⟩,⟨"To",3,2,false, "", "",16⟩]⟩,.agg ⟨[.int .i64 0,.int .i64 0,.int .i64 0]⟩,3,24⟩,
 ⟨268,.func ⟨[118]⟩ ⟨[4]⟩ false,.nilFunc,1,8⟩,
 ⟨274,.map 9 138,.map none,1,8⟩,
 ⟨289,.struct ⟨[⟨"sub",3,0,false, "", "billing/bucket",0⟩,⟨"product",9,1,false, "", "billing/bucket",8⟩,⟨"index",3,2,false, "", "billing/bucket",24⟩,⟨"from",3,3,false, "", "billing/bucket",32⟩]⟩,.agg ⟨[.int .i64 0,Y8 [],.int .i64 0,.int .i64 0]⟩,4,40⟩,
 ⟨292,.slice 295,.slice none 0 0,1,24⟩,
 ⟨295,.struct ⟨[⟨"Band",9,0,false, "", "",0⟩,⟨"Period",101,1,false, "", "",16⟩]⟩,.agg ⟨[Y8 [],.int .i64 0,.int .i64 0]⟩,3,32⟩,
 ⟨299,.array 3 235,.agg ⟨[.int .i64 0,.int .i64 0,.int .i64 0,.int .i64 0,.int .i64 0,.int .i64 0]⟩,6,48⟩,
 ⟨302,.func ⟨[121]⟩ ⟨[4]⟩ false,.nilFunc,1,8⟩,
 ⟨304,.func ⟨[264]⟩ ⟨[4]⟩ false,.nilFunc,1,8⟩,
 ⟨310,.map 3 106,.map none,1,8⟩,
 ⟨311,.map 3 146,.map none,1,8⟩,
 ⟨312,.map 9 3,.map none,1,8⟩,
 ⟨314,.struct ⟨[⟨"accounts",310,0,false, "", "billing/customer",0⟩,⟨"subs",311,1,false, "", "billing/customer",8⟩,⟨"ever",138,2,false, "", "billing/customer",16⟩,⟨"owners",312,3,false, "", "billing/customer",24⟩,⟨"live",137,4,false, "", "billing/customer",32⟩,⟨"opened",64,5,false, "", "billing/customer",40⟩,⟨"added",64,6,false, "", "billing/customer",64⟩]⟩,.agg ⟨[.map none,.map none,.map none,.map none,.map none,.slice none 0 0,.slice none 0 0]⟩,7,88⟩,
 ⟨317,.map 3 64,.map none,1,8⟩,
 ⟨320,.func ⟨[104]⟩ ⟨[4]⟩ false,.nilFunc,1,8⟩,
 ⟨322,.func ⟨[4,4]⟩ ⟨[4]⟩ false,.nilFunc,1,8⟩,
 ⟨324,.func ⟨[131]⟩ ⟨[4]⟩ false,.nilFunc,1,8⟩,
 ⟨329,.struct ⟨[⟨"Year",3,0,false, "", "",0⟩,⟨"Month",3,1,false, "", "",8⟩,⟨"Day",3,2,false, "", "",16⟩]⟩,.agg ⟨[.int .i64 0,.int .i64 0,.int .i64 0]⟩,3,24⟩,
 ⟨337,.array 4 3,.agg ⟨[.int .i64 0,.int .i64 0,.int .i64 0,.int .i64 0]⟩,4,32⟩,
 ⟨340,.func ⟨[101,101]⟩ ⟨[4]⟩ false,.nilFunc,1,8⟩,
 ⟨341,.func ⟨[101,101]⟩ ⟨[101]⟩ false,.nilFunc,1,8⟩,
 ⟨342,.slice 344,.slice none 0 0,1,24⟩,
 ⟨344,.struct ⟨[⟨"at",3,0,false, "", "billing/interval",0⟩,⟨"list",3,1,false, "", "billing/interval",8⟩,⟨"by",3,2,false, "", "billing/interval",16⟩]⟩,.agg ⟨[.int .i64 0,.int .i64 0,.int .i64 0]⟩,3,24⟩,
 ⟨347,.func ⟨[344,344]⟩ ⟨[3]⟩ false,.nilFunc,1,8⟩,
 ⟨357,.int .u64,.int .u64 0,1,8⟩,
 ⟨360,.array 12 3,.agg ⟨[.int .i64 0,.int .i64 0,.int .i64 0,.int .i64 0,.int .i64 0,.int .i64 0,.int .i64 0,.int .i64 0,.int .i64 0,.int .i64 0,.int .i64 0,.int .i64 0]⟩,12,96⟩,
 ⟨365,.int .i64,.int .i64 0,1,8⟩,
 ⟨372,.int .u32,.int .u32 0,1,4⟩,
 ⟨374,.int .u64,.int .u64 0,1,8⟩,
 ⟨407,.struct ⟨[⟨"Category",9,0,false, "", "",0⟩,⟨"From",3,1,false, "", "",16⟩,⟨"Points",3,2,false, "", "",24⟩]⟩,.agg ⟨[Y8 [],.int .i64 0,.int .i64 0]⟩,3,32⟩,
 ⟨409,.struct ⟨[⟨"Partner",3,0,false, "", "",0⟩,⟨"Kind",3,1,false, "", "",8⟩,⟨"Inbound",4,2,false, "", "",16⟩,⟨"Valid",101,3,false, "", "",24⟩,⟨"Steps",124,5,false, "", "",40⟩,⟨"Cap",3,6,false, "", "",64⟩]⟩,.agg ⟨[.int .i64 0,.int .i64 0,.bool false,.int .i64 0,.int .i64 0,.slice none 0 0,.int .i64 0]⟩,7,72⟩]
def tx:TX:=⟨tab,[(1,.ref),(2,(.int .i64)),(3,(.int .i64)),(4,.bool),(5,(.int .u8)),(9,.str),(23,Qk),(24,(.int .i64)),(25,(.sl J2)),(26,(.sl Q9)),(27,(.sl Jw)),(29,Yn),(33,J2),(35,Q9),(38,(.sl Yn)),(44,(.sl Ql)),(51,Ql),(53,(.sl Qy)),(54,(.sl Jo)),(55,(.sl Je)),(57,Q3),(60,(.sl Yg)),(61,(.sl Jp)),(62,(.sl Vr)),(63,(.sl Qah)),(64,(.sl (.int .i64))),(65,(.sl Es)),(67,Js),(71,Jo),(73,Je),(76,Jw),(79,(.sl Qk)),(82,(.sl Xk)),(86,Xk),(88,.ref),(89,.ref),(91,.ref),(95,.ref),(96,.ref),(97,.ref),(99,.ref),(101,Qp),(102,(.sl .str)),(104,Jn),(106,Qx),(107,(.sl Yk)),(108,(.sl Yo)),(109,(.sl Vn)),(110,(.sl Y2)),(112,Jp),(114,Gf),(115,.ref),(118,Yk),(119,(.sl Ge)),(121,Yo),(123,Kx),(124,(.sl Kx)),(126,Vn),(128,Xb),(129,(.sl Xb)),(131,Vr),(133,Yg),(137,.ref),(138,.ref),(142,Qy),(146,Vt),(167,Qai),(175,(.sl Jn)),(178,(.sl Qx)),(179,(.sl Vt)),(181,Qaj),(184,.ref),(195,.ref),(196,.ref),(198,Qbc),(201,J4),(204,(.sl V5)),(206,(.sl Qp)),(209,V5),(210,(.sl Ul)),(213,Ul),(227,(.sl Ol)),(229,Ol),(231,Y2),(235,(.arr 2 (.int .i64))),(244,Hs),(246,(.sl Y3)),(249,Y3),(252,.ref),(253,.ref),(255,.ref),(264,Ge),(268,.ref),(274,.ref),(289,Ao),(292,(.sl Qak)),(295,Qak),(299,(.arr 3 (.arr 2 (.int .i64)))),(302,.ref),(304,.ref),(310,.ref),(311,.ref),(312,.ref),(314,P8),(317,.ref),(320,.ref),(322,.ref),(324,.ref),(329,Om),(337,(.arr 4 (.int .i64))),(340,.ref),(341,.ref),(342,(.sl J5)),(344,J5),(347,.ref),(357,(.int .u64)),(360,(.arr 12 (.int .i64))),(365,(.int .i64)),(372,(.int .u32)),(374,(.int .u64)),(407,Qah),(409,Es)],[]⟩
theorem Qr:Tryz.prog.follows .mixedOrders=true:=by kernel_rfl
theorem Qt:Jb Tryz.prog tab:=⟨⟨⟨by kernel_rfl,by kernel_rfl⟩,by kernel_rfl⟩,⟨⟨by kernel_rfl,by kernel_rfl⟩,by kernel_rfl⟩,⟨⟨by kernel_rfl,by kernel_rfl⟩,by kernel_rfl⟩,⟨⟨by kernel_rfl,by kernel_rfl⟩,by kernel_rfl⟩,⟨⟨by kernel_rfl,by kernel_rfl⟩,by kernel_rfl⟩,⟨⟨by kernel_rfl,by kernel_rfl⟩,by kernel_rfl⟩,⟨⟨by kernel_rfl,by kernel_rfl⟩,by kernel_rfl⟩,⟨⟨by kernel_rfl,by kernel_rfl⟩,by kernel_rfl⟩,⟨⟨by kernel_rfl,by kernel_rfl⟩,by kernel_rfl⟩,⟨⟨by kernel_rfl,by kernel_rfl⟩,by kernel_rfl⟩,⟨⟨by kernel_rfl,by kernel_rfl⟩,by kernel_rfl⟩,⟨⟨by kernel_rfl,by kernel_rfl⟩,by kernel_rfl⟩,⟨⟨by kernel_rfl,by kernel_rfl⟩,by kernel_rfl⟩,⟨⟨by kernel_rfl,by kernel_rfl⟩,by kernel_rfl⟩,⟨⟨by kernel_rfl,by kernel_rfl⟩,by kernel_rfl⟩,⟨⟨by kernel_rfl,by kernel_rfl⟩,by kernel_rfl⟩,⟨⟨by kernel_rfl,by kernel_rfl⟩,by kernel_rfl⟩,⟨⟨by kernel_rfl,by kernel_rfl⟩,by kernel_rfl⟩,⟨⟨by kernel_rfl,by kernel_rfl⟩,by kernel_rfl⟩,⟨⟨by kernel_rfl,by kernel_rfl⟩,by kernel_rfl⟩,⟨⟨by kernel_rfl,by kernel_rfl⟩,by kernel_rfl⟩,⟨⟨by kernel_rfl,by kernel_rfl⟩,by kernel_rfl⟩,⟨⟨by kernel_rfl,by kernel_rfl⟩,by kernel_rfl⟩,⟨⟨by kernel_rfl,by kernel_rfl⟩,by kernel_rfl⟩,⟨⟨by kernel_rfl,by kernel_rfl⟩,by kernel_rfl⟩,⟨⟨by kernel_rfl,by kernel_rfl⟩,by kernel_rfl⟩,⟨⟨by kernel_rfl,by kernel_rfl⟩,by kernel_rfl⟩,⟨⟨by kernel_rfl,by kernel_rfl⟩,by kernel_rfl⟩,⟨⟨by kernel_rfl,by kernel_rfl⟩,by kernel_rfl⟩,⟨⟨by kernel_rfl,by kernel_rfl⟩,by kernel_rfl⟩,⟨⟨by kernel_rfl,by kernel_rfl⟩,by kernel_rfl⟩,⟨⟨by kernel_rfl,by kernel_rfl⟩,by kernel_rfl⟩,⟨⟨by kernel_rfl,by kernel_rfl⟩,by kernel_rfl⟩,⟨⟨by kernel_rfl,by kernel_rfl⟩,by kernel_rfl⟩,⟨⟨by kernel_rfl,by kernel_rfl⟩,by kernel_rfl⟩,⟨⟨by kernel_rfl,by kernel_rfl⟩,by kernel_rfl⟩,⟨⟨by kernel_rfl,by kernel_rfl⟩,by kernel_rfl⟩,⟨⟨by kernel_rfl,by kernel_rfl⟩,by kernel_rfl⟩,⟨⟨by kernel_rfl,by kernel_rfl⟩,by kernel_rfl⟩,⟨⟨by kernel_rfl,by kernel_rfl⟩,by kernel_rfl⟩,⟨⟨by kernel_rfl,by kernel_rfl⟩,by kernel_rfl⟩,⟨⟨by kernel_rfl,by kernel_rfl⟩,by kernel_rfl⟩,⟨⟨by kernel_rfl,by kernel_rfl⟩,by kernel_rfl⟩,⟨⟨by kernel_rfl,by kernel_rfl⟩,by kernel_rfl⟩,⟨⟨by kernel_rfl,by kernel_rfl⟩,by kernel_rfl⟩,⟨⟨by kernel_rfl,by kernel_rfl⟩,by kernel_rfl⟩,⟨⟨by kernel_rfl,by kernel_rfl⟩,by kernel_rfl⟩,⟨⟨by kernel_rfl,by kernel_rfl⟩,by kernel_rfl⟩,⟨⟨by kernel_rfl,by kernel_rfl⟩,by kernel_rfl⟩,⟨⟨by kernel_rfl,by kernel_rfl⟩,by kernel_rfl⟩,⟨⟨by kernel_rfl,by kernel_rfl⟩,by kernel_rfl⟩,⟨⟨by kernel_rfl,by kernel_rfl⟩,by kernel_rfl⟩,⟨⟨by kernel_rfl,by kernel_rfl⟩,by kernel_rfl⟩,⟨⟨by kernel_rfl,by kernel_rfl⟩,by kernel_rfl⟩,⟨⟨by kernel_rfl,by kernel_rfl⟩,by kernel_rfl⟩,⟨⟨by kernel_rfl,by kernel_rfl⟩,by kernel_rfl⟩,⟨⟨by kernel_rfl,by kernel_rfl⟩,by kernel_rfl⟩,⟨⟨by kernel_rfl,by kernel_rfl⟩,by kernel_rfl⟩,⟨⟨by kernel_rfl,by kernel_rfl⟩,by kernel_rfl⟩,⟨⟨by kernel_rfl,by kernel_rfl⟩,by kernel_rfl⟩,⟨⟨by kernel_rfl,by kernel_rfl⟩,by kernel_rfl⟩,⟨⟨by kernel_rfl,by kernel_rfl⟩,by kernel_rfl⟩,⟨⟨by kernel_rfl,by kernel_rfl⟩,by kernel_rfl⟩,⟨⟨by kernel_rfl,by kernel_rfl⟩,by kernel_rfl⟩,⟨⟨by kernel_rfl,by kernel_rfl⟩,by kernel_rfl⟩,⟨⟨by kernel_rfl,by kernel_rfl⟩,by kernel_rfl⟩,⟨⟨by kernel_rfl,by kernel_rfl⟩,by kernel_rfl⟩,⟨⟨by kernel_rfl,by kernel_rfl⟩,by kernel_rfl⟩,⟨⟨by kernel_rfl,by kernel_rfl⟩,by kernel_rfl⟩,⟨⟨by kernel_rfl,by kernel_rfl⟩,by kernel_rfl⟩,⟨⟨by kernel_rfl,by kernel_rfl⟩,by kernel_rfl⟩,⟨⟨by kernel_rfl,by kernel_rfl⟩,by kernel_rfl⟩,⟨⟨by kernel_rfl,by kernel_rfl⟩,by kernel_rfl⟩,⟨⟨by kernel_rfl,by kernel_rfl⟩,by kernel_rfl⟩,⟨⟨by kernel_rfl,by kernel_rfl⟩,by kernel_rfl⟩,⟨⟨by kernel_rfl,by kernel_rfl⟩,by kernel_rfl⟩,⟨⟨by kernel_rfl,by kernel_rfl⟩,by kernel_rfl⟩,⟨⟨by kernel_rfl,by kernel_rfl⟩,by kernel_rfl⟩,⟨⟨by kernel_rfl,by kernel_rfl⟩,by kernel_rfl⟩,⟨⟨by kernel_rfl,by kernel_rfl⟩,by kernel_rfl⟩,⟨⟨by kernel_rfl,by kernel_rfl⟩,by kernel_rfl⟩,⟨⟨by kernel_rfl,by kernel_rfl⟩,by kernel_rfl⟩,⟨⟨by kernel_rfl,by kernel_rfl⟩,by kernel_rfl⟩,⟨⟨by kernel_rfl,by kernel_rfl⟩,by kernel_rfl⟩,⟨⟨by kernel_rfl,by kernel_rfl⟩,by kernel_rfl⟩,⟨⟨by kernel_rfl,by kernel_rfl⟩,by kernel_rfl⟩,⟨⟨by kernel_rfl,by kernel_rfl⟩,by kernel_rfl⟩,⟨⟨by kernel_rfl,by kernel_rfl⟩,by kernel_rfl⟩,⟨⟨by kernel_rfl,by kernel_rfl⟩,by kernel_rfl⟩,⟨⟨by kernel_rfl,by kernel_rfl⟩,by kernel_rfl⟩,⟨⟨by kernel_rfl,by kernel_rfl⟩,by kernel_rfl⟩,⟨⟨by kernel_rfl,by kernel_rfl⟩,by kernel_rfl⟩,⟨⟨by kernel_rfl,by kernel_rfl⟩,by kernel_rfl⟩,⟨⟨by kernel_rfl,by kernel_rfl⟩,by kernel_rfl⟩,⟨⟨by kernel_rfl,by kernel_rfl⟩,by kernel_rfl⟩,⟨⟨by kernel_rfl,by kernel_rfl⟩,by kernel_rfl⟩,⟨⟨by kernel_rfl,by kernel_rfl⟩,by kernel_rfl⟩,⟨⟨by kernel_rfl,by kernel_rfl⟩,by kernel_rfl⟩,⟨⟨by kernel_rfl,by kernel_rfl⟩,by kernel_rfl⟩,⟨⟨by kernel_rfl,by kernel_rfl⟩,by kernel_rfl⟩,⟨⟨by kernel_rfl,by kernel_rfl⟩,by kernel_rfl⟩,⟨⟨by kernel_rfl,by kernel_rfl⟩,by kernel_rfl⟩,⟨⟨by kernel_rfl,by kernel_rfl⟩,by kernel_rfl⟩,⟨⟨by kernel_rfl,by kernel_rfl⟩,by kernel_rfl⟩,⟨⟨by kernel_rfl,by kernel_rfl⟩,by kernel_rfl⟩,⟨⟨by kernel_rfl,by kernel_rfl⟩,by kernel_rfl⟩,⟨⟨by kernel_rfl,by kernel_rfl⟩,by kernel_rfl⟩,⟨⟨by kernel_rfl,by kernel_rfl⟩,by kernel_rfl⟩,⟨⟨by kernel_rfl,by kernel_rfl⟩,by kernel_rfl⟩,⟨⟨by kernel_rfl,by kernel_rfl⟩,by kernel_rfl⟩,⟨⟨by kernel_rfl,by kernel_rfl⟩,by kernel_rfl⟩,⟨⟨by kernel_rfl,by kernel_rfl⟩,by kernel_rfl⟩,⟨⟨by kernel_rfl,by kernel_rfl⟩,by kernel_rfl⟩,⟨⟨by kernel_rfl,by kernel_rfl⟩,by kernel_rfl⟩,⟨⟨by kernel_rfl,by kernel_rfl⟩,by kernel_rfl⟩,⟨⟨by kernel_rfl,by kernel_rfl⟩,by kernel_rfl⟩,⟨⟨by kernel_rfl,by kernel_rfl⟩,by kernel_rfl⟩,⟨⟨by kernel_rfl,by kernel_rfl⟩,by kernel_rfl⟩,⟨⟨by kernel_rfl,by kernel_rfl⟩,by kernel_rfl⟩,⟨⟨by kernel_rfl,by kernel_rfl⟩,by kernel_rfl⟩,⟨⟨by kernel_rfl,by kernel_rfl⟩,by kernel_rfl⟩,⟨⟨by kernel_rfl,by kernel_rfl⟩,by kernel_rfl⟩,trivial⟩
def Jdp:An:=.t 1 (.t 12 (.t 5 (.t 11 (.nil))))
def Jdq:Shp:=⟨[],[]⟩
def Q0c:Shp:=⟨[(0,.d Js)],[]⟩
def Q0d:An:=.t 1 (.t 1 (.two (.un (.lp [0,1,5] [] ⟨[],[]⟩ [(.x 0,⟨[],[]⟩)] (.two (.two (.reg (.n 5 (.sp 11 7 [] [] ⟨[(18,.d .bool)],[]⟩ (.tl .done) (.nl 6 (.n 1 .done)) (.done)))) (.two (.gh (.tl .done) .nil) (.nil))) (.nil)))) (.t 5 (.t 5 (.t 6 (.nil))))))
def Q0e:Shp:=⟨[(0,.d (.sl .str)),(1,.d .str)],[]⟩
def Qub:Shp:=⟨[(0,.s 1)],[(1,.row 9 .str)]⟩
def Q0f:An:=.t 3 (.two (.t 2 (.un (.t 2 (.two (.t 10 (.nil)) (.t 2 (.two (.gh (.tl .done) .nil) (.t 2 (.two (.gh (.tl .done) .nil) (.t 2 (.two (.reg (.n 4 (.call 0 (.n 2 .done)))) (.gh (.tl .done) .nil))))))))))) (.t 2 (.nil)))
def Q0g:Shp:=⟨[(0,.d Vt),(1,.d Yg)],[]⟩
def Quc:Shp:=⟨[(0,.ag (.cons (.d .i) (.cons (.d .i) (.cons (.d .i) (.cons (.d .str) (.cons (.d (.sl .str)) (.cons (.s 1) (.cons (.d .bool) (.cons (.d .bool) (.nil))))))))))],[(1,.row 9 .str)]⟩
def Q0h:An:=.t 1 (.t 1 (.t 1 (.two (.t 3 (.un (.lp [1,10,11] [] ⟨[(5,.s 100000),(6,.p 100001 []),(12,.d .i)],[(100000,.row 249 Y3),(100001,.var 146 (.ag (.cons (.d .i) (.cons (.d .i) (.cons (.d .i) (.cons (.d .str) (.cons (.d (.sl .str)) (.cons (.s 100002) (.cons (.d .bool) (.cons (.d .bool) (.nil))))))))))),(100002,.tail 9 .str)]⟩ [(.x 0,⟨[(5,.s 100300)],[(100300,.row 249 Y3)]⟩)] (.t 1 (.two (.two (.nil) (.nil)) (.two (.jn [12] [] [(.n,⟨[(5,.s 100200),(6,.p 100201 [])],[(100200,.row 249 Y3),(100201,.var 146 (.ag (.cons (.d .i) (.cons (.d .i) (.cons (.d .i) (.cons (.d .str) (.cons (.d (.sl .str)) (.cons (.s 100202) (.cons (.d .bool) (.cons (.d .bool) (.nil))))))))))),(100202,.tail 9 .str)]⟩)] (.un (.t 4 (.two (.t 8 (.two (.nil) (.nil))) (.two (.reg (.n 2 (.call 0 (.n 1 .done)))) (.t 3 (.two (.dr 13 (.n 3 (.sp 31 10 [5,6,8,9,12] [8,12601,100000,100001,100002] ⟨[(41,.d .bool)],[]⟩ (.nl 9 (.n 1 .done)) (.nl 9 (.n 1 .done)) (.done))) (.done)) (.two (.reg (.n 6 (.fz 12601 (.n 1 .done)))) (.reg (.n 5 (.fz 12601 (.n 3 .done)))))))))))) (.reg (.n 2 .done)))))))) (.t 2 (.nil)))))
def Q0i:Shp:=⟨[(0,.d (.sl Yg)),(1,.d .i)],[]⟩
def Qud:Shp:=⟨[(0,.s 1)],[(1,.row 249 Y3)]⟩
def Q0j:An:=.t 1 (.t 1 (.two (.t 3 (.un (.lp [1,11,12] [] ⟨[(7,.s 100000),(13,.d .i)],[(100000,.row 249 Y3)]⟩ [(.x 0,⟨[(7,.s 100100)],[(100100,.row 249 Y3)]⟩)] (.t 1 (.two (.two (.nil) (.nil)) (.two (.un (.t 4 (.t 3 (.two (.dm 10 [19,20,21,22,23,24,25,26,27,28] [] (.n 3 (.so 21 (.tl .done) (.n 7 (.tl (.nl 1 (.n 1 .done))))))) (.two (.nil) (.reg (.n 5 .done))))))) (.reg (.n 2 .done)))))))) (.t 2 (.nil))))
def Q0k:Shp:=⟨[(0,.d (.sl Y3)),(1,.f 126 (.nil)),(2,.f 128 (.nil))],[]⟩
def Que:Shp:=⟨[(0,.s 1)],[(1,.row 249 Y3)]⟩
def Jdr:An:=.t 1 (.two (.reg (.n 2 (.call 0 (.call 1 (.n 1 .done))))) (.t 1 (.two (.t 3 (.un (.lp [5,14,15] [11201,11301] ⟨[(6,.s 100000),(16,.d .i)],[(100000,.row 104 Jn)]⟩ [(.x 0,⟨[(6,.s 100100)],[(100100,.row 104 Jn)]⟩)] (.t 1 (.two (.two (.nil) (.nil)) (.two (.un (.t 6 (.two (.t 4 (.two (.gh (.tl .done) .nil) (.nil))) (.t 5 (.two (.t 5 (.two (.gh (.tl .done) .nil) (.nil))) (.dc 17 [40,41,42,43,44,45,46,47,48,49,50,51,52,53,54,55,56] [9,8] [] (.op ⟨.nl 1 .done,[],[],[],[100000]⟩ (.op ⟨.nl 1 .done,[],[9],[],[]⟩ (.op ⟨.nl 1 .done,[],[],[],[8]⟩ (.op ⟨.nl 1 .done,[],[],[],[8]⟩ (.op ⟨.nl 1 .done,[],[8],[],[]⟩ (.op ⟨.nl 1 .done,[],[],[],[8]⟩ (.op ⟨.nl 1 .done,[],[],[],[8]⟩ (.op ⟨.nl 1 .done,[],[8],[],[]⟩ (.op ⟨.nl 1 .done,[],[],[48],[48]⟩ (.op ⟨.nl 1 .done,[],[],[],[8]⟩ (.op ⟨.nl 1 .done,[],[],[],[8]⟩ (.op ⟨.nl 1 .done,[],[8],[],[]⟩ (.op ⟨.nl 1 .done,[],[],[],[8]⟩ (.op ⟨.nl 1 .done,[],[],[],[8]⟩ (.op ⟨.nl 1 .done,[],[8],[],[]⟩ (.op ⟨.nl 1 .done,[],[],[],[48]⟩ (.op ⟨.fz 48 (.nl 1 .done),[48],[],[],[48]⟩ (.tl (.n 2 .done))))))))))))))))))))))))) (.reg (.n 2 .done)))))))) (.t 2 (.nil)))))
def Jds:Shp:=⟨[(0,.d (.sl Yg)),(1,.d .i)],[]⟩
def Q0l:Shp:=⟨[(0,.s 1)],[(1,.row 104 Jn)]⟩
def Q0m:An:=.t 2 (.t 16 (.nil))
def Q0n:Shp:=⟨[(0,.d Qp)],[]⟩
def Quf:Shp:=⟨[(0,.d .bool)],[]⟩
def Jdt:An:=.t 2 (.two (.reg (.n 1 (.call 0 (.n 13 .done)))) (.nil))
def Jdu:Shp:=⟨[(0,.d Qp),(1,.d .i)],[]⟩
def Q0o:Shp:=⟨[(0,.d .bool)],[]⟩
def Jdv:An:=.t 2 (.two (.two (.reg (.n 2 (.call 0 (.n 2 .done)))) (.un (.lp [2,12,13,14] [11201] ⟨[(6,.p 100000 [])],[(100000,.var 104 (.ag (.cons (.d Qp) (.cons (.d .str) (.cons (.ns) (.cons (.d .bool) (.cons (.d .bool) (.nil))))))))]⟩ [(.x 0,⟨[(6,.p 100100 [])],[(100100,.var 104 (.ag (.cons (.d Qp) (.cons (.d .str) (.cons (.ns) (.cons (.d .bool) (.cons (.d .bool) (.nil))))))))]⟩),(.r,⟨[(6,.p 100200 []),(7,.d .bool)],[(100200,.var 104 (.d Jn))]⟩)] (.t 1 (.two (.two (.nil) (.nil)) (.two (.un (.t 4 (.two (.reg (.n 3 (.call 1 (.done)))) (.two (.t 3 (.nil)) (.gh (.tl .done) .nil))))) (.nil))))))) (.t 3 (.nil)))
def Jdw:Shp:=⟨[(0,.d (.sl Yg)),(1,.d .i),(2,.d .i)],[]⟩
def Q0p:Shp:=⟨[(0,.d Jn),(1,.d .bool)],[]⟩
def Q0q:An:=.t 1 (.t 8 (.nil))
def Q0r:Shp:=⟨[],[]⟩
def Qug:Shp:=⟨[(0,.p 1 [])],[(1,.var 314 (.ag (.cons (.m 2) (.cons (.m 3) (.cons (.m 4) (.cons (.m 5) (.cons (.m 6) (.cons (.ns) (.cons (.ns) (.nil)))))))))),(2,.map .i Qx),(3,.map .i Vt),(4,.map .i .bool),(5,.map .str .i),(6,.map .i .i)]⟩
def Q0s:An:=.t 3 (.t 2 (.nil))
def Q0t:Shp:=⟨[(0,.d (.sl Yg)),(1,.d .i)],[]⟩
def Quh:Shp:=⟨[(0,.f 180 (.cons (.p 1 []) (.cons (.p 2 []) (.nil))))],[(1,.var 60 (.d (.sl Yg))),(2,.var 3 (.d .i))]⟩
def Q0u:AnY:=.two (.reg (.n 3 .done)) (.un (.lp [2,6,7] [] ⟨[(8,.d .i)],[]⟩ [(.x 0,⟨[],[]⟩)] (.two (.reg (.n 1 .done)) (.two (.two (.nil) (.nil)) (.two (.un (.two (.reg (.n 4 .done)) (.two (.yr (.h 5 (.n 5 .done) (.so 16 (.mv (.h 1 (.nl 1 .done) (.yl (.h 2 (.nl 1 (.n 1 .done)) (.done))))) (.h 5 (.nl 4 (.n 1 .done)) (.done))))) (.two (.yr .done) (.nil))))) (.reg (.n 2 .done)))))))
def Q0v:An:=.t 1 (.t 1 (.two (.un (.lp [0,1,5] [] ⟨[],[]⟩ [(.x 0,⟨[],[]⟩)] (.two (.two (.reg (.n 5 (.sp 11 7 [] [] ⟨[(18,.d .bool)],[]⟩ (.tl .done) (.nl 6 (.n 1 .done)) (.done)))) (.two (.gh (.tl .done) .nil) (.nil))) (.nil)))) (.t 5 (.t 5 (.t 6 (.nil))))))
def Q0w:Shp:=⟨[(0,.d (.sl .i)),(1,.d .i)],[]⟩
def Qui:Shp:=⟨[(0,.d (.sl .i))],[]⟩
def Q0x:An:=.t 1 (.t 1 (.two (.un (.lp [0,1,5] [] ⟨[],[]⟩ [(.x 0,⟨[],[]⟩)] (.two (.two (.reg (.n 5 (.sp 11 7 [] [] ⟨[(18,.d .bool)],[]⟩ (.tl .done) (.nl 6 (.n 1 .done)) (.done)))) (.two (.gh (.tl .done) .nil) (.nil))) (.nil)))) (.t 5 (.t 5 (.t 6 (.nil))))))
def Q0y:Shp:=⟨[(0,.d (.sl .str)),(1,.d .str)],[]⟩
def Quj:Shp:=⟨[(0,.s 1)],[(1,.row 9 .str)]⟩
def Qkf:An:=.t 3 (.two (.t 2 (.un (.t 2 (.two (.gh (.tl .done) .nil) (.t 2 (.two (.gh (.tl .done) .nil) (.t 2 (.two (.gh (.tl .done) .nil) (.t 2 (.two (.reg (.n 4 (.call 0 (.n 2 .done)))) (.gh (.tl .done) .nil))))))))))) (.t 2 (.nil)))
def Qkg:Shp:=⟨[(0,.p 5000 []),(1,.d Vt),(2,.d Yg)],[(5000,.var 314 (.ag (.cons (.m 5001) (.cons (.m 5002) (.cons (.m 5003) (.cons (.m 5004) (.cons (.m 5005) (.cons (.d (.sl .i)) (.cons (.d (.sl .i)) (.nil)))))))))),(5001,.map .i Qx),(5002,.map .i Vt),(5003,.map .i .bool),(5004,.map .str .i),(5005,.map .i .i)]⟩
def Qgw:Shp:=⟨[(0,.ag (.cons (.d .i) (.cons (.d .i) (.cons (.d .i) (.cons (.d .str) (.cons (.d (.sl .str)) (.cons (.s 1) (.cons (.d .bool) (.cons (.d .bool) (.nil))))))))))],[(1,.row 9 .str)]⟩
def Qkh:An:=.t 1 (.t 2 (.un (.t 2 (.two (.two (.two (.dm 12 [38,39,40,41,42,43,44,37,45,46,4,1000000011] [] (.n 12 (.tl (.n 1 .done)))) (.t 2 (.two (.dm 8 [49,50,51,52,53,54,55,56] [] (.n 7 (.call 0 (.tl (.n 3 .done))))) (.gh (.tl .done) .nil)))) (.dr 16 (.n 16 .done) (.n 1 .done))) (.t 2 (.two (.gh (.tl .done) .nil) (.t 2 (.two (.two (.two (.dr 8 (.n 8 .done) (.done)) (.two (.dm 8 [102,103,104,105,106,107,108,109] [] (.n 7 (.call 0 (.tl (.n 3 .done))))) (.gh (.tl .done) .nil))) (.two (.dr 6 (.n 6 .done) (.n 1 .done)) (.two (.dr 8 (.n 8 .done) (.n 1 .done)) (.dr 15 (.n 15 .done) (.n 1 .done))))) (.t 2 (.two (.gh (.tl .done) .nil) (.two (.jn [0,3] [3,5000,5001,5002,5003,5004,5005] [(.n,⟨[(177,.d .bool)],[]⟩)] (.t 2 (.two (.nil) (.reg (.n 2 .done))))) (.two (.nil) (.two (.dm 12 [15,16,17,18,19,20,21,14,22,23,10,1000000011] [] (.n 12 (.tl (.n 1 .done)))) (.t 1 (.two (.dc 10 [25,26,27,28,29,30,31,32,33,34] [5000,3,10,5001,5002,5003,5004,5005] [] (.op ⟨.nl 1 .done,[],[],[],[5000]⟩ (.op ⟨.nl 1 .done,[],[5000],[],[5000]⟩ (.op ⟨.nl 1 .done,[],[],[],[5000]⟩ (.op ⟨.nl 1 .done,[],[5000],[],[5002]⟩ (.op ⟨.nl 1 .done,[],[],[],[3]⟩ (.op ⟨.nl 1 .done,[],[3],[],[]⟩ (.op ⟨.nl 1 .done,[],[],[],[5000]⟩ (.op ⟨.nl 1 .done,[],[10],[],[]⟩ (.op ⟨.nl 1 .done,[],[3],[],[]⟩ (.op ⟨.call 1 (.done),[],[5000,5001,5002,5003,5004,5005],[13401],[13401]⟩ (.tl (.fz 13401 (.n 1 .done)))))))))))))) (.gh (.tl .done) .nil))))))))))))))))
def Qki:Shp:=⟨[(0,.p 5000 []),(1,.d Yg)],[(5000,.var 314 (.ag (.cons (.m 5001) (.cons (.m 5002) (.cons (.m 5003) (.cons (.m 5004) (.cons (.m 5005) (.cons (.d (.sl .i)) (.cons (.d (.sl .i)) (.nil)))))))))),(5001,.map .i Qx),(5002,.map .i Vt),(5003,.map .i .bool),(5004,.map .str .i),(5005,.map .i .i)]⟩
def Qgx:Shp:=⟨[],[(5000,.var 314 (.ag (.cons (.m 5001) (.cons (.m 5002) (.cons (.m 5003) (.cons (.m 5004) (.cons (.m 5005) (.cons (.d (.sl .i)) (.cons (.d (.sl .i)) (.nil)))))))))),(5001,.map .i Qx),(5002,.map .i Vt),(5003,.map .i .bool),(5004,.map .str .i),(5005,.map .i .i)]⟩
def Q0z:An:=.t 1 (.t 1 (.two (.reg (.n 1 (.mt 12 [] 3 (.n 1 .done)))) (.two (.t 6 (.un (.lp [0,16,17] [] ⟨[(2,.p 100000 []),(3,.p 100001 []),(4,.m 100002),(18,.d .i)],[(100000,.var 181 (.ag (.cons (.ns) (.cons (.ns) (.nil))))),(100001,.var 181 (.ag (.cons (.ns) (.cons (.s 100003) (.nil))))),(100002,.mapT .i (.sl .i) [] 3 .i),(100003,.row 146 Vt)]⟩ [(.x 0,⟨[(2,.p 100100 []),(3,.p 100101 []),(4,.m 100102)],[(100100,.var 181 (.ag (.cons (.ns) (.cons (.ns) (.nil))))),(100101,.var 181 (.ag (.cons (.ns) (.cons (.s 100103) (.nil))))),(100102,.mapT .i (.sl .i) [] 3 .i),(100103,.row 146 Vt)]⟩)] (.t 1 (.two (.two (.nil) (.nil)) (.two (.un (.t 3 (.t 12 (.two (.t 2 (.two (.gh (.tl .done) .nil) (.nil))) (.two (.gh (.op (.v 7 [.f 1 1]) 100002 700000 (.done)) (.dm 10 [33,34,35,36,37,38,39,40,41,42] [700000] (.n 10 (.tl (.n 1 .done))))) (.reg (.n 7 .done))))))) (.reg (.n 2 .done)))))))) (.two (.t 6 (.un (.lp [0,2,4,53,54] [100100,100102] ⟨[(3,.p 100200 []),(55,.d .i)],[(100200,.var 181 (.ag (.cons (.s 100201) (.cons (.s 100202) (.nil))))),(100201,.row 106 Qx),(100202,.row 146 Vt)]⟩ [(.x 2,⟨[(3,.p 100300 [])],[(100300,.var 181 (.ag (.cons (.s 100301) (.cons (.s 100302) (.nil))))),(100301,.row 106 Qx),(100302,.row 146 Vt)]⟩)] (.t 1 (.two (.two (.nil) (.nil)) (.two (.un (.t 3 (.t 8 (.t 5 (.reg (.n 7 .done)))))) (.reg (.n 2 .done)))))))) (.t 2 (.gh (.fm 100102 (.done)) .nil))))))
def Q00:Shp:=⟨[(0,.p 5000 [])],[(5000,.var 314 (.ag (.cons (.m 5001) (.cons (.m 5002) (.cons (.m 5003) (.cons (.m 5004) (.cons (.m 5005) (.cons (.d (.sl .i)) (.cons (.d (.sl .i)) (.nil)))))))))),(5001,.map .i Qx),(5002,.map .i Vt),(5003,.map .i .bool),(5004,.map .str .i),(5005,.map .i .i)]⟩
def Quk:Shp:=⟨[(0,.ag (.cons (.s 1) (.cons (.s 2) (.nil))))],[(1,.row 106 Qx),(2,.row 146 Vt)]⟩
def Jdx:AnR:=.pre (.reg (.n 1 .done)) (.pre (.reg (.call 0 (.n 2 .done))) (.inn (.pre (.reg (.n 2 (.call 1 (.done)))) (.un (.rf 0 [4,5] [4,5] ⟨[],[(10701,.var 314 (.ag (.cons (.m 100001) (.cons (.m 100002) (.cons (.m 100003) (.cons (.m 100004) (.cons (.m 100005) (.cons (.d (.sl .i)) (.cons (.d (.sl .i)) (.nil)))))))))),(100001,.map .i Qx),(100002,.map .i Vt),(100003,.map .i .bool),(100004,.map .str .i),(100005,.map .i .i)]⟩ (.reg (.n 2 .done)) (.un (.reg (.n 2 (.call 2 (.done)))))))) (.two (.reg (.n 1 (.call 3 (.n 1 .done)))) (.nil))))
def Jdy:Shp:=⟨[(0,.d (.sl Yg)),(1,.d .i)],[]⟩
def Q01:Shp:=⟨[(0,.ag (.cons (.s 1) (.cons (.s 2) (.nil))))],[(1,.row 106 Qx),(2,.row 146 Vt)]⟩
def Jdz:An:=.t 2 (.two (.two (.reg (.n 2 (.call 0 (.n 3 .done)))) (.un (.lp [1,13,14,15] [11201,11202] ⟨[(6,.p 100000 [])],[(100000,.var 146 (.ag (.cons (.d .i) (.cons (.d .i) (.cons (.d .i) (.cons (.d .str) (.cons (.ns) (.cons (.ns) (.cons (.d .bool) (.cons (.d .bool) (.nil)))))))))))]⟩ [(.r,⟨[(6,.p 100100 []),(7,.d .bool)],[(100100,.var 146 (.d Vt))]⟩)] (.t 1 (.two (.two (.nil) (.gh (.tl .done) .nil)) (.two (.un (.t 4 (.t 4 (.two (.t 3 (.nil)) (.gh (.tl .done) .nil))))) (.nil))))))) (.nil))
def Jd0:Shp:=⟨[(0,.d (.sl Yg)),(1,.d .i),(2,.d .i)],[]⟩
def Q02:Shp:=⟨[(0,.d Vt),(1,.d .bool)],[]⟩
def Jd1:An:=.t 2 (.two (.two (.reg (.n 2 (.call 0 (.n 3 .done)))) (.un (.lp [1,13,14,15] [11201,11202] ⟨[(6,.p 100000 [])],[(100000,.var 106 (.ag (.cons (.d .i) (.cons (.d .i) (.cons (.d .i) (.cons (.d .bool) (.cons (.d .bool) (.cons (.ns) (.nil)))))))))]⟩ [(.r,⟨[(6,.p 100100 []),(7,.d .bool)],[(100100,.var 106 (.d Qx))]⟩)] (.t 1 (.two (.two (.nil) (.gh (.tl .done) .nil)) (.two (.un (.t 4 (.t 4 (.two (.t 3 (.nil)) (.gh (.tl .done) .nil))))) (.nil))))))) (.nil))
def Jd2:Shp:=⟨[(0,.d (.sl Yg)),(1,.d .i),(2,.d .i)],[]⟩
def Q03:Shp:=⟨[(0,.d Qx),(1,.d .bool)],[]⟩
def Jd3:An:=.t 1 (.two (.dm 21 [8,9,10,11,12,13,14,15,16,17,18,19,20,21,22,23,7,24,25,3,1000000020] [] (.n 15 (.call 0 (.n 5 (.tl (.n 1 .done)))))) (.two (.t 2 (.two (.t 1 (.nil)) (.nil))) (.two (.dm 21 [29,30,31,32,33,34,35,36,37,38,39,40,41,42,43,44,28,45,46,5,1000000020] [] (.n 15 (.call 1 (.n 5 (.tl (.n 1 .done)))))) (.two (.two (.dr 8 (.n 8 .done) (.done)) (.two (.gh (.tl .done) .nil) (.nil))) (.two (.t 2 (.two (.gh (.tl .done) .nil) (.nil))) (.t 5 (.two (.dm 20 [62,63,64,65,66,67,68,69,70,71,72,73,74,75,61,76,77,78,79,1000000019] [5000] (.n 13 (.call 2 (.n 6 (.tl (.done)))))) (.t 1 (.nil)))))))))
def Jd4:Shp:=⟨[(0,.p 5000 [])],[(5000,.var 114 (.ag (.cons (.d Js) (.cons (.d Q3) (.cons (.d Qk) (.cons (.ag (.cons (.d Qp) (.cons (.d .str) (.cons (.s 5001) (.cons (.d .bool) (.cons (.d .bool) (.nil))))))) (.cons (.ag (.cons (.d .i) (.cons (.d .i) (.cons (.d .i) (.cons (.d .bool) (.cons (.d .bool) (.cons (.s 5002) (.nil)))))))) (.cons (.ag (.cons (.d .str) (.cons (.d .i) (.cons (.d .bool) (.cons (.s 5003) (.cons (.s 5004) (.cons (.s 5005) (.cons (.s 5006) (.nil))))))))) (.cons (.d .i) (.cons (.ag (.cons (.d Qk) (.cons (.d .i) (.cons (.d .str) (.cons (.d .i) (.cons (.d .str) (.cons (.s 5007) (.cons (.s 5008) (.cons (.d .i) (.cons (.d .i) (.cons (.d .i) (.cons (.s 5009) (.cons (.d .i) (.cons (.d .i) (.nil))))))))))))))) (.nil))))))))))),(5001,.row 9 .str),(5002,.row 3 .i),(5003,.row 118 Yk),(5004,.row 121 Yo),(5005,.row 126 Vn),(5006,.row 231 Y2),(5007,.row 33 J2),(5008,.row 35 Q9),(5009,.row 76 Jw)]⟩
def Q04:Shp:=⟨[(0,.d .i)],[(5000,.var 114 (.ag (.cons (.d Js) (.cons (.d Q3) (.cons (.d Qk) (.cons (.ag (.cons (.d Qp) (.cons (.d .str) (.cons (.d (.sl .str)) (.cons (.d .bool) (.cons (.d .bool) (.nil))))))) (.cons (.ag (.cons (.d .i) (.cons (.d .i) (.cons (.d .i) (.cons (.d .bool) (.cons (.d .bool) (.cons (.d (.sl .i)) (.nil)))))))) (.cons (.ag (.cons (.d .str) (.cons (.d .i) (.cons (.d .bool) (.cons (.s 1) (.cons (.s 2) (.cons (.s 3) (.cons (.s 4) (.nil))))))))) (.cons (.d .i) (.cons (.ag (.cons (.d Qk) (.cons (.d .i) (.cons (.d .str) (.cons (.d .i) (.cons (.d .str) (.cons (.s 5) (.cons (.s 6) (.cons (.d .i) (.cons (.d .i) (.cons (.d .i) (.cons (.s 7) (.cons (.d .i) (.cons (.d .i) (.nil))))))))))))))) (.nil))))))))))),(1,.row 118 Yk),(2,.row 121 Yo),(3,.row 126 Vn),(4,.row 231 Y2),(5,.row 33 J2),(6,.row 35 Q9),(7,.row 76 Jw)]⟩
def Jd5:An:=.t 1 (.two (.reg (.n 1 (.call 0 (.n 1 .done)))) (.nil))
def Jd6:Shp:=⟨[(0,.p 5000 [])],[(5000,.var 99 (.p 5001 [])),(5001,.var 114 (.ag (.cons (.d Js) (.cons (.d Q3) (.cons (.d Qk) (.cons (.ag (.cons (.d Qp) (.cons (.d .str) (.cons (.s 5002) (.cons (.d .bool) (.cons (.d .bool) (.nil))))))) (.cons (.ag (.cons (.d .i) (.cons (.d .i) (.cons (.d .i) (.cons (.d .bool) (.cons (.d .bool) (.cons (.s 5003) (.nil)))))))) (.cons (.ag (.cons (.d .str) (.cons (.d .i) (.cons (.d .bool) (.cons (.s 5004) (.cons (.s 5005) (.cons (.s 5006) (.cons (.s 5007) (.nil))))))))) (.cons (.d .i) (.cons (.ag (.cons (.d Qk) (.cons (.d .i) (.cons (.d .str) (.cons (.d .i) (.cons (.d .str) (.cons (.s 5008) (.cons (.s 5009) (.cons (.d .i) (.cons (.d .i) (.cons (.d .i) (.cons (.s 5010) (.cons (.d .i) (.cons (.d .i) (.nil))))))))))))))) (.nil))))))))))),(5002,.row 9 .str),(5003,.row 3 .i),(5004,.row 118 Yk),(5005,.row 121 Yo),(5006,.row 126 Vn),(5007,.row 231 Y2),(5008,.row 33 J2),(5009,.row 35 Q9),(5010,.row 76 Jw)]⟩
def Q05:Shp:=⟨[(0,.d .i)],[(5001,.var 114 (.ag (.cons (.d Js) (.cons (.d Q3) (.cons (.d Qk) (.cons (.d Jn) (.cons (.d Qx) (.cons (.ag (.cons (.d .str) (.cons (.d .i) (.cons (.d .bool) (.cons (.s 1) (.cons (.s 2) (.cons (.s 3) (.cons (.s 4) (.nil))))))))) (.cons (.d .i) (.cons (.ag (.cons (.d Qk) (.cons (.d .i) (.cons (.d .str) (.cons (.d .i) (.cons (.d .str) (.cons (.s 5) (.cons (.s 6) (.cons (.d .i) (.cons (.d .i) (.cons (.d .i) (.cons (.s 7) (.cons (.d .i) (.cons (.d .i) (.nil))))))))))))))) (.nil))))))))))),(1,.row 118 Yk),(2,.row 121 Yo),(3,.row 126 Vn),(4,.row 231 Y2),(5,.row 33 J2),(6,.row 35 Q9),(7,.row 76 Jw)]⟩
def Jd7:An:=.t 2 (.two (.reg (.n 1 (.call 0 (.n 1 .done)))) (.nil))
def Jd8:Shp:=⟨[(0,.f 48 (.cons (.p 5000 []) (.nil))),(1,.p 5011 [])],[(5000,.var 99 (.p 5001 [])),(5001,.var 114 (.ag (.cons (.d Js) (.cons (.d Q3) (.cons (.d Qk) (.cons (.ag (.cons (.d Qp) (.cons (.d .str) (.cons (.s 5002) (.cons (.d .bool) (.cons (.d .bool) (.nil))))))) (.cons (.ag (.cons (.d .i) (.cons (.d .i) (.cons (.d .i) (.cons (.d .bool) (.cons (.d .bool) (.cons (.s 5003) (.nil)))))))) (.cons (.ag (.cons (.d .str) (.cons (.d .i) (.cons (.d .bool) (.cons (.s 5004) (.cons (.s 5005) (.cons (.s 5006) (.cons (.s 5007) (.nil))))))))) (.cons (.d .i) (.cons (.ag (.cons (.d Qk) (.cons (.d .i) (.cons (.d .str) (.cons (.d .i) (.cons (.d .str) (.cons (.s 5008) (.cons (.s 5009) (.cons (.d .i) (.cons (.d .i) (.cons (.d .i) (.cons (.s 5010) (.cons (.d .i) (.cons (.d .i) (.nil))))))))))))))) (.nil))))))))))),(5002,.row 9 .str),(5003,.row 3 .i),(5004,.row 118 Yk),(5005,.row 121 Yo),(5006,.row 126 Vn),(5007,.row 231 Y2),(5008,.row 33 J2),(5009,.row 35 Q9),(5010,.row 76 Jw),(5011,.var 24 (.d .i))]⟩
def Q06:Shp:=⟨[],[(5001,.var 114 (.ag (.cons (.d Js) (.cons (.d Q3) (.cons (.d Qk) (.cons (.ag (.cons (.d Qp) (.cons (.d .str) (.cons (.d (.sl .str)) (.cons (.d .bool) (.cons (.d .bool) (.nil))))))) (.cons (.ag (.cons (.d .i) (.cons (.d .i) (.cons (.d .i) (.cons (.d .bool) (.cons (.d .bool) (.cons (.d (.sl .i)) (.nil)))))))) (.cons (.ag (.cons (.d .str) (.cons (.d .i) (.cons (.d .bool) (.cons (.s 1) (.cons (.s 2) (.cons (.s 3) (.cons (.s 4) (.nil))))))))) (.cons (.d .i) (.cons (.ag (.cons (.d Qk) (.cons (.d .i) (.cons (.d .str) (.cons (.d .i) (.cons (.d .str) (.cons (.s 5) (.cons (.s 6) (.cons (.d .i) (.cons (.d .i) (.cons (.d .i) (.cons (.s 7) (.cons (.d .i) (.cons (.d .i) (.nil))))))))))))))) (.nil))))))))))),(5011,.var 24 (.d .i)),(1,.row 118 Yk),(2,.row 121 Yo),(3,.row 126 Vn),(4,.row 231 Y2),(5,.row 33 J2),(6,.row 35 Q9),(7,.row 76 Jw)]⟩
def Q07:An:=.t 1 (.t 3 (.nil))
def Q08:Shp:=⟨[(0,.d (.sl .str))],[]⟩
def Qul:Shp:=⟨[(0,.d (.sl .str))],[]⟩
def Q09:An:=.t 1 (.t 3 (.nil))
def Q1a:Shp:=⟨[(0,.d (.sl Ge))],[]⟩
def Qum:Shp:=⟨[(0,.d (.sl Ge))],[]⟩
def Q1b:An:=.t 1 (.t 3 (.nil))
def Q1c:Shp:=⟨[(0,.d (.sl Kx))],[]⟩
def Qun:Shp:=⟨[(0,.s 1)],[(1,.row 123 Kx)]⟩
def Jd9:An:=.t 2 (.t 3 (.t 8 (.two (.t 4 (.un (.lp [1,2,18,19] [1,2] ⟨[(3,.p 100000 []),(20,.d .i)],[(100000,.var 112 (.ag (.cons (.d .str) (.cons (.d .i) (.cons (.d .bool) (.cons (.s 100001) (.cons (.ns) (.cons (.ns) (.cons (.ns) (.nil)))))))))),(100001,.row 118 Yk)]⟩ [(.x 0,⟨[(3,.p 100100 [])],[(100100,.var 112 (.ag (.cons (.d .str) (.cons (.d .i) (.cons (.d .bool) (.cons (.s 100101) (.cons (.ns) (.cons (.ns) (.cons (.ns) (.nil)))))))))),(100101,.row 118 Yk)]⟩)] (.t 1 (.two (.two (.nil) (.nil)) (.two (.un (.t 4 (.dm 9 [24,25,26,27,28,29,30,31,32] [] (.n 6 (.call 0 (.n 2 (.tl (.n 3 .done)))))))) (.reg (.n 2 .done)))))))) (.two (.t 4 (.un (.lp [1,2,37,38] [1,2] ⟨[(3,.p 100200 []),(39,.d .i)],[(100200,.var 112 (.ag (.cons (.d .str) (.cons (.d .i) (.cons (.d .bool) (.cons (.s 100201) (.cons (.s 100202) (.cons (.ns) (.cons (.ns) (.nil)))))))))),(100201,.row 118 Yk),(100202,.row 121 Yo)]⟩ [(.x 2,⟨[(3,.p 100300 [])],[(100300,.var 112 (.ag (.cons (.d .str) (.cons (.d .i) (.cons (.d .bool) (.cons (.s 100301) (.cons (.s 100302) (.cons (.ns) (.cons (.ns) (.nil)))))))))),(100301,.row 118 Yk),(100302,.row 121 Yo)]⟩)] (.t 1 (.two (.two (.nil) (.nil)) (.two (.un (.t 4 (.dm 9 [43,44,45,46,47,48,49,50,51] [] (.n 6 (.call 1 (.n 2 (.tl (.n 3 .done)))))))) (.reg (.n 2 .done)))))))) (.two (.t 4 (.un (.lp [1,2,56,57] [1,2] ⟨[(3,.p 100400 []),(58,.d .i)],[(100400,.var 112 (.ag (.cons (.d .str) (.cons (.d .i) (.cons (.d .bool) (.cons (.s 100401) (.cons (.s 100402) (.cons (.s 100403) (.cons (.ns) (.nil)))))))))),(100401,.row 118 Yk),(100402,.row 121 Yo),(100403,.row 126 Vn)]⟩ [(.x 4,⟨[(3,.p 100500 [])],[(100500,.var 112 (.ag (.cons (.d .str) (.cons (.d .i) (.cons (.d .bool) (.cons (.s 100501) (.cons (.s 100502) (.cons (.s 100503) (.cons (.ns) (.nil)))))))))),(100501,.row 118 Yk),(100502,.row 121 Yo),(100503,.row 126 Vn)]⟩)] (.t 1 (.two (.two (.nil) (.nil)) (.two (.un (.t 4 (.two (.reg (.n 2 (.call 2 (.n 2 .done)))) (.reg (.n 3 (.fz 16401 (.n 4 .done))))))) (.reg (.n 2 .done)))))))) (.two (.t 4 (.un (.lp [2,3,75,76] [1,2,100500,100501,100502,100503] ⟨[],[]⟩ [(.x 6,⟨[],[]⟩)] (.t 1 (.two (.two (.gh (.tl .done) .nil) (.nil)) (.nil)))))) (.t 2 (.nil))))))))
def Jea:Shp:=⟨[(0,.d Jp)],[]⟩
def Q1d:Shp:=⟨[(0,.ag (.cons (.d .str) (.cons (.d .i) (.cons (.d .bool) (.cons (.s 1) (.cons (.s 2) (.cons (.s 3) (.cons (.ns) (.nil)))))))))],[(1,.row 118 Yk),(2,.row 121 Yo),(3,.row 126 Vn)]⟩
def Jeb:An:=.t 2 (.t 1 (.two (.t 3 (.un (.lp [0,1,2,6,11,12] [6] ⟨[(8,.d .i),(13,.d .i)],[]⟩ [(.x 0,⟨[(8,.d .i)],[]⟩)] (.t 1 (.two (.two (.nil) (.nil)) (.two (.un (.t 6 (.t 10 (.t 2 (.gh (.tl .done) .nil))))) (.reg (.n 2 .done)))))))) (.two (.t 2 (.two (.gh (.tl .done) .nil) (.nil))) (.two (.reg (.n 4 (.call 0 (.n 2 .done)))) (.nil)))))
def Jec:Shp:=⟨[(0,.d (.sl Jp)),(1,.d .str),(2,.d .i)],[]⟩
def Q1e:Shp:=⟨[(0,.d Jp),(1,.d .bool)],[]⟩
def Q1f:An:=.t 1 (.two (.t 3 (.un (.lp [0,6] [] ⟨[(7,.d .i)],[]⟩ [(.x 0,⟨[],[]⟩)] (.t 1 (.two (.two (.nil) (.nil)) (.two (.un (.t 2 (.t 4 (.t 22 (.two (.gh (.tl .done) .nil) (.nil)))))) (.reg (.n 2 .done)))))))) (.t 9 (.nil)))
def Q1g:Shp:=⟨[(0,.d .str)],[]⟩
def Quo:Shp:=⟨[(0,.d .bool)],[]⟩
def Q1h:An:=.t 1 (.two (.t 3 (.un (.lp [7,8] [] ⟨[],[]⟩ [(.x 0,⟨[],[]⟩)] (.t 1 (.two (.two (.gh (.tl .done) .nil) (.nil)) (.nil)))))) (.t 1 (.nil)))
def Q1i:Shp:=⟨[(0,.d (.sl Yk)),(1,.f 140 (.cons (.p 5000 []) (.nil)))],[(5000,.var 118 (.d Yk))]⟩
def Qup:Shp:=⟨[(0,.d .i)],[]⟩
def Q1j:An:=.t 1 (.two (.reg (.n 2 (.call 0 (.n 2 .done)))) (.nil))
def Q1k:Shp:=⟨[(0,.d (.sl Yk)),(1,.f 140 (.cons (.p 5000 []) (.nil)))],[(5000,.var 118 (.d Yk))]⟩
def Quq:Shp:=⟨[(0,.d .bool)],[]⟩
def Q1l:An:=.t 1 (.t 7 (.nil))
def Q1m:Shp:=⟨[(0,.d (.int .u8))],[]⟩
def Qur:Shp:=⟨[(0,.d .bool)],[]⟩
def Jed:An:=.t 1 (.two (.t 3 (.un (.lp [0,5] [] ⟨[(6,.d .i)],[]⟩ [(.x 0,⟨[],[]⟩)] (.t 1 (.two (.two (.nil) (.nil)) (.two (.un (.t 2 (.two (.reg (.n 3 (.call 0 (.n 1 .done)))) (.two (.gh (.tl .done) .nil) (.nil))))) (.reg (.n 2 .done)))))))) (.t 9 (.nil)))
def Jee:Shp:=⟨[(0,.d .str)],[]⟩
def Q1n:Shp:=⟨[(0,.d .bool)],[]⟩
def Jef:An:=.t 2 (.two (.t 3 (.two (.gh (.tl .done) .nil) (.nil))) (.t 2 (.two (.t 3 (.un (.lp [0,15,16] [] ⟨[(4,.m 100000),(17,.d .i)],[(100000,.map .str .str)]⟩ [(.x 0,⟨[(4,.m 100300)],[(100300,.map .str .str)]⟩)] (.t 1 (.two (.two (.nil) (.nil)) (.two (.un (.t 6 (.two (.un (.two (.reg (.n 2 (.call 0 (.n 2 .done)))) (.two (.gh (.tl .done) .nil) (.two (.reg (.n 4 (.call 1 (.n 1 .done)))) (.two (.gh (.tl .done) .nil) (.t 5 (.two (.gh (.tl .done) .nil) (.t 5 (.two (.gh (.tl .done) .nil) (.nil)))))))))) (.t 4 (.un (.lp [6,17,44,45] [6] ⟨[(4,.m 100100),(46,.d .i)],[(100100,.map .str .str)]⟩ [(.x 3,⟨[(4,.m 100200)],[(100200,.map .str .str)]⟩)] (.t 1 (.two (.two (.nil) (.nil)) (.two (.un (.t 3 (.two (.two (.reg (.n 1 (.call 2 (.n 1 .done)))) (.two (.gh (.tl .done) .nil) (.nil))) (.two (.t 8 (.t 1 (.two (.gh (.tl .done) .nil) (.nil)))) (.reg (.n 5 .done)))))) (.reg (.n 2 .done))))))))))) (.reg (.n 2 .done)))))))) (.t 3 (.nil)))))
def Jeg:Shp:=⟨[(0,.d (.sl Yk))],[]⟩
def Q1o:Shp:=⟨[(0,.m 1),(1,.d .i)],[(1,.map .str .str)]⟩
def Jeh:An:=.t 2 (.two (.un (.lp [0,1] [] ⟨[(2,.d .i)],[]⟩ [(.r,⟨[(6,.d .str),(7,.d .bool)],[]⟩)] (.two (.t 2 (.two (.nil) (.gh (.tl .done) .nil))) (.two (.un (.t 10 (.t 1 (.two (.t 3 (.nil)) (.nil))))) (.reg (.n 3 .done)))))) (.nil))
def Jei:Shp:=⟨[(0,.m 5000),(1,.d .str),(2,.d .i)],[(5000,.map .str .str)]⟩
def Q1p:Shp:=⟨[(0,.d .str),(1,.d .bool)],[]⟩
def Jej:An:=.t 2 (.two (.reg (.n 1 (.call 0 (.n 5 .done)))) (.two (.two (.reg (.n 3 (.sp 15 4 [1,6] [11001] ⟨[(19,.d .bool)],[]⟩ (.nl 3 (.n 1 .done)) (.nl 1 (.call 1 (.nl 1 (.n 1 .done)))) (.done)))) (.two (.gh (.tl .done) .nil) (.nil))) (.two (.reg (.n 4 (.call 2 (.n 4 .done)))) (.nil))))
def Jek:Shp:=⟨[(0,.d (.sl Yk)),(1,.d .str)],[]⟩
def Q1q:Shp:=⟨[(0,.d .str),(1,.d .bool)],[]⟩
def Jel:An:=.t 1 (.two (.dm 21 [6,7,8,9,10,11,12,13,14,15,16,17,18,19,20,21,5,22,23,3,1000000020] [] (.n 15 (.call 0 (.n 5 (.tl (.n 1 .done)))))) (.two (.t 2 (.two (.gh (.tl .done) .nil) (.nil))) (.t 5 (.two (.dm 10 [30,31,32,33,34,35,36,37,38,1000000009] [5000] (.n 10 (.tl (.n 4 .done)))) (.two (.dm 16 [43,44,45,46,47,48,49,50,51,42,52,53,54,55,56,1000000015] [5000] (.n 8 (.call 1 (.n 7 (.tl (.done)))))) (.t 1 (.nil)))))))
def Jem:Shp:=⟨[(0,.p 5000 [])],[(5000,.var 114 (.ag (.cons (.d Js) (.cons (.d Q3) (.cons (.d Qk) (.cons (.d Jn) (.cons (.d Qx) (.cons (.ag (.cons (.d .str) (.cons (.d .i) (.cons (.d .bool) (.cons (.s 5001) (.cons (.s 5002) (.cons (.s 5003) (.cons (.s 5004) (.nil))))))))) (.cons (.d .i) (.cons (.ag (.cons (.d Qk) (.cons (.d .i) (.cons (.d .str) (.cons (.d .i) (.cons (.d .str) (.cons (.s 5005) (.cons (.s 5006) (.cons (.d .i) (.cons (.d .i) (.cons (.d .i) (.cons (.s 5007) (.cons (.d .i) (.cons (.d .i) (.nil))))))))))))))) (.nil))))))))))),(5001,.row 118 Yk),(5002,.row 121 Yo),(5003,.row 126 Vn),(5004,.row 231 Y2),(5005,.row 33 J2),(5006,.row 35 Q9),(5007,.row 76 Jw)]⟩
def Q1r:Shp:=⟨[(0,.d .i)],[(5000,.var 114 (.ag (.cons (.d Js) (.cons (.d Q3) (.cons (.d Qk) (.cons (.d Jn) (.cons (.d Qx) (.cons (.d Jp) (.cons (.d .i) (.cons (.ag (.cons (.d Qk) (.cons (.d .i) (.cons (.d .str) (.cons (.d .i) (.cons (.d .str) (.cons (.s 1) (.cons (.s 2) (.cons (.d .i) (.cons (.d .i) (.cons (.d .i) (.cons (.s 3) (.cons (.d .i) (.cons (.d .i) (.nil))))))))))))))) (.nil))))))))))),(1,.row 33 J2),(2,.row 35 Q9),(3,.row 76 Jw)]⟩
def Jen:An:=.t 1 (.two (.reg (.n 1 (.call 0 (.n 1 .done)))) (.nil))
def Jeo:Shp:=⟨[(0,.p 5000 [])],[(5000,.var 99 (.p 5001 [])),(5001,.var 114 (.ag (.cons (.d Js) (.cons (.d Q3) (.cons (.d Qk) (.cons (.d Jn) (.cons (.d Qx) (.cons (.ag (.cons (.d .str) (.cons (.d .i) (.cons (.d .bool) (.cons (.s 5002) (.cons (.s 5003) (.cons (.s 5004) (.cons (.s 5005) (.nil))))))))) (.cons (.d .i) (.cons (.ag (.cons (.d Qk) (.cons (.d .i) (.cons (.d .str) (.cons (.d .i) (.cons (.d .str) (.cons (.s 5006) (.cons (.s 5007) (.cons (.d .i) (.cons (.d .i) (.cons (.d .i) (.cons (.s 5008) (.cons (.d .i) (.cons (.d .i) (.nil))))))))))))))) (.nil))))))))))),(5002,.row 118 Yk),(5003,.row 121 Yo),(5004,.row 126 Vn),(5005,.row 231 Y2),(5006,.row 33 J2),(5007,.row 35 Q9),(5008,.row 76 Jw)]⟩
def Q1s:Shp:=⟨[(0,.d .i)],[(5001,.var 114 (.ag (.cons (.d Js) (.cons (.d Q3) (.cons (.d Qk) (.cons (.d Jn) (.cons (.d Qx) (.cons (.d Jp) (.cons (.d .i) (.cons (.ag (.cons (.d Qk) (.cons (.d .i) (.cons (.d .str) (.cons (.d .i) (.cons (.d .str) (.cons (.s 1) (.cons (.s 2) (.cons (.d .i) (.cons (.d .i) (.cons (.d .i) (.cons (.s 3) (.cons (.d .i) (.cons (.d .i) (.nil))))))))))))))) (.nil))))))))))),(1,.row 33 J2),(2,.row 35 Q9),(3,.row 76 Jw)]⟩
def Qqq:An:=.t 2 (.two (.reg (.n 1 (.call 0 (.n 1 .done)))) (.nil))
def Qqr:Shp:=⟨[(0,.f 50 (.cons (.p 5000 []) (.nil))),(1,.p 5009 [])],[(5000,.var 99 (.p 5001 [])),(5001,.var 114 (.ag (.cons (.d Js) (.cons (.d Q3) (.cons (.d Qk) (.cons (.d Jn) (.cons (.d Qx) (.cons (.ag (.cons (.d .str) (.cons (.d .i) (.cons (.d .bool) (.cons (.s 5002) (.cons (.s 5003) (.cons (.s 5004) (.cons (.s 5005) (.nil))))))))) (.cons (.d .i) (.cons (.ag (.cons (.d Qk) (.cons (.d .i) (.cons (.d .str) (.cons (.d .i) (.cons (.d .str) (.cons (.s 5006) (.cons (.s 5007) (.cons (.d .i) (.cons (.d .i) (.cons (.d .i) (.cons (.s 5008) (.cons (.d .i) (.cons (.d .i) (.nil))))))))))))))) (.nil))))))))))),(5002,.row 118 Yk),(5003,.row 121 Yo),(5004,.row 126 Vn),(5005,.row 231 Y2),(5006,.row 33 J2),(5007,.row 35 Q9),(5008,.row 76 Jw),(5009,.var 24 (.d .i))]⟩
def Qkj:Shp:=⟨[],[(5001,.var 114 (.ag (.cons (.d Js) (.cons (.d Q3) (.cons (.d Qk) (.cons (.d Jn) (.cons (.d Qx) (.cons (.ag (.cons (.d .str) (.cons (.d .i) (.cons (.d .bool) (.cons (.d (.sl Yk)) (.cons (.d (.sl Yo)) (.cons (.d (.sl Vn)) (.cons (.d (.sl Y2)) (.nil))))))))) (.cons (.d .i) (.cons (.ag (.cons (.d Qk) (.cons (.d .i) (.cons (.d .str) (.cons (.d .i) (.cons (.d .str) (.cons (.s 1) (.cons (.s 2) (.cons (.d .i) (.cons (.d .i) (.cons (.d .i) (.cons (.s 3) (.cons (.d .i) (.cons (.d .i) (.nil))))))))))))))) (.nil))))))))))),(5009,.var 24 (.d .i)),(1,.row 33 J2),(2,.row 35 Q9),(3,.row 76 Jw)]⟩
def Q1t:An:=.t 1 (.t 1 (.two (.t 3 (.un (.lp [6,7] [] ⟨[(3,.s 100000),(8,.d .i)],[(100000,.row 142 Qy)]⟩ [(.x 0,⟨[(3,.s 100100)],[(100100,.row 142 Qy)]⟩)] (.t 1 (.two (.two (.nil) (.nil)) (.two (.un (.t 4 (.t 5 (.reg (.n 2 (.fz 14 (.n 3 .done))))))) (.reg (.n 2 .done)))))))) (.t 2 (.nil))))
def Q1u:Shp:=⟨[(0,.d (.sl Qy))],[]⟩
def Qus:Shp:=⟨[(0,.d (.sl Qy))],[]⟩
def Jep:An:=.t 2 (.two (.dm 8 [3,4,5,6,7,8,9,10] [] (.n 2 (.call 0 (.n 5 (.tl (.n 3 .done)))))) (.nil))
def Jeq:Shp:=⟨[(0,.d Q3)],[]⟩
def Q1v:Shp:=⟨[(0,.ag (.cons (.d (.sl Qy)) (.cons (.s 1) (.cons (.s 2) (.nil)))))],[(1,.row 71 Jo),(2,.row 73 Je)]⟩
def Jer:An:=.t 1 (.two (.t 3 (.un (.lp [1,2,9,10,11] [] ⟨[],[]⟩ [(.r,⟨[(6,.d .bool)],[]⟩)] (.t 1 (.two (.two (.nil) (.gh (.tl .done) .nil)) (.two (.un (.t 4 (.t 15 (.two (.t 4 (.nil)) (.gh (.tl .done) .nil))))) (.nil))))))) (.nil))
def Jes:Shp:=⟨[(0,.d (.sl Yg)),(1,.d .i),(2,.d .i)],[]⟩
def Q1w:Shp:=⟨[(0,.d .bool)],[]⟩
def Q1x:An:=.t 1 (.t 2 (.two (.t 3 (.un (.lp [9,10] [] ⟨[(3,.m 100000),(11,.d .i)],[(100000,.map .i .i)]⟩ [(.x 0,⟨[(3,.m 100100)],[(100100,.map .i .i)]⟩)] (.t 1 (.two (.two (.nil) (.nil)) (.two (.un (.t 6 (.t 9 (.t 2 (.t 5 (.gh (.tl .done) .nil)))))) (.reg (.n 2 .done)))))))) (.t 2 (.nil))))
def Q1y:Shp:=⟨[(0,.d (.sl Jo))],[]⟩
def Qut:Shp:=⟨[(0,.m 1)],[(1,.map .i .i)]⟩
def Jet:An:=.t 2 (.two (.two (.reg (.n 1 (.call 0 (.n 7 .done)))) (.t 1 (.two (.t 5 (.nil)) (.nil)))) (.t 1 (.two (.un (.lp [0,1,8] [11201] ⟨[],[]⟩ [(.x 0,⟨[],[]⟩)] (.two (.two (.reg (.n 5 (.sp 25 8 [] [] ⟨[(33,.d .bool)],[]⟩ (.tl .done) (.nl 7 (.n 1 .done)) (.done)))) (.two (.gh (.tl .done) .nil) (.nil))) (.nil)))) (.t 5 (.t 6 (.t 8 (.nil)))))))
def Jeu:Shp:=⟨[(0,.d (.sl Jo)),(1,.d .i)],[]⟩
def Q1z:Shp:=⟨[(0,.s 1),(1,.d .i)],[(1,.row 71 Jo)]⟩
def Q10:An:=.t 1 (.t 9 (.nil))
def Q11:Shp:=⟨[(0,.d .i),(1,.d .i),(2,.d .i)],[]⟩
def Quu:Shp:=⟨[(0,.d .bool)],[]⟩
def Q12:An:=.t 1 (.t 7 (.nil))
def Q13:Shp:=⟨[(0,.d .i)],[]⟩
def Quv:Shp:=⟨[(0,.d .bool)],[]⟩
def Q14:An:=.t 2 (.two (.un (.two (.reg (.n 2 (.call 0 (.n 2 (.sp 8 5 [1] [1] ⟨[(13,.d .bool)],[]⟩ (.nl 4 (.n 1 .done)) (.nl 2 (.call 1 (.nl 1 (.n 1 .done)))) (.n 1 (.sp 14 5 [1] [1] ⟨[(19,.d .bool)],[]⟩ (.nl 4 (.n 1 .done)) (.nl 2 (.call 0 (.nl 1 (.n 1 .done)))) (.n 1 .done)))))))) (.two (.gh (.tl .done) .nil) (.two (.reg (.n 2 (.call 0 (.n 2 (.sp 25 5 [1] [1] ⟨[(30,.d .bool)],[]⟩ (.nl 4 (.n 1 .done)) (.nl 2 (.call 0 (.nl 1 (.n 1 .done)))) (.n 1 .done)))))) (.two (.gh (.tl .done) .nil) (.t 9 (.two (.gh (.tl .done) .nil) (.nil)))))))) (.t 1 (.nil)))
def Q15:Shp:=⟨[(0,.d Jo)],[]⟩
def Quw:Shp:=⟨[(0,.d .i)],[]⟩
def Jev:An:=.t 3 (.two (.two (.reg (.n 1 (.call 0 (.n 1 .done)))) (.t 2 (.two (.gh (.tl .done) .nil) (.nil)))) (.two (.two (.reg (.n 1 (.call 1 (.n 2 (.sp 19 7 [1,2,4] [2,4] ⟨[(26,.d .bool)],[]⟩ (.nl 6 (.n 1 .done)) (.nl 4 (.call 2 (.nl 1 (.n 1 .done)))) (.done)))))) (.two (.gh (.tl .done) .nil) (.nil))) (.t 6 (.t 3 (.nil)))))
def Jew:Shp:=⟨[(0,.d Jo),(1,.d .i)],[]⟩
def Q16:Shp:=⟨[(0,.d Jo),(1,.d .i)],[]⟩
def Jex:An:=.t 1 (.t 2 (.t 2 (.gh (.tl .done) .nil)))
def Jey:Shp:=⟨[(0,.d Jo),(1,.d .i),(2,.p 5000 [])],[(5000,.var 71 (.d Jo))]⟩
def Q17:Shp:=⟨[],[(5000,.var 71 (.d Jo))]⟩
def Jez:An:=.t 2 (.two (.reg (.n 1 (.call 0 (.n 2 .done)))) (.two (.two (.reg (.n 7 (.sp 24 6 [0,2,3,8,9] [5,8,9,11701,11702] ⟨[(30,.d .bool)],[]⟩ (.nl 5 (.n 1 .done)) (.nl 3 (.call 1 (.nl 1 (.n 1 .done)))) (.done)))) (.two (.gh (.tl .done) .nil) (.nil))) (.two (.reg (.n 3 (.call 2 (.n 5 .done)))) (.t 6 (.t 2 (.two (.t 3 (.un (.lp [2,3,8,9,10,11,44,45] [5,8,9,11701,11702,13601] ⟨[(12,.p 100100 []),(13,.f 92 (.cons (.p 100100 []) (.nil))),(46,.d .i)],[(100100,.var 71 (.d Jo))]⟩ [(.x 0,⟨[(12,.p 100400 [])],[(100400,.var 71 (.d Jo))]⟩)] (.t 1 (.two (.two (.nil) (.nil)) (.two (.jn [46] [] [(.n,⟨[(12,.p 100300 []),(13,.f 92 (.cons (.p 100300 []) (.nil)))],[(100300,.var 71 (.d Jo))]⟩)] (.un (.t 4 (.two (.two (.dr 20 (.n 5 (.sp 54 9 [12,13,15,46] [15,100100] ⟨[(63,.d .bool)],[]⟩ (.nl 8 (.n 1 .done)) (.nl 8 (.n 1 .done)) (.n 6 .done))) (.done)) (.two (.nil) (.nil))) (.t 2 (.un (.t 2 (.two (.reg (.n 4 (.call 3 (.n 2 (.call 4 (.done)))))) (.t 2 (.two (.gh (.tl .done) .nil) (.nil))))))))))) (.reg (.n 2 .done)))))))) (.t 6 (.t 5 (.t 3 (.t 2 (.nil)))))))))))
def Je0:Shp:=⟨[(0,.d (.sl Yg)),(1,.d Q3),(2,.d .i),(3,.d .i)],[]⟩
def Q18:Shp:=⟨[(0,.d Q3)],[]⟩
def Je1:An:=.t 2 (.t 5 (.t 2 (.nil)))
def Je2:Shp:=⟨[(0,.d Qy)],[]⟩
def Q19:Shp:=⟨[(0,.d Qy)],[]⟩
def Qqs:An:=.t 2 (.t 5 (.t 2 (.nil)))
def Qqt:Shp:=⟨[(0,.d Qy)],[]⟩
def Qkk:Shp:=⟨[(0,.ag (.cons (.d .i) (.cons (.d .i) (.cons (.d .str) (.cons (.d .i) (.cons (.d .i) (.cons (.s 1) (.cons (.d Qp) (.cons (.d .i) (.cons (.d .i) (.cons (.d .i) (.cons (.d .bool) (.nil)))))))))))))],[(1,.row 9 .str)]⟩
def Je3:An:=.t 2 (.t 11 (.nil))
def Je4:Shp:=⟨[(0,.d Qy)],[]⟩
def Q2a:Shp:=⟨[(0,.d J4)],[]⟩
def Je5:An:=.t 1 (.two (.t 3 (.un (.lp [1,7,8,9] [] ⟨[],[]⟩ [(.r,⟨[(4,.d .i)],[]⟩)] (.t 1 (.two (.two (.nil) (.gh (.tl .done) .nil)) (.two (.un (.t 4 (.t 9 (.two (.t 3 (.nil)) (.gh (.tl .done) .nil))))) (.nil))))))) (.nil))
def Je6:Shp:=⟨[(0,.d (.sl Yg)),(1,.d .i)],[]⟩
def Q2b:Shp:=⟨[(0,.d .i)],[]⟩
def Q2c:An:=.t 2 (.two (.t 4 (.un (.lp [1,7,8,9] [2] ⟨[],[]⟩ [(.r,⟨[(3,.d .bool)],[]⟩)] (.t 1 (.two (.two (.nil) (.gh (.tl .done) .nil)) (.two (.un (.t 3 (.t 3 (.two (.t 1 (.nil)) (.gh (.tl .done) .nil))))) (.nil))))))) (.nil))
def Q2d:Shp:=⟨[(0,.d Jn),(1,.p 5000 [])],[(5000,.var 9 (.d .str))]⟩
def Qux:Shp:=⟨[(0,.d .bool)],[]⟩
def Q2e:An:=.t 1 (.t 1 (.two (.t 3 (.un (.lp [1,11,12] [] ⟨[(7,.s 100000),(13,.d .i)],[(100000,.row 101 Qp)]⟩ [(.x 0,⟨[(7,.s 100100)],[(100100,.row 101 Qp)]⟩)] (.t 1 (.two (.two (.nil) (.nil)) (.two (.un (.t 4 (.t 3 (.two (.dm 10 [19,20,21,22,23,24,25,26,27,28] [] (.n 3 (.so 21 (.tl .done) (.n 7 (.tl (.nl 1 (.n 1 .done))))))) (.two (.nil) (.reg (.n 5 .done))))))) (.reg (.n 2 .done)))))))) (.t 2 (.nil))))
def Q2f:Shp:=⟨[(0,.d (.sl Qp)),(1,.f 210 (.nil)),(2,.f 211 (.nil))],[]⟩
def Quy:Shp:=⟨[(0,.s 1)],[(1,.row 101 Qp)]⟩
def Q2g:An:=.t 1 (.t 1 (.two (.two (.reg (.n 2 (.call 0 (.n 2 .done)))) (.un (.lp [2,12,13] [11201] ⟨[(7,.s 100000),(14,.d .i)],[(100000,.row 101 Qp)]⟩ [(.x 0,⟨[(7,.s 100100)],[(100100,.row 101 Qp)]⟩)] (.t 1 (.two (.two (.nil) (.nil)) (.two (.un (.t 4 (.two (.reg (.n 2 (.call 1 (.done)))) (.t 6 (.gh (.tl .done) .nil))))) (.reg (.n 2 .done)))))))) (.two (.reg (.n 1 (.call 2 (.n 1 .done)))) (.nil))))
def Q2h:Shp:=⟨[(0,.d (.sl Yg)),(1,.d .i),(2,.f 185 (.cons (.p 5000 []) (.nil)))],[(5000,.var 9 (.d .str))]⟩
def Quz:Shp:=⟨[(0,.s 1)],[(1,.row 101 Qp)]⟩
def Q2i:An:=.t 2 (.two (.reg (.n 3 (.call 0 (.n 1 .done)))) (.nil))
def Q2j:Shp:=⟨[(0,.d (.sl Yg)),(1,.d .i),(2,.d .str)],[]⟩
def Qu0:Shp:=⟨[(0,.d (.sl Qp))],[]⟩
def Je7:An:=.t 1 (.t 2 (.two (.reg (.br (.n 1 .done))) (.t 1 (.two (.t 3 (.un (.lp [0,1,15,16] [] ⟨[(5,.m 100000),(6,.m 100001),(7,.s 100002),(17,.d .i)],[(100000,.map .i .bool),(100001,.mapO .str),(100002,.row 209 V5)]⟩ [(.x 0,⟨[(7,.s 100700)],[(100700,.row 209 V5)]⟩)] (.t 1 (.two (.two (.nil) (.nil)) (.two (.jn [17] [] [(.n,⟨[(5,.m 100600),(6,.m 100601),(7,.s 100602)],[(100600,.map .i .bool),(100601,.mapO .str),(100602,.row 209 V5)]⟩)] (.un (.t 4 (.two (.jn [6,7,9,17] [9,100001,100002] [(.n,⟨[(5,.m 100100)],[(100100,.map .i .bool)]⟩)] (.t 9 (.t 4 (.nil)))) (.two (.two (.reg (.n 11 (.sp 43 8 [5,6,7,9,17] [9,100001,100002,100100] ⟨[(51,.d .bool)],[]⟩ (.nl 7 (.n 1 .done)) (.nl 3 (.br (.nl 2 (.br (.n 1 .done))))) (.done)))) (.two (.nil) (.nil))) (.two (.two (.reg (.n 3 (.br (.n 1 .done)))) (.two (.reg (.n 4 (.br (.done)))) (.nil))) (.two (.reg (.n 3 (.br (.n 3 .done)))) (.two (.dm 13 [67,68,69,70,71,72,73,74,75,76,77,78,10] [] (.n 10 (.call 0 (.n 2 (.tl (.n 1 .done)))))) (.t 1 (.two (.un (.lp [5,6,7,10,11,17] [9,10,60,100001,100002,100100] ⟨[],[]⟩ [(.x 2,⟨[],[]⟩)] (.two (.two (.jn [] [] [(.n,⟨[(90,.d .bool)],[]⟩)] (.dm 10 [79,80,81,82,83,84,85,86,87,88] [] (.n 5 (.so 83 (.tl .done) (.n 5 (.tl (.nl 1 (.n 1 .done)))))))) (.two (.gh (.tl .done) .nil) (.nil))) (.nil)))) (.two (.reg (.n 2 (.fz 100002 (.n 3 .done)))) (.t 5 (.reg (.n 6 .done)))))))))))))) (.reg (.n 2 .done)))))))) (.t 2 (.nil))))))
def Je8:Shp:=⟨[(0,.d (.sl Yg)),(1,.d .i)],[]⟩
def Q2k:Shp:=⟨[(0,.s 1)],[(1,.row 209 V5)]⟩
def Q2l:An:=.t 4 (.t 13 (.two (.two (.reg (.n 1 (.call 0 (.n 2 (.sp 21 4 [3,4,6] [2,3,4,6] ⟨[(25,.d .bool)],[]⟩ (.nl 3 (.n 1 .done)) (.nl 1 (.call 0 (.nl 1 (.n 1 .done)))) (.n 7 .done)))))) (.two (.gh (.tl .done) .nil) (.nil))) (.t 3 (.nil))))
def Q2m:Shp:=⟨[(0,.d Qp),(1,.d Qp)],[]⟩
def Qu1:Shp:=⟨[(0,.d Qp),(1,.d .bool)],[]⟩
def Q2n:An:=.t 1 (.t 3 (.t 3 (.two (.jn [] [] [(.n,⟨[(4,.d .i)],[]⟩)] (.t 2 (.t 15 (.nil)))) (.t 2 (.nil)))))
def Q2o:Shp:=⟨[(0,.d .i)],[]⟩
def Qu2:Shp:=⟨[(0,.d .i)],[]⟩
def Q2p:An:=.t 1 (.t 14 (.nil))
def Q2q:Shp:=⟨[(0,.d .i)],[]⟩
def Qu3:Shp:=⟨[(0,.d .bool)],[]⟩
def Q2r:An:=.t 1 (.t 3 (.two (.two (.reg (.n 3 (.sp 9 3 [0,1,5] [5] ⟨[(12,.d .bool)],[]⟩ (.nl 1 (.call 0 (.n 1 .done))) (.nl 2 (.n 1 .done)) (.done)))) (.two (.t 1 (.nil)) (.nil))) (.t 5 (.nil))))
def Q2s:Shp:=⟨[(0,.d .i),(1,.d .i)],[]⟩
def Qu4:Shp:=⟨[(0,.d .i)],[]⟩
def Q2t:An:=.t 1 (.two (.t 6 (.two (.gh (.tl .done) .nil) (.nil))) (.t 6 (.two (.un (.lp [0,2,3] [2,3] ⟨[],[]⟩ [(.x 0,⟨[],[]⟩)] (.two (.two (.reg (.n 3 (.call 0 (.n 2 .done)))) (.two (.gh (.tl .done) .nil) (.nil))) (.nil)))) (.two (.reg (.n 3 (.call 0 (.n 2 .done)))) (.two (.un (.lp [0,2,3] [2,3] ⟨[],[]⟩ [(.x 2,⟨[],[]⟩)] (.two (.two (.reg (.n 5 (.call 1 (.n 1 .done)))) (.two (.gh (.tl .done) .nil) (.nil))) (.nil)))) (.t 4 (.t 2 (.nil))))))))
def Q2u:Shp:=⟨[(0,.d .i)],[]⟩
def Qu5:Shp:=⟨[(0,.d Om)],[]⟩
def Q2v:An:=.t 1 (.two (.reg (.n 2 (.call 0 (.n 2 .done)))) (.t 9 (.two (.t 4 (.two (.gh (.tl .done) .nil) (.nil))) (.t 2 (.nil)))))
def Q2w:Shp:=⟨[(0,.d .i),(1,.d .i)],[]⟩
def Qu6:Shp:=⟨[(0,.d .i)],[]⟩
def Q2x:An:=.t 1 (.two (.t 14 (.two (.gh (.tl .done) .nil) (.nil))) (.two (.reg (.n 2 (.call 0 (.n 1 .done)))) (.nil)))
def Q2y:Shp:=⟨[(0,.d .i),(1,.d .i)],[]⟩
def Qu7:Shp:=⟨[(0,.d .i)],[]⟩
def Q2z:An:=.t 3 (.two (.two (.jn [1] [1] [(.n,⟨[(18,.d .bool)],[]⟩)] (.dm 11 [6,7,8,9,10,11,12,13,14,15,16] [] (.n 4 (.so 9 (.n 7 (.tl (.nl 1 (.n 1 .done)))) (.n 6 (.call 0 (.tl (.nl 1 (.n 1 .done))))))))) (.two (.gh (.tl .done) .nil) (.nil))) (.two (.dm 5 [19,20,21,22,23] [] (.n 2 (.call 1 (.n 2 (.tl (.n 3 .done)))))) (.two (.t 1 (.un (.lp [1] [1] ⟨[(4,.d .i),(5,.d .i)],[]⟩ [(.x 0,⟨[(4,.d .i)],[]⟩)] (.two (.t 4 (.two (.nil) (.nil))) (.two (.un (.reg (.n 4 (.call 2 (.n 2 .done))))) (.reg (.n 3 .done))))))) (.t 3 (.nil)))))
def Q20:Shp:=⟨[(0,.d Om)],[]⟩
def Qu8:Shp:=⟨[(0,.d .i),(1,.d .i)],[]⟩
def Q21:An:=.t 1 (.two (.reg (.n 8 (.call 0 (.n 5 .done)))) (.two (.t 2 (.two (.gh (.tl .done) .nil) (.nil))) (.t 3 (.nil))))
def Q22:Shp:=⟨[(0,.d .i),(1,.d .i)],[]⟩
def Qu9:Shp:=⟨[(0,.d .i)],[]⟩
def Q23:An:=.t 1 (.two (.reg (.n 3 (.call 0 (.n 3 .done)))) (.two (.t 2 (.two (.reg (.n 2 (.call 0 (.n 2 .done)))) (.gh (.tl .done) .nil))) (.t 2 (.nil))))
def Q24:Shp:=⟨[(0,.d .i),(1,.d .i)],[]⟩
def Qva:Shp:=⟨[(0,.d Qp)],[]⟩
def Q25:An:=.t 2 (.two (.t 23 (.two (.gh (.tl .done) .nil) (.nil))) (.t 1 (.two (.two (.reg (.n 3 (.call 0 (.n 1 .done)))) (.un (.lp [0,3] [3] ⟨[(5,.s 100000),(6,.d .i)],[(100000,.row 101 Qp)]⟩ [(.x 0,⟨[(5,.s 100100)],[(100100,.row 101 Qp)]⟩)] (.two (.two (.reg (.n 5 (.call 0 (.n 1 .done)))) (.two (.nil) (.nil))) (.two (.un (.reg (.n 3 (.call 1 (.n 3 .done))))) (.reg (.n 3 .done))))))) (.t 2 (.nil)))))
def Q26:Shp:=⟨[(0,.d .i),(1,.d Qp)],[]⟩
def Qvb:Shp:=⟨[(0,.d (.sl Qp))],[]⟩
def Qkl:An:=.t 2 (.two (.t 23 (.two (.gh (.tl .done) .nil) (.nil))) (.t 1 (.two (.two (.reg (.n 3 (.call 0 (.n 1 .done)))) (.un (.lp [0,3] [3] ⟨[(5,.s 100000),(6,.d .i)],[(100000,.row 101 Qp)]⟩ [(.x 0,⟨[(5,.s 100100)],[(100100,.row 101 Qp)]⟩)] (.two (.two (.reg (.n 5 (.call 0 (.n 1 .done)))) (.two (.nil) (.nil))) (.two (.un (.reg (.n 3 (.call 1 (.n 3 .done))))) (.reg (.n 3 .done))))))) (.t 2 (.nil)))))
def Qkm:Shp:=⟨[(0,.d .i),(1,.d Qp)],[]⟩
def Qgy:Shp:=⟨[(0,.s 1)],[(1,.row 101 Qp)]⟩
def Qkn:An:=.t 1 (.two (.reg (.n 4 (.call 0 (.n 6 .done)))) (.t 1 (.two (.dm 4 [16,17,18,19] [] (.n 3 (.call 1 (.tl (.n 2 .done))))) (.gh (.tl .done) .nil))))
def Qko:Shp:=⟨[(0,.d Qp),(1,.p 5000 []),(2,.p 5001 []),(3,.p 5003 [])],[(5000,.var 3 (.d .i)),(5001,.var 206 (.s 5002)),(5002,.row 101 Qp),(5003,.var 3 (.d .i))]⟩
def Qgz:Shp:=⟨[],[(5001,.var 206 (.s 1)),(1,.row 101 Qp)]⟩
def Q27:An:=.t 3 (.un (.lp [1,7,8] [] ⟨[(2,.p 5000 []),(9,.d .i)],[(5000,.var 342 (.s 100001)),(100001,.row 344 J5)]⟩ [(.x 0,⟨[],[(5000,.var 342 (.s 100101)),(100101,.row 344 J5)]⟩)] (.t 1 (.two (.two (.nil) (.nil)) (.two (.un (.t 4 (.two (.reg (.n 1 (.call 0 (.done)))) (.t 12 (.gh (.tl .done) .nil))))) (.reg (.n 2 .done)))))))
def Q28:Shp:=⟨[(0,.d (.sl Qp)),(1,.d .i),(2,.p 5000 [])],[(5000,.var 342 (.s 5001)),(5001,.row 344 J5)]⟩
def Qvc:Shp:=⟨[],[(5000,.var 342 (.s 1)),(1,.row 344 J5)]⟩
def Qkp:An:=.t 3 (.un (.lp [1,7,8] [] ⟨[(2,.p 5000 []),(9,.d .i)],[(5000,.var 342 (.s 100001)),(100001,.row 344 J5)]⟩ [(.x 0,⟨[],[(5000,.var 342 (.s 100101)),(100101,.row 344 J5)]⟩)] (.t 1 (.two (.two (.nil) (.nil)) (.two (.un (.t 4 (.two (.reg (.n 1 (.call 0 (.done)))) (.t 12 (.gh (.tl .done) .nil))))) (.reg (.n 2 .done)))))))
def Qkq:Shp:=⟨[(0,.d (.sl Qp)),(1,.d .i),(2,.p 5000 [])],[(5000,.var 342 (.s 5001)),(5001,.row 344 J5)]⟩
def Qg0:Shp:=⟨[],[(5000,.var 342 (.s 1)),(1,.row 344 J5)]⟩
def Q29:An:=.t 1 (.two (.t 2 (.two (.gh (.tl .done) .nil) (.nil))) (.two (.t 2 (.two (.gh (.tl .done) .nil) (.nil))) (.two (.t 2 (.two (.gh (.tl .done) .nil) (.nil))) (.t 7 (.nil)))))
def Q3a:Shp:=⟨[(0,.d (.int .u64))],[]⟩
def Qvd:Shp:=⟨[(0,.d .i)],[]⟩
def Q3b:An:=.t 1 (.two (.two (.nil) (.nil)) (.two (.reg (.n 1 (.call 0 (.n 1 .done)))) (.nil)))
def Q3c:Shp:=⟨[(0,.d (.int .u64))],[]⟩
def Qve:Shp:=⟨[(0,.d .i)],[]⟩
def Q3d:An:=.t 3 (.t 6 (.nil))
def Q3e:Shp:=⟨[(0,.d J5),(1,.d J5)],[]⟩
def Qvf:Shp:=⟨[(0,.d .i)],[]⟩
def Q3f:An:=.t 3 (.un (.lp [0,1,2,3] [] ⟨[(8,.d .i)],[]⟩ [(.x 0,⟨[],[]⟩)] (.two (.t 3 (.two (.nil) (.nil))) (.two (.un (.t 2 (.un (.lp [8,9] [] ⟨[],[]⟩ [(.x 2,⟨[],[]⟩)] (.two (.two (.dm 14 [18,19,20,21,22,23,24,25,26,27,28,29,30,31] [] (.n 4 (.so 21 (.n 10 (.tl (.call 0 (.nl 1 (.n 1 .done))))) (.n 10 (.tl (.nl 2 (.n 1 .done))))))) (.two (.nil) (.nil))) (.nil)))))) (.reg (.n 3 .done))))))
def Q3g:Shp:=⟨[(0,.d (.sl J5)),(1,.d .i),(2,.d .i),(3,.f 214 (.nil))],[]⟩
def Qvg:Shp:=⟨[],[]⟩
def Q3h:An:=.t 1 (.t 1 (.un (.lp [0,1,2,4] [] ⟨[],[]⟩ [(.r,⟨[],[]⟩)] (.un (.t 4 (.two (.t 2 (.two (.two (.reg (.n 4 (.call 0 (.done)))) (.nil)) (.gh (.tl .done) .nil))) (.nil)))))))
def Q3i:Shp:=⟨[(0,.d (.sl J5)),(1,.d .i),(2,.d .i),(3,.d .i),(4,.f 214 (.nil))],[]⟩
def Qvh:Shp:=⟨[],[]⟩
def Q3j:An:=.t 3 (.reg (.n 4 (.call 0 (.n 1 (.call 1 (.done))))))
def Q3k:Shp:=⟨[(0,.d (.sl J5)),(1,.f 214 (.nil))],[]⟩
def Qvi:Shp:=⟨[],[]⟩
def Q3l:An:=.t 1 (.t 2 (.nil))
def Q3m:Shp:=⟨[(0,.d .bool),(1,.d .bool)],[]⟩
def Qvj:Shp:=⟨[(0,.d .bool)],[]⟩
def Q3n:An:=.t 1 (.t 1 (.t 2 (.two (.reg (.n 2 (.call 0 (.done)))) (.two (.reg (.n 2 (.call 1 (.done)))) (.two (.reg (.n 1 (.call 2 (.done)))) (.t 1 (.t 1 (.t 1 (.two (.t 3 (.un (.lp [2,7,24,25] [7,12101] ⟨[(9,.s 100000),(10,.p 100001 []),(11,.d .bool),(26,.d .i)],[(100000,.row 101 Qp),(100001,.var 235 (.d (.arr 2 .i)))]⟩ [(.x 0,⟨[(9,.s 100300)],[(100300,.row 101 Qp)]⟩)] (.t 1 (.two (.two (.nil) (.nil)) (.two (.un (.t 6 (.two (.dr 8 (.n 8 .done) (.n 1 .done)) (.two (.two (.dr 16 (.n 6 (.sp 44 10 [9,10,11,12,13,26] [13,100000,100001] ⟨[(54,.d .bool)],[]⟩ (.nl 9 (.n 1 .done)) (.nl 9 (.n 1 .done)) (.done))) (.done)) (.two (.gh (.tl .done) .nil) (.nil))) (.two (.reg (.n 7 (.call 3 (.n 1 .done)))) (.two (.jn [10,14,26] [13,100001] [(.n,⟨[(9,.s 100200)],[(100200,.row 101 Qp)]⟩)] (.un (.t 6 (.t 7 (.t 6 (.t 9 (.gh (.tl .done) .nil))))))) (.reg (.n 2 .done)))))))) (.reg (.n 2 .done)))))))) (.t 2 (.nil)))))))))))
def Q3o:Shp:=⟨[(0,.d (.sl Qp)),(1,.d (.sl Qp)),(2,.f 187 (.nil))],[]⟩
def Qvk:Shp:=⟨[(0,.s 1)],[(1,.row 101 Qp)]⟩
def Q3p:An:=.t 1 (.two (.reg (.n 1 (.call 0 (.n 1 .done)))) (.nil))
def Q3q:Shp:=⟨[(0,.d (.sl Qp))],[]⟩
def Qvl:Shp:=⟨[(0,.s 1)],[(1,.row 101 Qp)]⟩
def Je9:An:=.t 3 (.t 1 (.t 2 (.two (.t 3 (.un (.lp [17,18] [] ⟨[(4,.p 100000 []),(7,.p 100001 []),(8,.f 149 (.cons (.p 100002 []) (.cons (.p 100001 []) (.cons (.p 100000 []) (.nil))))),(19,.d .i)],[(100000,.var 3 (.d .i)),(100001,.var 206 (.s 100003)),(100002,.var 3 (.d .i)),(100003,.row 101 Qp)]⟩ [(.x 0,⟨[(4,.p 100300 []),(7,.p 100301 [])],[(100300,.var 3 (.d .i)),(100301,.var 206 (.s 100302)),(100302,.row 101 Qp)]⟩)] (.t 1 (.two (.two (.nil) (.nil)) (.two (.un (.t 4 (.t 4 (.un (.lp [19,24,25] [10] ⟨[(4,.p 100100 []),(7,.p 100101 []),(8,.f 149 (.cons (.p 100102 []) (.cons (.p 100101 []) (.cons (.p 100100 []) (.nil))))),(26,.d .i)],[(100100,.var 3 (.d .i)),(100101,.var 206 (.s 100103)),(100102,.var 3 (.d .i)),(100103,.row 101 Qp)]⟩ [(.x 2,⟨[(4,.p 100200 []),(7,.p 100201 []),(8,.f 149 (.cons (.p 100202 []) (.cons (.p 100201 []) (.cons (.p 100200 []) (.nil)))))],[(100200,.var 3 (.d .i)),(100201,.var 206 (.s 100203)),(100202,.var 3 (.d .i)),(100203,.row 101 Qp)]⟩)] (.t 1 (.two (.two (.nil) (.nil)) (.two (.un (.t 4 (.reg (.n 2 (.call 0 (.done)))))) (.reg (.n 2 .done)))))))))) (.reg (.n 2 .done)))))))) (.t 1 (.two (.two (.reg (.n 1 (.call 1 (.n 2 .done)))) (.un (.lp [4,36,37] [13601,100300,100301,100302] ⟨[(13,.s 100400),(38,.d .i)],[(100400,.row 101 Qp)]⟩ [(.x 4,⟨[(13,.s 100500)],[(100500,.row 101 Qp)]⟩)] (.t 1 (.two (.two (.nil) (.nil)) (.two (.un (.t 4 (.reg (.n 3 (.call 2 (.n 2 .done)))))) (.reg (.n 2 .done)))))))) (.t 2 (.nil)))))))
def Jfa:Shp:=⟨[(0,.d (.sl V5)),(1,.d .i),(2,.d .i)],[]⟩
def Q3r:Shp:=⟨[(0,.s 1)],[(1,.row 101 Qp)]⟩
def Q3s:An:=.t 2 (.t 11 (.nil))
def Q3t:Shp:=⟨[(0,.d Vr),(1,.p 5000 []),(2,.p 5001 [])],[(5000,.var 9 (.d .str)),(5001,.var 3 (.d .i))]⟩
def Qvm:Shp:=⟨[(0,.d .bool)],[]⟩
def Q3u:An:=.t 1 (.t 1 (.two (.t 3 (.un (.lp [1,8,9] [] ⟨[(5,.s 100000),(10,.d .i)],[(100000,.row 131 Vr)]⟩ [(.x 0,⟨[(5,.s 100100)],[(100100,.row 131 Vr)]⟩)] (.t 1 (.two (.two (.nil) (.nil)) (.two (.un (.t 4 (.two (.reg (.n 2 (.call 0 (.done)))) (.t 5 (.gh (.tl .done) .nil))))) (.reg (.n 2 .done)))))))) (.t 2 (.nil))))
def Q3v:Shp:=⟨[(0,.d (.sl Vr)),(1,.f 189 (.cons (.p 5000 []) (.cons (.p 5001 []) (.nil))))],[(5000,.var 9 (.d .str)),(5001,.var 3 (.d .i))]⟩
def Qvn:Shp:=⟨[(0,.s 1)],[(1,.row 131 Vr)]⟩
def Q3w:An:=.t 2 (.t 1 (.two (.t 4 (.un (.lp [1,2,7,8] [1,2] ⟨[(3,.s 100000),(9,.d .i)],[(100000,.row 128 Xb)]⟩ [(.x 0,⟨[(3,.s 100100)],[(100100,.row 128 Xb)]⟩)] (.t 1 (.two (.two (.nil) (.nil)) (.two (.un (.t 4 (.t 5 (.reg (.n 2 (.fz 15 (.n 3 .done))))))) (.reg (.n 2 .done)))))))) (.t 3 (.t 2 (.nil)))))
def Q3x:Shp:=⟨[(0,.d Vr)],[]⟩
def Qvo:Shp:=⟨[(0,.ag (.cons (.d .str) (.cons (.d .i) (.cons (.d .i) (.cons (.d .str) (.cons (.d .bool) (.cons (.s 1) (.nil))))))))],[(1,.row 128 Xb)]⟩
def Q3y:An:=.t 4 (.two (.reg (.n 2 (.call 0 (.n 1 .done)))) (.two (.t 3 (.two (.gh (.tl .done) .nil) (.nil))) (.two (.reg (.n 6 (.call 1 (.n 2 .done)))) (.nil))))
def Q3z:Shp:=⟨[(0,.d (.sl Vr)),(1,.d .str),(2,.d .i)],[]⟩
def Qvp:Shp:=⟨[(0,.ag (.cons (.d .str) (.cons (.d .i) (.cons (.d .i) (.cons (.d .str) (.cons (.d .bool) (.cons (.s 1) (.nil)))))))),(1,.d .bool)],[(1,.row 128 Xb)]⟩
def Q30:An:=.t 3 (.two (.t 4 (.un (.lp [1,3,5,18,19,20] [3,5] ⟨[],[]⟩ [(.r,⟨[(6,.s 100300)],[(100300,.row 213 Ul)]⟩)] (.t 1 (.two (.two (.nil) (.gh (.tl .done) .nil)) (.two (.un (.t 4 (.two (.reg (.n 2 (.call 0 (.n 6 .done)))) (.two (.t 2 (.two (.gh (.tl .done) .nil) (.nil))) (.two (.reg (.n 5 (.call 1 (.n 6 .done)))) (.t 1 (.two (.t 4 (.un (.lp [9,42,43] [8,9,11,13801] ⟨[(13,.s 100100),(44,.d .i)],[(100100,.row 213 Ul)]⟩ [(.x 2,⟨[(13,.s 100200)],[(100200,.row 213 Ul)]⟩)] (.t 1 (.two (.two (.nil) (.nil)) (.two (.un (.t 6 (.t 23 (.reg (.n 8 .done))))) (.reg (.n 2 .done)))))))) (.t 2 (.nil))))))))) (.nil))))))) (.nil))
def Q31:Shp:=⟨[(0,.d V5),(1,.d (.sl Vr)),(2,.d Qp)],[]⟩
def Qvq:Shp:=⟨[(0,.s 1)],[(1,.row 213 Ul)]⟩
def Qkr:An:=.t 1 (.two (.two (.dm 7 [9,10,11,12,13,14,15] [] (.n 6 (.call 0 (.tl (.n 1 .done))))) (.two (.nil) (.nil))) (.two (.reg (.n 2 (.call 1 (.n 2 .done)))) (.two (.t 6 (.un (.lp [0,4,24,25] [3,4,5000,5001,11901] ⟨[],[]⟩ [(.x 0,⟨[],[]⟩)] (.t 1 (.two (.two (.gh (.tl .done) .nil) (.nil)) (.nil)))))) (.t 1 (.two (.un (.lp [0,4,7] [3,4,5000,5001,11901] ⟨[],[]⟩ [(.x 2,⟨[],[]⟩)] (.two (.two (.jn [] [] [(.n,⟨[(55,.d .bool)],[]⟩)] (.dm 16 [38,39,40,41,42,43,44,45,46,47,48,49,50,51,52,53] [] (.n 8 (.so 45 (.tl .done) (.n 8 (.tl (.nl 1 (.n 1 .done)))))))) (.two (.gh (.tl .done) .nil) (.nil))) (.nil)))) (.t 8 (.two (.reg (.n 2 (.fz 11901 (.n 3 .done)))) (.t 12 (.dm 6 [80,81,82,83,84,85] [] (.n 5 (.call 0 (.tl (.n 1 .done)))))))))))))
def Qks:Shp:=⟨[(0,.p 5000 []),(1,.d Ul)],[(5000,.var 198 (.ag (.cons (.d (.sl Qy)) (.cons (.m 5001) (.nil))))),(5001,.map J4 .bool)]⟩
def Qg1:Shp:=⟨[],[(5000,.var 198 (.ag (.cons (.d (.sl Qy)) (.cons (.m 5001) (.nil))))),(5001,.map J4 .bool)]⟩
def Jfb:An:=.t 2 (.t 4 (.two (.t 4 (.un (.lp [0,1,3,4,7,10,27,28] [7,10] ⟨[(11,.p 100000 []),(29,.d .i)],[(100000,.var 198 (.ag (.cons (.s 100001) (.cons (.m 100002) (.nil))))),(100001,.tail 142 Qy),(100002,.map J4 .bool)]⟩ [(.x 0,⟨[(11,.p 100100 [])],[(100100,.var 198 (.ag (.cons (.s 100101) (.cons (.m 100102) (.nil))))),(100101,.tail 142 Qy),(100102,.map J4 .bool)]⟩)] (.t 1 (.two (.two (.nil) (.nil)) (.two (.un (.t 4 (.two (.dm 9 [33,34,35,36,37,38,39,40,41] [100001] (.n 6 (.call 0 (.n 2 (.tl (.n 3 .done)))))) (.dm 6 [44,45,46,47,48,49] [] (.n 5 (.call 1 (.tl (.n 1 .done)))))))) (.reg (.n 2 .done)))))))) (.two (.dm 8 [51,52,53,54,55,56,57,14] [] (.n 8 (.tl (.n 1 .done)))) (.two (.reg (.n 2 (.call 2 (.n 1 .done)))) (.two (.t 10 (.two (.two (.reg (.n 2 (.call 3 (.n 1 .done)))) (.two (.reg (.n 3 (.call 4 (.n 2 .done)))) (.un (.lp [1,4,10,14,16,77,78] [7,10,14,53,56,17301,17701] ⟨[(11,.p 100200 []),(79,.d .i)],[(100200,.var 198 (.ag (.cons (.d (.sl Qy)) (.cons (.m 100201) (.nil))))),(100201,.map J4 .bool)]⟩ [(.x 2,⟨[(11,.p 100700 [])],[(100700,.var 198 (.ag (.cons (.d (.sl Qy)) (.cons (.m 100701) (.nil))))),(100701,.map J4 .bool)]⟩)] (.t 1 (.two (.two (.nil) (.nil)) (.two (.un (.t 4 (.t 3 (.un (.lp [18,79,83,84] [18] ⟨[(11,.p 100300 []),(85,.d .i)],[(100300,.var 198 (.ag (.cons (.d (.sl Qy)) (.cons (.m 100301) (.nil))))),(100301,.map J4 .bool)]⟩ [(.x 4,⟨[(11,.p 100600 [])],[(100600,.var 198 (.ag (.cons (.d (.sl Qy)) (.cons (.m 100601) (.nil))))),(100601,.map J4 .bool)]⟩)] (.t 1 (.two (.two (.nil) (.nil)) (.two (.un (.t 4 (.two (.reg (.n 3 (.call 5 (.n 2 .done)))) (.un (.lp [85,92,93] [20,19201] ⟨[(11,.p 100400 []),(94,.d .i)],[(100400,.var 198 (.ag (.cons (.d (.sl Qy)) (.cons (.m 100401) (.nil))))),(100401,.map J4 .bool)]⟩ [(.x 6,⟨[(11,.p 100500 [])],[(100500,.var 198 (.ag (.cons (.d (.sl Qy)) (.cons (.m 100501) (.nil))))),(100501,.map J4 .bool)]⟩)] (.t 1 (.two (.two (.nil) (.nil)) (.two (.un (.t 4 (.t 6 (.two (.reg (.n 2 (.call 6 (.done)))) (.gh (.tl .done) .nil))))) (.reg (.n 2 .done)))))))))) (.reg (.n 2 .done)))))))))) (.reg (.n 2 .done))))))))) (.gh (.tl .done) .nil))) (.t 6 (.t 2 (.nil))))))))
def Jfc:Shp:=⟨[(0,.d (.sl Yg)),(1,.d (.sl Vr)),(2,.d Q3),(3,.d .i),(4,.d .i)],[]⟩
def Q32:Shp:=⟨[(0,.ag (.cons (.d (.sl Qy)) (.cons (.s 1) (.cons (.s 2) (.nil)))))],[(1,.row 71 Jo),(2,.row 73 Je)]⟩
def Q33:An:=.t 2 (.t 5 (.t 2 (.nil)))
def Q34:Shp:=⟨[(0,.d Qy)],[]⟩
def Qvr:Shp:=⟨[(0,.ag (.cons (.d .i) (.cons (.d .i) (.cons (.d .str) (.cons (.d .i) (.cons (.d .i) (.cons (.s 1) (.cons (.d Qp) (.cons (.d .i) (.cons (.d .i) (.cons (.d .i) (.cons (.d .bool) (.nil)))))))))))))],[(1,.row 9 .str)]⟩
def Q35:An:=.t 1 (.t 1 (.two (.t 3 (.un (.lp [6,7] [] ⟨[(3,.s 100000),(8,.d .i)],[(100000,.row 142 Qy)]⟩ [(.x 0,⟨[(3,.s 100100)],[(100100,.row 142 Qy)]⟩)] (.t 1 (.two (.two (.nil) (.nil)) (.two (.un (.t 4 (.reg (.n 2 (.call 0 (.fz 11401 (.n 3 .done))))))) (.reg (.n 2 .done)))))))) (.t 2 (.nil))))
def Q36:Shp:=⟨[(0,.d (.sl Qy))],[]⟩
def Qvs:Shp:=⟨[(0,.s 1)],[(1,.row 142 Qy)]⟩
def Q37:An:=.t 1 (.two (.t 4 (.two (.t 1 (.two (.t 2 (.un (.lp [2] [] ⟨[(7,.s 100000),(8,.d .i)],[(100000,.row 3 .i)]⟩ [(.x 0,⟨[(7,.s 100100)],[(100100,.row 3 .i)]⟩)] (.two (.t 3 (.two (.nil) (.nil))) (.two (.un (.reg (.n 5 .done))) (.reg (.n 3 .done))))))) (.t 2 (.nil)))) (.gh (.tl .done) .nil))) (.nil))
def Q38:Shp:=⟨[(0,.d (.sl Qy)),(1,.d .i),(2,.d .i)],[]⟩
def Qvt:Shp:=⟨[(0,.s 1)],[(1,.row 3 .i)]⟩
def Q39:An:=.t 2 (.two (.two (.reg (.n 10 (.sp 26 6 [1,2,5,6,7] [7] ⟨[(32,.d .bool)],[]⟩ (.nl 5 (.n 1 .done)) (.nl 3 (.call 0 (.nl 1 (.n 1 .done)))) (.done)))) (.two (.gh (.tl .done) .nil) (.nil))) (.two (.t 19 (.two (.gh (.tl .done) .nil) (.nil))) (.two (.t 4 (.un (.lp [7,54,55] [7] ⟨[],[]⟩ [(.x 0,⟨[],[]⟩)] (.t 1 (.two (.two (.gh (.tl .done) .nil) (.nil)) (.nil)))))) (.t 5 (.nil)))))
def Q4a:Shp:=⟨[(0,.d Qy),(1,.d .i),(2,.d .i),(3,.d .i),(4,.d .str),(5,.d .bool),(6,.d .i)],[]⟩
def Qvu:Shp:=⟨[(0,.d .bool)],[]⟩
def Q4b:An:=.t 2 (.t 11 (.nil))
def Q4c:Shp:=⟨[(0,.d Qy)],[]⟩
def Qvv:Shp:=⟨[(0,.d Ao)],[]⟩
def Q4d:An:=.t 3 (.two (.reg (.n 1 (.call 0 (.n 1 .done)))) (.t 1 (.t 3 (.two (.two (.reg (.n 3 (.call 1 (.n 2 .done)))) (.un (.lp [0,1,2,3,4,5,6,32,33] [13201] ⟨[(7,.d .i),(19,.s 100000),(20,.s 100001),(34,.d .i)],[(100000,.row 142 Qy),(100001,.row 33 J2)]⟩ [(.x 0,⟨[(7,.d .i),(19,.s 100100),(20,.s 100101)],[(100100,.row 142 Qy),(100101,.row 33 J2)]⟩)] (.t 1 (.two (.two (.nil) (.nil)) (.two (.un (.t 3 (.two (.t 2 (.two (.gh (.tl .done) .nil) (.nil))) (.two (.two (.reg (.n 10 (.call 2 (.n 1 .done)))) (.two (.gh (.tl .done) .nil) (.nil))) (.t 8 (.t 10 (.t 4 (.two (.reg (.n 4 (.call 3 (.n 2 .done)))) (.reg (.n 14 .done)))))))))) (.reg (.n 2 .done)))))))) (.t 6 (.nil))))))
def Q4e:Shp:=⟨[(0,.d (.sl Qy)),(1,.d .i),(2,.d .i),(3,.d .i),(4,.d .str),(5,.d .bool),(6,.d .i),(7,.d .i)],[]⟩
def Qvw:Shp:=⟨[(0,.s 1),(1,.s 2),(2,.d .i)],[(1,.row 142 Qy),(2,.row 33 J2)]⟩
def Jfd:An:=.t 5 (.two (.reg (.n 1 (.call 0 (.n 2 .done)))) (.two (.reg (.n 14 (.call 1 (.n 7 .done)))) (.t 3 (.t 6 (.nil)))))
def Jfe:Shp:=⟨[(0,.d Q3),(1,.d Qk),(2,.d .str),(3,.d .bool)],[]⟩
def Q4f:Shp:=⟨[(0,.d Q3),(1,.d (.sl J2)),(2,.d .i)],[]⟩
def Jff:An:=.two (.dm 21 [5,6,7,8,9,10,11,12,13,14,15,16,17,18,19,20,21,22,23,24,2] [] (.n 19 (.call 0 (.n 1 (.tl (.n 1 .done)))))) (.two (.dr 21 (.n 21 .done) (.call 1 (.n 1 .done))) (.two (.gh (.fz 14602 (.fz 14601 (.done))) (.dm 22 [48,49,50,51,52,53,54,55,56,57,58,59,60,61,62,63,47,64,65,66,1000000020,3] [2] (.n 15 (.call 2 (.n 6 (.tl (.n 1 .done))))))) (.t 5 (.t 6 (.reg (.n 11 .done))))))
def Jfg:Shp:=⟨[(0,.p 5000 [])],[(5000,.var 114 (.ag (.cons (.d Js) (.cons (.d Q3) (.cons (.d Qk) (.cons (.d Jn) (.cons (.d Qx) (.cons (.d Jp) (.cons (.d .i) (.cons (.ag (.cons (.d Qk) (.cons (.d .i) (.cons (.d .str) (.cons (.d .i) (.cons (.d .str) (.cons (.s 5001) (.cons (.s 5002) (.cons (.d .i) (.cons (.d .i) (.cons (.d .i) (.cons (.s 5003) (.cons (.d .i) (.cons (.d .i) (.nil))))))))))))))) (.nil))))))))))),(5001,.row 33 J2),(5002,.row 35 Q9),(5003,.row 76 Jw)]⟩
def Q4g:Shp:=⟨[],[(5000,.var 114 (.ag (.cons (.d Js) (.cons (.d Q3) (.cons (.d Qk) (.cons (.d Jn) (.cons (.d Qx) (.cons (.d Jp) (.cons (.d .i) (.cons (.ag (.cons (.d Qk) (.cons (.d .i) (.cons (.d .str) (.cons (.d .i) (.cons (.d .str) (.cons (.d (.sl J2)) (.cons (.s 1) (.cons (.d .i) (.cons (.d .i) (.cons (.d .i) (.cons (.s 2) (.cons (.d .i) (.cons (.d .i) (.nil))))))))))))))) (.nil))))))))))),(1,.row 35 Q9),(2,.row 76 Jw)]⟩
def Q4h:An:=.t 2 (.two (.t 23 (.two (.t 1 (.nil)) (.nil))) (.t 17 (.nil)))
def Q4i:Shp:=⟨[(0,.d Qk),(1,.d .i)],[]⟩
def Qvx:Shp:=⟨[(0,.d .bool)],[]⟩
def Q4j:An:=.t 1 (.two (.t 3 (.un (.lp [0,6] [] ⟨[(7,.d .i)],[]⟩ [(.x 0,⟨[],[]⟩)] (.t 1 (.two (.two (.nil) (.nil)) (.two (.un (.t 2 (.t 4 (.t 22 (.two (.gh (.tl .done) .nil) (.nil)))))) (.reg (.n 2 .done)))))))) (.t 9 (.nil)))
def Q4k:Shp:=⟨[(0,.d .str)],[]⟩
def Qvy:Shp:=⟨[(0,.d .bool)],[]⟩
def Q4l:An:=.t 1 (.two (.t 3 (.un (.lp [7,8] [] ⟨[],[]⟩ [(.x 0,⟨[],[]⟩)] (.t 1 (.two (.two (.gh (.tl .done) .nil) (.nil)) (.nil)))))) (.t 1 (.nil)))
def Q4m:Shp:=⟨[(0,.d (.sl Yo)),(1,.f 170 (.cons (.p 5000 []) (.nil)))],[(5000,.var 121 (.d Yo))]⟩
def Qvz:Shp:=⟨[(0,.d .i)],[]⟩
def Q4n:An:=.t 1 (.two (.reg (.n 2 (.call 0 (.n 2 .done)))) (.nil))
def Q4o:Shp:=⟨[(0,.d (.sl Yo)),(1,.f 170 (.cons (.p 5000 []) (.nil)))],[(5000,.var 121 (.d Yo))]⟩
def Qv0:Shp:=⟨[(0,.d .bool)],[]⟩
def Q4p:An:=.t 1 (.two (.t 3 (.two (.gh (.tl .done) .nil) (.nil))) (.two (.t 3 (.two (.gh (.tl .done) .nil) (.nil))) (.two (.t 3 (.un (.lp [0,12,13] [] ⟨[(14,.d .i)],[]⟩ [(.x 0,⟨[],[]⟩)] (.t 1 (.two (.two (.nil) (.nil)) (.two (.un (.t 6 (.two (.two (.reg (.n 2 (.call 0 (.n 1 .done)))) (.two (.gh (.tl .done) .nil) (.nil))) (.two (.two (.reg (.n 4 (.call 1 (.done)))) (.two (.gh (.tl .done) .nil) (.nil))) (.two (.t 5 (.two (.two (.t 4 (.two (.gh (.tl .done) .nil) (.nil))) (.nil)) (.gh (.tl .done) .nil))) (.nil)))))) (.reg (.n 2 .done)))))))) (.t 1 (.nil)))))
def Q4q:Shp:=⟨[(0,.d (.sl Yo))],[]⟩
def Qv1:Shp:=⟨[(0,.d .i)],[]⟩
def Q4r:An:=.t 1 (.two (.t 3 (.un (.lp [7,8] [] ⟨[],[]⟩ [(.x 0,⟨[],[]⟩)] (.t 1 (.two (.two (.gh (.tl .done) .nil) (.nil)) (.nil)))))) (.t 1 (.nil)))
def Q4s:Shp:=⟨[(0,.d (.sl .i)),(1,.d .i)],[]⟩
def Qv2:Shp:=⟨[(0,.d .i)],[]⟩
def Q4t:An:=.t 1 (.two (.reg (.n 2 (.call 0 (.n 2 .done)))) (.nil))
def Q4u:Shp:=⟨[(0,.d (.sl .i)),(1,.d .i)],[]⟩
def Qv3:Shp:=⟨[(0,.d .bool)],[]⟩
def Q4v:An:=.t 1 (.two (.t 6 (.two (.gh (.tl .done) .nil) (.nil))) (.t 4 (.nil)))
def Q4w:Shp:=⟨[(0,.d .i)],[]⟩
def Qv4:Shp:=⟨[(0,.d .i)],[]⟩
def Q4x:An:=.t 1 (.two (.two (.reg (.n 2 (.call 0 (.done)))) (.two (.gh (.tl .done) .nil) (.nil))) (.two (.reg (.n 1 (.call 1 (.n 2 .done)))) (.nil)))
def Q4y:Shp:=⟨[(0,.d (.sl .i)),(1,.d .i)],[]⟩
def Qv5:Shp:=⟨[(0,.d .i)],[]⟩
def Q4z:An:=.t 1 (.two (.t 3 (.un (.lp [7,8] [] ⟨[],[]⟩ [(.x 0,⟨[],[]⟩)] (.t 1 (.two (.two (.gh (.tl .done) .nil) (.nil)) (.nil)))))) (.t 1 (.nil)))
def Q40:Shp:=⟨[(0,.d (.sl Ge)),(1,.f 172 (.cons (.p 5000 []) (.cons (.p 5001 []) (.nil))))],[(5000,.var 3 (.d .i)),(5001,.var 3 (.d .i))]⟩
def Qv6:Shp:=⟨[(0,.d .i)],[]⟩
def Q41:An:=.t 1 (.two (.reg (.n 2 (.call 0 (.n 2 .done)))) (.nil))
def Q42:Shp:=⟨[(0,.d (.sl Ge)),(1,.f 172 (.cons (.p 5000 []) (.cons (.p 5001 []) (.nil))))],[(5000,.var 3 (.d .i)),(5001,.var 3 (.d .i))]⟩
def Qv7:Shp:=⟨[(0,.d .bool)],[]⟩
def Q43:An:=.t 3 (.t 2 (.two (.t 3 (.un (.lp [0,7,11,12] [4,5] ⟨[(13,.d .i)],[]⟩ [(.x 0,⟨[],[]⟩)] (.t 1 (.two (.two (.nil) (.nil)) (.two (.un (.t 4 (.two (.reg (.n 3 (.call 0 (.done)))) (.two (.gh (.tl .done) .nil) (.nil))))) (.reg (.n 2 .done)))))))) (.t 8 (.nil))))
def Q44:Shp:=⟨[(0,.d (.sl Yo)),(1,.d .i),(2,.d .i)],[]⟩
def Qv8:Shp:=⟨[(0,.d .str)],[]⟩
def Jfh:An:=.t 1 (.two (.two (.reg (.n 1 (.call 0 (.n 9 .done)))) (.two (.gh (.tl .done) .nil) (.nil))) (.two (.reg (.n 4 (.call 1 (.n 3 (.call 2 (.n 1 .done)))))) (.nil)))
def Jfi:Shp:=⟨[(0,.d (.sl Yo)),(1,.d (.sl .i)),(2,.d .i)],[]⟩
def Q45:Shp:=⟨[(0,.d .str)],[]⟩
def Q46:An:=.t 2 (.t 27 (.nil))
def Q47:Shp:=⟨[(0,.d Vn),(1,.p 5000 []),(2,.p 5001 []),(3,.p 5002 [])],[(5000,.var 3 (.d .i)),(5001,.var 9 (.d .str)),(5002,.var 9 (.d .str))]⟩
def Qv9:Shp:=⟨[(0,.d .bool)],[]⟩
def Q48:An:=.t 6 (.t 2 (.two (.t 4 (.un (.lp [10,15,16,17] [4,5,6,7] ⟨[(8,.p 100000 [])],[(100000,.var 126 (.ag (.cons (.d .i) (.cons (.d .str) (.cons (.d .str) (.cons (.d .i) (.cons (.ns) (.nil))))))))]⟩ [(.r,⟨[(8,.p 100100 []),(9,.d .bool)],[(100100,.var 126 (.ag (.cons (.d .i) (.cons (.d .str) (.cons (.d .str) (.cons (.d .i) (.cons (.s 100101) (.nil)))))))),(100101,.row 123 Kx)]⟩)] (.t 1 (.two (.two (.nil) (.gh (.tl .done) .nil)) (.two (.un (.t 4 (.two (.reg (.n 2 (.call 0 (.done)))) (.two (.t 5 (.t 3 (.nil))) (.gh (.tl .done) .nil))))) (.nil))))))) (.nil)))
def Q49:Shp:=⟨[(0,.d Jp),(1,.d .i),(2,.d .str),(3,.d .str)],[]⟩
def Qwa:Shp:=⟨[(0,.d Vn),(1,.d .bool)],[]⟩
def Q5a:An:=.t 1 (.two (.t 3 (.un (.lp [0,7,8] [] ⟨[(9,.d .i)],[]⟩ [(.x 0,⟨[],[]⟩)] (.t 1 (.two (.two (.nil) (.nil)) (.two (.un (.t 3 (.t 7 (.two (.gh (.tl .done) .nil) (.nil))))) (.reg (.n 2 .done)))))))) (.t 1 (.nil)))
def Q5b:Shp:=⟨[(0,.d .i),(1,.d (.sl .i))],[]⟩
def Qwb:Shp:=⟨[(0,.d .bool)],[]⟩
def Q5c:An:=.t 1 (.two (.t 3 (.two (.gh (.tl .done) .nil) (.nil))) (.two (.t 3 (.two (.gh (.tl .done) .nil) (.nil))) (.t 1 (.two (.t 3 (.un (.lp [0,12,13] [] ⟨[(3,.d .i),(14,.d .i)],[]⟩ [(.x 0,⟨[],[]⟩)] (.t 1 (.two (.two (.nil) (.nil)) (.two (.un (.t 6 (.two (.two (.reg (.n 5 (.call 0 (.n 7 (.sp 31 6 [3,4,5,14] [5] ⟨[(37,.d .bool)],[]⟩ (.nl 5 (.n 1 .done)) (.nl 3 (.call 0 (.nl 1 (.n 1 .done)))) (.done)))))) (.two (.gh (.tl .done) .nil) (.nil))) (.two (.t 9 (.two (.gh (.tl .done) .nil) (.nil))) (.two (.t 9 (.two (.gh (.tl .done) .nil) (.nil))) (.reg (.n 3 .done))))))) (.reg (.n 2 .done)))))))) (.t 1 (.nil))))))
def Q5d:Shp:=⟨[(0,.d (.sl Kx))],[]⟩
def Qwc:Shp:=⟨[(0,.d .i)],[]⟩
def Q5e:An:=.t 2 (.t 2 (.two (.t 3 (.un (.lp [1,12,13] [] ⟨[(6,.d .i),(7,.d .i),(14,.d .i)],[]⟩ [(.x 0,⟨[(6,.d .i)],[]⟩)] (.t 1 (.two (.two (.nil) (.nil)) (.two (.un (.t 4 (.t 2 (.two (.t 3 (.two (.gh (.tl .done) .nil) (.nil))) (.two (.t 3 (.two (.nil) (.nil))) (.t 11 (.two (.two (.dr 7 (.n 7 .done) (.done)) (.two (.gh (.tl .done) .nil) (.nil))) (.t 7 (.reg (.n 2 .done)))))))))) (.reg (.n 2 .done)))))))) (.t 3 (.nil))))
def Q5f:Shp:=⟨[(0,.d (.sl Kx)),(1,.d .i)],[]⟩
def Qwd:Shp:=⟨[(0,.d .i),(1,.d .bool)],[]⟩
def Q5g:An:=.t 2 (.two (.two (.reg (.n 1 (.call 0 (.n 1 .done)))) (.two (.gh (.tl .done) .nil) (.nil))) (.two (.t 16 (.two (.gh (.tl .done) .nil) (.nil))) (.two (.reg (.n 4 (.call 1 (.n 5 .done)))) (.two (.t 2 (.two (.gh (.tl .done) .nil) (.nil))) (.two (.reg (.n 2 (.call 1 (.n 5 .done)))) (.t 5 (.nil)))))))
def Q5h:Shp:=⟨[(0,.d (.sl Kx)),(1,.d .i),(2,.d .i)],[]⟩
def Qwe:Shp:=⟨[(0,.d .i),(1,.d .i)],[]⟩
def Qkt:An:=.t 3 (.two (.two (.reg (.n 2 (.call 0 (.n 2 (.sp 17 5 [1,3,4,6] [4,6] ⟨[(22,.d .bool)],[]⟩ (.nl 4 (.n 1 .done)) (.nl 2 (.call 1 (.nl 1 (.n 1 .done)))) (.done)))))) (.two (.t 1 (.nil)) (.nil))) (.t 3 (.two (.t 3 (.t 4 (.gh (.tl .done) .nil))) (.two (.t 8 (.two (.two (.dm 10 [39,40,41,42,43,44,45,46,47,48] [] (.n 4 (.call 2 (.n 5 (.tl (.n 1 (.br (.n 1 .done)))))))) (.nil)) (.gh (.tl .done) .nil))) (.nil)))))
def Qku:Shp:=⟨[(0,.d Jp),(1,.d (.sl .i)),(2,.d Qk),(3,.d .i)],[]⟩
def Qg2:Shp:=⟨[(0,.s 1)],[(1,.row 35 Q9)]⟩
def Jfj:An:=.t 5 (.un (.two (.reg (.n 4 (.call 0 (.n 5 .done)))) (.two (.reg (.n 4 (.call 1 (.n 1 .done)))) (.t 4 (.two (.nil) (.two (.t 3 (.un (.lp [4,6,11,17,37] [4,6] ⟨[(13,.s 100000),(14,.d .i),(15,.d .i),(16,.d .i),(38,.d .i)],[(100000,.row 35 Q9)]⟩ [(.x 0,⟨[(13,.s 100100),(14,.d .i),(15,.d .i)],[(100100,.row 35 Q9)]⟩)] (.t 1 (.two (.two (.nil) (.nil)) (.two (.un (.t 2 (.two (.dm 15 [42,43,44,45,46,47,48,49,50,51,41,52,53,19,1000000014] [] (.n 9 (.call 2 (.n 5 (.tl (.n 1 .done)))))) (.two (.t 2 (.two (.gh (.tl .done) .nil) (.nil))) (.two (.t 2 (.t 3 (.gh (.tl .done) .nil))) (.two (.dm 13 [61,62,63,64,65,66,67,68,69,60,70,71,21] [] (.n 8 (.call 3 (.n 4 (.tl (.n 1 .done)))))) (.two (.t 2 (.two (.gh (.tl .done) .nil) (.nil))) (.t 6 (.t 8 (.reg (.n 5 .done))))))))))) (.reg (.n 2 .done)))))))) (.two (.t 16 (.two (.gh (.tl .done) .nil) (.nil))) (.two (.t 2 (.two (.gh (.tl .done) .nil) (.nil))) (.t 5 (.nil))))))))))
def Jfk:Shp:=⟨[(0,.d Jp),(1,.d (.sl .i)),(2,.d Qk),(3,.d .i)],[]⟩
def Q5i:Shp:=⟨[(0,.d (.sl Q9)),(1,.d .i),(2,.d .i)],[]⟩
def Jfl:An:=.t 1 (.two (.dm 24 [10,11,12,13,14,15,16,17,18,19,20,21,22,23,24,25,26,27,9,28,29,30,3,4] [] (.n 17 (.call 0 (.n 6 (.tl (.n 1 .done)))))) (.two (.t 2 (.two (.gh (.tl .done) .nil) (.nil))) (.t 2 (.two (.t 3 (.un (.lp [0,3,4,35,36] [5000,5002] ⟨[(6,.d .i),(37,.d .i)],[]⟩ [(.x 0,⟨[(6,.d .i)],[]⟩)] (.t 1 (.two (.two (.nil) (.nil)) (.two (.un (.t 4 (.t 2 (.t 5 (.gh (.tl .done) .nil))))) (.reg (.n 2 .done)))))))) (.two (.t 2 (.two (.gh (.tl .done) .nil) (.nil))) (.t 18 (.t 1 (.nil))))))))
def Jfm:Shp:=⟨[(0,.p 5000 [])],[(5000,.var 114 (.ag (.cons (.d Js) (.cons (.d Q3) (.cons (.d Qk) (.cons (.d Jn) (.cons (.d Qx) (.cons (.d Jp) (.cons (.d .i) (.cons (.ag (.cons (.d Qk) (.cons (.d .i) (.cons (.d .str) (.cons (.d .i) (.cons (.d .str) (.cons (.d (.sl J2)) (.cons (.s 5001) (.cons (.d .i) (.cons (.d .i) (.cons (.d .i) (.cons (.s 5002) (.cons (.d .i) (.cons (.d .i) (.nil))))))))))))))) (.nil))))))))))),(5001,.row 35 Q9),(5002,.row 76 Jw)]⟩
def Q5j:Shp:=⟨[(0,.d .i)],[(5000,.var 114 (.ag (.cons (.d Js) (.cons (.d Q3) (.cons (.d Qk) (.cons (.d Jn) (.cons (.d Qx) (.cons (.d Jp) (.cons (.d .i) (.cons (.ag (.cons (.d Qk) (.cons (.d .i) (.cons (.d .str) (.cons (.d .i) (.cons (.d .str) (.cons (.d (.sl J2)) (.cons (.d (.sl Q9)) (.cons (.d .i) (.cons (.d .i) (.cons (.d .i) (.cons (.s 1) (.cons (.d .i) (.cons (.d .i) (.nil))))))))))))))) (.nil))))))))))),(1,.row 76 Jw)]⟩
def Jfn:An:=.t 1 (.two (.reg (.n 1 (.call 0 (.done)))) (.two (.reg (.n 1 (.call 1 (.n 1 .done)))) (.nil)))
def Jfo:Shp:=⟨[(0,.p 5000 [])],[(5000,.var 99 (.p 5001 [])),(5001,.var 114 (.ag (.cons (.d Js) (.cons (.d Q3) (.cons (.d Qk) (.cons (.d Jn) (.cons (.d Qx) (.cons (.d Jp) (.cons (.d .i) (.cons (.ag (.cons (.d Qk) (.cons (.d .i) (.cons (.d .str) (.cons (.d .i) (.cons (.d .str) (.cons (.s 5002) (.cons (.s 5003) (.cons (.d .i) (.cons (.d .i) (.cons (.d .i) (.cons (.s 5004) (.cons (.d .i) (.cons (.d .i) (.nil))))))))))))))) (.nil))))))))))),(5002,.row 33 J2),(5003,.row 35 Q9),(5004,.row 76 Jw)]⟩
def Q5k:Shp:=⟨[(0,.d .i)],[(5001,.var 114 (.ag (.cons (.d Js) (.cons (.d Q3) (.cons (.d Qk) (.cons (.d Jn) (.cons (.d Qx) (.cons (.d Jp) (.cons (.d .i) (.cons (.ag (.cons (.d Qk) (.cons (.d .i) (.cons (.d .str) (.cons (.d .i) (.cons (.d .str) (.cons (.d (.sl J2)) (.cons (.d (.sl Q9)) (.cons (.d .i) (.cons (.d .i) (.cons (.d .i) (.cons (.s 1) (.cons (.d .i) (.cons (.d .i) (.nil))))))))))))))) (.nil))))))))))),(1,.row 76 Jw)]⟩
def Qqu:An:=.t 2 (.two (.reg (.n 1 (.call 0 (.n 1 .done)))) (.nil))
def Qqv:Shp:=⟨[(0,.f 52 (.cons (.p 5000 []) (.nil))),(1,.p 5005 [])],[(5000,.var 99 (.p 5001 [])),(5001,.var 114 (.ag (.cons (.d Js) (.cons (.d Q3) (.cons (.d Qk) (.cons (.d Jn) (.cons (.d Qx) (.cons (.d Jp) (.cons (.d .i) (.cons (.ag (.cons (.d Qk) (.cons (.d .i) (.cons (.d .str) (.cons (.d .i) (.cons (.d .str) (.cons (.s 5002) (.cons (.s 5003) (.cons (.d .i) (.cons (.d .i) (.cons (.d .i) (.cons (.s 5004) (.cons (.d .i) (.cons (.d .i) (.nil))))))))))))))) (.nil))))))))))),(5002,.row 33 J2),(5003,.row 35 Q9),(5004,.row 76 Jw),(5005,.var 24 (.d .i))]⟩
def Qkv:Shp:=⟨[],[(5001,.var 114 (.ag (.cons (.d Js) (.cons (.d Q3) (.cons (.d Qk) (.cons (.d Jn) (.cons (.d Qx) (.cons (.d Jp) (.cons (.d .i) (.cons (.ag (.cons (.d Qk) (.cons (.d .i) (.cons (.d .str) (.cons (.d .i) (.cons (.d .str) (.cons (.d (.sl J2)) (.cons (.d (.sl Q9)) (.cons (.d .i) (.cons (.d .i) (.cons (.d .i) (.cons (.s 1) (.cons (.d .i) (.cons (.d .i) (.nil))))))))))))))) (.nil))))))))))),(5005,.var 24 (.d .i)),(1,.row 76 Jw)]⟩
def Q5l:An:=.t 1 (.two (.t 14 (.two (.gh (.tl .done) .nil) (.nil))) (.two (.reg (.n 3 (.call 0 (.call 1 (.n 1 .done))))) (.nil)))
def Q5m:Shp:=⟨[(0,.d .i),(1,.d .i)],[]⟩
def Qwf:Shp:=⟨[(0,.d Qp)],[]⟩
def Jfp:An:=.t 1 (.two (.dr 10 (.n 10 .done) (.call 0 (.n 2 .done))) (.nil))
def Jfq:Shp:=⟨[(0,.p 5000 [])],[(5000,.var 114 (.ag (.cons (.d Js) (.cons (.d Q3) (.cons (.d Qk) (.cons (.d Jn) (.cons (.d Qx) (.cons (.d Jp) (.cons (.d .i) (.cons (.ag (.cons (.d Qk) (.cons (.d .i) (.cons (.d .str) (.cons (.d .i) (.cons (.d .str) (.cons (.d (.sl J2)) (.cons (.d (.sl Q9)) (.cons (.d .i) (.cons (.d .i) (.cons (.d .i) (.cons (.s 5001) (.cons (.d .i) (.cons (.d .i) (.nil))))))))))))))) (.nil))))))))))),(5001,.row 76 Jw)]⟩
def Q5n:Shp:=⟨[(0,.d .i)],[]⟩
def Q5o:An:=.t 3 (.two (.t 17 (.un (.lp [22] [2,3] ⟨[(23,.d .i)],[]⟩ [(.x 0,⟨[],[]⟩)] (.t 1 (.two (.two (.nil) (.nil)) (.two (.un (.t 3 (.un (.t 6 (.two (.gh (.tl .done) .nil) (.t 6 (.two (.gh (.tl .done) .nil) (.nil)))))))) (.reg (.n 2 .done)))))))) (.t 1 (.nil)))
def Q5p:Shp:=⟨[(0,.d Je),(1,.d Je)],[]⟩
def Qwg:Shp:=⟨[(0,.d .i)],[]⟩
def Jfr:An:=.t 1 (.t 6 (.two (.t 3 (.un (.lp [9,16,17,18] [9] ⟨[(8,.p 100000 [])],[(100000,.var 73 (.d Je))]⟩ [(.x 0,⟨[(8,.p 100100 [])],[(100100,.var 73 (.d Je))]⟩),(.r,⟨[(8,.p 100200 [])],[(100200,.var 73 (.d Je))]⟩)] (.t 1 (.two (.two (.nil) (.nil)) (.two (.un (.t 4 (.two (.reg (.n 2 (.call 0 (.n 1 .done)))) (.two (.t 2 (.nil)) (.gh (.tl .done) .nil))))) (.nil))))))) (.t 2 (.nil))))
def Jfs:Shp:=⟨[(0,.d (.sl Je)),(1,.d .i),(2,.d .i),(3,.d .i)],[]⟩
def Q5q:Shp:=⟨[(0,.d Je)],[]⟩
def Jft:An:=.t 3 (.t 14 (.two (.t 8 (.two (.gh (.tl .done) .nil) (.nil))) (.t 3 (.two (.reg (.n 5 (.call 0 (.n 2 .done)))) (.two (.dr 9 (.n 9 .done) (.n 1 .done)) (.t 2 (.nil)))))))
def Jfu:Shp:=⟨[(0,.d Qk),(1,.d .str),(2,.d .str),(3,.d Je),(4,.d .bool)],[]⟩
def Q5r:Shp:=⟨[(0,.d Qai)],[]⟩
def Jfv:An:=.t 4 (.two (.t 6 (.two (.gh (.tl .done) .nil) (.nil))) (.t 2 (.t 1 (.t 2 (.two (.t 3 (.un (.lp [10,11,25,26] [4] ⟨[],[]⟩ [(.x 0,⟨[],[]⟩)] (.t 1 (.two (.two (.gh (.tl .done) .nil) (.nil)) (.nil)))))) (.t 5 (.nil)))))))
def Jfw:Shp:=⟨[(0,.d (.sl Y2)),(1,.d Qai),(2,.d .i)],[]⟩
def Q5s:Shp:=⟨[(0,.d (.sl Jw)),(1,.d .i),(2,.d .i)],[]⟩
def Jfx:An:=.t 1 (.two (.dc 19 [8,9,10,11,12,13,14,15,16,17,18,19,20,21,22,23,24,25,3] [5000] [5001] (.op ⟨.nl 1 .done,[],[],[],[5000]⟩ (.op ⟨.nl 1 .done,[],[5000],[],[5000]⟩ (.op ⟨.nl 1 .done,[],[],[],[5000]⟩ (.op ⟨.nl 1 .done,[],[],[],[5000]⟩ (.op ⟨.nl 1 .done,[],[5000],[],[]⟩ (.op ⟨.nl 1 .done,[],[],[],[5000]⟩ (.op ⟨.nl 1 .done,[],[5000],[],[5000]⟩ (.op ⟨.nl 1 .done,[],[],[],[5000]⟩ (.op ⟨.nl 1 .done,[],[],[],[5000]⟩ (.op ⟨.nl 1 .done,[],[5000],[],[]⟩ (.op ⟨.nl 1 .done,[],[],[],[5000]⟩ (.op ⟨.nl 1 .done,[],[5000],[],[5000]⟩ (.op ⟨.nl 1 .done,[],[],[],[5000]⟩ (.op ⟨.nl 1 .done,[],[],[],[5000]⟩ (.op ⟨.nl 1 .done,[],[5000],[],[]⟩ (.op ⟨.nl 1 .done,[],[],[],[5000]⟩ (.op ⟨.call 0 (.done),[],[5000,5001],[],[]⟩ (.op ⟨.call 1 (.done),[],[],[],[]⟩ (.op ⟨.nl 1 .done,[],[],[3],[3]⟩ (.tl (.n 1 .done)))))))))))))))))))))) (.two (.dr 15 (.n 15 .done) (.call 2 (.n 1 .done))) (.two (.dm 34 [43,44,45,46,47,48,49,50,51,52,53,54,55,56,57,58,59,60,61,62,63,64,65,66,67,68,69,70,42,71,72,73,5,6] [] (.n 21 (.call 3 (.n 5 (.call 4 (.n 6 (.tl (.n 1 .done)))))))) (.two (.t 2 (.two (.gh (.tl .done) .nil) (.nil))) (.t 12 (.t 1 (.nil)))))))
def Jfy:Shp:=⟨[(0,.p 5000 [])],[(5000,.var 114 (.ag (.cons (.d Js) (.cons (.d Q3) (.cons (.d Qk) (.cons (.d Jn) (.cons (.d Qx) (.cons (.d Jp) (.cons (.d .i) (.cons (.ag (.cons (.d Qk) (.cons (.d .i) (.cons (.d .str) (.cons (.d .i) (.cons (.d .str) (.cons (.d (.sl J2)) (.cons (.d (.sl Q9)) (.cons (.d .i) (.cons (.d .i) (.cons (.d .i) (.cons (.s 5001) (.cons (.d .i) (.cons (.d .i) (.nil))))))))))))))) (.nil))))))))))),(5001,.row 76 Jw)]⟩
def Q5t:Shp:=⟨[(0,.d .i)],[(5000,.var 114 (.d Gf))]⟩
def Jfz:An:=.t 1 (.two (.reg (.n 1 (.call 0 (.n 1 .done)))) (.nil))
def Jf0:Shp:=⟨[(0,.p 5000 [])],[(5000,.var 99 (.p 5001 [])),(5001,.var 114 (.ag (.cons (.d Js) (.cons (.d Q3) (.cons (.d Qk) (.cons (.d Jn) (.cons (.d Qx) (.cons (.d Jp) (.cons (.d .i) (.cons (.ag (.cons (.d Qk) (.cons (.d .i) (.cons (.d .str) (.cons (.d .i) (.cons (.d .str) (.cons (.d (.sl J2)) (.cons (.d (.sl Q9)) (.cons (.d .i) (.cons (.d .i) (.cons (.d .i) (.cons (.s 5002) (.cons (.d .i) (.cons (.d .i) (.nil))))))))))))))) (.nil))))))))))),(5002,.row 76 Jw)]⟩
def Q5u:Shp:=⟨[(0,.d .i)],[(5001,.var 114 (.d Gf))]⟩
def Qqw:An:=.t 2 (.two (.reg (.n 1 (.call 0 (.n 1 .done)))) (.nil))
def Qqx:Shp:=⟨[(0,.f 55 (.cons (.p 5000 []) (.nil))),(1,.p 5003 [])],[(5000,.var 99 (.p 5001 [])),(5001,.var 114 (.ag (.cons (.d Js) (.cons (.d Q3) (.cons (.d Qk) (.cons (.d Jn) (.cons (.d Qx) (.cons (.d Jp) (.cons (.d .i) (.cons (.ag (.cons (.d Qk) (.cons (.d .i) (.cons (.d .str) (.cons (.d .i) (.cons (.d .str) (.cons (.d (.sl J2)) (.cons (.d (.sl Q9)) (.cons (.d .i) (.cons (.d .i) (.cons (.d .i) (.cons (.s 5002) (.cons (.d .i) (.cons (.d .i) (.nil))))))))))))))) (.nil))))))))))),(5002,.row 76 Jw),(5003,.var 24 (.d .i))]⟩
def Qkw:Shp:=⟨[],[(5001,.var 114 (.ag (.cons (.d Js) (.cons (.d Q3) (.cons (.d Qk) (.cons (.d Jn) (.cons (.d Qx) (.cons (.d Jp) (.cons (.d .i) (.cons (.ag (.cons (.d Qk) (.cons (.d .i) (.cons (.d .str) (.cons (.d .i) (.cons (.d .str) (.cons (.d (.sl J2)) (.cons (.d (.sl Q9)) (.cons (.d .i) (.cons (.d .i) (.cons (.d .i) (.cons (.d (.sl Jw)) (.cons (.d .i) (.cons (.d .i) (.nil))))))))))))))) (.nil))))))))))),(5003,.var 24 (.d .i))]⟩
def Q5v:An:=.t 2 (.two (.two (.reg (.n 1 (.call 0 (.n 1 .done)))) (.two (.gh (.tl .done) .nil) (.nil))) (.t 9 (.nil)))
def Q5w:Shp:=⟨[(0,.d Jo)],[]⟩
def Qwh:Shp:=⟨[(0,.d .i)],[]⟩
def Q5x:An:=.t 3 (.two (.two (.reg (.n 1 (.call 0 (.n 1 .done)))) (.t 2 (.two (.gh (.tl .done) .nil) (.nil)))) (.two (.two (.reg (.n 1 (.call 1 (.n 1 .done)))) (.two (.gh (.tl .done) .nil) (.nil))) (.two (.two (.reg (.n 2 (.call 2 (.n 1 .done)))) (.two (.gh (.tl .done) .nil) (.nil))) (.t 6 (.t 3 (.nil))))))
def Q5y:Shp:=⟨[(0,.d Jo),(1,.d .i)],[]⟩
def Qwi:Shp:=⟨[(0,.d Jo),(1,.d .i)],[]⟩
def Qkx:An:=.t 1 (.t 2 (.two (.t 3 (.un (.lp [9,10] [] ⟨[(3,.m 100000),(11,.d .i)],[(100000,.map .i .i)]⟩ [(.x 0,⟨[(3,.m 100100)],[(100100,.map .i .i)]⟩)] (.t 1 (.two (.two (.nil) (.nil)) (.two (.un (.t 6 (.t 9 (.t 2 (.t 5 (.gh (.tl .done) .nil)))))) (.reg (.n 2 .done)))))))) (.t 2 (.nil))))
def Qky:Shp:=⟨[(0,.s 5000)],[(5000,.row 71 Jo)]⟩
def Qg3:Shp:=⟨[(0,.m 1)],[(1,.map .i .i)]⟩
def Jf1:An:=.t 4 (.two (.reg (.n 1 (.call 0 (.n 2 .done)))) (.two (.reg (.n 2 (.call 1 (.n 7 .done)))) (.two (.t 10 (.two (.t 5 (.nil)) (.nil))) (.two (.reg (.n 6 (.call 2 (.n 2 .done)))) (.two (.reg (.n 6 (.call 3 (.n 6 .done)))) (.two (.t 2 (.two (.gh (.tl .done) .nil) (.nil))) (.t 6 (.t 8 (.nil)))))))))
def Jf2:Shp:=⟨[(0,.d Q3),(1,.d .i),(2,.d .i),(3,.d .bool)],[]⟩
def Q5z:Shp:=⟨[(0,.d Q3),(1,.d .i),(2,.d .i)],[]⟩
def Qqy:An:=.t 1 (.two (.dr 10 (.n 10 .done) (.call 0 (.n 2 .done))) (.nil))
def Qqz:Shp:=⟨[(0,.p 5000 [])],[(5000,.var 114 (.d Gf))]⟩
def Qkz:Shp:=⟨[(0,.d .i)],[]⟩
def Q50:An:=.t 1 (.two (.t 2 (.un (.lp [0,5,6] [] ⟨[],[]⟩ [(.r,⟨[(2,.d .bool)],[]⟩)] (.t 1 (.two (.two (.nil) (.gh (.tl .done) .nil)) (.two (.un (.t 2 (.t 3 (.two (.t 1 (.nil)) (.gh (.tl .done) .nil))))) (.nil))))))) (.nil))
def Q51:Shp:=⟨[(0,.d .i)],[]⟩
def Qwj:Shp:=⟨[(0,.d .bool)],[]⟩
def Q52:An:=.t 2 (.two (.reg (.n 9 (.sp 11 4 [1] [1] ⟨[(15,.d .bool)],[]⟩ (.nl 2 (.call 0 (.n 1 .done))) (.nl 3 (.n 1 .done)) (.n 11 .done)))) (.nil))
def Q53:Shp:=⟨[(0,.d Je)],[]⟩
def Qwk:Shp:=⟨[(0,.d .bool)],[]⟩
def Q54:An:=.t 2 (.t 19 (.nil))
def Q55:Shp:=⟨[(0,.d Je)],[]⟩
def Qwl:Shp:=⟨[(0,.d .bool)],[]⟩
def Q56:An:=.t 1 (.two (.t 3 (.un (.lp [0,5,6] [] ⟨[(7,.d .i)],[]⟩ [(.x 0,⟨[],[]⟩)] (.t 1 (.two (.two (.nil) (.nil)) (.two (.un (.t 6 (.two (.two (.reg (.n 1 (.call 0 (.n 2 (.sp 15 4 [3,4,7] [4] ⟨[(19,.d .bool)],[]⟩ (.nl 3 (.n 1 .done)) (.nl 1 (.call 1 (.nl 1 (.n 1 .done)))) (.n 10 .done)))))) (.two (.gh (.tl .done) .nil) (.nil))) (.two (.jn [7] [4] [(.n,⟨[(41,.d .bool)],[]⟩)] (.dm 9 [30,31,32,33,34,35,36,37,38] [] (.n 3 (.so 32 (.tl .done) (.n 6 (.tl (.nl 2 (.n 1 .done)))))))) (.two (.gh (.tl .done) .nil) (.nil)))))) (.reg (.n 2 .done)))))))) (.t 1 (.nil)))
def Q57:Shp:=⟨[(0,.d (.sl Je))],[]⟩
def Qwm:Shp:=⟨[(0,.d .bool)],[]⟩
def Q58:An:=.t 2 (.two (.t 3 (.un (.lp [0,1,6,7,8] [] ⟨[],[]⟩ [(.x 0,⟨[],[]⟩),(.r,⟨[(2,.d .i),(3,.d .i)],[]⟩)] (.t 1 (.two (.two (.nil) (.nil)) (.two (.un (.t 6 (.two (.reg (.n 2 (.call 0 (.done)))) (.un (.t 2 (.two (.t 5 (.nil)) (.gh (.tl .done) .nil))))))) (.nil))))))) (.two (.dr 6 (.n 6 .done) (.done)) (.nil)))
def Q59:Shp:=⟨[(0,.p 5000 []),(1,.p 5001 [])],[(5000,.var 55 (.d (.sl Je))),(5001,.var 73 (.d Je))]⟩
def Qwn:Shp:=⟨[(0,.d .i),(1,.d .i)],[]⟩
def Jf3:An:=.t 4 (.two (.two (.reg (.n 1 (.call 0 (.n 2 (.sp 14 4 [2,3] [2,3] ⟨[(18,.d .bool)],[]⟩ (.nl 3 (.n 1 .done)) (.nl 1 (.call 1 (.nl 1 (.n 1 .done)))) (.done)))))) (.two (.gh (.tl .done) .nil) (.nil))) (.two (.two (.reg (.n 1 (.call 2 (.n 1 .done)))) (.two (.gh (.tl .done) .nil) (.nil))) (.t 2 (.two (.reg (.n 1 (.call 3 (.n 5 .done)))) (.t 3 (.two (.jn [2,7,8] [2,3] [(.n,⟨[(9,.p 100100 [])],[(100100,.var 73 (.d Je))]⟩)] (.t 3 (.two (.two (.dr 9 (.n 9 .done) (.n 1 .done)) (.dr 9 (.n 9 .done) (.n 1 .done))) (.nil)))) (.two (.two (.reg (.n 1 (.call 2 (.n 1 .done)))) (.two (.gh (.tl .done) .nil) (.nil))) (.t 5 (.two (.t 8 (.t 5 (.gh (.tl .done) .nil))) (.t 7 (.nil)))))))))))
def Jf4:Shp:=⟨[(0,.d (.sl Je)),(1,.d Je)],[]⟩
def Q6a:Shp:=⟨[(0,.s 1),(1,.d .i)],[(1,.row 73 Je)]⟩
def Jf5:An:=.t 1 (.two (.dm 27 [9,10,11,12,13,14,15,16,17,18,19,20,21,22,23,24,25,26,27,28,8,29,30,31,3,1000000025,4] [] (.n 19 (.call 0 (.n 7 (.tl (.n 1 .done)))))) (.two (.dc 30 [33,34,35,36,37,38,39,40,41,42,43,44,45,46,47,48,49,50,51,52,53,54,55,56,57,58,32,59,60,6] [3,5000] [] (.op ⟨.nl 1 .done,[],[],[],[3]⟩ (.op ⟨.nl 1 .done,[],[3],[],[]⟩ (.op ⟨.nl 1 .done,[],[],[],[5000]⟩ (.op ⟨.nl 1 .done,[],[5000],[],[5000]⟩ (.op ⟨.nl 1 .done,[],[],[],[5000]⟩ (.op ⟨.nl 1 .done,[],[],[],[5000]⟩ (.op ⟨.nl 1 .done,[],[5000],[],[]⟩ (.op ⟨.nl 1 .done,[],[],[],[5000]⟩ (.op ⟨.nl 1 .done,[],[5000],[],[5000]⟩ (.op ⟨.nl 1 .done,[],[],[],[5000]⟩ (.op ⟨.nl 1 .done,[],[],[],[5000]⟩ (.op ⟨.nl 1 .done,[],[5000],[],[]⟩ (.op ⟨.nl 1 .done,[],[],[],[5000]⟩ (.op ⟨.call 1 (.done),[],[5000],[],[]⟩ (.op ⟨.nl 1 .done,[],[],[],[5000]⟩ (.op ⟨.nl 1 .done,[],[5000],[],[5000]⟩ (.op ⟨.nl 1 .done,[],[],[],[5000]⟩ (.op ⟨.nl 1 .done,[],[],[],[5000]⟩ (.op ⟨.nl 1 .done,[],[5000],[],[]⟩ (.op ⟨.nl 1 .done,[],[],[],[5000]⟩ (.op ⟨.nl 1 .done,[],[5000],[],[5000]⟩ (.op ⟨.nl 1 .done,[],[],[],[5000]⟩ (.op ⟨.nl 1 .done,[],[],[],[5000]⟩ (.op ⟨.nl 1 .done,[],[5000],[],[]⟩ (.op ⟨.nl 1 .done,[],[],[],[]⟩ (.op ⟨.call 2 (.done),[],[],[15801],[15801]⟩ (.op ⟨.nl 1 .done,[],[],[],[15801]⟩ (.op ⟨.nl 1 .done,[],[],[],[15801]⟩ (.op ⟨.nl 1 .done,[],[],[],[]⟩ (.op ⟨.nl 1 .done,[],[],[],[15801]⟩ (.tl (.n 1 .done))))))))))))))))))))))))))))))))) (.two (.t 2 (.two (.gh (.tl .done) .nil) (.nil))) (.t 3 (.t 5 (.t 12 (.t 1 (.nil))))))))
def Jf6:Shp:=⟨[(0,.p 5000 [])],[(5000,.var 114 (.d Gf))]⟩
def Q6b:Shp:=⟨[(0,.d .i)],[(5000,.var 114 (.ag (.cons (.d Js) (.cons (.ag (.cons (.d (.sl Qy)) (.cons (.d (.sl Jo)) (.cons (.s 1) (.nil))))) (.cons (.d Qk) (.cons (.d Jn) (.cons (.d Qx) (.cons (.d Jp) (.cons (.d .i) (.cons (.d Yn) (.nil))))))))))),(1,.row 73 Je)]⟩
def Jf7:An:=.t 1 (.two (.reg (.n 1 (.call 0 (.n 1 .done)))) (.nil))
def Jf8:Shp:=⟨[(0,.p 5000 [])],[(5000,.var 99 (.p 5001 [])),(5001,.var 114 (.d Gf))]⟩
def Q6c:Shp:=⟨[(0,.d .i)],[(5001,.var 114 (.ag (.cons (.d Js) (.cons (.ag (.cons (.d (.sl Qy)) (.cons (.d (.sl Jo)) (.cons (.s 1) (.nil))))) (.cons (.d Qk) (.cons (.d Jn) (.cons (.d Qx) (.cons (.d Jp) (.cons (.d .i) (.cons (.d Yn) (.nil))))))))))),(1,.row 73 Je)]⟩
def Qq0:An:=.t 2 (.two (.reg (.n 1 (.call 0 (.n 1 .done)))) (.nil))
def Qq1:Shp:=⟨[(0,.f 57 (.cons (.p 5000 []) (.nil))),(1,.p 5002 [])],[(5000,.var 99 (.p 5001 [])),(5001,.var 114 (.d Gf)),(5002,.var 24 (.d .i))]⟩
def Qk0:Shp:=⟨[],[(5001,.var 114 (.ag (.cons (.d Js) (.cons (.ag (.cons (.d (.sl Qy)) (.cons (.d (.sl Jo)) (.cons (.d (.sl Je)) (.nil))))) (.cons (.d Qk) (.cons (.d Jn) (.cons (.d Qx) (.cons (.d Jp) (.cons (.d .i) (.cons (.d Yn) (.nil))))))))))),(5002,.var 24 (.d .i))]⟩
def Jf9:An:=.t 2 (.two (.dm 8 [6,7,8,9,10,11,12,3] [] (.n 8 (.tl (.n 1 .done)))) (.two (.t 4 (.un (.lp [2,14,15] [1,2] ⟨[(3,.p 100000 []),(16,.d .i)],[(100000,.var 57 (.ag (.cons (.s 100001) (.cons (.s 100002) (.cons (.s 100003) (.nil)))))),(100001,.row 142 Qy),(100002,.row 71 Jo),(100003,.row 73 Je)]⟩ [(.x 0,⟨[(3,.p 100100 [])],[(100100,.var 57 (.ag (.cons (.s 100101) (.cons (.s 100102) (.cons (.s 100103) (.nil)))))),(100101,.row 142 Qy),(100102,.row 71 Jo),(100103,.row 73 Je)]⟩)] (.t 1 (.two (.two (.nil) (.nil)) (.two (.un (.t 4 (.t 5 (.reg (.n 3 (.fz 22 (.n 4 .done))))))) (.reg (.n 2 .done)))))))) (.t 2 (.nil))))
def Jga:Shp:=⟨[(0,.d Q3)],[]⟩
def Q6d:Shp:=⟨[(0,.d Q3)],[]⟩
def Qq2:An:=.t 5 (.two (.t 7 (.two (.gh (.tl .done) .nil) (.nil))) (.t 9 (.t 2 (.t 2 (.two (.reg (.n 2 (.call 0 (.done)))) (.two (.reg (.n 2 (.call 1 (.done)))) (.two (.reg (.n 2 (.call 2 (.done)))) (.two (.reg (.n 2 (.call 3 (.done)))) (.two (.reg (.n 2 (.call 4 (.done)))) (.two (.t 2 (.two (.two (.dm 6 [47,48,49,50,51,1000000005] [6] (.n 1 (.call 5 (.n 4 (.tl (.n 1 .done)))))) (.nil)) (.nil))) (.two (.dm 9 [52,53,54,55,56,57,58,59,1000000008] [6] (.n 9 (.tl (.n 1 .done)))) (.nil))))))))))))
def Qq3:Shp:=⟨[(0,.d Js),(1,.d Q3),(2,.d Qk)],[]⟩
def Qk1:Shp:=⟨[(0,.d Q3),(1,.d Yn)],[]⟩
def Jgb:An:=.t 2 (.two (.dm 8 [6,7,8,9,10,11,12,3] [] (.n 8 (.tl (.n 1 .done)))) (.two (.t 4 (.un (.lp [2,3,15,16] [1,2,3,8,11] ⟨[],[]⟩ [(.x 0,⟨[],[]⟩)] (.t 1 (.two (.two (.gh (.tl .done) .nil) (.nil)) (.nil)))))) (.t 2 (.nil))))
def Jgc:Shp:=⟨[(0,.d Q3)],[]⟩
def Q6e:Shp:=⟨[(0,.ag (.cons (.ns) (.cons (.s 1) (.cons (.s 2) (.nil)))))],[(1,.row 71 Jo),(2,.row 73 Je)]⟩
def Q6f:An:=.t 2 (.t 10 (.nil))
def Q6g:Shp:=⟨[(0,.d Qk)],[]⟩
def Qwo:Shp:=⟨[(0,.d Hs)],[]⟩
def Q6h:An:=.t 3 (.two (.un (.t 4 (.two (.gh (.tl .done) .nil) (.t 6 (.two (.t 6 (.nil)) (.gh (.tl .done) .nil)))))) (.nil))
def Q6i:Shp:=⟨[(0,.d Hs),(1,.d Hs)],[]⟩
def Qwp:Shp:=⟨[(0,.d .bool)],[]⟩
def Jgd:An:=.t 1 (.two (.t 3 (.two (.t 3 (.nil)) (.nil))) (.two (.dm 11 [11,12,13,14,15,16,17,18,19,20,21] [] (.n 5 (.call 0 (.n 5 (.tl (.call 0 (.n 2 .done))))))) (.t 4 (.two (.un (.lp [] [] ⟨[(3,.d (.sl Qk)),(4,.d (.sl Qk)),(5,.s 100000)],[(100000,.row 23 Qk)]⟩ [(.x 0,⟨[(5,.s 100200)],[(100200,.row 23 Qk)]⟩)] (.two (.t 8 (.two (.nil) (.nil))) (.un (.two (.jn [3,4,5] [100000] [(.n,⟨[(53,.d .bool)],[]⟩)] (.dm 15 [34,35,36,37,38,39,40,41,42,43,44,45,46,47,48] [] (.n 4 (.so 37 (.n 11 (.tl (.nl 4 (.n 1 .done)))) (.n 4 (.so 41 (.n 3 (.call 1 (.n 3 (.tl (.call 1 (.call 2 (.nl 2 (.n 1 .done)))))))) (.n 7 (.tl (.nl 4 (.n 1 .done)))))))))) (.two (.t 7 (.reg (.n 3 .done))) (.t 7 (.reg (.n 3 .done))))))))) (.t 2 (.nil))))))
def Jge:Shp:=⟨[(0,.d (.sl Qk))],[]⟩
def Q6j:Shp:=⟨[(0,.d (.sl Qk))],[]⟩
def Jgf:An:=.t 4 (.two (.reg (.n 1 (.call 0 (.n 2 .done)))) (.t 1 (.two (.two (.reg (.n 1 (.call 1 (.n 2 .done)))) (.un (.gh (.fz 11501 (.fz 11502 (.done))) (.lp [3,6,17,18] [3,4,6] ⟨[(8,.p 100000 []),(9,.s 100001),(19,.d .i)],[(100000,.var 57 (.ag (.cons (.d (.sl Qy)) (.cons (.d (.sl Jo)) (.cons (.d (.sl Je)) (.nil)))))),(100001,.row 29 Yn)]⟩ [(.x 0,⟨[(8,.p 100100 []),(9,.s 100101)],[(100100,.var 57 (.d Q3)),(100101,.row 29 Yn)]⟩)] (.t 1 (.two (.two (.nil) (.nil)) (.two (.un (.t 4 (.two (.reg (.n 3 (.call 2 (.n 7 .done)))) (.t 2 (.reg (.n 5 .done)))))) (.reg (.n 2 .done))))))))) (.t 4 (.nil)))))
def Jgg:Shp:=⟨[(0,.d Js),(1,.d Q3),(2,.d (.sl Qk))],[]⟩
def Q6k:Shp:=⟨[(0,.d Q3),(1,.s 1)],[(1,.row 29 Yn)]⟩
def Jgh:An:=.t 3 (.two (.reg (.n 3 (.call 0 (.n 4 .done)))) (.nil))
def Jgi:Shp:=⟨[(0,.d Js),(1,.d (.sl Qk))],[]⟩
def Q6l:Shp:=⟨[(0,.d Q3),(1,.d (.sl Yn))],[]⟩
def Qq4:An:=.t 3 (.two (.reg (.n 3 (.call 0 (.n 4 .done)))) (.nil))
def Qq5:Shp:=⟨[(0,.d Js),(1,.d (.sl Qk))],[]⟩
def Qk2:Shp:=⟨[(0,.d Q3),(1,.s 1)],[(1,.row 29 Yn)]⟩
def Jgj:An:=.t 2 (.two (.dm 4 [5,6,7,8] [] (.n 4 (.tl (.n 1 (.call 0 (.n 1 .done)))))) (.nil))
def Jgk:Shp:=⟨[(0,.d (.sl Qk)),(1,.d Qk)],[]⟩
def Q6m:Shp:=⟨[(0,.d (.sl Qk))],[]⟩
def Lt:An:=.t 2 (.t 4 (.nil))
def Lu:Shp:=⟨[(0,.d Yn)],[]⟩
def Im:Shp:=⟨[(0,.d .i)],[]⟩
def Qd2:An:=.t 2 (.t 4 (.t 16 (.nil)))
def Qd3:Shp:=⟨[(0,.d Yn)],[]⟩
def Qbd:Shp:=⟨[(0,.d Ql)],[]⟩
def Lv:An:=.t 1 (.two (.un (.t 3 (.two (.nil) (.t 3 (.two (.nil) (.nil)))))) (.two (.reg (.n 3 (.call 0 (.n 2 .done)))) (.two (.dr 8 (.n 8 .done) (.n 1 .done)) (.two (.dr 8 (.n 8 .done) (.n 1 .done)) (.t 2 (.nil))))))
def Lw:Shp:=⟨[(0,.p 5000 []),(1,.p 5001 [])],[(5000,.var 29 (.d Yn)),(5001,.var 29 (.d Yn))]⟩
def In:Shp:=⟨[(0,.d Ql)],[]⟩
def Cc:An:=.t 1 (.two (.un (.t 3 (.two (.two (.reg (.n 3 (.call 0 (.n 1 .done)))) (.nil)) (.nil)))) (.nil))
def Cd:Shp:=⟨[(0,.np),(1,.p 5000 [])],[(5000,.var 29 (.d Yn))]⟩
def Bo:Shp:=⟨[(0,.d Ql)],[]⟩
def Ce:An:=.t 1 (.two (.un (.t 3 (.two (.nil) (.t 3 (.two (.two (.reg (.n 3 (.call 0 (.n 2 .done)))) (.t 10 (.t 2 (.nil)))) (.nil)))))) (.nil))
def Cf:Shp:=⟨[(0,.p 5000 []),(1,.np)],[(5000,.var 29 (.d Yn))]⟩
def Bp:Shp:=⟨[(0,.d Ql)],[]⟩
def On:An:=.t 3 (.two (.t 5 (.two (.t 6 (.nil)) (.nil))) (.t 6 (.nil)))
def Oo:Shp:=⟨[(0,.d Ql),(1,.d Ql)],[]⟩
def M8:Shp:=⟨[(0,.d .bool)],[]⟩
def M9:An:=.t 1 (.t 1 (.two (.t 3 (.un (.lp [8,9] [] ⟨[(3,.s 100000),(10,.d .i)],[(100000,.row 51 Ql)]⟩ [(.x 0,⟨[(3,.s 100500)],[(100500,.row 51 Ql)]⟩)] (.t 1 (.two (.two (.nil) (.nil)) (.two (.jn [10] [] [(.n,⟨[(3,.s 100400)],[(100400,.row 51 Ql)]⟩)] (.un (.t 4 (.two (.t 8 (.two (.nil) (.nil))) (.t 3 (.two (.un (.lp [3,5,10] [5,100000] ⟨[(6,.d .i)],[]⟩ [(.x 2,⟨[(6,.d .i)],[]⟩)] (.two (.two (.jn [6] [] [(.n,⟨[(34,.d .bool)],[]⟩)] (.dm 9 [24,25,26,27,28,29,30,31,32] [] (.n 3 (.so 26 (.n 6 (.tl (.call 0 (.n 1 .done)))) (.n 6 (.tl (.nl 1 (.n 1 .done)))))))) (.two (.nil) (.nil))) (.un (.reg (.n 3 .done)))))) (.two (.reg (.n 2 (.fz 100000 (.n 3 .done)))) (.t 5 (.reg (.n 6 .done)))))))))) (.reg (.n 2 .done)))))))) (.t 2 (.nil))))
def Na:Shp:=⟨[(0,.d (.sl Ql))],[]⟩
def Lx:Shp:=⟨[(0,.s 1)],[(1,.row 51 Ql)]⟩
def E0:An:=.t 1 (.t 2 (.two (.t 3 (.un (.lp [0,1,2,3,23,24] [] ⟨[(9,.m 100000),(25,.d .i)],[(100000,.map .i .i)]⟩ [(.x 0,⟨[(9,.m 100100)],[(100100,.map .i .i)]⟩)] (.t 1 (.two (.two (.nil) (.nil)) (.two (.un (.t 6 (.reg (.n 3 (.call 0 (.n 2 .done)))))) (.reg (.n 2 .done)))))))) (.t 2 (.t 1 (.two (.t 3 (.un (.lp [0,2,3,9,37,38] [100100] ⟨[(12,.m 100200),(13,.s 100201),(39,.d .i)],[(100200,.map .i .bool),(100201,.row 51 Ql)]⟩ [(.x 2,⟨[(12,.m 100400),(13,.s 100401)],[(100400,.map .i .bool),(100401,.row 51 Ql)]⟩)] (.t 1 (.two (.two (.nil) (.nil)) (.two (.jn [39] [] [(.n,⟨[(12,.m 100300),(13,.s 100301)],[(100300,.map .i .bool),(100301,.row 51 Ql)]⟩)] (.un (.t 4 (.two (.reg (.n 2 (.call 0 (.n 1 .done)))) (.t 8 (.t 1 (.two (.t 6 (.t 3 (.reg (.n 2 (.call 1 (.n 3 .done)))))) (.reg (.n 2 (.call 2 (.n 3 .done))))))))))) (.reg (.n 2 .done)))))))) (.two (.t 3 (.un (.lp [2,3,12,70,71] [100100,100400] ⟨[(13,.s 100500),(72,.d .i)],[(100500,.row 51 Ql)]⟩ [(.x 4,⟨[(13,.s 100700)],[(100700,.row 51 Ql)]⟩)] (.t 1 (.two (.two (.nil) (.nil)) (.two (.jn [72] [] [(.n,⟨[(13,.s 100600)],[(100600,.row 51 Ql)]⟩)] (.un (.t 4 (.two (.reg (.n 3 (.call 0 (.n 2 .done)))) (.two (.reg (.n 2 (.call 3 (.n 3 .done)))) (.nil)))))) (.reg (.n 2 .done)))))))) (.two (.reg (.n 1 (.call 4 (.n 1 .done)))) (.nil))))))))
def E1:Shp:=⟨[(0,.d (.sl Yn)),(1,.d (.sl Yn)),(2,.f 38 (.nil)),(3,.f 39 (.nil))],[]⟩
def Hv:Shp:=⟨[(0,.s 1)],[(1,.row 51 Ql)]⟩
def Oq:An:=.t 1 (.two (.reg (.n 2 (.call 0 (.n 1 .done)))) (.nil))
def Or:Shp:=⟨[(0,.d (.sl Yn)),(1,.d (.sl Yn))],[]⟩
def Nb:Shp:=⟨[(0,.s 1)],[(1,.row 51 Ql)]⟩
def Jgl:An:=.t 3 (.two (.reg (.n 2 (.call 0 (.n 6 .done)))) (.two (.dm 10 [18,19,20,21,22,17,23,24,9,1000000009] [] (.n 3 (.call 1 (.call 2 (.n 5 (.tl (.n 1 .done))))))) (.two (.reg (.n 2 (.call 3 (.n 1 .done)))) (.nil))))
def Jgm:Shp:=⟨[(0,.d Js),(1,.d (.sl Qk)),(2,.d Qk)],[]⟩
def Q6n:Shp:=⟨[(0,.s 1)],[(1,.row 51 Ql)]⟩
def Jgn:An:=.t 1 (.two (.t 1 (.un (.t 2 (.two (.gh (.tl .done) .nil) (.t 2 (.two (.t 1 (.nil)) (.gh (.tl .done) .nil))))))) (.nil))
def Jgo:Shp:=⟨[(0,.d .i)],[]⟩
def Q6o:Shp:=⟨[(0,.d .str)],[]⟩
def Jgp:An:=.t 1 (.t 1 (.t 1 (.two (.t 3 (.un (.lp [1,14,15] [] ⟨[(5,.s 100000),(6,.s 100001),(16,.d .i)],[(100000,.row 86 Xk),(100001,.row 3 .i)]⟩ [(.x 0,⟨[(5,.s 100600)],[(100600,.row 86 Xk)]⟩)] (.t 1 (.two (.two (.nil) (.nil)) (.two (.un (.t 4 (.two (.t 4 (.two (.gh (.tl .done) .nil) (.nil))) (.t 1 (.two (.un (.lp [5,6,8,9,16] [8,100000,100001] ⟨[],[]⟩ [(.x 2,⟨[],[]⟩)] (.two (.two (.dr 33 (.n 5 (.sp 28 28 [] [] ⟨[(56,.d .bool)],[]⟩ (.tl .done) (.nl 27 (.n 1 .done)) (.done))) (.done)) (.two (.gh (.tl .done) .nil) (.nil))) (.nil)))) (.two (.two (.dr 23 (.n 5 (.sp 63 9 [5,6,8,9,16] [8,100000,100001] ⟨[(72,.d .bool)],[]⟩ (.nl 8 (.n 1 .done)) (.tl .done) (.n 1 (.sp 73 8 [5,6,8,9,16] [8,100000,100001] ⟨[(81,.d .bool)],[]⟩ (.nl 7 (.n 1 .done)) (.tl .done) (.done))))) (.done)) (.two (.two (.dm 7 [82,83,84,85,86,87,10] [] (.n 4 (.call 0 (.n 2 (.tl (.n 1 .done)))))) (.two (.gh (.fz 100000 (.done)) (.dc 10 [88,89,90,91,92,93,94,95,96,97] [10] [] (.op ⟨.nl 1 .done,[],[],[],[]⟩ (.op ⟨.nl 1 .done,[],[],[],[]⟩ (.op ⟨.nl 1 .done,[],[],[],[]⟩ (.op ⟨.nl 1 .done,[],[],[91],[91]⟩ (.op ⟨.nl 1 .done,[],[10],[],[]⟩ (.op ⟨.nl 1 .done,[],[],[],[]⟩ (.op ⟨.nl 1 .done,[91],[],[94],[94]⟩ (.op ⟨.nl 1 .done,[],[],[],[]⟩ (.op ⟨.nl 1 .done,[],[],[],[]⟩ (.op ⟨.nl 1 .done,[],[],[],[]⟩ (.tl (.n 2 .done)))))))))))))) (.gh (.fz 100001 (.done)) (.dc 11 [99,100,101,102,103,104,105,106,107,108,109] [8] [] (.op ⟨.nl 1 .done,[],[],[],[]⟩ (.op ⟨.nl 1 .done,[],[],[],[]⟩ (.op ⟨.nl 1 .done,[],[],[],[]⟩ (.op ⟨.nl 1 .done,[],[],[102],[102]⟩ (.op ⟨.nl 1 .done,[],[],[],[8]⟩ (.op ⟨.nl 1 .done,[],[8],[],[]⟩ (.op ⟨.nl 1 .done,[],[],[],[]⟩ (.op ⟨.nl 1 .done,[102],[],[106],[106]⟩ (.op ⟨.nl 1 .done,[],[],[],[]⟩ (.op ⟨.nl 1 .done,[],[],[],[]⟩ (.op ⟨.nl 1 .done,[],[],[],[]⟩ (.tl (.n 2 .done))))))))))))))))) (.gh (.tl .done) .nil))) (.t 9 (.dr 10 (.n 10 .done) (.n 1 .done))))))))) (.reg (.n 2 .done)))))))) (.t 1 (.two (.t 3 (.un (.lp [130,131] [100600] ⟨[(11,.s 100700),(132,.d .i)],[(100700,.row 86 Xk)]⟩ [(.x 4,⟨[(11,.s 100800)],[(100800,.row 86 Xk)]⟩)] (.t 1 (.two (.two (.nil) (.nil)) (.two (.un (.t 4 (.t 3 (.t 5 (.gh (.tl .done) .nil))))) (.reg (.n 2 .done)))))))) (.t 2 (.nil)))))))
def Jgq:Shp:=⟨[(0,.d (.sl Ql)),(1,.d .i)],[]⟩
def Q6p:Shp:=⟨[(0,.s 1)],[(1,.row 86 Xk)]⟩
def Dn:An:=.t 1 (.two (.t 5 (.two (.t 1 (.nil)) (.nil))) (.two (.t 1 (.un (.lp [0,1] [] ⟨[(5,.d .i)],[]⟩ [(.x 0,⟨[],[]⟩),(.r,⟨[(4,.d .bool)],[]⟩)] (.two (.t 4 (.two (.nil) (.nil))) (.two (.un (.two (.dr 9 (.n 9 .done) (.done)) (.two (.t 1 (.nil)) (.nil)))) (.reg (.n 3 .done))))))) (.t 1 (.nil))))
def Do:Shp:=⟨[(0,.d (.sl Ql)),(1,.d (.sl Ql))],[]⟩
def Cg:Shp:=⟨[(0,.d .bool)],[]⟩
def Jgr:An:=.t 1 (.two (.t 5 (.two (.gh (.tl .done) .nil) (.nil))) (.two (.t 1 (.un (.lp [0,1] [] ⟨[(5,.d .i)],[]⟩ [(.x 0,⟨[],[]⟩)] (.two (.t 4 (.two (.nil) (.nil))) (.two (.un (.two (.dr 9 (.n 9 .done) (.done)) (.two (.gh (.tl .done) .nil) (.nil)))) (.reg (.n 3 .done))))))) (.t 1 (.nil))))
def Jgs:Shp:=⟨[(0,.d (.sl Xk)),(1,.d (.sl Xk))],[]⟩
def Q6q:Shp:=⟨[(0,.d .bool)],[]⟩
def Ch:An:=.t 1 (.t 3 (.t 3 (.t 2 (.t 2 (.t 2 (.t 2 (.two (.dm 4 [11,12,13,14] [] (.call 0 (.n 3 (.tl (.call 1 (.n 1 .done)))))) (.two (.reg (.n 2 (.call 2 (.n 1 .done)))) (.two (.reg (.n 3 (.call 3 (.n 1 (.fz 11801 (.sp 23 5 [4] [1,2,11501,11801] ⟨[(28,.d .bool)],[]⟩ (.nl 3 (.call 4 (.n 1 .done))) (.nl 4 (.n 1 .done)) (.n 1 .done))))))) (.nil))))))))))
def Ci:Shp:=⟨[],[]⟩
def Bq:Shp:=⟨[(0,.d .bool)],[]⟩
def Io:An:=.t 2 (.two (.t 8 (.two (.t 2 (.nil)) (.nil))) (.t 1 (.two (.un (.lp [0,3] [3] ⟨[(5,.d .i)],[]⟩ [(.x 0,⟨[(5,.d .i)],[]⟩)] (.two (.two (.dr 34 (.n 5 (.sp 20 29 [5] [] ⟨[(49,.d .bool)],[]⟩ (.nl 9 (.sp 29 19 [5,20] [] ⟨[(48,.d .bool)],[]⟩ (.nl 19 .done) (.nl 9 (.sp 38 9 [5,20,29] [] ⟨[(47,.d .bool)],[]⟩ (.nl 9 .done) (.nl 9 .done) (.nl 1 .done))) (.n 1 .done))) (.nl 28 (.n 1 .done)) (.done))) (.done)) (.two (.nil) (.nil))) (.un (.reg (.n 3 .done)))))) (.t 6 (.t 5 (.t 6 (.nil)))))))
def Ip:Shp:=⟨[(0,.d (.sl Ql)),(1,.d Ql)],[]⟩
def Dp:Shp:=⟨[(0,.d (.sl Ql))],[]⟩
def Ap:An:=.t 1 (.two (.t 4 (.two (.t 1 (.nil)) (.nil))) (.two (.t 1 (.un (.lp [0] [] ⟨[(5,.d .i)],[]⟩ [(.x 0,⟨[],[]⟩),(.r,⟨[(4,.d .bool)],[]⟩)] (.two (.t 4 (.two (.nil) (.nil))) (.two (.un (.t 6 (.two (.t 28 (.two (.t 1 (.nil)) (.nil))) (.two (.t 1 (.un (.lp [5,6] [6] ⟨[(7,.d .i)],[]⟩ [(.x 2,⟨[],[]⟩),(.r,⟨[(4,.d .bool)],[]⟩)] (.two (.t 3 (.two (.nil) (.nil))) (.two (.un (.two (.dr 8 (.n 8 .done) (.done)) (.two (.t 1 (.nil)) (.nil)))) (.reg (.n 3 .done))))))) (.two (.dr 35 (.n 3 (.sp 65 32 [5,6] [6] ⟨[(97,.d .bool)],[]⟩ (.nl 10 (.sp 75 21 [5,6,65] [] ⟨[(96,.d .bool)],[]⟩ (.nl 21 .done) (.nl 10 (.sp 85 10 [5,6,65,75] [] ⟨[(95,.d .bool)],[]⟩ (.nl 10 .done) (.nl 10 .done) (.nl 1 .done))) (.n 1 .done))) (.nl 31 (.n 1 .done)) (.done))) (.done)) (.two (.t 1 (.nil)) (.nil))))))) (.reg (.n 3 .done))))))) (.t 1 (.nil))))
def Aq:Shp:=⟨[(0,.d (.sl Ql)),(1,.d .i)],[]⟩
def F4:Shp:=⟨[(0,.d .bool)],[]⟩
def Nc:An:=.t 2 (.t 3 (.nil))
def Nd:Shp:=⟨[(0,.d Ql)],[]⟩
def Ly:Shp:=⟨[(0,.d .i)],[]⟩
def Nf:An:=.t 1 (.two (.un (.t 3 (.two (.nil) (.t 3 (.two (.nil) (.nil)))))) (.t 5 (.two (.dr 8 (.n 8 .done) (.n 1 .done)) (.two (.dr 8 (.n 8 .done) (.n 1 .done)) (.t 2 (.nil))))))
def Ng:Shp:=⟨[(0,.p 5000 []),(1,.p 5001 [])],[(5000,.var 51 (.d Ql)),(5001,.var 51 (.d Ql))]⟩
def Lz:Shp:=⟨[(0,.d Ql)],[]⟩
def Dq:An:=.t 1 (.two (.un (.t 3 (.two (.t 4 (.nil)) (.nil)))) (.nil))
def Dr:Shp:=⟨[(0,.np),(1,.p 5000 [])],[(5000,.var 51 (.d Ql))]⟩
def Cj:Shp:=⟨[(0,.d Ql)],[]⟩
def Ds:An:=.t 1 (.two (.un (.t 3 (.two (.nil) (.t 3 (.two (.t 4 (.nil)) (.nil)))))) (.nil))
def Dt:Shp:=⟨[(0,.p 5000 []),(1,.np)],[(5000,.var 51 (.d Ql))]⟩
def Ck:Shp:=⟨[(0,.d Ql)],[]⟩
def Hw:An:=.t 1 (.t 2 (.two (.t 3 (.un (.lp [0,1,2,3,23,24] [] ⟨[(9,.m 100000),(25,.d .i)],[(100000,.map .i .i)]⟩ [(.x 0,⟨[(9,.m 100100)],[(100100,.map .i .i)]⟩)] (.t 1 (.two (.two (.nil) (.nil)) (.two (.un (.t 6 (.reg (.n 3 (.call 0 (.n 2 .done)))))) (.reg (.n 2 .done)))))))) (.t 2 (.t 1 (.two (.t 3 (.un (.lp [0,2,3,9,37,38] [100100] ⟨[(12,.m 100200),(13,.s 100201),(39,.d .i)],[(100200,.map .i .bool),(100201,.row 51 Ql)]⟩ [(.x 2,⟨[(12,.m 100400),(13,.s 100401)],[(100400,.map .i .bool),(100401,.row 51 Ql)]⟩)] (.t 1 (.two (.two (.nil) (.nil)) (.two (.jn [39] [] [(.n,⟨[(12,.m 100300),(13,.s 100301)],[(100300,.map .i .bool),(100301,.row 51 Ql)]⟩)] (.un (.t 4 (.two (.reg (.n 2 (.call 0 (.n 1 .done)))) (.t 8 (.t 1 (.two (.t 6 (.t 3 (.reg (.n 2 (.call 1 (.n 3 .done)))))) (.reg (.n 2 (.call 2 (.n 3 .done))))))))))) (.reg (.n 2 .done)))))))) (.two (.t 3 (.un (.lp [2,3,12,70,71] [100100,100400] ⟨[(13,.s 100500),(72,.d .i)],[(100500,.row 51 Ql)]⟩ [(.x 4,⟨[(13,.s 100700)],[(100700,.row 51 Ql)]⟩)] (.t 1 (.two (.two (.nil) (.nil)) (.two (.jn [72] [] [(.n,⟨[(13,.s 100600)],[(100600,.row 51 Ql)]⟩)] (.un (.t 4 (.two (.reg (.n 3 (.call 0 (.n 2 .done)))) (.two (.reg (.n 2 (.call 3 (.n 3 .done)))) (.nil)))))) (.reg (.n 2 .done)))))))) (.two (.reg (.n 1 (.call 4 (.n 1 .done)))) (.nil))))))))
def Hx:Shp:=⟨[(0,.d (.sl Ql)),(1,.d (.sl Ql)),(2,.f 44 (.nil)),(3,.f 45 (.nil))],[]⟩
def G9:Shp:=⟨[(0,.s 1)],[(1,.row 51 Ql)]⟩
def P9:An:=.t 1 (.two (.reg (.n 2 (.call 0 (.n 1 .done)))) (.nil))
def Ra:Shp:=⟨[(0,.d (.sl Ql)),(1,.d (.sl Ql))],[]⟩
def Ot:Shp:=⟨[(0,.s 1)],[(1,.row 51 Ql)]⟩
def Cl:An:=.t 1 (.t 2 (.two (.t 1 (.un (.lp [0,1] [] ⟨[(5,.d (.sl Ql)),(6,.d .i)],[]⟩ [(.x 0,⟨[(5,.d (.sl Ql))],[]⟩)] (.two (.t 4 (.two (.nil) (.nil))) (.two (.un (.t 6 (.two (.t 1 (.un (.lp [5,6] [] ⟨[(7,.p 100100 []),(8,.d .i)],[(100100,.var 51 (.d Ql))]⟩ [(.x 2,⟨[(7,.p 100300 [])],[(100300,.var 51 (.d Ql))]⟩)] (.two (.t 4 (.two (.nil) (.nil))) (.two (.jn [8] [] [(.n,⟨[(7,.p 100200 [])],[(100200,.var 51 (.d Ql))]⟩)] (.un (.two (.dr 8 (.n 8 .done) (.done)) (.two (.two (.dr 9 (.n 9 .done) (.n 1 .done)) (.dr 9 (.n 9 .done) (.n 1 .done))) (.nil))))) (.reg (.n 3 .done))))))) (.reg (.n 2 (.call 0 (.n 1 .done))))))) (.reg (.n 3 .done))))))) (.two (.t 1 (.un (.lp [0,1] [] ⟨[(5,.d (.sl Ql)),(9,.d .i)],[]⟩ [(.x 4,⟨[(5,.d (.sl Ql))],[]⟩)] (.two (.t 4 (.two (.nil) (.nil))) (.two (.jn [9] [] [(.n,⟨[(5,.d (.sl Ql))],[]⟩)] (.un (.t 1 (.two (.t 1 (.un (.lp [5,9] [] ⟨[(10,.d .bool),(11,.d .i)],[]⟩ [(.x 6,⟨[(10,.d .bool)],[]⟩)] (.two (.t 4 (.two (.nil) (.nil))) (.two (.un (.dr 15 (.n 2 (.sp 71 12 [11] [] ⟨[(83,.d .bool)],[]⟩ (.nl 11 (.n 1 .done)) (.nl 11 (.n 1 .done)) (.n 1 .done))) (.done))) (.reg (.n 3 .done))))))) (.t 2 (.two (.reg (.n 5 (.call 0 (.n 1 .done)))) (.nil))))))) (.reg (.n 3 .done))))))) (.t 2 (.nil)))))
def Cm:Shp:=⟨[(0,.d (.sl Ql)),(1,.d (.sl Ql))],[]⟩
def Br:Shp:=⟨[(0,.d (.sl Ql))],[]⟩
def Ha:An:=.t 1 (.two (.two (.reg (.n 1 (.call 0 (.n 2 (.sp 8 4 [0,1] [] ⟨[(12,.d .bool)],[]⟩ (.nl 3 (.n 1 .done)) (.nl 1 (.call 0 (.nl 1 (.n 1 .done)))) (.done)))))) (.two (.two (.reg (.call 1 (.n 1 .done))) (.nil)) (.nil))) (.two (.reg (.n 6 (.call 2 (.n 2 (.call 3 (.call 4 (.n 1 (.sp 25 2 [] [16,19,12001] ⟨[(27,.d .bool)],[]⟩ (.call 1 (.n 1 .done)) (.nl 1 (.n 1 .done)) (.n 1 .done))))))))) (.nil)))
def Hb:Shp:=⟨[(0,.d (.sl Ql)),(1,.d (.sl Ql))],[]⟩
def Gy:Shp:=⟨[(0,.d .bool)],[]⟩
theorem Jgt:Runs Tryz.prog 27:=⟨_,Tryz.func27,by decide,rfl⟩
def Qm1 (N:Nat):Con:=⟨27,Jdq,Q0c,fun _=>Z27 N,[]⟩
theorem Jgu (N:Nat):Qn Tryz.prog tx.gl (Qm1 N):=Qc (Y:=tx) (N:=N) (K:=[]) (an:=Jdp) Qt Qr Qq Tryz.func27 rfl (fun x=>by kernel_rfl)
theorem Q6r:Runs Tryz.prog 205:=⟨_,Tryz.func205,by decide,rfl⟩
def Qg4 (N:Nat):Con:=⟨205,Q0e,Qub,fun (x0,x1)=>Jj7 N x0 x1,[]⟩
theorem Q6s (N:Nat):Qn Tryz.prog tx.gl (Qg4 N):=Qc (Y:=tx) (N:=N) (K:=[]) (an:=Q0d) Qt Qr Qq Tryz.func205 rfl (fun x=>by kernel_rfl)
theorem Q6t:Runs Tryz.prog 179:=⟨_,Tryz.func179,by decide,rfl⟩
def Qg5 (N:Nat):Con:=⟨179,Q0g,Quc,fun (x0,x1)=>Jj8 N x0 x1,[]⟩
theorem Q6u (N:Nat):Qn Tryz.prog tx.gl (Qg5 N):=Qc (Y:=tx) (N:=N) (K:=[Qg4 N]) (an:=Q0f) Qt Qr (Qd (Q6s N) Q6r Qq) Tryz.func179 rfl (fun x=>by kernel_rfl)
theorem Q6v:Runs Tryz.prog 125:=⟨_,Tryz.func125,by decide,rfl⟩
def Qg6 (N:Nat):Con:=⟨125,Q0i,Qud,fun (x0,x1)=>Jj9 N x0 x1,[]⟩
theorem Q6w (N:Nat):Qn Tryz.prog tx.gl (Qg6 N):=Qc (Y:=tx) (N:=N) (K:=[Qg5 N]) (an:=Q0h) Qt Qr (Qd (Q6u N) Q6t Qq) Tryz.func125 rfl (fun x=>by kernel_rfl)
theorem Q6x:Runs Tryz.prog 124:=⟨_,Tryz.func124,by decide,rfl⟩
def Qg7 (N:Nat):Con:=⟨124,Q0k,Que,fun x0=>Jka N x0,[]⟩
theorem Q6y (N:Nat):Qn Tryz.prog tx.gl (Qg7 N):=Qc (Y:=tx) (N:=N) (K:=[]) (an:=Q0j) Qt Qr Qq Tryz.func124 rfl (fun x=>by kernel_rfl)
theorem Qwq:Runs Tryz.prog 82:=⟨_,Tryz.func82,by decide,rfl⟩
def Qd4 (N:Nat):Con:=⟨82,Jds,Q0l,fun (x0,x1)=>Z82 N x0 x1,[]⟩
theorem Qwr (N:Nat):Qn Tryz.prog tx.gl (Qd4 N):=Qc (Y:=tx) (N:=N) (K:=[Qg6 N,Qg7 N]) (an:=Jdr) Qt Qr (Qd (Q6w N) Q6v (Qd (Q6y N) Q6x Qq)) Tryz.func82 rfl (fun x=>by kernel_rfl)
theorem Rv:Runs Tryz.prog 129:=⟨_,Tryz.func129,by decide,rfl⟩
def Du (N:Nat):Con:=⟨129,Q0n,Quf,fun x0=>Qqo N x0,[]⟩
theorem Rw (N:Nat):Qn Tryz.prog tx.gl (Du N):=Qc (Y:=tx) (N:=N) (K:=[]) (an:=Q0m) Qt Qr Qq Tryz.func129 rfl (fun x=>by kernel_rfl)
theorem Qws:Runs Tryz.prog 83:=⟨_,Tryz.func83,by decide,rfl⟩
def Qd5 (N:Nat):Con:=⟨83,Jdu,Q0o,fun (x0,x1)=>Z83 N x0 x1,[]⟩
theorem Qwt (N:Nat):Qn Tryz.prog tx.gl (Qd5 N):=Qc (Y:=tx) (N:=N) (K:=[Du N]) (an:=Jdt) Qt Qr (Qd (Rw N) Rv Qq) Tryz.func83 rfl (fun x=>by kernel_rfl)
theorem Jgv:Runs Tryz.prog 63:=⟨_,Tryz.func63,by decide,rfl⟩
def Qm2 (N:Nat):Con:=⟨63,Jdw,Q0p,fun (x0,x1,x2)=>Z63 N x0 x1 x2,[]⟩
theorem Jgw (N:Nat):Qn Tryz.prog tx.gl (Qm2 N):=Qc (Y:=tx) (N:=N) (K:=[Qd4 N,Qd5 N]) (an:=Jdv) Qt Qr (Qd (Qwr N) Qwq (Qd (Qwt N) Qws Qq)) Tryz.func63 rfl (fun x=>by kernel_rfl)
theorem Q6z:Runs Tryz.prog 130:=⟨_,Tryz.func130,by decide,rfl⟩
def Qg8 (N:Nat):Con:=⟨130,Q0r,Qug,fun _=>Jkb N,[]⟩
theorem Q60 (N:Nat):Qn Tryz.prog tx.gl (Qg8 N):=Qc (Y:=tx) (N:=N) (K:=[]) (an:=Q0q) Qt Qr Qq Tryz.func130 rfl (fun x=>by kernel_rfl)
theorem Q61:Runs Tryz.prog 131:=⟨_,Tryz.func131,by decide,rfl⟩
def Qg9 (N:Nat):Con:=⟨131,Q0t,Quh,fun (x0,x1)=>Jkc N x0 x1,[]⟩
theorem Q62 (N:Nat):Qn Tryz.prog tx.gl (Qg9 N):=Qc (Y:=tx) (N:=N) (K:=[]) (an:=Q0s) Qt Qr Qq Tryz.func131 rfl (fun x=>by kernel_rfl)
theorem Q63:Runs Tryz.prog 180:=⟨_,Tryz.func180,by decide,rfl⟩
def Qd6 (N:Nat):It:=⟨180,[(.sl Yg),(.int .i64)],Yg,fun (x1,x2)=>Jkd N x1 x2⟩
theorem Qwu (N:Nat):Qtz Tryz.prog tx.gl (Qd6 N):=Qyw (Y:=tx) (N:=N) (K:=[]) (it:=Qd6 N) (an:=Q0u) Qt Qr Qq Tryz.func180 rfl (fun x=>by kernel_rfl)
theorem Q64:Runs Tryz.prog 181:=⟨_,Tryz.func181,by decide,rfl⟩
def Qha (N:Nat):Con:=⟨181,Q0w,Qui,fun (x0,x1)=>Jcb N x0 x1,[]⟩
theorem Q65 (N:Nat):Qn Tryz.prog tx.gl (Qha N):=Qc (Y:=tx) (N:=N) (K:=[]) (an:=Q0v) Qt Qr Qq Tryz.func181 rfl (fun x=>by kernel_rfl)
theorem Q66:Runs Tryz.prog 207:=⟨_,Tryz.func207,by decide,rfl⟩
def Qhb (N:Nat):Con:=⟨207,Q0y,Quj,fun (x0,x1)=>Jke N x0 x1,[]⟩
theorem Q67 (N:Nat):Qn Tryz.prog tx.gl (Qhb N):=Qc (Y:=tx) (N:=N) (K:=[]) (an:=Q0x) Qt Qr Qq Tryz.func207 rfl (fun x=>by kernel_rfl)
theorem Qk3:Runs Tryz.prog 182:=⟨_,Tryz.func182,by decide,rfl⟩
def Pt (N:Nat):Con:=⟨182,Qkg,Qgw,fun (x1,x2,m5000_5,m5000_6,m5001,m5002,m5003,m5004,m5005)=>Qms N x1 x2 m5000_5 m5000_6 m5001 m5002 m5003 m5004 m5005,[5000,5001,5002,5003,5004,5005]⟩
theorem Qk4 (N:Nat):Qn Tryz.prog tx.gl (Pt N):=Qc (Y:=tx) (N:=N) (K:=[Qhb N]) (an:=Qkf) Qt Qr (Qd (Q67 N) Q66 Qq) Tryz.func182 rfl (fun x=>by kernel_rfl)
theorem Qk5:Runs Tryz.prog 132:=⟨_,Tryz.func132,by decide,rfl⟩
def Pu (N:Nat):Con:=⟨132,Qki,Qgx,fun (x1,m5000_5,m5000_6,m5001,m5002,m5003,m5004,m5005)=>Qmt N x1 m5000_5 m5000_6 m5001 m5002 m5003 m5004 m5005,[]⟩
theorem Qk6 (N:Nat):Qn Tryz.prog tx.gl (Pu N):=Qc (Y:=tx) (N:=N) (K:=[Qha N,Pt N]) (an:=Qkh) Qt Qr (Qd (Q65 N) Q64 (Qd (Qk4 N) Qk3 Qq)) Tryz.func132 rfl (fun x=>by kernel_rfl)
theorem Q68:Runs Tryz.prog 133:=⟨_,Tryz.func133,by decide,rfl⟩
def Qhc (N:Nat):Con:=⟨133,Q00,Quk,fun (m5000_5,m5000_6,m5001,m5002,m5003,m5004,m5005)=>Jkf N m5000_5 m5000_6 m5001 m5002 m5003 m5004 m5005,[5000,5001,5002,5003,5004,5005]⟩
theorem Q69 (N:Nat):Qn Tryz.prog tx.gl (Qhc N):=Qc (Y:=tx) (N:=N) (K:=[]) (an:=Q0z) Qt Qr Qq Tryz.func133 rfl (fun x=>by kernel_rfl)
theorem Qwv:Runs Tryz.prog 84:=⟨_,Tryz.func84,by decide,rfl⟩
def Qd7 (N:Nat):Con:=⟨84,Jdy,Q01,fun (x0,x1)=>Z84 N x0 x1,[]⟩
theorem Qww (N:Nat):Qn Tryz.prog tx.gl (Qd7 N):=Qt0 (Y:=tx) (N:=N) (K:=[Qg8 N,Qg9 N,Pu N,Qhc N]) (its:=[Qd6 N]) (an:=Jdx) Qt Qr (Qd (Q60 N) Q6z (Qd (Q62 N) Q61 (Qd (Qk6 N) Qk5 (Qd (Q69 N) Q68 Qq)))) (List.forall_mem_cons.2 ⟨⟨Qwu N,Q63⟩,(List.forall_mem_nil _)⟩) Tryz.func84 rfl (fun x=>by kernel_rfl)
theorem Jgx:Runs Tryz.prog 64:=⟨_,Tryz.func64,by decide,rfl⟩
def Qm3 (N:Nat):Con:=⟨64,Jd0,Q02,fun (x0,x1,x2)=>Z64 N x0 x1 x2,[]⟩
theorem Jgy (N:Nat):Qn Tryz.prog tx.gl (Qm3 N):=Qc (Y:=tx) (N:=N) (K:=[Qd7 N]) (an:=Jdz) Qt Qr (Qd (Qww N) Qwv Qq) Tryz.func64 rfl (fun x=>by kernel_rfl)
theorem Jgz:Runs Tryz.prog 65:=⟨_,Tryz.func65,by decide,rfl⟩
def Qm4 (N:Nat):Con:=⟨65,Jd2,Q03,fun (x0,x1,x2)=>Z65 N x0 x1 x2,[]⟩
theorem Jg0 (N:Nat):Qn Tryz.prog tx.gl (Qm4 N):=Qc (Y:=tx) (N:=N) (K:=[Qd7 N]) (an:=Jd1) Qt Qr (Qd (Qww N) Qwv Qq) Tryz.func65 rfl (fun x=>by kernel_rfl)
theorem Jg1:Runs Tryz.prog 49:=⟨_,Tryz.func49,by decide,rfl⟩
def Qm5 (N:Nat):Con:=⟨49,Jd4,Q04,fun (m5000_0,m5000_1,m5000_2,m5000_3_0,m5000_3_1,m5000_3_3,m5000_3_4,m5000_4_0,m5000_4_1,m5000_4_2,m5000_4_3,m5000_4_4,m5000_5_0,m5000_5_1,m5000_5_2,m5000_6,m5000_7_0,m5000_7_1,m5000_7_2,m5000_7_3,m5000_7_4,m5000_7_7,m5000_7_8,m5000_7_9,m5000_7_11,m5000_7_12,m5001,m5002,m5003,m5004,m5005,m5006,m5007,m5008,m5009)=>Z49 N m5000_0 m5000_1 m5000_2 m5000_3_0 m5000_3_1 m5000_3_3 m5000_3_4 m5000_4_0 m5000_4_1 m5000_4_2 m5000_4_3 m5000_4_4 m5000_5_0 m5000_5_1 m5000_5_2 m5000_6 m5000_7_0 m5000_7_1 m5000_7_2 m5000_7_3 m5000_7_4 m5000_7_7 m5000_7_8 m5000_7_9 m5000_7_11 m5000_7_12 m5001 m5002 m5003 m5004 m5005 m5006 m5007 m5008 m5009,[]⟩
theorem Jg2 (N:Nat):Qn Tryz.prog tx.gl (Qm5 N):=Qc (Y:=tx) (N:=N) (K:=[Qm2 N,Qm3 N,Qm4 N]) (an:=Jd3) Qt Qr (Qd (Jgw N) Jgv (Qd (Jgy N) Jgx (Qd (Jg0 N) Jgz Qq))) Tryz.func49 rfl (fun x=>by kernel_rfl)
theorem Jg3:Runs Tryz.prog 48:=⟨_,Tryz.func48,by decide,rfl⟩
def Qm6 (N:Nat):Con:=⟨48,Jd6,Q05,fun (m5001_0,m5001_1,m5001_2,m5001_3_0,m5001_3_1,m5001_3_3,m5001_3_4,m5001_4_0,m5001_4_1,m5001_4_2,m5001_4_3,m5001_4_4,m5001_5_0,m5001_5_1,m5001_5_2,m5001_6,m5001_7_0,m5001_7_1,m5001_7_2,m5001_7_3,m5001_7_4,m5001_7_7,m5001_7_8,m5001_7_9,m5001_7_11,m5001_7_12,m5002,m5003,m5004,m5005,m5006,m5007,m5008,m5009,m5010)=>Z48 N m5001_0 m5001_1 m5001_2 m5001_3_0 m5001_3_1 m5001_3_3 m5001_3_4 m5001_4_0 m5001_4_1 m5001_4_2 m5001_4_3 m5001_4_4 m5001_5_0 m5001_5_1 m5001_5_2 m5001_6 m5001_7_0 m5001_7_1 m5001_7_2 m5001_7_3 m5001_7_4 m5001_7_7 m5001_7_8 m5001_7_9 m5001_7_11 m5001_7_12 m5002 m5003 m5004 m5005 m5006 m5007 m5008 m5009 m5010,[5000]⟩
theorem Jg4 (N:Nat):Qn Tryz.prog tx.gl (Qm6 N):=Qc (Y:=tx) (N:=N) (K:=[Qm5 N]) (an:=Jd5) Qt Qr (Qd (Jg2 N) Jg1 Qq) Tryz.func48 rfl (fun x=>by kernel_rfl)
theorem Jg5:Runs Tryz.prog 47:=⟨_,Tryz.func47,by decide,rfl⟩
def Qm7 (N:Nat):Con:=⟨47,Jd8,Q06,fun (m5001_0,m5001_1,m5001_2,m5001_3_0,m5001_3_1,m5001_3_3,m5001_3_4,m5001_4_0,m5001_4_1,m5001_4_2,m5001_4_3,m5001_4_4,m5001_5_0,m5001_5_1,m5001_5_2,m5001_6,m5001_7_0,m5001_7_1,m5001_7_2,m5001_7_3,m5001_7_4,m5001_7_7,m5001_7_8,m5001_7_9,m5001_7_11,m5001_7_12,m5002,m5003,m5004,m5005,m5006,m5007,m5008,m5009,m5010,m5011)=>Z47 N m5001_0 m5001_1 m5001_2 m5001_3_0 m5001_3_1 m5001_3_3 m5001_3_4 m5001_4_0 m5001_4_1 m5001_4_2 m5001_4_3 m5001_4_4 m5001_5_0 m5001_5_1 m5001_5_2 m5001_6 m5001_7_0 m5001_7_1 m5001_7_2 m5001_7_3 m5001_7_4 m5001_7_7 m5001_7_8 m5001_7_9 m5001_7_11 m5001_7_12 m5002 m5003 m5004 m5005 m5006 m5007 m5008 m5009 m5010 m5011,[5000]⟩
theorem Jg6 (N:Nat):Qn Tryz.prog tx.gl (Qm7 N):=Qc (Y:=tx) (N:=N) (K:=[Qm6 N]) (an:=Jd7) Qt Qr (Qd (Jg4 N) Jg3 Qq) Tryz.func47 rfl (fun x=>by kernel_rfl)
theorem Q7a:Runs Tryz.prog 134:=⟨_,Tryz.func134,by decide,rfl⟩
def Qhd (N:Nat):Con:=⟨134,Q08,Qul,fun x0=>Jkg N x0,[]⟩
theorem Q7b (N:Nat):Qn Tryz.prog tx.gl (Qhd N):=Qc (Y:=tx) (N:=N) (K:=[]) (an:=Q07) Qt Qr Qq Tryz.func134 rfl (fun x=>by kernel_rfl)
theorem Q7c:Runs Tryz.prog 135:=⟨_,Tryz.func135,by decide,rfl⟩
def Qhe (N:Nat):Con:=⟨135,Q1a,Qum,fun x0=>Jkh N x0,[]⟩
theorem Q7d (N:Nat):Qn Tryz.prog tx.gl (Qhe N):=Qc (Y:=tx) (N:=N) (K:=[]) (an:=Q09) Qt Qr Qq Tryz.func135 rfl (fun x=>by kernel_rfl)
theorem Q7e:Runs Tryz.prog 136:=⟨_,Tryz.func136,by decide,rfl⟩
def Qhf (N:Nat):Con:=⟨136,Q1c,Qun,fun x0=>Jki N x0,[]⟩
theorem Q7f (N:Nat):Qn Tryz.prog tx.gl (Qhf N):=Qc (Y:=tx) (N:=N) (K:=[]) (an:=Q1b) Qt Qr Qq Tryz.func136 rfl (fun x=>by kernel_rfl)
theorem Jg7:Runs Tryz.prog 85:=⟨_,Tryz.func85,by decide,rfl⟩
def Qm8 (N:Nat):Con:=⟨85,Jea,Q1d,fun x0=>Z85 N x0,[]⟩
theorem Jg8 (N:Nat):Qn Tryz.prog tx.gl (Qm8 N):=Qc (Y:=tx) (N:=N) (K:=[Qhd N,Qhe N,Qhf N]) (an:=Jd9) Qt Qr (Qd (Q7b N) Q7a (Qd (Q7d N) Q7c (Qd (Q7f N) Q7e Qq))) Tryz.func85 rfl (fun x=>by kernel_rfl)
theorem Jg9:Runs Tryz.prog 66:=⟨_,Tryz.func66,by decide,rfl⟩
def Qm9 (N:Nat):Con:=⟨66,Jec,Q1e,fun (x0,x1,x2)=>Z66 N x0 x1 x2,[]⟩
theorem Jha (N:Nat):Qn Tryz.prog tx.gl (Qm9 N):=Qc (Y:=tx) (N:=N) (K:=[Qm8 N]) (an:=Jeb) Qt Qr (Qd (Jg8 N) Jg7 Qq) Tryz.func66 rfl (fun x=>by kernel_rfl)
theorem Q7g:Runs Tryz.prog 138:=⟨_,Tryz.func138,by decide,rfl⟩
def Qhg (N:Nat):Con:=⟨138,Q1g,Quo,fun x0=>Jkj N x0,[]⟩
theorem Q7h (N:Nat):Qn Tryz.prog tx.gl (Qhg N):=Qc (Y:=tx) (N:=N) (K:=[]) (an:=Q1f) Qt Qr Qq Tryz.func138 rfl (fun x=>by kernel_rfl)
theorem Q7i:Runs Tryz.prog 183:=⟨_,Tryz.func183,by decide,rfl⟩
def Qhh (N:Nat):Con:=⟨183,Q1i,Qup,fun (x0,m5000)=>Jkk N x0 m5000,[5000]⟩
theorem Q7j (N:Nat):Qn Tryz.prog tx.gl (Qhh N):=Qc (Y:=tx) (N:=N) (K:=[]) (an:=Q1h) Qt Qr Qq Tryz.func183 rfl (fun x=>by kernel_rfl)
theorem Q7k:Runs Tryz.prog 139:=⟨_,Tryz.func139,by decide,rfl⟩
def Qhi (N:Nat):Con:=⟨139,Q1k,Quq,fun (x0,m5000)=>Jkl N x0 m5000,[5000]⟩
theorem Q7l (N:Nat):Qn Tryz.prog tx.gl (Qhi N):=Qc (Y:=tx) (N:=N) (K:=[Qhh N]) (an:=Q1j) Qt Qr (Qd (Q7j N) Q7i Qq) Tryz.func139 rfl (fun x=>by kernel_rfl)
theorem Q7m:Runs Tryz.prog 141:=⟨_,Tryz.func141,by decide,rfl⟩
def Qhj (N:Nat):Con:=⟨141,Q1m,Qur,fun x0=>Jkm N x0,[]⟩
theorem Q7n (N:Nat):Qn Tryz.prog tx.gl (Qhj N):=Qc (Y:=tx) (N:=N) (K:=[]) (an:=Q1l) Qt Qr Qq Tryz.func141 rfl (fun x=>by kernel_rfl)
theorem Qwx:Runs Tryz.prog 87:=⟨_,Tryz.func87,by decide,rfl⟩
def Qd8 (N:Nat):Con:=⟨87,Jee,Q1n,fun x0=>Z87 N x0,[]⟩
theorem Qwy (N:Nat):Qn Tryz.prog tx.gl (Qd8 N):=Qc (Y:=tx) (N:=N) (K:=[Qhj N]) (an:=Jed) Qt Qr (Qd (Q7n N) Q7m Qq) Tryz.func87 rfl (fun x=>by kernel_rfl)
theorem Jhb:Runs Tryz.prog 86:=⟨_,Tryz.func86,by decide,rfl⟩
def Qna (N:Nat):Con:=⟨86,Jeg,Q1o,fun x0=>Z86 N x0,[]⟩
theorem Jhc (N:Nat):Qn Tryz.prog tx.gl (Qna N):=Qc (Y:=tx) (N:=N) (K:=[Qhg N,Qhi N,Qd8 N]) (an:=Jef) Qt Qr (Qd (Q7h N) Q7g (Qd (Q7l N) Q7k (Qd (Qwy N) Qwx Qq))) Tryz.func86 rfl (fun x=>by kernel_rfl)
theorem Jhd:Runs Tryz.prog 88:=⟨_,Tryz.func88,by decide,rfl⟩
def Qnb (N:Nat):Con:=⟨88,Jei,Q1p,fun (x1,x2,m5000)=>Z88 N x1 x2 m5000,[5000]⟩
theorem Jhe (N:Nat):Qn Tryz.prog tx.gl (Qnb N):=Qc (Y:=tx) (N:=N) (K:=[]) (an:=Jeh) Qt Qr Qq Tryz.func88 rfl (fun x=>by kernel_rfl)
theorem Qwz:Runs Tryz.prog 67:=⟨_,Tryz.func67,by decide,rfl⟩
def Qd9 (N:Nat):Con:=⟨67,Jek,Q1q,fun (x0,x1)=>Z67 N x0 x1,[]⟩
theorem Qw0 (N:Nat):Qn Tryz.prog tx.gl (Qd9 N):=Qc (Y:=tx) (N:=N) (K:=[Qna N,Qd8 N,Qnb N]) (an:=Jej) Qt Qr (Qd (Jhc N) Jhb (Qd (Qwy N) Qwx (Qd (Jhe N) Jhd Qq))) Tryz.func67 rfl (fun x=>by kernel_rfl)
theorem Jhf:Runs Tryz.prog 51:=⟨_,Tryz.func51,by decide,rfl⟩
def Qnc (N:Nat):Con:=⟨51,Jem,Q1r,fun (m5000_0,m5000_1,m5000_2,m5000_3,m5000_4,m5000_5_0,m5000_5_1,m5000_5_2,m5000_6,m5000_7_0,m5000_7_1,m5000_7_2,m5000_7_3,m5000_7_4,m5000_7_7,m5000_7_8,m5000_7_9,m5000_7_11,m5000_7_12,m5001,m5002,m5003,m5004,m5005,m5006,m5007)=>Z51 N m5000_0 m5000_1 m5000_2 m5000_3 m5000_4 m5000_5_0 m5000_5_1 m5000_5_2 m5000_6 m5000_7_0 m5000_7_1 m5000_7_2 m5000_7_3 m5000_7_4 m5000_7_7 m5000_7_8 m5000_7_9 m5000_7_11 m5000_7_12 m5001 m5002 m5003 m5004 m5005 m5006 m5007,[5001,5002,5003,5004]⟩
theorem Jhg (N:Nat):Qn Tryz.prog tx.gl (Qnc N):=Qc (Y:=tx) (N:=N) (K:=[Qm9 N,Qd9 N]) (an:=Jel) Qt Qr (Qd (Jha N) Jg9 (Qd (Qw0 N) Qwz Qq)) Tryz.func51 rfl (fun x=>by kernel_rfl)
theorem Jhh:Runs Tryz.prog 50:=⟨_,Tryz.func50,by decide,rfl⟩
def Qnd (N:Nat):Con:=⟨50,Jeo,Q1s,fun (m5001_0,m5001_1,m5001_2,m5001_3,m5001_4,m5001_5_0,m5001_5_1,m5001_5_2,m5001_6,m5001_7_0,m5001_7_1,m5001_7_2,m5001_7_3,m5001_7_4,m5001_7_7,m5001_7_8,m5001_7_9,m5001_7_11,m5001_7_12,m5002,m5003,m5004,m5005,m5006,m5007,m5008)=>Z50 N m5001_0 m5001_1 m5001_2 m5001_3 m5001_4 m5001_5_0 m5001_5_1 m5001_5_2 m5001_6 m5001_7_0 m5001_7_1 m5001_7_2 m5001_7_3 m5001_7_4 m5001_7_7 m5001_7_8 m5001_7_9 m5001_7_11 m5001_7_12 m5002 m5003 m5004 m5005 m5006 m5007 m5008,[5000,5002,5003,5004,5005]⟩
theorem Jhi (N:Nat):Qn Tryz.prog tx.gl (Qnd N):=Qc (Y:=tx) (N:=N) (K:=[Qnc N]) (an:=Jen) Qt Qr (Qd (Jhg N) Jhf Qq) Tryz.func50 rfl (fun x=>by kernel_rfl)
theorem Qq6:Runs Tryz.prog 47:=⟨_,Tryz.func47,by decide,rfl⟩
def Qal (N:Nat):Con:=⟨47,Qqr,Qkj,fun (m5001_0,m5001_1,m5001_2,m5001_3,m5001_4,m5001_5_0,m5001_5_1,m5001_5_2,m5001_6,m5001_7_0,m5001_7_1,m5001_7_2,m5001_7_3,m5001_7_4,m5001_7_7,m5001_7_8,m5001_7_9,m5001_7_11,m5001_7_12,m5002,m5003,m5004,m5005,m5006,m5007,m5008,m5009)=>Qt3 N m5001_0 m5001_1 m5001_2 m5001_3 m5001_4 m5001_5_0 m5001_5_1 m5001_5_2 m5001_6 m5001_7_0 m5001_7_1 m5001_7_2 m5001_7_3 m5001_7_4 m5001_7_7 m5001_7_8 m5001_7_9 m5001_7_11 m5001_7_12 m5002 m5003 m5004 m5005 m5006 m5007 m5008 m5009,[5000]⟩
theorem Qq7 (N:Nat):Qn Tryz.prog tx.gl (Qal N):=Qc (Y:=tx) (N:=N) (K:=[Qnd N]) (an:=Qqq) Qt Qr (Qd (Jhi N) Jhh Qq) Tryz.func47 rfl (fun x=>by kernel_rfl)
theorem Q7o:Runs Tryz.prog 142:=⟨_,Tryz.func142,by decide,rfl⟩
def Qhk (N:Nat):Con:=⟨142,Q1u,Qus,fun x0=>Jkn N x0,[]⟩
theorem Q7p (N:Nat):Qn Tryz.prog tx.gl (Qhk N):=Qc (Y:=tx) (N:=N) (K:=[]) (an:=Q1t) Qt Qr Qq Tryz.func142 rfl (fun x=>by kernel_rfl)
theorem Qk7:Runs Tryz.prog 89:=⟨_,Tryz.func89,by decide,rfl⟩
def Rx (N:Nat):Con:=⟨89,Jeq,Q1v,fun x0=>Z89 N x0,[]⟩
theorem Qk8 (N:Nat):Qn Tryz.prog tx.gl (Rx N):=Qc (Y:=tx) (N:=N) (K:=[Qhk N]) (an:=Jep) Qt Qr (Qd (Q7p N) Q7o Qq) Tryz.func89 rfl (fun x=>by kernel_rfl)
theorem Jhj:Runs Tryz.prog 90:=⟨_,Tryz.func90,by decide,rfl⟩
def Qne (N:Nat):Con:=⟨90,Jes,Q1w,fun (x0,x1,x2)=>Z90 N x0 x1 x2,[]⟩
theorem Jhk (N:Nat):Qn Tryz.prog tx.gl (Qne N):=Qc (Y:=tx) (N:=N) (K:=[]) (an:=Jer) Qt Qr Qq Tryz.func90 rfl (fun x=>by kernel_rfl)
theorem Q7q:Runs Tryz.prog 115:=⟨_,Tryz.func115,by decide,rfl⟩
def Qhl (N:Nat):Con:=⟨115,Q1y,Qut,fun x0=>Jko N x0,[]⟩
theorem Q7r (N:Nat):Qn Tryz.prog tx.gl (Qhl N):=Qc (Y:=tx) (N:=N) (K:=[]) (an:=Q1x) Qt Qr Qq Tryz.func115 rfl (fun x=>by kernel_rfl)
theorem Jhl:Runs Tryz.prog 91:=⟨_,Tryz.func91,by decide,rfl⟩
def Qnf (N:Nat):Con:=⟨91,Jeu,Q1z,fun (x0,x1)=>Z91 N x0 x1,[]⟩
theorem Jhm (N:Nat):Qn Tryz.prog tx.gl (Qnf N):=Qc (Y:=tx) (N:=N) (K:=[Qhl N]) (an:=Jet) Qt Qr (Qd (Q7r N) Q7q Qq) Tryz.func91 rfl (fun x=>by kernel_rfl)
theorem Qea:Runs Tryz.prog 145:=⟨_,Tryz.func145,by decide,rfl⟩
def Nh (N:Nat):Con:=⟨145,Q11,Quu,fun (x0,x1,x2)=>Qj9 N x0 x1 x2,[]⟩
theorem Qeb (N:Nat):Qn Tryz.prog tx.gl (Nh N):=Qc (Y:=tx) (N:=N) (K:=[]) (an:=Q10) Qt Qr Qq Tryz.func145 rfl (fun x=>by kernel_rfl)
theorem Qng:Runs Tryz.prog 146:=⟨_,Tryz.func146,by decide,rfl⟩
def Qam (N:Nat):Con:=⟨146,Q13,Quv,fun x0=>Jcq N x0,[]⟩
theorem Qnh (N:Nat):Qn Tryz.prog tx.gl (Qam N):=Qc (Y:=tx) (N:=N) (K:=[]) (an:=Q12) Qt Qr Qq Tryz.func146 rfl (fun x=>by kernel_rfl)
theorem Qec:Runs Tryz.prog 143:=⟨_,Tryz.func143,by decide,rfl⟩
def Ni (N:Nat):Con:=⟨143,Q15,Quw,fun x0=>Qy9 N x0,[]⟩
theorem Qed (N:Nat):Qn Tryz.prog tx.gl (Ni N):=Qc (Y:=tx) (N:=N) (K:=[Nh N,Qam N]) (an:=Q14) Qt Qr (Qd (Qeb N) Qea (Qd (Qnh N) Qng Qq)) Tryz.func143 rfl (fun x=>by kernel_rfl)
theorem Jhn:Runs Tryz.prog 93:=⟨_,Tryz.func93,by decide,rfl⟩
def Qni (N:Nat):Con:=⟨93,Jew,Q16,fun (x0,x1)=>Z93 N x0 x1,[]⟩
theorem Jho (N:Nat):Qn Tryz.prog tx.gl (Qni N):=Qc (Y:=tx) (N:=N) (K:=[Ni N,Nh N,Qam N]) (an:=Jev) Qt Qr (Qd (Qed N) Qec (Qd (Qeb N) Qea (Qd (Qnh N) Qng Qq))) Tryz.func93 rfl (fun x=>by kernel_rfl)
theorem Jhp:Runs Tryz.prog 92:=⟨_,Tryz.func92,by decide,rfl⟩
def Qnj (N:Nat):Con:=⟨92,Jey,Q17,fun (x0,x1,m5000)=>Z92 N x0 x1 m5000,[]⟩
theorem Jhq (N:Nat):Qn Tryz.prog tx.gl (Qnj N):=Qc (Y:=tx) (N:=N) (K:=[]) (an:=Jex) Qt Qr Qq Tryz.func92 rfl (fun x=>by kernel_rfl)
theorem Jhr:Runs Tryz.prog 68:=⟨_,Tryz.func68,by decide,rfl⟩
def Qnk (N:Nat):Con:=⟨68,Je0,Q18,fun (x0,x1,x2,x3)=>Z68 N x0 x1 x2 x3,[]⟩
theorem Jhs (N:Nat):Qn Tryz.prog tx.gl (Qnk N):=Qc (Y:=tx) (N:=N) (K:=[Rx N,Qne N,Qnf N,Qni N,Qnj N]) (an:=Jez) Qt Qr (Qd (Qk8 N) Qk7 (Qd (Jhk N) Jhj (Qd (Jhm N) Jhl (Qd (Jho N) Jhn (Qd (Jhq N) Jhp Qq))))) Tryz.func68 rfl (fun x=>by kernel_rfl)
theorem Jht:Runs Tryz.prog 95:=⟨_,Tryz.func95,by decide,rfl⟩
def Qnl (N:Nat):Con:=⟨95,Je2,Q19,fun x0=>Z95 N x0,[]⟩
theorem Jhu (N:Nat):Qn Tryz.prog tx.gl (Qnl N):=Qc (Y:=tx) (N:=N) (K:=[]) (an:=Je1) Qt Qr Qq Tryz.func95 rfl (fun x=>by kernel_rfl)
theorem Qq8:Runs Tryz.prog 95:=⟨_,Tryz.func95,by decide,rfl⟩
def Qan (N:Nat):Con:=⟨95,Qqt,Qkk,fun x0=>Qt4 N x0,[]⟩
theorem Qq9 (N:Nat):Qn Tryz.prog tx.gl (Qan N):=Qc (Y:=tx) (N:=N) (K:=[]) (an:=Qqs) Qt Qr Qq Tryz.func95 rfl (fun x=>by kernel_rfl)
theorem Qw1:Runs Tryz.prog 96:=⟨_,Tryz.func96,by decide,rfl⟩
def Qee (N:Nat):Con:=⟨96,Je4,Q2a,fun x0=>Z96 N x0,[]⟩
theorem Qw2 (N:Nat):Qn Tryz.prog tx.gl (Qee N):=Qc (Y:=tx) (N:=N) (K:=[]) (an:=Je3) Qt Qr Qq Tryz.func96 rfl (fun x=>by kernel_rfl)
theorem Jhv:Runs Tryz.prog 97:=⟨_,Tryz.func97,by decide,rfl⟩
def Qnm (N:Nat):Con:=⟨97,Je6,Q2b,fun (x0,x1)=>Z97 N x0 x1,[]⟩
theorem Jhw (N:Nat):Qn Tryz.prog tx.gl (Qnm N):=Qc (Y:=tx) (N:=N) (K:=[]) (an:=Je5) Qt Qr Qq Tryz.func97 rfl (fun x=>by kernel_rfl)
theorem Q7s:Runs Tryz.prog 185:=⟨_,Tryz.func185,by decide,rfl⟩
def Qhm (N:Nat):Con:=⟨185,Q2d,Qux,fun (x0,m5000)=>Jkp N x0 m5000,[5000]⟩
theorem Q7t (N:Nat):Qn Tryz.prog tx.gl (Qhm N):=Qc (Y:=tx) (N:=N) (K:=[]) (an:=Q2c) Qt Qr Qq Tryz.func185 rfl (fun x=>by kernel_rfl)
theorem Q7u:Runs Tryz.prog 209:=⟨_,Tryz.func209,by decide,rfl⟩
def Qhn (N:Nat):Con:=⟨209,Q2f,Quy,fun x0=>Jkq N x0,[]⟩
theorem Q7v (N:Nat):Qn Tryz.prog tx.gl (Qhn N):=Qc (Y:=tx) (N:=N) (K:=[]) (an:=Q2e) Qt Qr Qq Tryz.func209 rfl (fun x=>by kernel_rfl)
theorem Q7w:Runs Tryz.prog 184:=⟨_,Tryz.func184,by decide,rfl⟩
def Qho (N:Nat):Con:=⟨184,Q2h,Quz,fun (x0,x1,m5000)=>Jkr N x0 x1 m5000,[5000]⟩
theorem Q7x (N:Nat):Qn Tryz.prog tx.gl (Qho N):=Qc (Y:=tx) (N:=N) (K:=[Qd4 N,Qhm N,Qhn N]) (an:=Q2g) Qt Qr (Qd (Qwr N) Qwq (Qd (Q7t N) Q7s (Qd (Q7v N) Q7u Qq))) Tryz.func184 rfl (fun x=>by kernel_rfl)
theorem Q7y:Runs Tryz.prog 147:=⟨_,Tryz.func147,by decide,rfl⟩
def Qhp (N:Nat):Con:=⟨147,Q2j,Qu0,fun (x0,x1,x2)=>Jks N x0 x1 x2,[]⟩
theorem Q7z (N:Nat):Qn Tryz.prog tx.gl (Qhp N):=Qc (Y:=tx) (N:=N) (K:=[Qho N]) (an:=Q2i) Qt Qr (Qd (Q7x N) Q7w Qq) Tryz.func147 rfl (fun x=>by kernel_rfl)
theorem Jhx:Runs Tryz.prog 98:=⟨_,Tryz.func98,by decide,rfl⟩
def Qnn (N:Nat):Con:=⟨98,Je8,Q2k,fun (x0,x1)=>Z98 N x0 x1,[]⟩
theorem Jhy (N:Nat):Qn Tryz.prog tx.gl (Qnn N):=Qc (Y:=tx) (N:=N) (K:=[Qhp N]) (an:=Je7) Qt Qr (Qd (Q7z N) Q7y Qq) Tryz.func98 rfl (fun x=>by kernel_rfl)
theorem Qno:Runs Tryz.prog 150:=⟨_,Tryz.func150,by decide,rfl⟩
def Qao (N:Nat):Con:=⟨150,Q2m,Qu1,fun (x0,x1)=>Jcv N x0 x1,[]⟩
theorem Qnp (N:Nat):Qn Tryz.prog tx.gl (Qao N):=Qc (Y:=tx) (N:=N) (K:=[Du N]) (an:=Q2l) Qt Qr (Qd (Rw N) Rv Qq) Tryz.func150 rfl (fun x=>by kernel_rfl)
theorem Qnq:Runs Tryz.prog 221:=⟨_,Tryz.func221,by decide,rfl⟩
def Qap (N:Nat):Con:=⟨221,Q2o,Qu2,fun x0=>Qzd N x0,[]⟩
theorem Qnr (N:Nat):Qn Tryz.prog tx.gl (Qap N):=Qc (Y:=tx) (N:=N) (K:=[]) (an:=Q2n) Qt Qr Qq Tryz.func221 rfl (fun x=>by kernel_rfl)
theorem Q70:Runs Tryz.prog 233:=⟨_,Tryz.func233,by decide,rfl⟩
def Qhq (N:Nat):Con:=⟨233,Q2q,Qu3,fun x0=>Jkt N x0,[]⟩
theorem Q71 (N:Nat):Qn Tryz.prog tx.gl (Qhq N):=Qc (Y:=tx) (N:=N) (K:=[]) (an:=Q2p) Qt Qr Qq Tryz.func233 rfl (fun x=>by kernel_rfl)
theorem Qef:Runs Tryz.prog 222:=⟨_,Tryz.func222,by decide,rfl⟩
def Nj (N:Nat):Con:=⟨222,Q2s,Qu4,fun (x0,x1)=>Qze N x0 x1,[]⟩
theorem Qeg (N:Nat):Qn Tryz.prog tx.gl (Nj N):=Qc (Y:=tx) (N:=N) (K:=[Qhq N]) (an:=Q2r) Qt Qr (Qd (Q71 N) Q70 Qq) Tryz.func222 rfl (fun x=>by kernel_rfl)
theorem Q72:Runs Tryz.prog 196:=⟨_,Tryz.func196,by decide,rfl⟩
def Qhr (N:Nat):Con:=⟨196,Q2u,Qu5,fun x0=>Jku N x0,[]⟩
theorem Q73 (N:Nat):Qn Tryz.prog tx.gl (Qhr N):=Qc (Y:=tx) (N:=N) (K:=[Qap N,Nj N]) (an:=Q2t) Qt Qr (Qd (Qnr N) Qnq (Qd (Qeg N) Qef Qq)) Tryz.func196 rfl (fun x=>by kernel_rfl)
theorem Qeh:Runs Tryz.prog 167:=⟨_,Tryz.func167,by decide,rfl⟩
def Nk (N:Nat):Con:=⟨167,Q2w,Qu6,fun (x0,x1)=>Qqp N x0 x1,[]⟩
theorem Qei (N:Nat):Qn Tryz.prog tx.gl (Nk N):=Qc (Y:=tx) (N:=N) (K:=[Qhr N]) (an:=Q2v) Qt Qr (Qd (Q73 N) Q72 Qq) Tryz.func167 rfl (fun x=>by kernel_rfl)
theorem Q74:Runs Tryz.prog 232:=⟨_,Tryz.func232,by decide,rfl⟩
def Qhs (N:Nat):Con:=⟨232,Q2y,Qu7,fun (x0,x1)=>Jkv N x0 x1,[]⟩
theorem Q75 (N:Nat):Qn Tryz.prog tx.gl (Qhs N):=Qc (Y:=tx) (N:=N) (K:=[Nj N]) (an:=Q2x) Qt Qr (Qd (Qeg N) Qef Qq) Tryz.func232 rfl (fun x=>by kernel_rfl)
theorem Q76:Runs Tryz.prog 220:=⟨_,Tryz.func220,by decide,rfl⟩
def Qht (N:Nat):Con:=⟨220,Q20,Qu8,fun x0=>Jkw N x0,[]⟩
theorem Q77 (N:Nat):Qn Tryz.prog tx.gl (Qht N):=Qc (Y:=tx) (N:=N) (K:=[Qhs N,Qap N,Nj N]) (an:=Q2z) Qt Qr (Qd (Q75 N) Q74 (Qd (Qnr N) Qnq (Qd (Qeg N) Qef Qq))) Tryz.func220 rfl (fun x=>by kernel_rfl)
theorem Q78:Runs Tryz.prog 195:=⟨_,Tryz.func195,by decide,rfl⟩
def Qhu (N:Nat):Con:=⟨195,Q22,Qu9,fun (x0,x1)=>Jcw N x0 x1,[]⟩
theorem Q79 (N:Nat):Qn Tryz.prog tx.gl (Qhu N):=Qc (Y:=tx) (N:=N) (K:=[Qht N]) (an:=Q21) Qt Qr (Qd (Q77 N) Q76 Qq) Tryz.func195 rfl (fun x=>by kernel_rfl)
theorem Qej:Runs Tryz.prog 166:=⟨_,Tryz.func166,by decide,rfl⟩
def Nl (N:Nat):Con:=⟨166,Q24,Qva,fun (x0,x1)=>Qzi N x0 x1,[]⟩
theorem Qek (N:Nat):Qn Tryz.prog tx.gl (Nl N):=Qc (Y:=tx) (N:=N) (K:=[Qhu N]) (an:=Q23) Qt Qr (Qd (Q79 N) Q78 Qq) Tryz.func166 rfl (fun x=>by kernel_rfl)
theorem Q8a:Runs Tryz.prog 151:=⟨_,Tryz.func151,by decide,rfl⟩
def Qhv (N:Nat):Con:=⟨151,Q26,Qvb,fun (x0,x1)=>Jkx N x0 x1,[]⟩
theorem Q8b (N:Nat):Qn Tryz.prog tx.gl (Qhv N):=Qc (Y:=tx) (N:=N) (K:=[Nk N,Nl N]) (an:=Q25) Qt Qr (Qd (Qei N) Qeh (Qd (Qek N) Qej Qq)) Tryz.func151 rfl (fun x=>by kernel_rfl)
theorem Qk9:Runs Tryz.prog 151:=⟨_,Tryz.func151,by decide,rfl⟩
def Pv (N:Nat):Con:=⟨151,Qkm,Qgy,fun (x0,x1)=>Qmu N x0 x1,[]⟩
theorem Qla (N:Nat):Qn Tryz.prog tx.gl (Pv N):=Qc (Y:=tx) (N:=N) (K:=[Nk N,Nl N]) (an:=Qkl) Qt Qr (Qd (Qei N) Qeh (Qd (Qek N) Qej Qq)) Tryz.func151 rfl (fun x=>by kernel_rfl)
theorem Qlb:Runs Tryz.prog 149:=⟨_,Tryz.func149,by decide,rfl⟩
def Pw (N:Nat):Con:=⟨149,Qko,Qgz,fun (x0,m5000,m5002,m5003)=>Qmv N x0 m5000 m5002 m5003,[5000,5003]⟩
theorem Qlc (N:Nat):Qn Tryz.prog tx.gl (Pw N):=Qc (Y:=tx) (N:=N) (K:=[Qao N,Qhv N]) (an:=Qkn) Qt Qr (Qd (Qnp N) Qno (Qd (Q8b N) Q8a Qq)) Tryz.func149 rfl (fun x=>by kernel_rfl)
theorem Q8c:Runs Tryz.prog 212:=⟨_,Tryz.func212,by decide,rfl⟩
def Qhw (N:Nat):Con:=⟨212,Q28,Qvc,fun (x0,x1,m5001)=>Jky N x0 x1 m5001,[]⟩
theorem Q8d (N:Nat):Qn Tryz.prog tx.gl (Qhw N):=Qc (Y:=tx) (N:=N) (K:=[Du N]) (an:=Q27) Qt Qr (Qd (Rw N) Rv Qq) Tryz.func212 rfl (fun x=>by kernel_rfl)
theorem Qld:Runs Tryz.prog 212:=⟨_,Tryz.func212,by decide,rfl⟩
def Px (N:Nat):Con:=⟨212,Qkq,Qg0,fun (x0,x1,m5001)=>Qmw N x0 x1 m5001,[]⟩
theorem Qle (N:Nat):Qn Tryz.prog tx.gl (Px N):=Qc (Y:=tx) (N:=N) (K:=[Du N]) (an:=Qkp) Qt Qr (Qd (Rw N) Rv Qq) Tryz.func212 rfl (fun x=>by kernel_rfl)
theorem Q8e:Runs Tryz.prog 248:=⟨_,Tryz.func248,by decide,rfl⟩
def Qhx (N:Nat):Con:=⟨248,Q3a,Qvd,fun x0=>Jkz N x0,[]⟩
theorem Q8f (N:Nat):Qn Tryz.prog tx.gl (Qhx N):=Qc (Y:=tx) (N:=N) (K:=[]) (an:=Q29) Qt Qr Qq Tryz.func248 rfl (fun x=>by kernel_rfl)
theorem Q8g:Runs Tryz.prog 229:=⟨_,Tryz.func229,by decide,rfl⟩
def Qhy (N:Nat):Con:=⟨229,Q3c,Qve,fun x0=>Jk0 N x0,[]⟩
theorem Q8h (N:Nat):Qn Tryz.prog tx.gl (Qhy N):=Qc (Y:=tx) (N:=N) (K:=[Qhx N]) (an:=Q3b) Qt Qr (Qd (Q8f N) Q8e Qq) Tryz.func229 rfl (fun x=>by kernel_rfl)
theorem Q8i:Runs Tryz.prog 214:=⟨_,Tryz.func214,by decide,rfl⟩
def Qhz (N:Nat):Con:=⟨214,Q3e,Qvf,fun (x0,x1)=>Jk1 N x0 x1,[]⟩
theorem Q8j (N:Nat):Qn Tryz.prog tx.gl (Qhz N):=Qc (Y:=tx) (N:=N) (K:=[]) (an:=Q3d) Qt Qr Qq Tryz.func214 rfl (fun x=>by kernel_rfl)
theorem Q8k:Runs Tryz.prog 239:=⟨_,Tryz.func239,by decide,rfl⟩
def Qh0 (N:Nat):Con:=⟨239,Q3g,Qvg,fun (x0,x1,x2)=>Jk2 N x0 x1 x2,[]⟩
theorem Q8l (N:Nat):Qn Tryz.prog tx.gl (Qh0 N):=Qc (Y:=tx) (N:=N) (K:=[Qhz N]) (an:=Q3f) Qt Qr (Qd (Q8j N) Q8i Qq) Tryz.func239 rfl (fun x=>by kernel_rfl)
theorem Q8m:Runs Tryz.prog 228:=⟨_,Tryz.func228,by decide,rfl⟩
def Qh1 (N:Nat):Con:=⟨228,Q3i,Qvh,fun (x0,x1,x2,x3)=>Jk3 N x0 x1 x2 x3,[]⟩
theorem Q8n (N:Nat):Qn Tryz.prog tx.gl (Qh1 N):=Qc (Y:=tx) (N:=N) (K:=[Qh0 N]) (an:=Q3h) Qt Qr (Qd (Q8l N) Q8k Qq) Tryz.func228 rfl (fun x=>by kernel_rfl)
theorem Q8o:Runs Tryz.prog 213:=⟨_,Tryz.func213,by decide,rfl⟩
def Qh2 (N:Nat):Con:=⟨213,Q3k,Qvi,fun x0=>Jk4 N x0,[]⟩
theorem Q8p (N:Nat):Qn Tryz.prog tx.gl (Qh2 N):=Qc (Y:=tx) (N:=N) (K:=[Qhy N,Qh1 N]) (an:=Q3j) Qt Qr (Qd (Q8h N) Q8g (Qd (Q8n N) Q8m Qq)) Tryz.func213 rfl (fun x=>by kernel_rfl)
theorem Q8q:Runs Tryz.prog 187:=⟨_,Tryz.func187,by decide,rfl⟩
def Qh3 (N:Nat):Con:=⟨187,Q3m,Qvj,fun (x0,x1)=>Jk5 N x0 x1,[]⟩
theorem Q8r (N:Nat):Qn Tryz.prog tx.gl (Qh3 N):=Qc (Y:=tx) (N:=N) (K:=[]) (an:=Q3l) Qt Qr Qq Tryz.func187 rfl (fun x=>by kernel_rfl)
theorem Q8s:Runs Tryz.prog 186:=⟨_,Tryz.func186,by decide,rfl⟩
def Qh4 (N:Nat):Con:=⟨186,Q3o,Qvk,fun (x0,x1)=>Jk6 N x0 x1,[]⟩
theorem Q8t (N:Nat):Qn Tryz.prog tx.gl (Qh4 N):=Qc (Y:=tx) (N:=N) (K:=[Qhw N,Px N,Qh2 N,Qh3 N]) (an:=Q3n) Qt Qr (Qd (Q8d N) Q8c (Qd (Qle N) Qld (Qd (Q8p N) Q8o (Qd (Q8r N) Q8q Qq)))) Tryz.func186 rfl (fun x=>by kernel_rfl)
theorem Q8u:Runs Tryz.prog 152:=⟨_,Tryz.func152,by decide,rfl⟩
def Qh5 (N:Nat):Con:=⟨152,Q3q,Qvl,fun x0=>Jk7 N x0,[]⟩
theorem Q8v (N:Nat):Qn Tryz.prog tx.gl (Qh5 N):=Qc (Y:=tx) (N:=N) (K:=[Qh4 N]) (an:=Q3p) Qt Qr (Qd (Q8t N) Q8s Qq) Tryz.func152 rfl (fun x=>by kernel_rfl)
theorem Jhz:Runs Tryz.prog 99:=⟨_,Tryz.func99,by decide,rfl⟩
def Qns (N:Nat):Con:=⟨99,Jfa,Q3r,fun (x0,x1,x2)=>Z99 N x0 x1 x2,[]⟩
theorem Jh0 (N:Nat):Qn Tryz.prog tx.gl (Qns N):=Qc (Y:=tx) (N:=N) (K:=[Pw N,Qh5 N,Pv N]) (an:=Je9) Qt Qr (Qd (Qlc N) Qlb (Qd (Q8v N) Q8u (Qd (Qla N) Qk9 Qq))) Tryz.func99 rfl (fun x=>by kernel_rfl)
theorem Q8w:Runs Tryz.prog 189:=⟨_,Tryz.func189,by decide,rfl⟩
def Qh6 (N:Nat):Con:=⟨189,Q3t,Qvm,fun (x0,m5000,m5001)=>Jk8 N x0 m5000 m5001,[5000,5001]⟩
theorem Q8x (N:Nat):Qn Tryz.prog tx.gl (Qh6 N):=Qc (Y:=tx) (N:=N) (K:=[]) (an:=Q3s) Qt Qr Qq Tryz.func189 rfl (fun x=>by kernel_rfl)
theorem Q8y:Runs Tryz.prog 188:=⟨_,Tryz.func188,by decide,rfl⟩
def Qh7 (N:Nat):Con:=⟨188,Q3v,Qvn,fun (x0,m5000,m5001)=>Jk9 N x0 m5000 m5001,[5000,5001]⟩
theorem Q8z (N:Nat):Qn Tryz.prog tx.gl (Qh7 N):=Qc (Y:=tx) (N:=N) (K:=[Qh6 N]) (an:=Q3u) Qt Qr (Qd (Q8x N) Q8w Qq) Tryz.func188 rfl (fun x=>by kernel_rfl)
theorem Q80:Runs Tryz.prog 190:=⟨_,Tryz.func190,by decide,rfl⟩
def Qh8 (N:Nat):Con:=⟨190,Q3x,Qvo,fun x0=>Jla N x0,[]⟩
theorem Q81 (N:Nat):Qn Tryz.prog tx.gl (Qh8 N):=Qc (Y:=tx) (N:=N) (K:=[]) (an:=Q3w) Qt Qr Qq Tryz.func190 rfl (fun x=>by kernel_rfl)
theorem Q82:Runs Tryz.prog 153:=⟨_,Tryz.func153,by decide,rfl⟩
def Qh9 (N:Nat):Con:=⟨153,Q3z,Qvp,fun (x0,x1,x2)=>Jlb N x0 x1 x2,[]⟩
theorem Q83 (N:Nat):Qn Tryz.prog tx.gl (Qh9 N):=Qc (Y:=tx) (N:=N) (K:=[Qh7 N,Qh8 N]) (an:=Q3y) Qt Qr (Qd (Q8z N) Q8y (Qd (Q81 N) Q80 Qq)) Tryz.func153 rfl (fun x=>by kernel_rfl)
theorem Q84:Runs Tryz.prog 100:=⟨_,Tryz.func100,by decide,rfl⟩
def Qia (N:Nat):Con:=⟨100,Q31,Qvq,fun (x0,x1,x2)=>Jlc N x0 x1 x2,[]⟩
theorem Q85 (N:Nat):Qn Tryz.prog tx.gl (Qia N):=Qc (Y:=tx) (N:=N) (K:=[Qao N,Qh9 N]) (an:=Q30) Qt Qr (Qd (Qnp N) Qno (Qd (Q83 N) Q82 Qq)) Tryz.func100 rfl (fun x=>by kernel_rfl)
theorem Qlf:Runs Tryz.prog 101:=⟨_,Tryz.func101,by decide,rfl⟩
def Py (N:Nat):Con:=⟨101,Qks,Qg1,fun (x1,m5000_0,m5001)=>Qmx N x1 m5000_0 m5001,[]⟩
theorem Qlg (N:Nat):Qn Tryz.prog tx.gl (Py N):=Qc (Y:=tx) (N:=N) (K:=[Qee N,Qan N]) (an:=Qkr) Qt Qr (Qd (Qw2 N) Qw1 (Qd (Qq9 N) Qq8 Qq)) Tryz.func101 rfl (fun x=>by kernel_rfl)
theorem Jh1:Runs Tryz.prog 69:=⟨_,Tryz.func69,by decide,rfl⟩
def Qnt (N:Nat):Con:=⟨69,Jfc,Q32,fun (x0,x1,x2,x3,x4)=>Z69 N x0 x1 x2 x3 x4,[]⟩
theorem Jh2 (N:Nat):Qn Tryz.prog tx.gl (Qnt N):=Qc (Y:=tx) (N:=N) (K:=[Qnl N,Qee N,Qnm N,Qnn N,Qns N,Qia N,Py N]) (an:=Jfb) Qt Qr (Qd (Jhu N) Jht (Qd (Qw2 N) Qw1 (Qd (Jhw N) Jhv (Qd (Jhy N) Jhx (Qd (Jh0 N) Jhz (Qd (Q85 N) Q84 (Qd (Qlg N) Qlf Qq))))))) Tryz.func69 rfl (fun x=>by kernel_rfl)
theorem Q86:Runs Tryz.prog 191:=⟨_,Tryz.func191,by decide,rfl⟩
def Qib (N:Nat):Con:=⟨191,Q34,Qvr,fun x0=>Jld N x0,[]⟩
theorem Q87 (N:Nat):Qn Tryz.prog tx.gl (Qib N):=Qc (Y:=tx) (N:=N) (K:=[]) (an:=Q33) Qt Qr Qq Tryz.func191 rfl (fun x=>by kernel_rfl)
theorem Q88:Runs Tryz.prog 157:=⟨_,Tryz.func157,by decide,rfl⟩
def Qic (N:Nat):Con:=⟨157,Q36,Qvs,fun x0=>Jle N x0,[]⟩
theorem Q89 (N:Nat):Qn Tryz.prog tx.gl (Qic N):=Qc (Y:=tx) (N:=N) (K:=[Qib N]) (an:=Q35) Qt Qr (Qd (Q87 N) Q86 Qq) Tryz.func157 rfl (fun x=>by kernel_rfl)
theorem Q9a:Runs Tryz.prog 158:=⟨_,Tryz.func158,by decide,rfl⟩
def Qid (N:Nat):Con:=⟨158,Q38,Qvt,fun (x0,x1,x2)=>Jlf N x0 x1 x2,[]⟩
theorem Q9b (N:Nat):Qn Tryz.prog tx.gl (Qid N):=Qc (Y:=tx) (N:=N) (K:=[]) (an:=Q37) Qt Qr Qq Tryz.func158 rfl (fun x=>by kernel_rfl)
theorem Q9c:Runs Tryz.prog 159:=⟨_,Tryz.func159,by decide,rfl⟩
def Qie (N:Nat):Con:=⟨159,Q4a,Qvu,fun (x0,x1,x2,x3,x4,x5,x6)=>Jlg N x0 x1 x2 x3 x4 x5 x6,[]⟩
theorem Q9d (N:Nat):Qn Tryz.prog tx.gl (Qie N):=Qc (Y:=tx) (N:=N) (K:=[Qd5 N]) (an:=Q39) Qt Qr (Qd (Qwt N) Qws Qq) Tryz.func159 rfl (fun x=>by kernel_rfl)
theorem Q9e:Runs Tryz.prog 160:=⟨_,Tryz.func160,by decide,rfl⟩
def Qif (N:Nat):Con:=⟨160,Q4c,Qvv,fun x0=>Jlh N x0,[]⟩
theorem Q9f (N:Nat):Qn Tryz.prog tx.gl (Qif N):=Qc (Y:=tx) (N:=N) (K:=[]) (an:=Q4b) Qt Qr Qq Tryz.func160 rfl (fun x=>by kernel_rfl)
theorem Q9g:Runs Tryz.prog 102:=⟨_,Tryz.func102,by decide,rfl⟩
def Qig (N:Nat):Con:=⟨102,Q4e,Qvw,fun (x0,x1,x2,x3,x4,x5,x6,x7)=>Jli N x0 x1 x2 x3 x4 x5 x6 x7,[]⟩
theorem Q9h (N:Nat):Qn Tryz.prog tx.gl (Qig N):=Qc (Y:=tx) (N:=N) (K:=[Qic N,Qid N,Qie N,Qif N]) (an:=Q4d) Qt Qr (Qd (Q89 N) Q88 (Qd (Q9b N) Q9a (Qd (Q9d N) Q9c (Qd (Q9f N) Q9e Qq)))) Tryz.func102 rfl (fun x=>by kernel_rfl)
theorem Jh3:Runs Tryz.prog 70:=⟨_,Tryz.func70,by decide,rfl⟩
def Qnu (N:Nat):Con:=⟨70,Jfe,Q4f,fun (x0,x1,x2,x3)=>Z70 N x0 x1 x2 x3,[]⟩
theorem Jh4 (N:Nat):Qn Tryz.prog tx.gl (Qnu N):=Qc (Y:=tx) (N:=N) (K:=[Rx N,Qig N]) (an:=Jfd) Qt Qr (Qd (Qk8 N) Qk7 (Qd (Q9h N) Q9g Qq)) Tryz.func70 rfl (fun x=>by kernel_rfl)
theorem Jh5:Runs Tryz.prog 53:=⟨_,Tryz.func53,by decide,rfl⟩
def Qnv (N:Nat):Con:=⟨53,Jfg,Q4g,fun (m5000_0,m5000_1,m5000_2,m5000_3,m5000_4,m5000_5,m5000_6,m5000_7_0,m5000_7_1,m5000_7_2,m5000_7_3,m5000_7_4,m5000_7_7,m5000_7_8,m5000_7_9,m5000_7_11,m5000_7_12,m5001,m5002,m5003)=>Z53 N m5000_0 m5000_1 m5000_2 m5000_3 m5000_4 m5000_5 m5000_6 m5000_7_0 m5000_7_1 m5000_7_2 m5000_7_3 m5000_7_4 m5000_7_7 m5000_7_8 m5000_7_9 m5000_7_11 m5000_7_12 m5001 m5002 m5003,[5001]⟩
theorem Jh6 (N:Nat):Qn Tryz.prog tx.gl (Qnv N):=Qc (Y:=tx) (N:=N) (K:=[Qnk N,Qnt N,Qnu N]) (an:=Jff) Qt Qr (Qd (Jhs N) Jhr (Qd (Jh2 N) Jh1 (Qd (Jh4 N) Jh3 Qq))) Tryz.func53 rfl (fun x=>by kernel_rfl)
theorem Q9i:Runs Tryz.prog 161:=⟨_,Tryz.func161,by decide,rfl⟩
def Qih (N:Nat):Con:=⟨161,Q4i,Qvx,fun (x0,x1)=>Jlj N x0 x1,[]⟩
theorem Q9j (N:Nat):Qn Tryz.prog tx.gl (Qih N):=Qc (Y:=tx) (N:=N) (K:=[]) (an:=Q4h) Qt Qr Qq Tryz.func161 rfl (fun x=>by kernel_rfl)
theorem Q9k:Runs Tryz.prog 168:=⟨_,Tryz.func168,by decide,rfl⟩
def Qii (N:Nat):Con:=⟨168,Q4k,Qvy,fun x0=>Jlk N x0,[]⟩
theorem Q9l (N:Nat):Qn Tryz.prog tx.gl (Qii N):=Qc (Y:=tx) (N:=N) (K:=[]) (an:=Q4j) Qt Qr Qq Tryz.func168 rfl (fun x=>by kernel_rfl)
theorem Q9m:Runs Tryz.prog 197:=⟨_,Tryz.func197,by decide,rfl⟩
def Qij (N:Nat):Con:=⟨197,Q4m,Qvz,fun (x0,m5000)=>Jll N x0 m5000,[5000]⟩
theorem Q9n (N:Nat):Qn Tryz.prog tx.gl (Qij N):=Qc (Y:=tx) (N:=N) (K:=[]) (an:=Q4l) Qt Qr Qq Tryz.func197 rfl (fun x=>by kernel_rfl)
theorem Q9o:Runs Tryz.prog 169:=⟨_,Tryz.func169,by decide,rfl⟩
def Qik (N:Nat):Con:=⟨169,Q4o,Qv0,fun (x0,m5000)=>Jlm N x0 m5000,[5000]⟩
theorem Q9p (N:Nat):Qn Tryz.prog tx.gl (Qik N):=Qc (Y:=tx) (N:=N) (K:=[Qij N]) (an:=Q4n) Qt Qr (Qd (Q9n N) Q9m Qq) Tryz.func169 rfl (fun x=>by kernel_rfl)
theorem Qnw:Runs Tryz.prog 108:=⟨_,Tryz.func108,by decide,rfl⟩
def Qaq (N:Nat):Con:=⟨108,Q4q,Qv1,fun x0=>Jc4 N x0,[]⟩
theorem Qnx (N:Nat):Qn Tryz.prog tx.gl (Qaq N):=Qc (Y:=tx) (N:=N) (K:=[Qii N,Qik N]) (an:=Q4p) Qt Qr (Qd (Q9l N) Q9k (Qd (Q9p N) Q9o Qq)) Tryz.func108 rfl (fun x=>by kernel_rfl)
theorem Q9q:Runs Tryz.prog 199:=⟨_,Tryz.func199,by decide,rfl⟩
def Qil (N:Nat):Con:=⟨199,Q4s,Qv2,fun (x0,x1)=>Jln N x0 x1,[]⟩
theorem Q9r (N:Nat):Qn Tryz.prog tx.gl (Qil N):=Qc (Y:=tx) (N:=N) (K:=[]) (an:=Q4r) Qt Qr Qq Tryz.func199 rfl (fun x=>by kernel_rfl)
theorem Q9s:Runs Tryz.prog 174:=⟨_,Tryz.func174,by decide,rfl⟩
def Qim (N:Nat):Con:=⟨174,Q4u,Qv3,fun (x0,x1)=>Jlo N x0 x1,[]⟩
theorem Q9t (N:Nat):Qn Tryz.prog tx.gl (Qim N):=Qc (Y:=tx) (N:=N) (K:=[Qil N]) (an:=Q4t) Qt Qr (Qd (Q9r N) Q9q Qq) Tryz.func174 rfl (fun x=>by kernel_rfl)
theorem Qny:Runs Tryz.prog 114:=⟨_,Tryz.func114,by decide,rfl⟩
def Qar (N:Nat):Con:=⟨114,Q4w,Qv4,fun x0=>Jc5 N x0,[]⟩
theorem Qnz (N:Nat):Qn Tryz.prog tx.gl (Qar N):=Qc (Y:=tx) (N:=N) (K:=[]) (an:=Q4v) Qt Qr Qq Tryz.func114 rfl (fun x=>by kernel_rfl)
theorem Q9u:Runs Tryz.prog 110:=⟨_,Tryz.func110,by decide,rfl⟩
def Qin (N:Nat):Con:=⟨110,Q4y,Qv5,fun (x0,x1)=>Jlp N x0 x1,[]⟩
theorem Q9v (N:Nat):Qn Tryz.prog tx.gl (Qin N):=Qc (Y:=tx) (N:=N) (K:=[Qim N,Qar N]) (an:=Q4x) Qt Qr (Qd (Q9t N) Q9s (Qd (Qnz N) Qny Qq)) Tryz.func110 rfl (fun x=>by kernel_rfl)
theorem Q9w:Runs Tryz.prog 198:=⟨_,Tryz.func198,by decide,rfl⟩
def Qio (N:Nat):Con:=⟨198,Q40,Qv6,fun (x0,m5000,m5001)=>Jlq N x0 m5000 m5001,[5000,5001]⟩
theorem Q9x (N:Nat):Qn Tryz.prog tx.gl (Qio N):=Qc (Y:=tx) (N:=N) (K:=[]) (an:=Q4z) Qt Qr Qq Tryz.func198 rfl (fun x=>by kernel_rfl)
theorem Q9y:Runs Tryz.prog 173:=⟨_,Tryz.func173,by decide,rfl⟩
def Qip (N:Nat):Con:=⟨173,Q42,Qv7,fun (x0,m5000,m5001)=>Jlr N x0 m5000 m5001,[5000,5001]⟩
theorem Q9z (N:Nat):Qn Tryz.prog tx.gl (Qip N):=Qc (Y:=tx) (N:=N) (K:=[Qio N]) (an:=Q41) Qt Qr (Qd (Q9x N) Q9w Qq) Tryz.func173 rfl (fun x=>by kernel_rfl)
theorem Q90:Runs Tryz.prog 109:=⟨_,Tryz.func109,by decide,rfl⟩
def Qiq (N:Nat):Con:=⟨109,Q44,Qv8,fun (x0,x1,x2)=>Jls N x0 x1 x2,[]⟩
theorem Q91 (N:Nat):Qn Tryz.prog tx.gl (Qiq N):=Qc (Y:=tx) (N:=N) (K:=[Qip N]) (an:=Q43) Qt Qr (Qd (Q9z N) Q9y Qq) Tryz.func109 rfl (fun x=>by kernel_rfl)
theorem Qw3:Runs Tryz.prog 74:=⟨_,Tryz.func74,by decide,rfl⟩
def Qel (N:Nat):Con:=⟨74,Jfi,Q45,fun (x0,x1,x2)=>Z74 N x0 x1 x2,[]⟩
theorem Qw4 (N:Nat):Qn Tryz.prog tx.gl (Qel N):=Qc (Y:=tx) (N:=N) (K:=[Qaq N,Qin N,Qiq N]) (an:=Jfh) Qt Qr (Qd (Qnx N) Qnw (Qd (Q9v N) Q9u (Qd (Q91 N) Q90 Qq))) Tryz.func74 rfl (fun x=>by kernel_rfl)
theorem Q92:Runs Tryz.prog 163:=⟨_,Tryz.func163,by decide,rfl⟩
def Qir (N:Nat):Con:=⟨163,Q47,Qv9,fun (x0,m5000,m5001,m5002)=>Jlt N x0 m5000 m5001 m5002,[5000,5001,5002]⟩
theorem Q93 (N:Nat):Qn Tryz.prog tx.gl (Qir N):=Qc (Y:=tx) (N:=N) (K:=[]) (an:=Q46) Qt Qr Qq Tryz.func163 rfl (fun x=>by kernel_rfl)
theorem Q94:Runs Tryz.prog 104:=⟨_,Tryz.func104,by decide,rfl⟩
def Qis (N:Nat):Con:=⟨104,Q49,Qwa,fun (x0,x1,x2,x3)=>Jlu N x0 x1 x2 x3,[]⟩
theorem Q95 (N:Nat):Qn Tryz.prog tx.gl (Qis N):=Qc (Y:=tx) (N:=N) (K:=[Qir N]) (an:=Q48) Qt Qr (Qd (Q93 N) Q92 Qq) Tryz.func104 rfl (fun x=>by kernel_rfl)
theorem Q96:Runs Tryz.prog 194:=⟨_,Tryz.func194,by decide,rfl⟩
def Qit (N:Nat):Con:=⟨194,Q5b,Qwb,fun (x0,x1)=>Jc6 N x0 x1,[]⟩
theorem Q97 (N:Nat):Qn Tryz.prog tx.gl (Qit N):=Qc (Y:=tx) (N:=N) (K:=[]) (an:=Q5a) Qt Qr Qq Tryz.func194 rfl (fun x=>by kernel_rfl)
theorem Q98:Runs Tryz.prog 164:=⟨_,Tryz.func164,by decide,rfl⟩
def Qiu (N:Nat):Con:=⟨164,Q5d,Qwc,fun x0=>Jlv N x0,[]⟩
theorem Q99 (N:Nat):Qn Tryz.prog tx.gl (Qiu N):=Qc (Y:=tx) (N:=N) (K:=[Qit N]) (an:=Q5c) Qt Qr (Qd (Q97 N) Q96 Qq) Tryz.func164 rfl (fun x=>by kernel_rfl)
theorem Jaa:Runs Tryz.prog 165:=⟨_,Tryz.func165,by decide,rfl⟩
def Qiv (N:Nat):Con:=⟨165,Q5f,Qwd,fun (x0,x1)=>Jc7 N x0 x1,[]⟩
theorem Jab (N:Nat):Qn Tryz.prog tx.gl (Qiv N):=Qc (Y:=tx) (N:=N) (K:=[]) (an:=Q5e) Qt Qr Qq Tryz.func165 rfl (fun x=>by kernel_rfl)
theorem Jac:Runs Tryz.prog 105:=⟨_,Tryz.func105,by decide,rfl⟩
def Qiw (N:Nat):Con:=⟨105,Q5h,Qwe,fun (x0,x1,x2)=>Jlw N x0 x1 x2,[]⟩
theorem Jad (N:Nat):Qn Tryz.prog tx.gl (Qiw N):=Qc (Y:=tx) (N:=N) (K:=[Qiu N,Qiv N]) (an:=Q5g) Qt Qr (Qd (Q99 N) Q98 (Qd (Jab N) Jaa Qq)) Tryz.func105 rfl (fun x=>by kernel_rfl)
theorem Qlh:Runs Tryz.prog 103:=⟨_,Tryz.func103,by decide,rfl⟩
def Pz (N:Nat):Con:=⟨103,Qku,Qg2,fun (x0,x1,x2,x3)=>Qmy N x0 x1 x2 x3,[]⟩
theorem Qli (N:Nat):Qn Tryz.prog tx.gl (Pz N):=Qc (Y:=tx) (N:=N) (K:=[Qih N,Qaq N,Qel N]) (an:=Qkt) Qt Qr (Qd (Q9j N) Q9i (Qd (Qnx N) Qnw (Qd (Qw4 N) Qw3 Qq))) Tryz.func103 rfl (fun x=>by kernel_rfl)
theorem Jh7:Runs Tryz.prog 71:=⟨_,Tryz.func71,by decide,rfl⟩
def Qn0 (N:Nat):Con:=⟨71,Jfk,Q5i,fun (x0,x1,x2,x3)=>Z71 N x0 x1 x2 x3,[]⟩
theorem Jh8 (N:Nat):Qn Tryz.prog tx.gl (Qn0 N):=Qc (Y:=tx) (N:=N) (K:=[Qd9 N,Pz N,Qis N,Qiw N]) (an:=Jfj) Qt Qr (Qd (Qw0 N) Qwz (Qd (Qli N) Qlh (Qd (Q95 N) Q94 (Qd (Jad N) Jac Qq)))) Tryz.func71 rfl (fun x=>by kernel_rfl)
theorem Jh9:Runs Tryz.prog 54:=⟨_,Tryz.func54,by decide,rfl⟩
def Qn1 (N:Nat):Con:=⟨54,Jfm,Q5j,fun (m5000_0,m5000_1,m5000_2,m5000_3,m5000_4,m5000_5,m5000_6,m5000_7_0,m5000_7_1,m5000_7_2,m5000_7_3,m5000_7_4,m5000_7_5,m5000_7_7,m5000_7_8,m5000_7_9,m5000_7_11,m5000_7_12,m5001,m5002)=>Z54 N m5000_0 m5000_1 m5000_2 m5000_3 m5000_4 m5000_5 m5000_6 m5000_7_0 m5000_7_1 m5000_7_2 m5000_7_3 m5000_7_4 m5000_7_5 m5000_7_7 m5000_7_8 m5000_7_9 m5000_7_11 m5000_7_12 m5001 m5002,[5001]⟩
theorem Jia (N:Nat):Qn Tryz.prog tx.gl (Qn1 N):=Qc (Y:=tx) (N:=N) (K:=[Qn0 N]) (an:=Jfl) Qt Qr (Qd (Jh8 N) Jh7 Qq) Tryz.func54 rfl (fun x=>by kernel_rfl)
theorem Jib:Runs Tryz.prog 52:=⟨_,Tryz.func52,by decide,rfl⟩
def Qn2 (N:Nat):Con:=⟨52,Jfo,Q5k,fun (m5001_0,m5001_1,m5001_2,m5001_3,m5001_4,m5001_5,m5001_6,m5001_7_0,m5001_7_1,m5001_7_2,m5001_7_3,m5001_7_4,m5001_7_7,m5001_7_8,m5001_7_9,m5001_7_11,m5001_7_12,m5002,m5003,m5004)=>Z52 N m5001_0 m5001_1 m5001_2 m5001_3 m5001_4 m5001_5 m5001_6 m5001_7_0 m5001_7_1 m5001_7_2 m5001_7_3 m5001_7_4 m5001_7_7 m5001_7_8 m5001_7_9 m5001_7_11 m5001_7_12 m5002 m5003 m5004,[5000,5002]⟩
theorem Jic (N:Nat):Qn Tryz.prog tx.gl (Qn2 N):=Qc (Y:=tx) (N:=N) (K:=[Qnv N,Qn1 N]) (an:=Jfn) Qt Qr (Qd (Jh6 N) Jh5 (Qd (Jia N) Jh9 Qq)) Tryz.func52 rfl (fun x=>by kernel_rfl)
theorem Qra:Runs Tryz.prog 47:=⟨_,Tryz.func47,by decide,rfl⟩
def Qas (N:Nat):Con:=⟨47,Qqv,Qkv,fun (m5001_0,m5001_1,m5001_2,m5001_3,m5001_4,m5001_5,m5001_6,m5001_7_0,m5001_7_1,m5001_7_2,m5001_7_3,m5001_7_4,m5001_7_7,m5001_7_8,m5001_7_9,m5001_7_11,m5001_7_12,m5002,m5003,m5004,m5005)=>Qt5 N m5001_0 m5001_1 m5001_2 m5001_3 m5001_4 m5001_5 m5001_6 m5001_7_0 m5001_7_1 m5001_7_2 m5001_7_3 m5001_7_4 m5001_7_7 m5001_7_8 m5001_7_9 m5001_7_11 m5001_7_12 m5002 m5003 m5004 m5005,[5000]⟩
theorem Qrb (N:Nat):Qn Tryz.prog tx.gl (Qas N):=Qc (Y:=tx) (N:=N) (K:=[Qn2 N]) (an:=Qqu) Qt Qr (Qd (Jic N) Jib Qq) Tryz.func47 rfl (fun x=>by kernel_rfl)
theorem Qn3:Runs Tryz.prog 107:=⟨_,Tryz.func107,by decide,rfl⟩
def Qat (N:Nat):Con:=⟨107,Q5m,Qwf,fun (x0,x1)=>Jda N x0 x1,[]⟩
theorem Qn4 (N:Nat):Qn Tryz.prog tx.gl (Qat N):=Qc (Y:=tx) (N:=N) (K:=[Nk N,Nl N]) (an:=Q5l) Qt Qr (Qd (Qei N) Qeh (Qd (Qek N) Qej Qq)) Tryz.func107 rfl (fun x=>by kernel_rfl)
theorem Jid:Runs Tryz.prog 73:=⟨_,Tryz.func73,by decide,rfl⟩
def Qn5 (N:Nat):Con:=⟨73,Jfq,Q5n,fun (m5000_0,m5000_1,m5000_2,m5000_3,m5000_4,m5000_5,m5000_6,m5000_7_0,m5000_7_1,m5000_7_2,m5000_7_3,m5000_7_4,m5000_7_5,m5000_7_6,m5000_7_7,m5000_7_8,m5000_7_9,m5000_7_11,m5000_7_12,m5001)=>Z73 N m5000_0 m5000_1 m5000_2 m5000_3 m5000_4 m5000_5 m5000_6 m5000_7_0 m5000_7_1 m5000_7_2 m5000_7_3 m5000_7_4 m5000_7_5 m5000_7_6 m5000_7_7 m5000_7_8 m5000_7_9 m5000_7_11 m5000_7_12 m5001,[5000,5001]⟩
theorem Jie (N:Nat):Qn Tryz.prog tx.gl (Qn5 N):=Qc (Y:=tx) (N:=N) (K:=[Qat N]) (an:=Jfp) Qt Qr (Qd (Qn4 N) Qn3 Qq) Tryz.func73 rfl (fun x=>by kernel_rfl)
theorem Qn6:Runs Tryz.prog 106:=⟨_,Tryz.func106,by decide,rfl⟩
def Qau (N:Nat):Con:=⟨106,Q5p,Qwg,fun (x0,x1)=>Jdb N x0 x1,[]⟩
theorem Qn7 (N:Nat):Qn Tryz.prog tx.gl (Qau N):=Qc (Y:=tx) (N:=N) (K:=[]) (an:=Q5o) Qt Qr Qq Tryz.func106 rfl (fun x=>by kernel_rfl)
theorem Jif:Runs Tryz.prog 72:=⟨_,Tryz.func72,by decide,rfl⟩
def Qn8 (N:Nat):Con:=⟨72,Jfs,Q5q,fun (x0,x1,x2,x3)=>Z72 N x0 x1 x2 x3,[]⟩
theorem Jig (N:Nat):Qn Tryz.prog tx.gl (Qn8 N):=Qc (Y:=tx) (N:=N) (K:=[Qau N]) (an:=Jfr) Qt Qr (Qd (Qn7 N) Qn6 Qq) Tryz.func72 rfl (fun x=>by kernel_rfl)
theorem Jih:Runs Tryz.prog 76:=⟨_,Tryz.func76,by decide,rfl⟩
def Qn9 (N:Nat):Con:=⟨76,Jfu,Q5r,fun (x0,x1,x2,x3,x4)=>Z76 N x0 x1 x2 x3 x4,[]⟩
theorem Jii (N:Nat):Qn Tryz.prog tx.gl (Qn9 N):=Qc (Y:=tx) (N:=N) (K:=[Qar N]) (an:=Jft) Qt Qr (Qd (Qnz N) Qny Qq) Tryz.func76 rfl (fun x=>by kernel_rfl)
theorem Jij:Runs Tryz.prog 75:=⟨_,Tryz.func75,by decide,rfl⟩
def Qoa (N:Nat):Con:=⟨75,Jfw,Q5s,fun (x0,x1,x2)=>Z75 N x0 x1 x2,[]⟩
theorem Jik (N:Nat):Qn Tryz.prog tx.gl (Qoa N):=Qc (Y:=tx) (N:=N) (K:=[]) (an:=Jfv) Qt Qr Qq Tryz.func75 rfl (fun x=>by kernel_rfl)
theorem Jil:Runs Tryz.prog 56:=⟨_,Tryz.func56,by decide,rfl⟩
def Qob (N:Nat):Con:=⟨56,Jfy,Q5t,fun (m5000_0,m5000_1,m5000_2,m5000_3,m5000_4,m5000_5,m5000_6,m5000_7_0,m5000_7_1,m5000_7_2,m5000_7_3,m5000_7_4,m5000_7_5,m5000_7_6,m5000_7_7,m5000_7_8,m5000_7_9,m5000_7_11,m5000_7_12,m5001)=>Z56 N m5000_0 m5000_1 m5000_2 m5000_3 m5000_4 m5000_5 m5000_6 m5000_7_0 m5000_7_1 m5000_7_2 m5000_7_3 m5000_7_4 m5000_7_5 m5000_7_6 m5000_7_7 m5000_7_8 m5000_7_9 m5000_7_11 m5000_7_12 m5001,[5001]⟩
theorem Jim (N:Nat):Qn Tryz.prog tx.gl (Qob N):=Qc (Y:=tx) (N:=N) (K:=[Qn5 N,Qn8 N,Qel N,Qn9 N,Qoa N]) (an:=Jfx) Qt Qr (Qd (Jie N) Jid (Qd (Jig N) Jif (Qd (Qw4 N) Qw3 (Qd (Jii N) Jih (Qd (Jik N) Jij Qq))))) Tryz.func56 rfl (fun x=>by kernel_rfl)
theorem Jin:Runs Tryz.prog 55:=⟨_,Tryz.func55,by decide,rfl⟩
def Qoc (N:Nat):Con:=⟨55,Jf0,Q5u,fun (m5001_0,m5001_1,m5001_2,m5001_3,m5001_4,m5001_5,m5001_6,m5001_7_0,m5001_7_1,m5001_7_2,m5001_7_3,m5001_7_4,m5001_7_5,m5001_7_6,m5001_7_7,m5001_7_8,m5001_7_9,m5001_7_11,m5001_7_12,m5002)=>Z55 N m5001_0 m5001_1 m5001_2 m5001_3 m5001_4 m5001_5 m5001_6 m5001_7_0 m5001_7_1 m5001_7_2 m5001_7_3 m5001_7_4 m5001_7_5 m5001_7_6 m5001_7_7 m5001_7_8 m5001_7_9 m5001_7_11 m5001_7_12 m5002,[5000,5002]⟩
theorem Jio (N:Nat):Qn Tryz.prog tx.gl (Qoc N):=Qc (Y:=tx) (N:=N) (K:=[Qob N]) (an:=Jfz) Qt Qr (Qd (Jim N) Jil Qq) Tryz.func55 rfl (fun x=>by kernel_rfl)
theorem Qrc:Runs Tryz.prog 47:=⟨_,Tryz.func47,by decide,rfl⟩
def Qav (N:Nat):Con:=⟨47,Qqx,Qkw,fun (m5001_0,m5001_1,m5001_2,m5001_3,m5001_4,m5001_5,m5001_6,m5001_7_0,m5001_7_1,m5001_7_2,m5001_7_3,m5001_7_4,m5001_7_5,m5001_7_6,m5001_7_7,m5001_7_8,m5001_7_9,m5001_7_11,m5001_7_12,m5002,m5003)=>Qt6 N m5001_0 m5001_1 m5001_2 m5001_3 m5001_4 m5001_5 m5001_6 m5001_7_0 m5001_7_1 m5001_7_2 m5001_7_3 m5001_7_4 m5001_7_5 m5001_7_6 m5001_7_7 m5001_7_8 m5001_7_9 m5001_7_11 m5001_7_12 m5002 m5003,[5000]⟩
theorem Qrd (N:Nat):Qn Tryz.prog tx.gl (Qav N):=Qc (Y:=tx) (N:=N) (K:=[Qoc N]) (an:=Qqw) Qt Qr (Qd (Jio N) Jin Qq) Tryz.func47 rfl (fun x=>by kernel_rfl)
theorem Qod:Runs Tryz.prog 116:=⟨_,Tryz.func116,by decide,rfl⟩
def Qaw (N:Nat):Con:=⟨116,Q5w,Qwh,fun x0=>Jde N x0,[]⟩
theorem Qoe (N:Nat):Qn Tryz.prog tx.gl (Qaw N):=Qc (Y:=tx) (N:=N) (K:=[Ni N]) (an:=Q5v) Qt Qr (Qd (Qed N) Qec Qq) Tryz.func116 rfl (fun x=>by kernel_rfl)
theorem Jae:Runs Tryz.prog 117:=⟨_,Tryz.func117,by decide,rfl⟩
def Qix (N:Nat):Con:=⟨117,Q5y,Qwi,fun (x0,x1)=>Jlx N x0 x1,[]⟩
theorem Jaf (N:Nat):Qn Tryz.prog tx.gl (Qix N):=Qc (Y:=tx) (N:=N) (K:=[Ni N,Nh N,Qaw N]) (an:=Q5x) Qt Qr (Qd (Qed N) Qec (Qd (Qeb N) Qea (Qd (Qoe N) Qod Qq))) Tryz.func117 rfl (fun x=>by kernel_rfl)
theorem Qlj:Runs Tryz.prog 115:=⟨_,Tryz.func115,by decide,rfl⟩
def P0 (N:Nat):Con:=⟨115,Qky,Qg3,fun m5000=>Qmz N m5000,[5000]⟩
theorem Qlk (N:Nat):Qn Tryz.prog tx.gl (P0 N):=Qc (Y:=tx) (N:=N) (K:=[]) (an:=Qkx) Qt Qr Qq Tryz.func115 rfl (fun x=>by kernel_rfl)
theorem Jip:Runs Tryz.prog 77:=⟨_,Tryz.func77,by decide,rfl⟩
def Qof (N:Nat):Con:=⟨77,Jf2,Q5z,fun (x0,x1,x2,x3)=>Z77 N x0 x1 x2 x3,[]⟩
theorem Jiq (N:Nat):Qn Tryz.prog tx.gl (Qof N):=Qc (Y:=tx) (N:=N) (K:=[Rx N,P0 N,Qaw N,Qix N]) (an:=Jf1) Qt Qr (Qd (Qk8 N) Qk7 (Qd (Qlk N) Qlj (Qd (Qoe N) Qod (Qd (Jaf N) Jae Qq)))) Tryz.func77 rfl (fun x=>by kernel_rfl)
theorem Qre:Runs Tryz.prog 73:=⟨_,Tryz.func73,by decide,rfl⟩
def Qax (N:Nat):Con:=⟨73,Qqz,Qkz,fun m5000=>Qt7 N m5000,[5000]⟩
theorem Qrf (N:Nat):Qn Tryz.prog tx.gl (Qax N):=Qc (Y:=tx) (N:=N) (K:=[Qat N]) (an:=Qqy) Qt Qr (Qd (Qn4 N) Qn3 Qq) Tryz.func73 rfl (fun x=>by kernel_rfl)
theorem Jag:Runs Tryz.prog 178:=⟨_,Tryz.func178,by decide,rfl⟩
def Qiy (N:Nat):Con:=⟨178,Q51,Qwj,fun x0=>Jly N x0,[]⟩
theorem Jah (N:Nat):Qn Tryz.prog tx.gl (Qiy N):=Qc (Y:=tx) (N:=N) (K:=[]) (an:=Q50) Qt Qr Qq Tryz.func178 rfl (fun x=>by kernel_rfl)
theorem Qog:Runs Tryz.prog 119:=⟨_,Tryz.func119,by decide,rfl⟩
def Qay (N:Nat):Con:=⟨119,Q53,Qwk,fun x0=>Jdf N x0,[]⟩
theorem Qoh (N:Nat):Qn Tryz.prog tx.gl (Qay N):=Qc (Y:=tx) (N:=N) (K:=[Qiy N]) (an:=Q52) Qt Qr (Qd (Jah N) Jag Qq) Tryz.func119 rfl (fun x=>by kernel_rfl)
theorem Qoi:Runs Tryz.prog 120:=⟨_,Tryz.func120,by decide,rfl⟩
def Qaz (N:Nat):Con:=⟨120,Q55,Qwl,fun x0=>Qz9 N x0,[]⟩
theorem Qoj (N:Nat):Qn Tryz.prog tx.gl (Qaz N):=Qc (Y:=tx) (N:=N) (K:=[]) (an:=Q54) Qt Qr Qq Tryz.func120 rfl (fun x=>by kernel_rfl)
theorem Jai:Runs Tryz.prog 118:=⟨_,Tryz.func118,by decide,rfl⟩
def Qiz (N:Nat):Con:=⟨118,Q57,Qwm,fun x0=>Jlz N x0,[]⟩
theorem Jaj (N:Nat):Qn Tryz.prog tx.gl (Qiz N):=Qc (Y:=tx) (N:=N) (K:=[Qay N,Qaz N]) (an:=Q56) Qt Qr (Qd (Qoh N) Qog (Qd (Qoj N) Qoi Qq)) Tryz.func118 rfl (fun x=>by kernel_rfl)
theorem Jak:Runs Tryz.prog 121:=⟨_,Tryz.func121,by decide,rfl⟩
def Qi0 (N:Nat):Con:=⟨121,Q59,Qwn,fun (m5000,m5001)=>Jl0 N m5000 m5001,[5000,5001]⟩
theorem Jal (N:Nat):Qn Tryz.prog tx.gl (Qi0 N):=Qc (Y:=tx) (N:=N) (K:=[Qau N]) (an:=Q58) Qt Qr (Qd (Qn7 N) Qn6 Qq) Tryz.func121 rfl (fun x=>by kernel_rfl)
theorem Jir:Runs Tryz.prog 78:=⟨_,Tryz.func78,by decide,rfl⟩
def Qok (N:Nat):Con:=⟨78,Jf4,Q6a,fun (x0,x1)=>Z78 N x0 x1,[]⟩
theorem Jis (N:Nat):Qn Tryz.prog tx.gl (Qok N):=Qc (Y:=tx) (N:=N) (K:=[Qiz N,Qay N,Qaz N,Qi0 N]) (an:=Jf3) Qt Qr (Qd (Jaj N) Jai (Qd (Qoh N) Qog (Qd (Qoj N) Qoi (Qd (Jal N) Jak Qq)))) Tryz.func78 rfl (fun x=>by kernel_rfl)
theorem Jit:Runs Tryz.prog 58:=⟨_,Tryz.func58,by decide,rfl⟩
def Qol (N:Nat):Con:=⟨58,Jf6,Q6b,fun m5000=>Z58 N m5000,[]⟩
theorem Jiu (N:Nat):Qn Tryz.prog tx.gl (Qol N):=Qc (Y:=tx) (N:=N) (K:=[Qof N,Qax N,Qok N]) (an:=Jf5) Qt Qr (Qd (Jiq N) Jip (Qd (Qrf N) Qre (Qd (Jis N) Jir Qq))) Tryz.func58 rfl (fun x=>by kernel_rfl)
theorem Jiv:Runs Tryz.prog 57:=⟨_,Tryz.func57,by decide,rfl⟩
def Qom (N:Nat):Con:=⟨57,Jf8,Q6c,fun m5001=>Z57 N m5001,[5000]⟩
theorem Jiw (N:Nat):Qn Tryz.prog tx.gl (Qom N):=Qc (Y:=tx) (N:=N) (K:=[Qol N]) (an:=Jf7) Qt Qr (Qd (Jiu N) Jit Qq) Tryz.func57 rfl (fun x=>by kernel_rfl)
theorem Qrg:Runs Tryz.prog 47:=⟨_,Tryz.func47,by decide,rfl⟩
def Qa0 (N:Nat):Con:=⟨47,Qq1,Qk0,fun (m5001,m5002)=>Qt8 N m5001 m5002,[5000]⟩
theorem Qrh (N:Nat):Qn Tryz.prog tx.gl (Qa0 N):=Qc (Y:=tx) (N:=N) (K:=[Qom N]) (an:=Qq0) Qt Qr (Qd (Jiw N) Jiv Qq) Tryz.func47 rfl (fun x=>by kernel_rfl)
theorem Jix:Runs Tryz.prog 46:=⟨_,Tryz.func46,by decide,rfl⟩
def Qon (N:Nat):Con:=⟨46,Jga,Q6d,fun x0=>Z46 N x0,[]⟩
theorem Jiy (N:Nat):Qn Tryz.prog tx.gl (Qon N):=Qc (Y:=tx) (N:=N) (K:=[]) (an:=Jf9) Qt Qr Qq Tryz.func46 rfl (fun x=>by kernel_rfl)
theorem Qri:Runs Tryz.prog 26:=⟨_,Tryz.func26,by decide,rfl⟩
def Qa1 (N:Nat):Con:=⟨26,Qq3,Qk1,fun (x0,x1,x2)=>Qt9 N x0 x1 x2,[]⟩
theorem Qrj (N:Nat):Qn Tryz.prog tx.gl (Qa1 N):=Qc (Y:=tx) (N:=N) (K:=[Qm7 N,Qal N,Qas N,Qav N,Qa0 N,Qon N]) (an:=Qq2) Qt Qr (Qd (Jg6 N) Jg5 (Qd (Qq7 N) Qq6 (Qd (Qrb N) Qra (Qd (Qrd N) Qrc (Qd (Qrh N) Qrg (Qd (Jiy N) Jix Qq)))))) Tryz.func26 rfl (fun x=>by kernel_rfl)
theorem Jiz:Runs Tryz.prog 79:=⟨_,Tryz.func79,by decide,rfl⟩
def Qoo (N:Nat):Con:=⟨79,Jgc,Q6e,fun x0=>Z79 N x0,[]⟩
theorem Ji0 (N:Nat):Qn Tryz.prog tx.gl (Qoo N):=Qc (Y:=tx) (N:=N) (K:=[]) (an:=Jgb) Qt Qr Qq Tryz.func79 rfl (fun x=>by kernel_rfl)
theorem Jam:Runs Tryz.prog 123:=⟨_,Tryz.func123,by decide,rfl⟩
def Qi1 (N:Nat):Con:=⟨123,Q6g,Qwo,fun x0=>Jdi N x0,[]⟩
theorem Jan (N:Nat):Qn Tryz.prog tx.gl (Qi1 N):=Qc (Y:=tx) (N:=N) (K:=[]) (an:=Q6f) Qt Qr Qq Tryz.func123 rfl (fun x=>by kernel_rfl)
theorem Jao:Runs Tryz.prog 122:=⟨_,Tryz.func122,by decide,rfl⟩
def Qi2 (N:Nat):Con:=⟨122,Q6i,Qwp,fun (x0,x1)=>Jl1 N x0 x1,[]⟩
theorem Jap (N:Nat):Qn Tryz.prog tx.gl (Qi2 N):=Qc (Y:=tx) (N:=N) (K:=[]) (an:=Q6h) Qt Qr Qq Tryz.func122 rfl (fun x=>by kernel_rfl)
theorem Qll:Runs Tryz.prog 80:=⟨_,Tryz.func80,by decide,rfl⟩
def Ou (N n:Nat):Con:=⟨80,Jge,Q6j,fun x0=>Qm0 N n x0,[]⟩
theorem Qi3 (N:Nat):∀n,Qn Tryz.prog tx.gl (Ou N n)
 | 0=>Qdv fun _=>rfl
 | n+1=>have ih:=Qi3 N n; Qc (Y:=tx) (N:=N) (K:=[Ou N n,Qi1 N,Qi2 N]) (an:=Jgd) Qt Qr (Qd (ih) Qll (Qd (Jan N) Jam (Qd (Jap N) Jao Qq))) Tryz.func80 rfl (fun x=>by kernel_rfl)
def Qem (N:Nat):Con:=Ou N N
theorem Qw5 (N:Nat):Qn Tryz.prog tx.gl (Qem N):=Qi3 N N
theorem Qw6:Runs Tryz.prog 59:=⟨_,Tryz.func59,by decide,rfl⟩
def Qen (N:Nat):Con:=⟨59,Jgg,Q6k,fun (x0,x1,x2)=>Z59 N x0 x1 x2,[]⟩
theorem Qw7 (N:Nat):Qn Tryz.prog tx.gl (Qen N):=Qc (Y:=tx) (N:=N) (K:=[Qoo N,Qem N,Qa1 N]) (an:=Jgf) Qt Qr (Qd (Ji0 N) Jiz (Qd (Qw5 N) Qll (Qd (Qrj N) Qri Qq))) Tryz.func59 rfl (fun x=>by kernel_rfl)
theorem Ji1:Runs Tryz.prog 32:=⟨_,Tryz.func32,by decide,rfl⟩
def Qop (N:Nat):Con:=⟨32,Jgi,Q6l,fun (x0,x1)=>Z32 N x0 x1,[]⟩
theorem Ji2 (N:Nat):Qn Tryz.prog tx.gl (Qop N):=Qc (Y:=tx) (N:=N) (K:=[Qen N]) (an:=Jgh) Qt Qr (Qd (Qw7 N) Qw6 Qq) Tryz.func32 rfl (fun x=>by kernel_rfl)
theorem Qrk:Runs Tryz.prog 32:=⟨_,Tryz.func32,by decide,rfl⟩
def Qa2 (N:Nat):Con:=⟨32,Qq5,Qk2,fun (x0,x1)=>Qua N x0 x1,[]⟩
theorem Qrl (N:Nat):Qn Tryz.prog tx.gl (Qa2 N):=Qc (Y:=tx) (N:=N) (K:=[Qen N]) (an:=Qq4) Qt Qr (Qd (Qw7 N) Qw6 Qq) Tryz.func32 rfl (fun x=>by kernel_rfl)
theorem Ji3:Runs Tryz.prog 60:=⟨_,Tryz.func60,by decide,rfl⟩
def Qoq (N:Nat):Con:=⟨60,Jgk,Q6m,fun (x0,x1)=>Z60 N x0 x1,[]⟩
theorem Ji4 (N:Nat):Qn Tryz.prog tx.gl (Qoq N):=Qc (Y:=tx) (N:=N) (K:=[Qem N]) (an:=Jgj) Qt Qr (Qd (Qw5 N) Qll Qq) Tryz.func60 rfl (fun x=>by kernel_rfl)
theorem L0:Runs Tryz.prog 38:=⟨_,Tryz.func38,by decide,rfl⟩
def Hg (N:Nat):Con:=⟨38,Lu,Im,fun x0=>Xq N x0,[]⟩
theorem L1 (N:Nat):Qn Tryz.prog tx.gl (Hg N):=Qc (Y:=tx) (N:=N) (K:=[]) (an:=Lt) Qt Qr Qq Tryz.func38 rfl (fun x=>by kernel_rfl)
theorem Bs:Runs Tryz.prog 40:=⟨_,Tryz.func40,by decide,rfl⟩
def Gn (N:Nat):Con:=⟨40,Qd3,Qbd,fun x0=>Ik N x0,[]⟩
theorem Bt (N:Nat):Qn Tryz.prog tx.gl (Gn N):=Qc (Y:=tx) (N:=N) (K:=[]) (an:=Qd2) Qt Qr Qq Tryz.func40 rfl (fun x=>by kernel_rfl)
theorem L2:Runs Tryz.prog 39:=⟨_,Tryz.func39,by decide,rfl⟩
def Hh (N:Nat):Con:=⟨39,Lw,In,fun (m5000,m5001)=>B6 N m5000 m5001,[5000,5001]⟩
theorem L3 (N:Nat):Qn Tryz.prog tx.gl (Hh N):=Qc (Y:=tx) (N:=N) (K:=[Gn N]) (an:=Lv) Qt Qr (Qd (Bt N) Bs Qq) Tryz.func39 rfl (fun x=>by kernel_rfl)
theorem Cn:Runs Tryz.prog 39:=⟨_,Tryz.func39,by decide,rfl⟩
def Wo (N:Nat):Con:=⟨39,Cd,Bo,fun m5000=>Et N m5000,[5000]⟩
theorem Co (N:Nat):Qn Tryz.prog tx.gl (Wo N):=Qc (Y:=tx) (N:=N) (K:=[Gn N]) (an:=Cc) Qt Qr (Qd (Bt N) Bs Qq) Tryz.func39 rfl (fun x=>by kernel_rfl)
theorem Cp:Runs Tryz.prog 39:=⟨_,Tryz.func39,by decide,rfl⟩
def Wp (N:Nat):Con:=⟨39,Cf,Bp,fun m5000=>Eu N m5000,[5000]⟩
theorem Cq (N:Nat):Qn Tryz.prog tx.gl (Wp N):=Qc (Y:=tx) (N:=N) (K:=[Gn N]) (an:=Ce) Qt Qr (Qd (Bt N) Bs Qq) Tryz.func39 rfl (fun x=>by kernel_rfl)
theorem Ov:Runs Tryz.prog 81:=⟨_,Tryz.func81,by decide,rfl⟩
def Fp (N:Nat):Con:=⟨81,Oo,M8,fun (x0,x1)=>Gm N x0 x1,[]⟩
theorem Ow (N:Nat):Qn Tryz.prog tx.gl (Fp N):=Qc (Y:=tx) (N:=N) (K:=[]) (an:=On) Qt Qr Qq Tryz.func81 rfl (fun x=>by kernel_rfl)
theorem Fq:Runs Tryz.prog 62:=⟨_,Tryz.func62,by decide,rfl⟩
def Xw (N:Nat):Con:=⟨62,Na,Lx,fun x0=>Z5 N x0,[]⟩
theorem Fr (N:Nat):Qn Tryz.prog tx.gl (Xw N):=Qc (Y:=tx) (N:=N) (K:=[Fp N]) (an:=M9) Qt Qr (Qd (Ow N) Ov Qq) Tryz.func62 rfl (fun x=>by kernel_rfl)
theorem E2:Runs Tryz.prog 37:=⟨_,Tryz.func37,by decide,rfl⟩
def K3 (N:Nat):Con:=⟨37,E1,Hv,fun (x0,x1)=>X7 N x0 x1,[]⟩
theorem E3 (N:Nat):Qn Tryz.prog tx.gl (K3 N):=Qc (Y:=tx) (N:=N) (K:=[Hg N,Hh N,Wo N,Wp N,Xw N]) (an:=E0) Qt Qr (Qd (L1 N) L0 (Qd (L3 N) L2 (Qd (Co N) Cn (Qd (Cq N) Cp (Qd (Fr N) Fq Qq))))) Tryz.func37 rfl (fun x=>by kernel_rfl)
theorem Oy:Runs Tryz.prog 20:=⟨_,Tryz.func20,by decide,rfl⟩
def Fs (N:Nat):Con:=⟨20,Or,Nb,fun (x0,x1)=>I5 N x0 x1,[]⟩
theorem O4 (N:Nat):Qn Tryz.prog tx.gl (Fs N):=Qc (Y:=tx) (N:=N) (K:=[K3 N]) (an:=Oq) Qt Qr (Qd (E3 N) E2 Qq) Tryz.func20 rfl (fun x=>by kernel_rfl)
theorem Ji5:Runs Tryz.prog 34:=⟨_,Tryz.func34,by decide,rfl⟩
def Qor (N:Nat):Con:=⟨34,Jgm,Q6n,fun (x0,x1,x2)=>Z34 N x0 x1 x2,[]⟩
theorem Ji6 (N:Nat):Qn Tryz.prog tx.gl (Qor N):=Qc (Y:=tx) (N:=N) (K:=[Qa2 N,Qoq N,Qop N,Fs N]) (an:=Jgl) Qt Qr (Qd (Qrl N) Qrk (Qd (Ji4 N) Ji3 (Qd (Ji2 N) Ji1 (Qd (O4 N) Oy Qq)))) Tryz.func34 rfl (fun x=>by kernel_rfl)
theorem Ji7:Runs Tryz.prog 61:=⟨_,Tryz.func61,by decide,rfl⟩
def Qos (N:Nat):Con:=⟨61,Jgo,Q6o,fun x0=>Z61 N x0,[]⟩
theorem Ji8 (N:Nat):Qn Tryz.prog tx.gl (Qos N):=Qc (Y:=tx) (N:=N) (K:=[]) (an:=Jgn) Qt Qr Qq Tryz.func61 rfl (fun x=>by kernel_rfl)
theorem Ji9:Runs Tryz.prog 35:=⟨_,Tryz.func35,by decide,rfl⟩
def Qot (N:Nat):Con:=⟨35,Jgq,Q6p,fun (x0,x1)=>Z35 N x0 x1,[]⟩
theorem Jja (N:Nat):Qn Tryz.prog tx.gl (Qot N):=Qc (Y:=tx) (N:=N) (K:=[Qos N]) (an:=Jgp) Qt Qr (Qd (Ji8 N) Ji7 Qq) Tryz.func35 rfl (fun x=>by kernel_rfl)
theorem Gz:Runs Tryz.prog 19:=⟨_,Tryz.func19,by decide,rfl⟩
def K0 (N:Nat):Con:=⟨19,Do,Cg,fun (x0,x1)=>Zn N x0 x1,[]⟩
theorem G0 (N:Nat):Qn Tryz.prog tx.gl (K0 N):=Qc (Y:=tx) (N:=N) (K:=[]) (an:=Dn) Qt Qr Qq Tryz.func19 rfl (fun x=>by kernel_rfl)
theorem Jjb:Runs Tryz.prog 36:=⟨_,Tryz.func36,by decide,rfl⟩
def Qou (N:Nat):Con:=⟨36,Jgs,Q6q,fun (x0,x1)=>Z36 N x0 x1,[]⟩
theorem Jjc (N:Nat):Qn Tryz.prog tx.gl (Qou N):=Qc (Y:=tx) (N:=N) (K:=[]) (an:=Jgr) Qt Qr Qq Tryz.func36 rfl (fun x=>by kernel_rfl)
theorem Cr:Runs Tryz.prog 18:=⟨_,Tryz.func18,by decide,rfl⟩
def Wq (N:Nat):Con:=⟨18,Ci,Bq,fun _=>Km N,[]⟩
theorem Cs (N:Nat):Qn Tryz.prog tx.gl (Wq N):=Qc (Y:=tx) (N:=N) (K:=[Qm1 N,Qor N,Qot N,K0 N,Qou N]) (an:=Ch) Qt Qr (Qd (Jgu N) Jgt (Qd (Ji6 N) Ji5 (Qd (Jja N) Ji9 (Qd (G0 N) Gz (Qd (Jjc N) Jjb Qq))))) Tryz.func18 rfl (fun x=>by kernel_rfl)
theorem Iq:Runs Tryz.prog 41:=⟨_,Tryz.func41,by decide,rfl⟩
def G1 (N:Nat):Con:=⟨41,Ip,Dp,fun (x0,x1)=>Z6 N x0 x1,[]⟩
theorem Ir (N:Nat):Qn Tryz.prog tx.gl (G1 N):=Qc (Y:=tx) (N:=N) (K:=[]) (an:=Io) Qt Qr Qq Tryz.func41 rfl (fun x=>by kernel_rfl)
theorem Ar:Runs Tryz.prog 22:=⟨_,Tryz.func22,by decide,rfl⟩
def Xp (N:Nat):Con:=⟨22,Aq,F4,fun (x0,x1)=>Uf N x0 x1,[]⟩
theorem As (N:Nat):Qn Tryz.prog tx.gl (Xp N):=Qc (Y:=tx) (N:=N) (K:=[]) (an:=Ap) Qt Qr Qq Tryz.func22 rfl (fun x=>by kernel_rfl)
theorem Nm:Runs Tryz.prog 44:=⟨_,Tryz.func44,by decide,rfl⟩
def E4 (N:Nat):Con:=⟨44,Nd,Ly,fun x0=>Z8 N x0,[]⟩
theorem Nn (N:Nat):Qn Tryz.prog tx.gl (E4 N):=Qc (Y:=tx) (N:=N) (K:=[]) (an:=Nc) Qt Qr Qq Tryz.func44 rfl (fun x=>by kernel_rfl)
theorem No:Runs Tryz.prog 45:=⟨_,Tryz.func45,by decide,rfl⟩
def E5 (N:Nat):Con:=⟨45,Ng,Lz,fun (m5000,m5001)=>Ez N m5000 m5001,[5000,5001]⟩
theorem Np (N:Nat):Qn Tryz.prog tx.gl (E5 N):=Qc (Y:=tx) (N:=N) (K:=[]) (an:=Nf) Qt Qr Qq Tryz.func45 rfl (fun x=>by kernel_rfl)
theorem Dv:Runs Tryz.prog 45:=⟨_,Tryz.func45,by decide,rfl⟩
def Wu (N:Nat):Con:=⟨45,Dr,Cj,fun m5000=>Wm N m5000,[5000]⟩
theorem Dw (N:Nat):Qn Tryz.prog tx.gl (Wu N):=Qc (Y:=tx) (N:=N) (K:=[]) (an:=Dq) Qt Qr Qq Tryz.func45 rfl (fun x=>by kernel_rfl)
theorem Dy:Runs Tryz.prog 45:=⟨_,Tryz.func45,by decide,rfl⟩
def Wv (N:Nat):Con:=⟨45,Dt,Ck,fun m5000=>Wn N m5000,[5000]⟩
theorem Dz (N:Nat):Qn Tryz.prog tx.gl (Wv N):=Qc (Y:=tx) (N:=N) (K:=[]) (an:=Ds) Qt Qr Qq Tryz.func45 rfl (fun x=>by kernel_rfl)
theorem Hy:Runs Tryz.prog 43:=⟨_,Tryz.func43,by decide,rfl⟩
def Kt (N:Nat):Con:=⟨43,Hx,G9,fun (x0,x1)=>Zp N x0 x1,[]⟩
theorem Hz (N:Nat):Qn Tryz.prog tx.gl (Kt N):=Qc (Y:=tx) (N:=N) (K:=[E4 N,E5 N,Wu N,Wv N,Xw N]) (an:=Hw) Qt Qr (Qd (Nn N) Nm (Qd (Np N) No (Qd (Dw N) Dv (Qd (Dz N) Dy (Qd (Fr N) Fq Qq))))) Tryz.func43 rfl (fun x=>by kernel_rfl)
theorem Rb:Runs Tryz.prog 23:=⟨_,Tryz.func23,by decide,rfl⟩
def Au (N:Nat):Con:=⟨23,Ra,Ot,fun (x0,x1)=>Hu N x0 x1,[]⟩
theorem Rc (N:Nat):Qn Tryz.prog tx.gl (Au N):=Qc (Y:=tx) (N:=N) (K:=[Kt N]) (an:=P9) Qt Qr (Qd (Hz N) Hy Qq) Tryz.func23 rfl (fun x=>by kernel_rfl)
theorem Ct:Runs Tryz.prog 24:=⟨_,Tryz.func24,by decide,rfl⟩
def Wr (N:Nat):Con:=⟨24,Cm,Br,fun (x0,x1)=>Kn N x0 x1,[]⟩
theorem Cu (N:Nat):Qn Tryz.prog tx.gl (Wr N):=Qc (Y:=tx) (N:=N) (K:=[G1 N]) (an:=Cl) Qt Qr (Qd (Ir N) Iq Qq) Tryz.func24 rfl (fun x=>by kernel_rfl)
def Kf (N:Nat):Con:=⟨7,Hb,Gy,fun (x0,x1)=>U9 N x0 x1,[]⟩
theorem Hc (N:Nat):Qn Tryz.prog tx.gl (Kf N):=Qc (Y:=tx) (N:=N) (K:=[Xp N,Wq N,Au N,Wr N,K0 N]) (an:=Ha) Qt Qr (Qd (As N) Ar (Qd (Cs N) Cr (Qd (Rc N) Rb (Qd (Cu N) Ct (Qd (G0 N) Gz Qq))))) Tryz.func7 rfl (fun x=>by kernel_rfl)
end Gx
