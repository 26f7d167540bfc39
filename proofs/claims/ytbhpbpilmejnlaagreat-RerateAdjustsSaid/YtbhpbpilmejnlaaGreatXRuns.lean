/- The interpreter gives these functions. -/
import Derived.Test.YtbhpbpilmejnlaaGreatXFns
import Derived.Test.YtbhpbpilmejnlaaGreatProg
namespace Gx
open Go Gd Go.Proofs
set_option linter.unusedVariables false
def tab:Tab:=[
 ⟨1,.func ⟨[]⟩ ⟨[]⟩ false,.nilFunc,1,8⟩,
 ⟨2,.int .i64,.int .i64 0,1,8⟩,
 ⟨3,.int .i64,.int .i64 0,1,8⟩,
 ⟨4,.bool,.bool false,1,1⟩,
 ⟨5,.int .u8,.int .u8 0,1,1⟩,
 ⟨9,.string,Y5 [],1,16⟩,
 ⟨23,.struct ⟨[⟨"Id",3,0,false, "", "",0⟩,⟨"Kind",3,1,false, "", "",8⟩,⟨"Account",3,2,false, "", "",16⟩,⟨"Sub",3,3,false, "", "",24⟩,⟨"A",9,4,false, "", "",32⟩,⟨"B",9,5,false, "", "",48⟩,⟨"Start",3,6,false, "", "",64⟩,⟨"Units",3,7,false, "", "",72⟩,⟨"Trunk",3,8,false, "", "",80⟩,⟨"Inbound",4,9,false, "", "",88⟩,⟨"Source",3,10,false, "", "",96⟩,⟨"Serial",3,11,false, "", "",104⟩]⟩,.agg ⟨[.int .i64 0,.int .i64 0,.int .i64 0,.int .i64 0,Y5 [],Y5 [],.int .i64 0,.int .i64 0,.int .i64 0,.bool false,.int .i64 0,.int .i64 0]⟩,12,112⟩,
 ⟨24,.int .i64,.int .i64 0,1,8⟩,
 ⟨25,.slice 33,.slice none 0 0,1,24⟩,
 ⟨26,.slice 35,.slice none 0 0,1,24⟩,
 ⟨27,.slice 76,.slice none 0 0,1,24⟩,
 ⟨29,.struct ⟨[⟨"Usage",23,0,false, "", "",0⟩,⟨"Err",24,12,false, "", "",112⟩,⟨"Plan",9,13,false, "", "",120⟩,⟨"Version",3,14,false, "", "",136⟩,⟨"Zone",9,15,false, "", "",144⟩,⟨"Takes",25,16,false, "", "",160⟩,⟨"Segments",26,17,false, "", "",184⟩,⟨"Setup",3,18,false, "", "",208⟩,⟨"Gross",3,19,false, "", "",216⟩,⟨"Net",3,20,false, "", "",224⟩,⟨"Given",27,21,false, "", "",232⟩,⟨"Paid",3,22,false, "", "",256⟩,⟨"Owed",3,23,false, "", "",264⟩]⟩,.agg ⟨[.int .i64 0,.int .i64 0,.int .i64 0,.int .i64 0,Y5 [],Y5 [],.int .i64 0,.int .i64 0,.int .i64 0,.bool false,.int .i64 0,.int .i64 0,.int .i64 0,Y5 [],.int .i64 0,Y5 [],.slice none 0 0,.slice none 0 0,.int .i64 0,.int .i64 0,.int .i64 0,.slice none 0 0,.int .i64 0,.int .i64 0]⟩,24,272⟩,
 ⟨33,.struct ⟨[⟨"Sub",3,0,false, "", "",0⟩,⟨"Product",9,1,false, "", "",8⟩,⟨"Index",3,2,false, "", "",24⟩,⟨"From",3,3,false, "", "",32⟩,⟨"Units",3,4,false, "", "",40⟩]⟩,.agg ⟨[.int .i64 0,Y5 [],.int .i64 0,.int .i64 0,.int .i64 0]⟩,5,48⟩,
 ⟨35,.struct ⟨[⟨"Band",9,0,false, "", "",0⟩,⟨"Start",3,1,false, "", "",16⟩,⟨"Units",3,2,false, "", "",24⟩,⟨"Amount",3,3,false, "", "",32⟩]⟩,.agg ⟨[Y5 [],.int .i64 0,.int .i64 0,.int .i64 0]⟩,4,40⟩,
 ⟨38,.slice 29,.slice none 0 0,1,24⟩,
 ⟨44,.slice 51,.slice none 0 0,1,24⟩,
 ⟨51,.struct ⟨[⟨"Usage",3,0,false, "", "",0⟩,⟨"Account",3,1,false, "", "",8⟩,⟨"Sub",3,2,false, "", "",16⟩,⟨"Kind",3,3,false, "", "",24⟩,⟨"Start",3,4,false, "", "",32⟩,⟨"Paid",3,5,false, "", "",40⟩,⟨"Owed",3,6,false, "", "",48⟩]⟩,.agg ⟨[.int .i64 0,.int .i64 0,.int .i64 0,.int .i64 0,.int .i64 0,.int .i64 0,.int .i64 0]⟩,7,56⟩,
 ⟨53,.slice 142,.slice none 0 0,1,24⟩,
 ⟨54,.slice 71,.slice none 0 0,1,24⟩,
 ⟨55,.slice 73,.slice none 0 0,1,24⟩,
 ⟨57,.struct ⟨[⟨"Buckets",53,0,false, "", "",0⟩,⟨"Wallets",54,1,false, "", "",24⟩,⟨"Counters",55,2,false, "", "",48⟩]⟩,.agg ⟨[.slice none 0 0,.slice none 0 0,.slice none 0 0]⟩,3,72⟩,
 ⟨60,.slice 133,.slice none 0 0,1,24⟩,
 ⟨61,.slice 112,.slice none 0 0,1,24⟩,
 ⟨62,.slice 131,.slice none 0 0,1,24⟩,
 ⟨63,.slice 407,.slice none 0 0,1,24⟩,
 ⟨64,.slice 3,.slice none 0 0,1,24⟩,
 ⟨65,.slice 409,.slice none 0 0,1,24⟩,
 ⟨67,.struct ⟨[⟨"Events",60,0,false, "", "",0⟩,⟨"Tariffs",61,1,false, "", "",24⟩,⟨"Products",62,2,false, "", "",48⟩,⟨"Taxes",63,3,false, "", "",72⟩,⟨"Holidays",64,4,false, "", "",96⟩,⟨"Agreements",65,5,false, "", "",120⟩]⟩,.agg ⟨[.slice none 0 0,.slice none 0 0,.slice none 0 0,.slice none 0 0,.slice none 0 0,.slice none 0 0]⟩,6,144⟩,
 ⟨71,.struct ⟨[⟨"Account",3,0,false, "", "",0⟩,⟨"Balance",3,1,false, "", "",8⟩,⟨"Floor",3,2,false, "", "",16⟩,⟨"Held",3,3,false, "", "",24⟩,⟨"Until",3,4,false, "", "",32⟩]⟩,.agg ⟨[.int .i64 0,.int .i64 0,.int .i64 0,.int .i64 0,.int .i64 0]⟩,5,40⟩,
 ⟨73,.struct ⟨[⟨"Sub",3,0,false, "", "",0⟩,⟨"Kind",3,1,false, "", "",8⟩,⟨"From",3,2,false, "", "",16⟩,⟨"Units",3,3,false, "", "",24⟩,⟨"Spent",3,4,false, "", "",32⟩]⟩,.agg ⟨[.int .i64 0,.int .i64 0,.int .i64 0,.int .i64 0,.int .i64 0]⟩,5,40⟩,
 ⟨76,.struct ⟨[⟨"Name",9,0,false, "", "",0⟩,⟨"Amount",3,1,false, "", "",16⟩]⟩,.agg ⟨[Y5 [],.int .i64 0]⟩,2,24⟩,
 ⟨79,.slice 23,.slice none 0 0,1,24⟩,
 ⟨82,.slice 86,.slice none 0 0,1,24⟩,
 ⟨86,.struct ⟨[⟨"Kind",3,0,false, "", "",0⟩,⟨"Sub",3,1,false, "", "",8⟩,⟨"Name",9,2,false, "", "",16⟩,⟨"Category",9,3,false, "", "",32⟩,⟨"Count",3,4,false, "", "",48⟩,⟨"Units",3,5,false, "", "",56⟩,⟨"Amount",3,6,false, "", "",64⟩,⟨"Rounded",3,7,false, "", "",72⟩]⟩,.agg ⟨[.int .i64 0,.int .i64 0,Y5 [],Y5 [],.int .i64 0,.int .i64 0,.int .i64 0,.int .i64 0]⟩,8,80⟩,
 ⟨88,.func ⟨[29]⟩ ⟨[3]⟩ false,.nilFunc,1,8⟩,
 ⟨89,.pointer 29,.pointer none,1,8⟩,
 ⟨91,.func ⟨[89,89]⟩ ⟨[51]⟩ false,.nilFunc,1,8⟩,
 ⟨95,.func ⟨[51]⟩ ⟨[3]⟩ false,.nilFunc,1,8⟩,
 ⟨96,.pointer 51,.pointer none,1,8⟩,
 ⟨97,.func ⟨[96,96]⟩ ⟨[51]⟩ false,.nilFunc,1,8⟩,
 ⟨99,.pointer 114,.pointer none,1,8⟩,
 ⟨101,.struct ⟨[⟨"From",3,0,false, "", "",0⟩,⟨"To",3,1,false, "", "",8⟩]⟩,.agg ⟨[.int .i64 0,.int .i64 0]⟩,2,16⟩,
 ⟨102,.slice 9,.slice none 0 0,1,24⟩,
 ⟨104,.struct ⟨[⟨"Period",101,0,false, "", "",0⟩,⟨"Plan",9,2,false, "", "",16⟩,⟨"Products",102,3,false, "", "",32⟩,⟨"Suspended",4,4,false, "", "",56⟩,⟨"Family",4,5,false, "", "",57⟩]⟩,.agg ⟨[.int .i64 0,.int .i64 0,Y5 [],.slice none 0 0,.bool false,.bool false]⟩,6,64⟩,
 ⟨106,.struct ⟨[⟨"Id",3,0,false, "", "",0⟩,⟨"Since",3,1,false, "", "",8⟩,⟨"Anchor",3,2,false, "", "",16⟩,⟨"Prepaid",4,3,false, "", "",24⟩,⟨"Closed",4,4,false, "", "",25⟩,⟨"Subs",64,5,false, "", "",32⟩]⟩,.agg ⟨[.int .i64 0,.int .i64 0,.int .i64 0,.bool false,.bool false,.slice none 0 0]⟩,6,56⟩,
 ⟨107,.slice 118,.slice none 0 0,1,24⟩,
 ⟨108,.slice 121,.slice none 0 0,1,24⟩,
 ⟨109,.slice 126,.slice none 0 0,1,24⟩,
 ⟨110,.slice 231,.slice none 0 0,1,24⟩,
 ⟨112,.struct ⟨[⟨"Name",9,0,false, "", "",0⟩,⟨"From",3,1,false, "", "",16⟩,⟨"Split",4,2,false, "", "",24⟩,⟨"Zones",107,3,false, "", "",32⟩,⟨"Bands",108,4,false, "", "",56⟩,⟨"Rates",109,5,false, "", "",80⟩,⟨"Discounts",110,6,false, "", "",104⟩]⟩,.agg ⟨[Y5 [],.int .i64 0,.bool false,.slice none 0 0,.slice none 0 0,.slice none 0 0,.slice none 0 0]⟩,7,128⟩,
 ⟨114,.struct ⟨[⟨"book",67,0,false, "", "billing/rate",0⟩,⟨"state",57,6,false, "", "billing/rate",144⟩,⟨"u",23,9,false, "", "billing/rate",216⟩,⟨"spell",104,21,false, "", "billing/rate",328⟩,⟨"account",106,27,false, "", "billing/rate",392⟩,⟨"tariff",112,33,false, "", "billing/rate",448⟩,⟨"free",3,40,false, "", "billing/rate",576⟩,⟨"r",29,41,false, "", "billing/rate",584⟩]⟩,.agg ⟨[.slice none 0 0,.slice none 0 0,.slice none 0 0,.slice none 0 0,.slice none 0 0,.slice none 0 0,.slice none 0 0,.slice none 0 0,.slice none 0 0,.int .i64 0,.int .i64 0,.int .i64 0,.int .i64 0,Y5 [],Y5 [],.int .i64 0,.int .i64 0,.int .i64 0,.bool false,.int .i64 0,.int .i64 0,.int .i64 0,.int .i64 0,Y5 [],.slice none 0 0,.bool false,.bool false,.int .i64 0,.int .i64 0,.int .i64 0,.bool false,.bool false,.slice none 0 0,Y5 [],.int .i64 0,.bool false,.slice none 0 0,.slice none 0 0,.slice none 0 0,.slice none 0 0,.int .i64 0,.int .i64 0,.int .i64 0,.int .i64 0,.int .i64 0,Y5 [],Y5 [],.int .i64 0,.int .i64 0,.int .i64 0,.bool false,.int .i64 0,.int .i64 0,.int .i64 0,Y5 [],.int .i64 0,Y5 [],.slice none 0 0,.slice none 0 0,.int .i64 0,.int .i64 0,.int .i64 0,.slice none 0 0,.int .i64 0,.int .i64 0]⟩,65,856⟩,
 ⟨115,.func ⟨[]⟩ ⟨[24]⟩ false,.nilFunc,1,8⟩,
 ⟨118,.struct ⟨[⟨"Name",9,0,false, "", "",0⟩,⟨"Prefixes",102,1,false, "", "",16⟩]⟩,.agg ⟨[Y5 [],.slice none 0 0]⟩,2,40⟩,
 ⟨119,.slice 264,.slice none 0 0,1,24⟩,
 ⟨121,.struct ⟨[⟨"Name",9,0,false, "", "",0⟩,⟨"Slots",119,1,false, "", "",16⟩]⟩,.agg ⟨[Y5 [],.slice none 0 0]⟩,2,40⟩,
 ⟨123,.struct ⟨[⟨"Upto",3,0,false, "", "",0⟩,⟨"Quantum",3,1,false, "", "",8⟩,⟨"Price",3,2,false, "", "",16⟩]⟩,.agg ⟨[.int .i64 0,.int .i64 0,.int .i64 0]⟩,3,24⟩,
 ⟨124,.slice 123,.slice none 0 0,1,24⟩,
 ⟨126,.struct ⟨[⟨"Kind",3,0,false, "", "",0⟩,⟨"Zone",9,1,false, "", "",8⟩,⟨"Band",9,2,false, "", "",24⟩,⟨"Setup",3,3,false, "", "",40⟩,⟨"Steps",124,4,false, "", "",48⟩]⟩,.agg ⟨[.int .i64 0,Y5 [],Y5 [],.int .i64 0,.slice none 0 0]⟩,5,72⟩,
 ⟨128,.struct ⟨[⟨"Kind",3,0,false, "", "",0⟩,⟨"Zones",102,1,false, "", "",8⟩,⟨"Units",3,2,false, "", "",32⟩,⟨"Rollover",3,3,false, "", "",40⟩,⟨"Priority",3,4,false, "", "",48⟩,⟨"Shared",4,5,false, "", "",56⟩]⟩,.agg ⟨[.int .i64 0,.slice none 0 0,.int .i64 0,.int .i64 0,.int .i64 0,.bool false]⟩,6,64⟩,
 ⟨129,.slice 128,.slice none 0 0,1,24⟩,
 ⟨131,.struct ⟨[⟨"Name",9,0,false, "", "",0⟩,⟨"From",3,1,false, "", "",16⟩,⟨"Fee",3,2,false, "", "",24⟩,⟨"Category",9,3,false, "", "",32⟩,⟨"Prorate",4,4,false, "", "",48⟩,⟨"Bundles",129,5,false, "", "",56⟩]⟩,.agg ⟨[Y5 [],.int .i64 0,.int .i64 0,Y5 [],.bool false,.slice none 0 0]⟩,6,80⟩,
 ⟨133,.struct ⟨[⟨"At",3,0,false, "", "",0⟩,⟨"Kind",3,1,false, "", "",8⟩,⟨"Account",3,2,false, "", "",16⟩,⟨"Sub",3,3,false, "", "",24⟩,⟨"Number",9,4,false, "", "",32⟩,⟨"Name",9,5,false, "", "",48⟩,⟨"Value",3,6,false, "", "",64⟩]⟩,.agg ⟨[.int .i64 0,.int .i64 0,.int .i64 0,.int .i64 0,Y5 [],Y5 [],.int .i64 0]⟩,7,72⟩,
 ⟨137,.map 3 3,.map none,1,8⟩,
 ⟨138,.map 3 4,.map none,1,8⟩,
 ⟨142,.struct ⟨[⟨"Account",3,0,false, "", "",0⟩,⟨"Sub",3,1,false, "", "",8⟩,⟨"Product",9,2,false, "", "",16⟩,⟨"Index",3,3,false, "", "",32⟩,⟨"Kind",3,4,false, "", "",40⟩,⟨"Zones",102,5,false, "", "",48⟩,⟨"Valid",101,6,false, "", "",72⟩,⟨"Units",3,8,false, "", "",88⟩,⟨"Left",3,9,false, "", "",96⟩,⟨"Priority",3,10,false, "", "",104⟩,⟨"Shared",4,11,false, "", "",112⟩]⟩,.agg ⟨[.int .i64 0,.int .i64 0,Y5 [],.int .i64 0,.int .i64 0,.slice none 0 0,.int .i64 0,.int .i64 0,.int .i64 0,.int .i64 0,.int .i64 0,.bool false]⟩,12,120⟩,
 ⟨146,.struct ⟨[⟨"Id",3,0,false, "", "",0⟩,⟨"Account",3,1,false, "", "",8⟩,⟨"Since",3,2,false, "", "",16⟩,⟨"Plan",9,3,false, "", "",24⟩,⟨"Numbers",102,4,false, "", "",40⟩,⟨"Products",102,5,false, "", "",64⟩,⟨"Suspended",4,6,false, "", "",88⟩,⟨"Family",4,7,false, "", "",89⟩]⟩,.agg ⟨[.int .i64 0,.int .i64 0,.int .i64 0,Y5 [],.slice none 0 0,.slice none 0 0,.bool false,.bool false]⟩,8,96⟩,
 ⟨167,.struct ⟨[⟨"Kind",3,0,false, "", "",0⟩,⟨"Units",3,1,false, "", "",8⟩,⟨"Weekday",3,2,false, "", "",16⟩,⟨"Minute",3,3,false, "", "",24⟩,⟨"Total",3,4,false, "", "",32⟩,⟨"Spent",3,5,false, "", "",40⟩,⟨"Zone",9,6,false, "", "",48⟩,⟨"Band",9,7,false, "", "",64⟩,⟨"Family",4,8,false, "", "",80⟩]⟩,.agg ⟨[.int .i64 0,.int .i64 0,.int .i64 0,.int .i64 0,.int .i64 0,.int .i64 0,Y5 [],Y5 [],.bool false]⟩,9,88⟩,
 ⟨175,.slice 104,.slice none 0 0,1,24⟩,
 ⟨178,.slice 106,.slice none 0 0,1,24⟩,
 ⟨179,.slice 146,.slice none 0 0,1,24⟩,
 ⟨181,.struct ⟨[⟨"Accounts",178,0,false, "", "",0⟩,⟨"Subs",179,1,false, "", "",24⟩]⟩,.agg ⟨[.slice none 0 0,.slice none 0 0]⟩,2,48⟩,
 ⟨184,.map 9 9,.map none,1,8⟩,
 ⟨195,.pointer 198,.pointer none,1,8⟩,
 ⟨196,.map 201 4,.map none,1,8⟩,
 ⟨198,.struct ⟨[⟨"list",53,0,false, "", "billing/bundle",0⟩,⟨"has",196,1,false, "", "billing/bundle",24⟩]⟩,.agg ⟨[.slice none 0 0,.map none]⟩,2,32⟩,
 ⟨201,.struct ⟨[⟨"sub",3,0,false, "", "billing/bundle",0⟩,⟨"product",9,1,false, "", "billing/bundle",8⟩,⟨"index",3,2,false, "", "billing/bundle",24⟩,⟨"from",3,3,false, "", "billing/bundle",32⟩]⟩,.agg ⟨[.int .i64 0,Y5 [],.int .i64 0,.int .i64 0]⟩,4,40⟩,
 ⟨204,.slice 209,.slice none 0 0,1,24⟩,
 ⟨206,.slice 101,.slice none 0 0,1,24⟩,
 ⟨209,.struct ⟨[⟨"account",3,0,false, "", "billing/bundle",0⟩,⟨"sub",3,1,false, "", "billing/bundle",8⟩,⟨"product",9,2,false, "", "billing/bundle",16⟩,⟨"active",206,3,false, "", "billing/bundle",32⟩]⟩,.agg ⟨[.int .i64 0,.int .i64 0,Y5 [],.slice none 0 0]⟩,4,56⟩,
 ⟨210,.slice 213,.slice none 0 0,1,24⟩,
 ⟨213,.struct ⟨[⟨"bucket",142,0,false, "", "billing/bundle",0⟩,⟨"rollover",3,12,false, "", "billing/bundle",120⟩]⟩,.agg ⟨[.int .i64 0,.int .i64 0,Y5 [],.int .i64 0,.int .i64 0,.slice none 0 0,.int .i64 0,.int .i64 0,.int .i64 0,.int .i64 0,.int .i64 0,.bool false,.int .i64 0]⟩,13,128⟩,
 ⟨227,.slice 229,.slice none 0 0,1,24⟩,
 ⟨229,.struct ⟨[⟨"Op",3,0,false, "", "",0⟩,⟨"Num",3,1,false, "", "",8⟩,⟨"Text",9,2,false, "", "",16⟩,⟨"Args",227,3,false, "", "",32⟩]⟩,.agg ⟨[.int .i64 0,.int .i64 0,Y5 [],.slice none 0 0]⟩,4,56⟩,
 ⟨231,.struct ⟨[⟨"Name",9,0,false, "", "",0⟩,⟨"When",229,1,false, "", "",16⟩,⟨"Points",3,5,false, "", "",72⟩]⟩,.agg ⟨[Y5 [],.int .i64 0,.int .i64 0,Y5 [],.slice none 0 0,.int .i64 0]⟩,6,80⟩,
 ⟨235,.array 2 3,.agg ⟨[.int .i64 0,.int .i64 0]⟩,2,16⟩,
 ⟨244,.struct ⟨[⟨"start",3,0,false, "", "billing/history",0⟩,⟨"source",3,1,false, "", "billing/history",8⟩,⟨"serial",3,2,false, "", "billing/history",16⟩,⟨"id",3,3,false, "", "billing/history",24⟩]⟩,.agg ⟨[.int .i64 0,.int .i64 0,.int .i64 0,.int .i64 0]⟩,4,32⟩,
 ⟨246,.slice 249,.slice none 0 0,1,24⟩,
 ⟨249,.struct ⟨[⟨"at",3,0,false, "", "billing/subscribe",0⟩,⟨"s",146,1,false, "", "billing/subscribe",8⟩]⟩,.agg ⟨[.int .i64 0,.int .i64 0,.int .i64 0,.int .i64 0,Y5 [],.slice none 0 0,.slice none 0 0,.bool false,.bool false]⟩,9,104⟩,
 ⟨252,.func ⟨[249,249]⟩ ⟨[4]⟩ false,.nilFunc,1,8⟩,
 ⟨253,.func ⟨[249,249]⟩ ⟨[249]⟩ false,.nilFunc,1,8⟩,
 ⟨255,.pointer 314,.pointer none,1,8⟩,
 ⟨264,.struct ⟨[⟨"Days",3,0,false, "", "",0⟩,⟨"From",3,1,false, "", "",8⟩,⟨"To",3,2,false, "", "",16⟩]⟩,.agg ⟨[.int .i64 0,.int .i64 0,.int .i64 0]⟩,3,24⟩,
 ⟨268,.func ⟨[118]⟩ ⟨[4]⟩ false,.nilFunc,1,8⟩,
 ⟨274,.map 9 138,.map none,1,8⟩,
 ⟨289,.struct ⟨[⟨"sub",3,0,false, "", "billing/bucket",0⟩,⟨"product",9,1,false, "", "billing/bucket",8⟩,⟨"index",3,2,false, "", "billing/bucket",24⟩,⟨"from",3,3,false, "", "billing/bucket",32⟩]⟩,.agg ⟨[.int .i64 0,Y5 [],.int .i64 0,.int .i64 0]⟩,4,40⟩,
 ⟨292,.slice 295,.slice none 0 0,1,24⟩,
 ⟨295,.struct ⟨[⟨"Band",9,0,false, "", "",0⟩,⟨"Period",101,1,false, "", "",16⟩]⟩,.agg ⟨[Y5 [],.int .i64 0,.int .i64 0]⟩,3,32⟩,
 ⟨299,.array 3 235,.agg ⟨[.int .i64 0,.int .i64 0,.int .i64 0,.int .i64 0,.int .i64 0,.int .i64 0]⟩,6,48⟩,
 ⟨302,.func ⟨[121]⟩ ⟨[4]⟩ false,.nilFunc,1,8⟩,
 ⟨304,.func ⟨[264]⟩ ⟨[4]⟩ false,.nilFunc,1,8⟩,
 ⟨310,.map 3 106,.map none,1,8⟩,
 ⟨311,.map 3 146,.map none,1,8⟩,
 ⟨312,.map 9 3,.map none,1,8⟩,
 ⟨314,.struct ⟨[⟨"accounts",310,0,false, "", "billing/customer",0⟩,⟨"subs",311,1,false, "", "billing/customer",8⟩,⟨"ever",138,2,false, "", "billing/customer",16⟩,⟨"owners",312,3,false, "", "billing/customer",24⟩,⟨"live",137,4,false, "", "billing/customer",32⟩,⟨"opened",64,5,false, "", "billing/customer",40⟩,⟨"added",64,6,false, "", "billing/customer",64⟩]⟩,.agg ⟨[.map none,.map none,.map none,.map none,.map none,.slice none 0 0,.slice none 0 0]⟩,7,88⟩,
 ⟨317,.map 3 64,.map none,1,8⟩,
 ⟨320,.func ⟨[104]⟩ ⟨[4]⟩ false,.nilFunc,1,8⟩,
 ⟨322,.func ⟨[4,4]⟩ ⟨[4]⟩ false,.nilFunc,1,8⟩,
 ⟨324,.func ⟨[131]⟩ ⟨[4]⟩ false,.nilFunc,1,8⟩,
 ⟨329,.struct ⟨[⟨"Year",3,0,false, "", "",0⟩,⟨"Month",3,1,false, "", "",8⟩,⟨"Day",3,2,false, "", "",16⟩]⟩,.agg ⟨[.int .i64 0,.int .i64 0,.int .i64 0]⟩,3,24⟩,
 ⟨337,.array 4 3,.agg ⟨[.int .i64 0,.int .i64 0,.int .i64 0,.int .i64 0]⟩,4,32⟩,
 ⟨340,.func ⟨[101,101]⟩ ⟨[4]⟩ false,.nilFunc,1,8⟩,
 ⟨341,.func ⟨[101,101]⟩ ⟨[101]⟩ false,.nilFunc,1,8⟩,
 ⟨342,.slice 344,.slice none 0 0,1,24⟩,
 ⟨344,.struct ⟨[⟨"at",3,0,false, "", "billing/interval",0⟩,⟨"list",3,1,false, "", "billing/interval",8⟩,⟨"by",3,2,false, "", "billing/interval",16⟩]⟩,.agg ⟨[.int .i64 0,.int .i64 0,.int .i64 0]⟩,3,24⟩,
 ⟨347,.func ⟨[344,344]⟩ ⟨[3]⟩ false,.nilFunc,1,8⟩,
 ⟨357,.int .u64,.int .u64 0,1,8⟩,
 ⟨360,.array 12 3,.agg ⟨[.int .i64 0,.int .i64 0,.int .i64 0,.int .i64 0,.int .i64 0,.int .i64 0,.int .i64 0,.int .i64 0,.int .i64 0,.int .i64 0,.int .i64 0,.int .i64 0]⟩,12,96⟩,
 ⟨365,.int .i64,.int .i64 0,1,8⟩,
 ⟨372,.int .u32,.int .u32 0,1,4⟩,
 ⟨374,.int .u64,.int .u64 0,1,8⟩,
 ⟨407,.struct ⟨[⟨"Category",9,0,false, "", "",0⟩,⟨"From",3,1,false, "", "",16⟩,⟨"Points",3,2,false, "", "",24⟩]⟩,.agg ⟨[Y5 [],.int .i64 0,.int .i64 0]⟩,3,32⟩,
 ⟨409,.struct ⟨[⟨"Partner",3,0,false, "", "",0⟩,⟨"Kind",3,1,false, "", "",8⟩,⟨"Inbound",4,2,false, "", "",16⟩,⟨"Valid",101,3,false, "", "",24⟩,⟨"Steps",124,5,false, "", "",40⟩,⟨"Cap",3,6,false, "", "",64⟩]⟩,.agg ⟨[.int .i64 0,.int .i64 0,.bool false,.int .i64 0,.int .i64 0,.slice none 0 0,.int .i64 0]⟩,7,72⟩]
def tx:TX:=⟨tab,[(1,.ref),(2,(.int .i64)),(3,(.int .i64)),(4,.bool),(5,(.int .u8)),(9,.str),(23,Qk),(24,(.int .i64)),(25,(.sl Jy)),(26,(.sl Q7)),(27,(.sl Ju)),(29,Jm),(33,Jy),(35,Q7),(38,(.sl Jm)),(44,(.sl Ja)),(51,Ja),(53,(.sl Qy)),(54,(.sl Jp)),(55,(.sl Je)),(57,Q3),(60,(.sl Yh)),(61,(.sl Jq)),(62,(.sl Vq)),(63,(.sl Th)),(64,(.sl (.int .i64))),(65,(.sl El)),(67,Jt),(71,Jp),(73,Je),(76,Ju),(79,(.sl Qk)),(82,(.sl Xk)),(86,Xk),(88,.ref),(89,.ref),(91,.ref),(95,.ref),(96,.ref),(97,.ref),(99,.ref),(101,Qp),(102,(.sl .str)),(104,Jo),(106,Qx),(107,(.sl Yl)),(108,(.sl Yo)),(109,(.sl Vn)),(110,(.sl Y2)),(112,Jq),(114,Gc),(115,.ref),(118,Yl),(119,(.sl Gb)),(121,Yo),(123,Kr),(124,(.sl Kr)),(126,Vn),(128,K9),(129,(.sl K9)),(131,Vq),(133,Yh),(137,.ref),(138,.ref),(142,Qy),(146,Vt),(167,Ti),(175,(.sl Jo)),(178,(.sl Qx)),(179,(.sl Vt)),(181,Tj),(184,.ref),(195,.ref),(196,.ref),(198,Qag),(201,J5),(204,(.sl V4)),(206,(.sl Qp)),(209,V4),(210,(.sl Uj)),(213,Uj),(227,(.sl Nu)),(229,Nu),(231,Y2),(235,(.arr 2 (.int .i64))),(244,Hs),(246,(.sl Y3)),(249,Y3),(252,.ref),(253,.ref),(255,.ref),(264,Gb),(268,.ref),(274,.ref),(289,F8),(292,(.sl Tk)),(295,Tk),(299,(.arr 3 (.arr 2 (.int .i64)))),(302,.ref),(304,.ref),(310,.ref),(311,.ref),(312,.ref),(314,Ph),(317,.ref),(320,.ref),(322,.ref),(324,.ref),(329,Nv),(337,(.arr 4 (.int .i64))),(340,.ref),(341,.ref),(342,(.sl J6)),(344,J6),(347,.ref),(357,(.int .u64)),(360,(.arr 12 (.int .i64))),(365,(.int .i64)),(372,(.int .u32)),(374,(.int .u64)),(407,Th),(409,El)],[]⟩
theorem Qr:Tryz.prog.follows .mixedOrders=true:=by kernel_rfl
theorem Qt:Jb Tryz.prog tab:=⟨⟨⟨by kernel_rfl,by kernel_rfl⟩,by kernel_rfl⟩,⟨⟨by kernel_rfl,by kernel_rfl⟩,by kernel_rfl⟩,⟨⟨by kernel_rfl,by kernel_rfl⟩,by kernel_rfl⟩,⟨⟨by kernel_rfl,by kernel_rfl⟩,by kernel_rfl⟩,⟨⟨by kernel_rfl,by kernel_rfl⟩,by kernel_rfl⟩,⟨⟨by kernel_rfl,by kernel_rfl⟩,by kernel_rfl⟩,⟨⟨by kernel_rfl,by kernel_rfl⟩,by kernel_rfl⟩,⟨⟨by kernel_rfl,by kernel_rfl⟩,by kernel_rfl⟩,⟨⟨by kernel_rfl,by kernel_rfl⟩,by kernel_rfl⟩,⟨⟨by kernel_rfl,by kernel_rfl⟩,by kernel_rfl⟩,⟨⟨by kernel_rfl,by kernel_rfl⟩,by kernel_rfl⟩,⟨⟨by kernel_rfl,by kernel_rfl⟩,by kernel_rfl⟩,⟨⟨by kernel_rfl,by kernel_rfl⟩,by kernel_rfl⟩,⟨⟨by kernel_rfl,by kernel_rfl⟩,by kernel_rfl⟩,⟨⟨by kernel_rfl,by kernel_rfl⟩,by kernel_rfl⟩,⟨⟨by kernel_rfl,by kernel_rfl⟩,by kernel_rfl⟩,⟨⟨by kernel_rfl,by kernel_rfl⟩,by kernel_rfl⟩,⟨⟨by kernel_rfl,by kernel_rfl⟩,by kernel_rfl⟩,⟨⟨by kernel_rfl,by kernel_rfl⟩,by kernel_rfl⟩,⟨⟨by kernel_rfl,by kernel_rfl⟩,by kernel_rfl⟩,⟨⟨by kernel_rfl,by kernel_rfl⟩,by kernel_rfl⟩,⟨⟨by kernel_rfl,by kernel_rfl⟩,by kernel_rfl⟩,⟨⟨by kernel_rfl,by kernel_rfl⟩,by kernel_rfl⟩,⟨⟨by kernel_rfl,by kernel_rfl⟩,by kernel_rfl⟩,⟨⟨by kernel_rfl,by kernel_rfl⟩,by kernel_rfl⟩,⟨⟨by kernel_rfl,by kernel_rfl⟩,by kernel_rfl⟩,⟨⟨by kernel_rfl,by kernel_rfl⟩,by kernel_rfl⟩,⟨⟨by kernel_rfl,by kernel_rfl⟩,by kernel_rfl⟩,⟨⟨by kernel_rfl,by kernel_rfl⟩,by kernel_rfl⟩,⟨⟨by kernel_rfl,by kernel_rfl⟩,by kernel_rfl⟩,⟨⟨by kernel_rfl,by kernel_rfl⟩,by kernel_rfl⟩,⟨⟨by kernel_rfl,by kernel_rfl⟩,by kernel_rfl⟩,⟨⟨by kernel_rfl,by kernel_rfl⟩,by kernel_rfl⟩,⟨⟨by kernel_rfl,by kernel_rfl⟩,by kernel_rfl⟩,⟨⟨by kernel_rfl,by kernel_rfl⟩,by kernel_rfl⟩,⟨⟨by kernel_rfl,by kernel_rfl⟩,by kernel_rfl⟩,⟨⟨by kernel_rfl,by kernel_rfl⟩,by kernel_rfl⟩,⟨⟨by kernel_rfl,by kernel_rfl⟩,by kernel_rfl⟩,⟨⟨by kernel_rfl,by kernel_rfl⟩,by kernel_rfl⟩,⟨⟨by kernel_rfl,by kernel_rfl⟩,by kernel_rfl⟩,⟨⟨by kernel_rfl,by kernel_rfl⟩,by kernel_rfl⟩,⟨⟨by kernel_rfl,by kernel_rfl⟩,by kernel_rfl⟩,⟨⟨by kernel_rfl,by kernel_rfl⟩,by kernel_rfl⟩,⟨⟨by kernel_rfl,by kernel_rfl⟩,by kernel_rfl⟩,⟨⟨by kernel_rfl,by kernel_rfl⟩,by kernel_rfl⟩,⟨⟨by kernel_rfl,by kernel_rfl⟩,by kernel_rfl⟩,⟨⟨by kernel_rfl,by kernel_rfl⟩,by kernel_rfl⟩,⟨⟨by kernel_rfl,by kernel_rfl⟩,by kernel_rfl⟩,⟨⟨by kernel_rfl,by kernel_rfl⟩,by kernel_rfl⟩,⟨⟨by kernel_rfl,by kernel_rfl⟩,by kernel_rfl⟩,⟨⟨by kernel_rfl,by kernel_rfl⟩,by kernel_rfl⟩,⟨⟨by kernel_rfl,by kernel_rfl⟩,by kernel_rfl⟩,⟨⟨by kernel_rfl,by kernel_rfl⟩,by kernel_rfl⟩,⟨⟨by kernel_rfl,by kernel_rfl⟩,by kernel_rfl⟩,⟨⟨by kernel_rfl,by kernel_rfl⟩,by kernel_rfl⟩,⟨⟨by kernel_rfl,by kernel_rfl⟩,by kernel_rfl⟩,⟨⟨by kernel_rfl,by kernel_rfl⟩,by kernel_rfl⟩,⟨⟨by kernel_rfl,by kernel_rfl⟩,by kernel_rfl⟩,⟨⟨by kernel_rfl,by kernel_rfl⟩,by kernel_rfl⟩,⟨⟨by kernel_rfl,by kernel_rfl⟩,by kernel_rfl⟩,⟨⟨by kernel_rfl,by kernel_rfl⟩,by kernel_rfl⟩,⟨⟨by kernel_rfl,by kernel_rfl⟩,by kernel_rfl⟩,⟨⟨by kernel_rfl,by kernel_rfl⟩,by kernel_rfl⟩,⟨⟨by kernel_rfl,by kernel_rfl⟩,by kernel_rfl⟩,⟨⟨by kernel_rfl,by kernel_rfl⟩,by kernel_rfl⟩,⟨⟨by kernel_rfl,by kernel_rfl⟩,by kernel_rfl⟩,⟨⟨by kernel_rfl,by kernel_rfl⟩,by kernel_rfl⟩,⟨⟨by kernel_rfl,by kernel_rfl⟩,by kernel_rfl⟩,⟨⟨by kernel_rfl,by kernel_rfl⟩,by kernel_rfl⟩,⟨⟨by kernel_rfl,by kernel_rfl⟩,by kernel_rfl⟩,⟨⟨by kernel_rfl,by kernel_rfl⟩,by kernel_rfl⟩,⟨⟨by kernel_rfl,by kernel_rfl⟩,by kernel_rfl⟩,⟨⟨by kernel_rfl,by kernel_rfl⟩,by kernel_rfl⟩,⟨⟨by kernel_rfl,by kernel_rfl⟩,by kernel_rfl⟩,⟨⟨by kernel_rfl,by kernel_rfl⟩,by kernel_rfl⟩,⟨⟨by kernel_rfl,by kernel_rfl⟩,by kernel_rfl⟩,⟨⟨by kernel_rfl,by kernel_rfl⟩,by kernel_rfl⟩,⟨⟨by kernel_rfl,by kernel_rfl⟩,by kernel_rfl⟩,⟨⟨by kernel_rfl,by kernel_rfl⟩,by kernel_rfl⟩,⟨⟨by kernel_rfl,by kernel_rfl⟩,by kernel_rfl⟩,⟨⟨by kernel_rfl,by kernel_rfl⟩,by kernel_rfl⟩,⟨⟨by kernel_rfl,by kernel_rfl⟩,by kernel_rfl⟩,⟨⟨by kernel_rfl,by kernel_rfl⟩,by kernel_rfl⟩,⟨⟨by kernel_rfl,by kernel_rfl⟩,by kernel_rfl⟩,⟨⟨by kernel_rfl,by kernel_rfl⟩,by kernel_rfl⟩,⟨⟨by kernel_rfl,by kernel_rfl⟩,by kernel_rfl⟩,⟨⟨by kernel_rfl,by kernel_rfl⟩,by kernel_rfl⟩,⟨⟨by kernel_rfl,by kernel_rfl⟩,by kernel_rfl⟩,⟨⟨by kernel_rfl,by kernel_rfl⟩,by kernel_rfl⟩,⟨⟨by kernel_rfl,by kernel_rfl⟩,by kernel_rfl⟩,⟨⟨by kernel_rfl,by kernel_rfl⟩,by kernel_rfl⟩,⟨⟨by kernel_rfl,by kernel_rfl⟩,by kernel_rfl⟩,⟨⟨by kernel_rfl,by kernel_rfl⟩,by kernel_rfl⟩,⟨⟨by kernel_rfl,by kernel_rfl⟩,by kernel_rfl⟩,⟨⟨by kernel_rfl,by kernel_rfl⟩,by kernel_rfl⟩,⟨⟨by kernel_rfl,by kernel_rfl⟩,by kernel_rfl⟩,⟨⟨by kernel_rfl,by kernel_rfl⟩,by kernel_rfl⟩,⟨⟨by kernel_rfl,by kernel_rfl⟩,by kernel_rfl⟩,⟨⟨by kernel_rfl,by kernel_rfl⟩,by kernel_rfl⟩,⟨⟨by kernel_rfl,by kernel_rfl⟩,by kernel_rfl⟩,⟨⟨by kernel_rfl,by kernel_rfl⟩,by kernel_rfl⟩,⟨⟨by kernel_rfl,by kernel_rfl⟩,by kernel_rfl⟩,⟨⟨by kernel_rfl,by kernel_rfl⟩,by kernel_rfl⟩,⟨⟨by kernel_rfl,by kernel_rfl⟩,by kernel_rfl⟩,⟨⟨by kernel_rfl,by kernel_rfl⟩,by kernel_rfl⟩,⟨⟨by kernel_rfl,by kernel_rfl⟩,by kernel_rfl⟩,⟨⟨by kernel_rfl,by kernel_rfl⟩,by kernel_rfl⟩,⟨⟨by kernel_rfl,by kernel_rfl⟩,by kernel_rfl⟩,⟨⟨by kernel_rfl,by kernel_rfl⟩,by kernel_rfl⟩,⟨⟨by kernel_rfl,by kernel_rfl⟩,by kernel_rfl⟩,⟨⟨by kernel_rfl,by kernel_rfl⟩,by kernel_rfl⟩,⟨⟨by kernel_rfl,by kernel_rfl⟩,by kernel_rfl⟩,⟨⟨by kernel_rfl,by kernel_rfl⟩,by kernel_rfl⟩,⟨⟨by kernel_rfl,by kernel_rfl⟩,by kernel_rfl⟩,⟨⟨by kernel_rfl,by kernel_rfl⟩,by kernel_rfl⟩,⟨⟨by kernel_rfl,by kernel_rfl⟩,by kernel_rfl⟩,⟨⟨by kernel_rfl,by kernel_rfl⟩,by kernel_rfl⟩,⟨⟨by kernel_rfl,by kernel_rfl⟩,by kernel_rfl⟩,⟨⟨by kernel_rfl,by kernel_rfl⟩,by kernel_rfl⟩,⟨⟨by kernel_rfl,by kernel_rfl⟩,by kernel_rfl⟩,⟨⟨by kernel_rfl,by kernel_rfl⟩,by kernel_rfl⟩,⟨⟨by kernel_rfl,by kernel_rfl⟩,by kernel_rfl⟩,trivial⟩
def Jcx:An:=.t 1 (.t 12 (.t 5 (.t 11 (.nil))))
def Jcy:Shp:=⟨[],[]⟩
def Qzl:Shp:=⟨[(0,.d Jt)],[]⟩
def Qzm:An:=.t 1 (.t 1 (.two (.un (.lp [0,1,5] [] ⟨[],[]⟩ [(.x 0,⟨[],[]⟩)] (.two (.two (.reg (.n 5 (.sp 11 7 [] [] ⟨[(18,.d .bool)],[]⟩ (.tl .done) (.nl 6 (.n 1 .done)) (.done)))) (.two (.gh (.tl .done) .nil) (.nil))) (.nil)))) (.t 5 (.t 5 (.t 6 (.nil))))))
def Qzn:Shp:=⟨[(0,.d (.sl .str)),(1,.d .str)],[]⟩
def Qtj:Shp:=⟨[(0,.s 1)],[(1,.row 9 .str)]⟩
def Qzo:An:=.t 3 (.two (.t 2 (.un (.t 2 (.two (.t 10 (.nil)) (.t 2 (.two (.gh (.tl .done) .nil) (.t 2 (.two (.gh (.tl .done) .nil) (.t 2 (.two (.reg (.n 4 (.call 0 (.n 2 .done)))) (.gh (.tl .done) .nil))))))))))) (.t 2 (.nil)))
def Qzp:Shp:=⟨[(0,.d Vt),(1,.d Yh)],[]⟩
def Qtk:Shp:=⟨[(0,.ag (.cons (.d .i) (.cons (.d .i) (.cons (.d .i) (.cons (.d .str) (.cons (.d (.sl .str)) (.cons (.s 1) (.cons (.d .bool) (.cons (.d .bool) (.nil))))))))))],[(1,.row 9 .str)]⟩
def Qzq:An:=.t 1 (.t 1 (.t 1 (.two (.t 3 (.un (.lp [1,10,11] [] ⟨[(5,.s 100000),(6,.p 100001 []),(12,.d .i)],[(100000,.row 249 Y3),(100001,.var 146 (.ag (.cons (.d .i) (.cons (.d .i) (.cons (.d .i) (.cons (.d .str) (.cons (.d (.sl .str)) (.cons (.s 100002) (.cons (.d .bool) (.cons (.d .bool) (.nil))))))))))),(100002,.tail 9 .str)]⟩ [(.x 0,⟨[(5,.s 100300)],[(100300,.row 249 Y3)]⟩)] (.t 1 (.two (.two (.nil) (.nil)) (.two (.jn [12] [] [(.n,⟨[(5,.s 100200),(6,.p 100201 [])],[(100200,.row 249 Y3),(100201,.var 146 (.ag (.cons (.d .i) (.cons (.d .i) (.cons (.d .i) (.cons (.d .str) (.cons (.d (.sl .str)) (.cons (.s 100202) (.cons (.d .bool) (.cons (.d .bool) (.nil))))))))))),(100202,.tail 9 .str)]⟩)] (.un (.t 4 (.two (.t 8 (.two (.nil) (.nil))) (.two (.reg (.n 2 (.call 0 (.n 1 .done)))) (.t 3 (.two (.dr 13 (.n 3 (.sp 31 10 [5,6,8,9,12] [8,12601,100000,100001,100002] ⟨[(41,.d .bool)],[]⟩ (.nl 9 (.n 1 .done)) (.nl 9 (.n 1 .done)) (.done))) (.done)) (.two (.reg (.n 6 (.fz 12601 (.n 1 .done)))) (.reg (.n 5 (.fz 12601 (.n 3 .done)))))))))))) (.reg (.n 2 .done)))))))) (.t 2 (.nil)))))
def Qzr:Shp:=⟨[(0,.d (.sl Yh)),(1,.d .i)],[]⟩
def Qtl:Shp:=⟨[(0,.s 1)],[(1,.row 249 Y3)]⟩
def Qzs:An:=.t 1 (.t 1 (.two (.t 3 (.un (.lp [1,11,12] [] ⟨[(7,.s 100000),(13,.d .i)],[(100000,.row 249 Y3)]⟩ [(.x 0,⟨[(7,.s 100100)],[(100100,.row 249 Y3)]⟩)] (.t 1 (.two (.two (.nil) (.nil)) (.two (.un (.t 4 (.t 3 (.two (.dm 10 [19,20,21,22,23,24,25,26,27,28] [] (.n 3 (.so 21 (.tl .done) (.n 7 (.tl (.nl 1 (.n 1 .done))))))) (.two (.nil) (.reg (.n 5 .done))))))) (.reg (.n 2 .done)))))))) (.t 2 (.nil))))
def Qzt:Shp:=⟨[(0,.d (.sl Y3)),(1,.f 126 (.nil)),(2,.f 128 (.nil))],[]⟩
def Qtm:Shp:=⟨[(0,.s 1)],[(1,.row 249 Y3)]⟩
def Jcz:An:=.t 1 (.two (.reg (.n 2 (.call 0 (.call 1 (.n 1 .done))))) (.t 1 (.two (.t 3 (.un (.lp [5,14,15] [11201,11301] ⟨[(6,.s 100000),(16,.d .i)],[(100000,.row 104 Jo)]⟩ [(.x 0,⟨[(6,.s 100100)],[(100100,.row 104 Jo)]⟩)] (.t 1 (.two (.two (.nil) (.nil)) (.two (.un (.t 6 (.two (.t 4 (.two (.gh (.tl .done) .nil) (.nil))) (.t 5 (.two (.t 5 (.two (.gh (.tl .done) .nil) (.nil))) (.dc 17 [40,41,42,43,44,45,46,47,48,49,50,51,52,53,54,55,56] [9,8] [] (.op ⟨.nl 1 .done,[],[],[],[100000]⟩ (.op ⟨.nl 1 .done,[],[9],[],[]⟩ (.op ⟨.nl 1 .done,[],[],[],[8]⟩ (.op ⟨.nl 1 .done,[],[],[],[8]⟩ (.op ⟨.nl 1 .done,[],[8],[],[]⟩ (.op ⟨.nl 1 .done,[],[],[],[8]⟩ (.op ⟨.nl 1 .done,[],[],[],[8]⟩ (.op ⟨.nl 1 .done,[],[8],[],[]⟩ (.op ⟨.nl 1 .done,[],[],[48],[48]⟩ (.op ⟨.nl 1 .done,[],[],[],[8]⟩ (.op ⟨.nl 1 .done,[],[],[],[8]⟩ (.op ⟨.nl 1 .done,[],[8],[],[]⟩ (.op ⟨.nl 1 .done,[],[],[],[8]⟩ (.op ⟨.nl 1 .done,[],[],[],[8]⟩ (.op ⟨.nl 1 .done,[],[8],[],[]⟩ (.op ⟨.nl 1 .done,[],[],[],[48]⟩ (.op ⟨.fz 48 (.nl 1 .done),[48],[],[],[48]⟩ (.tl (.n 2 .done))))))))))))))))))))))))) (.reg (.n 2 .done)))))))) (.t 2 (.nil)))))
def Jc0:Shp:=⟨[(0,.d (.sl Yh)),(1,.d .i)],[]⟩
def Qzu:Shp:=⟨[(0,.s 1)],[(1,.row 104 Jo)]⟩
def Qzv:An:=.t 2 (.t 16 (.nil))
def Qzw:Shp:=⟨[(0,.d Qp)],[]⟩
def Qtn:Shp:=⟨[(0,.d .bool)],[]⟩
def Jc1:An:=.t 2 (.two (.reg (.n 1 (.call 0 (.n 13 .done)))) (.nil))
def Jc2:Shp:=⟨[(0,.d Qp),(1,.d .i)],[]⟩
def Qzx:Shp:=⟨[(0,.d .bool)],[]⟩
def Jc3:An:=.t 2 (.two (.two (.reg (.n 2 (.call 0 (.n 2 .done)))) (.un (.lp [2,12,13,14] [11201] ⟨[(6,.p 100000 [])],[(100000,.var 104 (.ag (.cons (.d Qp) (.cons (.d .str) (.cons (.ns) (.cons (.d .bool) (.cons (.d .bool) (.nil))))))))]⟩ [(.x 0,⟨[(6,.p 100100 [])],[(100100,.var 104 (.ag (.cons (.d Qp) (.cons (.d .str) (.cons (.ns) (.cons (.d .bool) (.cons (.d .bool) (.nil))))))))]⟩),(.r,⟨[(6,.p 100200 []),(7,.d .bool)],[(100200,.var 104 (.d Jo))]⟩)] (.t 1 (.two (.two (.nil) (.nil)) (.two (.un (.t 4 (.two (.reg (.n 3 (.call 1 (.done)))) (.two (.t 3 (.nil)) (.gh (.tl .done) .nil))))) (.nil))))))) (.t 3 (.nil)))
def Jc4:Shp:=⟨[(0,.d (.sl Yh)),(1,.d .i),(2,.d .i)],[]⟩
def Qzy:Shp:=⟨[(0,.d Jo),(1,.d .bool)],[]⟩
def Qzz:An:=.t 1 (.t 8 (.nil))
def Qz0:Shp:=⟨[],[]⟩
def Qto:Shp:=⟨[(0,.p 1 [])],[(1,.var 314 (.ag (.cons (.m 2) (.cons (.m 3) (.cons (.m 4) (.cons (.m 5) (.cons (.m 6) (.cons (.ns) (.cons (.ns) (.nil)))))))))),(2,.map .i Qx),(3,.map .i Vt),(4,.map .i .bool),(5,.map .str .i),(6,.map .i .i)]⟩
def Qz1:An:=.t 3 (.t 2 (.nil))
def Qz2:Shp:=⟨[(0,.d (.sl Yh)),(1,.d .i)],[]⟩
def Qtp:Shp:=⟨[(0,.f 180 (.cons (.p 1 []) (.cons (.p 2 []) (.nil))))],[(1,.var 60 (.d (.sl Yh))),(2,.var 3 (.d .i))]⟩
def Qz3:AnY:=.two (.reg (.n 3 .done)) (.un (.lp [2,6,7] [] ⟨[(8,.d .i)],[]⟩ [(.x 0,⟨[],[]⟩)] (.two (.reg (.n 1 .done)) (.two (.two (.nil) (.nil)) (.two (.un (.two (.reg (.n 4 .done)) (.two (.yr (.h 5 (.n 5 .done) (.so 16 (.mv (.h 1 (.nl 1 .done) (.yl (.h 2 (.nl 1 (.n 1 .done)) (.done))))) (.h 5 (.nl 4 (.n 1 .done)) (.done))))) (.two (.yr .done) (.nil))))) (.reg (.n 2 .done)))))))
def Qz4:An:=.t 1 (.t 1 (.two (.un (.lp [0,1,5] [] ⟨[],[]⟩ [(.x 0,⟨[],[]⟩)] (.two (.two (.reg (.n 5 (.sp 11 7 [] [] ⟨[(18,.d .bool)],[]⟩ (.tl .done) (.nl 6 (.n 1 .done)) (.done)))) (.two (.gh (.tl .done) .nil) (.nil))) (.nil)))) (.t 5 (.t 5 (.t 6 (.nil))))))
def Qz5:Shp:=⟨[(0,.d (.sl .i)),(1,.d .i)],[]⟩
def Qtq:Shp:=⟨[(0,.d (.sl .i))],[]⟩
def Qz6:An:=.t 1 (.t 1 (.two (.un (.lp [0,1,5] [] ⟨[],[]⟩ [(.x 0,⟨[],[]⟩)] (.two (.two (.reg (.n 5 (.sp 11 7 [] [] ⟨[(18,.d .bool)],[]⟩ (.tl .done) (.nl 6 (.n 1 .done)) (.done)))) (.two (.gh (.tl .done) .nil) (.nil))) (.nil)))) (.t 5 (.t 5 (.t 6 (.nil))))))
def Qz7:Shp:=⟨[(0,.d (.sl .str)),(1,.d .str)],[]⟩
def Qtr:Shp:=⟨[(0,.s 1)],[(1,.row 9 .str)]⟩
def Qjn:An:=.t 3 (.two (.t 2 (.un (.t 2 (.two (.gh (.tl .done) .nil) (.t 2 (.two (.gh (.tl .done) .nil) (.t 2 (.two (.gh (.tl .done) .nil) (.t 2 (.two (.reg (.n 4 (.call 0 (.n 2 .done)))) (.gh (.tl .done) .nil))))))))))) (.t 2 (.nil)))
def Qjo:Shp:=⟨[(0,.p 5000 []),(1,.d Vt),(2,.d Yh)],[(5000,.var 314 (.ag (.cons (.m 5001) (.cons (.m 5002) (.cons (.m 5003) (.cons (.m 5004) (.cons (.m 5005) (.cons (.d (.sl .i)) (.cons (.d (.sl .i)) (.nil)))))))))),(5001,.map .i Qx),(5002,.map .i Vt),(5003,.map .i .bool),(5004,.map .str .i),(5005,.map .i .i)]⟩
def Qf1:Shp:=⟨[(0,.ag (.cons (.d .i) (.cons (.d .i) (.cons (.d .i) (.cons (.d .str) (.cons (.d (.sl .str)) (.cons (.s 1) (.cons (.d .bool) (.cons (.d .bool) (.nil))))))))))],[(1,.row 9 .str)]⟩
def Qjp:An:=.t 1 (.t 2 (.un (.t 2 (.two (.two (.two (.dm 12 [38,39,40,41,42,43,44,37,45,46,4,1000000011] [] (.n 12 (.tl (.n 1 .done)))) (.t 2 (.two (.dm 8 [49,50,51,52,53,54,55,56] [] (.n 7 (.call 0 (.tl (.n 3 .done))))) (.gh (.tl .done) .nil)))) (.dr 16 (.n 16 .done) (.n 1 .done))) (.t 2 (.two (.gh (.tl .done) .nil) (.t 2 (.two (.two (.two (.dr 8 (.n 8 .done) (.done)) (.two (.dm 8 [102,103,104,105,106,107,108,109] [] (.n 7 (.call 0 (.tl (.n 3 .done))))) (.gh (.tl .done) .nil))) (.two (.dr 6 (.n 6 .done) (.n 1 .done)) (.two (.dr 8 (.n 8 .done) (.n 1 .done)) (.dr 15 (.n 15 .done) (.n 1 .done))))) (.t 2 (.two (.gh (.tl .done) .nil) (.two (.jn [0,3] [3,5000,5001,5002,5003,5004,5005] [(.n,⟨[(177,.d .bool)],[]⟩)] (.t 2 (.two (.nil) (.reg (.n 2 .done))))) (.two (.nil) (.two (.dm 12 [15,16,17,18,19,20,21,14,22,23,10,1000000011] [] (.n 12 (.tl (.n 1 .done)))) (.t 1 (.two (.dc 10 [25,26,27,28,29,30,31,32,33,34] [5000,3,10,5001,5002,5003,5004,5005] [] (.op ⟨.nl 1 .done,[],[],[],[5000]⟩ (.op ⟨.nl 1 .done,[],[5000],[],[5000]⟩ (.op ⟨.nl 1 .done,[],[],[],[5000]⟩ (.op ⟨.nl 1 .done,[],[5000],[],[5002]⟩ (.op ⟨.nl 1 .done,[],[],[],[3]⟩ (.op ⟨.nl 1 .done,[],[3],[],[]⟩ (.op ⟨.nl 1 .done,[],[],[],[5000]⟩ (.op ⟨.nl 1 .done,[],[10],[],[]⟩ (.op ⟨.nl 1 .done,[],[3],[],[]⟩ (.op ⟨.call 1 (.done),[],[5000,5001,5002,5003,5004,5005],[13401],[13401]⟩ (.tl (.fz 13401 (.n 1 .done)))))))))))))) (.gh (.tl .done) .nil))))))))))))))))
def Qjq:Shp:=⟨[(0,.p 5000 []),(1,.d Yh)],[(5000,.var 314 (.ag (.cons (.m 5001) (.cons (.m 5002) (.cons (.m 5003) (.cons (.m 5004) (.cons (.m 5005) (.cons (.d (.sl .i)) (.cons (.d (.sl .i)) (.nil)))))))))),(5001,.map .i Qx),(5002,.map .i Vt),(5003,.map .i .bool),(5004,.map .str .i),(5005,.map .i .i)]⟩
def Qf2:Shp:=⟨[],[(5000,.var 314 (.ag (.cons (.m 5001) (.cons (.m 5002) (.cons (.m 5003) (.cons (.m 5004) (.cons (.m 5005) (.cons (.d (.sl .i)) (.cons (.d (.sl .i)) (.nil)))))))))),(5001,.map .i Qx),(5002,.map .i Vt),(5003,.map .i .bool),(5004,.map .str .i),(5005,.map .i .i)]⟩
def Qz8:An:=.t 1 (.t 1 (.two (.reg (.n 1 (.mt 12 [] 3 (.n 1 .done)))) (.two (.t 6 (.un (.lp [0,16,17] [] ⟨[(2,.p 100000 []),(3,.p 100001 []),(4,.m 100002),(18,.d .i)],[(100000,.var 181 (.ag (.cons (.ns) (.cons (.ns) (.nil))))),(100001,.var 181 (.ag (.cons (.ns) (.cons (.s 100003) (.nil))))),(100002,.mapT .i (.sl .i) [] 3 .i),(100003,.row 146 Vt)]⟩ [(.x 0,⟨[(2,.p 100100 []),(3,.p 100101 []),(4,.m 100102)],[(100100,.var 181 (.ag (.cons (.ns) (.cons (.ns) (.nil))))),(100101,.var 181 (.ag (.cons (.ns) (.cons (.s 100103) (.nil))))),(100102,.mapT .i (.sl .i) [] 3 .i),(100103,.row 146 Vt)]⟩)] (.t 1 (.two (.two (.nil) (.nil)) (.two (.un (.t 3 (.t 12 (.two (.t 2 (.two (.gh (.tl .done) .nil) (.nil))) (.two (.gh (.op (.v 7 [.f 1 1]) 100002 700000 (.done)) (.dm 10 [33,34,35,36,37,38,39,40,41,42] [700000] (.n 10 (.tl (.n 1 .done))))) (.reg (.n 7 .done))))))) (.reg (.n 2 .done)))))))) (.two (.t 6 (.un (.lp [0,2,4,53,54] [100100,100102] ⟨[(3,.p 100200 []),(55,.d .i)],[(100200,.var 181 (.ag (.cons (.s 100201) (.cons (.s 100202) (.nil))))),(100201,.row 106 Qx),(100202,.row 146 Vt)]⟩ [(.x 2,⟨[(3,.p 100300 [])],[(100300,.var 181 (.ag (.cons (.s 100301) (.cons (.s 100302) (.nil))))),(100301,.row 106 Qx),(100302,.row 146 Vt)]⟩)] (.t 1 (.two (.two (.nil) (.nil)) (.two (.un (.t 3 (.t 8 (.t 5 (.reg (.n 7 .done)))))) (.reg (.n 2 .done)))))))) (.t 2 (.gh (.fm 100102 (.done)) .nil))))))
def Qz9:Shp:=⟨[(0,.p 5000 [])],[(5000,.var 314 (.ag (.cons (.m 5001) (.cons (.m 5002) (.cons (.m 5003) (.cons (.m 5004) (.cons (.m 5005) (.cons (.d (.sl .i)) (.cons (.d (.sl .i)) (.nil)))))))))),(5001,.map .i Qx),(5002,.map .i Vt),(5003,.map .i .bool),(5004,.map .str .i),(5005,.map .i .i)]⟩
def Qts:Shp:=⟨[(0,.ag (.cons (.s 1) (.cons (.s 2) (.nil))))],[(1,.row 106 Qx),(2,.row 146 Vt)]⟩
def Jc5:AnR:=.pre (.reg (.n 1 .done)) (.pre (.reg (.call 0 (.n 2 .done))) (.inn (.pre (.reg (.n 2 (.call 1 (.done)))) (.un (.rf 0 [4,5] [4,5] ⟨[],[(10701,.var 314 (.ag (.cons (.m 100001) (.cons (.m 100002) (.cons (.m 100003) (.cons (.m 100004) (.cons (.m 100005) (.cons (.d (.sl .i)) (.cons (.d (.sl .i)) (.nil)))))))))),(100001,.map .i Qx),(100002,.map .i Vt),(100003,.map .i .bool),(100004,.map .str .i),(100005,.map .i .i)]⟩ (.reg (.n 2 .done)) (.un (.reg (.n 2 (.call 2 (.done)))))))) (.two (.reg (.n 1 (.call 3 (.n 1 .done)))) (.nil))))
def Jc6:Shp:=⟨[(0,.d (.sl Yh)),(1,.d .i)],[]⟩
def Q0a:Shp:=⟨[(0,.ag (.cons (.s 1) (.cons (.s 2) (.nil))))],[(1,.row 106 Qx),(2,.row 146 Vt)]⟩
def Jc7:An:=.t 2 (.two (.two (.reg (.n 2 (.call 0 (.n 3 .done)))) (.un (.lp [1,13,14,15] [11201,11202] ⟨[(6,.p 100000 [])],[(100000,.var 146 (.ag (.cons (.d .i) (.cons (.d .i) (.cons (.d .i) (.cons (.d .str) (.cons (.ns) (.cons (.ns) (.cons (.d .bool) (.cons (.d .bool) (.nil)))))))))))]⟩ [(.r,⟨[(6,.p 100100 []),(7,.d .bool)],[(100100,.var 146 (.d Vt))]⟩)] (.t 1 (.two (.two (.nil) (.gh (.tl .done) .nil)) (.two (.un (.t 4 (.t 4 (.two (.t 3 (.nil)) (.gh (.tl .done) .nil))))) (.nil))))))) (.nil))
def Jc8:Shp:=⟨[(0,.d (.sl Yh)),(1,.d .i),(2,.d .i)],[]⟩
def Q0b:Shp:=⟨[(0,.d Vt),(1,.d .bool)],[]⟩
def Jc9:An:=.t 2 (.two (.two (.reg (.n 2 (.call 0 (.n 3 .done)))) (.un (.lp [1,13,14,15] [11201,11202] ⟨[(6,.p 100000 [])],[(100000,.var 106 (.ag (.cons (.d .i) (.cons (.d .i) (.cons (.d .i) (.cons (.d .bool) (.cons (.d .bool) (.cons (.ns) (.nil)))))))))]⟩ [(.r,⟨[(6,.p 100100 []),(7,.d .bool)],[(100100,.var 106 (.d Qx))]⟩)] (.t 1 (.two (.two (.nil) (.gh (.tl .done) .nil)) (.two (.un (.t 4 (.t 4 (.two (.t 3 (.nil)) (.gh (.tl .done) .nil))))) (.nil))))))) (.nil))
def Jda:Shp:=⟨[(0,.d (.sl Yh)),(1,.d .i),(2,.d .i)],[]⟩
def Q0c:Shp:=⟨[(0,.d Qx),(1,.d .bool)],[]⟩
def Jdb:An:=.t 1 (.two (.dm 21 [8,9,10,11,12,13,14,15,16,17,18,19,20,21,22,23,7,24,25,3,1000000020] [] (.n 15 (.call 0 (.n 5 (.tl (.n 1 .done)))))) (.two (.t 2 (.two (.t 1 (.nil)) (.nil))) (.two (.dm 21 [29,30,31,32,33,34,35,36,37,38,39,40,41,42,43,44,28,45,46,5,1000000020] [] (.n 15 (.call 1 (.n 5 (.tl (.n 1 .done)))))) (.two (.two (.dr 8 (.n 8 .done) (.done)) (.two (.gh (.tl .done) .nil) (.nil))) (.two (.t 2 (.two (.gh (.tl .done) .nil) (.nil))) (.t 5 (.two (.dm 20 [62,63,64,65,66,67,68,69,70,71,72,73,74,75,61,76,77,78,79,1000000019] [5000] (.n 13 (.call 2 (.n 6 (.tl (.done)))))) (.t 1 (.nil)))))))))
def Jdc:Shp:=⟨[(0,.p 5000 [])],[(5000,.var 114 (.ag (.cons (.d Jt) (.cons (.d Q3) (.cons (.d Qk) (.cons (.ag (.cons (.d Qp) (.cons (.d .str) (.cons (.s 5001) (.cons (.d .bool) (.cons (.d .bool) (.nil))))))) (.cons (.ag (.cons (.d .i) (.cons (.d .i) (.cons (.d .i) (.cons (.d .bool) (.cons (.d .bool) (.cons (.s 5002) (.nil)))))))) (.cons (.ag (.cons (.d .str) (.cons (.d .i) (.cons (.d .bool) (.cons (.s 5003) (.cons (.s 5004) (.cons (.s 5005) (.cons (.s 5006) (.nil))))))))) (.cons (.d .i) (.cons (.ag (.cons (.d Qk) (.cons (.d .i) (.cons (.d .str) (.cons (.d .i) (.cons (.d .str) (.cons (.s 5007) (.cons (.s 5008) (.cons (.d .i) (.cons (.d .i) (.cons (.d .i) (.cons (.s 5009) (.cons (.d .i) (.cons (.d .i) (.nil))))))))))))))) (.nil))))))))))),(5001,.row 9 .str),(5002,.row 3 .i),(5003,.row 118 Yl),(5004,.row 121 Yo),(5005,.row 126 Vn),(5006,.row 231 Y2),(5007,.row 33 Jy),(5008,.row 35 Q7),(5009,.row 76 Ju)]⟩
def Q0d:Shp:=⟨[(0,.d .i)],[(5000,.var 114 (.ag (.cons (.d Jt) (.cons (.d Q3) (.cons (.d Qk) (.cons (.ag (.cons (.d Qp) (.cons (.d .str) (.cons (.d (.sl .str)) (.cons (.d .bool) (.cons (.d .bool) (.nil))))))) (.cons (.ag (.cons (.d .i) (.cons (.d .i) (.cons (.d .i) (.cons (.d .bool) (.cons (.d .bool) (.cons (.d (.sl .i)) (.nil)))))))) (.cons (.ag (.cons (.d .str) (.cons (.d .i) (.cons (.d .bool) (.cons (.s 1) (.cons (.s 2) (.cons (.s 3) (.cons (.s 4) (.nil))))))))) (.cons (.d .i) (.cons (.ag (.cons (.d Qk) (.cons (.d .i) (.cons (.d .str) (.cons (.d .i) (.cons (.d .str) (.cons (.s 5) (.cons (.s 6) (.cons (.d .i) (.cons (.d .i) (.cons (.d .i) (.cons (.s 7) (.cons (.d .i) (.cons (.d .i) (.nil))))))))))))))) (.nil))))))))))),(1,.row 118 Yl),(2,.row 121 Yo),(3,.row 126 Vn),(4,.row 231 Y2),(5,.row 33 Jy),(6,.row 35 Q7),(7,.row 76 Ju)]⟩
def Jdd:An:=.t 1 (.two (.reg (.n 1 (.call 0 (.n 1 .done)))) (.nil))
def Jde:Shp:=⟨[(0,.p 5000 [])],[(5000,.var 99 (.p 5001 [])),(5001,.var 114 (.ag (.cons (.d Jt) (.cons (.d Q3) (.cons (.d Qk) (.cons (.ag (.cons (.d Qp) (.cons (.d .str) (.cons (.s 5002) (.cons (.d .bool) (.cons (.d .bool) (.nil))))))) (.cons (.ag (.cons (.d .i) (.cons (.d .i) (.cons (.d .i) (.cons (.d .bool) (.cons (.d .bool) (.cons (.s 5003) (.nil)))))))) (.cons (.ag (.cons (.d .str) (.cons (.d .i) (.cons (.d .bool) (.cons (.s 5004) (.cons (.s 5005) (.cons (.s 5006) (.cons (.s 5007) (.nil))))))))) (.cons (.d .i) (.cons (.ag (.cons (.d Qk) (.cons (.d .i) (.cons (.d .str) (.cons (.d .i) (.cons (.d .str) (.cons (.s 5008) (.cons (.s 5009) (.cons (.d .i) (.cons (.d .i) (.cons (.d .i) (.cons (.s 5010) (.cons (.d .i) (.cons (.d .i) (.nil))))))))))))))) (.nil))))))))))),(5002,.row 9 .str),(5003,.row 3 .i),(5004,.row 118 Yl),(5005,.row 121 Yo),(5006,.row 126 Vn),(5007,.row 231 Y2),(5008,.row 33 Jy),(5009,.row 35 Q7),(5010,.row 76 Ju)]⟩
def Q0e:Shp:=⟨[(0,.d .i)],[(5001,.var 114 (.ag (.cons (.d Jt) (.cons (.d Q3) (.cons (.d Qk) (.cons (.d Jo) (.cons (.d Qx) (.cons (.ag (.cons (.d .str) (.cons (.d .i) (.cons (.d .bool) (.cons (.s 1) (.cons (.s 2) (.cons (.s 3) (.cons (.s 4) (.nil))))))))) (.cons (.d .i) (.cons (.ag (.cons (.d Qk) (.cons (.d .i) (.cons (.d .str) (.cons (.d .i) (.cons (.d .str) (.cons (.s 5) (.cons (.s 6) (.cons (.d .i) (.cons (.d .i) (.cons (.d .i) (.cons (.s 7) (.cons (.d .i) (.cons (.d .i) (.nil))))))))))))))) (.nil))))))))))),(1,.row 118 Yl),(2,.row 121 Yo),(3,.row 126 Vn),(4,.row 231 Y2),(5,.row 33 Jy),(6,.row 35 Q7),(7,.row 76 Ju)]⟩
def Jdf:An:=.t 2 (.two (.reg (.n 1 (.call 0 (.n 1 .done)))) (.nil))
def Jdg:Shp:=⟨[(0,.f 48 (.cons (.p 5000 []) (.nil))),(1,.p 5011 [])],[(5000,.var 99 (.p 5001 [])),(5001,.var 114 (.ag (.cons (.d Jt) (.cons (.d Q3) (.cons (.d Qk) (.cons (.ag (.cons (.d Qp) (.cons (.d .str) (.cons (.s 5002) (.cons (.d .bool) (.cons (.d .bool) (.nil))))))) (.cons (.ag (.cons (.d .i) (.cons (.d .i) (.cons (.d .i) (.cons (.d .bool) (.cons (.d .bool) (.cons (.s 5003) (.nil)))))))) (.cons (.ag (.cons (.d .str) (.cons (.d .i) (.cons (.d .bool) (.cons (.s 5004) (.cons (.s 5005) (.cons (.s 5006) (.cons (.s 5007) (.nil))))))))) (.cons (.d .i) (.cons (.ag (.cons (.d Qk) (.cons (.d .i) (.cons (.d .str) (.cons (.d .i) (.cons (.d .str) (.cons (.s 5008) (.cons (.s 5009) (.cons (.d .i) (.cons (.d .i) (.cons (.d .i) (.cons (.s 5010) (.cons (.d .i) (.cons (.d .i) (.nil))))))))))))))) (.nil))))))))))),(5002,.row 9 .str),(5003,.row 3 .i),(5004,.row 118 Yl),(5005,.row 121 Yo),(5006,.row 126 Vn),(5007,.row 231 Y2),(5008,.row 33 Jy),(5009,.row 35 Q7),(5010,.row 76 Ju),(5011,.var 24 (.d .i))]⟩
def Q0f:Shp:=⟨[],[(5001,.var 114 (.ag (.cons (.d Jt) (.cons (.d Q3) (.cons (.d Qk) (.cons (.ag (.cons (.d Qp) (.cons (.d .str) (.cons (.d (.sl .str)) (.cons (.d .bool) (.cons (.d .bool) (.nil))))))) (.cons (.ag (.cons (.d .i) (.cons (.d .i) (.cons (.d .i) (.cons (.d .bool) (.cons (.d .bool) (.cons (.d (.sl .i)) (.nil)))))))) (.cons (.ag (.cons (.d .str) (.cons (.d .i) (.cons (.d .bool) (.cons (.s 1) (.cons (.s 2) (.cons (.s 3) (.cons (.s 4) (.nil))))))))) (.cons (.d .i) (.cons (.ag (.cons (.d Qk) (.cons (.d .i) (.cons (.d .str) (.cons (.d .i) (.cons (.d .str) (.cons (.s 5) (.cons (.s 6) (.cons (.d .i) (.cons (.d .i) (.cons (.d .i) (.cons (.s 7) (.cons (.d .i) (.cons (.d .i) (.nil))))))))))))))) (.nil))))))))))),(5011,.var 24 (.d .i)),(1,.row 118 Yl),(2,.row 121 Yo),(3,.row 126 Vn),(4,.row 231 Y2),(5,.row 33 Jy),(6,.row 35 Q7),(7,.row 76 Ju)]⟩
def Q0g:An:=.t 1 (.t 3 (.nil))
def Q0h:Shp:=⟨[(0,.d (.sl .str))],[]⟩
def Qtt:Shp:=⟨[(0,.d (.sl .str))],[]⟩
def Q0i:An:=.t 1 (.t 3 (.nil))
def Q0j:Shp:=⟨[(0,.d (.sl Gb))],[]⟩
def Qtu:Shp:=⟨[(0,.d (.sl Gb))],[]⟩
def Q0k:An:=.t 1 (.t 3 (.nil))
def Q0l:Shp:=⟨[(0,.d (.sl Kr))],[]⟩
def Qtv:Shp:=⟨[(0,.s 1)],[(1,.row 123 Kr)]⟩
def Jdh:An:=.t 2 (.t 3 (.t 8 (.two (.t 4 (.un (.lp [1,2,18,19] [1,2] ⟨[(3,.p 100000 []),(20,.d .i)],[(100000,.var 112 (.ag (.cons (.d .str) (.cons (.d .i) (.cons (.d .bool) (.cons (.s 100001) (.cons (.ns) (.cons (.ns) (.cons (.ns) (.nil)))))))))),(100001,.row 118 Yl)]⟩ [(.x 0,⟨[(3,.p 100100 [])],[(100100,.var 112 (.ag (.cons (.d .str) (.cons (.d .i) (.cons (.d .bool) (.cons (.s 100101) (.cons (.ns) (.cons (.ns) (.cons (.ns) (.nil)))))))))),(100101,.row 118 Yl)]⟩)] (.t 1 (.two (.two (.nil) (.nil)) (.two (.un (.t 4 (.dm 9 [24,25,26,27,28,29,30,31,32] [] (.n 6 (.call 0 (.n 2 (.tl (.n 3 .done)))))))) (.reg (.n 2 .done)))))))) (.two (.t 4 (.un (.lp [1,2,37,38] [1,2] ⟨[(3,.p 100200 []),(39,.d .i)],[(100200,.var 112 (.ag (.cons (.d .str) (.cons (.d .i) (.cons (.d .bool) (.cons (.s 100201) (.cons (.s 100202) (.cons (.ns) (.cons (.ns) (.nil)))))))))),(100201,.row 118 Yl),(100202,.row 121 Yo)]⟩ [(.x 2,⟨[(3,.p 100300 [])],[(100300,.var 112 (.ag (.cons (.d .str) (.cons (.d .i) (.cons (.d .bool) (.cons (.s 100301) (.cons (.s 100302) (.cons (.ns) (.cons (.ns) (.nil)))))))))),(100301,.row 118 Yl),(100302,.row 121 Yo)]⟩)] (.t 1 (.two (.two (.nil) (.nil)) (.two (.un (.t 4 (.dm 9 [43,44,45,46,47,48,49,50,51] [] (.n 6 (.call 1 (.n 2 (.tl (.n 3 .done)))))))) (.reg (.n 2 .done)))))))) (.two (.t 4 (.un (.lp [1,2,56,57] [1,2] ⟨[(3,.p 100400 []),(58,.d .i)],[(100400,.var 112 (.ag (.cons (.d .str) (.cons (.d .i) (.cons (.d .bool) (.cons (.s 100401) (.cons (.s 100402) (.cons (.s 100403) (.cons (.ns) (.nil)))))))))),(100401,.row 118 Yl),(100402,.row 121 Yo),(100403,.row 126 Vn)]⟩ [(.x 4,⟨[(3,.p 100500 [])],[(100500,.var 112 (.ag (.cons (.d .str) (.cons (.d .i) (.cons (.d .bool) (.cons (.s 100501) (.cons (.s 100502) (.cons (.s 100503) (.cons (.ns) (.nil)))))))))),(100501,.row 118 Yl),(100502,.row 121 Yo),(100503,.row 126 Vn)]⟩)] (.t 1 (.two (.two (.nil) (.nil)) (.two (.un (.t 4 (.two (.reg (.n 2 (.call 2 (.n 2 .done)))) (.reg (.n 3 (.fz 16401 (.n 4 .done))))))) (.reg (.n 2 .done)))))))) (.two (.t 4 (.un (.lp [2,3,75,76] [1,2,100500,100501,100502,100503] ⟨[],[]⟩ [(.x 6,⟨[],[]⟩)] (.t 1 (.two (.two (.gh (.tl .done) .nil) (.nil)) (.nil)))))) (.t 2 (.nil))))))))
def Jdi:Shp:=⟨[(0,.d Jq)],[]⟩
def Q0m:Shp:=⟨[(0,.ag (.cons (.d .str) (.cons (.d .i) (.cons (.d .bool) (.cons (.s 1) (.cons (.s 2) (.cons (.s 3) (.cons (.ns) (.nil)))))))))],[(1,.row 118 Yl),(2,.row 121 Yo),(3,.row 126 Vn)]⟩
def Jdj:An:=.t 2 (.t 1 (.two (.t 3 (.un (.lp [0,1,2,6,11,12] [6] ⟨[(8,.d .i),(13,.d .i)],[]⟩ [(.x 0,⟨[(8,.d .i)],[]⟩)] (.t 1 (.two (.two (.nil) (.nil)) (.two (.un (.t 6 (.t 10 (.t 2 (.gh (.tl .done) .nil))))) (.reg (.n 2 .done)))))))) (.two (.t 2 (.two (.gh (.tl .done) .nil) (.nil))) (.two (.reg (.n 4 (.call 0 (.n 2 .done)))) (.nil)))))
def Jdk:Shp:=⟨[(0,.d (.sl Jq)),(1,.d .str),(2,.d .i)],[]⟩
def Q0n:Shp:=⟨[(0,.d Jq),(1,.d .bool)],[]⟩
def Q0o:An:=.t 1 (.two (.t 3 (.un (.lp [0,6] [] ⟨[(7,.d .i)],[]⟩ [(.x 0,⟨[],[]⟩)] (.t 1 (.two (.two (.nil) (.nil)) (.two (.un (.t 2 (.t 4 (.t 22 (.two (.gh (.tl .done) .nil) (.nil)))))) (.reg (.n 2 .done)))))))) (.t 9 (.nil)))
def Q0p:Shp:=⟨[(0,.d .str)],[]⟩
def Qtw:Shp:=⟨[(0,.d .bool)],[]⟩
def Q0q:An:=.t 1 (.two (.t 3 (.un (.lp [7,8] [] ⟨[],[]⟩ [(.x 0,⟨[],[]⟩)] (.t 1 (.two (.two (.gh (.tl .done) .nil) (.nil)) (.nil)))))) (.t 1 (.nil)))
def Q0r:Shp:=⟨[(0,.d (.sl Yl)),(1,.f 140 (.cons (.p 5000 []) (.nil)))],[(5000,.var 118 (.d Yl))]⟩
def Qtx:Shp:=⟨[(0,.d .i)],[]⟩
def Q0s:An:=.t 1 (.two (.reg (.n 2 (.call 0 (.n 2 .done)))) (.nil))
def Q0t:Shp:=⟨[(0,.d (.sl Yl)),(1,.f 140 (.cons (.p 5000 []) (.nil)))],[(5000,.var 118 (.d Yl))]⟩
def Qty:Shp:=⟨[(0,.d .bool)],[]⟩
def Q0u:An:=.t 1 (.t 7 (.nil))
def Q0v:Shp:=⟨[(0,.d (.int .u8))],[]⟩
def Qtz:Shp:=⟨[(0,.d .bool)],[]⟩
def Jdl:An:=.t 1 (.two (.t 3 (.un (.lp [0,5] [] ⟨[(6,.d .i)],[]⟩ [(.x 0,⟨[],[]⟩)] (.t 1 (.two (.two (.nil) (.nil)) (.two (.un (.t 2 (.two (.reg (.n 3 (.call 0 (.n 1 .done)))) (.two (.gh (.tl .done) .nil) (.nil))))) (.reg (.n 2 .done)))))))) (.t 9 (.nil)))
def Jdm:Shp:=⟨[(0,.d .str)],[]⟩
def Q0w:Shp:=⟨[(0,.d .bool)],[]⟩
def Jdn:An:=.t 2 (.two (.t 3 (.two (.gh (.tl .done) .nil) (.nil))) (.t 2 (.two (.t 3 (.un (.lp [0,15,16] [] ⟨[(4,.m 100000),(17,.d .i)],[(100000,.map .str .str)]⟩ [(.x 0,⟨[(4,.m 100300)],[(100300,.map .str .str)]⟩)] (.t 1 (.two (.two (.nil) (.nil)) (.two (.un (.t 6 (.two (.un (.two (.reg (.n 2 (.call 0 (.n 2 .done)))) (.two (.gh (.tl .done) .nil) (.two (.reg (.n 4 (.call 1 (.n 1 .done)))) (.two (.gh (.tl .done) .nil) (.t 5 (.two (.gh (.tl .done) .nil) (.t 5 (.two (.gh (.tl .done) .nil) (.nil)))))))))) (.t 4 (.un (.lp [6,17,44,45] [6] ⟨[(4,.m 100100),(46,.d .i)],[(100100,.map .str .str)]⟩ [(.x 3,⟨[(4,.m 100200)],[(100200,.map .str .str)]⟩)] (.t 1 (.two (.two (.nil) (.nil)) (.two (.un (.t 3 (.two (.two (.reg (.n 1 (.call 2 (.n 1 .done)))) (.two (.gh (.tl .done) .nil) (.nil))) (.two (.t 8 (.t 1 (.two (.gh (.tl .done) .nil) (.nil)))) (.reg (.n 5 .done)))))) (.reg (.n 2 .done))))))))))) (.reg (.n 2 .done)))))))) (.t 3 (.nil)))))
def Jdo:Shp:=⟨[(0,.d (.sl Yl))],[]⟩
def Q0x:Shp:=⟨[(0,.m 1),(1,.d .i)],[(1,.map .str .str)]⟩
def Jdp:An:=.t 2 (.two (.un (.lp [0,1] [] ⟨[(2,.d .i)],[]⟩ [(.r,⟨[(6,.d .str),(7,.d .bool)],[]⟩)] (.two (.t 2 (.two (.nil) (.gh (.tl .done) .nil))) (.two (.un (.t 10 (.t 1 (.two (.t 3 (.nil)) (.nil))))) (.reg (.n 3 .done)))))) (.nil))
def Jdq:Shp:=⟨[(0,.m 5000),(1,.d .str),(2,.d .i)],[(5000,.map .str .str)]⟩
def Q0y:Shp:=⟨[(0,.d .str),(1,.d .bool)],[]⟩
def Jdr:An:=.t 2 (.two (.reg (.n 1 (.call 0 (.n 5 .done)))) (.two (.two (.reg (.n 3 (.sp 15 4 [1,6] [11001] ⟨[(19,.d .bool)],[]⟩ (.nl 3 (.n 1 .done)) (.nl 1 (.call 1 (.nl 1 (.n 1 .done)))) (.done)))) (.two (.gh (.tl .done) .nil) (.nil))) (.two (.reg (.n 4 (.call 2 (.n 4 .done)))) (.nil))))
def Jds:Shp:=⟨[(0,.d (.sl Yl)),(1,.d .str)],[]⟩
def Q0z:Shp:=⟨[(0,.d .str),(1,.d .bool)],[]⟩
def Jdt:An:=.t 1 (.two (.dm 21 [6,7,8,9,10,11,12,13,14,15,16,17,18,19,20,21,5,22,23,3,1000000020] [] (.n 15 (.call 0 (.n 5 (.tl (.n 1 .done)))))) (.two (.t 2 (.two (.gh (.tl .done) .nil) (.nil))) (.t 5 (.two (.dm 10 [30,31,32,33,34,35,36,37,38,1000000009] [5000] (.n 10 (.tl (.n 4 .done)))) (.two (.dm 16 [43,44,45,46,47,48,49,50,51,42,52,53,54,55,56,1000000015] [5000] (.n 8 (.call 1 (.n 7 (.tl (.done)))))) (.t 1 (.nil)))))))
def Jdu:Shp:=⟨[(0,.p 5000 [])],[(5000,.var 114 (.ag (.cons (.d Jt) (.cons (.d Q3) (.cons (.d Qk) (.cons (.d Jo) (.cons (.d Qx) (.cons (.ag (.cons (.d .str) (.cons (.d .i) (.cons (.d .bool) (.cons (.s 5001) (.cons (.s 5002) (.cons (.s 5003) (.cons (.s 5004) (.nil))))))))) (.cons (.d .i) (.cons (.ag (.cons (.d Qk) (.cons (.d .i) (.cons (.d .str) (.cons (.d .i) (.cons (.d .str) (.cons (.s 5005) (.cons (.s 5006) (.cons (.d .i) (.cons (.d .i) (.cons (.d .i) (.cons (.s 5007) (.cons (.d .i) (.cons (.d .i) (.nil))))))))))))))) (.nil))))))))))),(5001,.row 118 Yl),(5002,.row 121 Yo),(5003,.row 126 Vn),(5004,.row 231 Y2),(5005,.row 33 Jy),(5006,.row 35 Q7),(5007,.row 76 Ju)]⟩
def Q00:Shp:=⟨[(0,.d .i)],[(5000,.var 114 (.ag (.cons (.d Jt) (.cons (.d Q3) (.cons (.d Qk) (.cons (.d Jo) (.cons (.d Qx) (.cons (.d Jq) (.cons (.d .i) (.cons (.ag (.cons (.d Qk) (.cons (.d .i) (.cons (.d .str) (.cons (.d .i) (.cons (.d .str) (.cons (.s 1) (.cons (.s 2) (.cons (.d .i) (.cons (.d .i) (.cons (.d .i) (.cons (.s 3) (.cons (.d .i) (.cons (.d .i) (.nil))))))))))))))) (.nil))))))))))),(1,.row 33 Jy),(2,.row 35 Q7),(3,.row 76 Ju)]⟩
def Jdv:An:=.t 1 (.two (.reg (.n 1 (.call 0 (.n 1 .done)))) (.nil))
def Jdw:Shp:=⟨[(0,.p 5000 [])],[(5000,.var 99 (.p 5001 [])),(5001,.var 114 (.ag (.cons (.d Jt) (.cons (.d Q3) (.cons (.d Qk) (.cons (.d Jo) (.cons (.d Qx) (.cons (.ag (.cons (.d .str) (.cons (.d .i) (.cons (.d .bool) (.cons (.s 5002) (.cons (.s 5003) (.cons (.s 5004) (.cons (.s 5005) (.nil))))))))) (.cons (.d .i) (.cons (.ag (.cons (.d Qk) (.cons (.d .i) (.cons (.d .str) (.cons (.d .i) (.cons (.d .str) (.cons (.s 5006) (.cons (.s 5007) (.cons (.d .i) (.cons (.d .i) (.cons (.d .i) (.cons (.s 5008) (.cons (.d .i) (.cons (.d .i) (.nil))))))))))))))) (.nil))))))))))),(5002,.row 118 Yl),(5003,.row 121 Yo),(5004,.row 126 Vn),(5005,.row 231 Y2),(5006,.row 33 Jy),(5007,.row 35 Q7),(5008,.row 76 Ju)]⟩
def Q01:Shp:=⟨[(0,.d .i)],[(5001,.var 114 (.ag (.cons (.d Jt) (.cons (.d Q3) (.cons (.d Qk) (.cons (.d Jo) (.cons (.d Qx) (.cons (.d Jq) (.cons (.d .i) (.cons (.ag (.cons (.d Qk) (.cons (.d .i) (.cons (.d .str) (.cons (.d .i) (.cons (.d .str) (.cons (.s 1) (.cons (.s 2) (.cons (.d .i) (.cons (.d .i) (.cons (.d .i) (.cons (.s 3) (.cons (.d .i) (.cons (.d .i) (.nil))))))))))))))) (.nil))))))))))),(1,.row 33 Jy),(2,.row 35 Q7),(3,.row 76 Ju)]⟩
def Qpy:An:=.t 2 (.two (.reg (.n 1 (.call 0 (.n 1 .done)))) (.nil))
def Qpz:Shp:=⟨[(0,.f 50 (.cons (.p 5000 []) (.nil))),(1,.p 5009 [])],[(5000,.var 99 (.p 5001 [])),(5001,.var 114 (.ag (.cons (.d Jt) (.cons (.d Q3) (.cons (.d Qk) (.cons (.d Jo) (.cons (.d Qx) (.cons (.ag (.cons (.d .str) (.cons (.d .i) (.cons (.d .bool) (.cons (.s 5002) (.cons (.s 5003) (.cons (.s 5004) (.cons (.s 5005) (.nil))))))))) (.cons (.d .i) (.cons (.ag (.cons (.d Qk) (.cons (.d .i) (.cons (.d .str) (.cons (.d .i) (.cons (.d .str) (.cons (.s 5006) (.cons (.s 5007) (.cons (.d .i) (.cons (.d .i) (.cons (.d .i) (.cons (.s 5008) (.cons (.d .i) (.cons (.d .i) (.nil))))))))))))))) (.nil))))))))))),(5002,.row 118 Yl),(5003,.row 121 Yo),(5004,.row 126 Vn),(5005,.row 231 Y2),(5006,.row 33 Jy),(5007,.row 35 Q7),(5008,.row 76 Ju),(5009,.var 24 (.d .i))]⟩
def Qjr:Shp:=⟨[],[(5001,.var 114 (.ag (.cons (.d Jt) (.cons (.d Q3) (.cons (.d Qk) (.cons (.d Jo) (.cons (.d Qx) (.cons (.ag (.cons (.d .str) (.cons (.d .i) (.cons (.d .bool) (.cons (.d (.sl Yl)) (.cons (.d (.sl Yo)) (.cons (.d (.sl Vn)) (.cons (.d (.sl Y2)) (.nil))))))))) (.cons (.d .i) (.cons (.ag (.cons (.d Qk) (.cons (.d .i) (.cons (.d .str) (.cons (.d .i) (.cons (.d .str) (.cons (.s 1) (.cons (.s 2) (.cons (.d .i) (.cons (.d .i) (.cons (.d .i) (.cons (.s 3) (.cons (.d .i) (.cons (.d .i) (.nil))))))))))))))) (.nil))))))))))),(5009,.var 24 (.d .i)),(1,.row 33 Jy),(2,.row 35 Q7),(3,.row 76 Ju)]⟩
def Q02:An:=.t 1 (.t 1 (.two (.t 3 (.un (.lp [6,7] [] ⟨[(3,.s 100000),(8,.d .i)],[(100000,.row 142 Qy)]⟩ [(.x 0,⟨[(3,.s 100100)],[(100100,.row 142 Qy)]⟩)] (.t 1 (.two (.two (.nil) (.nil)) (.two (.un (.t 4 (.t 5 (.reg (.n 2 (.fz 14 (.n 3 .done))))))) (.reg (.n 2 .done)))))))) (.t 2 (.nil))))
def Q03:Shp:=⟨[(0,.d (.sl Qy))],[]⟩
def Qt0:Shp:=⟨[(0,.d (.sl Qy))],[]⟩
def Jdx:An:=.t 2 (.two (.dm 8 [3,4,5,6,7,8,9,10] [] (.n 2 (.call 0 (.n 5 (.tl (.n 3 .done)))))) (.nil))
def Jdy:Shp:=⟨[(0,.d Q3)],[]⟩
def Q04:Shp:=⟨[(0,.ag (.cons (.d (.sl Qy)) (.cons (.s 1) (.cons (.s 2) (.nil)))))],[(1,.row 71 Jp),(2,.row 73 Je)]⟩
def Jdz:An:=.t 1 (.two (.t 3 (.un (.lp [1,2,9,10,11] [] ⟨[],[]⟩ [(.r,⟨[(6,.d .bool)],[]⟩)] (.t 1 (.two (.two (.nil) (.gh (.tl .done) .nil)) (.two (.un (.t 4 (.t 15 (.two (.t 4 (.nil)) (.gh (.tl .done) .nil))))) (.nil))))))) (.nil))
def Jd0:Shp:=⟨[(0,.d (.sl Yh)),(1,.d .i),(2,.d .i)],[]⟩
def Q05:Shp:=⟨[(0,.d .bool)],[]⟩
def Q06:An:=.t 1 (.t 2 (.two (.t 3 (.un (.lp [9,10] [] ⟨[(3,.m 100000),(11,.d .i)],[(100000,.map .i .i)]⟩ [(.x 0,⟨[(3,.m 100100)],[(100100,.map .i .i)]⟩)] (.t 1 (.two (.two (.nil) (.nil)) (.two (.un (.t 6 (.t 9 (.t 2 (.t 5 (.gh (.tl .done) .nil)))))) (.reg (.n 2 .done)))))))) (.t 2 (.nil))))
def Q07:Shp:=⟨[(0,.d (.sl Jp))],[]⟩
def Qt1:Shp:=⟨[(0,.m 1)],[(1,.map .i .i)]⟩
def Jd1:An:=.t 2 (.two (.two (.reg (.n 1 (.call 0 (.n 7 .done)))) (.t 1 (.two (.t 5 (.nil)) (.nil)))) (.t 1 (.two (.un (.lp [0,1,8] [11201] ⟨[],[]⟩ [(.x 0,⟨[],[]⟩)] (.two (.two (.reg (.n 5 (.sp 25 8 [] [] ⟨[(33,.d .bool)],[]⟩ (.tl .done) (.nl 7 (.n 1 .done)) (.done)))) (.two (.gh (.tl .done) .nil) (.nil))) (.nil)))) (.t 5 (.t 6 (.t 8 (.nil)))))))
def Jd2:Shp:=⟨[(0,.d (.sl Jp)),(1,.d .i)],[]⟩
def Q08:Shp:=⟨[(0,.s 1),(1,.d .i)],[(1,.row 71 Jp)]⟩
def Q09:An:=.t 1 (.t 9 (.nil))
def Q1a:Shp:=⟨[(0,.d .i),(1,.d .i),(2,.d .i)],[]⟩
def Qt2:Shp:=⟨[(0,.d .bool)],[]⟩
def Q1b:An:=.t 1 (.t 7 (.nil))
def Q1c:Shp:=⟨[(0,.d .i)],[]⟩
def Qt3:Shp:=⟨[(0,.d .bool)],[]⟩
def Q1d:An:=.t 2 (.two (.un (.two (.reg (.n 2 (.call 0 (.n 2 (.sp 8 5 [1] [1] ⟨[(13,.d .bool)],[]⟩ (.nl 4 (.n 1 .done)) (.nl 2 (.call 1 (.nl 1 (.n 1 .done)))) (.n 1 (.sp 14 5 [1] [1] ⟨[(19,.d .bool)],[]⟩ (.nl 4 (.n 1 .done)) (.nl 2 (.call 0 (.nl 1 (.n 1 .done)))) (.n 1 .done)))))))) (.two (.gh (.tl .done) .nil) (.two (.reg (.n 2 (.call 0 (.n 2 (.sp 25 5 [1] [1] ⟨[(30,.d .bool)],[]⟩ (.nl 4 (.n 1 .done)) (.nl 2 (.call 0 (.nl 1 (.n 1 .done)))) (.n 1 .done)))))) (.two (.gh (.tl .done) .nil) (.t 9 (.two (.gh (.tl .done) .nil) (.nil)))))))) (.t 1 (.nil)))
def Q1e:Shp:=⟨[(0,.d Jp)],[]⟩
def Qt4:Shp:=⟨[(0,.d .i)],[]⟩
def Jd3:An:=.t 3 (.two (.two (.reg (.n 1 (.call 0 (.n 1 .done)))) (.t 2 (.two (.gh (.tl .done) .nil) (.nil)))) (.two (.two (.reg (.n 1 (.call 1 (.n 2 (.sp 19 7 [1,2,4] [2,4] ⟨[(26,.d .bool)],[]⟩ (.nl 6 (.n 1 .done)) (.nl 4 (.call 2 (.nl 1 (.n 1 .done)))) (.done)))))) (.two (.gh (.tl .done) .nil) (.nil))) (.t 6 (.t 3 (.nil)))))
def Jd4:Shp:=⟨[(0,.d Jp),(1,.d .i)],[]⟩
def Q1f:Shp:=⟨[(0,.d Jp),(1,.d .i)],[]⟩
def Jd5:An:=.t 1 (.t 2 (.t 2 (.gh (.tl .done) .nil)))
def Jd6:Shp:=⟨[(0,.d Jp),(1,.d .i),(2,.p 5000 [])],[(5000,.var 71 (.d Jp))]⟩
def Q1g:Shp:=⟨[],[(5000,.var 71 (.d Jp))]⟩
def Jd7:An:=.t 2 (.two (.reg (.n 1 (.call 0 (.n 2 .done)))) (.two (.two (.reg (.n 7 (.sp 24 6 [0,2,3,8,9] [5,8,9,11701,11702] ⟨[(30,.d .bool)],[]⟩ (.nl 5 (.n 1 .done)) (.nl 3 (.call 1 (.nl 1 (.n 1 .done)))) (.done)))) (.two (.gh (.tl .done) .nil) (.nil))) (.two (.reg (.n 3 (.call 2 (.n 5 .done)))) (.t 6 (.t 2 (.two (.t 3 (.un (.lp [2,3,8,9,10,11,44,45] [5,8,9,11701,11702,13601] ⟨[(12,.p 100100 []),(13,.f 92 (.cons (.p 100100 []) (.nil))),(46,.d .i)],[(100100,.var 71 (.d Jp))]⟩ [(.x 0,⟨[(12,.p 100400 [])],[(100400,.var 71 (.d Jp))]⟩)] (.t 1 (.two (.two (.nil) (.nil)) (.two (.jn [46] [] [(.n,⟨[(12,.p 100300 []),(13,.f 92 (.cons (.p 100300 []) (.nil)))],[(100300,.var 71 (.d Jp))]⟩)] (.un (.t 4 (.two (.two (.dr 20 (.n 5 (.sp 54 9 [12,13,15,46] [15,100100] ⟨[(63,.d .bool)],[]⟩ (.nl 8 (.n 1 .done)) (.nl 8 (.n 1 .done)) (.n 6 .done))) (.done)) (.two (.nil) (.nil))) (.t 2 (.un (.t 2 (.two (.reg (.n 4 (.call 3 (.n 2 (.call 4 (.done)))))) (.t 2 (.two (.gh (.tl .done) .nil) (.nil))))))))))) (.reg (.n 2 .done)))))))) (.t 6 (.t 5 (.t 3 (.t 2 (.nil)))))))))))
def Jd8:Shp:=⟨[(0,.d (.sl Yh)),(1,.d Q3),(2,.d .i),(3,.d .i)],[]⟩
def Q1h:Shp:=⟨[(0,.d Q3)],[]⟩
def Jd9:An:=.t 2 (.t 5 (.t 2 (.nil)))
def Jea:Shp:=⟨[(0,.d Qy)],[]⟩
def Q1i:Shp:=⟨[(0,.d Qy)],[]⟩
def Qp0:An:=.t 2 (.t 5 (.t 2 (.nil)))
def Qp1:Shp:=⟨[(0,.d Qy)],[]⟩
def Qjs:Shp:=⟨[(0,.ag (.cons (.d .i) (.cons (.d .i) (.cons (.d .str) (.cons (.d .i) (.cons (.d .i) (.cons (.s 1) (.cons (.d Qp) (.cons (.d .i) (.cons (.d .i) (.cons (.d .i) (.cons (.d .bool) (.nil)))))))))))))],[(1,.row 9 .str)]⟩
def Jeb:An:=.t 2 (.t 11 (.nil))
def Jec:Shp:=⟨[(0,.d Qy)],[]⟩
def Q1j:Shp:=⟨[(0,.d J5)],[]⟩
def Jed:An:=.t 1 (.two (.t 3 (.un (.lp [1,7,8,9] [] ⟨[],[]⟩ [(.r,⟨[(4,.d .i)],[]⟩)] (.t 1 (.two (.two (.nil) (.gh (.tl .done) .nil)) (.two (.un (.t 4 (.t 9 (.two (.t 3 (.nil)) (.gh (.tl .done) .nil))))) (.nil))))))) (.nil))
def Jee:Shp:=⟨[(0,.d (.sl Yh)),(1,.d .i)],[]⟩
def Q1k:Shp:=⟨[(0,.d .i)],[]⟩
def Q1l:An:=.t 2 (.two (.t 4 (.un (.lp [1,7,8,9] [2] ⟨[],[]⟩ [(.r,⟨[(3,.d .bool)],[]⟩)] (.t 1 (.two (.two (.nil) (.gh (.tl .done) .nil)) (.two (.un (.t 3 (.t 3 (.two (.t 1 (.nil)) (.gh (.tl .done) .nil))))) (.nil))))))) (.nil))
def Q1m:Shp:=⟨[(0,.d Jo),(1,.p 5000 [])],[(5000,.var 9 (.d .str))]⟩
def Qt5:Shp:=⟨[(0,.d .bool)],[]⟩
def Q1n:An:=.t 1 (.t 1 (.two (.t 3 (.un (.lp [1,11,12] [] ⟨[(7,.s 100000),(13,.d .i)],[(100000,.row 101 Qp)]⟩ [(.x 0,⟨[(7,.s 100100)],[(100100,.row 101 Qp)]⟩)] (.t 1 (.two (.two (.nil) (.nil)) (.two (.un (.t 4 (.t 3 (.two (.dm 10 [19,20,21,22,23,24,25,26,27,28] [] (.n 3 (.so 21 (.tl .done) (.n 7 (.tl (.nl 1 (.n 1 .done))))))) (.two (.nil) (.reg (.n 5 .done))))))) (.reg (.n 2 .done)))))))) (.t 2 (.nil))))
def Q1o:Shp:=⟨[(0,.d (.sl Qp)),(1,.f 210 (.nil)),(2,.f 211 (.nil))],[]⟩
def Qt6:Shp:=⟨[(0,.s 1)],[(1,.row 101 Qp)]⟩
def Q1p:An:=.t 1 (.t 1 (.two (.two (.reg (.n 2 (.call 0 (.n 2 .done)))) (.un (.lp [2,12,13] [11201] ⟨[(7,.s 100000),(14,.d .i)],[(100000,.row 101 Qp)]⟩ [(.x 0,⟨[(7,.s 100100)],[(100100,.row 101 Qp)]⟩)] (.t 1 (.two (.two (.nil) (.nil)) (.two (.un (.t 4 (.two (.reg (.n 2 (.call 1 (.done)))) (.t 6 (.gh (.tl .done) .nil))))) (.reg (.n 2 .done)))))))) (.two (.reg (.n 1 (.call 2 (.n 1 .done)))) (.nil))))
def Q1q:Shp:=⟨[(0,.d (.sl Yh)),(1,.d .i),(2,.f 185 (.cons (.p 5000 []) (.nil)))],[(5000,.var 9 (.d .str))]⟩
def Qt7:Shp:=⟨[(0,.s 1)],[(1,.row 101 Qp)]⟩
def Q1r:An:=.t 2 (.two (.reg (.n 3 (.call 0 (.n 1 .done)))) (.nil))
def Q1s:Shp:=⟨[(0,.d (.sl Yh)),(1,.d .i),(2,.d .str)],[]⟩
def Qt8:Shp:=⟨[(0,.d (.sl Qp))],[]⟩
def Jef:An:=.t 1 (.t 2 (.two (.reg (.br (.n 1 .done))) (.t 1 (.two (.t 3 (.un (.lp [0,1,15,16] [] ⟨[(5,.m 100000),(6,.m 100001),(7,.s 100002),(17,.d .i)],[(100000,.map .i .bool),(100001,.mapO .str),(100002,.row 209 V4)]⟩ [(.x 0,⟨[(7,.s 100700)],[(100700,.row 209 V4)]⟩)] (.t 1 (.two (.two (.nil) (.nil)) (.two (.jn [17] [] [(.n,⟨[(5,.m 100600),(6,.m 100601),(7,.s 100602)],[(100600,.map .i .bool),(100601,.mapO .str),(100602,.row 209 V4)]⟩)] (.un (.t 4 (.two (.jn [6,7,9,17] [9,100001,100002] [(.n,⟨[(5,.m 100100)],[(100100,.map .i .bool)]⟩)] (.t 9 (.t 4 (.nil)))) (.two (.two (.reg (.n 11 (.sp 43 8 [5,6,7,9,17] [9,100001,100002,100100] ⟨[(51,.d .bool)],[]⟩ (.nl 7 (.n 1 .done)) (.nl 3 (.br (.nl 2 (.br (.n 1 .done))))) (.done)))) (.two (.nil) (.nil))) (.two (.two (.reg (.n 3 (.br (.n 1 .done)))) (.two (.reg (.n 4 (.br (.done)))) (.nil))) (.two (.reg (.n 3 (.br (.n 3 .done)))) (.two (.dm 13 [67,68,69,70,71,72,73,74,75,76,77,78,10] [] (.n 10 (.call 0 (.n 2 (.tl (.n 1 .done)))))) (.t 1 (.two (.un (.lp [5,6,7,10,11,17] [9,10,60,100001,100002,100100] ⟨[],[]⟩ [(.x 2,⟨[],[]⟩)] (.two (.two (.jn [] [] [(.n,⟨[(90,.d .bool)],[]⟩)] (.dm 10 [79,80,81,82,83,84,85,86,87,88] [] (.n 5 (.so 83 (.tl .done) (.n 5 (.tl (.nl 1 (.n 1 .done)))))))) (.two (.gh (.tl .done) .nil) (.nil))) (.nil)))) (.two (.reg (.n 2 (.fz 100002 (.n 3 .done)))) (.t 5 (.reg (.n 6 .done)))))))))))))) (.reg (.n 2 .done)))))))) (.t 2 (.nil))))))
def Jeg:Shp:=⟨[(0,.d (.sl Yh)),(1,.d .i)],[]⟩
def Q1t:Shp:=⟨[(0,.s 1)],[(1,.row 209 V4)]⟩
def Q1u:An:=.t 4 (.t 13 (.two (.two (.reg (.n 1 (.call 0 (.n 2 (.sp 21 4 [3,4,6] [2,3,4,6] ⟨[(25,.d .bool)],[]⟩ (.nl 3 (.n 1 .done)) (.nl 1 (.call 0 (.nl 1 (.n 1 .done)))) (.n 7 .done)))))) (.two (.gh (.tl .done) .nil) (.nil))) (.t 3 (.nil))))
def Q1v:Shp:=⟨[(0,.d Qp),(1,.d Qp)],[]⟩
def Qt9:Shp:=⟨[(0,.d Qp),(1,.d .bool)],[]⟩
def Q1w:An:=.t 1 (.t 3 (.t 3 (.two (.jn [] [] [(.n,⟨[(4,.d .i)],[]⟩)] (.t 2 (.t 15 (.nil)))) (.t 2 (.nil)))))
def Q1x:Shp:=⟨[(0,.d .i)],[]⟩
def Qua:Shp:=⟨[(0,.d .i)],[]⟩
def Q1y:An:=.t 1 (.t 14 (.nil))
def Q1z:Shp:=⟨[(0,.d .i)],[]⟩
def Qub:Shp:=⟨[(0,.d .bool)],[]⟩
def Q10:An:=.t 1 (.t 3 (.two (.two (.reg (.n 3 (.sp 9 3 [0,1,5] [5] ⟨[(12,.d .bool)],[]⟩ (.nl 1 (.call 0 (.n 1 .done))) (.nl 2 (.n 1 .done)) (.done)))) (.two (.t 1 (.nil)) (.nil))) (.t 5 (.nil))))
def Q11:Shp:=⟨[(0,.d .i),(1,.d .i)],[]⟩
def Quc:Shp:=⟨[(0,.d .i)],[]⟩
def Q12:An:=.t 1 (.two (.t 6 (.two (.gh (.tl .done) .nil) (.nil))) (.t 6 (.two (.un (.lp [0,2,3] [2,3] ⟨[],[]⟩ [(.x 0,⟨[],[]⟩)] (.two (.two (.reg (.n 3 (.call 0 (.n 2 .done)))) (.two (.gh (.tl .done) .nil) (.nil))) (.nil)))) (.two (.reg (.n 3 (.call 0 (.n 2 .done)))) (.two (.un (.lp [0,2,3] [2,3] ⟨[],[]⟩ [(.x 2,⟨[],[]⟩)] (.two (.two (.reg (.n 5 (.call 1 (.n 1 .done)))) (.two (.gh (.tl .done) .nil) (.nil))) (.nil)))) (.t 4 (.t 2 (.nil))))))))
def Q13:Shp:=⟨[(0,.d .i)],[]⟩
def Qud:Shp:=⟨[(0,.d Nv)],[]⟩
def Q14:An:=.t 1 (.two (.reg (.n 2 (.call 0 (.n 2 .done)))) (.t 9 (.two (.t 4 (.two (.gh (.tl .done) .nil) (.nil))) (.t 2 (.nil)))))
def Q15:Shp:=⟨[(0,.d .i),(1,.d .i)],[]⟩
def Que:Shp:=⟨[(0,.d .i)],[]⟩
def Q16:An:=.t 1 (.two (.t 14 (.two (.gh (.tl .done) .nil) (.nil))) (.two (.reg (.n 2 (.call 0 (.n 1 .done)))) (.nil)))
def Q17:Shp:=⟨[(0,.d .i),(1,.d .i)],[]⟩
def Quf:Shp:=⟨[(0,.d .i)],[]⟩
def Q18:An:=.t 3 (.two (.two (.jn [1] [1] [(.n,⟨[(18,.d .bool)],[]⟩)] (.dm 11 [6,7,8,9,10,11,12,13,14,15,16] [] (.n 4 (.so 9 (.n 7 (.tl (.nl 1 (.n 1 .done)))) (.n 6 (.call 0 (.tl (.nl 1 (.n 1 .done))))))))) (.two (.gh (.tl .done) .nil) (.nil))) (.two (.dm 5 [19,20,21,22,23] [] (.n 2 (.call 1 (.n 2 (.tl (.n 3 .done)))))) (.two (.t 1 (.un (.lp [1] [1] ⟨[(4,.d .i),(5,.d .i)],[]⟩ [(.x 0,⟨[(4,.d .i)],[]⟩)] (.two (.t 4 (.two (.nil) (.nil))) (.two (.un (.reg (.n 4 (.call 2 (.n 2 .done))))) (.reg (.n 3 .done))))))) (.t 3 (.nil)))))
def Q19:Shp:=⟨[(0,.d Nv)],[]⟩
def Qug:Shp:=⟨[(0,.d .i),(1,.d .i)],[]⟩
def Q2a:An:=.t 1 (.two (.reg (.n 8 (.call 0 (.n 5 .done)))) (.two (.t 2 (.two (.gh (.tl .done) .nil) (.nil))) (.t 3 (.nil))))
def Q2b:Shp:=⟨[(0,.d .i),(1,.d .i)],[]⟩
def Quh:Shp:=⟨[(0,.d .i)],[]⟩
def Q2c:An:=.t 1 (.two (.reg (.n 3 (.call 0 (.n 3 .done)))) (.two (.t 2 (.two (.reg (.n 2 (.call 0 (.n 2 .done)))) (.gh (.tl .done) .nil))) (.t 2 (.nil))))
def Q2d:Shp:=⟨[(0,.d .i),(1,.d .i)],[]⟩
def Qui:Shp:=⟨[(0,.d Qp)],[]⟩
def Q2e:An:=.t 2 (.two (.t 23 (.two (.gh (.tl .done) .nil) (.nil))) (.t 1 (.two (.two (.reg (.n 3 (.call 0 (.n 1 .done)))) (.un (.lp [0,3] [3] ⟨[(5,.s 100000),(6,.d .i)],[(100000,.row 101 Qp)]⟩ [(.x 0,⟨[(5,.s 100100)],[(100100,.row 101 Qp)]⟩)] (.two (.two (.reg (.n 5 (.call 0 (.n 1 .done)))) (.two (.nil) (.nil))) (.two (.un (.reg (.n 3 (.call 1 (.n 3 .done))))) (.reg (.n 3 .done))))))) (.t 2 (.nil)))))
def Q2f:Shp:=⟨[(0,.d .i),(1,.d Qp)],[]⟩
def Quj:Shp:=⟨[(0,.d (.sl Qp))],[]⟩
def Qjt:An:=.t 2 (.two (.t 23 (.two (.gh (.tl .done) .nil) (.nil))) (.t 1 (.two (.two (.reg (.n 3 (.call 0 (.n 1 .done)))) (.un (.lp [0,3] [3] ⟨[(5,.s 100000),(6,.d .i)],[(100000,.row 101 Qp)]⟩ [(.x 0,⟨[(5,.s 100100)],[(100100,.row 101 Qp)]⟩)] (.two (.two (.reg (.n 5 (.call 0 (.n 1 .done)))) (.two (.nil) (.nil))) (.two (.un (.reg (.n 3 (.call 1 (.n 3 .done))))) (.reg (.n 3 .done))))))) (.t 2 (.nil)))))
def Qju:Shp:=⟨[(0,.d .i),(1,.d Qp)],[]⟩
def Qf3:Shp:=⟨[(0,.s 1)],[(1,.row 101 Qp)]⟩
def Qjv:An:=.t 1 (.two (.reg (.n 4 (.call 0 (.n 6 .done)))) (.t 1 (.two (.dm 4 [16,17,18,19] [] (.n 3 (.call 1 (.tl (.n 2 .done))))) (.gh (.tl .done) .nil))))
def Qjw:Shp:=⟨[(0,.d Qp),(1,.p 5000 []),(2,.p 5001 []),(3,.p 5003 [])],[(5000,.var 3 (.d .i)),(5001,.var 206 (.s 5002)),(5002,.row 101 Qp),(5003,.var 3 (.d .i))]⟩
def Qf4:Shp:=⟨[],[(5001,.var 206 (.s 1)),(1,.row 101 Qp)]⟩
def Q2g:An:=.t 3 (.un (.lp [1,7,8] [] ⟨[(2,.p 5000 []),(9,.d .i)],[(5000,.var 342 (.s 100001)),(100001,.row 344 J6)]⟩ [(.x 0,⟨[],[(5000,.var 342 (.s 100101)),(100101,.row 344 J6)]⟩)] (.t 1 (.two (.two (.nil) (.nil)) (.two (.un (.t 4 (.two (.reg (.n 1 (.call 0 (.done)))) (.t 12 (.gh (.tl .done) .nil))))) (.reg (.n 2 .done)))))))
def Q2h:Shp:=⟨[(0,.d (.sl Qp)),(1,.d .i),(2,.p 5000 [])],[(5000,.var 342 (.s 5001)),(5001,.row 344 J6)]⟩
def Quk:Shp:=⟨[],[(5000,.var 342 (.s 1)),(1,.row 344 J6)]⟩
def Qjx:An:=.t 3 (.un (.lp [1,7,8] [] ⟨[(2,.p 5000 []),(9,.d .i)],[(5000,.var 342 (.s 100001)),(100001,.row 344 J6)]⟩ [(.x 0,⟨[],[(5000,.var 342 (.s 100101)),(100101,.row 344 J6)]⟩)] (.t 1 (.two (.two (.nil) (.nil)) (.two (.un (.t 4 (.two (.reg (.n 1 (.call 0 (.done)))) (.t 12 (.gh (.tl .done) .nil))))) (.reg (.n 2 .done)))))))
def Qjy:Shp:=⟨[(0,.d (.sl Qp)),(1,.d .i),(2,.p 5000 [])],[(5000,.var 342 (.s 5001)),(5001,.row 344 J6)]⟩
def Qf5:Shp:=⟨[],[(5000,.var 342 (.s 1)),(1,.row 344 J6)]⟩
def Q2i:An:=.t 1 (.two (.t 2 (.two (.gh (.tl .done) .nil) (.nil))) (.two (.t 2 (.two (.gh (.tl .done) .nil) (.nil))) (.two (.t 2 (.two (.gh (.tl .done) .nil) (.nil))) (.t 7 (.nil)))))
def Q2j:Shp:=⟨[(0,.d (.int .u64))],[]⟩
def Qul:Shp:=⟨[(0,.d .i)],[]⟩
def Q2k:An:=.t 1 (.two (.two (.nil) (.nil)) (.two (.reg (.n 1 (.call 0 (.n 1 .done)))) (.nil)))
def Q2l:Shp:=⟨[(0,.d (.int .u64))],[]⟩
def Qum:Shp:=⟨[(0,.d .i)],[]⟩
def Q2m:An:=.t 3 (.t 6 (.nil))
def Q2n:Shp:=⟨[(0,.d J6),(1,.d J6)],[]⟩
def Qun:Shp:=⟨[(0,.d .i)],[]⟩
def Q2o:An:=.t 3 (.un (.lp [0,1,2,3] [] ⟨[(8,.d .i)],[]⟩ [(.x 0,⟨[],[]⟩)] (.two (.t 3 (.two (.nil) (.nil))) (.two (.un (.t 2 (.un (.lp [8,9] [] ⟨[],[]⟩ [(.x 2,⟨[],[]⟩)] (.two (.two (.dm 14 [18,19,20,21,22,23,24,25,26,27,28,29,30,31] [] (.n 4 (.so 21 (.n 10 (.tl (.call 0 (.nl 1 (.n 1 .done))))) (.n 10 (.tl (.nl 2 (.n 1 .done))))))) (.two (.nil) (.nil))) (.nil)))))) (.reg (.n 3 .done))))))
def Q2p:Shp:=⟨[(0,.d (.sl J6)),(1,.d .i),(2,.d .i),(3,.f 214 (.nil))],[]⟩
def Quo:Shp:=⟨[],[]⟩
def Q2q:An:=.t 1 (.t 1 (.un (.lp [0,1,2,4] [] ⟨[],[]⟩ [(.r,⟨[],[]⟩)] (.un (.t 4 (.two (.t 2 (.two (.two (.reg (.n 4 (.call 0 (.done)))) (.nil)) (.gh (.tl .done) .nil))) (.nil)))))))
def Q2r:Shp:=⟨[(0,.d (.sl J6)),(1,.d .i),(2,.d .i),(3,.d .i),(4,.f 214 (.nil))],[]⟩
def Qup:Shp:=⟨[],[]⟩
def Q2s:An:=.t 3 (.reg (.n 4 (.call 0 (.n 1 (.call 1 (.done))))))
def Q2t:Shp:=⟨[(0,.d (.sl J6)),(1,.f 214 (.nil))],[]⟩
def Quq:Shp:=⟨[],[]⟩
def Q2u:An:=.t 1 (.t 2 (.nil))
def Q2v:Shp:=⟨[(0,.d .bool),(1,.d .bool)],[]⟩
def Qur:Shp:=⟨[(0,.d .bool)],[]⟩
def Q2w:An:=.t 1 (.t 1 (.t 2 (.two (.reg (.n 2 (.call 0 (.done)))) (.two (.reg (.n 2 (.call 1 (.done)))) (.two (.reg (.n 1 (.call 2 (.done)))) (.t 1 (.t 1 (.t 1 (.two (.t 3 (.un (.lp [2,7,24,25] [7,12101] ⟨[(9,.s 100000),(10,.p 100001 []),(11,.d .bool),(26,.d .i)],[(100000,.row 101 Qp),(100001,.var 235 (.d (.arr 2 .i)))]⟩ [(.x 0,⟨[(9,.s 100300)],[(100300,.row 101 Qp)]⟩)] (.t 1 (.two (.two (.nil) (.nil)) (.two (.un (.t 6 (.two (.dr 8 (.n 8 .done) (.n 1 .done)) (.two (.two (.dr 16 (.n 6 (.sp 44 10 [9,10,11,12,13,26] [13,100000,100001] ⟨[(54,.d .bool)],[]⟩ (.nl 9 (.n 1 .done)) (.nl 9 (.n 1 .done)) (.done))) (.done)) (.two (.gh (.tl .done) .nil) (.nil))) (.two (.reg (.n 7 (.call 3 (.n 1 .done)))) (.two (.jn [10,14,26] [13,100001] [(.n,⟨[(9,.s 100200)],[(100200,.row 101 Qp)]⟩)] (.un (.t 6 (.t 7 (.t 6 (.t 9 (.gh (.tl .done) .nil))))))) (.reg (.n 2 .done)))))))) (.reg (.n 2 .done)))))))) (.t 2 (.nil)))))))))))
def Q2x:Shp:=⟨[(0,.d (.sl Qp)),(1,.d (.sl Qp)),(2,.f 187 (.nil))],[]⟩
def Qus:Shp:=⟨[(0,.s 1)],[(1,.row 101 Qp)]⟩
def Q2y:An:=.t 1 (.two (.reg (.n 1 (.call 0 (.n 1 .done)))) (.nil))
def Q2z:Shp:=⟨[(0,.d (.sl Qp))],[]⟩
def Qut:Shp:=⟨[(0,.s 1)],[(1,.row 101 Qp)]⟩
def Jeh:An:=.t 3 (.t 1 (.t 2 (.two (.t 3 (.un (.lp [17,18] [] ⟨[(4,.p 100000 []),(7,.p 100001 []),(8,.f 149 (.cons (.p 100002 []) (.cons (.p 100001 []) (.cons (.p 100000 []) (.nil))))),(19,.d .i)],[(100000,.var 3 (.d .i)),(100001,.var 206 (.s 100003)),(100002,.var 3 (.d .i)),(100003,.row 101 Qp)]⟩ [(.x 0,⟨[(4,.p 100300 []),(7,.p 100301 [])],[(100300,.var 3 (.d .i)),(100301,.var 206 (.s 100302)),(100302,.row 101 Qp)]⟩)] (.t 1 (.two (.two (.nil) (.nil)) (.two (.un (.t 4 (.t 4 (.un (.lp [19,24,25] [10] ⟨[(4,.p 100100 []),(7,.p 100101 []),(8,.f 149 (.cons (.p 100102 []) (.cons (.p 100101 []) (.cons (.p 100100 []) (.nil))))),(26,.d .i)],[(100100,.var 3 (.d .i)),(100101,.var 206 (.s 100103)),(100102,.var 3 (.d .i)),(100103,.row 101 Qp)]⟩ [(.x 2,⟨[(4,.p 100200 []),(7,.p 100201 []),(8,.f 149 (.cons (.p 100202 []) (.cons (.p 100201 []) (.cons (.p 100200 []) (.nil)))))],[(100200,.var 3 (.d .i)),(100201,.var 206 (.s 100203)),(100202,.var 3 (.d .i)),(100203,.row 101 Qp)]⟩)] (.t 1 (.two (.two (.nil) (.nil)) (.two (.un (.t 4 (.reg (.n 2 (.call 0 (.done)))))) (.reg (.n 2 .done)))))))))) (.reg (.n 2 .done)))))))) (.t 1 (.two (.two (.reg (.n 1 (.call 1 (.n 2 .done)))) (.un (.lp [4,36,37] [13601,100300,100301,100302] ⟨[(13,.s 100400),(38,.d .i)],[(100400,.row 101 Qp)]⟩ [(.x 4,⟨[(13,.s 100500)],[(100500,.row 101 Qp)]⟩)] (.t 1 (.two (.two (.nil) (.nil)) (.two (.un (.t 4 (.reg (.n 3 (.call 2 (.n 2 .done)))))) (.reg (.n 2 .done)))))))) (.t 2 (.nil)))))))
def Jei:Shp:=⟨[(0,.d (.sl V4)),(1,.d .i),(2,.d .i)],[]⟩
def Q20:Shp:=⟨[(0,.s 1)],[(1,.row 101 Qp)]⟩
def Q21:An:=.t 2 (.t 11 (.nil))
def Q22:Shp:=⟨[(0,.d Vq),(1,.p 5000 []),(2,.p 5001 [])],[(5000,.var 9 (.d .str)),(5001,.var 3 (.d .i))]⟩
def Quu:Shp:=⟨[(0,.d .bool)],[]⟩
def Q23:An:=.t 1 (.t 1 (.two (.t 3 (.un (.lp [1,8,9] [] ⟨[(5,.s 100000),(10,.d .i)],[(100000,.row 131 Vq)]⟩ [(.x 0,⟨[(5,.s 100100)],[(100100,.row 131 Vq)]⟩)] (.t 1 (.two (.two (.nil) (.nil)) (.two (.un (.t 4 (.two (.reg (.n 2 (.call 0 (.done)))) (.t 5 (.gh (.tl .done) .nil))))) (.reg (.n 2 .done)))))))) (.t 2 (.nil))))
def Q24:Shp:=⟨[(0,.d (.sl Vq)),(1,.f 189 (.cons (.p 5000 []) (.cons (.p 5001 []) (.nil))))],[(5000,.var 9 (.d .str)),(5001,.var 3 (.d .i))]⟩
def Quv:Shp:=⟨[(0,.s 1)],[(1,.row 131 Vq)]⟩
def Q25:An:=.t 2 (.t 1 (.two (.t 4 (.un (.lp [1,2,7,8] [1,2] ⟨[(3,.s 100000),(9,.d .i)],[(100000,.row 128 K9)]⟩ [(.x 0,⟨[(3,.s 100100)],[(100100,.row 128 K9)]⟩)] (.t 1 (.two (.two (.nil) (.nil)) (.two (.un (.t 4 (.t 5 (.reg (.n 2 (.fz 15 (.n 3 .done))))))) (.reg (.n 2 .done)))))))) (.t 3 (.t 2 (.nil)))))
def Q26:Shp:=⟨[(0,.d Vq)],[]⟩
def Quw:Shp:=⟨[(0,.ag (.cons (.d .str) (.cons (.d .i) (.cons (.d .i) (.cons (.d .str) (.cons (.d .bool) (.cons (.s 1) (.nil))))))))],[(1,.row 128 K9)]⟩
def Q27:An:=.t 4 (.two (.reg (.n 2 (.call 0 (.n 1 .done)))) (.two (.t 3 (.two (.gh (.tl .done) .nil) (.nil))) (.two (.reg (.n 6 (.call 1 (.n 2 .done)))) (.nil))))
def Q28:Shp:=⟨[(0,.d (.sl Vq)),(1,.d .str),(2,.d .i)],[]⟩
def Qux:Shp:=⟨[(0,.ag (.cons (.d .str) (.cons (.d .i) (.cons (.d .i) (.cons (.d .str) (.cons (.d .bool) (.cons (.s 1) (.nil)))))))),(1,.d .bool)],[(1,.row 128 K9)]⟩
def Q29:An:=.t 3 (.two (.t 4 (.un (.lp [1,3,5,18,19,20] [3,5] ⟨[],[]⟩ [(.r,⟨[(6,.s 100300)],[(100300,.row 213 Uj)]⟩)] (.t 1 (.two (.two (.nil) (.gh (.tl .done) .nil)) (.two (.un (.t 4 (.two (.reg (.n 2 (.call 0 (.n 6 .done)))) (.two (.t 2 (.two (.gh (.tl .done) .nil) (.nil))) (.two (.reg (.n 5 (.call 1 (.n 6 .done)))) (.t 1 (.two (.t 4 (.un (.lp [9,42,43] [8,9,11,13801] ⟨[(13,.s 100100),(44,.d .i)],[(100100,.row 213 Uj)]⟩ [(.x 2,⟨[(13,.s 100200)],[(100200,.row 213 Uj)]⟩)] (.t 1 (.two (.two (.nil) (.nil)) (.two (.un (.t 6 (.t 23 (.reg (.n 8 .done))))) (.reg (.n 2 .done)))))))) (.t 2 (.nil))))))))) (.nil))))))) (.nil))
def Q3a:Shp:=⟨[(0,.d V4),(1,.d (.sl Vq)),(2,.d Qp)],[]⟩
def Quy:Shp:=⟨[(0,.s 1)],[(1,.row 213 Uj)]⟩
def Qjz:An:=.t 1 (.two (.two (.dm 7 [9,10,11,12,13,14,15] [] (.n 6 (.call 0 (.tl (.n 1 .done))))) (.two (.nil) (.nil))) (.two (.reg (.n 2 (.call 1 (.n 2 .done)))) (.two (.t 6 (.un (.lp [0,4,24,25] [3,4,5000,5001,11901] ⟨[],[]⟩ [(.x 0,⟨[],[]⟩)] (.t 1 (.two (.two (.gh (.tl .done) .nil) (.nil)) (.nil)))))) (.t 1 (.two (.un (.lp [0,4,7] [3,4,5000,5001,11901] ⟨[],[]⟩ [(.x 2,⟨[],[]⟩)] (.two (.two (.jn [] [] [(.n,⟨[(55,.d .bool)],[]⟩)] (.dm 16 [38,39,40,41,42,43,44,45,46,47,48,49,50,51,52,53] [] (.n 8 (.so 45 (.tl .done) (.n 8 (.tl (.nl 1 (.n 1 .done)))))))) (.two (.gh (.tl .done) .nil) (.nil))) (.nil)))) (.t 8 (.two (.reg (.n 2 (.fz 11901 (.n 3 .done)))) (.t 12 (.dm 6 [80,81,82,83,84,85] [] (.n 5 (.call 0 (.tl (.n 1 .done)))))))))))))
def Qj0:Shp:=⟨[(0,.p 5000 []),(1,.d Uj)],[(5000,.var 198 (.ag (.cons (.d (.sl Qy)) (.cons (.m 5001) (.nil))))),(5001,.map J5 .bool)]⟩
def Qf6:Shp:=⟨[],[(5000,.var 198 (.ag (.cons (.d (.sl Qy)) (.cons (.m 5001) (.nil))))),(5001,.map J5 .bool)]⟩
def Jej:An:=.t 2 (.t 4 (.two (.t 4 (.un (.lp [0,1,3,4,7,10,27,28] [7,10] ⟨[(11,.p 100000 []),(29,.d .i)],[(100000,.var 198 (.ag (.cons (.s 100001) (.cons (.m 100002) (.nil))))),(100001,.tail 142 Qy),(100002,.map J5 .bool)]⟩ [(.x 0,⟨[(11,.p 100100 [])],[(100100,.var 198 (.ag (.cons (.s 100101) (.cons (.m 100102) (.nil))))),(100101,.tail 142 Qy),(100102,.map J5 .bool)]⟩)] (.t 1 (.two (.two (.nil) (.nil)) (.two (.un (.t 4 (.two (.dm 9 [33,34,35,36,37,38,39,40,41] [100001] (.n 6 (.call 0 (.n 2 (.tl (.n 3 .done)))))) (.dm 6 [44,45,46,47,48,49] [] (.n 5 (.call 1 (.tl (.n 1 .done)))))))) (.reg (.n 2 .done)))))))) (.two (.dm 8 [51,52,53,54,55,56,57,14] [] (.n 8 (.tl (.n 1 .done)))) (.two (.reg (.n 2 (.call 2 (.n 1 .done)))) (.two (.t 10 (.two (.two (.reg (.n 2 (.call 3 (.n 1 .done)))) (.two (.reg (.n 3 (.call 4 (.n 2 .done)))) (.un (.lp [1,4,10,14,16,77,78] [7,10,14,53,56,17301,17701] ⟨[(11,.p 100200 []),(79,.d .i)],[(100200,.var 198 (.ag (.cons (.d (.sl Qy)) (.cons (.m 100201) (.nil))))),(100201,.map J5 .bool)]⟩ [(.x 2,⟨[(11,.p 100700 [])],[(100700,.var 198 (.ag (.cons (.d (.sl Qy)) (.cons (.m 100701) (.nil))))),(100701,.map J5 .bool)]⟩)] (.t 1 (.two (.two (.nil) (.nil)) (.two (.un (.t 4 (.t 3 (.un (.lp [18,79,83,84] [18] ⟨[(11,.p 100300 []),(85,.d .i)],[(100300,.var 198 (.ag (.cons (.d (.sl Qy)) (.cons (.m 100301) (.nil))))),(100301,.map J5 .bool)]⟩ [(.x 4,⟨[(11,.p 100600 [])],[(100600,.var 198 (.ag (.cons (.d (.sl Qy)) (.cons (.m 100601) (.nil))))),(100601,.map J5 .bool)]⟩)] (.t 1 (.two (.two (.nil) (.nil)) (.two (.un (.t 4 (.two (.reg (.n 3 (.call 5 (.n 2 .done)))) (.un (.lp [85,92,93] [20,19201] ⟨[(11,.p 100400 []),(94,.d .i)],[(100400,.var 198 (.ag (.cons (.d (.sl Qy)) (.cons (.m 100401) (.nil))))),(100401,.map J5 .bool)]⟩ [(.x 6,⟨[(11,.p 100500 [])],[(100500,.var 198 (.ag (.cons (.d (.sl Qy)) (.cons (.m 100501) (.nil))))),(100501,.map J5 .bool)]⟩)] (.t 1 (.two (.two (.nil) (.nil)) (.two (.un (.t 4 (.t 6 (.two (.reg (.n 2 (.call 6 (.done)))) (.gh (.tl .done) .nil))))) (.reg (.n 2 .done)))))))))) (.reg (.n 2 .done)))))))))) (.reg (.n 2 .done))))))))) (.gh (.tl .done) .nil))) (.t 6 (.t 2 (.nil))))))))
def Jek:Shp:=⟨[(0,.d (.sl Yh)),(1,.d (.sl Vq)),(2,.d Q3),(3,.d .i),(4,.d .i)],[]⟩
def Q3b:Shp:=⟨[(0,.ag (.cons (.d (.sl Qy)) (.cons (.s 1) (.cons (.s 2) (.nil)))))],[(1,.row 71 Jp),(2,.row 73 Je)]⟩
def Q3c:An:=.t 2 (.t 5 (.t 2 (.nil)))
def Q3d:Shp:=⟨[(0,.d Qy)],[]⟩
def Quz:Shp:=⟨[(0,.ag (.cons (.d .i) (.cons (.d .i) (.cons (.d .str) (.cons (.d .i) (.cons (.d .i) (.cons (.s 1) (.cons (.d Qp) (.cons (.d .i) (.cons (.d .i) (.cons (.d .i) (.cons (.d .bool) (.nil)))))))))))))],[(1,.row 9 .str)]⟩
def Q3e:An:=.t 1 (.t 1 (.two (.t 3 (.un (.lp [6,7] [] ⟨[(3,.s 100000),(8,.d .i)],[(100000,.row 142 Qy)]⟩ [(.x 0,⟨[(3,.s 100100)],[(100100,.row 142 Qy)]⟩)] (.t 1 (.two (.two (.nil) (.nil)) (.two (.un (.t 4 (.reg (.n 2 (.call 0 (.fz 11401 (.n 3 .done))))))) (.reg (.n 2 .done)))))))) (.t 2 (.nil))))
def Q3f:Shp:=⟨[(0,.d (.sl Qy))],[]⟩
def Qu0:Shp:=⟨[(0,.s 1)],[(1,.row 142 Qy)]⟩
def Q3g:An:=.t 1 (.two (.t 4 (.two (.t 1 (.two (.t 2 (.un (.lp [2] [] ⟨[(7,.s 100000),(8,.d .i)],[(100000,.row 3 .i)]⟩ [(.x 0,⟨[(7,.s 100100)],[(100100,.row 3 .i)]⟩)] (.two (.t 3 (.two (.nil) (.nil))) (.two (.un (.reg (.n 5 .done))) (.reg (.n 3 .done))))))) (.t 2 (.nil)))) (.gh (.tl .done) .nil))) (.nil))
def Q3h:Shp:=⟨[(0,.d (.sl Qy)),(1,.d .i),(2,.d .i)],[]⟩
def Qu1:Shp:=⟨[(0,.s 1)],[(1,.row 3 .i)]⟩
def Q3i:An:=.t 2 (.two (.two (.reg (.n 10 (.sp 26 6 [1,2,5,6,7] [7] ⟨[(32,.d .bool)],[]⟩ (.nl 5 (.n 1 .done)) (.nl 3 (.call 0 (.nl 1 (.n 1 .done)))) (.done)))) (.two (.gh (.tl .done) .nil) (.nil))) (.two (.t 19 (.two (.gh (.tl .done) .nil) (.nil))) (.two (.t 4 (.un (.lp [7,54,55] [7] ⟨[],[]⟩ [(.x 0,⟨[],[]⟩)] (.t 1 (.two (.two (.gh (.tl .done) .nil) (.nil)) (.nil)))))) (.t 5 (.nil)))))
def Q3j:Shp:=⟨[(0,.d Qy),(1,.d .i),(2,.d .i),(3,.d .i),(4,.d .str),(5,.d .bool),(6,.d .i)],[]⟩
def Qu2:Shp:=⟨[(0,.d .bool)],[]⟩
def Q3k:An:=.t 2 (.t 11 (.nil))
def Q3l:Shp:=⟨[(0,.d Qy)],[]⟩
def Qu3:Shp:=⟨[(0,.d F8)],[]⟩
def Q3m:An:=.t 3 (.two (.reg (.n 1 (.call 0 (.n 1 .done)))) (.t 1 (.t 3 (.two (.two (.reg (.n 3 (.call 1 (.n 2 .done)))) (.un (.lp [0,1,2,3,4,5,6,32,33] [13201] ⟨[(7,.d .i),(19,.s 100000),(20,.s 100001),(34,.d .i)],[(100000,.row 142 Qy),(100001,.row 33 Jy)]⟩ [(.x 0,⟨[(7,.d .i),(19,.s 100100),(20,.s 100101)],[(100100,.row 142 Qy),(100101,.row 33 Jy)]⟩)] (.t 1 (.two (.two (.nil) (.nil)) (.two (.un (.t 3 (.two (.t 2 (.two (.gh (.tl .done) .nil) (.nil))) (.two (.two (.reg (.n 10 (.call 2 (.n 1 .done)))) (.two (.gh (.tl .done) .nil) (.nil))) (.t 8 (.t 10 (.t 4 (.two (.reg (.n 4 (.call 3 (.n 2 .done)))) (.reg (.n 14 .done)))))))))) (.reg (.n 2 .done)))))))) (.t 6 (.nil))))))
def Q3n:Shp:=⟨[(0,.d (.sl Qy)),(1,.d .i),(2,.d .i),(3,.d .i),(4,.d .str),(5,.d .bool),(6,.d .i),(7,.d .i)],[]⟩
def Qu4:Shp:=⟨[(0,.s 1),(1,.s 2),(2,.d .i)],[(1,.row 142 Qy),(2,.row 33 Jy)]⟩
def Jel:An:=.t 5 (.two (.reg (.n 1 (.call 0 (.n 2 .done)))) (.two (.reg (.n 14 (.call 1 (.n 7 .done)))) (.t 3 (.t 6 (.nil)))))
def Jem:Shp:=⟨[(0,.d Q3),(1,.d Qk),(2,.d .str),(3,.d .bool)],[]⟩
def Q3o:Shp:=⟨[(0,.d Q3),(1,.d (.sl Jy)),(2,.d .i)],[]⟩
def Jen:An:=.two (.dm 21 [5,6,7,8,9,10,11,12,13,14,15,16,17,18,19,20,21,22,23,24,2] [] (.n 19 (.call 0 (.n 1 (.tl (.n 1 .done)))))) (.two (.dr 21 (.n 21 .done) (.call 1 (.n 1 .done))) (.two (.gh (.fz 14602 (.fz 14601 (.done))) (.dm 22 [48,49,50,51,52,53,54,55,56,57,58,59,60,61,62,63,47,64,65,66,1000000020,3] [2] (.n 15 (.call 2 (.n 6 (.tl (.n 1 .done))))))) (.t 5 (.t 6 (.reg (.n 11 .done))))))
def Jeo:Shp:=⟨[(0,.p 5000 [])],[(5000,.var 114 (.ag (.cons (.d Jt) (.cons (.d Q3) (.cons (.d Qk) (.cons (.d Jo) (.cons (.d Qx) (.cons (.d Jq) (.cons (.d .i) (.cons (.ag (.cons (.d Qk) (.cons (.d .i) (.cons (.d .str) (.cons (.d .i) (.cons (.d .str) (.cons (.s 5001) (.cons (.s 5002) (.cons (.d .i) (.cons (.d .i) (.cons (.d .i) (.cons (.s 5003) (.cons (.d .i) (.cons (.d .i) (.nil))))))))))))))) (.nil))))))))))),(5001,.row 33 Jy),(5002,.row 35 Q7),(5003,.row 76 Ju)]⟩
def Q3p:Shp:=⟨[],[(5000,.var 114 (.ag (.cons (.d Jt) (.cons (.d Q3) (.cons (.d Qk) (.cons (.d Jo) (.cons (.d Qx) (.cons (.d Jq) (.cons (.d .i) (.cons (.ag (.cons (.d Qk) (.cons (.d .i) (.cons (.d .str) (.cons (.d .i) (.cons (.d .str) (.cons (.d (.sl Jy)) (.cons (.s 1) (.cons (.d .i) (.cons (.d .i) (.cons (.d .i) (.cons (.s 2) (.cons (.d .i) (.cons (.d .i) (.nil))))))))))))))) (.nil))))))))))),(1,.row 35 Q7),(2,.row 76 Ju)]⟩
def Q3q:An:=.t 2 (.two (.t 23 (.two (.t 1 (.nil)) (.nil))) (.t 17 (.nil)))
def Q3r:Shp:=⟨[(0,.d Qk),(1,.d .i)],[]⟩
def Qu5:Shp:=⟨[(0,.d .bool)],[]⟩
def Q3s:An:=.t 1 (.two (.t 3 (.un (.lp [0,6] [] ⟨[(7,.d .i)],[]⟩ [(.x 0,⟨[],[]⟩)] (.t 1 (.two (.two (.nil) (.nil)) (.two (.un (.t 2 (.t 4 (.t 22 (.two (.gh (.tl .done) .nil) (.nil)))))) (.reg (.n 2 .done)))))))) (.t 9 (.nil)))
def Q3t:Shp:=⟨[(0,.d .str)],[]⟩
def Qu6:Shp:=⟨[(0,.d .bool)],[]⟩
def Q3u:An:=.t 1 (.two (.t 3 (.un (.lp [7,8] [] ⟨[],[]⟩ [(.x 0,⟨[],[]⟩)] (.t 1 (.two (.two (.gh (.tl .done) .nil) (.nil)) (.nil)))))) (.t 1 (.nil)))
def Q3v:Shp:=⟨[(0,.d (.sl Yo)),(1,.f 170 (.cons (.p 5000 []) (.nil)))],[(5000,.var 121 (.d Yo))]⟩
def Qu7:Shp:=⟨[(0,.d .i)],[]⟩
def Q3w:An:=.t 1 (.two (.reg (.n 2 (.call 0 (.n 2 .done)))) (.nil))
def Q3x:Shp:=⟨[(0,.d (.sl Yo)),(1,.f 170 (.cons (.p 5000 []) (.nil)))],[(5000,.var 121 (.d Yo))]⟩
def Qu8:Shp:=⟨[(0,.d .bool)],[]⟩
def Q3y:An:=.t 1 (.two (.t 3 (.two (.gh (.tl .done) .nil) (.nil))) (.two (.t 3 (.two (.gh (.tl .done) .nil) (.nil))) (.two (.t 3 (.un (.lp [0,12,13] [] ⟨[(14,.d .i)],[]⟩ [(.x 0,⟨[],[]⟩)] (.t 1 (.two (.two (.nil) (.nil)) (.two (.un (.t 6 (.two (.two (.reg (.n 2 (.call 0 (.n 1 .done)))) (.two (.gh (.tl .done) .nil) (.nil))) (.two (.two (.reg (.n 4 (.call 1 (.done)))) (.two (.gh (.tl .done) .nil) (.nil))) (.two (.t 5 (.two (.two (.t 4 (.two (.gh (.tl .done) .nil) (.nil))) (.nil)) (.gh (.tl .done) .nil))) (.nil)))))) (.reg (.n 2 .done)))))))) (.t 1 (.nil)))))
def Q3z:Shp:=⟨[(0,.d (.sl Yo))],[]⟩
def Qu9:Shp:=⟨[(0,.d .i)],[]⟩
def Q30:An:=.t 1 (.two (.t 3 (.un (.lp [7,8] [] ⟨[],[]⟩ [(.x 0,⟨[],[]⟩)] (.t 1 (.two (.two (.gh (.tl .done) .nil) (.nil)) (.nil)))))) (.t 1 (.nil)))
def Q31:Shp:=⟨[(0,.d (.sl .i)),(1,.d .i)],[]⟩
def Qva:Shp:=⟨[(0,.d .i)],[]⟩
def Q32:An:=.t 1 (.two (.reg (.n 2 (.call 0 (.n 2 .done)))) (.nil))
def Q33:Shp:=⟨[(0,.d (.sl .i)),(1,.d .i)],[]⟩
def Qvb:Shp:=⟨[(0,.d .bool)],[]⟩
def Q34:An:=.t 1 (.two (.t 6 (.two (.gh (.tl .done) .nil) (.nil))) (.t 4 (.nil)))
def Q35:Shp:=⟨[(0,.d .i)],[]⟩
def Qvc:Shp:=⟨[(0,.d .i)],[]⟩
def Q36:An:=.t 1 (.two (.two (.reg (.n 2 (.call 0 (.done)))) (.two (.gh (.tl .done) .nil) (.nil))) (.two (.reg (.n 1 (.call 1 (.n 2 .done)))) (.nil)))
def Q37:Shp:=⟨[(0,.d (.sl .i)),(1,.d .i)],[]⟩
def Qvd:Shp:=⟨[(0,.d .i)],[]⟩
def Q38:An:=.t 1 (.two (.t 3 (.un (.lp [7,8] [] ⟨[],[]⟩ [(.x 0,⟨[],[]⟩)] (.t 1 (.two (.two (.gh (.tl .done) .nil) (.nil)) (.nil)))))) (.t 1 (.nil)))
def Q39:Shp:=⟨[(0,.d (.sl Gb)),(1,.f 172 (.cons (.p 5000 []) (.cons (.p 5001 []) (.nil))))],[(5000,.var 3 (.d .i)),(5001,.var 3 (.d .i))]⟩
def Qve:Shp:=⟨[(0,.d .i)],[]⟩
def Q4a:An:=.t 1 (.two (.reg (.n 2 (.call 0 (.n 2 .done)))) (.nil))
def Q4b:Shp:=⟨[(0,.d (.sl Gb)),(1,.f 172 (.cons (.p 5000 []) (.cons (.p 5001 []) (.nil))))],[(5000,.var 3 (.d .i)),(5001,.var 3 (.d .i))]⟩
def Qvf:Shp:=⟨[(0,.d .bool)],[]⟩
def Q4c:An:=.t 3 (.t 2 (.two (.t 3 (.un (.lp [0,7,11,12] [4,5] ⟨[(13,.d .i)],[]⟩ [(.x 0,⟨[],[]⟩)] (.t 1 (.two (.two (.nil) (.nil)) (.two (.un (.t 4 (.two (.reg (.n 3 (.call 0 (.done)))) (.two (.gh (.tl .done) .nil) (.nil))))) (.reg (.n 2 .done)))))))) (.t 8 (.nil))))
def Q4d:Shp:=⟨[(0,.d (.sl Yo)),(1,.d .i),(2,.d .i)],[]⟩
def Qvg:Shp:=⟨[(0,.d .str)],[]⟩
def Jep:An:=.t 1 (.two (.two (.reg (.n 1 (.call 0 (.n 9 .done)))) (.two (.gh (.tl .done) .nil) (.nil))) (.two (.reg (.n 4 (.call 1 (.n 3 (.call 2 (.n 1 .done)))))) (.nil)))
def Jeq:Shp:=⟨[(0,.d (.sl Yo)),(1,.d (.sl .i)),(2,.d .i)],[]⟩
def Q4e:Shp:=⟨[(0,.d .str)],[]⟩
def Q4f:An:=.t 2 (.t 27 (.nil))
def Q4g:Shp:=⟨[(0,.d Vn),(1,.p 5000 []),(2,.p 5001 []),(3,.p 5002 [])],[(5000,.var 3 (.d .i)),(5001,.var 9 (.d .str)),(5002,.var 9 (.d .str))]⟩
def Qvh:Shp:=⟨[(0,.d .bool)],[]⟩
def Q4h:An:=.t 6 (.t 2 (.two (.t 4 (.un (.lp [10,15,16,17] [4,5,6,7] ⟨[(8,.p 100000 [])],[(100000,.var 126 (.ag (.cons (.d .i) (.cons (.d .str) (.cons (.d .str) (.cons (.d .i) (.cons (.ns) (.nil))))))))]⟩ [(.r,⟨[(8,.p 100100 []),(9,.d .bool)],[(100100,.var 126 (.ag (.cons (.d .i) (.cons (.d .str) (.cons (.d .str) (.cons (.d .i) (.cons (.s 100101) (.nil)))))))),(100101,.row 123 Kr)]⟩)] (.t 1 (.two (.two (.nil) (.gh (.tl .done) .nil)) (.two (.un (.t 4 (.two (.reg (.n 2 (.call 0 (.done)))) (.two (.t 5 (.t 3 (.nil))) (.gh (.tl .done) .nil))))) (.nil))))))) (.nil)))
def Q4i:Shp:=⟨[(0,.d Jq),(1,.d .i),(2,.d .str),(3,.d .str)],[]⟩
def Qvi:Shp:=⟨[(0,.d Vn),(1,.d .bool)],[]⟩
def Q4j:An:=.t 1 (.two (.t 3 (.un (.lp [0,7,8] [] ⟨[(9,.d .i)],[]⟩ [(.x 0,⟨[],[]⟩)] (.t 1 (.two (.two (.nil) (.nil)) (.two (.un (.t 3 (.t 7 (.two (.gh (.tl .done) .nil) (.nil))))) (.reg (.n 2 .done)))))))) (.t 1 (.nil)))
def Q4k:Shp:=⟨[(0,.d .i),(1,.d (.sl .i))],[]⟩
def Qvj:Shp:=⟨[(0,.d .bool)],[]⟩
def Q4l:An:=.t 1 (.two (.t 3 (.two (.gh (.tl .done) .nil) (.nil))) (.two (.t 3 (.two (.gh (.tl .done) .nil) (.nil))) (.t 1 (.two (.t 3 (.un (.lp [0,12,13] [] ⟨[(3,.d .i),(14,.d .i)],[]⟩ [(.x 0,⟨[],[]⟩)] (.t 1 (.two (.two (.nil) (.nil)) (.two (.un (.t 6 (.two (.two (.reg (.n 5 (.call 0 (.n 7 (.sp 31 6 [3,4,5,14] [5] ⟨[(37,.d .bool)],[]⟩ (.nl 5 (.n 1 .done)) (.nl 3 (.call 0 (.nl 1 (.n 1 .done)))) (.done)))))) (.two (.gh (.tl .done) .nil) (.nil))) (.two (.t 9 (.two (.gh (.tl .done) .nil) (.nil))) (.two (.t 9 (.two (.gh (.tl .done) .nil) (.nil))) (.reg (.n 3 .done))))))) (.reg (.n 2 .done)))))))) (.t 1 (.nil))))))
def Q4m:Shp:=⟨[(0,.d (.sl Kr))],[]⟩
def Qvk:Shp:=⟨[(0,.d .i)],[]⟩
def Q4n:An:=.t 2 (.t 2 (.two (.t 3 (.un (.lp [1,12,13] [] ⟨[(6,.d .i),(7,.d .i),(14,.d .i)],[]⟩ [(.x 0,⟨[(6,.d .i)],[]⟩)] (.t 1 (.two (.two (.nil) (.nil)) (.two (.un (.t 4 (.t 2 (.two (.t 3 (.two (.gh (.tl .done) .nil) (.nil))) (.two (.t 3 (.two (.nil) (.nil))) (.t 11 (.two (.two (.dr 7 (.n 7 .done) (.done)) (.two (.gh (.tl .done) .nil) (.nil))) (.t 7 (.reg (.n 2 .done)))))))))) (.reg (.n 2 .done)))))))) (.t 3 (.nil))))
def Q4o:Shp:=⟨[(0,.d (.sl Kr)),(1,.d .i)],[]⟩
def Qvl:Shp:=⟨[(0,.d .i),(1,.d .bool)],[]⟩
def Q4p:An:=.t 2 (.two (.two (.reg (.n 1 (.call 0 (.n 1 .done)))) (.two (.gh (.tl .done) .nil) (.nil))) (.two (.t 16 (.two (.gh (.tl .done) .nil) (.nil))) (.two (.reg (.n 4 (.call 1 (.n 5 .done)))) (.two (.t 2 (.two (.gh (.tl .done) .nil) (.nil))) (.two (.reg (.n 2 (.call 1 (.n 5 .done)))) (.t 5 (.nil)))))))
def Q4q:Shp:=⟨[(0,.d (.sl Kr)),(1,.d .i),(2,.d .i)],[]⟩
def Qvm:Shp:=⟨[(0,.d .i),(1,.d .i)],[]⟩
def Qj1:An:=.t 3 (.two (.two (.reg (.n 2 (.call 0 (.n 2 (.sp 17 5 [1,3,4,6] [4,6] ⟨[(22,.d .bool)],[]⟩ (.nl 4 (.n 1 .done)) (.nl 2 (.call 1 (.nl 1 (.n 1 .done)))) (.done)))))) (.two (.t 1 (.nil)) (.nil))) (.t 3 (.two (.t 3 (.t 4 (.gh (.tl .done) .nil))) (.two (.t 8 (.two (.two (.dm 10 [39,40,41,42,43,44,45,46,47,48] [] (.n 4 (.call 2 (.n 5 (.tl (.n 1 (.br (.n 1 .done)))))))) (.nil)) (.gh (.tl .done) .nil))) (.nil)))))
def Qj2:Shp:=⟨[(0,.d Jq),(1,.d (.sl .i)),(2,.d Qk),(3,.d .i)],[]⟩
def Qf7:Shp:=⟨[(0,.s 1)],[(1,.row 35 Q7)]⟩
def Jer:An:=.t 5 (.un (.two (.reg (.n 4 (.call 0 (.n 5 .done)))) (.two (.reg (.n 4 (.call 1 (.n 1 .done)))) (.t 4 (.two (.nil) (.two (.t 3 (.un (.lp [4,6,11,17,37] [4,6] ⟨[(13,.s 100000),(14,.d .i),(15,.d .i),(16,.d .i),(38,.d .i)],[(100000,.row 35 Q7)]⟩ [(.x 0,⟨[(13,.s 100100),(14,.d .i),(15,.d .i)],[(100100,.row 35 Q7)]⟩)] (.t 1 (.two (.two (.nil) (.nil)) (.two (.un (.t 2 (.two (.dm 15 [42,43,44,45,46,47,48,49,50,51,41,52,53,19,1000000014] [] (.n 9 (.call 2 (.n 5 (.tl (.n 1 .done)))))) (.two (.t 2 (.two (.gh (.tl .done) .nil) (.nil))) (.two (.t 2 (.t 3 (.gh (.tl .done) .nil))) (.two (.dm 13 [61,62,63,64,65,66,67,68,69,60,70,71,21] [] (.n 8 (.call 3 (.n 4 (.tl (.n 1 .done)))))) (.two (.t 2 (.two (.gh (.tl .done) .nil) (.nil))) (.t 6 (.t 8 (.reg (.n 5 .done))))))))))) (.reg (.n 2 .done)))))))) (.two (.t 16 (.two (.gh (.tl .done) .nil) (.nil))) (.two (.t 2 (.two (.gh (.tl .done) .nil) (.nil))) (.t 5 (.nil))))))))))
def Jes:Shp:=⟨[(0,.d Jq),(1,.d (.sl .i)),(2,.d Qk),(3,.d .i)],[]⟩
def Q4r:Shp:=⟨[(0,.d (.sl Q7)),(1,.d .i),(2,.d .i)],[]⟩
def Jet:An:=.t 1 (.two (.dm 24 [10,11,12,13,14,15,16,17,18,19,20,21,22,23,24,25,26,27,9,28,29,30,3,4] [] (.n 17 (.call 0 (.n 6 (.tl (.n 1 .done)))))) (.two (.t 2 (.two (.gh (.tl .done) .nil) (.nil))) (.t 2 (.two (.t 3 (.un (.lp [0,3,4,35,36] [5000,5002] ⟨[(6,.d .i),(37,.d .i)],[]⟩ [(.x 0,⟨[(6,.d .i)],[]⟩)] (.t 1 (.two (.two (.nil) (.nil)) (.two (.un (.t 4 (.t 2 (.t 5 (.gh (.tl .done) .nil))))) (.reg (.n 2 .done)))))))) (.two (.t 2 (.two (.gh (.tl .done) .nil) (.nil))) (.t 18 (.t 1 (.nil))))))))
def Jeu:Shp:=⟨[(0,.p 5000 [])],[(5000,.var 114 (.ag (.cons (.d Jt) (.cons (.d Q3) (.cons (.d Qk) (.cons (.d Jo) (.cons (.d Qx) (.cons (.d Jq) (.cons (.d .i) (.cons (.ag (.cons (.d Qk) (.cons (.d .i) (.cons (.d .str) (.cons (.d .i) (.cons (.d .str) (.cons (.d (.sl Jy)) (.cons (.s 5001) (.cons (.d .i) (.cons (.d .i) (.cons (.d .i) (.cons (.s 5002) (.cons (.d .i) (.cons (.d .i) (.nil))))))))))))))) (.nil))))))))))),(5001,.row 35 Q7),(5002,.row 76 Ju)]⟩
def Q4s:Shp:=⟨[(0,.d .i)],[(5000,.var 114 (.ag (.cons (.d Jt) (.cons (.d Q3) (.cons (.d Qk) (.cons (.d Jo) (.cons (.d Qx) (.cons (.d Jq) (.cons (.d .i) (.cons (.ag (.cons (.d Qk) (.cons (.d .i) (.cons (.d .str) (.cons (.d .i) (.cons (.d .str) (.cons (.d (.sl Jy)) (.cons (.d (.sl Q7)) (.cons (.d .i) (.cons (.d .i) (.cons (.d .i) (.cons (.s 1) (.cons (.d .i) (.cons (.d .i) (.nil))))))))))))))) (.nil))))))))))),(1,.row 76 Ju)]⟩
def Jev:An:=.t 1 (.two (.reg (.n 1 (.call 0 (.done)))) (.two (.reg (.n 1 (.call 1 (.n 1 .done)))) (.nil)))
def Jew:Shp:=⟨[(0,.p 5000 [])],[(5000,.var 99 (.p 5001 [])),(5001,.var 114 (.ag (.cons (.d Jt) (.cons (.d Q3) (.cons (.d Qk) (.cons (.d Jo) (.cons (.d Qx) (.cons (.d Jq) (.cons (.d .i) (.cons (.ag (.cons (.d Qk) (.cons (.d .i) (.cons (.d .str) (.cons (.d .i) (.cons (.d .str) (.cons (.s 5002) (.cons (.s 5003) (.cons (.d .i) (.cons (.d .i) (.cons (.d .i) (.cons (.s 5004) (.cons (.d .i) (.cons (.d .i) (.nil))))))))))))))) (.nil))))))))))),(5002,.row 33 Jy),(5003,.row 35 Q7),(5004,.row 76 Ju)]⟩
def Q4t:Shp:=⟨[(0,.d .i)],[(5001,.var 114 (.ag (.cons (.d Jt) (.cons (.d Q3) (.cons (.d Qk) (.cons (.d Jo) (.cons (.d Qx) (.cons (.d Jq) (.cons (.d .i) (.cons (.ag (.cons (.d Qk) (.cons (.d .i) (.cons (.d .str) (.cons (.d .i) (.cons (.d .str) (.cons (.d (.sl Jy)) (.cons (.d (.sl Q7)) (.cons (.d .i) (.cons (.d .i) (.cons (.d .i) (.cons (.s 1) (.cons (.d .i) (.cons (.d .i) (.nil))))))))))))))) (.nil))))))))))),(1,.row 76 Ju)]⟩
def Qp2:An:=.t 2 (.two (.reg (.n 1 (.call 0 (.n 1 .done)))) (.nil))
def Qp3:Shp:=⟨[(0,.f 52 (.cons (.p 5000 []) (.nil))),(1,.p 5005 [])],[(5000,.var 99 (.p 5001 [])),(5001,.var 114 (.ag (.cons (.d Jt) (.cons (.d Q3) (.cons (.d Qk) (.cons (.d Jo) (.cons (.d Qx) (.cons (.d Jq) (.cons (.d .i) (.cons (.ag (.cons (.d Qk) (.cons (.d .i) (.cons (.d .str) (.cons (.d .i) (.cons (.d .str) (.cons (.s 5002) (.cons (.s 5003) (.cons (.d .i) (.cons (.d .i) (.cons (.d .i) (.cons (.s 5004) (.cons (.d .i) (.cons (.d .i) (.nil))))))))))))))) (.nil))))))))))),(5002,.row 33 Jy),(5003,.row 35 Q7),(5004,.row 76 Ju),(5005,.var 24 (.d .i))]⟩
def Qj3:Shp:=⟨[],[(5001,.var 114 (.ag (.cons (.d Jt) (.cons (.d Q3) (.cons (.d Qk) (.cons (.d Jo) (.cons (.d Qx) (.cons (.d Jq) (.cons (.d .i) (.cons (.ag (.cons (.d Qk) (.cons (.d .i) (.cons (.d .str) (.cons (.d .i) (.cons (.d .str) (.cons (.d (.sl Jy)) (.cons (.d (.sl Q7)) (.cons (.d .i) (.cons (.d .i) (.cons (.d .i) (.cons (.s 1) (.cons (.d .i) (.cons (.d .i) (.nil))))))))))))))) (.nil))))))))))),(5005,.var 24 (.d .i)),(1,.row 76 Ju)]⟩
def Q4u:An:=.t 1 (.two (.t 14 (.two (.gh (.tl .done) .nil) (.nil))) (.two (.reg (.n 3 (.call 0 (.call 1 (.n 1 .done))))) (.nil)))
def Q4v:Shp:=⟨[(0,.d .i),(1,.d .i)],[]⟩
def Qvn:Shp:=⟨[(0,.d Qp)],[]⟩
def Jex:An:=.t 1 (.two (.dr 10 (.n 10 .done) (.call 0 (.n 2 .done))) (.nil))
def Jey:Shp:=⟨[(0,.p 5000 [])],[(5000,.var 114 (.ag (.cons (.d Jt) (.cons (.d Q3) (.cons (.d Qk) (.cons (.d Jo) (.cons (.d Qx) (.cons (.d Jq) (.cons (.d .i) (.cons (.ag (.cons (.d Qk) (.cons (.d .i) (.cons (.d .str) (.cons (.d .i) (.cons (.d .str) (.cons (.d (.sl Jy)) (.cons (.d (.sl Q7)) (.cons (.d .i) (.cons (.d .i) (.cons (.d .i) (.cons (.s 5001) (.cons (.d .i) (.cons (.d .i) (.nil))))))))))))))) (.nil))))))))))),(5001,.row 76 Ju)]⟩
def Q4w:Shp:=⟨[(0,.d .i)],[]⟩
def Q4x:An:=.t 3 (.two (.t 17 (.un (.lp [22] [2,3] ⟨[(23,.d .i)],[]⟩ [(.x 0,⟨[],[]⟩)] (.t 1 (.two (.two (.nil) (.nil)) (.two (.un (.t 3 (.un (.t 6 (.two (.gh (.tl .done) .nil) (.t 6 (.two (.gh (.tl .done) .nil) (.nil)))))))) (.reg (.n 2 .done)))))))) (.t 1 (.nil)))
def Q4y:Shp:=⟨[(0,.d Je),(1,.d Je)],[]⟩
def Qvo:Shp:=⟨[(0,.d .i)],[]⟩
def Jez:An:=.t 1 (.t 6 (.two (.t 3 (.un (.lp [9,16,17,18] [9] ⟨[(8,.p 100000 [])],[(100000,.var 73 (.d Je))]⟩ [(.x 0,⟨[(8,.p 100100 [])],[(100100,.var 73 (.d Je))]⟩),(.r,⟨[(8,.p 100200 [])],[(100200,.var 73 (.d Je))]⟩)] (.t 1 (.two (.two (.nil) (.nil)) (.two (.un (.t 4 (.two (.reg (.n 2 (.call 0 (.n 1 .done)))) (.two (.t 2 (.nil)) (.gh (.tl .done) .nil))))) (.nil))))))) (.t 2 (.nil))))
def Je0:Shp:=⟨[(0,.d (.sl Je)),(1,.d .i),(2,.d .i),(3,.d .i)],[]⟩
def Q4z:Shp:=⟨[(0,.d Je)],[]⟩
def Je1:An:=.t 3 (.t 14 (.two (.t 8 (.two (.gh (.tl .done) .nil) (.nil))) (.t 3 (.two (.reg (.n 5 (.call 0 (.n 2 .done)))) (.two (.dr 9 (.n 9 .done) (.n 1 .done)) (.t 2 (.nil)))))))
def Je2:Shp:=⟨[(0,.d Qk),(1,.d .str),(2,.d .str),(3,.d Je),(4,.d .bool)],[]⟩
def Q40:Shp:=⟨[(0,.d Ti)],[]⟩
def Je3:An:=.t 4 (.two (.t 6 (.two (.gh (.tl .done) .nil) (.nil))) (.t 2 (.t 1 (.t 2 (.two (.t 3 (.un (.lp [10,11,25,26] [4] ⟨[],[]⟩ [(.x 0,⟨[],[]⟩)] (.t 1 (.two (.two (.gh (.tl .done) .nil) (.nil)) (.nil)))))) (.t 5 (.nil)))))))
def Je4:Shp:=⟨[(0,.d (.sl Y2)),(1,.d Ti),(2,.d .i)],[]⟩
def Q41:Shp:=⟨[(0,.d (.sl Ju)),(1,.d .i),(2,.d .i)],[]⟩
def Je5:An:=.t 1 (.two (.dc 19 [8,9,10,11,12,13,14,15,16,17,18,19,20,21,22,23,24,25,3] [5000] [5001] (.op ⟨.nl 1 .done,[],[],[],[5000]⟩ (.op ⟨.nl 1 .done,[],[5000],[],[5000]⟩ (.op ⟨.nl 1 .done,[],[],[],[5000]⟩ (.op ⟨.nl 1 .done,[],[],[],[5000]⟩ (.op ⟨.nl 1 .done,[],[5000],[],[]⟩ (.op ⟨.nl 1 .done,[],[],[],[5000]⟩ (.op ⟨.nl 1 .done,[],[5000],[],[5000]⟩ (.op ⟨.nl 1 .done,[],[],[],[5000]⟩ (.op ⟨.nl 1 .done,[],[],[],[5000]⟩ (.op ⟨.nl 1 .done,[],[5000],[],[]⟩ (.op ⟨.nl 1 .done,[],[],[],[5000]⟩ (.op ⟨.nl 1 .done,[],[5000],[],[5000]⟩ (.op ⟨.nl 1 .done,[],[],[],[5000]⟩ (.op ⟨.nl 1 .done,[],[],[],[5000]⟩ (.op ⟨.nl 1 .done,[],[5000],[],[]⟩ (.op ⟨.nl 1 .done,[],[],[],[5000]⟩ (.op ⟨.call 0 (.done),[],[5000,5001],[],[]⟩ (.op ⟨.call 1 (.done),[],[],[],[]⟩ (.op ⟨.nl 1 .done,[],[],[3],[3]⟩ (.tl (.n 1 .done)))))))))))))))))))))) (.two (.dr 15 (.n 15 .done) (.call 2 (.n 1 .done))) (.two (.dm 34 [43,44,45,46,47,48,49,50,51,52,53,54,55,56,57,58,59,60,61,62,63,64,65,66,67,68,69,70,42,71,72,73,5,6] [] (.n 21 (.call 3 (.n 5 (.call 4 (.n 6 (.tl (.n 1 .done)))))))) (.two (.t 2 (.two (.gh (.tl .done) .nil) (.nil))) (.t 12 (.t 1 (.nil)))))))
def Je6:Shp:=⟨[(0,.p 5000 [])],[(5000,.var 114 (.ag (.cons (.d Jt) (.cons (.d Q3) (.cons (.d Qk) (.cons (.d Jo) (.cons (.d Qx) (.cons (.d Jq) (.cons (.d .i) (.cons (.ag (.cons (.d Qk) (.cons (.d .i) (.cons (.d .str) (.cons (.d .i) (.cons (.d .str) (.cons (.d (.sl Jy)) (.cons (.d (.sl Q7)) (.cons (.d .i) (.cons (.d .i) (.cons (.d .i) (.cons (.s 5001) (.cons (.d .i) (.cons (.d .i) (.nil))))))))))))))) (.nil))))))))))),(5001,.row 76 Ju)]⟩
def Q42:Shp:=⟨[(0,.d .i)],[(5000,.var 114 (.d Gc))]⟩
def Je7:An:=.t 1 (.two (.reg (.n 1 (.call 0 (.n 1 .done)))) (.nil))
def Je8:Shp:=⟨[(0,.p 5000 [])],[(5000,.var 99 (.p 5001 [])),(5001,.var 114 (.ag (.cons (.d Jt) (.cons (.d Q3) (.cons (.d Qk) (.cons (.d Jo) (.cons (.d Qx) (.cons (.d Jq) (.cons (.d .i) (.cons (.ag (.cons (.d Qk) (.cons (.d .i) (.cons (.d .str) (.cons (.d .i) (.cons (.d .str) (.cons (.d (.sl Jy)) (.cons (.d (.sl Q7)) (.cons (.d .i) (.cons (.d .i) (.cons (.d .i) (.cons (.s 5002) (.cons (.d .i) (.cons (.d .i) (.nil))))))))))))))) (.nil))))))))))),(5002,.row 76 Ju)]⟩
def Q43:Shp:=⟨[(0,.d .i)],[(5001,.var 114 (.d Gc))]⟩
def Qp4:An:=.t 2 (.two (.reg (.n 1 (.call 0 (.n 1 .done)))) (.nil))
def Qp5:Shp:=⟨[(0,.f 55 (.cons (.p 5000 []) (.nil))),(1,.p 5003 [])],[(5000,.var 99 (.p 5001 [])),(5001,.var 114 (.ag (.cons (.d Jt) (.cons (.d Q3) (.cons (.d Qk) (.cons (.d Jo) (.cons (.d Qx) (.cons (.d Jq) (.cons (.d .i) (.cons (.ag (.cons (.d Qk) (.cons (.d .i) (.cons (.d .str) (.cons (.d .i) (.cons (.d .str) (.cons (.d (.sl Jy)) (.cons (.d (.sl Q7)) (.cons (.d .i) (.cons (.d .i) (.cons (.d .i) (.cons (.s 5002) (.cons (.d .i) (.cons (.d .i) (.nil))))))))))))))) (.nil))))))))))),(5002,.row 76 Ju),(5003,.var 24 (.d .i))]⟩
def Qj4:Shp:=⟨[],[(5001,.var 114 (.ag (.cons (.d Jt) (.cons (.d Q3) (.cons (.d Qk) (.cons (.d Jo) (.cons (.d Qx) (.cons (.d Jq) (.cons (.d .i) (.cons (.ag (.cons (.d Qk) (.cons (.d .i) (.cons (.d .str) (.cons (.d .i) (.cons (.d .str) (.cons (.d (.sl Jy)) (.cons (.d (.sl Q7)) (.cons (.d .i) (.cons (.d .i) (.cons (.d .i) (.cons (.d (.sl Ju)) (.cons (.d .i) (.cons (.d .i) (.nil))))))))))))))) (.nil))))))))))),(5003,.var 24 (.d .i))]⟩
def Q44:An:=.t 2 (.two (.two (.reg (.n 1 (.call 0 (.n 1 .done)))) (.two (.gh (.tl .done) .nil) (.nil))) (.t 9 (.nil)))
def Q45:Shp:=⟨[(0,.d Jp)],[]⟩
def Qvp:Shp:=⟨[(0,.d .i)],[]⟩
def Q46:An:=.t 3 (.two (.two (.reg (.n 1 (.call 0 (.n 1 .done)))) (.t 2 (.two (.gh (.tl .done) .nil) (.nil)))) (.two (.two (.reg (.n 1 (.call 1 (.n 1 .done)))) (.two (.gh (.tl .done) .nil) (.nil))) (.two (.two (.reg (.n 2 (.call 2 (.n 1 .done)))) (.two (.gh (.tl .done) .nil) (.nil))) (.t 6 (.t 3 (.nil))))))
def Q47:Shp:=⟨[(0,.d Jp),(1,.d .i)],[]⟩
def Qvq:Shp:=⟨[(0,.d Jp),(1,.d .i)],[]⟩
def Qj5:An:=.t 1 (.t 2 (.two (.t 3 (.un (.lp [9,10] [] ⟨[(3,.m 100000),(11,.d .i)],[(100000,.map .i .i)]⟩ [(.x 0,⟨[(3,.m 100100)],[(100100,.map .i .i)]⟩)] (.t 1 (.two (.two (.nil) (.nil)) (.two (.un (.t 6 (.t 9 (.t 2 (.t 5 (.gh (.tl .done) .nil)))))) (.reg (.n 2 .done)))))))) (.t 2 (.nil))))
def Qj6:Shp:=⟨[(0,.s 5000)],[(5000,.row 71 Jp)]⟩
def Qf8:Shp:=⟨[(0,.m 1)],[(1,.map .i .i)]⟩
def Je9:An:=.t 4 (.two (.reg (.n 1 (.call 0 (.n 2 .done)))) (.two (.reg (.n 2 (.call 1 (.n 7 .done)))) (.two (.t 10 (.two (.t 5 (.nil)) (.nil))) (.two (.reg (.n 6 (.call 2 (.n 2 .done)))) (.two (.reg (.n 6 (.call 3 (.n 6 .done)))) (.two (.t 2 (.two (.gh (.tl .done) .nil) (.nil))) (.t 6 (.t 8 (.nil)))))))))
def Jfa:Shp:=⟨[(0,.d Q3),(1,.d .i),(2,.d .i),(3,.d .bool)],[]⟩
def Q48:Shp:=⟨[(0,.d Q3),(1,.d .i),(2,.d .i)],[]⟩
def Qp6:An:=.t 1 (.two (.dr 10 (.n 10 .done) (.call 0 (.n 2 .done))) (.nil))
def Qp7:Shp:=⟨[(0,.p 5000 [])],[(5000,.var 114 (.d Gc))]⟩
def Qj7:Shp:=⟨[(0,.d .i)],[]⟩
def Q49:An:=.t 1 (.two (.t 2 (.un (.lp [0,5,6] [] ⟨[],[]⟩ [(.r,⟨[(2,.d .bool)],[]⟩)] (.t 1 (.two (.two (.nil) (.gh (.tl .done) .nil)) (.two (.un (.t 2 (.t 3 (.two (.t 1 (.nil)) (.gh (.tl .done) .nil))))) (.nil))))))) (.nil))
def Q5a:Shp:=⟨[(0,.d .i)],[]⟩
def Qvr:Shp:=⟨[(0,.d .bool)],[]⟩
def Q5b:An:=.t 2 (.two (.reg (.n 9 (.sp 11 4 [1] [1] ⟨[(15,.d .bool)],[]⟩ (.nl 2 (.call 0 (.n 1 .done))) (.nl 3 (.n 1 .done)) (.n 11 .done)))) (.nil))
def Q5c:Shp:=⟨[(0,.d Je)],[]⟩
def Qvs:Shp:=⟨[(0,.d .bool)],[]⟩
def Q5d:An:=.t 2 (.t 19 (.nil))
def Q5e:Shp:=⟨[(0,.d Je)],[]⟩
def Qvt:Shp:=⟨[(0,.d .bool)],[]⟩
def Q5f:An:=.t 1 (.two (.t 3 (.un (.lp [0,5,6] [] ⟨[(7,.d .i)],[]⟩ [(.x 0,⟨[],[]⟩)] (.t 1 (.two (.two (.nil) (.nil)) (.two (.un (.t 6 (.two (.two (.reg (.n 1 (.call 0 (.n 2 (.sp 15 4 [3,4,7] [4] ⟨[(19,.d .bool)],[]⟩ (.nl 3 (.n 1 .done)) (.nl 1 (.call 1 (.nl 1 (.n 1 .done)))) (.n 10 .done)))))) (.two (.gh (.tl .done) .nil) (.nil))) (.two (.jn [7] [4] [(.n,⟨[(41,.d .bool)],[]⟩)] (.dm 9 [30,31,32,33,34,35,36,37,38] [] (.n 3 (.so 32 (.tl .done) (.n 6 (.tl (.nl 2 (.n 1 .done)))))))) (.two (.gh (.tl .done) .nil) (.nil)))))) (.reg (.n 2 .done)))))))) (.t 1 (.nil)))
def Q5g:Shp:=⟨[(0,.d (.sl Je))],[]⟩
def Qvu:Shp:=⟨[(0,.d .bool)],[]⟩
def Q5h:An:=.t 2 (.two (.t 3 (.un (.lp [0,1,6,7,8] [] ⟨[],[]⟩ [(.x 0,⟨[],[]⟩),(.r,⟨[(2,.d .i),(3,.d .i)],[]⟩)] (.t 1 (.two (.two (.nil) (.nil)) (.two (.un (.t 6 (.two (.reg (.n 2 (.call 0 (.done)))) (.un (.t 2 (.two (.t 5 (.nil)) (.gh (.tl .done) .nil))))))) (.nil))))))) (.two (.dr 6 (.n 6 .done) (.done)) (.nil)))
def Q5i:Shp:=⟨[(0,.p 5000 []),(1,.p 5001 [])],[(5000,.var 55 (.d (.sl Je))),(5001,.var 73 (.d Je))]⟩
def Qvv:Shp:=⟨[(0,.d .i),(1,.d .i)],[]⟩
def Jfb:An:=.t 4 (.two (.two (.reg (.n 1 (.call 0 (.n 2 (.sp 14 4 [2,3] [2,3] ⟨[(18,.d .bool)],[]⟩ (.nl 3 (.n 1 .done)) (.nl 1 (.call 1 (.nl 1 (.n 1 .done)))) (.done)))))) (.two (.gh (.tl .done) .nil) (.nil))) (.two (.two (.reg (.n 1 (.call 2 (.n 1 .done)))) (.two (.gh (.tl .done) .nil) (.nil))) (.t 2 (.two (.reg (.n 1 (.call 3 (.n 5 .done)))) (.t 3 (.two (.jn [2,7,8] [2,3] [(.n,⟨[(9,.p 100100 [])],[(100100,.var 73 (.d Je))]⟩)] (.t 3 (.two (.two (.dr 9 (.n 9 .done) (.n 1 .done)) (.dr 9 (.n 9 .done) (.n 1 .done))) (.nil)))) (.two (.two (.reg (.n 1 (.call 2 (.n 1 .done)))) (.two (.gh (.tl .done) .nil) (.nil))) (.t 5 (.two (.t 8 (.t 5 (.gh (.tl .done) .nil))) (.t 7 (.nil)))))))))))
def Jfc:Shp:=⟨[(0,.d (.sl Je)),(1,.d Je)],[]⟩
def Q5j:Shp:=⟨[(0,.s 1),(1,.d .i)],[(1,.row 73 Je)]⟩
def Jfd:An:=.t 1 (.two (.dm 27 [9,10,11,12,13,14,15,16,17,18,19,20,21,22,23,24,25,26,27,28,8,29,30,31,3,1000000025,4] [] (.n 19 (.call 0 (.n 7 (.tl (.n 1 .done)))))) (.two (.dc 30 [33,34,35,36,37,38,39,40,41,42,43,44,45,46,47,48,49,50,51,52,53,54,55,56,57,58,32,59,60,6] [3,5000] [] (.op ⟨.nl 1 .done,[],[],[],[3]⟩ (.op ⟨.nl 1 .done,[],[3],[],[]⟩ (.op ⟨.nl 1 .done,[],[],[],[5000]⟩ (.op ⟨.nl 1 .done,[],[5000],[],[5000]⟩ (.op ⟨.nl 1 .done,[],[],[],[5000]⟩ (.op ⟨.nl 1 .done,[],[],[],[5000]⟩ (.op ⟨.nl 1 .done,[],[5000],[],[]⟩ (.op ⟨.nl 1 .done,[],[],[],[5000]⟩ (.op ⟨.nl 1 .done,[],[5000],[],[5000]⟩ (.op ⟨.nl 1 .done,[],[],[],[5000]⟩ (.op ⟨.nl 1 .done,[],[],[],[5000]⟩ (.op ⟨.nl 1 .done,[],[5000],[],[]⟩ (.op ⟨.nl 1 .done,[],[],[],[5000]⟩ (.op ⟨.call 1 (.done),[],[5000],[],[]⟩ (.op ⟨.nl 1 .done,[],[],[],[5000]⟩ (.op ⟨.nl 1 .done,[],[5000],[],[5000]⟩ (.op ⟨.nl 1 .done,[],[],[],[5000]⟩ (.op ⟨.nl 1 .done,[],[],[],[5000]⟩ (.op ⟨.nl 1 .done,[],[5000],[],[]⟩ (.op ⟨.nl 1 .done,[],[],[],[5000]⟩ (.op ⟨.nl 1 .done,[],[5000],[],[5000]⟩ (.op ⟨.nl 1 .done,[],[],[],[5000]⟩ (.op ⟨.nl 1 .done,[],[],[],[5000]⟩ (.op ⟨.nl 1 .done,[],[5000],[],[]⟩ (.op ⟨.nl 1 .done,[],[],[],[]⟩ (.op ⟨.call 2 (.done),[],[],[15801],[15801]⟩ (.op ⟨.nl 1 .done,[],[],[],[15801]⟩ (.op ⟨.nl 1 .done,[],[],[],[15801]⟩ (.op ⟨.nl 1 .done,[],[],[],[]⟩ (.op ⟨.nl 1 .done,[],[],[],[15801]⟩ (.tl (.n 1 .done))))))))))))))))))))))))))))))))) (.two (.t 2 (.two (.gh (.tl .done) .nil) (.nil))) (.t 3 (.t 5 (.t 12 (.t 1 (.nil))))))))
def Jfe:Shp:=⟨[(0,.p 5000 [])],[(5000,.var 114 (.d Gc))]⟩
def Q5k:Shp:=⟨[(0,.d .i)],[(5000,.var 114 (.ag (.cons (.d Jt) (.cons (.ag (.cons (.d (.sl Qy)) (.cons (.d (.sl Jp)) (.cons (.s 1) (.nil))))) (.cons (.d Qk) (.cons (.d Jo) (.cons (.d Qx) (.cons (.d Jq) (.cons (.d .i) (.cons (.d Jm) (.nil))))))))))),(1,.row 73 Je)]⟩
def Jff:An:=.t 1 (.two (.reg (.n 1 (.call 0 (.n 1 .done)))) (.nil))
def Jfg:Shp:=⟨[(0,.p 5000 [])],[(5000,.var 99 (.p 5001 [])),(5001,.var 114 (.d Gc))]⟩
def Q5l:Shp:=⟨[(0,.d .i)],[(5001,.var 114 (.ag (.cons (.d Jt) (.cons (.ag (.cons (.d (.sl Qy)) (.cons (.d (.sl Jp)) (.cons (.s 1) (.nil))))) (.cons (.d Qk) (.cons (.d Jo) (.cons (.d Qx) (.cons (.d Jq) (.cons (.d .i) (.cons (.d Jm) (.nil))))))))))),(1,.row 73 Je)]⟩
def Qp8:An:=.t 2 (.two (.reg (.n 1 (.call 0 (.n 1 .done)))) (.nil))
def Qp9:Shp:=⟨[(0,.f 57 (.cons (.p 5000 []) (.nil))),(1,.p 5002 [])],[(5000,.var 99 (.p 5001 [])),(5001,.var 114 (.d Gc)),(5002,.var 24 (.d .i))]⟩
def Qj8:Shp:=⟨[],[(5001,.var 114 (.ag (.cons (.d Jt) (.cons (.ag (.cons (.d (.sl Qy)) (.cons (.d (.sl Jp)) (.cons (.d (.sl Je)) (.nil))))) (.cons (.d Qk) (.cons (.d Jo) (.cons (.d Qx) (.cons (.d Jq) (.cons (.d .i) (.cons (.d Jm) (.nil))))))))))),(5002,.var 24 (.d .i))]⟩
def Jfh:An:=.t 2 (.two (.dm 8 [6,7,8,9,10,11,12,3] [] (.n 8 (.tl (.n 1 .done)))) (.two (.t 4 (.un (.lp [2,14,15] [1,2] ⟨[(3,.p 100000 []),(16,.d .i)],[(100000,.var 57 (.ag (.cons (.s 100001) (.cons (.s 100002) (.cons (.s 100003) (.nil)))))),(100001,.row 142 Qy),(100002,.row 71 Jp),(100003,.row 73 Je)]⟩ [(.x 0,⟨[(3,.p 100100 [])],[(100100,.var 57 (.ag (.cons (.s 100101) (.cons (.s 100102) (.cons (.s 100103) (.nil)))))),(100101,.row 142 Qy),(100102,.row 71 Jp),(100103,.row 73 Je)]⟩)] (.t 1 (.two (.two (.nil) (.nil)) (.two (.un (.t 4 (.t 5 (.reg (.n 3 (.fz 22 (.n 4 .done))))))) (.reg (.n 2 .done)))))))) (.t 2 (.nil))))
def Jfi:Shp:=⟨[(0,.d Q3)],[]⟩
def Q5m:Shp:=⟨[(0,.d Q3)],[]⟩
def Qqa:An:=.t 5 (.two (.t 7 (.two (.gh (.tl .done) .nil) (.nil))) (.t 9 (.t 2 (.t 2 (.two (.reg (.n 2 (.call 0 (.done)))) (.two (.reg (.n 2 (.call 1 (.done)))) (.two (.reg (.n 2 (.call 2 (.done)))) (.two (.reg (.n 2 (.call 3 (.done)))) (.two (.reg (.n 2 (.call 4 (.done)))) (.two (.t 2 (.two (.two (.dm 6 [47,48,49,50,51,1000000005] [6] (.n 1 (.call 5 (.n 4 (.tl (.n 1 .done)))))) (.nil)) (.nil))) (.two (.dm 9 [52,53,54,55,56,57,58,59,1000000008] [6] (.n 9 (.tl (.n 1 .done)))) (.nil))))))))))))
def Qqb:Shp:=⟨[(0,.d Jt),(1,.d Q3),(2,.d Qk)],[]⟩
def Qj9:Shp:=⟨[(0,.d Q3),(1,.d Jm)],[]⟩
def Jfj:An:=.t 2 (.two (.dm 8 [6,7,8,9,10,11,12,3] [] (.n 8 (.tl (.n 1 .done)))) (.two (.t 4 (.un (.lp [2,3,15,16] [1,2,3,8,11] ⟨[],[]⟩ [(.x 0,⟨[],[]⟩)] (.t 1 (.two (.two (.gh (.tl .done) .nil) (.nil)) (.nil)))))) (.t 2 (.nil))))
def Jfk:Shp:=⟨[(0,.d Q3)],[]⟩
def Q5n:Shp:=⟨[(0,.ag (.cons (.ns) (.cons (.s 1) (.cons (.s 2) (.nil)))))],[(1,.row 71 Jp),(2,.row 73 Je)]⟩
def Q5o:An:=.t 2 (.t 10 (.nil))
def Q5p:Shp:=⟨[(0,.d Qk)],[]⟩
def Qvw:Shp:=⟨[(0,.d Hs)],[]⟩
def Q5q:An:=.t 3 (.two (.un (.t 4 (.two (.gh (.tl .done) .nil) (.t 6 (.two (.t 6 (.nil)) (.gh (.tl .done) .nil)))))) (.nil))
def Q5r:Shp:=⟨[(0,.d Hs),(1,.d Hs)],[]⟩
def Qvx:Shp:=⟨[(0,.d .bool)],[]⟩
def Jfl:An:=.t 1 (.two (.t 3 (.two (.t 3 (.nil)) (.nil))) (.two (.dm 11 [11,12,13,14,15,16,17,18,19,20,21] [] (.n 5 (.call 0 (.n 5 (.tl (.call 0 (.n 2 .done))))))) (.t 4 (.two (.un (.lp [] [] ⟨[(3,.d (.sl Qk)),(4,.d (.sl Qk)),(5,.s 100000)],[(100000,.row 23 Qk)]⟩ [(.x 0,⟨[(5,.s 100200)],[(100200,.row 23 Qk)]⟩)] (.two (.t 8 (.two (.nil) (.nil))) (.un (.two (.jn [3,4,5] [100000] [(.n,⟨[(53,.d .bool)],[]⟩)] (.dm 15 [34,35,36,37,38,39,40,41,42,43,44,45,46,47,48] [] (.n 4 (.so 37 (.n 11 (.tl (.nl 4 (.n 1 .done)))) (.n 4 (.so 41 (.n 3 (.call 1 (.n 3 (.tl (.call 1 (.call 2 (.nl 2 (.n 1 .done)))))))) (.n 7 (.tl (.nl 4 (.n 1 .done)))))))))) (.two (.t 7 (.reg (.n 3 .done))) (.t 7 (.reg (.n 3 .done))))))))) (.t 2 (.nil))))))
def Jfm:Shp:=⟨[(0,.d (.sl Qk))],[]⟩
def Q5s:Shp:=⟨[(0,.d (.sl Qk))],[]⟩
def Jfn:An:=.t 4 (.two (.reg (.n 1 (.call 0 (.n 2 .done)))) (.t 1 (.two (.two (.reg (.n 1 (.call 1 (.n 2 .done)))) (.un (.gh (.fz 11501 (.fz 11502 (.done))) (.lp [3,6,17,18] [3,4,6] ⟨[(8,.p 100000 []),(9,.s 100001),(19,.d .i)],[(100000,.var 57 (.ag (.cons (.d (.sl Qy)) (.cons (.d (.sl Jp)) (.cons (.d (.sl Je)) (.nil)))))),(100001,.row 29 Jm)]⟩ [(.x 0,⟨[(8,.p 100100 []),(9,.s 100101)],[(100100,.var 57 (.d Q3)),(100101,.row 29 Jm)]⟩)] (.t 1 (.two (.two (.nil) (.nil)) (.two (.un (.t 4 (.two (.reg (.n 3 (.call 2 (.n 7 .done)))) (.t 2 (.reg (.n 5 .done)))))) (.reg (.n 2 .done))))))))) (.t 4 (.nil)))))
def Jfo:Shp:=⟨[(0,.d Jt),(1,.d Q3),(2,.d (.sl Qk))],[]⟩
def Q5t:Shp:=⟨[(0,.d Q3),(1,.s 1)],[(1,.row 29 Jm)]⟩
def Jfp:An:=.t 3 (.two (.reg (.n 3 (.call 0 (.n 4 .done)))) (.nil))
def Jfq:Shp:=⟨[(0,.d Jt),(1,.d (.sl Qk))],[]⟩
def Q5u:Shp:=⟨[(0,.d Q3),(1,.d (.sl Jm))],[]⟩
def C5:An:=.t 1 (.two (.t 1 (.un (.lp [0,1] [] ⟨[(5,.d .i)],[]⟩ [(.x 0,⟨[],[]⟩),(.r,⟨[(4,.d .i)],[]⟩)] (.two (.t 4 (.two (.nil) (.nil))) (.two (.un (.t 8 (.two (.t 2 (.nil)) (.nil)))) (.reg (.n 3 .done))))))) (.t 1 (.nil)))
def C6:Shp:=⟨[(0,.d (.sl Jm)),(1,.d .i)],[]⟩
def Bv:Shp:=⟨[(0,.d .i)],[]⟩
def Bw:An:=.t 1 (.two (.t 4 (.two (.t 1 (.nil)) (.nil))) (.two (.t 1 (.un (.lp [0] [] ⟨[(5,.d .i)],[]⟩ [(.x 0,⟨[],[]⟩),(.r,⟨[(4,.d .bool)],[]⟩)] (.two (.t 4 (.two (.nil) (.nil))) (.two (.un (.t 6 (.two (.jn [5] [6] [(.n,⟨[(48,.d .bool)],[]⟩)] (.dr 6 (.n 6 .done) (.call 0 (.n 21 .done)))) (.two (.t 1 (.nil)) (.nil))))) (.reg (.n 3 .done))))))) (.t 1 (.nil))))
def Bx:Shp:=⟨[(0,.d (.sl Jm)),(1,.d .i)],[]⟩
def A6:Shp:=⟨[(0,.d .bool)],[]⟩
def Qqc:An:=.t 3 (.two (.reg (.n 3 (.call 0 (.n 4 .done)))) (.nil))
def Qqd:Shp:=⟨[(0,.d Jt),(1,.d (.sl Qk))],[]⟩
def Qka:Shp:=⟨[(0,.d Q3),(1,.s 1)],[(1,.row 29 Jm)]⟩
def Jfr:An:=.t 2 (.two (.dm 4 [5,6,7,8] [] (.n 4 (.tl (.n 1 (.call 0 (.n 1 .done)))))) (.nil))
def Jfs:Shp:=⟨[(0,.d (.sl Qk)),(1,.d Qk)],[]⟩
def Q5v:Shp:=⟨[(0,.d (.sl Qk))],[]⟩
def I7:An:=.t 2 (.t 4 (.nil))
def I8:Shp:=⟨[(0,.d Jm)],[]⟩
def D0:Shp:=⟨[(0,.d .i)],[]⟩
def Qc8:An:=.t 2 (.t 4 (.t 16 (.nil)))
def Qc9:Shp:=⟨[(0,.d Jm)],[]⟩
def Qah:Shp:=⟨[(0,.d Ja)],[]⟩
def I9:An:=.t 1 (.two (.un (.t 3 (.two (.nil) (.t 3 (.two (.nil) (.nil)))))) (.two (.reg (.n 3 (.call 0 (.n 2 .done)))) (.two (.dr 8 (.n 8 .done) (.n 1 .done)) (.two (.dr 8 (.n 8 .done) (.n 1 .done)) (.t 2 (.nil))))))
def La:Shp:=⟨[(0,.p 5000 []),(1,.p 5001 [])],[(5000,.var 29 (.d Jm)),(5001,.var 29 (.d Jm))]⟩
def D1:Shp:=⟨[(0,.d Ja)],[]⟩
def By:An:=.t 1 (.two (.un (.t 3 (.two (.two (.reg (.n 3 (.call 0 (.n 1 .done)))) (.nil)) (.nil)))) (.nil))
def Bz:Shp:=⟨[(0,.np),(1,.p 5000 [])],[(5000,.var 29 (.d Jm))]⟩
def A7:Shp:=⟨[(0,.d Ja)],[]⟩
def B1:An:=.t 1 (.two (.un (.t 3 (.two (.nil) (.t 3 (.two (.two (.reg (.n 3 (.call 0 (.n 2 .done)))) (.t 10 (.t 2 (.nil)))) (.nil)))))) (.nil))
def B2:Shp:=⟨[(0,.p 5000 []),(1,.np)],[(5000,.var 29 (.d Jm))]⟩
def A8:Shp:=⟨[(0,.d Ja)],[]⟩
def Nw:An:=.t 3 (.two (.t 5 (.two (.t 6 (.nil)) (.nil))) (.t 6 (.nil)))
def Nx:Shp:=⟨[(0,.d Ja),(1,.d Ja)],[]⟩
def Mh:Shp:=⟨[(0,.d .bool)],[]⟩
def Mi:An:=.t 1 (.t 1 (.two (.t 3 (.un (.lp [8,9] [] ⟨[(3,.s 100000),(10,.d .i)],[(100000,.row 51 Ja)]⟩ [(.x 0,⟨[(3,.s 100500)],[(100500,.row 51 Ja)]⟩)] (.t 1 (.two (.two (.nil) (.nil)) (.two (.jn [10] [] [(.n,⟨[(3,.s 100400)],[(100400,.row 51 Ja)]⟩)] (.un (.t 4 (.two (.t 8 (.two (.nil) (.nil))) (.t 3 (.two (.un (.lp [3,5,10] [5,100000] ⟨[(6,.d .i)],[]⟩ [(.x 2,⟨[(6,.d .i)],[]⟩)] (.two (.two (.jn [6] [] [(.n,⟨[(34,.d .bool)],[]⟩)] (.dm 9 [24,25,26,27,28,29,30,31,32] [] (.n 3 (.so 26 (.n 6 (.tl (.call 0 (.n 1 .done)))) (.n 6 (.tl (.nl 1 (.n 1 .done)))))))) (.two (.nil) (.nil))) (.un (.reg (.n 3 .done)))))) (.two (.reg (.n 2 (.fz 100000 (.n 3 .done)))) (.t 5 (.reg (.n 6 .done)))))))))) (.reg (.n 2 .done)))))))) (.t 2 (.nil))))
def Mj:Shp:=⟨[(0,.d (.sl Ja))],[]⟩
def Lb:Shp:=⟨[(0,.s 1)],[(1,.row 51 Ja)]⟩
def Em:An:=.t 1 (.t 2 (.two (.t 3 (.un (.lp [0,1,2,3,23,24] [] ⟨[(9,.m 100000),(25,.d .i)],[(100000,.map .i .i)]⟩ [(.x 0,⟨[(9,.m 100100)],[(100100,.map .i .i)]⟩)] (.t 1 (.two (.two (.nil) (.nil)) (.two (.un (.t 6 (.reg (.n 3 (.call 0 (.n 2 .done)))))) (.reg (.n 2 .done)))))))) (.t 2 (.t 1 (.two (.t 3 (.un (.lp [0,2,3,9,37,38] [100100] ⟨[(12,.m 100200),(13,.s 100201),(39,.d .i)],[(100200,.map .i .bool),(100201,.row 51 Ja)]⟩ [(.x 2,⟨[(12,.m 100400),(13,.s 100401)],[(100400,.map .i .bool),(100401,.row 51 Ja)]⟩)] (.t 1 (.two (.two (.nil) (.nil)) (.two (.jn [39] [] [(.n,⟨[(12,.m 100300),(13,.s 100301)],[(100300,.map .i .bool),(100301,.row 51 Ja)]⟩)] (.un (.t 4 (.two (.reg (.n 2 (.call 0 (.n 1 .done)))) (.t 8 (.t 1 (.two (.t 6 (.t 3 (.reg (.n 2 (.call 1 (.n 3 .done)))))) (.reg (.n 2 (.call 2 (.n 3 .done))))))))))) (.reg (.n 2 .done)))))))) (.two (.t 3 (.un (.lp [2,3,12,70,71] [100100,100400] ⟨[(13,.s 100500),(72,.d .i)],[(100500,.row 51 Ja)]⟩ [(.x 4,⟨[(13,.s 100700)],[(100700,.row 51 Ja)]⟩)] (.t 1 (.two (.two (.nil) (.nil)) (.two (.jn [72] [] [(.n,⟨[(13,.s 100600)],[(100600,.row 51 Ja)]⟩)] (.un (.t 4 (.two (.reg (.n 3 (.call 0 (.n 2 .done)))) (.two (.reg (.n 2 (.call 3 (.n 3 .done)))) (.nil)))))) (.reg (.n 2 .done)))))))) (.two (.reg (.n 1 (.call 4 (.n 1 .done)))) (.nil))))))))
def Eo:Shp:=⟨[(0,.d (.sl Jm)),(1,.d (.sl Jm)),(2,.f 38 (.nil)),(3,.f 39 (.nil))],[]⟩
def Hu:Shp:=⟨[(0,.s 1)],[(1,.row 51 Ja)]⟩
def Ny:An:=.t 1 (.two (.reg (.n 2 (.call 0 (.n 1 .done)))) (.nil))
def Nz:Shp:=⟨[(0,.d (.sl Jm)),(1,.d (.sl Jm))],[]⟩
def Mk:Shp:=⟨[(0,.s 1)],[(1,.row 51 Ja)]⟩
def Jft:An:=.t 3 (.two (.reg (.n 2 (.call 0 (.n 6 .done)))) (.two (.dm 10 [18,19,20,21,22,17,23,24,9,1000000009] [] (.n 3 (.call 1 (.call 2 (.n 5 (.tl (.n 1 .done))))))) (.two (.reg (.n 2 (.call 3 (.n 1 .done)))) (.nil))))
def Jfu:Shp:=⟨[(0,.d Jt),(1,.d (.sl Qk)),(2,.d Qk)],[]⟩
def Q5w:Shp:=⟨[(0,.s 1)],[(1,.row 51 Ja)]⟩
def Jfv:An:=.t 1 (.two (.t 1 (.un (.t 2 (.two (.gh (.tl .done) .nil) (.t 2 (.two (.t 1 (.nil)) (.gh (.tl .done) .nil))))))) (.nil))
def Jfw:Shp:=⟨[(0,.d .i)],[]⟩
def Q5x:Shp:=⟨[(0,.d .str)],[]⟩
def Jfx:An:=.t 1 (.t 1 (.t 1 (.two (.t 3 (.un (.lp [1,14,15] [] ⟨[(5,.s 100000),(6,.s 100001),(16,.d .i)],[(100000,.row 86 Xk),(100001,.row 3 .i)]⟩ [(.x 0,⟨[(5,.s 100600)],[(100600,.row 86 Xk)]⟩)] (.t 1 (.two (.two (.nil) (.nil)) (.two (.un (.t 4 (.two (.t 4 (.two (.gh (.tl .done) .nil) (.nil))) (.t 1 (.two (.un (.lp [5,6,8,9,16] [8,100000,100001] ⟨[],[]⟩ [(.x 2,⟨[],[]⟩)] (.two (.two (.dr 33 (.n 5 (.sp 28 28 [] [] ⟨[(56,.d .bool)],[]⟩ (.tl .done) (.nl 27 (.n 1 .done)) (.done))) (.done)) (.two (.gh (.tl .done) .nil) (.nil))) (.nil)))) (.two (.two (.dr 23 (.n 5 (.sp 63 9 [5,6,8,9,16] [8,100000,100001] ⟨[(72,.d .bool)],[]⟩ (.nl 8 (.n 1 .done)) (.tl .done) (.n 1 (.sp 73 8 [5,6,8,9,16] [8,100000,100001] ⟨[(81,.d .bool)],[]⟩ (.nl 7 (.n 1 .done)) (.tl .done) (.done))))) (.done)) (.two (.two (.dm 7 [82,83,84,85,86,87,10] [] (.n 4 (.call 0 (.n 2 (.tl (.n 1 .done)))))) (.two (.gh (.fz 100000 (.done)) (.dc 10 [88,89,90,91,92,93,94,95,96,97] [10] [] (.op ⟨.nl 1 .done,[],[],[],[]⟩ (.op ⟨.nl 1 .done,[],[],[],[]⟩ (.op ⟨.nl 1 .done,[],[],[],[]⟩ (.op ⟨.nl 1 .done,[],[],[91],[91]⟩ (.op ⟨.nl 1 .done,[],[10],[],[]⟩ (.op ⟨.nl 1 .done,[],[],[],[]⟩ (.op ⟨.nl 1 .done,[91],[],[94],[94]⟩ (.op ⟨.nl 1 .done,[],[],[],[]⟩ (.op ⟨.nl 1 .done,[],[],[],[]⟩ (.op ⟨.nl 1 .done,[],[],[],[]⟩ (.tl (.n 2 .done)))))))))))))) (.gh (.fz 100001 (.done)) (.dc 11 [99,100,101,102,103,104,105,106,107,108,109] [8] [] (.op ⟨.nl 1 .done,[],[],[],[]⟩ (.op ⟨.nl 1 .done,[],[],[],[]⟩ (.op ⟨.nl 1 .done,[],[],[],[]⟩ (.op ⟨.nl 1 .done,[],[],[102],[102]⟩ (.op ⟨.nl 1 .done,[],[],[],[8]⟩ (.op ⟨.nl 1 .done,[],[8],[],[]⟩ (.op ⟨.nl 1 .done,[],[],[],[]⟩ (.op ⟨.nl 1 .done,[102],[],[106],[106]⟩ (.op ⟨.nl 1 .done,[],[],[],[]⟩ (.op ⟨.nl 1 .done,[],[],[],[]⟩ (.op ⟨.nl 1 .done,[],[],[],[]⟩ (.tl (.n 2 .done))))))))))))))))) (.gh (.tl .done) .nil))) (.t 9 (.dr 10 (.n 10 .done) (.n 1 .done))))))))) (.reg (.n 2 .done)))))))) (.t 1 (.two (.t 3 (.un (.lp [130,131] [100600] ⟨[(11,.s 100700),(132,.d .i)],[(100700,.row 86 Xk)]⟩ [(.x 4,⟨[(11,.s 100800)],[(100800,.row 86 Xk)]⟩)] (.t 1 (.two (.two (.nil) (.nil)) (.two (.un (.t 4 (.t 3 (.t 5 (.gh (.tl .done) .nil))))) (.reg (.n 2 .done)))))))) (.t 2 (.nil)))))))
def Jfy:Shp:=⟨[(0,.d (.sl Ja)),(1,.d .i)],[]⟩
def Q5y:Shp:=⟨[(0,.s 1)],[(1,.row 86 Xk)]⟩
def C7:An:=.t 1 (.two (.t 5 (.two (.t 1 (.nil)) (.nil))) (.two (.t 1 (.un (.lp [0,1] [] ⟨[(5,.d .i)],[]⟩ [(.x 0,⟨[],[]⟩),(.r,⟨[(4,.d .bool)],[]⟩)] (.two (.t 4 (.two (.nil) (.nil))) (.two (.un (.two (.dr 9 (.n 9 .done) (.done)) (.two (.t 1 (.nil)) (.nil)))) (.reg (.n 3 .done))))))) (.t 1 (.nil))))
def C8:Shp:=⟨[(0,.d (.sl Ja)),(1,.d (.sl Ja))],[]⟩
def B3:Shp:=⟨[(0,.d .bool)],[]⟩
def Jfz:An:=.t 1 (.two (.t 5 (.two (.gh (.tl .done) .nil) (.nil))) (.two (.t 1 (.un (.lp [0,1] [] ⟨[(5,.d .i)],[]⟩ [(.x 0,⟨[],[]⟩)] (.two (.t 4 (.two (.nil) (.nil))) (.two (.un (.two (.dr 9 (.n 9 .done) (.done)) (.two (.gh (.tl .done) .nil) (.nil)))) (.reg (.n 3 .done))))))) (.t 1 (.nil))))
def Jf0:Shp:=⟨[(0,.d (.sl Xk)),(1,.d (.sl Xk))],[]⟩
def Q5z:Shp:=⟨[(0,.d .bool)],[]⟩
def B4:An:=.t 1 (.t 3 (.t 3 (.t 2 (.t 2 (.t 2 (.t 2 (.two (.dm 4 [11,12,13,14] [] (.call 0 (.n 3 (.tl (.call 1 (.n 1 .done)))))) (.two (.reg (.n 2 (.call 2 (.n 1 .done)))) (.two (.reg (.n 3 (.call 3 (.n 1 (.fz 11801 (.sp 23 5 [4] [1,2,11501,11801] ⟨[(28,.d .bool)],[]⟩ (.nl 3 (.call 4 (.n 1 .done))) (.nl 4 (.n 1 .done)) (.n 1 .done))))))) (.nil))))))))))
def B5:Shp:=⟨[],[]⟩
def A9:Shp:=⟨[(0,.d .bool)],[]⟩
def Lc:An:=.t 2 (.t 14 (.nil))
def Ld:Shp:=⟨[(0,.d Qk),(1,.d .i),(2,.d .i)],[]⟩
def D2:Shp:=⟨[(0,.d Ja)],[]⟩
def D3:An:=.t 2 (.two (.t 8 (.two (.t 2 (.nil)) (.nil))) (.t 1 (.two (.un (.lp [0,3] [3] ⟨[(5,.d .i)],[]⟩ [(.x 0,⟨[(5,.d .i)],[]⟩)] (.two (.two (.dr 34 (.n 5 (.sp 20 29 [5] [] ⟨[(49,.d .bool)],[]⟩ (.nl 9 (.sp 29 19 [5,20] [] ⟨[(48,.d .bool)],[]⟩ (.nl 19 .done) (.nl 9 (.sp 38 9 [5,20,29] [] ⟨[(47,.d .bool)],[]⟩ (.nl 9 .done) (.nl 9 .done) (.nl 1 .done))) (.n 1 .done))) (.nl 28 (.n 1 .done)) (.done))) (.done)) (.two (.nil) (.nil))) (.un (.reg (.n 3 .done)))))) (.t 6 (.t 5 (.t 6 (.nil)))))))
def D4:Shp:=⟨[(0,.d (.sl Ja)),(1,.d Ja)],[]⟩
def C9:Shp:=⟨[(0,.d (.sl Ja))],[]⟩
def Ba:An:=.t 1 (.t 2 (.two (.t 1 (.un (.lp [0,1] [] ⟨[(5,.d (.sl Ja)),(6,.d .i)],[]⟩ [(.x 0,⟨[(5,.d (.sl Ja))],[]⟩)] (.two (.t 4 (.two (.nil) (.nil))) (.two (.un (.t 8 (.two (.jn [5,6,7] [7] [(.n,⟨[(8,.d .i),(9,.d .i)],[]⟩)] (.two (.reg (.n 4 (.call 0 (.n 1 .done)))) (.t 2 (.two (.dr 12 (.n 12 .done) (.done)) (.nil))))) (.reg (.n 11 (.call 1 (.call 2 (.n 1 .done)))))))) (.reg (.n 3 .done))))))) (.two (.t 1 (.un (.lp [0,1] [] ⟨[(5,.d (.sl Ja)),(11,.d .i)],[]⟩ [(.x 2,⟨[(5,.d (.sl Ja))],[]⟩)] (.two (.t 4 (.two (.nil) (.nil))) (.two (.jn [11] [] [(.n,⟨[(5,.d (.sl Ja))],[]⟩)] (.un (.t 6 (.two (.reg (.n 4 (.call 0 (.n 1 .done)))) (.two (.reg (.n 9 (.call 1 (.call 2 (.n 1 .done))))) (.nil)))))) (.reg (.n 3 .done))))))) (.t 2 (.nil)))))
def Bb:Shp:=⟨[(0,.d (.sl Jm)),(1,.d (.sl Jm))],[]⟩
def F9:Shp:=⟨[(0,.d (.sl Ja))],[]⟩
def Gw:An:=.t 1 (.two (.two (.reg (.n 1 (.call 0 (.n 2 (.sp 8 4 [0,1] [] ⟨[(12,.d .bool)],[]⟩ (.nl 3 (.n 1 .done)) (.nl 1 (.call 0 (.nl 1 (.n 1 .done)))) (.done)))))) (.two (.two (.reg (.call 1 (.n 1 .done))) (.nil)) (.nil))) (.two (.reg (.n 2 (.call 2 (.n 2 (.call 3 (.call 4 (.n 1 (.sp 21 2 [] [11601] ⟨[(23,.d .bool)],[]⟩ (.call 1 (.n 1 .done)) (.nl 1 (.n 1 .done)) (.n 1 .done))))))))) (.nil)))
def Gy:Shp:=⟨[(0,.d (.sl Jm)),(1,.d (.sl Jm))],[]⟩
def Ge:Shp:=⟨[(0,.d .bool)],[]⟩
theorem Jf1:Runs Tryz.prog 27:=⟨_,Tryz.func27,by decide,rfl⟩
def Ql7 (N:Nat):Con:=⟨27,Jcy,Qzl,fun _=>Z27 N,[]⟩
theorem Jf2 (N:Nat):Qn Tryz.prog tx.gl (Ql7 N):=Qb (Y:=tx) (N:=N) (K:=[]) (an:=Jcx) Qt Qr Qq Tryz.func27 rfl (fun x=>by kernel_rfl)
theorem Q50:Runs Tryz.prog 205:=⟨_,Tryz.func205,by decide,rfl⟩
def Qf9 (N:Nat):Con:=⟨205,Qzn,Qtj,fun (x0,x1)=>Jjg N x0 x1,[]⟩
theorem Q51 (N:Nat):Qn Tryz.prog tx.gl (Qf9 N):=Qb (Y:=tx) (N:=N) (K:=[]) (an:=Qzm) Qt Qr Qq Tryz.func205 rfl (fun x=>by kernel_rfl)
theorem Q52:Runs Tryz.prog 179:=⟨_,Tryz.func179,by decide,rfl⟩
def Qga (N:Nat):Con:=⟨179,Qzp,Qtk,fun (x0,x1)=>Jjh N x0 x1,[]⟩
theorem Q53 (N:Nat):Qn Tryz.prog tx.gl (Qga N):=Qb (Y:=tx) (N:=N) (K:=[Qf9 N]) (an:=Qzo) Qt Qr (Qc (Q51 N) Q50 Qq) Tryz.func179 rfl (fun x=>by kernel_rfl)
theorem Q54:Runs Tryz.prog 125:=⟨_,Tryz.func125,by decide,rfl⟩
def Qgb (N:Nat):Con:=⟨125,Qzr,Qtl,fun (x0,x1)=>Jji N x0 x1,[]⟩
theorem Q55 (N:Nat):Qn Tryz.prog tx.gl (Qgb N):=Qb (Y:=tx) (N:=N) (K:=[Qga N]) (an:=Qzq) Qt Qr (Qc (Q53 N) Q52 Qq) Tryz.func125 rfl (fun x=>by kernel_rfl)
theorem Q56:Runs Tryz.prog 124:=⟨_,Tryz.func124,by decide,rfl⟩
def Qgc (N:Nat):Con:=⟨124,Qzt,Qtm,fun x0=>Jjj N x0,[]⟩
theorem Q57 (N:Nat):Qn Tryz.prog tx.gl (Qgc N):=Qb (Y:=tx) (N:=N) (K:=[]) (an:=Qzs) Qt Qr Qq Tryz.func124 rfl (fun x=>by kernel_rfl)
theorem Qvy:Runs Tryz.prog 82:=⟨_,Tryz.func82,by decide,rfl⟩
def Qda (N:Nat):Con:=⟨82,Jc0,Qzu,fun (x0,x1)=>Z82 N x0 x1,[]⟩
theorem Qvz (N:Nat):Qn Tryz.prog tx.gl (Qda N):=Qb (Y:=tx) (N:=N) (K:=[Qgb N,Qgc N]) (an:=Jcz) Qt Qr (Qc (Q55 N) Q54 (Qc (Q57 N) Q56 Qq)) Tryz.func82 rfl (fun x=>by kernel_rfl)
theorem P0:Runs Tryz.prog 129:=⟨_,Tryz.func129,by decide,rfl⟩
def Da (N:Nat):Con:=⟨129,Qzw,Qtn,fun x0=>Qpw N x0,[]⟩
theorem P1 (N:Nat):Qn Tryz.prog tx.gl (Da N):=Qb (Y:=tx) (N:=N) (K:=[]) (an:=Qzv) Qt Qr Qq Tryz.func129 rfl (fun x=>by kernel_rfl)
theorem Qv0:Runs Tryz.prog 83:=⟨_,Tryz.func83,by decide,rfl⟩
def Qdb (N:Nat):Con:=⟨83,Jc2,Qzx,fun (x0,x1)=>Z83 N x0 x1,[]⟩
theorem Qv1 (N:Nat):Qn Tryz.prog tx.gl (Qdb N):=Qb (Y:=tx) (N:=N) (K:=[Da N]) (an:=Jc1) Qt Qr (Qc (P1 N) P0 Qq) Tryz.func83 rfl (fun x=>by kernel_rfl)
theorem Jf3:Runs Tryz.prog 63:=⟨_,Tryz.func63,by decide,rfl⟩
def Ql8 (N:Nat):Con:=⟨63,Jc4,Qzy,fun (x0,x1,x2)=>Z63 N x0 x1 x2,[]⟩
theorem Jf4 (N:Nat):Qn Tryz.prog tx.gl (Ql8 N):=Qb (Y:=tx) (N:=N) (K:=[Qda N,Qdb N]) (an:=Jc3) Qt Qr (Qc (Qvz N) Qvy (Qc (Qv1 N) Qv0 Qq)) Tryz.func63 rfl (fun x=>by kernel_rfl)
theorem Q58:Runs Tryz.prog 130:=⟨_,Tryz.func130,by decide,rfl⟩
def Qgd (N:Nat):Con:=⟨130,Qz0,Qto,fun _=>Jjk N,[]⟩
theorem Q59 (N:Nat):Qn Tryz.prog tx.gl (Qgd N):=Qb (Y:=tx) (N:=N) (K:=[]) (an:=Qzz) Qt Qr Qq Tryz.func130 rfl (fun x=>by kernel_rfl)
theorem Q6a:Runs Tryz.prog 131:=⟨_,Tryz.func131,by decide,rfl⟩
def Qge (N:Nat):Con:=⟨131,Qz2,Qtp,fun (x0,x1)=>Jjl N x0 x1,[]⟩
theorem Q6b (N:Nat):Qn Tryz.prog tx.gl (Qge N):=Qb (Y:=tx) (N:=N) (K:=[]) (an:=Qz1) Qt Qr Qq Tryz.func131 rfl (fun x=>by kernel_rfl)
theorem Q6c:Runs Tryz.prog 180:=⟨_,Tryz.func180,by decide,rfl⟩
def Qdc (N:Nat):It:=⟨180,[(.sl Yh),(.int .i64)],Yh,fun (x1,x2)=>Jjm N x1 x2⟩
theorem Qv2 (N:Nat):Qs9 Tryz.prog tx.gl (Qdc N):=Qx5 (Y:=tx) (N:=N) (K:=[]) (it:=Qdc N) (an:=Qz3) Qt Qr Qq Tryz.func180 rfl (fun x=>by kernel_rfl)
theorem Q6d:Runs Tryz.prog 181:=⟨_,Tryz.func181,by decide,rfl⟩
def Qgf (N:Nat):Con:=⟨181,Qz5,Qtq,fun (x0,x1)=>Jbj N x0 x1,[]⟩
theorem Q6e (N:Nat):Qn Tryz.prog tx.gl (Qgf N):=Qb (Y:=tx) (N:=N) (K:=[]) (an:=Qz4) Qt Qr Qq Tryz.func181 rfl (fun x=>by kernel_rfl)
theorem Q6f:Runs Tryz.prog 207:=⟨_,Tryz.func207,by decide,rfl⟩
def Qgg (N:Nat):Con:=⟨207,Qz7,Qtr,fun (x0,x1)=>Jjn N x0 x1,[]⟩
theorem Q6g (N:Nat):Qn Tryz.prog tx.gl (Qgg N):=Qb (Y:=tx) (N:=N) (K:=[]) (an:=Qz6) Qt Qr Qq Tryz.func207 rfl (fun x=>by kernel_rfl)
theorem Qkb:Runs Tryz.prog 182:=⟨_,Tryz.func182,by decide,rfl⟩
def Ow (N:Nat):Con:=⟨182,Qjo,Qf1,fun (x1,x2,m5000_5,m5000_6,m5001,m5002,m5003,m5004,m5005)=>Qly N x1 x2 m5000_5 m5000_6 m5001 m5002 m5003 m5004 m5005,[5000,5001,5002,5003,5004,5005]⟩
theorem Qkc (N:Nat):Qn Tryz.prog tx.gl (Ow N):=Qb (Y:=tx) (N:=N) (K:=[Qgg N]) (an:=Qjn) Qt Qr (Qc (Q6g N) Q6f Qq) Tryz.func182 rfl (fun x=>by kernel_rfl)
theorem Qkd:Runs Tryz.prog 132:=⟨_,Tryz.func132,by decide,rfl⟩
def Oy (N:Nat):Con:=⟨132,Qjq,Qf2,fun (x1,m5000_5,m5000_6,m5001,m5002,m5003,m5004,m5005)=>Qlz N x1 m5000_5 m5000_6 m5001 m5002 m5003 m5004 m5005,[]⟩
theorem Qke (N:Nat):Qn Tryz.prog tx.gl (Oy N):=Qb (Y:=tx) (N:=N) (K:=[Qgf N,Ow N]) (an:=Qjp) Qt Qr (Qc (Q6e N) Q6d (Qc (Qkc N) Qkb Qq)) Tryz.func132 rfl (fun x=>by kernel_rfl)
theorem Q6h:Runs Tryz.prog 133:=⟨_,Tryz.func133,by decide,rfl⟩
def Qgh (N:Nat):Con:=⟨133,Qz9,Qts,fun (m5000_5,m5000_6,m5001,m5002,m5003,m5004,m5005)=>Jjo N m5000_5 m5000_6 m5001 m5002 m5003 m5004 m5005,[5000,5001,5002,5003,5004,5005]⟩
theorem Q6i (N:Nat):Qn Tryz.prog tx.gl (Qgh N):=Qb (Y:=tx) (N:=N) (K:=[]) (an:=Qz8) Qt Qr Qq Tryz.func133 rfl (fun x=>by kernel_rfl)
theorem Qv3:Runs Tryz.prog 84:=⟨_,Tryz.func84,by decide,rfl⟩
def Qdd (N:Nat):Con:=⟨84,Jc6,Q0a,fun (x0,x1)=>Z84 N x0 x1,[]⟩
theorem Qv4 (N:Nat):Qn Tryz.prog tx.gl (Qdd N):=Qta (Y:=tx) (N:=N) (K:=[Qgd N,Qge N,Oy N,Qgh N]) (its:=[Qdc N]) (an:=Jc5) Qt Qr (Qc (Q59 N) Q58 (Qc (Q6b N) Q6a (Qc (Qke N) Qkd (Qc (Q6i N) Q6h Qq)))) (List.forall_mem_cons.2 ⟨⟨Qv2 N,Q6c⟩,(List.forall_mem_nil _)⟩) Tryz.func84 rfl (fun x=>by kernel_rfl)
theorem Jf5:Runs Tryz.prog 64:=⟨_,Tryz.func64,by decide,rfl⟩
def Ql9 (N:Nat):Con:=⟨64,Jc8,Q0b,fun (x0,x1,x2)=>Z64 N x0 x1 x2,[]⟩
theorem Jf6 (N:Nat):Qn Tryz.prog tx.gl (Ql9 N):=Qb (Y:=tx) (N:=N) (K:=[Qdd N]) (an:=Jc7) Qt Qr (Qc (Qv4 N) Qv3 Qq) Tryz.func64 rfl (fun x=>by kernel_rfl)
theorem Jf7:Runs Tryz.prog 65:=⟨_,Tryz.func65,by decide,rfl⟩
def Qma (N:Nat):Con:=⟨65,Jda,Q0c,fun (x0,x1,x2)=>Z65 N x0 x1 x2,[]⟩
theorem Jf8 (N:Nat):Qn Tryz.prog tx.gl (Qma N):=Qb (Y:=tx) (N:=N) (K:=[Qdd N]) (an:=Jc9) Qt Qr (Qc (Qv4 N) Qv3 Qq) Tryz.func65 rfl (fun x=>by kernel_rfl)
theorem Jf9:Runs Tryz.prog 49:=⟨_,Tryz.func49,by decide,rfl⟩
def Qmb (N:Nat):Con:=⟨49,Jdc,Q0d,fun (m5000_0,m5000_1,m5000_2,m5000_3_0,m5000_3_1,m5000_3_3,m5000_3_4,m5000_4_0,m5000_4_1,m5000_4_2,m5000_4_3,m5000_4_4,m5000_5_0,m5000_5_1,m5000_5_2,m5000_6,m5000_7_0,m5000_7_1,m5000_7_2,m5000_7_3,m5000_7_4,m5000_7_7,m5000_7_8,m5000_7_9,m5000_7_11,m5000_7_12,m5001,m5002,m5003,m5004,m5005,m5006,m5007,m5008,m5009)=>Z49 N m5000_0 m5000_1 m5000_2 m5000_3_0 m5000_3_1 m5000_3_3 m5000_3_4 m5000_4_0 m5000_4_1 m5000_4_2 m5000_4_3 m5000_4_4 m5000_5_0 m5000_5_1 m5000_5_2 m5000_6 m5000_7_0 m5000_7_1 m5000_7_2 m5000_7_3 m5000_7_4 m5000_7_7 m5000_7_8 m5000_7_9 m5000_7_11 m5000_7_12 m5001 m5002 m5003 m5004 m5005 m5006 m5007 m5008 m5009,[]⟩
theorem Jga (N:Nat):Qn Tryz.prog tx.gl (Qmb N):=Qb (Y:=tx) (N:=N) (K:=[Ql8 N,Ql9 N,Qma N]) (an:=Jdb) Qt Qr (Qc (Jf4 N) Jf3 (Qc (Jf6 N) Jf5 (Qc (Jf8 N) Jf7 Qq))) Tryz.func49 rfl (fun x=>by kernel_rfl)
theorem Jgb:Runs Tryz.prog 48:=⟨_,Tryz.func48,by decide,rfl⟩
def Qmc (N:Nat):Con:=⟨48,Jde,Q0e,fun (m5001_0,m5001_1,m5001_2,m5001_3_0,m5001_3_1,m5001_3_3,m5001_3_4,m5001_4_0,m5001_4_1,m5001_4_2,m5001_4_3,m5001_4_4,m5001_5_0,m5001_5_1,m5001_5_2,m5001_6,m5001_7_0,m5001_7_1,m5001_7_2,m5001_7_3,m5001_7_4,m5001_7_7,m5001_7_8,m5001_7_9,m5001_7_11,m5001_7_12,m5002,m5003,m5004,m5005,m5006,m5007,m5008,m5009,m5010)=>Z48 N m5001_0 m5001_1 m5001_2 m5001_3_0 m5001_3_1 m5001_3_3 m5001_3_4 m5001_4_0 m5001_4_1 m5001_4_2 m5001_4_3 m5001_4_4 m5001_5_0 m5001_5_1 m5001_5_2 m5001_6 m5001_7_0 m5001_7_1 m5001_7_2 m5001_7_3 m5001_7_4 m5001_7_7 m5001_7_8 m5001_7_9 m5001_7_11 m5001_7_12 m5002 m5003 m5004 m5005 m5006 m5007 m5008 m5009 m5010,[5000]⟩
theorem Jgc (N:Nat):Qn Tryz.prog tx.gl (Qmc N):=Qb (Y:=tx) (N:=N) (K:=[Qmb N]) (an:=Jdd) Qt Qr (Qc (Jga N) Jf9 Qq) Tryz.func48 rfl (fun x=>by kernel_rfl)
theorem Jgd:Runs Tryz.prog 47:=⟨_,Tryz.func47,by decide,rfl⟩
def Qmd (N:Nat):Con:=⟨47,Jdg,Q0f,fun (m5001_0,m5001_1,m5001_2,m5001_3_0,m5001_3_1,m5001_3_3,m5001_3_4,m5001_4_0,m5001_4_1,m5001_4_2,m5001_4_3,m5001_4_4,m5001_5_0,m5001_5_1,m5001_5_2,m5001_6,m5001_7_0,m5001_7_1,m5001_7_2,m5001_7_3,m5001_7_4,m5001_7_7,m5001_7_8,m5001_7_9,m5001_7_11,m5001_7_12,m5002,m5003,m5004,m5005,m5006,m5007,m5008,m5009,m5010,m5011)=>Z47 N m5001_0 m5001_1 m5001_2 m5001_3_0 m5001_3_1 m5001_3_3 m5001_3_4 m5001_4_0 m5001_4_1 m5001_4_2 m5001_4_3 m5001_4_4 m5001_5_0 m5001_5_1 m5001_5_2 m5001_6 m5001_7_0 m5001_7_1 m5001_7_2 m5001_7_3 m5001_7_4 m5001_7_7 m5001_7_8 m5001_7_9 m5001_7_11 m5001_7_12 m5002 m5003 m5004 m5005 m5006 m5007 m5008 m5009 m5010 m5011,[5000]⟩
theorem Jge (N:Nat):Qn Tryz.prog tx.gl (Qmd N):=Qb (Y:=tx) (N:=N) (K:=[Qmc N]) (an:=Jdf) Qt Qr (Qc (Jgc N) Jgb Qq) Tryz.func47 rfl (fun x=>by kernel_rfl)
theorem Q6j:Runs Tryz.prog 134:=⟨_,Tryz.func134,by decide,rfl⟩
def Qgi (N:Nat):Con:=⟨134,Q0h,Qtt,fun x0=>Jjp N x0,[]⟩
theorem Q6k (N:Nat):Qn Tryz.prog tx.gl (Qgi N):=Qb (Y:=tx) (N:=N) (K:=[]) (an:=Q0g) Qt Qr Qq Tryz.func134 rfl (fun x=>by kernel_rfl)
theorem Q6l:Runs Tryz.prog 135:=⟨_,Tryz.func135,by decide,rfl⟩
def Qgj (N:Nat):Con:=⟨135,Q0j,Qtu,fun x0=>Jjq N x0,[]⟩
theorem Q6m (N:Nat):Qn Tryz.prog tx.gl (Qgj N):=Qb (Y:=tx) (N:=N) (K:=[]) (an:=Q0i) Qt Qr Qq Tryz.func135 rfl (fun x=>by kernel_rfl)
theorem Q6n:Runs Tryz.prog 136:=⟨_,Tryz.func136,by decide,rfl⟩
def Qgk (N:Nat):Con:=⟨136,Q0l,Qtv,fun x0=>Jjr N x0,[]⟩
theorem Q6o (N:Nat):Qn Tryz.prog tx.gl (Qgk N):=Qb (Y:=tx) (N:=N) (K:=[]) (an:=Q0k) Qt Qr Qq Tryz.func136 rfl (fun x=>by kernel_rfl)
theorem Jgf:Runs Tryz.prog 85:=⟨_,Tryz.func85,by decide,rfl⟩
def Qme (N:Nat):Con:=⟨85,Jdi,Q0m,fun x0=>Z85 N x0,[]⟩
theorem Jgg (N:Nat):Qn Tryz.prog tx.gl (Qme N):=Qb (Y:=tx) (N:=N) (K:=[Qgi N,Qgj N,Qgk N]) (an:=Jdh) Qt Qr (Qc (Q6k N) Q6j (Qc (Q6m N) Q6l (Qc (Q6o N) Q6n Qq))) Tryz.func85 rfl (fun x=>by kernel_rfl)
theorem Jgh:Runs Tryz.prog 66:=⟨_,Tryz.func66,by decide,rfl⟩
def Qmf (N:Nat):Con:=⟨66,Jdk,Q0n,fun (x0,x1,x2)=>Z66 N x0 x1 x2,[]⟩
theorem Jgi (N:Nat):Qn Tryz.prog tx.gl (Qmf N):=Qb (Y:=tx) (N:=N) (K:=[Qme N]) (an:=Jdj) Qt Qr (Qc (Jgg N) Jgf Qq) Tryz.func66 rfl (fun x=>by kernel_rfl)
theorem Q6p:Runs Tryz.prog 138:=⟨_,Tryz.func138,by decide,rfl⟩
def Qgl (N:Nat):Con:=⟨138,Q0p,Qtw,fun x0=>Jjs N x0,[]⟩
theorem Q6q (N:Nat):Qn Tryz.prog tx.gl (Qgl N):=Qb (Y:=tx) (N:=N) (K:=[]) (an:=Q0o) Qt Qr Qq Tryz.func138 rfl (fun x=>by kernel_rfl)
theorem Q6r:Runs Tryz.prog 183:=⟨_,Tryz.func183,by decide,rfl⟩
def Qgm (N:Nat):Con:=⟨183,Q0r,Qtx,fun (x0,m5000)=>Jjt N x0 m5000,[5000]⟩
theorem Q6s (N:Nat):Qn Tryz.prog tx.gl (Qgm N):=Qb (Y:=tx) (N:=N) (K:=[]) (an:=Q0q) Qt Qr Qq Tryz.func183 rfl (fun x=>by kernel_rfl)
theorem Q6t:Runs Tryz.prog 139:=⟨_,Tryz.func139,by decide,rfl⟩
def Qgn (N:Nat):Con:=⟨139,Q0t,Qty,fun (x0,m5000)=>Jju N x0 m5000,[5000]⟩
theorem Q6u (N:Nat):Qn Tryz.prog tx.gl (Qgn N):=Qb (Y:=tx) (N:=N) (K:=[Qgm N]) (an:=Q0s) Qt Qr (Qc (Q6s N) Q6r Qq) Tryz.func139 rfl (fun x=>by kernel_rfl)
theorem Q6v:Runs Tryz.prog 141:=⟨_,Tryz.func141,by decide,rfl⟩
def Qgo (N:Nat):Con:=⟨141,Q0v,Qtz,fun x0=>Jjv N x0,[]⟩
theorem Q6w (N:Nat):Qn Tryz.prog tx.gl (Qgo N):=Qb (Y:=tx) (N:=N) (K:=[]) (an:=Q0u) Qt Qr Qq Tryz.func141 rfl (fun x=>by kernel_rfl)
theorem Qv5:Runs Tryz.prog 87:=⟨_,Tryz.func87,by decide,rfl⟩
def Qde (N:Nat):Con:=⟨87,Jdm,Q0w,fun x0=>Z87 N x0,[]⟩
theorem Qv6 (N:Nat):Qn Tryz.prog tx.gl (Qde N):=Qb (Y:=tx) (N:=N) (K:=[Qgo N]) (an:=Jdl) Qt Qr (Qc (Q6w N) Q6v Qq) Tryz.func87 rfl (fun x=>by kernel_rfl)
theorem Jgj:Runs Tryz.prog 86:=⟨_,Tryz.func86,by decide,rfl⟩
def Qmg (N:Nat):Con:=⟨86,Jdo,Q0x,fun x0=>Z86 N x0,[]⟩
theorem Jgk (N:Nat):Qn Tryz.prog tx.gl (Qmg N):=Qb (Y:=tx) (N:=N) (K:=[Qgl N,Qgn N,Qde N]) (an:=Jdn) Qt Qr (Qc (Q6q N) Q6p (Qc (Q6u N) Q6t (Qc (Qv6 N) Qv5 Qq))) Tryz.func86 rfl (fun x=>by kernel_rfl)
theorem Jgl:Runs Tryz.prog 88:=⟨_,Tryz.func88,by decide,rfl⟩
def Qmh (N:Nat):Con:=⟨88,Jdq,Q0y,fun (x1,x2,m5000)=>Z88 N x1 x2 m5000,[5000]⟩
theorem Jgm (N:Nat):Qn Tryz.prog tx.gl (Qmh N):=Qb (Y:=tx) (N:=N) (K:=[]) (an:=Jdp) Qt Qr Qq Tryz.func88 rfl (fun x=>by kernel_rfl)
theorem Qv7:Runs Tryz.prog 67:=⟨_,Tryz.func67,by decide,rfl⟩
def Qdf (N:Nat):Con:=⟨67,Jds,Q0z,fun (x0,x1)=>Z67 N x0 x1,[]⟩
theorem Qv8 (N:Nat):Qn Tryz.prog tx.gl (Qdf N):=Qb (Y:=tx) (N:=N) (K:=[Qmg N,Qde N,Qmh N]) (an:=Jdr) Qt Qr (Qc (Jgk N) Jgj (Qc (Qv6 N) Qv5 (Qc (Jgm N) Jgl Qq))) Tryz.func67 rfl (fun x=>by kernel_rfl)
theorem Jgn:Runs Tryz.prog 51:=⟨_,Tryz.func51,by decide,rfl⟩
def Qmi (N:Nat):Con:=⟨51,Jdu,Q00,fun (m5000_0,m5000_1,m5000_2,m5000_3,m5000_4,m5000_5_0,m5000_5_1,m5000_5_2,m5000_6,m5000_7_0,m5000_7_1,m5000_7_2,m5000_7_3,m5000_7_4,m5000_7_7,m5000_7_8,m5000_7_9,m5000_7_11,m5000_7_12,m5001,m5002,m5003,m5004,m5005,m5006,m5007)=>Z51 N m5000_0 m5000_1 m5000_2 m5000_3 m5000_4 m5000_5_0 m5000_5_1 m5000_5_2 m5000_6 m5000_7_0 m5000_7_1 m5000_7_2 m5000_7_3 m5000_7_4 m5000_7_7 m5000_7_8 m5000_7_9 m5000_7_11 m5000_7_12 m5001 m5002 m5003 m5004 m5005 m5006 m5007,[5001,5002,5003,5004]⟩
theorem Jgo (N:Nat):Qn Tryz.prog tx.gl (Qmi N):=Qb (Y:=tx) (N:=N) (K:=[Qmf N,Qdf N]) (an:=Jdt) Qt Qr (Qc (Jgi N) Jgh (Qc (Qv8 N) Qv7 Qq)) Tryz.func51 rfl (fun x=>by kernel_rfl)
theorem Jgp:Runs Tryz.prog 50:=⟨_,Tryz.func50,by decide,rfl⟩
def Qmj (N:Nat):Con:=⟨50,Jdw,Q01,fun (m5001_0,m5001_1,m5001_2,m5001_3,m5001_4,m5001_5_0,m5001_5_1,m5001_5_2,m5001_6,m5001_7_0,m5001_7_1,m5001_7_2,m5001_7_3,m5001_7_4,m5001_7_7,m5001_7_8,m5001_7_9,m5001_7_11,m5001_7_12,m5002,m5003,m5004,m5005,m5006,m5007,m5008)=>Z50 N m5001_0 m5001_1 m5001_2 m5001_3 m5001_4 m5001_5_0 m5001_5_1 m5001_5_2 m5001_6 m5001_7_0 m5001_7_1 m5001_7_2 m5001_7_3 m5001_7_4 m5001_7_7 m5001_7_8 m5001_7_9 m5001_7_11 m5001_7_12 m5002 m5003 m5004 m5005 m5006 m5007 m5008,[5000,5002,5003,5004,5005]⟩
theorem Jgq (N:Nat):Qn Tryz.prog tx.gl (Qmj N):=Qb (Y:=tx) (N:=N) (K:=[Qmi N]) (an:=Jdv) Qt Qr (Qc (Jgo N) Jgn Qq) Tryz.func50 rfl (fun x=>by kernel_rfl)
theorem Qqe:Runs Tryz.prog 47:=⟨_,Tryz.func47,by decide,rfl⟩
def Tl (N:Nat):Con:=⟨47,Qpz,Qjr,fun (m5001_0,m5001_1,m5001_2,m5001_3,m5001_4,m5001_5_0,m5001_5_1,m5001_5_2,m5001_6,m5001_7_0,m5001_7_1,m5001_7_2,m5001_7_3,m5001_7_4,m5001_7_7,m5001_7_8,m5001_7_9,m5001_7_11,m5001_7_12,m5002,m5003,m5004,m5005,m5006,m5007,m5008,m5009)=>Qtb N m5001_0 m5001_1 m5001_2 m5001_3 m5001_4 m5001_5_0 m5001_5_1 m5001_5_2 m5001_6 m5001_7_0 m5001_7_1 m5001_7_2 m5001_7_3 m5001_7_4 m5001_7_7 m5001_7_8 m5001_7_9 m5001_7_11 m5001_7_12 m5002 m5003 m5004 m5005 m5006 m5007 m5008 m5009,[5000]⟩
theorem Qqf (N:Nat):Qn Tryz.prog tx.gl (Tl N):=Qb (Y:=tx) (N:=N) (K:=[Qmj N]) (an:=Qpy) Qt Qr (Qc (Jgq N) Jgp Qq) Tryz.func47 rfl (fun x=>by kernel_rfl)
theorem Q6x:Runs Tryz.prog 142:=⟨_,Tryz.func142,by decide,rfl⟩
def Qgp (N:Nat):Con:=⟨142,Q03,Qt0,fun x0=>Jjw N x0,[]⟩
theorem Q6y (N:Nat):Qn Tryz.prog tx.gl (Qgp N):=Qb (Y:=tx) (N:=N) (K:=[]) (an:=Q02) Qt Qr Qq Tryz.func142 rfl (fun x=>by kernel_rfl)
theorem Qkf:Runs Tryz.prog 89:=⟨_,Tryz.func89,by decide,rfl⟩
def P2 (N:Nat):Con:=⟨89,Jdy,Q04,fun x0=>Z89 N x0,[]⟩
theorem Qkg (N:Nat):Qn Tryz.prog tx.gl (P2 N):=Qb (Y:=tx) (N:=N) (K:=[Qgp N]) (an:=Jdx) Qt Qr (Qc (Q6y N) Q6x Qq) Tryz.func89 rfl (fun x=>by kernel_rfl)
theorem Jgr:Runs Tryz.prog 90:=⟨_,Tryz.func90,by decide,rfl⟩
def Qmk (N:Nat):Con:=⟨90,Jd0,Q05,fun (x0,x1,x2)=>Z90 N x0 x1 x2,[]⟩
theorem Jgs (N:Nat):Qn Tryz.prog tx.gl (Qmk N):=Qb (Y:=tx) (N:=N) (K:=[]) (an:=Jdz) Qt Qr Qq Tryz.func90 rfl (fun x=>by kernel_rfl)
theorem Q6z:Runs Tryz.prog 115:=⟨_,Tryz.func115,by decide,rfl⟩
def Qgq (N:Nat):Con:=⟨115,Q07,Qt1,fun x0=>Jjx N x0,[]⟩
theorem Q60 (N:Nat):Qn Tryz.prog tx.gl (Qgq N):=Qb (Y:=tx) (N:=N) (K:=[]) (an:=Q06) Qt Qr Qq Tryz.func115 rfl (fun x=>by kernel_rfl)
theorem Jgt:Runs Tryz.prog 91:=⟨_,Tryz.func91,by decide,rfl⟩
def Qml (N:Nat):Con:=⟨91,Jd2,Q08,fun (x0,x1)=>Z91 N x0 x1,[]⟩
theorem Jgu (N:Nat):Qn Tryz.prog tx.gl (Qml N):=Qb (Y:=tx) (N:=N) (K:=[Qgq N]) (an:=Jd1) Qt Qr (Qc (Q60 N) Q6z Qq) Tryz.func91 rfl (fun x=>by kernel_rfl)
theorem Qdg:Runs Tryz.prog 145:=⟨_,Tryz.func145,by decide,rfl⟩
def Mm (N:Nat):Con:=⟨145,Q1a,Qt2,fun (x0,x1,x2)=>Qjh N x0 x1 x2,[]⟩
theorem Qdh (N:Nat):Qn Tryz.prog tx.gl (Mm N):=Qb (Y:=tx) (N:=N) (K:=[]) (an:=Q09) Qt Qr Qq Tryz.func145 rfl (fun x=>by kernel_rfl)
theorem Qmm:Runs Tryz.prog 146:=⟨_,Tryz.func146,by decide,rfl⟩
def Tm (N:Nat):Con:=⟨146,Q1c,Qt3,fun x0=>Jby N x0,[]⟩
theorem Qmn (N:Nat):Qn Tryz.prog tx.gl (Tm N):=Qb (Y:=tx) (N:=N) (K:=[]) (an:=Q1b) Qt Qr Qq Tryz.func146 rfl (fun x=>by kernel_rfl)
theorem Qdi:Runs Tryz.prog 143:=⟨_,Tryz.func143,by decide,rfl⟩
def Mp (N:Nat):Con:=⟨143,Q1e,Qt4,fun x0=>Qyi N x0,[]⟩
theorem Qdj (N:Nat):Qn Tryz.prog tx.gl (Mp N):=Qb (Y:=tx) (N:=N) (K:=[Mm N,Tm N]) (an:=Q1d) Qt Qr (Qc (Qdh N) Qdg (Qc (Qmn N) Qmm Qq)) Tryz.func143 rfl (fun x=>by kernel_rfl)
theorem Jgv:Runs Tryz.prog 93:=⟨_,Tryz.func93,by decide,rfl⟩
def Qmo (N:Nat):Con:=⟨93,Jd4,Q1f,fun (x0,x1)=>Z93 N x0 x1,[]⟩
theorem Jgw (N:Nat):Qn Tryz.prog tx.gl (Qmo N):=Qb (Y:=tx) (N:=N) (K:=[Mp N,Mm N,Tm N]) (an:=Jd3) Qt Qr (Qc (Qdj N) Qdi (Qc (Qdh N) Qdg (Qc (Qmn N) Qmm Qq))) Tryz.func93 rfl (fun x=>by kernel_rfl)
theorem Jgx:Runs Tryz.prog 92:=⟨_,Tryz.func92,by decide,rfl⟩
def Qmp (N:Nat):Con:=⟨92,Jd6,Q1g,fun (x0,x1,m5000)=>Z92 N x0 x1 m5000,[]⟩
theorem Jgy (N:Nat):Qn Tryz.prog tx.gl (Qmp N):=Qb (Y:=tx) (N:=N) (K:=[]) (an:=Jd5) Qt Qr Qq Tryz.func92 rfl (fun x=>by kernel_rfl)
theorem Jgz:Runs Tryz.prog 68:=⟨_,Tryz.func68,by decide,rfl⟩
def Qmq (N:Nat):Con:=⟨68,Jd8,Q1h,fun (x0,x1,x2,x3)=>Z68 N x0 x1 x2 x3,[]⟩
theorem Jg0 (N:Nat):Qn Tryz.prog tx.gl (Qmq N):=Qb (Y:=tx) (N:=N) (K:=[P2 N,Qmk N,Qml N,Qmo N,Qmp N]) (an:=Jd7) Qt Qr (Qc (Qkg N) Qkf (Qc (Jgs N) Jgr (Qc (Jgu N) Jgt (Qc (Jgw N) Jgv (Qc (Jgy N) Jgx Qq))))) Tryz.func68 rfl (fun x=>by kernel_rfl)
theorem Jg1:Runs Tryz.prog 95:=⟨_,Tryz.func95,by decide,rfl⟩
def Qmr (N:Nat):Con:=⟨95,Jea,Q1i,fun x0=>Z95 N x0,[]⟩
theorem Jg2 (N:Nat):Qn Tryz.prog tx.gl (Qmr N):=Qb (Y:=tx) (N:=N) (K:=[]) (an:=Jd9) Qt Qr Qq Tryz.func95 rfl (fun x=>by kernel_rfl)
theorem Qqg:Runs Tryz.prog 95:=⟨_,Tryz.func95,by decide,rfl⟩
def Tn (N:Nat):Con:=⟨95,Qp1,Qjs,fun x0=>Qtc N x0,[]⟩
theorem Qqh (N:Nat):Qn Tryz.prog tx.gl (Tn N):=Qb (Y:=tx) (N:=N) (K:=[]) (an:=Qp0) Qt Qr Qq Tryz.func95 rfl (fun x=>by kernel_rfl)
theorem Qv9:Runs Tryz.prog 96:=⟨_,Tryz.func96,by decide,rfl⟩
def Qdk (N:Nat):Con:=⟨96,Jec,Q1j,fun x0=>Z96 N x0,[]⟩
theorem Qwa (N:Nat):Qn Tryz.prog tx.gl (Qdk N):=Qb (Y:=tx) (N:=N) (K:=[]) (an:=Jeb) Qt Qr Qq Tryz.func96 rfl (fun x=>by kernel_rfl)
theorem Jg3:Runs Tryz.prog 97:=⟨_,Tryz.func97,by decide,rfl⟩
def Qms (N:Nat):Con:=⟨97,Jee,Q1k,fun (x0,x1)=>Z97 N x0 x1,[]⟩
theorem Jg4 (N:Nat):Qn Tryz.prog tx.gl (Qms N):=Qb (Y:=tx) (N:=N) (K:=[]) (an:=Jed) Qt Qr Qq Tryz.func97 rfl (fun x=>by kernel_rfl)
theorem Q61:Runs Tryz.prog 185:=⟨_,Tryz.func185,by decide,rfl⟩
def Qgr (N:Nat):Con:=⟨185,Q1m,Qt5,fun (x0,m5000)=>Jjy N x0 m5000,[5000]⟩
theorem Q62 (N:Nat):Qn Tryz.prog tx.gl (Qgr N):=Qb (Y:=tx) (N:=N) (K:=[]) (an:=Q1l) Qt Qr Qq Tryz.func185 rfl (fun x=>by kernel_rfl)
theorem Q63:Runs Tryz.prog 209:=⟨_,Tryz.func209,by decide,rfl⟩
def Qgs (N:Nat):Con:=⟨209,Q1o,Qt6,fun x0=>Jjz N x0,[]⟩
theorem Q64 (N:Nat):Qn Tryz.prog tx.gl (Qgs N):=Qb (Y:=tx) (N:=N) (K:=[]) (an:=Q1n) Qt Qr Qq Tryz.func209 rfl (fun x=>by kernel_rfl)
theorem Q65:Runs Tryz.prog 184:=⟨_,Tryz.func184,by decide,rfl⟩
def Qgt (N:Nat):Con:=⟨184,Q1q,Qt7,fun (x0,x1,m5000)=>Jj0 N x0 x1 m5000,[5000]⟩
theorem Q66 (N:Nat):Qn Tryz.prog tx.gl (Qgt N):=Qb (Y:=tx) (N:=N) (K:=[Qda N,Qgr N,Qgs N]) (an:=Q1p) Qt Qr (Qc (Qvz N) Qvy (Qc (Q62 N) Q61 (Qc (Q64 N) Q63 Qq))) Tryz.func184 rfl (fun x=>by kernel_rfl)
theorem Q67:Runs Tryz.prog 147:=⟨_,Tryz.func147,by decide,rfl⟩
def Qgu (N:Nat):Con:=⟨147,Q1s,Qt8,fun (x0,x1,x2)=>Jj1 N x0 x1 x2,[]⟩
theorem Q68 (N:Nat):Qn Tryz.prog tx.gl (Qgu N):=Qb (Y:=tx) (N:=N) (K:=[Qgt N]) (an:=Q1r) Qt Qr (Qc (Q66 N) Q65 Qq) Tryz.func147 rfl (fun x=>by kernel_rfl)
theorem Jg5:Runs Tryz.prog 98:=⟨_,Tryz.func98,by decide,rfl⟩
def Qmt (N:Nat):Con:=⟨98,Jeg,Q1t,fun (x0,x1)=>Z98 N x0 x1,[]⟩
theorem Jg6 (N:Nat):Qn Tryz.prog tx.gl (Qmt N):=Qb (Y:=tx) (N:=N) (K:=[Qgu N]) (an:=Jef) Qt Qr (Qc (Q68 N) Q67 Qq) Tryz.func98 rfl (fun x=>by kernel_rfl)
theorem Qmu:Runs Tryz.prog 150:=⟨_,Tryz.func150,by decide,rfl⟩
def Tp (N:Nat):Con:=⟨150,Q1v,Qt9,fun (x0,x1)=>Jb3 N x0 x1,[]⟩
theorem Qmv (N:Nat):Qn Tryz.prog tx.gl (Tp N):=Qb (Y:=tx) (N:=N) (K:=[Da N]) (an:=Q1u) Qt Qr (Qc (P1 N) P0 Qq) Tryz.func150 rfl (fun x=>by kernel_rfl)
theorem Qmw:Runs Tryz.prog 221:=⟨_,Tryz.func221,by decide,rfl⟩
def Tq (N:Nat):Con:=⟨221,Q1x,Qua,fun x0=>Qym N x0,[]⟩
theorem Qmx (N:Nat):Qn Tryz.prog tx.gl (Tq N):=Qb (Y:=tx) (N:=N) (K:=[]) (an:=Q1w) Qt Qr Qq Tryz.func221 rfl (fun x=>by kernel_rfl)
theorem Q69:Runs Tryz.prog 233:=⟨_,Tryz.func233,by decide,rfl⟩
def Qgv (N:Nat):Con:=⟨233,Q1z,Qub,fun x0=>Jj2 N x0,[]⟩
theorem Q7a (N:Nat):Qn Tryz.prog tx.gl (Qgv N):=Qb (Y:=tx) (N:=N) (K:=[]) (an:=Q1y) Qt Qr Qq Tryz.func233 rfl (fun x=>by kernel_rfl)
theorem Qdl:Runs Tryz.prog 222:=⟨_,Tryz.func222,by decide,rfl⟩
def Mq (N:Nat):Con:=⟨222,Q11,Quc,fun (x0,x1)=>Qyn N x0 x1,[]⟩
theorem Qdm (N:Nat):Qn Tryz.prog tx.gl (Mq N):=Qb (Y:=tx) (N:=N) (K:=[Qgv N]) (an:=Q10) Qt Qr (Qc (Q7a N) Q69 Qq) Tryz.func222 rfl (fun x=>by kernel_rfl)
theorem Q7b:Runs Tryz.prog 196:=⟨_,Tryz.func196,by decide,rfl⟩
def Qgw (N:Nat):Con:=⟨196,Q13,Qud,fun x0=>Jj3 N x0,[]⟩
theorem Q7c (N:Nat):Qn Tryz.prog tx.gl (Qgw N):=Qb (Y:=tx) (N:=N) (K:=[Tq N,Mq N]) (an:=Q12) Qt Qr (Qc (Qmx N) Qmw (Qc (Qdm N) Qdl Qq)) Tryz.func196 rfl (fun x=>by kernel_rfl)
theorem Qdn:Runs Tryz.prog 167:=⟨_,Tryz.func167,by decide,rfl⟩
def Ms (N:Nat):Con:=⟨167,Q15,Que,fun (x0,x1)=>Qpx N x0 x1,[]⟩
theorem Qdo (N:Nat):Qn Tryz.prog tx.gl (Ms N):=Qb (Y:=tx) (N:=N) (K:=[Qgw N]) (an:=Q14) Qt Qr (Qc (Q7c N) Q7b Qq) Tryz.func167 rfl (fun x=>by kernel_rfl)
theorem Q7d:Runs Tryz.prog 232:=⟨_,Tryz.func232,by decide,rfl⟩
def Qgx (N:Nat):Con:=⟨232,Q17,Quf,fun (x0,x1)=>Jj4 N x0 x1,[]⟩
theorem Q7e (N:Nat):Qn Tryz.prog tx.gl (Qgx N):=Qb (Y:=tx) (N:=N) (K:=[Mq N]) (an:=Q16) Qt Qr (Qc (Qdm N) Qdl Qq) Tryz.func232 rfl (fun x=>by kernel_rfl)
theorem Q7f:Runs Tryz.prog 220:=⟨_,Tryz.func220,by decide,rfl⟩
def Qgy (N:Nat):Con:=⟨220,Q19,Qug,fun x0=>Jj5 N x0,[]⟩
theorem Q7g (N:Nat):Qn Tryz.prog tx.gl (Qgy N):=Qb (Y:=tx) (N:=N) (K:=[Qgx N,Tq N,Mq N]) (an:=Q18) Qt Qr (Qc (Q7e N) Q7d (Qc (Qmx N) Qmw (Qc (Qdm N) Qdl Qq))) Tryz.func220 rfl (fun x=>by kernel_rfl)
theorem Q7h:Runs Tryz.prog 195:=⟨_,Tryz.func195,by decide,rfl⟩
def Qgz (N:Nat):Con:=⟨195,Q2b,Quh,fun (x0,x1)=>Jb4 N x0 x1,[]⟩
theorem Q7i (N:Nat):Qn Tryz.prog tx.gl (Qgz N):=Qb (Y:=tx) (N:=N) (K:=[Qgy N]) (an:=Q2a) Qt Qr (Qc (Q7g N) Q7f Qq) Tryz.func195 rfl (fun x=>by kernel_rfl)
theorem Qdp:Runs Tryz.prog 166:=⟨_,Tryz.func166,by decide,rfl⟩
def Mt (N:Nat):Con:=⟨166,Q2d,Qui,fun (x0,x1)=>Qyr N x0 x1,[]⟩
theorem Qdq (N:Nat):Qn Tryz.prog tx.gl (Mt N):=Qb (Y:=tx) (N:=N) (K:=[Qgz N]) (an:=Q2c) Qt Qr (Qc (Q7i N) Q7h Qq) Tryz.func166 rfl (fun x=>by kernel_rfl)
theorem Q7j:Runs Tryz.prog 151:=⟨_,Tryz.func151,by decide,rfl⟩
def Qg0 (N:Nat):Con:=⟨151,Q2f,Quj,fun (x0,x1)=>Jj6 N x0 x1,[]⟩
theorem Q7k (N:Nat):Qn Tryz.prog tx.gl (Qg0 N):=Qb (Y:=tx) (N:=N) (K:=[Ms N,Mt N]) (an:=Q2e) Qt Qr (Qc (Qdo N) Qdn (Qc (Qdq N) Qdp Qq)) Tryz.func151 rfl (fun x=>by kernel_rfl)
theorem Qkh:Runs Tryz.prog 151:=⟨_,Tryz.func151,by decide,rfl⟩
def O4 (N:Nat):Con:=⟨151,Qju,Qf3,fun (x0,x1)=>Ql0 N x0 x1,[]⟩
theorem Qki (N:Nat):Qn Tryz.prog tx.gl (O4 N):=Qb (Y:=tx) (N:=N) (K:=[Ms N,Mt N]) (an:=Qjt) Qt Qr (Qc (Qdo N) Qdn (Qc (Qdq N) Qdp Qq)) Tryz.func151 rfl (fun x=>by kernel_rfl)
theorem Qkj:Runs Tryz.prog 149:=⟨_,Tryz.func149,by decide,rfl⟩
def O5 (N:Nat):Con:=⟨149,Qjw,Qf4,fun (x0,m5000,m5002,m5003)=>Ql1 N x0 m5000 m5002 m5003,[5000,5003]⟩
theorem Qkk (N:Nat):Qn Tryz.prog tx.gl (O5 N):=Qb (Y:=tx) (N:=N) (K:=[Tp N,Qg0 N]) (an:=Qjv) Qt Qr (Qc (Qmv N) Qmu (Qc (Q7k N) Q7j Qq)) Tryz.func149 rfl (fun x=>by kernel_rfl)
theorem Q7l:Runs Tryz.prog 212:=⟨_,Tryz.func212,by decide,rfl⟩
def Qg1 (N:Nat):Con:=⟨212,Q2h,Quk,fun (x0,x1,m5001)=>Jj7 N x0 x1 m5001,[]⟩
theorem Q7m (N:Nat):Qn Tryz.prog tx.gl (Qg1 N):=Qb (Y:=tx) (N:=N) (K:=[Da N]) (an:=Q2g) Qt Qr (Qc (P1 N) P0 Qq) Tryz.func212 rfl (fun x=>by kernel_rfl)
theorem Qkl:Runs Tryz.prog 212:=⟨_,Tryz.func212,by decide,rfl⟩
def O6 (N:Nat):Con:=⟨212,Qjy,Qf5,fun (x0,x1,m5001)=>Ql2 N x0 x1 m5001,[]⟩
theorem Qkm (N:Nat):Qn Tryz.prog tx.gl (O6 N):=Qb (Y:=tx) (N:=N) (K:=[Da N]) (an:=Qjx) Qt Qr (Qc (P1 N) P0 Qq) Tryz.func212 rfl (fun x=>by kernel_rfl)
theorem Q7n:Runs Tryz.prog 248:=⟨_,Tryz.func248,by decide,rfl⟩
def Qg2 (N:Nat):Con:=⟨248,Q2j,Qul,fun x0=>Jj8 N x0,[]⟩
theorem Q7o (N:Nat):Qn Tryz.prog tx.gl (Qg2 N):=Qb (Y:=tx) (N:=N) (K:=[]) (an:=Q2i) Qt Qr Qq Tryz.func248 rfl (fun x=>by kernel_rfl)
theorem Q7p:Runs Tryz.prog 229:=⟨_,Tryz.func229,by decide,rfl⟩
def Qg3 (N:Nat):Con:=⟨229,Q2l,Qum,fun x0=>Jj9 N x0,[]⟩
theorem Q7q (N:Nat):Qn Tryz.prog tx.gl (Qg3 N):=Qb (Y:=tx) (N:=N) (K:=[Qg2 N]) (an:=Q2k) Qt Qr (Qc (Q7o N) Q7n Qq) Tryz.func229 rfl (fun x=>by kernel_rfl)
theorem Q7r:Runs Tryz.prog 214:=⟨_,Tryz.func214,by decide,rfl⟩
def Qg4 (N:Nat):Con:=⟨214,Q2n,Qun,fun (x0,x1)=>Jka N x0 x1,[]⟩
theorem Q7s (N:Nat):Qn Tryz.prog tx.gl (Qg4 N):=Qb (Y:=tx) (N:=N) (K:=[]) (an:=Q2m) Qt Qr Qq Tryz.func214 rfl (fun x=>by kernel_rfl)
theorem Q7t:Runs Tryz.prog 239:=⟨_,Tryz.func239,by decide,rfl⟩
def Qg5 (N:Nat):Con:=⟨239,Q2p,Quo,fun (x0,x1,x2)=>Jkb N x0 x1 x2,[]⟩
theorem Q7u (N:Nat):Qn Tryz.prog tx.gl (Qg5 N):=Qb (Y:=tx) (N:=N) (K:=[Qg4 N]) (an:=Q2o) Qt Qr (Qc (Q7s N) Q7r Qq) Tryz.func239 rfl (fun x=>by kernel_rfl)
theorem Q7v:Runs Tryz.prog 228:=⟨_,Tryz.func228,by decide,rfl⟩
def Qg6 (N:Nat):Con:=⟨228,Q2r,Qup,fun (x0,x1,x2,x3)=>Jkc N x0 x1 x2 x3,[]⟩
theorem Q7w (N:Nat):Qn Tryz.prog tx.gl (Qg6 N):=Qb (Y:=tx) (N:=N) (K:=[Qg5 N]) (an:=Q2q) Qt Qr (Qc (Q7u N) Q7t Qq) Tryz.func228 rfl (fun x=>by kernel_rfl)
theorem Q7x:Runs Tryz.prog 213:=⟨_,Tryz.func213,by decide,rfl⟩
def Qg7 (N:Nat):Con:=⟨213,Q2t,Quq,fun x0=>Jkd N x0,[]⟩
theorem Q7y (N:Nat):Qn Tryz.prog tx.gl (Qg7 N):=Qb (Y:=tx) (N:=N) (K:=[Qg3 N,Qg6 N]) (an:=Q2s) Qt Qr (Qc (Q7q N) Q7p (Qc (Q7w N) Q7v Qq)) Tryz.func213 rfl (fun x=>by kernel_rfl)
theorem Q7z:Runs Tryz.prog 187:=⟨_,Tryz.func187,by decide,rfl⟩
def Qg8 (N:Nat):Con:=⟨187,Q2v,Qur,fun (x0,x1)=>Jke N x0 x1,[]⟩
theorem Q70 (N:Nat):Qn Tryz.prog tx.gl (Qg8 N):=Qb (Y:=tx) (N:=N) (K:=[]) (an:=Q2u) Qt Qr Qq Tryz.func187 rfl (fun x=>by kernel_rfl)
theorem Q71:Runs Tryz.prog 186:=⟨_,Tryz.func186,by decide,rfl⟩
def Qg9 (N:Nat):Con:=⟨186,Q2x,Qus,fun (x0,x1)=>Jkf N x0 x1,[]⟩
theorem Q72 (N:Nat):Qn Tryz.prog tx.gl (Qg9 N):=Qb (Y:=tx) (N:=N) (K:=[Qg1 N,O6 N,Qg7 N,Qg8 N]) (an:=Q2w) Qt Qr (Qc (Q7m N) Q7l (Qc (Qkm N) Qkl (Qc (Q7y N) Q7x (Qc (Q70 N) Q7z Qq)))) Tryz.func186 rfl (fun x=>by kernel_rfl)
theorem Q73:Runs Tryz.prog 152:=⟨_,Tryz.func152,by decide,rfl⟩
def Qha (N:Nat):Con:=⟨152,Q2z,Qut,fun x0=>Jkg N x0,[]⟩
theorem Q74 (N:Nat):Qn Tryz.prog tx.gl (Qha N):=Qb (Y:=tx) (N:=N) (K:=[Qg9 N]) (an:=Q2y) Qt Qr (Qc (Q72 N) Q71 Qq) Tryz.func152 rfl (fun x=>by kernel_rfl)
theorem Jg7:Runs Tryz.prog 99:=⟨_,Tryz.func99,by decide,rfl⟩
def Qmy (N:Nat):Con:=⟨99,Jei,Q20,fun (x0,x1,x2)=>Z99 N x0 x1 x2,[]⟩
theorem Jg8 (N:Nat):Qn Tryz.prog tx.gl (Qmy N):=Qb (Y:=tx) (N:=N) (K:=[O5 N,Qha N,O4 N]) (an:=Jeh) Qt Qr (Qc (Qkk N) Qkj (Qc (Q74 N) Q73 (Qc (Qki N) Qkh Qq))) Tryz.func99 rfl (fun x=>by kernel_rfl)
theorem Q75:Runs Tryz.prog 189:=⟨_,Tryz.func189,by decide,rfl⟩
def Qhb (N:Nat):Con:=⟨189,Q22,Quu,fun (x0,m5000,m5001)=>Jkh N x0 m5000 m5001,[5000,5001]⟩
theorem Q76 (N:Nat):Qn Tryz.prog tx.gl (Qhb N):=Qb (Y:=tx) (N:=N) (K:=[]) (an:=Q21) Qt Qr Qq Tryz.func189 rfl (fun x=>by kernel_rfl)
theorem Q77:Runs Tryz.prog 188:=⟨_,Tryz.func188,by decide,rfl⟩
def Qhc (N:Nat):Con:=⟨188,Q24,Quv,fun (x0,m5000,m5001)=>Jki N x0 m5000 m5001,[5000,5001]⟩
theorem Q78 (N:Nat):Qn Tryz.prog tx.gl (Qhc N):=Qb (Y:=tx) (N:=N) (K:=[Qhb N]) (an:=Q23) Qt Qr (Qc (Q76 N) Q75 Qq) Tryz.func188 rfl (fun x=>by kernel_rfl)
theorem Q79:Runs Tryz.prog 190:=⟨_,Tryz.func190,by decide,rfl⟩
def Qhd (N:Nat):Con:=⟨190,Q26,Quw,fun x0=>Jkj N x0,[]⟩
theorem Q8a (N:Nat):Qn Tryz.prog tx.gl (Qhd N):=Qb (Y:=tx) (N:=N) (K:=[]) (an:=Q25) Qt Qr Qq Tryz.func190 rfl (fun x=>by kernel_rfl)
theorem Q8b:Runs Tryz.prog 153:=⟨_,Tryz.func153,by decide,rfl⟩
def Qhe (N:Nat):Con:=⟨153,Q28,Qux,fun (x0,x1,x2)=>Jkk N x0 x1 x2,[]⟩
theorem Q8c (N:Nat):Qn Tryz.prog tx.gl (Qhe N):=Qb (Y:=tx) (N:=N) (K:=[Qhc N,Qhd N]) (an:=Q27) Qt Qr (Qc (Q78 N) Q77 (Qc (Q8a N) Q79 Qq)) Tryz.func153 rfl (fun x=>by kernel_rfl)
theorem Q8d:Runs Tryz.prog 100:=⟨_,Tryz.func100,by decide,rfl⟩
def Qhf (N:Nat):Con:=⟨100,Q3a,Quy,fun (x0,x1,x2)=>Jkl N x0 x1 x2,[]⟩
theorem Q8e (N:Nat):Qn Tryz.prog tx.gl (Qhf N):=Qb (Y:=tx) (N:=N) (K:=[Tp N,Qhe N]) (an:=Q29) Qt Qr (Qc (Qmv N) Qmu (Qc (Q8c N) Q8b Qq)) Tryz.func100 rfl (fun x=>by kernel_rfl)
theorem Qkn:Runs Tryz.prog 101:=⟨_,Tryz.func101,by decide,rfl⟩
def O7 (N:Nat):Con:=⟨101,Qj0,Qf6,fun (x1,m5000_0,m5001)=>Ql3 N x1 m5000_0 m5001,[]⟩
theorem Qko (N:Nat):Qn Tryz.prog tx.gl (O7 N):=Qb (Y:=tx) (N:=N) (K:=[Qdk N,Tn N]) (an:=Qjz) Qt Qr (Qc (Qwa N) Qv9 (Qc (Qqh N) Qqg Qq)) Tryz.func101 rfl (fun x=>by kernel_rfl)
theorem Jg9:Runs Tryz.prog 69:=⟨_,Tryz.func69,by decide,rfl⟩
def Qmz (N:Nat):Con:=⟨69,Jek,Q3b,fun (x0,x1,x2,x3,x4)=>Z69 N x0 x1 x2 x3 x4,[]⟩
theorem Jha (N:Nat):Qn Tryz.prog tx.gl (Qmz N):=Qb (Y:=tx) (N:=N) (K:=[Qmr N,Qdk N,Qms N,Qmt N,Qmy N,Qhf N,O7 N]) (an:=Jej) Qt Qr (Qc (Jg2 N) Jg1 (Qc (Qwa N) Qv9 (Qc (Jg4 N) Jg3 (Qc (Jg6 N) Jg5 (Qc (Jg8 N) Jg7 (Qc (Q8e N) Q8d (Qc (Qko N) Qkn Qq))))))) Tryz.func69 rfl (fun x=>by kernel_rfl)
theorem Q8f:Runs Tryz.prog 191:=⟨_,Tryz.func191,by decide,rfl⟩
def Qhg (N:Nat):Con:=⟨191,Q3d,Quz,fun x0=>Jkm N x0,[]⟩
theorem Q8g (N:Nat):Qn Tryz.prog tx.gl (Qhg N):=Qb (Y:=tx) (N:=N) (K:=[]) (an:=Q3c) Qt Qr Qq Tryz.func191 rfl (fun x=>by kernel_rfl)
theorem Q8h:Runs Tryz.prog 157:=⟨_,Tryz.func157,by decide,rfl⟩
def Qhh (N:Nat):Con:=⟨157,Q3f,Qu0,fun x0=>Jkn N x0,[]⟩
theorem Q8i (N:Nat):Qn Tryz.prog tx.gl (Qhh N):=Qb (Y:=tx) (N:=N) (K:=[Qhg N]) (an:=Q3e) Qt Qr (Qc (Q8g N) Q8f Qq) Tryz.func157 rfl (fun x=>by kernel_rfl)
theorem Q8j:Runs Tryz.prog 158:=⟨_,Tryz.func158,by decide,rfl⟩
def Qhi (N:Nat):Con:=⟨158,Q3h,Qu1,fun (x0,x1,x2)=>Jko N x0 x1 x2,[]⟩
theorem Q8k (N:Nat):Qn Tryz.prog tx.gl (Qhi N):=Qb (Y:=tx) (N:=N) (K:=[]) (an:=Q3g) Qt Qr Qq Tryz.func158 rfl (fun x=>by kernel_rfl)
theorem Q8l:Runs Tryz.prog 159:=⟨_,Tryz.func159,by decide,rfl⟩
def Qhj (N:Nat):Con:=⟨159,Q3j,Qu2,fun (x0,x1,x2,x3,x4,x5,x6)=>Jkp N x0 x1 x2 x3 x4 x5 x6,[]⟩
theorem Q8m (N:Nat):Qn Tryz.prog tx.gl (Qhj N):=Qb (Y:=tx) (N:=N) (K:=[Qdb N]) (an:=Q3i) Qt Qr (Qc (Qv1 N) Qv0 Qq) Tryz.func159 rfl (fun x=>by kernel_rfl)
theorem Q8n:Runs Tryz.prog 160:=⟨_,Tryz.func160,by decide,rfl⟩
def Qhk (N:Nat):Con:=⟨160,Q3l,Qu3,fun x0=>Jkq N x0,[]⟩
theorem Q8o (N:Nat):Qn Tryz.prog tx.gl (Qhk N):=Qb (Y:=tx) (N:=N) (K:=[]) (an:=Q3k) Qt Qr Qq Tryz.func160 rfl (fun x=>by kernel_rfl)
theorem Q8p:Runs Tryz.prog 102:=⟨_,Tryz.func102,by decide,rfl⟩
def Qhl (N:Nat):Con:=⟨102,Q3n,Qu4,fun (x0,x1,x2,x3,x4,x5,x6,x7)=>Jkr N x0 x1 x2 x3 x4 x5 x6 x7,[]⟩
theorem Q8q (N:Nat):Qn Tryz.prog tx.gl (Qhl N):=Qb (Y:=tx) (N:=N) (K:=[Qhh N,Qhi N,Qhj N,Qhk N]) (an:=Q3m) Qt Qr (Qc (Q8i N) Q8h (Qc (Q8k N) Q8j (Qc (Q8m N) Q8l (Qc (Q8o N) Q8n Qq)))) Tryz.func102 rfl (fun x=>by kernel_rfl)
theorem Jhb:Runs Tryz.prog 70:=⟨_,Tryz.func70,by decide,rfl⟩
def Qm0 (N:Nat):Con:=⟨70,Jem,Q3o,fun (x0,x1,x2,x3)=>Z70 N x0 x1 x2 x3,[]⟩
theorem Jhc (N:Nat):Qn Tryz.prog tx.gl (Qm0 N):=Qb (Y:=tx) (N:=N) (K:=[P2 N,Qhl N]) (an:=Jel) Qt Qr (Qc (Qkg N) Qkf (Qc (Q8q N) Q8p Qq)) Tryz.func70 rfl (fun x=>by kernel_rfl)
theorem Jhd:Runs Tryz.prog 53:=⟨_,Tryz.func53,by decide,rfl⟩
def Qm1 (N:Nat):Con:=⟨53,Jeo,Q3p,fun (m5000_0,m5000_1,m5000_2,m5000_3,m5000_4,m5000_5,m5000_6,m5000_7_0,m5000_7_1,m5000_7_2,m5000_7_3,m5000_7_4,m5000_7_7,m5000_7_8,m5000_7_9,m5000_7_11,m5000_7_12,m5001,m5002,m5003)=>Z53 N m5000_0 m5000_1 m5000_2 m5000_3 m5000_4 m5000_5 m5000_6 m5000_7_0 m5000_7_1 m5000_7_2 m5000_7_3 m5000_7_4 m5000_7_7 m5000_7_8 m5000_7_9 m5000_7_11 m5000_7_12 m5001 m5002 m5003,[5001]⟩
theorem Jhe (N:Nat):Qn Tryz.prog tx.gl (Qm1 N):=Qb (Y:=tx) (N:=N) (K:=[Qmq N,Qmz N,Qm0 N]) (an:=Jen) Qt Qr (Qc (Jg0 N) Jgz (Qc (Jha N) Jg9 (Qc (Jhc N) Jhb Qq))) Tryz.func53 rfl (fun x=>by kernel_rfl)
theorem Q8r:Runs Tryz.prog 161:=⟨_,Tryz.func161,by decide,rfl⟩
def Qhm (N:Nat):Con:=⟨161,Q3r,Qu5,fun (x0,x1)=>Jks N x0 x1,[]⟩
theorem Q8s (N:Nat):Qn Tryz.prog tx.gl (Qhm N):=Qb (Y:=tx) (N:=N) (K:=[]) (an:=Q3q) Qt Qr Qq Tryz.func161 rfl (fun x=>by kernel_rfl)
theorem Q8t:Runs Tryz.prog 168:=⟨_,Tryz.func168,by decide,rfl⟩
def Qhn (N:Nat):Con:=⟨168,Q3t,Qu6,fun x0=>Jkt N x0,[]⟩
theorem Q8u (N:Nat):Qn Tryz.prog tx.gl (Qhn N):=Qb (Y:=tx) (N:=N) (K:=[]) (an:=Q3s) Qt Qr Qq Tryz.func168 rfl (fun x=>by kernel_rfl)
theorem Q8v:Runs Tryz.prog 197:=⟨_,Tryz.func197,by decide,rfl⟩
def Qho (N:Nat):Con:=⟨197,Q3v,Qu7,fun (x0,m5000)=>Jku N x0 m5000,[5000]⟩
theorem Q8w (N:Nat):Qn Tryz.prog tx.gl (Qho N):=Qb (Y:=tx) (N:=N) (K:=[]) (an:=Q3u) Qt Qr Qq Tryz.func197 rfl (fun x=>by kernel_rfl)
theorem Q8x:Runs Tryz.prog 169:=⟨_,Tryz.func169,by decide,rfl⟩
def Qhp (N:Nat):Con:=⟨169,Q3x,Qu8,fun (x0,m5000)=>Jkv N x0 m5000,[5000]⟩
theorem Q8y (N:Nat):Qn Tryz.prog tx.gl (Qhp N):=Qb (Y:=tx) (N:=N) (K:=[Qho N]) (an:=Q3w) Qt Qr (Qc (Q8w N) Q8v Qq) Tryz.func169 rfl (fun x=>by kernel_rfl)
theorem Qm2:Runs Tryz.prog 108:=⟨_,Tryz.func108,by decide,rfl⟩
def Tt (N:Nat):Con:=⟨108,Q3z,Qu9,fun x0=>Jcc N x0,[]⟩
theorem Qm3 (N:Nat):Qn Tryz.prog tx.gl (Tt N):=Qb (Y:=tx) (N:=N) (K:=[Qhn N,Qhp N]) (an:=Q3y) Qt Qr (Qc (Q8u N) Q8t (Qc (Q8y N) Q8x Qq)) Tryz.func108 rfl (fun x=>by kernel_rfl)
theorem Q8z:Runs Tryz.prog 199:=⟨_,Tryz.func199,by decide,rfl⟩
def Qhq (N:Nat):Con:=⟨199,Q31,Qva,fun (x0,x1)=>Jkw N x0 x1,[]⟩
theorem Q80 (N:Nat):Qn Tryz.prog tx.gl (Qhq N):=Qb (Y:=tx) (N:=N) (K:=[]) (an:=Q30) Qt Qr Qq Tryz.func199 rfl (fun x=>by kernel_rfl)
theorem Q81:Runs Tryz.prog 174:=⟨_,Tryz.func174,by decide,rfl⟩
def Qhr (N:Nat):Con:=⟨174,Q33,Qvb,fun (x0,x1)=>Jkx N x0 x1,[]⟩
theorem Q82 (N:Nat):Qn Tryz.prog tx.gl (Qhr N):=Qb (Y:=tx) (N:=N) (K:=[Qhq N]) (an:=Q32) Qt Qr (Qc (Q80 N) Q8z Qq) Tryz.func174 rfl (fun x=>by kernel_rfl)
theorem Qm4:Runs Tryz.prog 114:=⟨_,Tryz.func114,by decide,rfl⟩
def Tu (N:Nat):Con:=⟨114,Q35,Qvc,fun x0=>Jcd N x0,[]⟩
theorem Qm5 (N:Nat):Qn Tryz.prog tx.gl (Tu N):=Qb (Y:=tx) (N:=N) (K:=[]) (an:=Q34) Qt Qr Qq Tryz.func114 rfl (fun x=>by kernel_rfl)
theorem Q83:Runs Tryz.prog 110:=⟨_,Tryz.func110,by decide,rfl⟩
def Qhs (N:Nat):Con:=⟨110,Q37,Qvd,fun (x0,x1)=>Jky N x0 x1,[]⟩
theorem Q84 (N:Nat):Qn Tryz.prog tx.gl (Qhs N):=Qb (Y:=tx) (N:=N) (K:=[Qhr N,Tu N]) (an:=Q36) Qt Qr (Qc (Q82 N) Q81 (Qc (Qm5 N) Qm4 Qq)) Tryz.func110 rfl (fun x=>by kernel_rfl)
theorem Q85:Runs Tryz.prog 198:=⟨_,Tryz.func198,by decide,rfl⟩
def Qht (N:Nat):Con:=⟨198,Q39,Qve,fun (x0,m5000,m5001)=>Jkz N x0 m5000 m5001,[5000,5001]⟩
theorem Q86 (N:Nat):Qn Tryz.prog tx.gl (Qht N):=Qb (Y:=tx) (N:=N) (K:=[]) (an:=Q38) Qt Qr Qq Tryz.func198 rfl (fun x=>by kernel_rfl)
theorem Q87:Runs Tryz.prog 173:=⟨_,Tryz.func173,by decide,rfl⟩
def Qhu (N:Nat):Con:=⟨173,Q4b,Qvf,fun (x0,m5000,m5001)=>Jk0 N x0 m5000 m5001,[5000,5001]⟩
theorem Q88 (N:Nat):Qn Tryz.prog tx.gl (Qhu N):=Qb (Y:=tx) (N:=N) (K:=[Qht N]) (an:=Q4a) Qt Qr (Qc (Q86 N) Q85 Qq) Tryz.func173 rfl (fun x=>by kernel_rfl)
theorem Q89:Runs Tryz.prog 109:=⟨_,Tryz.func109,by decide,rfl⟩
def Qhv (N:Nat):Con:=⟨109,Q4d,Qvg,fun (x0,x1,x2)=>Jk1 N x0 x1 x2,[]⟩
theorem Q9a (N:Nat):Qn Tryz.prog tx.gl (Qhv N):=Qb (Y:=tx) (N:=N) (K:=[Qhu N]) (an:=Q4c) Qt Qr (Qc (Q88 N) Q87 Qq) Tryz.func109 rfl (fun x=>by kernel_rfl)
theorem Qwb:Runs Tryz.prog 74:=⟨_,Tryz.func74,by decide,rfl⟩
def Qdr (N:Nat):Con:=⟨74,Jeq,Q4e,fun (x0,x1,x2)=>Z74 N x0 x1 x2,[]⟩
theorem Qwc (N:Nat):Qn Tryz.prog tx.gl (Qdr N):=Qb (Y:=tx) (N:=N) (K:=[Tt N,Qhs N,Qhv N]) (an:=Jep) Qt Qr (Qc (Qm3 N) Qm2 (Qc (Q84 N) Q83 (Qc (Q9a N) Q89 Qq))) Tryz.func74 rfl (fun x=>by kernel_rfl)
theorem Q9b:Runs Tryz.prog 163:=⟨_,Tryz.func163,by decide,rfl⟩
def Qhw (N:Nat):Con:=⟨163,Q4g,Qvh,fun (x0,m5000,m5001,m5002)=>Jk2 N x0 m5000 m5001 m5002,[5000,5001,5002]⟩
theorem Q9c (N:Nat):Qn Tryz.prog tx.gl (Qhw N):=Qb (Y:=tx) (N:=N) (K:=[]) (an:=Q4f) Qt Qr Qq Tryz.func163 rfl (fun x=>by kernel_rfl)
theorem Q9d:Runs Tryz.prog 104:=⟨_,Tryz.func104,by decide,rfl⟩
def Qhx (N:Nat):Con:=⟨104,Q4i,Qvi,fun (x0,x1,x2,x3)=>Jk3 N x0 x1 x2 x3,[]⟩
theorem Q9e (N:Nat):Qn Tryz.prog tx.gl (Qhx N):=Qb (Y:=tx) (N:=N) (K:=[Qhw N]) (an:=Q4h) Qt Qr (Qc (Q9c N) Q9b Qq) Tryz.func104 rfl (fun x=>by kernel_rfl)
theorem Q9f:Runs Tryz.prog 194:=⟨_,Tryz.func194,by decide,rfl⟩
def Qhy (N:Nat):Con:=⟨194,Q4k,Qvj,fun (x0,x1)=>Jce N x0 x1,[]⟩
theorem Q9g (N:Nat):Qn Tryz.prog tx.gl (Qhy N):=Qb (Y:=tx) (N:=N) (K:=[]) (an:=Q4j) Qt Qr Qq Tryz.func194 rfl (fun x=>by kernel_rfl)
theorem Q9h:Runs Tryz.prog 164:=⟨_,Tryz.func164,by decide,rfl⟩
def Qhz (N:Nat):Con:=⟨164,Q4m,Qvk,fun x0=>Jk4 N x0,[]⟩
theorem Q9i (N:Nat):Qn Tryz.prog tx.gl (Qhz N):=Qb (Y:=tx) (N:=N) (K:=[Qhy N]) (an:=Q4l) Qt Qr (Qc (Q9g N) Q9f Qq) Tryz.func164 rfl (fun x=>by kernel_rfl)
theorem Q9j:Runs Tryz.prog 165:=⟨_,Tryz.func165,by decide,rfl⟩
def Qh0 (N:Nat):Con:=⟨165,Q4o,Qvl,fun (x0,x1)=>Jcf N x0 x1,[]⟩
theorem Q9k (N:Nat):Qn Tryz.prog tx.gl (Qh0 N):=Qb (Y:=tx) (N:=N) (K:=[]) (an:=Q4n) Qt Qr Qq Tryz.func165 rfl (fun x=>by kernel_rfl)
theorem Q9l:Runs Tryz.prog 105:=⟨_,Tryz.func105,by decide,rfl⟩
def Qh1 (N:Nat):Con:=⟨105,Q4q,Qvm,fun (x0,x1,x2)=>Jk5 N x0 x1 x2,[]⟩
theorem Q9m (N:Nat):Qn Tryz.prog tx.gl (Qh1 N):=Qb (Y:=tx) (N:=N) (K:=[Qhz N,Qh0 N]) (an:=Q4p) Qt Qr (Qc (Q9i N) Q9h (Qc (Q9k N) Q9j Qq)) Tryz.func105 rfl (fun x=>by kernel_rfl)
theorem Qkp:Runs Tryz.prog 103:=⟨_,Tryz.func103,by decide,rfl⟩
def O8 (N:Nat):Con:=⟨103,Qj2,Qf7,fun (x0,x1,x2,x3)=>Ql4 N x0 x1 x2 x3,[]⟩
theorem Qkq (N:Nat):Qn Tryz.prog tx.gl (O8 N):=Qb (Y:=tx) (N:=N) (K:=[Qhm N,Tt N,Qdr N]) (an:=Qj1) Qt Qr (Qc (Q8s N) Q8r (Qc (Qm3 N) Qm2 (Qc (Qwc N) Qwb Qq))) Tryz.func103 rfl (fun x=>by kernel_rfl)
theorem Jhf:Runs Tryz.prog 71:=⟨_,Tryz.func71,by decide,rfl⟩
def Qm6 (N:Nat):Con:=⟨71,Jes,Q4r,fun (x0,x1,x2,x3)=>Z71 N x0 x1 x2 x3,[]⟩
theorem Jhg (N:Nat):Qn Tryz.prog tx.gl (Qm6 N):=Qb (Y:=tx) (N:=N) (K:=[Qdf N,O8 N,Qhx N,Qh1 N]) (an:=Jer) Qt Qr (Qc (Qv8 N) Qv7 (Qc (Qkq N) Qkp (Qc (Q9e N) Q9d (Qc (Q9m N) Q9l Qq)))) Tryz.func71 rfl (fun x=>by kernel_rfl)
theorem Jhh:Runs Tryz.prog 54:=⟨_,Tryz.func54,by decide,rfl⟩
def Qm7 (N:Nat):Con:=⟨54,Jeu,Q4s,fun (m5000_0,m5000_1,m5000_2,m5000_3,m5000_4,m5000_5,m5000_6,m5000_7_0,m5000_7_1,m5000_7_2,m5000_7_3,m5000_7_4,m5000_7_5,m5000_7_7,m5000_7_8,m5000_7_9,m5000_7_11,m5000_7_12,m5001,m5002)=>Z54 N m5000_0 m5000_1 m5000_2 m5000_3 m5000_4 m5000_5 m5000_6 m5000_7_0 m5000_7_1 m5000_7_2 m5000_7_3 m5000_7_4 m5000_7_5 m5000_7_7 m5000_7_8 m5000_7_9 m5000_7_11 m5000_7_12 m5001 m5002,[5001]⟩
theorem Jhi (N:Nat):Qn Tryz.prog tx.gl (Qm7 N):=Qb (Y:=tx) (N:=N) (K:=[Qm6 N]) (an:=Jet) Qt Qr (Qc (Jhg N) Jhf Qq) Tryz.func54 rfl (fun x=>by kernel_rfl)
theorem Jhj:Runs Tryz.prog 52:=⟨_,Tryz.func52,by decide,rfl⟩
def Qm8 (N:Nat):Con:=⟨52,Jew,Q4t,fun (m5001_0,m5001_1,m5001_2,m5001_3,m5001_4,m5001_5,m5001_6,m5001_7_0,m5001_7_1,m5001_7_2,m5001_7_3,m5001_7_4,m5001_7_7,m5001_7_8,m5001_7_9,m5001_7_11,m5001_7_12,m5002,m5003,m5004)=>Z52 N m5001_0 m5001_1 m5001_2 m5001_3 m5001_4 m5001_5 m5001_6 m5001_7_0 m5001_7_1 m5001_7_2 m5001_7_3 m5001_7_4 m5001_7_7 m5001_7_8 m5001_7_9 m5001_7_11 m5001_7_12 m5002 m5003 m5004,[5000,5002]⟩
theorem Jhk (N:Nat):Qn Tryz.prog tx.gl (Qm8 N):=Qb (Y:=tx) (N:=N) (K:=[Qm1 N,Qm7 N]) (an:=Jev) Qt Qr (Qc (Jhe N) Jhd (Qc (Jhi N) Jhh Qq)) Tryz.func52 rfl (fun x=>by kernel_rfl)
theorem Qqi:Runs Tryz.prog 47:=⟨_,Tryz.func47,by decide,rfl⟩
def Tv (N:Nat):Con:=⟨47,Qp3,Qj3,fun (m5001_0,m5001_1,m5001_2,m5001_3,m5001_4,m5001_5,m5001_6,m5001_7_0,m5001_7_1,m5001_7_2,m5001_7_3,m5001_7_4,m5001_7_7,m5001_7_8,m5001_7_9,m5001_7_11,m5001_7_12,m5002,m5003,m5004,m5005)=>Qtd N m5001_0 m5001_1 m5001_2 m5001_3 m5001_4 m5001_5 m5001_6 m5001_7_0 m5001_7_1 m5001_7_2 m5001_7_3 m5001_7_4 m5001_7_7 m5001_7_8 m5001_7_9 m5001_7_11 m5001_7_12 m5002 m5003 m5004 m5005,[5000]⟩
theorem Qqj (N:Nat):Qn Tryz.prog tx.gl (Tv N):=Qb (Y:=tx) (N:=N) (K:=[Qm8 N]) (an:=Qp2) Qt Qr (Qc (Jhk N) Jhj Qq) Tryz.func47 rfl (fun x=>by kernel_rfl)
theorem Qm9:Runs Tryz.prog 107:=⟨_,Tryz.func107,by decide,rfl⟩
def Tw (N:Nat):Con:=⟨107,Q4v,Qvn,fun (x0,x1)=>Jci N x0 x1,[]⟩
theorem Qna (N:Nat):Qn Tryz.prog tx.gl (Tw N):=Qb (Y:=tx) (N:=N) (K:=[Ms N,Mt N]) (an:=Q4u) Qt Qr (Qc (Qdo N) Qdn (Qc (Qdq N) Qdp Qq)) Tryz.func107 rfl (fun x=>by kernel_rfl)
theorem Jhl:Runs Tryz.prog 73:=⟨_,Tryz.func73,by decide,rfl⟩
def Qnb (N:Nat):Con:=⟨73,Jey,Q4w,fun (m5000_0,m5000_1,m5000_2,m5000_3,m5000_4,m5000_5,m5000_6,m5000_7_0,m5000_7_1,m5000_7_2,m5000_7_3,m5000_7_4,m5000_7_5,m5000_7_6,m5000_7_7,m5000_7_8,m5000_7_9,m5000_7_11,m5000_7_12,m5001)=>Z73 N m5000_0 m5000_1 m5000_2 m5000_3 m5000_4 m5000_5 m5000_6 m5000_7_0 m5000_7_1 m5000_7_2 m5000_7_3 m5000_7_4 m5000_7_5 m5000_7_6 m5000_7_7 m5000_7_8 m5000_7_9 m5000_7_11 m5000_7_12 m5001,[5000,5001]⟩
theorem Jhm (N:Nat):Qn Tryz.prog tx.gl (Qnb N):=Qb (Y:=tx) (N:=N) (K:=[Tw N]) (an:=Jex) Qt Qr (Qc (Qna N) Qm9 Qq) Tryz.func73 rfl (fun x=>by kernel_rfl)
theorem Qnc:Runs Tryz.prog 106:=⟨_,Tryz.func106,by decide,rfl⟩
def Tx (N:Nat):Con:=⟨106,Q4y,Qvo,fun (x0,x1)=>Jcj N x0 x1,[]⟩
theorem Qnd (N:Nat):Qn Tryz.prog tx.gl (Tx N):=Qb (Y:=tx) (N:=N) (K:=[]) (an:=Q4x) Qt Qr Qq Tryz.func106 rfl (fun x=>by kernel_rfl)
theorem Jhn:Runs Tryz.prog 72:=⟨_,Tryz.func72,by decide,rfl⟩
def Qne (N:Nat):Con:=⟨72,Je0,Q4z,fun (x0,x1,x2,x3)=>Z72 N x0 x1 x2 x3,[]⟩
theorem Jho (N:Nat):Qn Tryz.prog tx.gl (Qne N):=Qb (Y:=tx) (N:=N) (K:=[Tx N]) (an:=Jez) Qt Qr (Qc (Qnd N) Qnc Qq) Tryz.func72 rfl (fun x=>by kernel_rfl)
theorem Jhp:Runs Tryz.prog 76:=⟨_,Tryz.func76,by decide,rfl⟩
def Qnf (N:Nat):Con:=⟨76,Je2,Q40,fun (x0,x1,x2,x3,x4)=>Z76 N x0 x1 x2 x3 x4,[]⟩
theorem Jhq (N:Nat):Qn Tryz.prog tx.gl (Qnf N):=Qb (Y:=tx) (N:=N) (K:=[Tu N]) (an:=Je1) Qt Qr (Qc (Qm5 N) Qm4 Qq) Tryz.func76 rfl (fun x=>by kernel_rfl)
theorem Jhr:Runs Tryz.prog 75:=⟨_,Tryz.func75,by decide,rfl⟩
def Qng (N:Nat):Con:=⟨75,Je4,Q41,fun (x0,x1,x2)=>Z75 N x0 x1 x2,[]⟩
theorem Jhs (N:Nat):Qn Tryz.prog tx.gl (Qng N):=Qb (Y:=tx) (N:=N) (K:=[]) (an:=Je3) Qt Qr Qq Tryz.func75 rfl (fun x=>by kernel_rfl)
theorem Jht:Runs Tryz.prog 56:=⟨_,Tryz.func56,by decide,rfl⟩
def Qnh (N:Nat):Con:=⟨56,Je6,Q42,fun (m5000_0,m5000_1,m5000_2,m5000_3,m5000_4,m5000_5,m5000_6,m5000_7_0,m5000_7_1,m5000_7_2,m5000_7_3,m5000_7_4,m5000_7_5,m5000_7_6,m5000_7_7,m5000_7_8,m5000_7_9,m5000_7_11,m5000_7_12,m5001)=>Z56 N m5000_0 m5000_1 m5000_2 m5000_3 m5000_4 m5000_5 m5000_6 m5000_7_0 m5000_7_1 m5000_7_2 m5000_7_3 m5000_7_4 m5000_7_5 m5000_7_6 m5000_7_7 m5000_7_8 m5000_7_9 m5000_7_11 m5000_7_12 m5001,[5001]⟩
theorem Jhu (N:Nat):Qn Tryz.prog tx.gl (Qnh N):=Qb (Y:=tx) (N:=N) (K:=[Qnb N,Qne N,Qdr N,Qnf N,Qng N]) (an:=Je5) Qt Qr (Qc (Jhm N) Jhl (Qc (Jho N) Jhn (Qc (Qwc N) Qwb (Qc (Jhq N) Jhp (Qc (Jhs N) Jhr Qq))))) Tryz.func56 rfl (fun x=>by kernel_rfl)
theorem Jhv:Runs Tryz.prog 55:=⟨_,Tryz.func55,by decide,rfl⟩
def Qni (N:Nat):Con:=⟨55,Je8,Q43,fun (m5001_0,m5001_1,m5001_2,m5001_3,m5001_4,m5001_5,m5001_6,m5001_7_0,m5001_7_1,m5001_7_2,m5001_7_3,m5001_7_4,m5001_7_5,m5001_7_6,m5001_7_7,m5001_7_8,m5001_7_9,m5001_7_11,m5001_7_12,m5002)=>Z55 N m5001_0 m5001_1 m5001_2 m5001_3 m5001_4 m5001_5 m5001_6 m5001_7_0 m5001_7_1 m5001_7_2 m5001_7_3 m5001_7_4 m5001_7_5 m5001_7_6 m5001_7_7 m5001_7_8 m5001_7_9 m5001_7_11 m5001_7_12 m5002,[5000,5002]⟩
theorem Jhw (N:Nat):Qn Tryz.prog tx.gl (Qni N):=Qb (Y:=tx) (N:=N) (K:=[Qnh N]) (an:=Je7) Qt Qr (Qc (Jhu N) Jht Qq) Tryz.func55 rfl (fun x=>by kernel_rfl)
theorem Qqk:Runs Tryz.prog 47:=⟨_,Tryz.func47,by decide,rfl⟩
def Tz (N:Nat):Con:=⟨47,Qp5,Qj4,fun (m5001_0,m5001_1,m5001_2,m5001_3,m5001_4,m5001_5,m5001_6,m5001_7_0,m5001_7_1,m5001_7_2,m5001_7_3,m5001_7_4,m5001_7_5,m5001_7_6,m5001_7_7,m5001_7_8,m5001_7_9,m5001_7_11,m5001_7_12,m5002,m5003)=>Qte N m5001_0 m5001_1 m5001_2 m5001_3 m5001_4 m5001_5 m5001_6 m5001_7_0 m5001_7_1 m5001_7_2 m5001_7_3 m5001_7_4 m5001_7_5 m5001_7_6 m5001_7_7 m5001_7_8 m5001_7_9 m5001_7_11 m5001_7_12 m5002 m5003,[5000]⟩
theorem Qql (N:Nat):Qn Tryz.prog tx.gl (Tz N):=Qb (Y:=tx) (N:=N) (K:=[Qni N]) (an:=Qp4) Qt Qr (Qc (Jhw N) Jhv Qq) Tryz.func47 rfl (fun x=>by kernel_rfl)
theorem Qnj:Runs Tryz.prog 116:=⟨_,Tryz.func116,by decide,rfl⟩
def T0 (N:Nat):Con:=⟨116,Q45,Qvp,fun x0=>Jcm N x0,[]⟩
theorem Qnk (N:Nat):Qn Tryz.prog tx.gl (T0 N):=Qb (Y:=tx) (N:=N) (K:=[Mp N]) (an:=Q44) Qt Qr (Qc (Qdj N) Qdi Qq) Tryz.func116 rfl (fun x=>by kernel_rfl)
theorem Q9n:Runs Tryz.prog 117:=⟨_,Tryz.func117,by decide,rfl⟩
def Qh2 (N:Nat):Con:=⟨117,Q47,Qvq,fun (x0,x1)=>Jk6 N x0 x1,[]⟩
theorem Q9o (N:Nat):Qn Tryz.prog tx.gl (Qh2 N):=Qb (Y:=tx) (N:=N) (K:=[Mp N,Mm N,T0 N]) (an:=Q46) Qt Qr (Qc (Qdj N) Qdi (Qc (Qdh N) Qdg (Qc (Qnk N) Qnj Qq))) Tryz.func117 rfl (fun x=>by kernel_rfl)
theorem Qkr:Runs Tryz.prog 115:=⟨_,Tryz.func115,by decide,rfl⟩
def O9 (N:Nat):Con:=⟨115,Qj6,Qf8,fun m5000=>Ql5 N m5000,[5000]⟩
theorem Qks (N:Nat):Qn Tryz.prog tx.gl (O9 N):=Qb (Y:=tx) (N:=N) (K:=[]) (an:=Qj5) Qt Qr Qq Tryz.func115 rfl (fun x=>by kernel_rfl)
theorem Jhx:Runs Tryz.prog 77:=⟨_,Tryz.func77,by decide,rfl⟩
def Qnl (N:Nat):Con:=⟨77,Jfa,Q48,fun (x0,x1,x2,x3)=>Z77 N x0 x1 x2 x3,[]⟩
theorem Jhy (N:Nat):Qn Tryz.prog tx.gl (Qnl N):=Qb (Y:=tx) (N:=N) (K:=[P2 N,O9 N,T0 N,Qh2 N]) (an:=Je9) Qt Qr (Qc (Qkg N) Qkf (Qc (Qks N) Qkr (Qc (Qnk N) Qnj (Qc (Q9o N) Q9n Qq)))) Tryz.func77 rfl (fun x=>by kernel_rfl)
theorem Qqm:Runs Tryz.prog 73:=⟨_,Tryz.func73,by decide,rfl⟩
def T1 (N:Nat):Con:=⟨73,Qp7,Qj7,fun m5000=>Qtf N m5000,[5000]⟩
theorem Qqn (N:Nat):Qn Tryz.prog tx.gl (T1 N):=Qb (Y:=tx) (N:=N) (K:=[Tw N]) (an:=Qp6) Qt Qr (Qc (Qna N) Qm9 Qq) Tryz.func73 rfl (fun x=>by kernel_rfl)
theorem Q9p:Runs Tryz.prog 178:=⟨_,Tryz.func178,by decide,rfl⟩
def Qh3 (N:Nat):Con:=⟨178,Q5a,Qvr,fun x0=>Jk7 N x0,[]⟩
theorem Q9q (N:Nat):Qn Tryz.prog tx.gl (Qh3 N):=Qb (Y:=tx) (N:=N) (K:=[]) (an:=Q49) Qt Qr Qq Tryz.func178 rfl (fun x=>by kernel_rfl)
theorem Qnm:Runs Tryz.prog 119:=⟨_,Tryz.func119,by decide,rfl⟩
def T2 (N:Nat):Con:=⟨119,Q5c,Qvs,fun x0=>Jcn N x0,[]⟩
theorem Qnn (N:Nat):Qn Tryz.prog tx.gl (T2 N):=Qb (Y:=tx) (N:=N) (K:=[Qh3 N]) (an:=Q5b) Qt Qr (Qc (Q9q N) Q9p Qq) Tryz.func119 rfl (fun x=>by kernel_rfl)
theorem Qno:Runs Tryz.prog 120:=⟨_,Tryz.func120,by decide,rfl⟩
def T3 (N:Nat):Con:=⟨120,Q5e,Qvt,fun x0=>Qzi N x0,[]⟩
theorem Qnp (N:Nat):Qn Tryz.prog tx.gl (T3 N):=Qb (Y:=tx) (N:=N) (K:=[]) (an:=Q5d) Qt Qr Qq Tryz.func120 rfl (fun x=>by kernel_rfl)
theorem Q9r:Runs Tryz.prog 118:=⟨_,Tryz.func118,by decide,rfl⟩
def Qh4 (N:Nat):Con:=⟨118,Q5g,Qvu,fun x0=>Jk8 N x0,[]⟩
theorem Q9s (N:Nat):Qn Tryz.prog tx.gl (Qh4 N):=Qb (Y:=tx) (N:=N) (K:=[T2 N,T3 N]) (an:=Q5f) Qt Qr (Qc (Qnn N) Qnm (Qc (Qnp N) Qno Qq)) Tryz.func118 rfl (fun x=>by kernel_rfl)
theorem Q9t:Runs Tryz.prog 121:=⟨_,Tryz.func121,by decide,rfl⟩
def Qh5 (N:Nat):Con:=⟨121,Q5i,Qvv,fun (m5000,m5001)=>Jk9 N m5000 m5001,[5000,5001]⟩
theorem Q9u (N:Nat):Qn Tryz.prog tx.gl (Qh5 N):=Qb (Y:=tx) (N:=N) (K:=[Tx N]) (an:=Q5h) Qt Qr (Qc (Qnd N) Qnc Qq) Tryz.func121 rfl (fun x=>by kernel_rfl)
theorem Jhz:Runs Tryz.prog 78:=⟨_,Tryz.func78,by decide,rfl⟩
def Qnq (N:Nat):Con:=⟨78,Jfc,Q5j,fun (x0,x1)=>Z78 N x0 x1,[]⟩
theorem Jh0 (N:Nat):Qn Tryz.prog tx.gl (Qnq N):=Qb (Y:=tx) (N:=N) (K:=[Qh4 N,T2 N,T3 N,Qh5 N]) (an:=Jfb) Qt Qr (Qc (Q9s N) Q9r (Qc (Qnn N) Qnm (Qc (Qnp N) Qno (Qc (Q9u N) Q9t Qq)))) Tryz.func78 rfl (fun x=>by kernel_rfl)
theorem Jh1:Runs Tryz.prog 58:=⟨_,Tryz.func58,by decide,rfl⟩
def Qnr (N:Nat):Con:=⟨58,Jfe,Q5k,fun m5000=>Z58 N m5000,[]⟩
theorem Jh2 (N:Nat):Qn Tryz.prog tx.gl (Qnr N):=Qb (Y:=tx) (N:=N) (K:=[Qnl N,T1 N,Qnq N]) (an:=Jfd) Qt Qr (Qc (Jhy N) Jhx (Qc (Qqn N) Qqm (Qc (Jh0 N) Jhz Qq))) Tryz.func58 rfl (fun x=>by kernel_rfl)
theorem Jh3:Runs Tryz.prog 57:=⟨_,Tryz.func57,by decide,rfl⟩
def Qns (N:Nat):Con:=⟨57,Jfg,Q5l,fun m5001=>Z57 N m5001,[5000]⟩
theorem Jh4 (N:Nat):Qn Tryz.prog tx.gl (Qns N):=Qb (Y:=tx) (N:=N) (K:=[Qnr N]) (an:=Jff) Qt Qr (Qc (Jh2 N) Jh1 Qq) Tryz.func57 rfl (fun x=>by kernel_rfl)
theorem Qqo:Runs Tryz.prog 47:=⟨_,Tryz.func47,by decide,rfl⟩
def T4 (N:Nat):Con:=⟨47,Qp9,Qj8,fun (m5001,m5002)=>Qtg N m5001 m5002,[5000]⟩
theorem Qqp (N:Nat):Qn Tryz.prog tx.gl (T4 N):=Qb (Y:=tx) (N:=N) (K:=[Qns N]) (an:=Qp8) Qt Qr (Qc (Jh4 N) Jh3 Qq) Tryz.func47 rfl (fun x=>by kernel_rfl)
theorem Jh5:Runs Tryz.prog 46:=⟨_,Tryz.func46,by decide,rfl⟩
def Qnt (N:Nat):Con:=⟨46,Jfi,Q5m,fun x0=>Z46 N x0,[]⟩
theorem Jh6 (N:Nat):Qn Tryz.prog tx.gl (Qnt N):=Qb (Y:=tx) (N:=N) (K:=[]) (an:=Jfh) Qt Qr Qq Tryz.func46 rfl (fun x=>by kernel_rfl)
theorem Qqq:Runs Tryz.prog 26:=⟨_,Tryz.func26,by decide,rfl⟩
def T5 (N:Nat):Con:=⟨26,Qqb,Qj9,fun (x0,x1,x2)=>Qth N x0 x1 x2,[]⟩
theorem Qqr (N:Nat):Qn Tryz.prog tx.gl (T5 N):=Qb (Y:=tx) (N:=N) (K:=[Qmd N,Tl N,Tv N,Tz N,T4 N,Qnt N]) (an:=Qqa) Qt Qr (Qc (Jge N) Jgd (Qc (Qqf N) Qqe (Qc (Qqj N) Qqi (Qc (Qql N) Qqk (Qc (Qqp N) Qqo (Qc (Jh6 N) Jh5 Qq)))))) Tryz.func26 rfl (fun x=>by kernel_rfl)
theorem Jh7:Runs Tryz.prog 79:=⟨_,Tryz.func79,by decide,rfl⟩
def Qnu (N:Nat):Con:=⟨79,Jfk,Q5n,fun x0=>Z79 N x0,[]⟩
theorem Jh8 (N:Nat):Qn Tryz.prog tx.gl (Qnu N):=Qb (Y:=tx) (N:=N) (K:=[]) (an:=Jfj) Qt Qr Qq Tryz.func79 rfl (fun x=>by kernel_rfl)
theorem Q9v:Runs Tryz.prog 123:=⟨_,Tryz.func123,by decide,rfl⟩
def Qh6 (N:Nat):Con:=⟨123,Q5p,Qvw,fun x0=>Jcq N x0,[]⟩
theorem Q9w (N:Nat):Qn Tryz.prog tx.gl (Qh6 N):=Qb (Y:=tx) (N:=N) (K:=[]) (an:=Q5o) Qt Qr Qq Tryz.func123 rfl (fun x=>by kernel_rfl)
theorem Q9x:Runs Tryz.prog 122:=⟨_,Tryz.func122,by decide,rfl⟩
def Qh7 (N:Nat):Con:=⟨122,Q5r,Qvx,fun (x0,x1)=>Jla N x0 x1,[]⟩
theorem Q9y (N:Nat):Qn Tryz.prog tx.gl (Qh7 N):=Qb (Y:=tx) (N:=N) (K:=[]) (an:=Q5q) Qt Qr Qq Tryz.func122 rfl (fun x=>by kernel_rfl)
theorem Qkt:Runs Tryz.prog 80:=⟨_,Tryz.func80,by decide,rfl⟩
def N0 (N n:Nat):Con:=⟨80,Jfm,Q5s,fun x0=>Ql6 N n x0,[]⟩
theorem Qh8 (N:Nat):∀n,Qn Tryz.prog tx.gl (N0 N n)
 | 0=>Qc1 fun _=>rfl
 | n+1=>have ih:=Qh8 N n; Qb (Y:=tx) (N:=N) (K:=[N0 N n,Qh6 N,Qh7 N]) (an:=Jfl) Qt Qr (Qc (ih) Qkt (Qc (Q9w N) Q9v (Qc (Q9y N) Q9x Qq))) Tryz.func80 rfl (fun x=>by kernel_rfl)
def Qds (N:Nat):Con:=N0 N N
theorem Qwd (N:Nat):Qn Tryz.prog tx.gl (Qds N):=Qh8 N N
theorem Qwe:Runs Tryz.prog 59:=⟨_,Tryz.func59,by decide,rfl⟩
def Qdt (N:Nat):Con:=⟨59,Jfo,Q5t,fun (x0,x1,x2)=>Z59 N x0 x1 x2,[]⟩
theorem Qwf (N:Nat):Qn Tryz.prog tx.gl (Qdt N):=Qb (Y:=tx) (N:=N) (K:=[Qnu N,Qds N,T5 N]) (an:=Jfn) Qt Qr (Qc (Jh8 N) Jh7 (Qc (Qwd N) Qkt (Qc (Qqr N) Qqq Qq))) Tryz.func59 rfl (fun x=>by kernel_rfl)
theorem Jh9:Runs Tryz.prog 32:=⟨_,Tryz.func32,by decide,rfl⟩
def Qnv (N:Nat):Con:=⟨32,Jfq,Q5u,fun (x0,x1)=>Z32 N x0 x1,[]⟩
theorem Jia (N:Nat):Qn Tryz.prog tx.gl (Qnv N):=Qb (Y:=tx) (N:=N) (K:=[Qdt N]) (an:=Jfp) Qt Qr (Qc (Qwf N) Qwe Qq) Tryz.func32 rfl (fun x=>by kernel_rfl)
theorem Gz:Runs Tryz.prog 33:=⟨_,Tryz.func33,by decide,rfl⟩
def Kw (N:Nat):Con:=⟨33,C6,Bv,fun (x0,x1)=>Uf N x0 x1,[]⟩
theorem G0 (N:Nat):Qn Tryz.prog tx.gl (Kw N):=Qb (Y:=tx) (N:=N) (K:=[]) (an:=C5) Qt Qr Qq Tryz.func33 rfl (fun x=>by kernel_rfl)
theorem B6:Runs Tryz.prog 17:=⟨_,Tryz.func17,by decide,rfl⟩
def Wn (N:Nat):Con:=⟨17,Bx,A6,fun (x0,x1)=>Uy N x0 x1,[]⟩
theorem B7 (N:Nat):Qn Tryz.prog tx.gl (Wn N):=Qb (Y:=tx) (N:=N) (K:=[Kw N]) (an:=Bw) Qt Qr (Qc (G0 N) Gz Qq) Tryz.func17 rfl (fun x=>by kernel_rfl)
theorem Qqs:Runs Tryz.prog 32:=⟨_,Tryz.func32,by decide,rfl⟩
def T6 (N:Nat):Con:=⟨32,Qqd,Qka,fun (x0,x1)=>Qti N x0 x1,[]⟩
theorem Qqt (N:Nat):Qn Tryz.prog tx.gl (T6 N):=Qb (Y:=tx) (N:=N) (K:=[Qdt N]) (an:=Qqc) Qt Qr (Qc (Qwf N) Qwe Qq) Tryz.func32 rfl (fun x=>by kernel_rfl)
theorem Jib:Runs Tryz.prog 60:=⟨_,Tryz.func60,by decide,rfl⟩
def Qnw (N:Nat):Con:=⟨60,Jfs,Q5v,fun (x0,x1)=>Z60 N x0 x1,[]⟩
theorem Jic (N:Nat):Qn Tryz.prog tx.gl (Qnw N):=Qb (Y:=tx) (N:=N) (K:=[Qds N]) (an:=Jfr) Qt Qr (Qc (Qwd N) Qkt Qq) Tryz.func60 rfl (fun x=>by kernel_rfl)
theorem Le:Runs Tryz.prog 38:=⟨_,Tryz.func38,by decide,rfl⟩
def Hf (N:Nat):Con:=⟨38,I8,D0,fun x0=>U9 N x0,[]⟩
theorem Lf (N:Nat):Qn Tryz.prog tx.gl (Hf N):=Qb (Y:=tx) (N:=N) (K:=[]) (an:=I7) Qt Qr Qq Tryz.func38 rfl (fun x=>by kernel_rfl)
theorem Bc:Runs Tryz.prog 40:=⟨_,Tryz.func40,by decide,rfl⟩
def Gm (N:Nat):Con:=⟨40,Qc9,Qah,fun x0=>Dw N x0,[]⟩
theorem Bd (N:Nat):Qn Tryz.prog tx.gl (Gm N):=Qb (Y:=tx) (N:=N) (K:=[]) (an:=Qc8) Qt Qr Qq Tryz.func40 rfl (fun x=>by kernel_rfl)
theorem Lg:Runs Tryz.prog 39:=⟨_,Tryz.func39,by decide,rfl⟩
def Hg (N:Nat):Con:=⟨39,La,D1,fun (m5000,m5001)=>Hc N m5000 m5001,[5000,5001]⟩
theorem Lh (N:Nat):Qn Tryz.prog tx.gl (Hg N):=Qb (Y:=tx) (N:=N) (K:=[Gm N]) (an:=I9) Qt Qr (Qc (Bd N) Bc Qq) Tryz.func39 rfl (fun x=>by kernel_rfl)
theorem B8:Runs Tryz.prog 39:=⟨_,Tryz.func39,by decide,rfl⟩
def Wo (N:Nat):Con:=⟨39,Bz,A7,fun m5000=>Xw N m5000,[5000]⟩
theorem B9 (N:Nat):Qn Tryz.prog tx.gl (Wo N):=Qb (Y:=tx) (N:=N) (K:=[Gm N]) (an:=By) Qt Qr (Qc (Bd N) Bc Qq) Tryz.func39 rfl (fun x=>by kernel_rfl)
theorem Ca:Runs Tryz.prog 39:=⟨_,Tryz.func39,by decide,rfl⟩
def Wp (N:Nat):Con:=⟨39,B2,A8,fun m5000=>Xx N m5000,[5000]⟩
theorem Cb (N:Nat):Qn Tryz.prog tx.gl (Wp N):=Qb (Y:=tx) (N:=N) (K:=[Gm N]) (an:=B1) Qt Qr (Qc (Bd N) Bc Qq) Tryz.func39 rfl (fun x=>by kernel_rfl)
theorem N1:Runs Tryz.prog 81:=⟨_,Tryz.func81,by decide,rfl⟩
def Fc (N:Nat):Con:=⟨81,Nx,Mh,fun (x0,x1)=>Gl N x0 x1,[]⟩
theorem N2 (N:Nat):Qn Tryz.prog tx.gl (Fc N):=Qb (Y:=tx) (N:=N) (K:=[]) (an:=Nw) Qt Qr Qq Tryz.func81 rfl (fun x=>by kernel_rfl)
theorem Mu:Runs Tryz.prog 62:=⟨_,Tryz.func62,by decide,rfl⟩
def Ep (N:Nat):Con:=⟨62,Mj,Lb,fun x0=>Xb N x0,[]⟩
theorem Mv (N:Nat):Qn Tryz.prog tx.gl (Ep N):=Qb (Y:=tx) (N:=N) (K:=[Fc N]) (an:=Mi) Qt Qr (Qc (N2 N) N1 Qq) Tryz.func62 rfl (fun x=>by kernel_rfl)
theorem Er:Runs Tryz.prog 37:=⟨_,Tryz.func37,by decide,rfl⟩
def K1 (N:Nat):Con:=⟨37,Eo,Hu,fun (x0,x1)=>Z3 N x0 x1,[]⟩
theorem Es (N:Nat):Qn Tryz.prog tx.gl (K1 N):=Qb (Y:=tx) (N:=N) (K:=[Hf N,Hg N,Wo N,Wp N,Ep N]) (an:=Em) Qt Qr (Qc (Lf N) Le (Qc (Lh N) Lg (Qc (B9 N) B8 (Qc (Cb N) Ca (Qc (Mv N) Mu Qq))))) Tryz.func37 rfl (fun x=>by kernel_rfl)
theorem Aa:Runs Tryz.prog 20:=⟨_,Tryz.func20,by decide,rfl⟩
def Wq (N:Nat):Con:=⟨20,Nz,Mk,fun (x0,x1)=>Xp N x0 x1,[]⟩
theorem Ab (N:Nat):Qn Tryz.prog tx.gl (Wq N):=Qb (Y:=tx) (N:=N) (K:=[K1 N]) (an:=Ny) Qt Qr (Qc (Es N) Er Qq) Tryz.func20 rfl (fun x=>by kernel_rfl)
theorem Jid:Runs Tryz.prog 34:=⟨_,Tryz.func34,by decide,rfl⟩
def Qnx (N:Nat):Con:=⟨34,Jfu,Q5w,fun (x0,x1,x2)=>Z34 N x0 x1 x2,[]⟩
theorem Jie (N:Nat):Qn Tryz.prog tx.gl (Qnx N):=Qb (Y:=tx) (N:=N) (K:=[T6 N,Qnw N,Qnv N,Wq N]) (an:=Jft) Qt Qr (Qc (Qqt N) Qqs (Qc (Jic N) Jib (Qc (Jia N) Jh9 (Qc (Ab N) Aa Qq)))) Tryz.func34 rfl (fun x=>by kernel_rfl)
theorem Jif:Runs Tryz.prog 61:=⟨_,Tryz.func61,by decide,rfl⟩
def Qny (N:Nat):Con:=⟨61,Jfw,Q5x,fun x0=>Z61 N x0,[]⟩
theorem Jig (N:Nat):Qn Tryz.prog tx.gl (Qny N):=Qb (Y:=tx) (N:=N) (K:=[]) (an:=Jfv) Qt Qr Qq Tryz.func61 rfl (fun x=>by kernel_rfl)
theorem Jih:Runs Tryz.prog 35:=⟨_,Tryz.func35,by decide,rfl⟩
def Qnz (N:Nat):Con:=⟨35,Jfy,Q5y,fun (x0,x1)=>Z35 N x0 x1,[]⟩
theorem Jii (N:Nat):Qn Tryz.prog tx.gl (Qnz N):=Qb (Y:=tx) (N:=N) (K:=[Qny N]) (an:=Jfx) Qt Qr (Qc (Jig N) Jif Qq) Tryz.func35 rfl (fun x=>by kernel_rfl)
theorem G1:Runs Tryz.prog 19:=⟨_,Tryz.func19,by decide,rfl⟩
def Kx (N:Nat):Con:=⟨19,C8,B3,fun (x0,x1)=>Zk N x0 x1,[]⟩
theorem G2 (N:Nat):Qn Tryz.prog tx.gl (Kx N):=Qb (Y:=tx) (N:=N) (K:=[]) (an:=C7) Qt Qr Qq Tryz.func19 rfl (fun x=>by kernel_rfl)
theorem Jij:Runs Tryz.prog 36:=⟨_,Tryz.func36,by decide,rfl⟩
def Qn0 (N:Nat):Con:=⟨36,Jf0,Q5z,fun (x0,x1)=>Z36 N x0 x1,[]⟩
theorem Jik (N:Nat):Qn Tryz.prog tx.gl (Qn0 N):=Qb (Y:=tx) (N:=N) (K:=[]) (an:=Jfz) Qt Qr Qq Tryz.func36 rfl (fun x=>by kernel_rfl)
theorem Cc:Runs Tryz.prog 18:=⟨_,Tryz.func18,by decide,rfl⟩
def Wr (N:Nat):Con:=⟨18,B5,A9,fun _=>Ki N,[]⟩
theorem Cd (N:Nat):Qn Tryz.prog tx.gl (Wr N):=Qb (Y:=tx) (N:=N) (K:=[Ql7 N,Qnx N,Qnz N,Kx N,Qn0 N]) (an:=B4) Qt Qr (Qc (Jf2 N) Jf1 (Qc (Jie N) Jid (Qc (Jii N) Jih (Qc (G2 N) G1 (Qc (Jik N) Jij Qq))))) Tryz.func18 rfl (fun x=>by kernel_rfl)
theorem Li:Runs Tryz.prog 42:=⟨_,Tryz.func42,by decide,rfl⟩
def Hh (N:Nat):Con:=⟨42,Ld,D2,fun (x0,x1,x2)=>Za N x0 x1 x2,[]⟩
theorem Lj (N:Nat):Qn Tryz.prog tx.gl (Hh N):=Qb (Y:=tx) (N:=N) (K:=[]) (an:=Lc) Qt Qr Qq Tryz.func42 rfl (fun x=>by kernel_rfl)
theorem D5:Runs Tryz.prog 41:=⟨_,Tryz.func41,by decide,rfl⟩
def G3 (N:Nat):Con:=⟨41,D4,C9,fun (x0,x1)=>Ur N x0 x1,[]⟩
theorem D6 (N:Nat):Qn Tryz.prog tx.gl (G3 N):=Qb (Y:=tx) (N:=N) (K:=[]) (an:=D3) Qt Qr Qq Tryz.func41 rfl (fun x=>by kernel_rfl)
theorem Be:Runs Tryz.prog 21:=⟨_,Tryz.func21,by decide,rfl⟩
def X8 (N:Nat):Con:=⟨21,Bb,F9,fun (x0,x1)=>Zr N x0 x1,[]⟩
theorem Bf (N:Nat):Qn Tryz.prog tx.gl (X8 N):=Qb (Y:=tx) (N:=N) (K:=[Kw N,Hh N,G3 N]) (an:=Ba) Qt Qr (Qc (G0 N) Gz (Qc (Lj N) Li (Qc (D6 N) D5 Qq))) Tryz.func21 rfl (fun x=>by kernel_rfl)
def Z4 (N:Nat):Con:=⟨6,Gy,Ge,fun (x0,x1)=>U0 N x0 x1,[]⟩
theorem G4 (N:Nat):Qn Tryz.prog tx.gl (Z4 N):=Qb (Y:=tx) (N:=N) (K:=[Wn N,Wr N,Wq N,X8 N,Kx N]) (an:=Gw) Qt Qr (Qc (B7 N) B6 (Qc (Cd N) Cc (Qc (Ab N) Aa (Qc (Bf N) Be (Qc (G2 N) G1 Qq))))) Tryz.func6 rfl (fun x=>by kernel_rfl)
end Gx
