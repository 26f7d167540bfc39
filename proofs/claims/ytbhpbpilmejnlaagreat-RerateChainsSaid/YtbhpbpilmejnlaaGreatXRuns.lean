/- The interpreter gives these functions. -/
import Derived.Test.YtbhpbpilmejnlaaGreatXFns
import Derived.Test.YtbhpbpilmejnlaaGreatProg
namespace Gx
open Go Gd Go.Proofs
set_option linter.unusedVariables false
def tab:Tab:=[
 ⟨1,.func ⟨[]⟩ ⟨[]⟩ false,.nilFunc,1,8⟩,
 ⟨2,.int .i64,.int .i64 0,1,8⟩,
 ⟨3,.int .i64,.int .i64 0,1,8⟩,
 ⟨4,.bool,.bool false,1,1⟩,
 ⟨5,.int .u8,.int .u8 0,1,1⟩,
 ⟨9,.string,Y6 [],1,16⟩,
 ⟨23,.struct ⟨[⟨"Id",3,0,false, "", "",0⟩,⟨"Kind",3,1,false, "", "",8⟩,⟨"Account",3,2,false, "", "",16⟩,⟨"Sub",3,3,false, "", "",24⟩,⟨"A",9,4,false, "", "",32⟩,⟨"B",9,5,false, "", "",48⟩,⟨"Start",3,6,false, "", "",64⟩,⟨"Units",3,7,false, "", "",72⟩,⟨"Trunk",3,8,false, "", "",80⟩,⟨"Inbound",4,9,false, "", "",88⟩,⟨"Source",3,10,false, "", "",96⟩,⟨"Serial",3,11,false, "", "",104⟩]⟩,.agg ⟨[.int .i64 0,.int .i64 0,.int .i64 0,.int .i64 0,Y6 [],Y6 [],.int .i64 0,.int .i64 0,.int .i64 0,.bool false,.int .i64 0,.int .i64 0]⟩,12,112⟩,
 ⟨24,.int .i64,.int .i64 0,1,8⟩,
 ⟨25,.slice 33,.slice none 0 0,1,24⟩,
 ⟨26,.slice 35,.slice none 0 0,1,24⟩,
 ⟨27,.slice 76,.slice none 0 0,1,24⟩,
 ⟨29,.struct ⟨[⟨"Usage",23,0,false, "", "",0⟩,⟨"Err",24,12,false, "", "",112⟩,⟨"Plan",9,13,false, "", "",120⟩,⟨"Version",3,14,false, "", "",136⟩,⟨"Zone",9,15,false, "", "",144⟩,⟨"Takes",25,16,false, "", "",160⟩,⟨"Segments",26,17,false, "", "",184⟩,⟨"Setup",3,18,false, "", "",208⟩,⟨"Gross",3,19,false, "", "",216⟩,⟨"Net",3,20,false, "", "",224⟩,⟨"Given",27,21,false, "", "",232⟩,⟨"Paid",3,22,false, "", "",256⟩,⟨"Owed",3,23,false, "", "",264⟩]⟩,.agg ⟨[.int .i64 0,.int .i64 0,.int .i64 0,.int .i64 0,Y6 [],Y6 [],.int .i64 0,.int .i64 0,.int .i64 0,.bool false,.int .i64 0,.int .i64 0,.int .i64 0,Y6 [],.int .i64 0,Y6 [],.slice none 0 0,.slice none 0 0,.int .i64 0,.int .i64 0,.int .i64 0,.slice none 0 0,.int .i64 0,.int .i64 0]⟩,24,272⟩,
 ⟨33,.struct ⟨[⟨"Sub",3,0,false, "", "",0⟩,⟨"Product",9,1,false, "", "",8⟩,⟨"Index",3,2,false, "", "",24⟩,⟨"From",3,3,false, "", "",32⟩,⟨"Units",3,4,false, "", "",40⟩]⟩,.agg ⟨[.int .i64 0,Y6 [],.int .i64 0,.int .i64 0,.int .i64 0]⟩,5,48⟩,
 ⟨35,.struct ⟨[⟨"Band",9,0,false, "", "",0⟩,⟨"Start",3,1,false, "", "",16⟩,⟨"Units",3,2,false, "", "",24⟩,⟨"Amount",3,3,false, "", "",32⟩]⟩,.agg ⟨[Y6 [],.int .i64 0,.int .i64 0,.int .i64 0]⟩,4,40⟩,
 ⟨38,.slice 29,.slice none 0 0,1,24⟩,
 ⟨44,.slice 51,.slice none 0 0,1,24⟩,
 ⟨51,.struct ⟨[⟨"Usage",3,0,false, "", "",0⟩,⟨"Account",3,1,false, "", "",8⟩,⟨"Sub",3,2,false, "", "",16⟩,⟨"Kind",3,3,false, "", "",24⟩,⟨"Start",3,4,false, "", "",32⟩,⟨"Paid",3,5,false, "", "",40⟩,⟨"Owed",3,6,false, "", "",48⟩]⟩,.agg ⟨[.int .i64 0,.int .i64 0,.int .i64 0,.int .i64 0,.int .i64 0,.int .i64 0,.int .i64 0]⟩,7,56⟩,
 ⟨53,.slice 142,.slice none 0 0,1,24⟩,
 ⟨54,.slice 71,.slice none 0 0,1,24⟩,
 ⟨55,.slice 73,.slice none 0 0,1,24⟩,
 ⟨57,.struct ⟨[⟨"Buckets",53,0,false, "", "",0⟩,⟨"Wallets",54,1,false, "", "",24⟩,⟨"Counters",55,2,false, "", "",48⟩]⟩,.agg ⟨[.slice none 0 0,.slice none 0 0,.slice none 0 0]⟩,3,72⟩,
 ⟨60,.slice 133,.slice none 0 0,1,24⟩,
 ⟨61,.slice 112,.slice none 0 0,1,24⟩,
 ⟨62,.slice 131,.slice none 0 0,1,24⟩,
 ⟨63,.slice 407,.slice none 0 0,1,24⟩,
 ⟨64,.slice 3,.slice none 0 0,1,24⟩,
 ⟨65,.slice 409,.slice none 0 0,1,24⟩,
 ⟨67,.struct ⟨[⟨"Events",60,0,false, "", "",0⟩,⟨"Tariffs",61,1,false, "", "",24⟩,⟨"Products",62,2,false, "", "",48⟩,⟨"Taxes",63,3,false, "", "",72⟩,⟨"Holidays",64,4,false, "", "",96⟩,⟨"Agreements",65,5,false, "", "",120⟩]⟩,.agg ⟨[.slice none 0 0,.slice none 0 0,.slice none 0 0,.slice none 0 0,.slice none 0 0,.slice none 0 0]⟩,6,144⟩,
 ⟨71,.struct ⟨[⟨"Account",3,0,false, "", "",0⟩,⟨"Balance",3,1,false, "", "",8⟩,⟨"Floor",3,2,false, "", "",16⟩,⟨"Held",3,3,false, "", "",24⟩,⟨"Until",3,4,false, "", "",32⟩]⟩,.agg ⟨[.int .i64 0,.int .i64 0,.int .i64 0,.int .i64 0,.int .i64 0]⟩,5,40⟩,
 ⟨73,.struct ⟨[⟨"Sub",3,0,false, "", "",0⟩,⟨"Kind",3,1,false, "", "",8⟩,⟨"From",3,2,false, "", "",16⟩,⟨"Units",3,3,false, "", "",24⟩,⟨"Spent",3,4,false, "", "",32⟩]⟩,.agg ⟨[.int .i64 0,.int .i64 0,.int .i64 0,.int .i64 0,.int .i64 0]⟩,5,40⟩,
 ⟨76,.struct ⟨[⟨"Name",9,0,false, "", "",0⟩,⟨"Amount",3,1,false, "", "",16⟩]⟩,.agg ⟨[Y6 [],.int .i64 0]⟩,2,24⟩,
 ⟨79,.slice 23,.slice none 0 0,1,24⟩,
 ⟨82,.slice 86,.slice none 0 0,1,24⟩,
 ⟨86,.struct ⟨[⟨"Kind",3,0,false, "", "",0⟩,⟨"Sub",3,1,false, "", "",8⟩,⟨"Name",9,2,false, "", "",16⟩,⟨"Category",9,3,false, "", "",32⟩,⟨"Count",3,4,false, "", "",48⟩,⟨"Units",3,5,false, "", "",56⟩,⟨"Amount",3,6,false, "", "",64⟩,⟨"Rounded",3,7,false, "", "",72⟩]⟩,.agg ⟨[.int .i64 0,.int .i64 0,Y6 [],Y6 [],.int .i64 0,.int .i64 0,.int .i64 0,.int .i64 0]⟩,8,80⟩,
 ⟨88,.func ⟨[29]⟩ ⟨[3]⟩ false,.nilFunc,1,8⟩,
 ⟨89,.pointer 29,.pointer none,1,8⟩,
 ⟨91,.func ⟨[89,89]⟩ ⟨[51]⟩ false,.nilFunc,1,8⟩,
 ⟨95,.func ⟨[51]⟩ ⟨[3]⟩ false,.nilFunc,1,8⟩,
 ⟨96,.pointer 51,.pointer none,1,8⟩,
 ⟨97,.func ⟨[96,96]⟩ ⟨[51]⟩ false,.nilFunc,1,8⟩,
 ⟨99,.pointer 114,.pointer none,1,8⟩,
 ⟨101,.struct ⟨[⟨"From",3,0,false, "", "",0⟩,⟨"To",3,1,false, "", "",8⟩]⟩,.agg ⟨[.int .i64 0,.int .i64 0]⟩,2,16⟩,
 ⟨102,.slice 9,.slice none 0 0,1,24⟩,
 ⟨104,.struct ⟨[⟨"Period",101,0,false, "", "",0⟩,⟨"Plan",9,2,false, "", "",16⟩,⟨"Products",102,3,false, "", "",32⟩,⟨"Suspended",4,4,false, "", "",56⟩,⟨"Family",4,5,false, "", "",57⟩]⟩,.agg ⟨[.int .i64 0,.int .i64 0,Y6 [],.slice none 0 0,.bool false,.bool false]⟩,6,64⟩,
 ⟨106,.struct ⟨[⟨"Id",3,0,false, "", "",0⟩,⟨"Since",3,1,false, "", "",8⟩,⟨"Anchor",3,2,false, "", "",16⟩,⟨"Prepaid",4,3,false, "", "",24⟩,⟨"Closed",4,4,false, "", "",25⟩,⟨"Subs",64,5,false, "", "",32⟩]⟩,.agg ⟨[.int .i64 0,.int .i64 0,.int .i64 0,.bool false,.bool false,.slice none 0 0]⟩,6,56⟩,
 ⟨107,.slice 118,.slice none 0 0,1,24⟩,
 ⟨108,.slice 121,.slice none 0 0,1,24⟩,
 ⟨109,.slice 126,.slice none 0 0,1,24⟩,
 ⟨110,.slice 231,.slice none 0 0,1,24⟩,
 ⟨112,.struct ⟨[⟨"Name",9,0,false, "", "",0⟩,⟨"From",3,1,false, "", "",16⟩,⟨"Split",4,2,false, "", "",24⟩,⟨"Zones",107,3,false, "", "",32⟩,⟨"Bands",108,4,false, "", "",56⟩,⟨"Rates",109,5,false, "", "",80⟩,⟨"Discounts",110,6,false, "", "",104⟩]⟩,.agg ⟨[Y6 [],.int .i64 0,.bool false,.slice none 0 0,.slice none 0 0,.slice none 0 0,.slice none 0 0]⟩,7,128⟩,
 ⟨114,.struct ⟨[⟨"book",67,0,false, "", "billing/rate",0⟩,⟨"state",57,6,false, "", "billing/rate",144⟩,⟨"u",23,9,false, "", "billing/rate",216⟩,⟨"spell",104,21,false, "", "billing/rate",328⟩,⟨"account",106,27,false, "", "billing/rate",392⟩,⟨"tariff",112,33,false, "", "billing/rate",448⟩,⟨"free",3,40,false, "", "billing/rate",576⟩,⟨"r",29,41,false, "", "billing/rate",584⟩]⟩,.agg ⟨[.slice none 0 0,.slice none 0 0,.slice none 0 0,.slice none 0 0,.slice none 0 0,.slice none 0 0,.slice none 0 0,.slice none 0 0,.slice none 0 0,.int .i64 0,.int .i64 0,.int .i64 0,.int .i64 0,Y6 [],Y6 [],.int .i64 0,.int .i64 0,.int .i64 0,.bool false,.int .i64 0,.int .i64 0,.int .i64 0,.int .i64 0,Y6 [],.slice none 0 0,.bool false,.bool false,.int .i64 0,.int .i64 0,.int .i64 0,.bool false,.bool false,.slice none 0 0,Y6 [],.int .i64 0,.bool false,.slice none 0 0,.slice none 0 0,.slice none 0 0,.slice none 0 0,.int .i64 0,.int .i64 0,.int .i64 0,.int .i64 0,.int .i64 0,Y6 [],Y6 [],.int .i64 0,.int .i64 0,.int .i64 0,.bool false,.int .i64 0,.int .i64 0,.int .i64 0,Y6 [],.int .i64 0,Y6 [],.slice none 0 0,.slice none 0 0,.int .i64 0,.int .i64 0,.int .i64 0,.slice none 0 0,.int .i64 0,.int .i64 0]⟩,65,856⟩,
 ⟨115,.func ⟨[]⟩ ⟨[24]⟩ false,.nilFunc,1,8⟩,
 ⟨118,.struct ⟨[⟨"Name",9,0,false, "", "",0⟩,⟨"Prefixes",102,1,false, "", "",16⟩]⟩,.agg ⟨[Y6 [],.slice none 0 0]⟩,2,40⟩,
 ⟨119,.slice 264,.slice none 0 0,1,24⟩,
 ⟨121,.struct ⟨[⟨"Name",9,0,false, "", "",0⟩,⟨"Slots",119,1,false, "", "",16⟩]⟩,.agg ⟨[Y6 [],.slice none 0 0]⟩,2,40⟩,
 ⟨123,.struct ⟨[⟨"Upto",3,0,false, "", "",0⟩,⟨"Quantum",3,1,false, "", "",8⟩,⟨"Price",3,2,false, "", "",16⟩]⟩,.agg ⟨[.int .i64 0,.int .i64 0,.int .i64 0]⟩,3,24⟩,
 ⟨124,.slice 123,.slice none 0 0,1,24⟩,
 ⟨126,.struct ⟨[⟨"Kind",3,0,false, "", "",0⟩,⟨"Zone",9,1,false, "", "",8⟩,⟨"Band",9,2,false, "", "",24⟩,⟨"Setup",3,3,false, "", "",40⟩,⟨"Steps",124,4,false, "", "",48⟩]⟩,.agg ⟨[.int .i64 0,Y6 [],Y6 [],.int .i64 0,.slice none 0 0]⟩,5,72⟩,
 ⟨128,.struct ⟨[⟨"Kind",3,0,false, "", "",0⟩,⟨"Zones",102,1,false, "", "",8⟩,⟨"Units",3,2,false, "", "",32⟩,⟨"Rollover",3,3,false, "", "",40⟩,⟨"Priority",3,4,false, "", "",48⟩,⟨"Shared",4,5,false, "", "",56⟩]⟩,.agg ⟨[.int .i64 0,.slice none 0 0,.int .i64 0,.int .i64 0,.int .i64 0,.bool false]⟩,6,64⟩,
 ⟨129,.slice 128,.slice none 0 0,1,24⟩,
 ⟨131,.struct ⟨[⟨"Name",9,0,false, "", "",0⟩,⟨"From",3,1,false, "", "",16⟩,⟨"Fee",3,2,false, "", "",24⟩,⟨"Category",9,3,false, "", "",32⟩,⟨"Prorate",4,4,false, "", "",48⟩,⟨"Bundles",129,5,false, "", "",56⟩]⟩,.agg ⟨[Y6 [],.int .i64 0,.int .i64 0,Y6 [],.bool false,.slice none 0 0]⟩,6,80⟩,
 ⟨133,.struct ⟨[⟨"At",3,0,false, "", "",0⟩,⟨"Kind",3,1,false, "", "",8⟩,⟨"Account",3,2,false, "", "",16⟩,⟨"Sub",3,3,false, "", "",24⟩,⟨"Number",9,4,false, "", "",32⟩,⟨"Name",9,5,false, "", "",48⟩,⟨"Value",3,6,false, "", "",64⟩]⟩,.agg ⟨[.int .i64 0,.int .i64 0,.int .i64 0,.int .i64 0,Y6 [],Y6 [],.int .i64 0]⟩,7,72⟩,
 ⟨137,.map 3 3,.map none,1,8⟩,
 ⟨138,.map 3 4,.map none,1,8⟩,
 ⟨142,.struct ⟨[⟨"Account",3,0,false, "", "",0⟩,⟨"Sub",3,1,false, "", "",8⟩,⟨"Product",9,2,false, "", "",16⟩,⟨"Index",3,3,false, "", "",32⟩,⟨"Kind",3,4,false, "", "",40⟩,⟨"Zones",102,5,false, "", "",48⟩,⟨"Valid",101,6,false, "", "",72⟩,⟨"Units",3,8,false, "", "",88⟩,⟨"Left",3,9,false, "", "",96⟩,⟨"Priority",3,10,false, "", "",104⟩,⟨"Shared",4,11,false, "", "",112⟩]⟩,.agg ⟨[.int .i64 0,.int .i64 0,Y6 [],.int .i64 0,.int .i64 0,.slice none 0 0,.int .i64 0,.int .i64 0,.int .i64 0,.int .i64 0,.int .i64 0,.bool false]⟩,12,120⟩,
 ⟨146,.struct ⟨[⟨"Id",3,0,false, "", "",0⟩,⟨"Account",3,1,false, "", "",8⟩,⟨"Since",3,2,false, "", "",16⟩,⟨"Plan",9,3,false, "", "",24⟩,⟨"Numbers",102,4,false, "", "",40⟩,⟨"Products",102,5,false, "", "",64⟩,⟨"Suspended",4,6,false, "", "",88⟩,⟨"Family",4,7,false, "", "",89⟩]⟩,.agg ⟨[.int .i64 0,.int .i64 0,.int .i64 0,Y6 [],.slice none 0 0,.slice none 0 0,.bool false,.bool false]⟩,8,96⟩,
 ⟨167,.struct ⟨[⟨"Kind",3,0,false, "", "",0⟩,⟨"Units",3,1,false, "", "",8⟩,⟨"Weekday",3,2,false, "", "",16⟩,⟨"Minute",3,3,false, "", "",24⟩,⟨"Total",3,4,false, "", "",32⟩,⟨"Spent",3,5,false, "", "",40⟩,⟨"Zone",9,6,false, "", "",48⟩,⟨"Band",9,7,false, "", "",64⟩,⟨"Family",4,8,false, "", "",80⟩]⟩,.agg ⟨[.int .i64 0,.int .i64 0,.int .i64 0,.int .i64 0,.int .i64 0,.int .i64 0,Y6 [],Y6 [],.bool false]⟩,9,88⟩,
 ⟨175,.slice 104,.slice none 0 0,1,24⟩,
 ⟨178,.slice 106,.slice none 0 0,1,24⟩,
 ⟨179,.slice 146,.slice none 0 0,1,24⟩,
 ⟨181,.struct ⟨[⟨"Accounts",178,0,false, "", "",0⟩,⟨"Subs",179,1,false, "", "",24⟩]⟩,.agg ⟨[.slice none 0 0,.slice none 0 0]⟩,2,48⟩,
 ⟨184,.map 9 9,.map none,1,8⟩,
 ⟨195,.pointer 198,.pointer none,1,8⟩,
 ⟨196,.map 201 4,.map none,1,8⟩,
 ⟨198,.struct ⟨[⟨"list",53,0,false, "", "billing/bundle",0⟩,⟨"has",196,1,false, "", "billing/bundle",24⟩]⟩,.agg ⟨[.slice none 0 0,.map none]⟩,2,32⟩,
 ⟨201,.struct ⟨[⟨"sub",3,0,false, "", "billing/bundle",0⟩,⟨"product",9,1,false, "", "billing/bundle",8⟩,⟨"index",3,2,false, "", "billing/bundle",24⟩,⟨"from",3,3,false, "", "billing/bundle",32⟩]⟩,.agg ⟨[.int .i64 0,Y6 [],.int .i64 0,.int .i64 0]⟩,4,40⟩,
 ⟨204,.slice 209,.slice none 0 0,1,24⟩,
 ⟨206,.slice 101,.slice none 0 0,1,24⟩,
 ⟨209,.struct ⟨[⟨"account",3,0,false, "", "billing/bundle",0⟩,⟨"sub",3,1,false, "", "billing/bundle",8⟩,⟨"product",9,2,false, "", "billing/bundle",16⟩,⟨"active",206,3,false, "", "billing/bundle",32⟩]⟩,.agg ⟨[.int .i64 0,.int .i64 0,Y6 [],.slice none 0 0]⟩,4,56⟩,
 ⟨210,.slice 213,.slice none 0 0,1,24⟩,
 ⟨213,.struct ⟨[⟨"bucket",142,0,false, "", "billing/bundle",0⟩,⟨"rollover",3,12,false, "", "billing/bundle",120⟩]⟩,.agg ⟨[.int .i64 0,.int .i64 0,Y6 [],.int .i64 0,.int .i64 0,.slice none 0 0,.int .i64 0,.int .i64 0,.int .i64 0,.int .i64 0,.int .i64 0,.bool false,.int .i64 0]⟩,13,128⟩,
 ⟨227,.slice 229,.slice none 0 0,1,24⟩,
 ⟨229,.struct ⟨[⟨"Op",3,0,false, "", "",0⟩,⟨"Num",3,1,false, "", "",8⟩,⟨"Text",9,2,false, "", "",16⟩,⟨"Args",227,3,false, "", "",32⟩]⟩,.agg ⟨[.int .i64 0,.int .i64 0,Y6 [],.slice none 0 0]⟩,4,56⟩,
 ⟨231,.struct ⟨[⟨"Name",9,0,false, "", "",0⟩,⟨"When",229,1,false, "", "",16⟩,⟨"Points",3,5,false, "", "",72⟩]⟩,.agg ⟨[Y6 [],.int .i64 0,.int .i64 0,Y6 [],.slice none 0 0,.int .i64 0]⟩,6,80⟩,
 ⟨235,.array 2 3,.agg ⟨[.int .i64 0,.int .i64 0]⟩,2,16⟩,
 ⟨244,.struct ⟨[⟨"start",3,0,false, "", "billing/history",0⟩,⟨"source",3,1,false, "", "billing/history",8⟩,⟨"serial",3,2,false, "", "billing/history",16⟩,⟨"id",3,3,false, "", "billing/history",24⟩]⟩,.agg ⟨[.int .i64 0,.int .i64 0,.int .i64 0,.int .i64 0]⟩,4,32⟩,
 ⟨246,.slice 249,.slice none 0 0,1,24⟩,
 ⟨249,.struct ⟨[⟨"at",3,0,false, "", "billing/subscribe",0⟩,⟨"s",146,1,false, "", "billing/subscribe",8⟩]⟩,.agg ⟨[.int .i64 0,.int .i64 0,.int .i64 0,.int .i64 0,Y6 [],.slice none 0 0,.slice none 0 0,.bool false,.bool false]⟩,9,104⟩,
 ⟨252,.func ⟨[249,249]⟩ ⟨[4]⟩ false,.nilFunc,1,8⟩,
 ⟨253,.func ⟨[249,249]⟩ ⟨[249]⟩ false,.nilFunc,1,8⟩,
 ⟨255,.pointer 314,.pointer none,1,8⟩,
 ⟨264,.struct ⟨[⟨"Days",3,0,false, "", "",0⟩,⟨"From",3,1,false, "", "",8⟩,⟨"To",3,2,false, "", "",16⟩]⟩,.agg ⟨[.int .i64 0,.int .i64 0,.int .i64 0]⟩,3,24⟩,
 ⟨268,.func ⟨[118]⟩ ⟨[4]⟩ false,.nilFunc,1,8⟩,
 ⟨274,.map 9 138,.map none,1,8⟩,
 ⟨289,.struct ⟨[⟨"sub",3,0,false, "", "billing/bucket",0⟩,⟨"product",9,1,false, "", "billing/bucket",8⟩,⟨"index",3,2,false, "", "billing/bucket",24⟩,⟨"from",3,3,false, "", "billing/bucket",32⟩]⟩,.agg ⟨[.int .i64 0,Y6 [],.int .i64 0,.int .i64 0]⟩,4,40⟩,
 ⟨292,.slice 295,.slice none 0 0,1,24⟩,
 ⟨295,.struct ⟨[⟨"Band",9,0,false, "", "",0⟩,⟨"Period",101,1,false, "", "",16⟩]⟩,.agg ⟨[Y6 [],.int .i64 0,.int .i64 0]⟩,3,32⟩,
 ⟨299,.array 3 235,.agg ⟨[.int .i64 0,.int .i64 0,.int .i64 0,.int .i64 0,.int .i64 0,.int .i64 0]⟩,6,48⟩,
 ⟨302,.func ⟨[121]⟩ ⟨[4]⟩ false,.nilFunc,1,8⟩,
 ⟨304,.func ⟨[264]⟩ ⟨[4]⟩ false,.nilFunc,1,8⟩,
 ⟨310,.map 3 106,.map none,1,8⟩,
 ⟨311,.map 3 146,.map none,1,8⟩,
 ⟨312,.map 9 3,.map none,1,8⟩,
 ⟨314,.struct ⟨[⟨"accounts",310,0,false, "", "billing/customer",0⟩,⟨"subs",311,1,false, "", "billing/customer",8⟩,⟨"ever",138,2,false, "", "billing/customer",16⟩,⟨"owners",312,3,false, "", "billing/customer",24⟩,⟨"live",137,4,false, "", "billing/customer",32⟩,⟨"opened",64,5,false, "", "billing/customer",40⟩,⟨"added",64,6,false, "", "billing/customer",64⟩]⟩,.agg ⟨[.map none,.map none,.map none,.map none,.map none,.slice none 0 0,.slice none 0 0]⟩,7,88⟩,
 ⟨317,.map 3 64,.map none,1,8⟩,
 ⟨320,.func ⟨[104]⟩ ⟨[4]⟩ false,.nilFunc,1,8⟩,
 ⟨322,.func ⟨[4,4]⟩ ⟨[4]⟩ false,.nilFunc,1,8⟩,
 ⟨324,.func ⟨[131]⟩ ⟨[4]⟩ false,.nilFunc,1,8⟩,
 ⟨329,.struct ⟨[⟨"Year",3,0,false, "", "",0⟩,⟨"Month",3,1,false, "", "",8⟩,⟨"Day",3,2,false, "", "",16⟩]⟩,.agg ⟨[.int .i64 0,.int .i64 0,.int .i64 0]⟩,3,24⟩,
 ⟨337,.array 4 3,.agg ⟨[.int .i64 0,.int .i64 0,.int .i64 0,.int .i64 0]⟩,4,32⟩,
 ⟨340,.func ⟨[101,101]⟩ ⟨[4]⟩ false,.nilFunc,1,8⟩,
 ⟨341,.func ⟨[101,101]⟩ ⟨[101]⟩ false,.nilFunc,1,8⟩,
 ⟨342,.slice 344,.slice none 0 0,1,24⟩,
 ⟨344,.struct ⟨[⟨"at",3,0,false, "", "billing/interval",0⟩,⟨"list",3,1,false, "", "billing/interval",8⟩,⟨"by",3,2,false, "", "billing/interval",16⟩]⟩,.agg ⟨[.int .i64 0,.int .i64 0,.int .i64 0]⟩,3,24⟩,
 ⟨347,.func ⟨[344,344]⟩ ⟨[3]⟩ false,.nilFunc,1,8⟩,
 ⟨357,.int .u64,.int .u64 0,1,8⟩,
 ⟨360,.array 12 3,.agg ⟨[.int .i64 0,.int .i64 0,.int .i64 0,.int .i64 0,.int .i64 0,.int .i64 0,.int .i64 0,.int .i64 0,.int .i64 0,.int .i64 0,.int .i64 0,.int .i64 0]⟩,12,96⟩,
 ⟨365,.int .i64,.int .i64 0,1,8⟩,
 ⟨372,.int .u32,.int .u32 0,1,4⟩,
 ⟨374,.int .u64,.int .u64 0,1,8⟩,
 ⟨407,.struct ⟨[⟨"Category",9,0,false, "", "",0⟩,⟨"From",3,1,false, "", "",16⟩,⟨"Points",3,2,false, "", "",24⟩]⟩,.agg ⟨[Y6 [],.int .i64 0,.int .i64 0]⟩,3,32⟩,
 ⟨409,.struct ⟨[⟨"Partner",3,0,false, "", "",0⟩,⟨"Kind",3,1,false, "", "",8⟩,⟨"Inbound",4,2,false, "", "",16⟩,⟨"Valid",101,3,false, "", "",24⟩,⟨"Steps",124,5,false, "", "",40⟩,⟨"Cap",3,6,false, "", "",64⟩]⟩,.agg ⟨[.int .i64 0,.int .i64 0,.bool false,.int .i64 0,.int .i64 0,.slice none 0 0,.int .i64 0]⟩,7,72⟩]
def tx:TX:=⟨tab,[(1,.ref),(2,(.int .i64)),(3,(.int .i64)),(4,.bool),(5,(.int .u8)),(9,.str),(23,Qk),(24,(.int .i64)),(25,(.sl Jy)),(26,(.sl Q8)),(27,(.sl Ju)),(29,Jm),(33,Jy),(35,Q8),(38,(.sl Jm)),(44,(.sl Qw)),(51,Qw),(53,(.sl Qz)),(54,(.sl Jp)),(55,(.sl Je)),(57,Q5),(60,(.sl Yh)),(61,(.sl Jq)),(62,(.sl Vs)),(63,(.sl Qay)),(64,(.sl (.int .i64))),(65,(.sl Ez)),(67,Jt),(71,Jp),(73,Je),(76,Ju),(79,(.sl Qk)),(82,(.sl Xl)),(86,Xl),(88,.ref),(89,.ref),(91,.ref),(95,.ref),(96,.ref),(97,.ref),(99,.ref),(101,Qp),(102,(.sl .str)),(104,Jo),(106,Qy),(107,(.sl Yl)),(108,(.sl Yp)),(109,(.sl Vo)),(110,(.sl Y3)),(112,Jq),(114,Gn),(115,.ref),(118,Yl),(119,(.sl Gm)),(121,Yp),(123,Kw),(124,(.sl Kw)),(126,Vo),(128,Xc),(129,(.sl Xc)),(131,Vs),(133,Yh),(137,.ref),(138,.ref),(142,Qz),(146,Vv),(167,Qaz),(175,(.sl Jo)),(178,(.sl Qy)),(179,(.sl Vv)),(181,Qa0),(184,.ref),(195,.ref),(196,.ref),(198,Qbv),(201,J5),(204,(.sl V8)),(206,(.sl Qp)),(209,V8),(210,(.sl Up)),(213,Up),(227,(.sl Pe)),(229,Pe),(231,Y3),(235,(.arr 2 (.int .i64))),(244,Hx),(246,(.sl Y4)),(249,Y4),(252,.ref),(253,.ref),(255,.ref),(264,Gm),(268,.ref),(274,.ref),(289,Ar),(292,(.sl Qa1)),(295,Qa1),(299,(.arr 3 (.arr 2 (.int .i64)))),(302,.ref),(304,.ref),(310,.ref),(311,.ref),(312,.ref),(314,Rq),(317,.ref),(320,.ref),(322,.ref),(324,.ref),(329,Pf),(337,(.arr 4 (.int .i64))),(340,.ref),(341,.ref),(342,(.sl J6)),(344,J6),(347,.ref),(357,(.int .u64)),(360,(.arr 12 (.int .i64))),(365,(.int .i64)),(372,(.int .u32)),(374,(.int .u64)),(407,Qay),(409,Ez)],[]⟩
theorem Qr:Tryz.prog.follows .mixedOrders=true:=by kernel_rfl
theorem Qt:Jb Tryz.prog tab:=⟨⟨⟨by kernel_rfl,by kernel_rfl⟩,by kernel_rfl⟩,⟨⟨by kernel_rfl,by kernel_rfl⟩,by kernel_rfl⟩,⟨⟨by kernel_rfl,by kernel_rfl⟩,by kernel_rfl⟩,⟨⟨by kernel_rfl,by kernel_rfl⟩,by kernel_rfl⟩,⟨⟨by kernel_rfl,by kernel_rfl⟩,by kernel_rfl⟩,⟨⟨by kernel_rfl,by kernel_rfl⟩,by kernel_rfl⟩,⟨⟨by kernel_rfl,by kernel_rfl⟩,by kernel_rfl⟩,⟨⟨by kernel_rfl,by kernel_rfl⟩,by kernel_rfl⟩,⟨⟨by kernel_rfl,by kernel_rfl⟩,by kernel_rfl⟩,⟨⟨by kernel_rfl,by kernel_rfl⟩,by kernel_rfl⟩,⟨⟨by kernel_rfl,by kernel_rfl⟩,by kernel_rfl⟩,⟨⟨by kernel_rfl,by kernel_rfl⟩,by kernel_rfl⟩,⟨⟨by kernel_rfl,by kernel_rfl⟩,by kernel_rfl⟩,⟨⟨by kernel_rfl,by kernel_rfl⟩,by kernel_rfl⟩,⟨⟨by kernel_rfl,by kernel_rfl⟩,by kernel_rfl⟩,⟨⟨by kernel_rfl,by kernel_rfl⟩,by kernel_rfl⟩,⟨⟨by kernel_rfl,by kernel_rfl⟩,by kernel_rfl⟩,⟨⟨by kernel_rfl,by kernel_rfl⟩,by kernel_rfl⟩,⟨⟨by kernel_rfl,by kernel_rfl⟩,by kernel_rfl⟩,⟨⟨by kernel_rfl,by kernel_rfl⟩,by kernel_rfl⟩,⟨⟨by kernel_rfl,by kernel_rfl⟩,by kernel_rfl⟩,⟨⟨by kernel_rfl,by kernel_rfl⟩,by kernel_rfl⟩,⟨⟨by kernel_rfl,by kernel_rfl⟩,by kernel_rfl⟩,⟨⟨by kernel_rfl,by kernel_rfl⟩,by kernel_rfl⟩,⟨⟨by kernel_rfl,by kernel_rfl⟩,by kernel_rfl⟩,⟨⟨by kernel_rfl,by kernel_rfl⟩,by kernel_rfl⟩,⟨⟨by kernel_rfl,by kernel_rfl⟩,by kernel_rfl⟩,⟨⟨by kernel_rfl,by kernel_rfl⟩,by kernel_rfl⟩,⟨⟨by kernel_rfl,by kernel_rfl⟩,by kernel_rfl⟩,⟨⟨by kernel_rfl,by kernel_rfl⟩,by kernel_rfl⟩,⟨⟨by kernel_rfl,by kernel_rfl⟩,by kernel_rfl⟩,⟨⟨by kernel_rfl,by kernel_rfl⟩,by kernel_rfl⟩,⟨⟨by kernel_rfl,by kernel_rfl⟩,by kernel_rfl⟩,⟨⟨by kernel_rfl,by kernel_rfl⟩,by kernel_rfl⟩,⟨⟨by kernel_rfl,by kernel_rfl⟩,by kernel_rfl⟩,⟨⟨by kernel_rfl,by kernel_rfl⟩,by kernel_rfl⟩,⟨⟨by kernel_rfl,by kernel_rfl⟩,by kernel_rfl⟩,⟨⟨by kernel_rfl,by kernel_rfl⟩,by kernel_rfl⟩,⟨⟨by kernel_rfl,by kernel_rfl⟩,by kernel_rfl⟩,⟨⟨by kernel_rfl,by kernel_rfl⟩,by kernel_rfl⟩,⟨⟨by kernel_rfl,by kernel_rfl⟩,by kernel_rfl⟩,⟨⟨by kernel_rfl,by kernel_rfl⟩,by kernel_rfl⟩,⟨⟨by kernel_rfl,by kernel_rfl⟩,by kernel_rfl⟩,⟨⟨by kernel_rfl,by kernel_rfl⟩,by kernel_rfl⟩,⟨⟨by kernel_rfl,by kernel_rfl⟩,by kernel_rfl⟩,⟨⟨by kernel_rfl,by kernel_rfl⟩,by kernel_rfl⟩,⟨⟨by kernel_rfl,by kernel_rfl⟩,by kernel_rfl⟩,⟨⟨by kernel_rfl,by kernel_rfl⟩,by kernel_rfl⟩,⟨⟨by kernel_rfl,by kernel_rfl⟩,by kernel_rfl⟩,⟨⟨by kernel_rfl,by kernel_rfl⟩,by kernel_rfl⟩,⟨⟨by kernel_rfl,by kernel_rfl⟩,by kernel_rfl⟩,⟨⟨by kernel_rfl,by kernel_rfl⟩,by kernel_rfl⟩,⟨⟨by kernel_rfl,by kernel_rfl⟩,by kernel_rfl⟩,⟨⟨by kernel_rfl,by kernel_rfl⟩,by kernel_rfl⟩,⟨⟨by kernel_rfl,by kernel_rfl⟩,by kernel_rfl⟩,⟨⟨by kernel_rfl,by kernel_rfl⟩,by kernel_rfl⟩,⟨⟨by kernel_rfl,by kernel_rfl⟩,by kernel_rfl⟩,⟨⟨by kernel_rfl,by kernel_rfl⟩,by kernel_rfl⟩,⟨⟨by kernel_rfl,by kernel_rfl⟩,by kernel_rfl⟩,⟨⟨by kernel_rfl,by kernel_rfl⟩,by kernel_rfl⟩,⟨⟨by kernel_rfl,by kernel_rfl⟩,by kernel_rfl⟩,⟨⟨by kernel_rfl,by kernel_rfl⟩,by kernel_rfl⟩,⟨⟨by kernel_rfl,by kernel_rfl⟩,by kernel_rfl⟩,⟨⟨by kernel_rfl,by kernel_rfl⟩,by kernel_rfl⟩,⟨⟨by kernel_rfl,by kernel_rfl⟩,by kernel_rfl⟩,⟨⟨by kernel_rfl,by kernel_rfl⟩,by kernel_rfl⟩,⟨⟨by kernel_rfl,by kernel_rfl⟩,by kernel_rfl⟩,⟨⟨by kernel_rfl,by kernel_rfl⟩,by kernel_rfl⟩,⟨⟨by kernel_rfl,by kernel_rfl⟩,by kernel_rfl⟩,⟨⟨by kernel_rfl,by kernel_rfl⟩,by kernel_rfl⟩,⟨⟨by kernel_rfl,by kernel_rfl⟩,by kernel_rfl⟩,⟨⟨by kernel_rfl,by kernel_rfl⟩,by kernel_rfl⟩,⟨⟨by kernel_rfl,by kernel_rfl⟩,by kernel_rfl⟩,⟨⟨by kernel_rfl,by kernel_rfl⟩,by kernel_rfl⟩,⟨⟨by kernel_rfl,by kernel_rfl⟩,by kernel_rfl⟩,⟨⟨by kernel_rfl,by kernel_rfl⟩,by kernel_rfl⟩,⟨⟨by kernel_rfl,by kernel_rfl⟩,by kernel_rfl⟩,⟨⟨by kernel_rfl,by kernel_rfl⟩,by kernel_rfl⟩,⟨⟨by kernel_rfl,by kernel_rfl⟩,by kernel_rfl⟩,⟨⟨by kernel_rfl,by kernel_rfl⟩,by kernel_rfl⟩,⟨⟨by kernel_rfl,by kernel_rfl⟩,by kernel_rfl⟩,⟨⟨by kernel_rfl,by kernel_rfl⟩,by kernel_rfl⟩,⟨⟨by kernel_rfl,by kernel_rfl⟩,by kernel_rfl⟩,⟨⟨by kernel_rfl,by kernel_rfl⟩,by kernel_rfl⟩,⟨⟨by kernel_rfl,by kernel_rfl⟩,by kernel_rfl⟩,⟨⟨by kernel_rfl,by kernel_rfl⟩,by kernel_rfl⟩,⟨⟨by kernel_rfl,by kernel_rfl⟩,by kernel_rfl⟩,⟨⟨by kernel_rfl,by kernel_rfl⟩,by kernel_rfl⟩,⟨⟨by kernel_rfl,by kernel_rfl⟩,by kernel_rfl⟩,⟨⟨by kernel_rfl,by kernel_rfl⟩,by kernel_rfl⟩,⟨⟨by kernel_rfl,by kernel_rfl⟩,by kernel_rfl⟩,⟨⟨by kernel_rfl,by kernel_rfl⟩,by kernel_rfl⟩,⟨⟨by kernel_rfl,by kernel_rfl⟩,by kernel_rfl⟩,⟨⟨by kernel_rfl,by kernel_rfl⟩,by kernel_rfl⟩,⟨⟨by kernel_rfl,by kernel_rfl⟩,by kernel_rfl⟩,⟨⟨by kernel_rfl,by kernel_rfl⟩,by kernel_rfl⟩,⟨⟨by kernel_rfl,by kernel_rfl⟩,by kernel_rfl⟩,⟨⟨by kernel_rfl,by kernel_rfl⟩,by kernel_rfl⟩,⟨⟨by kernel_rfl,by kernel_rfl⟩,by kernel_rfl⟩,⟨⟨by kernel_rfl,by kernel_rfl⟩,by kernel_rfl⟩,⟨⟨by kernel_rfl,by kernel_rfl⟩,by kernel_rfl⟩,⟨⟨by kernel_rfl,by kernel_rfl⟩,by kernel_rfl⟩,⟨⟨by kernel_rfl,by kernel_rfl⟩,by kernel_rfl⟩,⟨⟨by kernel_rfl,by kernel_rfl⟩,by kernel_rfl⟩,⟨⟨by kernel_rfl,by kernel_rfl⟩,by kernel_rfl⟩,⟨⟨by kernel_rfl,by kernel_rfl⟩,by kernel_rfl⟩,⟨⟨by kernel_rfl,by kernel_rfl⟩,by kernel_rfl⟩,⟨⟨by kernel_rfl,by kernel_rfl⟩,by kernel_rfl⟩,⟨⟨by kernel_rfl,by kernel_rfl⟩,by kernel_rfl⟩,⟨⟨by kernel_rfl,by kernel_rfl⟩,by kernel_rfl⟩,⟨⟨by kernel_rfl,by kernel_rfl⟩,by kernel_rfl⟩,⟨⟨by kernel_rfl,by kernel_rfl⟩,by kernel_rfl⟩,⟨⟨by kernel_rfl,by kernel_rfl⟩,by kernel_rfl⟩,⟨⟨by kernel_rfl,by kernel_rfl⟩,by kernel_rfl⟩,⟨⟨by kernel_rfl,by kernel_rfl⟩,by kernel_rfl⟩,⟨⟨by kernel_rfl,by kernel_rfl⟩,by kernel_rfl⟩,⟨⟨by kernel_rfl,by kernel_rfl⟩,by kernel_rfl⟩,⟨⟨by kernel_rfl,by kernel_rfl⟩,by kernel_rfl⟩,⟨⟨by kernel_rfl,by kernel_rfl⟩,by kernel_rfl⟩,⟨⟨by kernel_rfl,by kernel_rfl⟩,by kernel_rfl⟩,⟨⟨by kernel_rfl,by kernel_rfl⟩,by kernel_rfl⟩,⟨⟨by kernel_rfl,by kernel_rfl⟩,by kernel_rfl⟩,trivial⟩
def Jel:An:=.t 1 (.t 12 (.t 5 (.t 11 (.nil))))
def Jem:Shp:=⟨[],[]⟩
def Q06:Shp:=⟨[(0,.d Jt)],[]⟩
def Q07:An:=.t 1 (.t 1 (.two (.un (.lp [0,1,5] [] ⟨[],[]⟩ [(.x 0,⟨[],[]⟩)] (.two (.two (.reg (.n 5 (.sp 11 7 [] [] ⟨[(18,.d .bool)],[]⟩ (.tl .done) (.nl 6 (.n 1 .done)) (.done)))) (.two (.gh (.tl .done) .nil) (.nil))) (.nil)))) (.t 5 (.t 5 (.t 6 (.nil))))))
def Q08:Shp:=⟨[(0,.d (.sl .str)),(1,.d .str)],[]⟩
def Qu2:Shp:=⟨[(0,.s 1)],[(1,.row 9 .str)]⟩
def Q09:An:=.t 3 (.two (.t 2 (.un (.t 2 (.two (.t 10 (.nil)) (.t 2 (.two (.gh (.tl .done) .nil) (.t 2 (.two (.gh (.tl .done) .nil) (.t 2 (.two (.reg (.n 4 (.call 0 (.n 2 .done)))) (.gh (.tl .done) .nil))))))))))) (.t 2 (.nil)))
def Q1a:Shp:=⟨[(0,.d Vv),(1,.d Yh)],[]⟩
def Qu3:Shp:=⟨[(0,.ag (.cons (.d .i) (.cons (.d .i) (.cons (.d .i) (.cons (.d .str) (.cons (.d (.sl .str)) (.cons (.s 1) (.cons (.d .bool) (.cons (.d .bool) (.nil))))))))))],[(1,.row 9 .str)]⟩
def Q1b:An:=.t 1 (.t 1 (.t 1 (.two (.t 3 (.un (.lp [1,10,11] [] ⟨[(5,.s 100000),(6,.p 100001 []),(12,.d .i)],[(100000,.row 249 Y4),(100001,.var 146 (.ag (.cons (.d .i) (.cons (.d .i) (.cons (.d .i) (.cons (.d .str) (.cons (.d (.sl .str)) (.cons (.s 100002) (.cons (.d .bool) (.cons (.d .bool) (.nil))))))))))),(100002,.tail 9 .str)]⟩ [(.x 0,⟨[(5,.s 100300)],[(100300,.row 249 Y4)]⟩)] (.t 1 (.two (.two (.nil) (.nil)) (.two (.jn [12] [] [(.n,⟨[(5,.s 100200),(6,.p 100201 [])],[(100200,.row 249 Y4),(100201,.var 146 (.ag (.cons (.d .i) (.cons (.d .i) (.cons (.d .i) (.cons (.d .str) (.cons (.d (.sl .str)) (.cons (.s 100202) (.cons (.d .bool) (.cons (.d .bool) (.nil))))))))))),(100202,.tail 9 .str)]⟩)] (.un (.t 4 (.two (.t 8 (.two (.nil) (.nil))) (.two (.reg (.n 2 (.call 0 (.n 1 .done)))) (.t 3 (.two (.dr 13 (.n 3 (.sp 31 10 [5,6,8,9,12] [8,12601,100000,100001,100002] ⟨[(41,.d .bool)],[]⟩ (.nl 9 (.n 1 .done)) (.nl 9 (.n 1 .done)) (.done))) (.done)) (.two (.reg (.n 6 (.fz 12601 (.n 1 .done)))) (.reg (.n 5 (.fz 12601 (.n 3 .done)))))))))))) (.reg (.n 2 .done)))))))) (.t 2 (.nil)))))
def Q1c:Shp:=⟨[(0,.d (.sl Yh)),(1,.d .i)],[]⟩
def Qu4:Shp:=⟨[(0,.s 1)],[(1,.row 249 Y4)]⟩
def Q1d:An:=.t 1 (.t 1 (.two (.t 3 (.un (.lp [1,11,12] [] ⟨[(7,.s 100000),(13,.d .i)],[(100000,.row 249 Y4)]⟩ [(.x 0,⟨[(7,.s 100100)],[(100100,.row 249 Y4)]⟩)] (.t 1 (.two (.two (.nil) (.nil)) (.two (.un (.t 4 (.t 3 (.two (.dm 10 [19,20,21,22,23,24,25,26,27,28] [] (.n 3 (.so 21 (.tl .done) (.n 7 (.tl (.nl 1 (.n 1 .done))))))) (.two (.nil) (.reg (.n 5 .done))))))) (.reg (.n 2 .done)))))))) (.t 2 (.nil))))
def Q1e:Shp:=⟨[(0,.d (.sl Y4)),(1,.f 126 (.nil)),(2,.f 128 (.nil))],[]⟩
def Qu5:Shp:=⟨[(0,.s 1)],[(1,.row 249 Y4)]⟩
def Jen:An:=.t 1 (.two (.reg (.n 2 (.call 0 (.call 1 (.n 1 .done))))) (.t 1 (.two (.t 3 (.un (.lp [5,14,15] [11201,11301] ⟨[(6,.s 100000),(16,.d .i)],[(100000,.row 104 Jo)]⟩ [(.x 0,⟨[(6,.s 100100)],[(100100,.row 104 Jo)]⟩)] (.t 1 (.two (.two (.nil) (.nil)) (.two (.un (.t 6 (.two (.t 4 (.two (.gh (.tl .done) .nil) (.nil))) (.t 5 (.two (.t 5 (.two (.gh (.tl .done) .nil) (.nil))) (.dc 17 [40,41,42,43,44,45,46,47,48,49,50,51,52,53,54,55,56] [9,8] [] (.op ⟨.nl 1 .done,[],[],[],[100000]⟩ (.op ⟨.nl 1 .done,[],[9],[],[]⟩ (.op ⟨.nl 1 .done,[],[],[],[8]⟩ (.op ⟨.nl 1 .done,[],[],[],[8]⟩ (.op ⟨.nl 1 .done,[],[8],[],[]⟩ (.op ⟨.nl 1 .done,[],[],[],[8]⟩ (.op ⟨.nl 1 .done,[],[],[],[8]⟩ (.op ⟨.nl 1 .done,[],[8],[],[]⟩ (.op ⟨.nl 1 .done,[],[],[48],[48]⟩ (.op ⟨.nl 1 .done,[],[],[],[8]⟩ (.op ⟨.nl 1 .done,[],[],[],[8]⟩ (.op ⟨.nl 1 .done,[],[8],[],[]⟩ (.op ⟨.nl 1 .done,[],[],[],[8]⟩ (.op ⟨.nl 1 .done,[],[],[],[8]⟩ (.op ⟨.nl 1 .done,[],[8],[],[]⟩ (.op ⟨.nl 1 .done,[],[],[],[48]⟩ (.op ⟨.fz 48 (.nl 1 .done),[48],[],[],[48]⟩ (.tl (.n 2 .done))))))))))))))))))))))))) (.reg (.n 2 .done)))))))) (.t 2 (.nil)))))
def Jeo:Shp:=⟨[(0,.d (.sl Yh)),(1,.d .i)],[]⟩
def Q1f:Shp:=⟨[(0,.s 1)],[(1,.row 104 Jo)]⟩
def Q1g:An:=.t 2 (.t 16 (.nil))
def Q1h:Shp:=⟨[(0,.d Qp)],[]⟩
def Qu6:Shp:=⟨[(0,.d .bool)],[]⟩
def Jep:An:=.t 2 (.two (.reg (.n 1 (.call 0 (.n 13 .done)))) (.nil))
def Jeq:Shp:=⟨[(0,.d Qp),(1,.d .i)],[]⟩
def Q1i:Shp:=⟨[(0,.d .bool)],[]⟩
def Jer:An:=.t 2 (.two (.two (.reg (.n 2 (.call 0 (.n 2 .done)))) (.un (.lp [2,12,13,14] [11201] ⟨[(6,.p 100000 [])],[(100000,.var 104 (.ag (.cons (.d Qp) (.cons (.d .str) (.cons (.ns) (.cons (.d .bool) (.cons (.d .bool) (.nil))))))))]⟩ [(.x 0,⟨[(6,.p 100100 [])],[(100100,.var 104 (.ag (.cons (.d Qp) (.cons (.d .str) (.cons (.ns) (.cons (.d .bool) (.cons (.d .bool) (.nil))))))))]⟩),(.r,⟨[(6,.p 100200 []),(7,.d .bool)],[(100200,.var 104 (.d Jo))]⟩)] (.t 1 (.two (.two (.nil) (.nil)) (.two (.un (.t 4 (.two (.reg (.n 3 (.call 1 (.done)))) (.two (.t 3 (.nil)) (.gh (.tl .done) .nil))))) (.nil))))))) (.t 3 (.nil)))
def Jes:Shp:=⟨[(0,.d (.sl Yh)),(1,.d .i),(2,.d .i)],[]⟩
def Q1j:Shp:=⟨[(0,.d Jo),(1,.d .bool)],[]⟩
def Q1k:An:=.t 1 (.t 8 (.nil))
def Q1l:Shp:=⟨[],[]⟩
def Qu7:Shp:=⟨[(0,.p 1 [])],[(1,.var 314 (.ag (.cons (.m 2) (.cons (.m 3) (.cons (.m 4) (.cons (.m 5) (.cons (.m 6) (.cons (.ns) (.cons (.ns) (.nil)))))))))),(2,.map .i Qy),(3,.map .i Vv),(4,.map .i .bool),(5,.map .str .i),(6,.map .i .i)]⟩
def Q1m:An:=.t 3 (.t 2 (.nil))
def Q1n:Shp:=⟨[(0,.d (.sl Yh)),(1,.d .i)],[]⟩
def Qu8:Shp:=⟨[(0,.f 180 (.cons (.p 1 []) (.cons (.p 2 []) (.nil))))],[(1,.var 60 (.d (.sl Yh))),(2,.var 3 (.d .i))]⟩
def Q1o:AnY:=.two (.reg (.n 3 .done)) (.un (.lp [2,6,7] [] ⟨[(8,.d .i)],[]⟩ [(.x 0,⟨[],[]⟩)] (.two (.reg (.n 1 .done)) (.two (.two (.nil) (.nil)) (.two (.un (.two (.reg (.n 4 .done)) (.two (.yr (.h 5 (.n 5 .done) (.so 16 (.mv (.h 1 (.nl 1 .done) (.yl (.h 2 (.nl 1 (.n 1 .done)) (.done))))) (.h 5 (.nl 4 (.n 1 .done)) (.done))))) (.two (.yr .done) (.nil))))) (.reg (.n 2 .done)))))))
def Q1p:An:=.t 1 (.t 1 (.two (.un (.lp [0,1,5] [] ⟨[],[]⟩ [(.x 0,⟨[],[]⟩)] (.two (.two (.reg (.n 5 (.sp 11 7 [] [] ⟨[(18,.d .bool)],[]⟩ (.tl .done) (.nl 6 (.n 1 .done)) (.done)))) (.two (.gh (.tl .done) .nil) (.nil))) (.nil)))) (.t 5 (.t 5 (.t 6 (.nil))))))
def Q1q:Shp:=⟨[(0,.d (.sl .i)),(1,.d .i)],[]⟩
def Qu9:Shp:=⟨[(0,.d (.sl .i))],[]⟩
def Q1r:An:=.t 1 (.t 1 (.two (.un (.lp [0,1,5] [] ⟨[],[]⟩ [(.x 0,⟨[],[]⟩)] (.two (.two (.reg (.n 5 (.sp 11 7 [] [] ⟨[(18,.d .bool)],[]⟩ (.tl .done) (.nl 6 (.n 1 .done)) (.done)))) (.two (.gh (.tl .done) .nil) (.nil))) (.nil)))) (.t 5 (.t 5 (.t 6 (.nil))))))
def Q1s:Shp:=⟨[(0,.d (.sl .str)),(1,.d .str)],[]⟩
def Qva:Shp:=⟨[(0,.s 1)],[(1,.row 9 .str)]⟩
def Qk6:An:=.t 3 (.two (.t 2 (.un (.t 2 (.two (.gh (.tl .done) .nil) (.t 2 (.two (.gh (.tl .done) .nil) (.t 2 (.two (.gh (.tl .done) .nil) (.t 2 (.two (.reg (.n 4 (.call 0 (.n 2 .done)))) (.gh (.tl .done) .nil))))))))))) (.t 2 (.nil)))
def Qk7:Shp:=⟨[(0,.p 5000 []),(1,.d Vv),(2,.d Yh)],[(5000,.var 314 (.ag (.cons (.m 5001) (.cons (.m 5002) (.cons (.m 5003) (.cons (.m 5004) (.cons (.m 5005) (.cons (.d (.sl .i)) (.cons (.d (.sl .i)) (.nil)))))))))),(5001,.map .i Qy),(5002,.map .i Vv),(5003,.map .i .bool),(5004,.map .str .i),(5005,.map .i .i)]⟩
def Qhj:Shp:=⟨[(0,.ag (.cons (.d .i) (.cons (.d .i) (.cons (.d .i) (.cons (.d .str) (.cons (.d (.sl .str)) (.cons (.s 1) (.cons (.d .bool) (.cons (.d .bool) (.nil))))))))))],[(1,.row 9 .str)]⟩
def Qk8:An:=.t 1 (.t 2 (.un (.t 2 (.two (.two (.two (.dm 12 [38,39,40,41,42,43,44,37,45,46,4,1000000011] [] (.n 12 (.tl (.n 1 .done)))) (.t 2 (.two (.dm 8 [49,50,51,52,53,54,55,56] [] (.n 7 (.call 0 (.tl (.n 3 .done))))) (.gh (.tl .done) .nil)))) (.dr 16 (.n 16 .done) (.n 1 .done))) (.t 2 (.two (.gh (.tl .done) .nil) (.t 2 (.two (.two (.two (.dr 8 (.n 8 .done) (.done)) (.two (.dm 8 [102,103,104,105,106,107,108,109] [] (.n 7 (.call 0 (.tl (.n 3 .done))))) (.gh (.tl .done) .nil))) (.two (.dr 6 (.n 6 .done) (.n 1 .done)) (.two (.dr 8 (.n 8 .done) (.n 1 .done)) (.dr 15 (.n 15 .done) (.n 1 .done))))) (.t 2 (.two (.gh (.tl .done) .nil) (.two (.jn [0,3] [3,5000,5001,5002,5003,5004,5005] [(.n,⟨[(177,.d .bool)],[]⟩)] (.t 2 (.two (.nil) (.reg (.n 2 .done))))) (.two (.nil) (.two (.dm 12 [15,16,17,18,19,20,21,14,22,23,10,1000000011] [] (.n 12 (.tl (.n 1 .done)))) (.t 1 (.two (.dc 10 [25,26,27,28,29,30,31,32,33,34] [5000,3,10,5001,5002,5003,5004,5005] [] (.op ⟨.nl 1 .done,[],[],[],[5000]⟩ (.op ⟨.nl 1 .done,[],[5000],[],[5000]⟩ (.op ⟨.nl 1 .done,[],[],[],[5000]⟩ (.op ⟨.nl 1 .done,[],[5000],[],[5002]⟩ (.op ⟨.nl 1 .done,[],[],[],[3]⟩ (.op ⟨.nl 1 .done,[],[3],[],[]⟩ (.op ⟨.nl 1 .done,[],[],[],[5000]⟩ (.op ⟨.nl 1 .done,[],[10],[],[]⟩ (.op ⟨.nl 1 .done,[],[3],[],[]⟩ (.op ⟨.call 1 (.done),[],[5000,5001,5002,5003,5004,5005],[13401],[13401]⟩ (.tl (.fz 13401 (.n 1 .done)))))))))))))) (.gh (.tl .done) .nil))))))))))))))))
def Qk9:Shp:=⟨[(0,.p 5000 []),(1,.d Yh)],[(5000,.var 314 (.ag (.cons (.m 5001) (.cons (.m 5002) (.cons (.m 5003) (.cons (.m 5004) (.cons (.m 5005) (.cons (.d (.sl .i)) (.cons (.d (.sl .i)) (.nil)))))))))),(5001,.map .i Qy),(5002,.map .i Vv),(5003,.map .i .bool),(5004,.map .str .i),(5005,.map .i .i)]⟩
def Qhk:Shp:=⟨[],[(5000,.var 314 (.ag (.cons (.m 5001) (.cons (.m 5002) (.cons (.m 5003) (.cons (.m 5004) (.cons (.m 5005) (.cons (.d (.sl .i)) (.cons (.d (.sl .i)) (.nil)))))))))),(5001,.map .i Qy),(5002,.map .i Vv),(5003,.map .i .bool),(5004,.map .str .i),(5005,.map .i .i)]⟩
def Q1t:An:=.t 1 (.t 1 (.two (.reg (.n 1 (.mt 12 [] 3 (.n 1 .done)))) (.two (.t 6 (.un (.lp [0,16,17] [] ⟨[(2,.p 100000 []),(3,.p 100001 []),(4,.m 100002),(18,.d .i)],[(100000,.var 181 (.ag (.cons (.ns) (.cons (.ns) (.nil))))),(100001,.var 181 (.ag (.cons (.ns) (.cons (.s 100003) (.nil))))),(100002,.mapT .i (.sl .i) [] 3 .i),(100003,.row 146 Vv)]⟩ [(.x 0,⟨[(2,.p 100100 []),(3,.p 100101 []),(4,.m 100102)],[(100100,.var 181 (.ag (.cons (.ns) (.cons (.ns) (.nil))))),(100101,.var 181 (.ag (.cons (.ns) (.cons (.s 100103) (.nil))))),(100102,.mapT .i (.sl .i) [] 3 .i),(100103,.row 146 Vv)]⟩)] (.t 1 (.two (.two (.nil) (.nil)) (.two (.un (.t 3 (.t 12 (.two (.t 2 (.two (.gh (.tl .done) .nil) (.nil))) (.two (.gh (.op (.v 7 [.f 1 1]) 100002 700000 (.done)) (.dm 10 [33,34,35,36,37,38,39,40,41,42] [700000] (.n 10 (.tl (.n 1 .done))))) (.reg (.n 7 .done))))))) (.reg (.n 2 .done)))))))) (.two (.t 6 (.un (.lp [0,2,4,53,54] [100100,100102] ⟨[(3,.p 100200 []),(55,.d .i)],[(100200,.var 181 (.ag (.cons (.s 100201) (.cons (.s 100202) (.nil))))),(100201,.row 106 Qy),(100202,.row 146 Vv)]⟩ [(.x 2,⟨[(3,.p 100300 [])],[(100300,.var 181 (.ag (.cons (.s 100301) (.cons (.s 100302) (.nil))))),(100301,.row 106 Qy),(100302,.row 146 Vv)]⟩)] (.t 1 (.two (.two (.nil) (.nil)) (.two (.un (.t 3 (.t 8 (.t 5 (.reg (.n 7 .done)))))) (.reg (.n 2 .done)))))))) (.t 2 (.gh (.fm 100102 (.done)) .nil))))))
def Q1u:Shp:=⟨[(0,.p 5000 [])],[(5000,.var 314 (.ag (.cons (.m 5001) (.cons (.m 5002) (.cons (.m 5003) (.cons (.m 5004) (.cons (.m 5005) (.cons (.d (.sl .i)) (.cons (.d (.sl .i)) (.nil)))))))))),(5001,.map .i Qy),(5002,.map .i Vv),(5003,.map .i .bool),(5004,.map .str .i),(5005,.map .i .i)]⟩
def Qvb:Shp:=⟨[(0,.ag (.cons (.s 1) (.cons (.s 2) (.nil))))],[(1,.row 106 Qy),(2,.row 146 Vv)]⟩
def Jet:AnR:=.pre (.reg (.n 1 .done)) (.pre (.reg (.call 0 (.n 2 .done))) (.inn (.pre (.reg (.n 2 (.call 1 (.done)))) (.un (.rf 0 [4,5] [4,5] ⟨[],[(10701,.var 314 (.ag (.cons (.m 100001) (.cons (.m 100002) (.cons (.m 100003) (.cons (.m 100004) (.cons (.m 100005) (.cons (.d (.sl .i)) (.cons (.d (.sl .i)) (.nil)))))))))),(100001,.map .i Qy),(100002,.map .i Vv),(100003,.map .i .bool),(100004,.map .str .i),(100005,.map .i .i)]⟩ (.reg (.n 2 .done)) (.un (.reg (.n 2 (.call 2 (.done)))))))) (.two (.reg (.n 1 (.call 3 (.n 1 .done)))) (.nil))))
def Jeu:Shp:=⟨[(0,.d (.sl Yh)),(1,.d .i)],[]⟩
def Q1v:Shp:=⟨[(0,.ag (.cons (.s 1) (.cons (.s 2) (.nil))))],[(1,.row 106 Qy),(2,.row 146 Vv)]⟩
def Jev:An:=.t 2 (.two (.two (.reg (.n 2 (.call 0 (.n 3 .done)))) (.un (.lp [1,13,14,15] [11201,11202] ⟨[(6,.p 100000 [])],[(100000,.var 146 (.ag (.cons (.d .i) (.cons (.d .i) (.cons (.d .i) (.cons (.d .str) (.cons (.ns) (.cons (.ns) (.cons (.d .bool) (.cons (.d .bool) (.nil)))))))))))]⟩ [(.r,⟨[(6,.p 100100 []),(7,.d .bool)],[(100100,.var 146 (.d Vv))]⟩)] (.t 1 (.two (.two (.nil) (.gh (.tl .done) .nil)) (.two (.un (.t 4 (.t 4 (.two (.t 3 (.nil)) (.gh (.tl .done) .nil))))) (.nil))))))) (.nil))
def Jew:Shp:=⟨[(0,.d (.sl Yh)),(1,.d .i),(2,.d .i)],[]⟩
def Q1w:Shp:=⟨[(0,.d Vv),(1,.d .bool)],[]⟩
def Jex:An:=.t 2 (.two (.two (.reg (.n 2 (.call 0 (.n 3 .done)))) (.un (.lp [1,13,14,15] [11201,11202] ⟨[(6,.p 100000 [])],[(100000,.var 106 (.ag (.cons (.d .i) (.cons (.d .i) (.cons (.d .i) (.cons (.d .bool) (.cons (.d .bool) (.cons (.ns) (.nil)))))))))]⟩ [(.r,⟨[(6,.p 100100 []),(7,.d .bool)],[(100100,.var 106 (.d Qy))]⟩)] (.t 1 (.two (.two (.nil) (.gh (.tl .done) .nil)) (.two (.un (.t 4 (.t 4 (.two (.t 3 (.nil)) (.gh (.tl .done) .nil))))) (.nil))))))) (.nil))
def Jey:Shp:=⟨[(0,.d (.sl Yh)),(1,.d .i),(2,.d .i)],[]⟩
def Q1x:Shp:=⟨[(0,.d Qy),(1,.d .bool)],[]⟩
def Jez:An:=.t 1 (.two (.dm 21 [8,9,10,11,12,13,14,15,16,17,18,19,20,21,22,23,7,24,25,3,1000000020] [] (.n 15 (.call 0 (.n 5 (.tl (.n 1 .done)))))) (.two (.t 2 (.two (.t 1 (.nil)) (.nil))) (.two (.dm 21 [29,30,31,32,33,34,35,36,37,38,39,40,41,42,43,44,28,45,46,5,1000000020] [] (.n 15 (.call 1 (.n 5 (.tl (.n 1 .done)))))) (.two (.two (.dr 8 (.n 8 .done) (.done)) (.two (.gh (.tl .done) .nil) (.nil))) (.two (.t 2 (.two (.gh (.tl .done) .nil) (.nil))) (.t 5 (.two (.dm 20 [62,63,64,65,66,67,68,69,70,71,72,73,74,75,61,76,77,78,79,1000000019] [5000] (.n 13 (.call 2 (.n 6 (.tl (.done)))))) (.t 1 (.nil)))))))))
def Je0:Shp:=⟨[(0,.p 5000 [])],[(5000,.var 114 (.ag (.cons (.d Jt) (.cons (.d Q5) (.cons (.d Qk) (.cons (.ag (.cons (.d Qp) (.cons (.d .str) (.cons (.s 5001) (.cons (.d .bool) (.cons (.d .bool) (.nil))))))) (.cons (.ag (.cons (.d .i) (.cons (.d .i) (.cons (.d .i) (.cons (.d .bool) (.cons (.d .bool) (.cons (.s 5002) (.nil)))))))) (.cons (.ag (.cons (.d .str) (.cons (.d .i) (.cons (.d .bool) (.cons (.s 5003) (.cons (.s 5004) (.cons (.s 5005) (.cons (.s 5006) (.nil))))))))) (.cons (.d .i) (.cons (.ag (.cons (.d Qk) (.cons (.d .i) (.cons (.d .str) (.cons (.d .i) (.cons (.d .str) (.cons (.s 5007) (.cons (.s 5008) (.cons (.d .i) (.cons (.d .i) (.cons (.d .i) (.cons (.s 5009) (.cons (.d .i) (.cons (.d .i) (.nil))))))))))))))) (.nil))))))))))),(5001,.row 9 .str),(5002,.row 3 .i),(5003,.row 118 Yl),(5004,.row 121 Yp),(5005,.row 126 Vo),(5006,.row 231 Y3),(5007,.row 33 Jy),(5008,.row 35 Q8),(5009,.row 76 Ju)]⟩
def Q1y:Shp:=⟨[(0,.d .i)],[(5000,.var 114 (.ag (.cons (.d Jt) (.cons (.d Q5) (.cons (.d Qk) (.cons (.ag (.cons (.d Qp) (.cons (.d .str) (.cons (.d (.sl .str)) (.cons (.d .bool) (.cons (.d .bool) (.nil))))))) (.cons (.ag (.cons (.d .i) (.cons (.d .i) (.cons (.d .i) (.cons (.d .bool) (.cons (.d .bool) (.cons (.d (.sl .i)) (.nil)))))))) (.cons (.ag (.cons (.d .str) (.cons (.d .i) (.cons (.d .bool) (.cons (.s 1) (.cons (.s 2) (.cons (.s 3) (.cons (.s 4) (.nil))))))))) (.cons (.d .i) (.cons (.ag (.cons (.d Qk) (.cons (.d .i) (.cons (.d .str) (.cons (.d .i) (.cons (.d .str) (.cons (.s 5) (.cons (.s 6) (.cons (.d .i) (.cons (.d .i) (.cons (.d .i) (.cons (.s 7) (.cons (.d .i) (.cons (.d .i) (.nil))))))))))))))) (.nil))))))))))),(1,.row 118 Yl),(2,.row 121 Yp),(3,.row 126 Vo),(4,.row 231 Y3),(5,.row 33 Jy),(6,.row 35 Q8),(7,.row 76 Ju)]⟩
def Je1:An:=.t 1 (.two (.reg (.n 1 (.call 0 (.n 1 .done)))) (.nil))
def Je2:Shp:=⟨[(0,.p 5000 [])],[(5000,.var 99 (.p 5001 [])),(5001,.var 114 (.ag (.cons (.d Jt) (.cons (.d Q5) (.cons (.d Qk) (.cons (.ag (.cons (.d Qp) (.cons (.d .str) (.cons (.s 5002) (.cons (.d .bool) (.cons (.d .bool) (.nil))))))) (.cons (.ag (.cons (.d .i) (.cons (.d .i) (.cons (.d .i) (.cons (.d .bool) (.cons (.d .bool) (.cons (.s 5003) (.nil)))))))) (.cons (.ag (.cons (.d .str) (.cons (.d .i) (.cons (.d .bool) (.cons (.s 5004) (.cons (.s 5005) (.cons (.s 5006) (.cons (.s 5007) (.nil))))))))) (.cons (.d .i) (.cons (.ag (.cons (.d Qk) (.cons (.d .i) (.cons (.d .str) (.cons (.d .i) (.cons (.d .str) (.cons (.s 5008) (.cons (.s 5009) (.cons (.d .i) (.cons (.d .i) (.cons (.d .i) (.cons (.s 5010) (.cons (.d .i) (.cons (.d .i) (.nil))))))))))))))) (.nil))))))))))),(5002,.row 9 .str),(5003,.row 3 .i),(5004,.row 118 Yl),(5005,.row 121 Yp),(5006,.row 126 Vo),(5007,.row 231 Y3),(5008,.row 33 Jy),(5009,.row 35 Q8),(5010,.row 76 Ju)]⟩
def Q1z:Shp:=⟨[(0,.d .i)],[(5001,.var 114 (.ag (.cons (.d Jt) (.cons (.d Q5) (.cons (.d Qk) (.cons (.d Jo) (.cons (.d Qy) (.cons (.ag (.cons (.d .str) (.cons (.d .i) (.cons (.d .bool) (.cons (.s 1) (.cons (.s 2) (.cons (.s 3) (.cons (.s 4) (.nil))))))))) (.cons (.d .i) (.cons (.ag (.cons (.d Qk) (.cons (.d .i) (.cons (.d .str) (.cons (.d .i) (.cons (.d .str) (.cons (.s 5) (.cons (.s 6) (.cons (.d .i) (.cons (.d .i) (.cons (.d .i) (.cons (.s 7) (.cons (.d .i) (.cons (.d .i) (.nil))))))))))))))) (.nil))))))))))),(1,.row 118 Yl),(2,.row 121 Yp),(3,.row 126 Vo),(4,.row 231 Y3),(5,.row 33 Jy),(6,.row 35 Q8),(7,.row 76 Ju)]⟩
def Je3:An:=.t 2 (.two (.reg (.n 1 (.call 0 (.n 1 .done)))) (.nil))
def Je4:Shp:=⟨[(0,.f 48 (.cons (.p 5000 []) (.nil))),(1,.p 5011 [])],[(5000,.var 99 (.p 5001 [])),(5001,.var 114 (.ag (.cons (.d Jt) (.cons (.d Q5) (.cons (.d Qk) (.cons (.ag (.cons (.d Qp) (.cons (.d .str) (.cons (.s 5002) (.cons (.d .bool) (.cons (.d .bool) (.nil))))))) (.cons (.ag (.cons (.d .i) (.cons (.d .i) (.cons (.d .i) (.cons (.d .bool) (.cons (.d .bool) (.cons (.s 5003) (.nil)))))))) (.cons (.ag (.cons (.d .str) (.cons (.d .i) (.cons (.d .bool) (.cons (.s 5004) (.cons (.s 5005) (.cons (.s 5006) (.cons (.s 5007) (.nil))))))))) (.cons (.d .i) (.cons (.ag (.cons (.d Qk) (.cons (.d .i) (.cons (.d .str) (.cons (.d .i) (.cons (.d .str) (.cons (.s 5008) (.cons (.s 5009) (.cons (.d .i) (.cons (.d .i) (.cons (.d .i) (.cons (.s 5010) (.cons (.d .i) (.cons (.d .i) (.nil))))))))))))))) (.nil))))))))))),(5002,.row 9 .str),(5003,.row 3 .i),(5004,.row 118 Yl),(5005,.row 121 Yp),(5006,.row 126 Vo),(5007,.row 231 Y3),(5008,.row 33 Jy),(5009,.row 35 Q8),(5010,.row 76 Ju),(5011,.var 24 (.d .i))]⟩
def Q10:Shp:=⟨[],[(5001,.var 114 (.ag (.cons (.d Jt) (.cons (.d Q5) (.cons (.d Qk) (.cons (.ag (.cons (.d Qp) (.cons (.d .str) (.cons (.d (.sl .str)) (.cons (.d .bool) (.cons (.d .bool) (.nil))))))) (.cons (.ag (.cons (.d .i) (.cons (.d .i) (.cons (.d .i) (.cons (.d .bool) (.cons (.d .bool) (.cons (.d (.sl .i)) (.nil)))))))) (.cons (.ag (.cons (.d .str) (.cons (.d .i) (.cons (.d .bool) (.cons (.s 1) (.cons (.s 2) (.cons (.s 3) (.cons (.s 4) (.nil))))))))) (.cons (.d .i) (.cons (.ag (.cons (.d Qk) (.cons (.d .i) (.cons (.d .str) (.cons (.d .i) (.cons (.d .str) (.cons (.s 5) (.cons (.s 6) (.cons (.d .i) (.cons (.d .i) (.cons (.d .i) (.cons (.s 7) (.cons (.d .i) (.cons (.d .i) (.nil))))))))))))))) (.nil))))))))))),(5011,.var 24 (.d .i)),(1,.row 118 Yl),(2,.row 121 Yp),(3,.row 126 Vo),(4,.row 231 Y3),(5,.row 33 Jy),(6,.row 35 Q8),(7,.row 76 Ju)]⟩
def Q11:An:=.t 1 (.t 3 (.nil))
def Q12:Shp:=⟨[(0,.d (.sl .str))],[]⟩
def Qvc:Shp:=⟨[(0,.d (.sl .str))],[]⟩
def Q13:An:=.t 1 (.t 3 (.nil))
def Q14:Shp:=⟨[(0,.d (.sl Gm))],[]⟩
def Qvd:Shp:=⟨[(0,.d (.sl Gm))],[]⟩
def Q15:An:=.t 1 (.t 3 (.nil))
def Q16:Shp:=⟨[(0,.d (.sl Kw))],[]⟩
def Qve:Shp:=⟨[(0,.s 1)],[(1,.row 123 Kw)]⟩
def Je5:An:=.t 2 (.t 3 (.t 8 (.two (.t 4 (.un (.lp [1,2,18,19] [1,2] ⟨[(3,.p 100000 []),(20,.d .i)],[(100000,.var 112 (.ag (.cons (.d .str) (.cons (.d .i) (.cons (.d .bool) (.cons (.s 100001) (.cons (.ns) (.cons (.ns) (.cons (.ns) (.nil)))))))))),(100001,.row 118 Yl)]⟩ [(.x 0,⟨[(3,.p 100100 [])],[(100100,.var 112 (.ag (.cons (.d .str) (.cons (.d .i) (.cons (.d .bool) (.cons (.s 100101) (.cons (.ns) (.cons (.ns) (.cons (.ns) (.nil)))))))))),(100101,.row 118 Yl)]⟩)] (.t 1 (.two (.two (.nil) (.nil)) (.two (.un (.t 4 (.dm 9 [24,25,26,27,28,29,30,31,32] [] (.n 6 (.call 0 (.n 2 (.tl (.n 3 .done)))))))) (.reg (.n 2 .done)))))))) (.two (.t 4 (.un (.lp [1,2,37,38] [1,2] ⟨[(3,.p 100200 []),(39,.d .i)],[(100200,.var 112 (.ag (.cons (.d .str) (.cons (.d .i) (.cons (.d .bool) (.cons (.s 100201) (.cons (.s 100202) (.cons (.ns) (.cons (.ns) (.nil)))))))))),(100201,.row 118 Yl),(100202,.row 121 Yp)]⟩ [(.x 2,⟨[(3,.p 100300 [])],[(100300,.var 112 (.ag (.cons (.d .str) (.cons (.d .i) (.cons (.d .bool) (.cons (.s 100301) (.cons (.s 100302) (.cons (.ns) (.cons (.ns) (.nil)))))))))),(100301,.row 118 Yl),(100302,.row 121 Yp)]⟩)] (.t 1 (.two (.two (.nil) (.nil)) (.two (.un (.t 4 (.dm 9 [43,44,45,46,47,48,49,50,51] [] (.n 6 (.call 1 (.n 2 (.tl (.n 3 .done)))))))) (.reg (.n 2 .done)))))))) (.two (.t 4 (.un (.lp [1,2,56,57] [1,2] ⟨[(3,.p 100400 []),(58,.d .i)],[(100400,.var 112 (.ag (.cons (.d .str) (.cons (.d .i) (.cons (.d .bool) (.cons (.s 100401) (.cons (.s 100402) (.cons (.s 100403) (.cons (.ns) (.nil)))))))))),(100401,.row 118 Yl),(100402,.row 121 Yp),(100403,.row 126 Vo)]⟩ [(.x 4,⟨[(3,.p 100500 [])],[(100500,.var 112 (.ag (.cons (.d .str) (.cons (.d .i) (.cons (.d .bool) (.cons (.s 100501) (.cons (.s 100502) (.cons (.s 100503) (.cons (.ns) (.nil)))))))))),(100501,.row 118 Yl),(100502,.row 121 Yp),(100503,.row 126 Vo)]⟩)] (.t 1 (.two (.two (.nil) (.nil)) (.two (.un (.t 4 (.two (.reg (.n 2 (.call 2 (.n 2 .done)))) (.reg (.n 3 (.fz 16401 (.n 4 .done))))))) (.reg (.n 2 .done)))))))) (.two (.t 4 (.un (.lp [2,3,75,76] [1,2,100500,100501,100502,100503] ⟨[],[]⟩ [(.x 6,⟨[],[]⟩)] (.t 1 (.two (.two (.gh (.tl .done) .nil) (.nil)) (.nil)))))) (.t 2 (.nil))))))))
def Je6:Shp:=⟨[(0,.d Jq)],[]⟩
def Q17:Shp:=⟨[(0,.ag (.cons (.d .str) (.cons (.d .i) (.cons (.d .bool) (.cons (.s 1) (.cons (.s 2) (.cons (.s 3) (.cons (.ns) (.nil)))))))))],[(1,.row 118 Yl),(2,.row 121 Yp),(3,.row 126 Vo)]⟩
def Je7:An:=.t 2 (.t 1 (.two (.t 3 (.un (.lp [0,1,2,6,11,12] [6] ⟨[(8,.d .i),(13,.d .i)],[]⟩ [(.x 0,⟨[(8,.d .i)],[]⟩)] (.t 1 (.two (.two (.nil) (.nil)) (.two (.un (.t 6 (.t 10 (.t 2 (.gh (.tl .done) .nil))))) (.reg (.n 2 .done)))))))) (.two (.t 2 (.two (.gh (.tl .done) .nil) (.nil))) (.two (.reg (.n 4 (.call 0 (.n 2 .done)))) (.nil)))))
def Je8:Shp:=⟨[(0,.d (.sl Jq)),(1,.d .str),(2,.d .i)],[]⟩
def Q18:Shp:=⟨[(0,.d Jq),(1,.d .bool)],[]⟩
def Q19:An:=.t 1 (.two (.t 3 (.un (.lp [0,6] [] ⟨[(7,.d .i)],[]⟩ [(.x 0,⟨[],[]⟩)] (.t 1 (.two (.two (.nil) (.nil)) (.two (.un (.t 2 (.t 4 (.t 22 (.two (.gh (.tl .done) .nil) (.nil)))))) (.reg (.n 2 .done)))))))) (.t 9 (.nil)))
def Q2a:Shp:=⟨[(0,.d .str)],[]⟩
def Qvf:Shp:=⟨[(0,.d .bool)],[]⟩
def Q2b:An:=.t 1 (.two (.t 3 (.un (.lp [7,8] [] ⟨[],[]⟩ [(.x 0,⟨[],[]⟩)] (.t 1 (.two (.two (.gh (.tl .done) .nil) (.nil)) (.nil)))))) (.t 1 (.nil)))
def Q2c:Shp:=⟨[(0,.d (.sl Yl)),(1,.f 140 (.cons (.p 5000 []) (.nil)))],[(5000,.var 118 (.d Yl))]⟩
def Qvg:Shp:=⟨[(0,.d .i)],[]⟩
def Q2d:An:=.t 1 (.two (.reg (.n 2 (.call 0 (.n 2 .done)))) (.nil))
def Q2e:Shp:=⟨[(0,.d (.sl Yl)),(1,.f 140 (.cons (.p 5000 []) (.nil)))],[(5000,.var 118 (.d Yl))]⟩
def Qvh:Shp:=⟨[(0,.d .bool)],[]⟩
def Q2f:An:=.t 1 (.t 7 (.nil))
def Q2g:Shp:=⟨[(0,.d (.int .u8))],[]⟩
def Qvi:Shp:=⟨[(0,.d .bool)],[]⟩
def Je9:An:=.t 1 (.two (.t 3 (.un (.lp [0,5] [] ⟨[(6,.d .i)],[]⟩ [(.x 0,⟨[],[]⟩)] (.t 1 (.two (.two (.nil) (.nil)) (.two (.un (.t 2 (.two (.reg (.n 3 (.call 0 (.n 1 .done)))) (.two (.gh (.tl .done) .nil) (.nil))))) (.reg (.n 2 .done)))))))) (.t 9 (.nil)))
def Jfa:Shp:=⟨[(0,.d .str)],[]⟩
def Q2h:Shp:=⟨[(0,.d .bool)],[]⟩
def Jfb:An:=.t 2 (.two (.t 3 (.two (.gh (.tl .done) .nil) (.nil))) (.t 2 (.two (.t 3 (.un (.lp [0,15,16] [] ⟨[(4,.m 100000),(17,.d .i)],[(100000,.map .str .str)]⟩ [(.x 0,⟨[(4,.m 100300)],[(100300,.map .str .str)]⟩)] (.t 1 (.two (.two (.nil) (.nil)) (.two (.un (.t 6 (.two (.un (.two (.reg (.n 2 (.call 0 (.n 2 .done)))) (.two (.gh (.tl .done) .nil) (.two (.reg (.n 4 (.call 1 (.n 1 .done)))) (.two (.gh (.tl .done) .nil) (.t 5 (.two (.gh (.tl .done) .nil) (.t 5 (.two (.gh (.tl .done) .nil) (.nil)))))))))) (.t 4 (.un (.lp [6,17,44,45] [6] ⟨[(4,.m 100100),(46,.d .i)],[(100100,.map .str .str)]⟩ [(.x 3,⟨[(4,.m 100200)],[(100200,.map .str .str)]⟩)] (.t 1 (.two (.two (.nil) (.nil)) (.two (.un (.t 3 (.two (.two (.reg (.n 1 (.call 2 (.n 1 .done)))) (.two (.gh (.tl .done) .nil) (.nil))) (.two (.t 8 (.t 1 (.two (.gh (.tl .done) .nil) (.nil)))) (.reg (.n 5 .done)))))) (.reg (.n 2 .done))))))))))) (.reg (.n 2 .done)))))))) (.t 3 (.nil)))))
def Jfc:Shp:=⟨[(0,.d (.sl Yl))],[]⟩
def Q2i:Shp:=⟨[(0,.m 1),(1,.d .i)],[(1,.map .str .str)]⟩
def Jfd:An:=.t 2 (.two (.un (.lp [0,1] [] ⟨[(2,.d .i)],[]⟩ [(.r,⟨[(6,.d .str),(7,.d .bool)],[]⟩)] (.two (.t 2 (.two (.nil) (.gh (.tl .done) .nil))) (.two (.un (.t 10 (.t 1 (.two (.t 3 (.nil)) (.nil))))) (.reg (.n 3 .done)))))) (.nil))
def Jfe:Shp:=⟨[(0,.m 5000),(1,.d .str),(2,.d .i)],[(5000,.map .str .str)]⟩
def Q2j:Shp:=⟨[(0,.d .str),(1,.d .bool)],[]⟩
def Jff:An:=.t 2 (.two (.reg (.n 1 (.call 0 (.n 5 .done)))) (.two (.two (.reg (.n 3 (.sp 15 4 [1,6] [11001] ⟨[(19,.d .bool)],[]⟩ (.nl 3 (.n 1 .done)) (.nl 1 (.call 1 (.nl 1 (.n 1 .done)))) (.done)))) (.two (.gh (.tl .done) .nil) (.nil))) (.two (.reg (.n 4 (.call 2 (.n 4 .done)))) (.nil))))
def Jfg:Shp:=⟨[(0,.d (.sl Yl)),(1,.d .str)],[]⟩
def Q2k:Shp:=⟨[(0,.d .str),(1,.d .bool)],[]⟩
def Jfh:An:=.t 1 (.two (.dm 21 [6,7,8,9,10,11,12,13,14,15,16,17,18,19,20,21,5,22,23,3,1000000020] [] (.n 15 (.call 0 (.n 5 (.tl (.n 1 .done)))))) (.two (.t 2 (.two (.gh (.tl .done) .nil) (.nil))) (.t 5 (.two (.dm 10 [30,31,32,33,34,35,36,37,38,1000000009] [5000] (.n 10 (.tl (.n 4 .done)))) (.two (.dm 16 [43,44,45,46,47,48,49,50,51,42,52,53,54,55,56,1000000015] [5000] (.n 8 (.call 1 (.n 7 (.tl (.done)))))) (.t 1 (.nil)))))))
def Jfi:Shp:=⟨[(0,.p 5000 [])],[(5000,.var 114 (.ag (.cons (.d Jt) (.cons (.d Q5) (.cons (.d Qk) (.cons (.d Jo) (.cons (.d Qy) (.cons (.ag (.cons (.d .str) (.cons (.d .i) (.cons (.d .bool) (.cons (.s 5001) (.cons (.s 5002) (.cons (.s 5003) (.cons (.s 5004) (.nil))))))))) (.cons (.d .i) (.cons (.ag (.cons (.d Qk) (.cons (.d .i) (.cons (.d .str) (.cons (.d .i) (.cons (.d .str) (.cons (.s 5005) (.cons (.s 5006) (.cons (.d .i) (.cons (.d .i) (.cons (.d .i) (.cons (.s 5007) (.cons (.d .i) (.cons (.d .i) (.nil))))))))))))))) (.nil))))))))))),(5001,.row 118 Yl),(5002,.row 121 Yp),(5003,.row 126 Vo),(5004,.row 231 Y3),(5005,.row 33 Jy),(5006,.row 35 Q8),(5007,.row 76 Ju)]⟩
def Q2l:Shp:=⟨[(0,.d .i)],[(5000,.var 114 (.ag (.cons (.d Jt) (.cons (.d Q5) (.cons (.d Qk) (.cons (.d Jo) (.cons (.d Qy) (.cons (.d Jq) (.cons (.d .i) (.cons (.ag (.cons (.d Qk) (.cons (.d .i) (.cons (.d .str) (.cons (.d .i) (.cons (.d .str) (.cons (.s 1) (.cons (.s 2) (.cons (.d .i) (.cons (.d .i) (.cons (.d .i) (.cons (.s 3) (.cons (.d .i) (.cons (.d .i) (.nil))))))))))))))) (.nil))))))))))),(1,.row 33 Jy),(2,.row 35 Q8),(3,.row 76 Ju)]⟩
def Jfj:An:=.t 1 (.two (.reg (.n 1 (.call 0 (.n 1 .done)))) (.nil))
def Jfk:Shp:=⟨[(0,.p 5000 [])],[(5000,.var 99 (.p 5001 [])),(5001,.var 114 (.ag (.cons (.d Jt) (.cons (.d Q5) (.cons (.d Qk) (.cons (.d Jo) (.cons (.d Qy) (.cons (.ag (.cons (.d .str) (.cons (.d .i) (.cons (.d .bool) (.cons (.s 5002) (.cons (.s 5003) (.cons (.s 5004) (.cons (.s 5005) (.nil))))))))) (.cons (.d .i) (.cons (.ag (.cons (.d Qk) (.cons (.d .i) (.cons (.d .str) (.cons (.d .i) (.cons (.d .str) (.cons (.s 5006) (.cons (.s 5007) (.cons (.d .i) (.cons (.d .i) (.cons (.d .i) (.cons (.s 5008) (.cons (.d .i) (.cons (.d .i) (.nil))))))))))))))) (.nil))))))))))),(5002,.row 118 Yl),(5003,.row 121 Yp),(5004,.row 126 Vo),(5005,.row 231 Y3),(5006,.row 33 Jy),(5007,.row 35 Q8),(5008,.row 76 Ju)]⟩
def Q2m:Shp:=⟨[(0,.d .i)],[(5001,.var 114 (.ag (.cons (.d Jt) (.cons (.d Q5) (.cons (.d Qk) (.cons (.d Jo) (.cons (.d Qy) (.cons (.d Jq) (.cons (.d .i) (.cons (.ag (.cons (.d Qk) (.cons (.d .i) (.cons (.d .str) (.cons (.d .i) (.cons (.d .str) (.cons (.s 1) (.cons (.s 2) (.cons (.d .i) (.cons (.d .i) (.cons (.d .i) (.cons (.s 3) (.cons (.d .i) (.cons (.d .i) (.nil))))))))))))))) (.nil))))))))))),(1,.row 33 Jy),(2,.row 35 Q8),(3,.row 76 Ju)]⟩
def Qri:An:=.t 2 (.two (.reg (.n 1 (.call 0 (.n 1 .done)))) (.nil))
def Qrj:Shp:=⟨[(0,.f 50 (.cons (.p 5000 []) (.nil))),(1,.p 5009 [])],[(5000,.var 99 (.p 5001 [])),(5001,.var 114 (.ag (.cons (.d Jt) (.cons (.d Q5) (.cons (.d Qk) (.cons (.d Jo) (.cons (.d Qy) (.cons (.ag (.cons (.d .str) (.cons (.d .i) (.cons (.d .bool) (.cons (.s 5002) (.cons (.s 5003) (.cons (.s 5004) (.cons (.s 5005) (.nil))))))))) (.cons (.d .i) (.cons (.ag (.cons (.d Qk) (.cons (.d .i) (.cons (.d .str) (.cons (.d .i) (.cons (.d .str) (.cons (.s 5006) (.cons (.s 5007) (.cons (.d .i) (.cons (.d .i) (.cons (.d .i) (.cons (.s 5008) (.cons (.d .i) (.cons (.d .i) (.nil))))))))))))))) (.nil))))))))))),(5002,.row 118 Yl),(5003,.row 121 Yp),(5004,.row 126 Vo),(5005,.row 231 Y3),(5006,.row 33 Jy),(5007,.row 35 Q8),(5008,.row 76 Ju),(5009,.var 24 (.d .i))]⟩
def Qla:Shp:=⟨[],[(5001,.var 114 (.ag (.cons (.d Jt) (.cons (.d Q5) (.cons (.d Qk) (.cons (.d Jo) (.cons (.d Qy) (.cons (.ag (.cons (.d .str) (.cons (.d .i) (.cons (.d .bool) (.cons (.d (.sl Yl)) (.cons (.d (.sl Yp)) (.cons (.d (.sl Vo)) (.cons (.d (.sl Y3)) (.nil))))))))) (.cons (.d .i) (.cons (.ag (.cons (.d Qk) (.cons (.d .i) (.cons (.d .str) (.cons (.d .i) (.cons (.d .str) (.cons (.s 1) (.cons (.s 2) (.cons (.d .i) (.cons (.d .i) (.cons (.d .i) (.cons (.s 3) (.cons (.d .i) (.cons (.d .i) (.nil))))))))))))))) (.nil))))))))))),(5009,.var 24 (.d .i)),(1,.row 33 Jy),(2,.row 35 Q8),(3,.row 76 Ju)]⟩
def Q2n:An:=.t 1 (.t 1 (.two (.t 3 (.un (.lp [6,7] [] ⟨[(3,.s 100000),(8,.d .i)],[(100000,.row 142 Qz)]⟩ [(.x 0,⟨[(3,.s 100100)],[(100100,.row 142 Qz)]⟩)] (.t 1 (.two (.two (.nil) (.nil)) (.two (.un (.t 4 (.t 5 (.reg (.n 2 (.fz 14 (.n 3 .done))))))) (.reg (.n 2 .done)))))))) (.t 2 (.nil))))
def Q2o:Shp:=⟨[(0,.d (.sl Qz))],[]⟩
def Qvj:Shp:=⟨[(0,.d (.sl Qz))],[]⟩
def Jfl:An:=.t 2 (.two (.dm 8 [3,4,5,6,7,8,9,10] [] (.n 2 (.call 0 (.n 5 (.tl (.n 3 .done)))))) (.nil))
def Jfm:Shp:=⟨[(0,.d Q5)],[]⟩
def Q2p:Shp:=⟨[(0,.ag (.cons (.d (.sl Qz)) (.cons (.s 1) (.cons (.s 2) (.nil)))))],[(1,.row 71 Jp),(2,.row 73 Je)]⟩
def Jfn:An:=.t 1 (.two (.t 3 (.un (.lp [1,2,9,10,11] [] ⟨[],[]⟩ [(.r,⟨[(6,.d .bool)],[]⟩)] (.t 1 (.two (.two (.nil) (.gh (.tl .done) .nil)) (.two (.un (.t 4 (.t 15 (.two (.t 4 (.nil)) (.gh (.tl .done) .nil))))) (.nil))))))) (.nil))
def Jfo:Shp:=⟨[(0,.d (.sl Yh)),(1,.d .i),(2,.d .i)],[]⟩
def Q2q:Shp:=⟨[(0,.d .bool)],[]⟩
def Q2r:An:=.t 1 (.t 2 (.two (.t 3 (.un (.lp [9,10] [] ⟨[(3,.m 100000),(11,.d .i)],[(100000,.map .i .i)]⟩ [(.x 0,⟨[(3,.m 100100)],[(100100,.map .i .i)]⟩)] (.t 1 (.two (.two (.nil) (.nil)) (.two (.un (.t 6 (.t 9 (.t 2 (.t 5 (.gh (.tl .done) .nil)))))) (.reg (.n 2 .done)))))))) (.t 2 (.nil))))
def Q2s:Shp:=⟨[(0,.d (.sl Jp))],[]⟩
def Qvk:Shp:=⟨[(0,.m 1)],[(1,.map .i .i)]⟩
def Jfp:An:=.t 2 (.two (.two (.reg (.n 1 (.call 0 (.n 7 .done)))) (.t 1 (.two (.t 5 (.nil)) (.nil)))) (.t 1 (.two (.un (.lp [0,1,8] [11201] ⟨[],[]⟩ [(.x 0,⟨[],[]⟩)] (.two (.two (.reg (.n 5 (.sp 25 8 [] [] ⟨[(33,.d .bool)],[]⟩ (.tl .done) (.nl 7 (.n 1 .done)) (.done)))) (.two (.gh (.tl .done) .nil) (.nil))) (.nil)))) (.t 5 (.t 6 (.t 8 (.nil)))))))
def Jfq:Shp:=⟨[(0,.d (.sl Jp)),(1,.d .i)],[]⟩
def Q2t:Shp:=⟨[(0,.s 1),(1,.d .i)],[(1,.row 71 Jp)]⟩
def Q2u:An:=.t 1 (.t 9 (.nil))
def Q2v:Shp:=⟨[(0,.d .i),(1,.d .i),(2,.d .i)],[]⟩
def Qvl:Shp:=⟨[(0,.d .bool)],[]⟩
def Q2w:An:=.t 1 (.t 7 (.nil))
def Q2x:Shp:=⟨[(0,.d .i)],[]⟩
def Qvm:Shp:=⟨[(0,.d .bool)],[]⟩
def Q2y:An:=.t 2 (.two (.un (.two (.reg (.n 2 (.call 0 (.n 2 (.sp 8 5 [1] [1] ⟨[(13,.d .bool)],[]⟩ (.nl 4 (.n 1 .done)) (.nl 2 (.call 1 (.nl 1 (.n 1 .done)))) (.n 1 (.sp 14 5 [1] [1] ⟨[(19,.d .bool)],[]⟩ (.nl 4 (.n 1 .done)) (.nl 2 (.call 0 (.nl 1 (.n 1 .done)))) (.n 1 .done)))))))) (.two (.gh (.tl .done) .nil) (.two (.reg (.n 2 (.call 0 (.n 2 (.sp 25 5 [1] [1] ⟨[(30,.d .bool)],[]⟩ (.nl 4 (.n 1 .done)) (.nl 2 (.call 0 (.nl 1 (.n 1 .done)))) (.n 1 .done)))))) (.two (.gh (.tl .done) .nil) (.t 9 (.two (.gh (.tl .done) .nil) (.nil)))))))) (.t 1 (.nil)))
def Q2z:Shp:=⟨[(0,.d Jp)],[]⟩
def Qvn:Shp:=⟨[(0,.d .i)],[]⟩
def Jfr:An:=.t 3 (.two (.two (.reg (.n 1 (.call 0 (.n 1 .done)))) (.t 2 (.two (.gh (.tl .done) .nil) (.nil)))) (.two (.two (.reg (.n 1 (.call 1 (.n 2 (.sp 19 7 [1,2,4] [2,4] ⟨[(26,.d .bool)],[]⟩ (.nl 6 (.n 1 .done)) (.nl 4 (.call 2 (.nl 1 (.n 1 .done)))) (.done)))))) (.two (.gh (.tl .done) .nil) (.nil))) (.t 6 (.t 3 (.nil)))))
def Jfs:Shp:=⟨[(0,.d Jp),(1,.d .i)],[]⟩
def Q20:Shp:=⟨[(0,.d Jp),(1,.d .i)],[]⟩
def Jft:An:=.t 1 (.t 2 (.t 2 (.gh (.tl .done) .nil)))
def Jfu:Shp:=⟨[(0,.d Jp),(1,.d .i),(2,.p 5000 [])],[(5000,.var 71 (.d Jp))]⟩
def Q21:Shp:=⟨[],[(5000,.var 71 (.d Jp))]⟩
def Jfv:An:=.t 2 (.two (.reg (.n 1 (.call 0 (.n 2 .done)))) (.two (.two (.reg (.n 7 (.sp 24 6 [0,2,3,8,9] [5,8,9,11701,11702] ⟨[(30,.d .bool)],[]⟩ (.nl 5 (.n 1 .done)) (.nl 3 (.call 1 (.nl 1 (.n 1 .done)))) (.done)))) (.two (.gh (.tl .done) .nil) (.nil))) (.two (.reg (.n 3 (.call 2 (.n 5 .done)))) (.t 6 (.t 2 (.two (.t 3 (.un (.lp [2,3,8,9,10,11,44,45] [5,8,9,11701,11702,13601] ⟨[(12,.p 100100 []),(13,.f 92 (.cons (.p 100100 []) (.nil))),(46,.d .i)],[(100100,.var 71 (.d Jp))]⟩ [(.x 0,⟨[(12,.p 100400 [])],[(100400,.var 71 (.d Jp))]⟩)] (.t 1 (.two (.two (.nil) (.nil)) (.two (.jn [46] [] [(.n,⟨[(12,.p 100300 []),(13,.f 92 (.cons (.p 100300 []) (.nil)))],[(100300,.var 71 (.d Jp))]⟩)] (.un (.t 4 (.two (.two (.dr 20 (.n 5 (.sp 54 9 [12,13,15,46] [15,100100] ⟨[(63,.d .bool)],[]⟩ (.nl 8 (.n 1 .done)) (.nl 8 (.n 1 .done)) (.n 6 .done))) (.done)) (.two (.nil) (.nil))) (.t 2 (.un (.t 2 (.two (.reg (.n 4 (.call 3 (.n 2 (.call 4 (.done)))))) (.t 2 (.two (.gh (.tl .done) .nil) (.nil))))))))))) (.reg (.n 2 .done)))))))) (.t 6 (.t 5 (.t 3 (.t 2 (.nil)))))))))))
def Jfw:Shp:=⟨[(0,.d (.sl Yh)),(1,.d Q5),(2,.d .i),(3,.d .i)],[]⟩
def Q22:Shp:=⟨[(0,.d Q5)],[]⟩
def Jfx:An:=.t 2 (.t 5 (.t 2 (.nil)))
def Jfy:Shp:=⟨[(0,.d Qz)],[]⟩
def Q23:Shp:=⟨[(0,.d Qz)],[]⟩
def Qrk:An:=.t 2 (.t 5 (.t 2 (.nil)))
def Qrl:Shp:=⟨[(0,.d Qz)],[]⟩
def Qlb:Shp:=⟨[(0,.ag (.cons (.d .i) (.cons (.d .i) (.cons (.d .str) (.cons (.d .i) (.cons (.d .i) (.cons (.s 1) (.cons (.d Qp) (.cons (.d .i) (.cons (.d .i) (.cons (.d .i) (.cons (.d .bool) (.nil)))))))))))))],[(1,.row 9 .str)]⟩
def Jfz:An:=.t 2 (.t 11 (.nil))
def Jf0:Shp:=⟨[(0,.d Qz)],[]⟩
def Q24:Shp:=⟨[(0,.d J5)],[]⟩
def Jf1:An:=.t 1 (.two (.t 3 (.un (.lp [1,7,8,9] [] ⟨[],[]⟩ [(.r,⟨[(4,.d .i)],[]⟩)] (.t 1 (.two (.two (.nil) (.gh (.tl .done) .nil)) (.two (.un (.t 4 (.t 9 (.two (.t 3 (.nil)) (.gh (.tl .done) .nil))))) (.nil))))))) (.nil))
def Jf2:Shp:=⟨[(0,.d (.sl Yh)),(1,.d .i)],[]⟩
def Q25:Shp:=⟨[(0,.d .i)],[]⟩
def Q26:An:=.t 2 (.two (.t 4 (.un (.lp [1,7,8,9] [2] ⟨[],[]⟩ [(.r,⟨[(3,.d .bool)],[]⟩)] (.t 1 (.two (.two (.nil) (.gh (.tl .done) .nil)) (.two (.un (.t 3 (.t 3 (.two (.t 1 (.nil)) (.gh (.tl .done) .nil))))) (.nil))))))) (.nil))
def Q27:Shp:=⟨[(0,.d Jo),(1,.p 5000 [])],[(5000,.var 9 (.d .str))]⟩
def Qvo:Shp:=⟨[(0,.d .bool)],[]⟩
def Q28:An:=.t 1 (.t 1 (.two (.t 3 (.un (.lp [1,11,12] [] ⟨[(7,.s 100000),(13,.d .i)],[(100000,.row 101 Qp)]⟩ [(.x 0,⟨[(7,.s 100100)],[(100100,.row 101 Qp)]⟩)] (.t 1 (.two (.two (.nil) (.nil)) (.two (.un (.t 4 (.t 3 (.two (.dm 10 [19,20,21,22,23,24,25,26,27,28] [] (.n 3 (.so 21 (.tl .done) (.n 7 (.tl (.nl 1 (.n 1 .done))))))) (.two (.nil) (.reg (.n 5 .done))))))) (.reg (.n 2 .done)))))))) (.t 2 (.nil))))
def Q29:Shp:=⟨[(0,.d (.sl Qp)),(1,.f 210 (.nil)),(2,.f 211 (.nil))],[]⟩
def Qvp:Shp:=⟨[(0,.s 1)],[(1,.row 101 Qp)]⟩
def Q3a:An:=.t 1 (.t 1 (.two (.two (.reg (.n 2 (.call 0 (.n 2 .done)))) (.un (.lp [2,12,13] [11201] ⟨[(7,.s 100000),(14,.d .i)],[(100000,.row 101 Qp)]⟩ [(.x 0,⟨[(7,.s 100100)],[(100100,.row 101 Qp)]⟩)] (.t 1 (.two (.two (.nil) (.nil)) (.two (.un (.t 4 (.two (.reg (.n 2 (.call 1 (.done)))) (.t 6 (.gh (.tl .done) .nil))))) (.reg (.n 2 .done)))))))) (.two (.reg (.n 1 (.call 2 (.n 1 .done)))) (.nil))))
def Q3b:Shp:=⟨[(0,.d (.sl Yh)),(1,.d .i),(2,.f 185 (.cons (.p 5000 []) (.nil)))],[(5000,.var 9 (.d .str))]⟩
def Qvq:Shp:=⟨[(0,.s 1)],[(1,.row 101 Qp)]⟩
def Q3c:An:=.t 2 (.two (.reg (.n 3 (.call 0 (.n 1 .done)))) (.nil))
def Q3d:Shp:=⟨[(0,.d (.sl Yh)),(1,.d .i),(2,.d .str)],[]⟩
def Qvr:Shp:=⟨[(0,.d (.sl Qp))],[]⟩
def Jf3:An:=.t 1 (.t 2 (.two (.reg (.br (.n 1 .done))) (.t 1 (.two (.t 3 (.un (.lp [0,1,15,16] [] ⟨[(5,.m 100000),(6,.m 100001),(7,.s 100002),(17,.d .i)],[(100000,.map .i .bool),(100001,.mapO .str),(100002,.row 209 V8)]⟩ [(.x 0,⟨[(7,.s 100700)],[(100700,.row 209 V8)]⟩)] (.t 1 (.two (.two (.nil) (.nil)) (.two (.jn [17] [] [(.n,⟨[(5,.m 100600),(6,.m 100601),(7,.s 100602)],[(100600,.map .i .bool),(100601,.mapO .str),(100602,.row 209 V8)]⟩)] (.un (.t 4 (.two (.jn [6,7,9,17] [9,100001,100002] [(.n,⟨[(5,.m 100100)],[(100100,.map .i .bool)]⟩)] (.t 9 (.t 4 (.nil)))) (.two (.two (.reg (.n 11 (.sp 43 8 [5,6,7,9,17] [9,100001,100002,100100] ⟨[(51,.d .bool)],[]⟩ (.nl 7 (.n 1 .done)) (.nl 3 (.br (.nl 2 (.br (.n 1 .done))))) (.done)))) (.two (.nil) (.nil))) (.two (.two (.reg (.n 3 (.br (.n 1 .done)))) (.two (.reg (.n 4 (.br (.done)))) (.nil))) (.two (.reg (.n 3 (.br (.n 3 .done)))) (.two (.dm 13 [67,68,69,70,71,72,73,74,75,76,77,78,10] [] (.n 10 (.call 0 (.n 2 (.tl (.n 1 .done)))))) (.t 1 (.two (.un (.lp [5,6,7,10,11,17] [9,10,60,100001,100002,100100] ⟨[],[]⟩ [(.x 2,⟨[],[]⟩)] (.two (.two (.jn [] [] [(.n,⟨[(90,.d .bool)],[]⟩)] (.dm 10 [79,80,81,82,83,84,85,86,87,88] [] (.n 5 (.so 83 (.tl .done) (.n 5 (.tl (.nl 1 (.n 1 .done)))))))) (.two (.gh (.tl .done) .nil) (.nil))) (.nil)))) (.two (.reg (.n 2 (.fz 100002 (.n 3 .done)))) (.t 5 (.reg (.n 6 .done)))))))))))))) (.reg (.n 2 .done)))))))) (.t 2 (.nil))))))
def Jf4:Shp:=⟨[(0,.d (.sl Yh)),(1,.d .i)],[]⟩
def Q3e:Shp:=⟨[(0,.s 1)],[(1,.row 209 V8)]⟩
def Q3f:An:=.t 4 (.t 13 (.two (.two (.reg (.n 1 (.call 0 (.n 2 (.sp 21 4 [3,4,6] [2,3,4,6] ⟨[(25,.d .bool)],[]⟩ (.nl 3 (.n 1 .done)) (.nl 1 (.call 0 (.nl 1 (.n 1 .done)))) (.n 7 .done)))))) (.two (.gh (.tl .done) .nil) (.nil))) (.t 3 (.nil))))
def Q3g:Shp:=⟨[(0,.d Qp),(1,.d Qp)],[]⟩
def Qvs:Shp:=⟨[(0,.d Qp),(1,.d .bool)],[]⟩
def Q3h:An:=.t 1 (.t 3 (.t 3 (.two (.jn [] [] [(.n,⟨[(4,.d .i)],[]⟩)] (.t 2 (.t 15 (.nil)))) (.t 2 (.nil)))))
def Q3i:Shp:=⟨[(0,.d .i)],[]⟩
def Qvt:Shp:=⟨[(0,.d .i)],[]⟩
def Q3j:An:=.t 1 (.t 14 (.nil))
def Q3k:Shp:=⟨[(0,.d .i)],[]⟩
def Qvu:Shp:=⟨[(0,.d .bool)],[]⟩
def Q3l:An:=.t 1 (.t 3 (.two (.two (.reg (.n 3 (.sp 9 3 [0,1,5] [5] ⟨[(12,.d .bool)],[]⟩ (.nl 1 (.call 0 (.n 1 .done))) (.nl 2 (.n 1 .done)) (.done)))) (.two (.t 1 (.nil)) (.nil))) (.t 5 (.nil))))
def Q3m:Shp:=⟨[(0,.d .i),(1,.d .i)],[]⟩
def Qvv:Shp:=⟨[(0,.d .i)],[]⟩
def Q3n:An:=.t 1 (.two (.t 6 (.two (.gh (.tl .done) .nil) (.nil))) (.t 6 (.two (.un (.lp [0,2,3] [2,3] ⟨[],[]⟩ [(.x 0,⟨[],[]⟩)] (.two (.two (.reg (.n 3 (.call 0 (.n 2 .done)))) (.two (.gh (.tl .done) .nil) (.nil))) (.nil)))) (.two (.reg (.n 3 (.call 0 (.n 2 .done)))) (.two (.un (.lp [0,2,3] [2,3] ⟨[],[]⟩ [(.x 2,⟨[],[]⟩)] (.two (.two (.reg (.n 5 (.call 1 (.n 1 .done)))) (.two (.gh (.tl .done) .nil) (.nil))) (.nil)))) (.t 4 (.t 2 (.nil))))))))
def Q3o:Shp:=⟨[(0,.d .i)],[]⟩
def Qvw:Shp:=⟨[(0,.d Pf)],[]⟩
def Q3p:An:=.t 1 (.two (.reg (.n 2 (.call 0 (.n 2 .done)))) (.t 9 (.two (.t 4 (.two (.gh (.tl .done) .nil) (.nil))) (.t 2 (.nil)))))
def Q3q:Shp:=⟨[(0,.d .i),(1,.d .i)],[]⟩
def Qvx:Shp:=⟨[(0,.d .i)],[]⟩
def Q3r:An:=.t 1 (.two (.t 14 (.two (.gh (.tl .done) .nil) (.nil))) (.two (.reg (.n 2 (.call 0 (.n 1 .done)))) (.nil)))
def Q3s:Shp:=⟨[(0,.d .i),(1,.d .i)],[]⟩
def Qvy:Shp:=⟨[(0,.d .i)],[]⟩
def Q3t:An:=.t 3 (.two (.two (.jn [1] [1] [(.n,⟨[(18,.d .bool)],[]⟩)] (.dm 11 [6,7,8,9,10,11,12,13,14,15,16] [] (.n 4 (.so 9 (.n 7 (.tl (.nl 1 (.n 1 .done)))) (.n 6 (.call 0 (.tl (.nl 1 (.n 1 .done))))))))) (.two (.gh (.tl .done) .nil) (.nil))) (.two (.dm 5 [19,20,21,22,23] [] (.n 2 (.call 1 (.n 2 (.tl (.n 3 .done)))))) (.two (.t 1 (.un (.lp [1] [1] ⟨[(4,.d .i),(5,.d .i)],[]⟩ [(.x 0,⟨[(4,.d .i)],[]⟩)] (.two (.t 4 (.two (.nil) (.nil))) (.two (.un (.reg (.n 4 (.call 2 (.n 2 .done))))) (.reg (.n 3 .done))))))) (.t 3 (.nil)))))
def Q3u:Shp:=⟨[(0,.d Pf)],[]⟩
def Qvz:Shp:=⟨[(0,.d .i),(1,.d .i)],[]⟩
def Q3v:An:=.t 1 (.two (.reg (.n 8 (.call 0 (.n 5 .done)))) (.two (.t 2 (.two (.gh (.tl .done) .nil) (.nil))) (.t 3 (.nil))))
def Q3w:Shp:=⟨[(0,.d .i),(1,.d .i)],[]⟩
def Qv0:Shp:=⟨[(0,.d .i)],[]⟩
def Q3x:An:=.t 1 (.two (.reg (.n 3 (.call 0 (.n 3 .done)))) (.two (.t 2 (.two (.reg (.n 2 (.call 0 (.n 2 .done)))) (.gh (.tl .done) .nil))) (.t 2 (.nil))))
def Q3y:Shp:=⟨[(0,.d .i),(1,.d .i)],[]⟩
def Qv1:Shp:=⟨[(0,.d Qp)],[]⟩
def Q3z:An:=.t 2 (.two (.t 23 (.two (.gh (.tl .done) .nil) (.nil))) (.t 1 (.two (.two (.reg (.n 3 (.call 0 (.n 1 .done)))) (.un (.lp [0,3] [3] ⟨[(5,.s 100000),(6,.d .i)],[(100000,.row 101 Qp)]⟩ [(.x 0,⟨[(5,.s 100100)],[(100100,.row 101 Qp)]⟩)] (.two (.two (.reg (.n 5 (.call 0 (.n 1 .done)))) (.two (.nil) (.nil))) (.two (.un (.reg (.n 3 (.call 1 (.n 3 .done))))) (.reg (.n 3 .done))))))) (.t 2 (.nil)))))
def Q30:Shp:=⟨[(0,.d .i),(1,.d Qp)],[]⟩
def Qv2:Shp:=⟨[(0,.d (.sl Qp))],[]⟩
def Qlc:An:=.t 2 (.two (.t 23 (.two (.gh (.tl .done) .nil) (.nil))) (.t 1 (.two (.two (.reg (.n 3 (.call 0 (.n 1 .done)))) (.un (.lp [0,3] [3] ⟨[(5,.s 100000),(6,.d .i)],[(100000,.row 101 Qp)]⟩ [(.x 0,⟨[(5,.s 100100)],[(100100,.row 101 Qp)]⟩)] (.two (.two (.reg (.n 5 (.call 0 (.n 1 .done)))) (.two (.nil) (.nil))) (.two (.un (.reg (.n 3 (.call 1 (.n 3 .done))))) (.reg (.n 3 .done))))))) (.t 2 (.nil)))))
def Qld:Shp:=⟨[(0,.d .i),(1,.d Qp)],[]⟩
def Qhl:Shp:=⟨[(0,.s 1)],[(1,.row 101 Qp)]⟩
def Qle:An:=.t 1 (.two (.reg (.n 4 (.call 0 (.n 6 .done)))) (.t 1 (.two (.dm 4 [16,17,18,19] [] (.n 3 (.call 1 (.tl (.n 2 .done))))) (.gh (.tl .done) .nil))))
def Qlf:Shp:=⟨[(0,.d Qp),(1,.p 5000 []),(2,.p 5001 []),(3,.p 5003 [])],[(5000,.var 3 (.d .i)),(5001,.var 206 (.s 5002)),(5002,.row 101 Qp),(5003,.var 3 (.d .i))]⟩
def Qhm:Shp:=⟨[],[(5001,.var 206 (.s 1)),(1,.row 101 Qp)]⟩
def Q31:An:=.t 3 (.un (.lp [1,7,8] [] ⟨[(2,.p 5000 []),(9,.d .i)],[(5000,.var 342 (.s 100001)),(100001,.row 344 J6)]⟩ [(.x 0,⟨[],[(5000,.var 342 (.s 100101)),(100101,.row 344 J6)]⟩)] (.t 1 (.two (.two (.nil) (.nil)) (.two (.un (.t 4 (.two (.reg (.n 1 (.call 0 (.done)))) (.t 12 (.gh (.tl .done) .nil))))) (.reg (.n 2 .done)))))))
def Q32:Shp:=⟨[(0,.d (.sl Qp)),(1,.d .i),(2,.p 5000 [])],[(5000,.var 342 (.s 5001)),(5001,.row 344 J6)]⟩
def Qv3:Shp:=⟨[],[(5000,.var 342 (.s 1)),(1,.row 344 J6)]⟩
def Qlg:An:=.t 3 (.un (.lp [1,7,8] [] ⟨[(2,.p 5000 []),(9,.d .i)],[(5000,.var 342 (.s 100001)),(100001,.row 344 J6)]⟩ [(.x 0,⟨[],[(5000,.var 342 (.s 100101)),(100101,.row 344 J6)]⟩)] (.t 1 (.two (.two (.nil) (.nil)) (.two (.un (.t 4 (.two (.reg (.n 1 (.call 0 (.done)))) (.t 12 (.gh (.tl .done) .nil))))) (.reg (.n 2 .done)))))))
def Qlh:Shp:=⟨[(0,.d (.sl Qp)),(1,.d .i),(2,.p 5000 [])],[(5000,.var 342 (.s 5001)),(5001,.row 344 J6)]⟩
def Qhn:Shp:=⟨[],[(5000,.var 342 (.s 1)),(1,.row 344 J6)]⟩
def Q33:An:=.t 1 (.two (.t 2 (.two (.gh (.tl .done) .nil) (.nil))) (.two (.t 2 (.two (.gh (.tl .done) .nil) (.nil))) (.two (.t 2 (.two (.gh (.tl .done) .nil) (.nil))) (.t 7 (.nil)))))
def Q34:Shp:=⟨[(0,.d (.int .u64))],[]⟩
def Qv4:Shp:=⟨[(0,.d .i)],[]⟩
def Q35:An:=.t 1 (.two (.two (.nil) (.nil)) (.two (.reg (.n 1 (.call 0 (.n 1 .done)))) (.nil)))
def Q36:Shp:=⟨[(0,.d (.int .u64))],[]⟩
def Qv5:Shp:=⟨[(0,.d .i)],[]⟩
def Q37:An:=.t 3 (.t 6 (.nil))
def Q38:Shp:=⟨[(0,.d J6),(1,.d J6)],[]⟩
def Qv6:Shp:=⟨[(0,.d .i)],[]⟩
def Q39:An:=.t 3 (.un (.lp [0,1,2,3] [] ⟨[(8,.d .i)],[]⟩ [(.x 0,⟨[],[]⟩)] (.two (.t 3 (.two (.nil) (.nil))) (.two (.un (.t 2 (.un (.lp [8,9] [] ⟨[],[]⟩ [(.x 2,⟨[],[]⟩)] (.two (.two (.dm 14 [18,19,20,21,22,23,24,25,26,27,28,29,30,31] [] (.n 4 (.so 21 (.n 10 (.tl (.call 0 (.nl 1 (.n 1 .done))))) (.n 10 (.tl (.nl 2 (.n 1 .done))))))) (.two (.nil) (.nil))) (.nil)))))) (.reg (.n 3 .done))))))
def Q4a:Shp:=⟨[(0,.d (.sl J6)),(1,.d .i),(2,.d .i),(3,.f 214 (.nil))],[]⟩
def Qv7:Shp:=⟨[],[]⟩
def Q4b:An:=.t 1 (.t 1 (.un (.lp [0,1,2,4] [] ⟨[],[]⟩ [(.r,⟨[],[]⟩)] (.un (.t 4 (.two (.t 2 (.two (.two (.reg (.n 4 (.call 0 (.done)))) (.nil)) (.gh (.tl .done) .nil))) (.nil)))))))
def Q4c:Shp:=⟨[(0,.d (.sl J6)),(1,.d .i),(2,.d .i),(3,.d .i),(4,.f 214 (.nil))],[]⟩
def Qv8:Shp:=⟨[],[]⟩
def Q4d:An:=.t 3 (.reg (.n 4 (.call 0 (.n 1 (.call 1 (.done))))))
def Q4e:Shp:=⟨[(0,.d (.sl J6)),(1,.f 214 (.nil))],[]⟩
def Qv9:Shp:=⟨[],[]⟩
def Q4f:An:=.t 1 (.t 2 (.nil))
def Q4g:Shp:=⟨[(0,.d .bool),(1,.d .bool)],[]⟩
def Qwa:Shp:=⟨[(0,.d .bool)],[]⟩
def Q4h:An:=.t 1 (.t 1 (.t 2 (.two (.reg (.n 2 (.call 0 (.done)))) (.two (.reg (.n 2 (.call 1 (.done)))) (.two (.reg (.n 1 (.call 2 (.done)))) (.t 1 (.t 1 (.t 1 (.two (.t 3 (.un (.lp [2,7,24,25] [7,12101] ⟨[(9,.s 100000),(10,.p 100001 []),(11,.d .bool),(26,.d .i)],[(100000,.row 101 Qp),(100001,.var 235 (.d (.arr 2 .i)))]⟩ [(.x 0,⟨[(9,.s 100300)],[(100300,.row 101 Qp)]⟩)] (.t 1 (.two (.two (.nil) (.nil)) (.two (.un (.t 6 (.two (.dr 8 (.n 8 .done) (.n 1 .done)) (.two (.two (.dr 16 (.n 6 (.sp 44 10 [9,10,11,12,13,26] [13,100000,100001] ⟨[(54,.d .bool)],[]⟩ (.nl 9 (.n 1 .done)) (.nl 9 (.n 1 .done)) (.done))) (.done)) (.two (.gh (.tl .done) .nil) (.nil))) (.two (.reg (.n 7 (.call 3 (.n 1 .done)))) (.two (.jn [10,14,26] [13,100001] [(.n,⟨[(9,.s 100200)],[(100200,.row 101 Qp)]⟩)] (.un (.t 6 (.t 7 (.t 6 (.t 9 (.gh (.tl .done) .nil))))))) (.reg (.n 2 .done)))))))) (.reg (.n 2 .done)))))))) (.t 2 (.nil)))))))))))
def Q4i:Shp:=⟨[(0,.d (.sl Qp)),(1,.d (.sl Qp)),(2,.f 187 (.nil))],[]⟩
def Qwb:Shp:=⟨[(0,.s 1)],[(1,.row 101 Qp)]⟩
def Q4j:An:=.t 1 (.two (.reg (.n 1 (.call 0 (.n 1 .done)))) (.nil))
def Q4k:Shp:=⟨[(0,.d (.sl Qp))],[]⟩
def Qwc:Shp:=⟨[(0,.s 1)],[(1,.row 101 Qp)]⟩
def Jf5:An:=.t 3 (.t 1 (.t 2 (.two (.t 3 (.un (.lp [17,18] [] ⟨[(4,.p 100000 []),(7,.p 100001 []),(8,.f 149 (.cons (.p 100002 []) (.cons (.p 100001 []) (.cons (.p 100000 []) (.nil))))),(19,.d .i)],[(100000,.var 3 (.d .i)),(100001,.var 206 (.s 100003)),(100002,.var 3 (.d .i)),(100003,.row 101 Qp)]⟩ [(.x 0,⟨[(4,.p 100300 []),(7,.p 100301 [])],[(100300,.var 3 (.d .i)),(100301,.var 206 (.s 100302)),(100302,.row 101 Qp)]⟩)] (.t 1 (.two (.two (.nil) (.nil)) (.two (.un (.t 4 (.t 4 (.un (.lp [19,24,25] [10] ⟨[(4,.p 100100 []),(7,.p 100101 []),(8,.f 149 (.cons (.p 100102 []) (.cons (.p 100101 []) (.cons (.p 100100 []) (.nil))))),(26,.d .i)],[(100100,.var 3 (.d .i)),(100101,.var 206 (.s 100103)),(100102,.var 3 (.d .i)),(100103,.row 101 Qp)]⟩ [(.x 2,⟨[(4,.p 100200 []),(7,.p 100201 []),(8,.f 149 (.cons (.p 100202 []) (.cons (.p 100201 []) (.cons (.p 100200 []) (.nil)))))],[(100200,.var 3 (.d .i)),(100201,.var 206 (.s 100203)),(100202,.var 3 (.d .i)),(100203,.row 101 Qp)]⟩)] (.t 1 (.two (.two (.nil) (.nil)) (.two (.un (.t 4 (.reg (.n 2 (.call 0 (.done)))))) (.reg (.n 2 .done)))))))))) (.reg (.n 2 .done)))))))) (.t 1 (.two (.two (.reg (.n 1 (.call 1 (.n 2 .done)))) (.un (.lp [4,36,37] [13601,100300,100301,100302] ⟨[(13,.s 100400),(38,.d .i)],[(100400,.row 101 Qp)]⟩ [(.x 4,⟨[(13,.s 100500)],[(100500,.row 101 Qp)]⟩)] (.t 1 (.two (.two (.nil) (.nil)) (.two (.un (.t 4 (.reg (.n 3 (.call 2 (.n 2 .done)))))) (.reg (.n 2 .done)))))))) (.t 2 (.nil)))))))
def Jf6:Shp:=⟨[(0,.d (.sl V8)),(1,.d .i),(2,.d .i)],[]⟩
def Q4l:Shp:=⟨[(0,.s 1)],[(1,.row 101 Qp)]⟩
def Q4m:An:=.t 2 (.t 11 (.nil))
def Q4n:Shp:=⟨[(0,.d Vs),(1,.p 5000 []),(2,.p 5001 [])],[(5000,.var 9 (.d .str)),(5001,.var 3 (.d .i))]⟩
def Qwd:Shp:=⟨[(0,.d .bool)],[]⟩
def Q4o:An:=.t 1 (.t 1 (.two (.t 3 (.un (.lp [1,8,9] [] ⟨[(5,.s 100000),(10,.d .i)],[(100000,.row 131 Vs)]⟩ [(.x 0,⟨[(5,.s 100100)],[(100100,.row 131 Vs)]⟩)] (.t 1 (.two (.two (.nil) (.nil)) (.two (.un (.t 4 (.two (.reg (.n 2 (.call 0 (.done)))) (.t 5 (.gh (.tl .done) .nil))))) (.reg (.n 2 .done)))))))) (.t 2 (.nil))))
def Q4p:Shp:=⟨[(0,.d (.sl Vs)),(1,.f 189 (.cons (.p 5000 []) (.cons (.p 5001 []) (.nil))))],[(5000,.var 9 (.d .str)),(5001,.var 3 (.d .i))]⟩
def Qwe:Shp:=⟨[(0,.s 1)],[(1,.row 131 Vs)]⟩
def Q4q:An:=.t 2 (.t 1 (.two (.t 4 (.un (.lp [1,2,7,8] [1,2] ⟨[(3,.s 100000),(9,.d .i)],[(100000,.row 128 Xc)]⟩ [(.x 0,⟨[(3,.s 100100)],[(100100,.row 128 Xc)]⟩)] (.t 1 (.two (.two (.nil) (.nil)) (.two (.un (.t 4 (.t 5 (.reg (.n 2 (.fz 15 (.n 3 .done))))))) (.reg (.n 2 .done)))))))) (.t 3 (.t 2 (.nil)))))
def Q4r:Shp:=⟨[(0,.d Vs)],[]⟩
def Qwf:Shp:=⟨[(0,.ag (.cons (.d .str) (.cons (.d .i) (.cons (.d .i) (.cons (.d .str) (.cons (.d .bool) (.cons (.s 1) (.nil))))))))],[(1,.row 128 Xc)]⟩
def Q4s:An:=.t 4 (.two (.reg (.n 2 (.call 0 (.n 1 .done)))) (.two (.t 3 (.two (.gh (.tl .done) .nil) (.nil))) (.two (.reg (.n 6 (.call 1 (.n 2 .done)))) (.nil))))
def Q4t:Shp:=⟨[(0,.d (.sl Vs)),(1,.d .str),(2,.d .i)],[]⟩
def Qwg:Shp:=⟨[(0,.ag (.cons (.d .str) (.cons (.d .i) (.cons (.d .i) (.cons (.d .str) (.cons (.d .bool) (.cons (.s 1) (.nil)))))))),(1,.d .bool)],[(1,.row 128 Xc)]⟩
def Q4u:An:=.t 3 (.two (.t 4 (.un (.lp [1,3,5,18,19,20] [3,5] ⟨[],[]⟩ [(.r,⟨[(6,.s 100300)],[(100300,.row 213 Up)]⟩)] (.t 1 (.two (.two (.nil) (.gh (.tl .done) .nil)) (.two (.un (.t 4 (.two (.reg (.n 2 (.call 0 (.n 6 .done)))) (.two (.t 2 (.two (.gh (.tl .done) .nil) (.nil))) (.two (.reg (.n 5 (.call 1 (.n 6 .done)))) (.t 1 (.two (.t 4 (.un (.lp [9,42,43] [8,9,11,13801] ⟨[(13,.s 100100),(44,.d .i)],[(100100,.row 213 Up)]⟩ [(.x 2,⟨[(13,.s 100200)],[(100200,.row 213 Up)]⟩)] (.t 1 (.two (.two (.nil) (.nil)) (.two (.un (.t 6 (.t 23 (.reg (.n 8 .done))))) (.reg (.n 2 .done)))))))) (.t 2 (.nil))))))))) (.nil))))))) (.nil))
def Q4v:Shp:=⟨[(0,.d V8),(1,.d (.sl Vs)),(2,.d Qp)],[]⟩
def Qwh:Shp:=⟨[(0,.s 1)],[(1,.row 213 Up)]⟩
def Qli:An:=.t 1 (.two (.two (.dm 7 [9,10,11,12,13,14,15] [] (.n 6 (.call 0 (.tl (.n 1 .done))))) (.two (.nil) (.nil))) (.two (.reg (.n 2 (.call 1 (.n 2 .done)))) (.two (.t 6 (.un (.lp [0,4,24,25] [3,4,5000,5001,11901] ⟨[],[]⟩ [(.x 0,⟨[],[]⟩)] (.t 1 (.two (.two (.gh (.tl .done) .nil) (.nil)) (.nil)))))) (.t 1 (.two (.un (.lp [0,4,7] [3,4,5000,5001,11901] ⟨[],[]⟩ [(.x 2,⟨[],[]⟩)] (.two (.two (.jn [] [] [(.n,⟨[(55,.d .bool)],[]⟩)] (.dm 16 [38,39,40,41,42,43,44,45,46,47,48,49,50,51,52,53] [] (.n 8 (.so 45 (.tl .done) (.n 8 (.tl (.nl 1 (.n 1 .done)))))))) (.two (.gh (.tl .done) .nil) (.nil))) (.nil)))) (.t 8 (.two (.reg (.n 2 (.fz 11901 (.n 3 .done)))) (.t 12 (.dm 6 [80,81,82,83,84,85] [] (.n 5 (.call 0 (.tl (.n 1 .done)))))))))))))
def Qlj:Shp:=⟨[(0,.p 5000 []),(1,.d Up)],[(5000,.var 198 (.ag (.cons (.d (.sl Qz)) (.cons (.m 5001) (.nil))))),(5001,.map J5 .bool)]⟩
def Qho:Shp:=⟨[],[(5000,.var 198 (.ag (.cons (.d (.sl Qz)) (.cons (.m 5001) (.nil))))),(5001,.map J5 .bool)]⟩
def Jf7:An:=.t 2 (.t 4 (.two (.t 4 (.un (.lp [0,1,3,4,7,10,27,28] [7,10] ⟨[(11,.p 100000 []),(29,.d .i)],[(100000,.var 198 (.ag (.cons (.s 100001) (.cons (.m 100002) (.nil))))),(100001,.tail 142 Qz),(100002,.map J5 .bool)]⟩ [(.x 0,⟨[(11,.p 100100 [])],[(100100,.var 198 (.ag (.cons (.s 100101) (.cons (.m 100102) (.nil))))),(100101,.tail 142 Qz),(100102,.map J5 .bool)]⟩)] (.t 1 (.two (.two (.nil) (.nil)) (.two (.un (.t 4 (.two (.dm 9 [33,34,35,36,37,38,39,40,41] [100001] (.n 6 (.call 0 (.n 2 (.tl (.n 3 .done)))))) (.dm 6 [44,45,46,47,48,49] [] (.n 5 (.call 1 (.tl (.n 1 .done)))))))) (.reg (.n 2 .done)))))))) (.two (.dm 8 [51,52,53,54,55,56,57,14] [] (.n 8 (.tl (.n 1 .done)))) (.two (.reg (.n 2 (.call 2 (.n 1 .done)))) (.two (.t 10 (.two (.two (.reg (.n 2 (.call 3 (.n 1 .done)))) (.two (.reg (.n 3 (.call 4 (.n 2 .done)))) (.un (.lp [1,4,10,14,16,77,78] [7,10,14,53,56,17301,17701] ⟨[(11,.p 100200 []),(79,.d .i)],[(100200,.var 198 (.ag (.cons (.d (.sl Qz)) (.cons (.m 100201) (.nil))))),(100201,.map J5 .bool)]⟩ [(.x 2,⟨[(11,.p 100700 [])],[(100700,.var 198 (.ag (.cons (.d (.sl Qz)) (.cons (.m 100701) (.nil))))),(100701,.map J5 .bool)]⟩)] (.t 1 (.two (.two (.nil) (.nil)) (.two (.un (.t 4 (.t 3 (.un (.lp [18,79,83,84] [18] ⟨[(11,.p 100300 []),(85,.d .i)],[(100300,.var 198 (.ag (.cons (.d (.sl Qz)) (.cons (.m 100301) (.nil))))),(100301,.map J5 .bool)]⟩ [(.x 4,⟨[(11,.p 100600 [])],[(100600,.var 198 (.ag (.cons (.d (.sl Qz)) (.cons (.m 100601) (.nil))))),(100601,.map J5 .bool)]⟩)] (.t 1 (.two (.two (.nil) (.nil)) (.two (.un (.t 4 (.two (.reg (.n 3 (.call 5 (.n 2 .done)))) (.un (.lp [85,92,93] [20,19201] ⟨[(11,.p 100400 []),(94,.d .i)],[(100400,.var 198 (.ag (.cons (.d (.sl Qz)) (.cons (.m 100401) (.nil))))),(100401,.map J5 .bool)]⟩ [(.x 6,⟨[(11,.p 100500 [])],[(100500,.var 198 (.ag (.cons (.d (.sl Qz)) (.cons (.m 100501) (.nil))))),(100501,.map J5 .bool)]⟩)] (.t 1 (.two (.two (.nil) (.nil)) (.two (.un (.t 4 (.t 6 (.two (.reg (.n 2 (.call 6 (.done)))) (.gh (.tl .done) .nil))))) (.reg (.n 2 .done)))))))))) (.reg (.n 2 .done)))))))))) (.reg (.n 2 .done))))))))) (.gh (.tl .done) .nil))) (.t 6 (.t 2 (.nil))))))))
def Jf8:Shp:=⟨[(0,.d (.sl Yh)),(1,.d (.sl Vs)),(2,.d Q5),(3,.d .i),(4,.d .i)],[]⟩
def Q4w:Shp:=⟨[(0,.ag (.cons (.d (.sl Qz)) (.cons (.s 1) (.cons (.s 2) (.nil)))))],[(1,.row 71 Jp),(2,.row 73 Je)]⟩
def Q4x:An:=.t 2 (.t 5 (.t 2 (.nil)))
def Q4y:Shp:=⟨[(0,.d Qz)],[]⟩
def Qwi:Shp:=⟨[(0,.ag (.cons (.d .i) (.cons (.d .i) (.cons (.d .str) (.cons (.d .i) (.cons (.d .i) (.cons (.s 1) (.cons (.d Qp) (.cons (.d .i) (.cons (.d .i) (.cons (.d .i) (.cons (.d .bool) (.nil)))))))))))))],[(1,.row 9 .str)]⟩
def Q4z:An:=.t 1 (.t 1 (.two (.t 3 (.un (.lp [6,7] [] ⟨[(3,.s 100000),(8,.d .i)],[(100000,.row 142 Qz)]⟩ [(.x 0,⟨[(3,.s 100100)],[(100100,.row 142 Qz)]⟩)] (.t 1 (.two (.two (.nil) (.nil)) (.two (.un (.t 4 (.reg (.n 2 (.call 0 (.fz 11401 (.n 3 .done))))))) (.reg (.n 2 .done)))))))) (.t 2 (.nil))))
def Q40:Shp:=⟨[(0,.d (.sl Qz))],[]⟩
def Qwj:Shp:=⟨[(0,.s 1)],[(1,.row 142 Qz)]⟩
def Q41:An:=.t 1 (.two (.t 4 (.two (.t 1 (.two (.t 2 (.un (.lp [2] [] ⟨[(7,.s 100000),(8,.d .i)],[(100000,.row 3 .i)]⟩ [(.x 0,⟨[(7,.s 100100)],[(100100,.row 3 .i)]⟩)] (.two (.t 3 (.two (.nil) (.nil))) (.two (.un (.reg (.n 5 .done))) (.reg (.n 3 .done))))))) (.t 2 (.nil)))) (.gh (.tl .done) .nil))) (.nil))
def Q42:Shp:=⟨[(0,.d (.sl Qz)),(1,.d .i),(2,.d .i)],[]⟩
def Qwk:Shp:=⟨[(0,.s 1)],[(1,.row 3 .i)]⟩
def Q43:An:=.t 2 (.two (.two (.reg (.n 10 (.sp 26 6 [1,2,5,6,7] [7] ⟨[(32,.d .bool)],[]⟩ (.nl 5 (.n 1 .done)) (.nl 3 (.call 0 (.nl 1 (.n 1 .done)))) (.done)))) (.two (.gh (.tl .done) .nil) (.nil))) (.two (.t 19 (.two (.gh (.tl .done) .nil) (.nil))) (.two (.t 4 (.un (.lp [7,54,55] [7] ⟨[],[]⟩ [(.x 0,⟨[],[]⟩)] (.t 1 (.two (.two (.gh (.tl .done) .nil) (.nil)) (.nil)))))) (.t 5 (.nil)))))
def Q44:Shp:=⟨[(0,.d Qz),(1,.d .i),(2,.d .i),(3,.d .i),(4,.d .str),(5,.d .bool),(6,.d .i)],[]⟩
def Qwl:Shp:=⟨[(0,.d .bool)],[]⟩
def Q45:An:=.t 2 (.t 11 (.nil))
def Q46:Shp:=⟨[(0,.d Qz)],[]⟩
def Qwm:Shp:=⟨[(0,.d Ar)],[]⟩
def Q47:An:=.t 3 (.two (.reg (.n 1 (.call 0 (.n 1 .done)))) (.t 1 (.t 3 (.two (.two (.reg (.n 3 (.call 1 (.n 2 .done)))) (.un (.lp [0,1,2,3,4,5,6,32,33] [13201] ⟨[(7,.d .i),(19,.s 100000),(20,.s 100001),(34,.d .i)],[(100000,.row 142 Qz),(100001,.row 33 Jy)]⟩ [(.x 0,⟨[(7,.d .i),(19,.s 100100),(20,.s 100101)],[(100100,.row 142 Qz),(100101,.row 33 Jy)]⟩)] (.t 1 (.two (.two (.nil) (.nil)) (.two (.un (.t 3 (.two (.t 2 (.two (.gh (.tl .done) .nil) (.nil))) (.two (.two (.reg (.n 10 (.call 2 (.n 1 .done)))) (.two (.gh (.tl .done) .nil) (.nil))) (.t 8 (.t 10 (.t 4 (.two (.reg (.n 4 (.call 3 (.n 2 .done)))) (.reg (.n 14 .done)))))))))) (.reg (.n 2 .done)))))))) (.t 6 (.nil))))))
def Q48:Shp:=⟨[(0,.d (.sl Qz)),(1,.d .i),(2,.d .i),(3,.d .i),(4,.d .str),(5,.d .bool),(6,.d .i),(7,.d .i)],[]⟩
def Qwn:Shp:=⟨[(0,.s 1),(1,.s 2),(2,.d .i)],[(1,.row 142 Qz),(2,.row 33 Jy)]⟩
def Jf9:An:=.t 5 (.two (.reg (.n 1 (.call 0 (.n 2 .done)))) (.two (.reg (.n 14 (.call 1 (.n 7 .done)))) (.t 3 (.t 6 (.nil)))))
def Jga:Shp:=⟨[(0,.d Q5),(1,.d Qk),(2,.d .str),(3,.d .bool)],[]⟩
def Q49:Shp:=⟨[(0,.d Q5),(1,.d (.sl Jy)),(2,.d .i)],[]⟩
def Jgb:An:=.two (.dm 21 [5,6,7,8,9,10,11,12,13,14,15,16,17,18,19,20,21,22,23,24,2] [] (.n 19 (.call 0 (.n 1 (.tl (.n 1 .done)))))) (.two (.dr 21 (.n 21 .done) (.call 1 (.n 1 .done))) (.two (.gh (.fz 14602 (.fz 14601 (.done))) (.dm 22 [48,49,50,51,52,53,54,55,56,57,58,59,60,61,62,63,47,64,65,66,1000000020,3] [2] (.n 15 (.call 2 (.n 6 (.tl (.n 1 .done))))))) (.t 5 (.t 6 (.reg (.n 11 .done))))))
def Jgc:Shp:=⟨[(0,.p 5000 [])],[(5000,.var 114 (.ag (.cons (.d Jt) (.cons (.d Q5) (.cons (.d Qk) (.cons (.d Jo) (.cons (.d Qy) (.cons (.d Jq) (.cons (.d .i) (.cons (.ag (.cons (.d Qk) (.cons (.d .i) (.cons (.d .str) (.cons (.d .i) (.cons (.d .str) (.cons (.s 5001) (.cons (.s 5002) (.cons (.d .i) (.cons (.d .i) (.cons (.d .i) (.cons (.s 5003) (.cons (.d .i) (.cons (.d .i) (.nil))))))))))))))) (.nil))))))))))),(5001,.row 33 Jy),(5002,.row 35 Q8),(5003,.row 76 Ju)]⟩
def Q5a:Shp:=⟨[],[(5000,.var 114 (.ag (.cons (.d Jt) (.cons (.d Q5) (.cons (.d Qk) (.cons (.d Jo) (.cons (.d Qy) (.cons (.d Jq) (.cons (.d .i) (.cons (.ag (.cons (.d Qk) (.cons (.d .i) (.cons (.d .str) (.cons (.d .i) (.cons (.d .str) (.cons (.d (.sl Jy)) (.cons (.s 1) (.cons (.d .i) (.cons (.d .i) (.cons (.d .i) (.cons (.s 2) (.cons (.d .i) (.cons (.d .i) (.nil))))))))))))))) (.nil))))))))))),(1,.row 35 Q8),(2,.row 76 Ju)]⟩
def Q5b:An:=.t 2 (.two (.t 23 (.two (.t 1 (.nil)) (.nil))) (.t 17 (.nil)))
def Q5c:Shp:=⟨[(0,.d Qk),(1,.d .i)],[]⟩
def Qwo:Shp:=⟨[(0,.d .bool)],[]⟩
def Q5d:An:=.t 1 (.two (.t 3 (.un (.lp [0,6] [] ⟨[(7,.d .i)],[]⟩ [(.x 0,⟨[],[]⟩)] (.t 1 (.two (.two (.nil) (.nil)) (.two (.un (.t 2 (.t 4 (.t 22 (.two (.gh (.tl .done) .nil) (.nil)))))) (.reg (.n 2 .done)))))))) (.t 9 (.nil)))
def Q5e:Shp:=⟨[(0,.d .str)],[]⟩
def Qwp:Shp:=⟨[(0,.d .bool)],[]⟩
def Q5f:An:=.t 1 (.two (.t 3 (.un (.lp [7,8] [] ⟨[],[]⟩ [(.x 0,⟨[],[]⟩)] (.t 1 (.two (.two (.gh (.tl .done) .nil) (.nil)) (.nil)))))) (.t 1 (.nil)))
def Q5g:Shp:=⟨[(0,.d (.sl Yp)),(1,.f 170 (.cons (.p 5000 []) (.nil)))],[(5000,.var 121 (.d Yp))]⟩
def Qwq:Shp:=⟨[(0,.d .i)],[]⟩
def Q5h:An:=.t 1 (.two (.reg (.n 2 (.call 0 (.n 2 .done)))) (.nil))
def Q5i:Shp:=⟨[(0,.d (.sl Yp)),(1,.f 170 (.cons (.p 5000 []) (.nil)))],[(5000,.var 121 (.d Yp))]⟩
def Qwr:Shp:=⟨[(0,.d .bool)],[]⟩
def Q5j:An:=.t 1 (.two (.t 3 (.two (.gh (.tl .done) .nil) (.nil))) (.two (.t 3 (.two (.gh (.tl .done) .nil) (.nil))) (.two (.t 3 (.un (.lp [0,12,13] [] ⟨[(14,.d .i)],[]⟩ [(.x 0,⟨[],[]⟩)] (.t 1 (.two (.two (.nil) (.nil)) (.two (.un (.t 6 (.two (.two (.reg (.n 2 (.call 0 (.n 1 .done)))) (.two (.gh (.tl .done) .nil) (.nil))) (.two (.two (.reg (.n 4 (.call 1 (.done)))) (.two (.gh (.tl .done) .nil) (.nil))) (.two (.t 5 (.two (.two (.t 4 (.two (.gh (.tl .done) .nil) (.nil))) (.nil)) (.gh (.tl .done) .nil))) (.nil)))))) (.reg (.n 2 .done)))))))) (.t 1 (.nil)))))
def Q5k:Shp:=⟨[(0,.d (.sl Yp))],[]⟩
def Qws:Shp:=⟨[(0,.d .i)],[]⟩
def Q5l:An:=.t 1 (.two (.t 3 (.un (.lp [7,8] [] ⟨[],[]⟩ [(.x 0,⟨[],[]⟩)] (.t 1 (.two (.two (.gh (.tl .done) .nil) (.nil)) (.nil)))))) (.t 1 (.nil)))
def Q5m:Shp:=⟨[(0,.d (.sl .i)),(1,.d .i)],[]⟩
def Qwt:Shp:=⟨[(0,.d .i)],[]⟩
def Q5n:An:=.t 1 (.two (.reg (.n 2 (.call 0 (.n 2 .done)))) (.nil))
def Q5o:Shp:=⟨[(0,.d (.sl .i)),(1,.d .i)],[]⟩
def Qwu:Shp:=⟨[(0,.d .bool)],[]⟩
def Q5p:An:=.t 1 (.two (.t 6 (.two (.gh (.tl .done) .nil) (.nil))) (.t 4 (.nil)))
def Q5q:Shp:=⟨[(0,.d .i)],[]⟩
def Qwv:Shp:=⟨[(0,.d .i)],[]⟩
def Q5r:An:=.t 1 (.two (.two (.reg (.n 2 (.call 0 (.done)))) (.two (.gh (.tl .done) .nil) (.nil))) (.two (.reg (.n 1 (.call 1 (.n 2 .done)))) (.nil)))
def Q5s:Shp:=⟨[(0,.d (.sl .i)),(1,.d .i)],[]⟩
def Qww:Shp:=⟨[(0,.d .i)],[]⟩
def Q5t:An:=.t 1 (.two (.t 3 (.un (.lp [7,8] [] ⟨[],[]⟩ [(.x 0,⟨[],[]⟩)] (.t 1 (.two (.two (.gh (.tl .done) .nil) (.nil)) (.nil)))))) (.t 1 (.nil)))
def Q5u:Shp:=⟨[(0,.d (.sl Gm)),(1,.f 172 (.cons (.p 5000 []) (.cons (.p 5001 []) (.nil))))],[(5000,.var 3 (.d .i)),(5001,.var 3 (.d .i))]⟩
def Qwx:Shp:=⟨[(0,.d .i)],[]⟩
def Q5v:An:=.t 1 (.two (.reg (.n 2 (.call 0 (.n 2 .done)))) (.nil))
def Q5w:Shp:=⟨[(0,.d (.sl Gm)),(1,.f 172 (.cons (.p 5000 []) (.cons (.p 5001 []) (.nil))))],[(5000,.var 3 (.d .i)),(5001,.var 3 (.d .i))]⟩
def Qwy:Shp:=⟨[(0,.d .bool)],[]⟩
def Q5x:An:=.t 3 (.t 2 (.two (.t 3 (.un (.lp [0,7,11,12] [4,5] ⟨[(13,.d .i)],[]⟩ [(.x 0,⟨[],[]⟩)] (.t 1 (.two (.two (.nil) (.nil)) (.two (.un (.t 4 (.two (.reg (.n 3 (.call 0 (.done)))) (.two (.gh (.tl .done) .nil) (.nil))))) (.reg (.n 2 .done)))))))) (.t 8 (.nil))))
def Q5y:Shp:=⟨[(0,.d (.sl Yp)),(1,.d .i),(2,.d .i)],[]⟩
def Qwz:Shp:=⟨[(0,.d .str)],[]⟩
def Jgd:An:=.t 1 (.two (.two (.reg (.n 1 (.call 0 (.n 9 .done)))) (.two (.gh (.tl .done) .nil) (.nil))) (.two (.reg (.n 4 (.call 1 (.n 3 (.call 2 (.n 1 .done)))))) (.nil)))
def Jge:Shp:=⟨[(0,.d (.sl Yp)),(1,.d (.sl .i)),(2,.d .i)],[]⟩
def Q5z:Shp:=⟨[(0,.d .str)],[]⟩
def Q50:An:=.t 2 (.t 27 (.nil))
def Q51:Shp:=⟨[(0,.d Vo),(1,.p 5000 []),(2,.p 5001 []),(3,.p 5002 [])],[(5000,.var 3 (.d .i)),(5001,.var 9 (.d .str)),(5002,.var 9 (.d .str))]⟩
def Qw0:Shp:=⟨[(0,.d .bool)],[]⟩
def Q52:An:=.t 6 (.t 2 (.two (.t 4 (.un (.lp [10,15,16,17] [4,5,6,7] ⟨[(8,.p 100000 [])],[(100000,.var 126 (.ag (.cons (.d .i) (.cons (.d .str) (.cons (.d .str) (.cons (.d .i) (.cons (.ns) (.nil))))))))]⟩ [(.r,⟨[(8,.p 100100 []),(9,.d .bool)],[(100100,.var 126 (.ag (.cons (.d .i) (.cons (.d .str) (.cons (.d .str) (.cons (.d .i) (.cons (.s 100101) (.nil)))))))),(100101,.row 123 Kw)]⟩)] (.t 1 (.two (.two (.nil) (.gh (.tl .done) .nil)) (.two (.un (.t 4 (.two (.reg (.n 2 (.call 0 (.done)))) (.two (.t 5 (.t 3 (.nil))) (.gh (.tl .done) .nil))))) (.nil))))))) (.nil)))
def Q53:Shp:=⟨[(0,.d Jq),(1,.d .i),(2,.d .str),(3,.d .str)],[]⟩
def Qw1:Shp:=⟨[(0,.d Vo),(1,.d .bool)],[]⟩
def Q54:An:=.t 1 (.two (.t 3 (.un (.lp [0,7,8] [] ⟨[(9,.d .i)],[]⟩ [(.x 0,⟨[],[]⟩)] (.t 1 (.two (.two (.nil) (.nil)) (.two (.un (.t 3 (.t 7 (.two (.gh (.tl .done) .nil) (.nil))))) (.reg (.n 2 .done)))))))) (.t 1 (.nil)))
def Q55:Shp:=⟨[(0,.d .i),(1,.d (.sl .i))],[]⟩
def Qw2:Shp:=⟨[(0,.d .bool)],[]⟩
def Q56:An:=.t 1 (.two (.t 3 (.two (.gh (.tl .done) .nil) (.nil))) (.two (.t 3 (.two (.gh (.tl .done) .nil) (.nil))) (.t 1 (.two (.t 3 (.un (.lp [0,12,13] [] ⟨[(3,.d .i),(14,.d .i)],[]⟩ [(.x 0,⟨[],[]⟩)] (.t 1 (.two (.two (.nil) (.nil)) (.two (.un (.t 6 (.two (.two (.reg (.n 5 (.call 0 (.n 7 (.sp 31 6 [3,4,5,14] [5] ⟨[(37,.d .bool)],[]⟩ (.nl 5 (.n 1 .done)) (.nl 3 (.call 0 (.nl 1 (.n 1 .done)))) (.done)))))) (.two (.gh (.tl .done) .nil) (.nil))) (.two (.t 9 (.two (.gh (.tl .done) .nil) (.nil))) (.two (.t 9 (.two (.gh (.tl .done) .nil) (.nil))) (.reg (.n 3 .done))))))) (.reg (.n 2 .done)))))))) (.t 1 (.nil))))))
def Q57:Shp:=⟨[(0,.d (.sl Kw))],[]⟩
def Qw3:Shp:=⟨[(0,.d .i)],[]⟩
def Q58:An:=.t 2 (.t 2 (.two (.t 3 (.un (.lp [1,12,13] [] ⟨[(6,.d .i),(7,.d .i),(14,.d .i)],[]⟩ [(.x 0,⟨[(6,.d .i)],[]⟩)] (.t 1 (.two (.two (.nil) (.nil)) (.two (.un (.t 4 (.t 2 (.two (.t 3 (.two (.gh (.tl .done) .nil) (.nil))) (.two (.t 3 (.two (.nil) (.nil))) (.t 11 (.two (.two (.dr 7 (.n 7 .done) (.done)) (.two (.gh (.tl .done) .nil) (.nil))) (.t 7 (.reg (.n 2 .done)))))))))) (.reg (.n 2 .done)))))))) (.t 3 (.nil))))
def Q59:Shp:=⟨[(0,.d (.sl Kw)),(1,.d .i)],[]⟩
def Qw4:Shp:=⟨[(0,.d .i),(1,.d .bool)],[]⟩
def Q6a:An:=.t 2 (.two (.two (.reg (.n 1 (.call 0 (.n 1 .done)))) (.two (.gh (.tl .done) .nil) (.nil))) (.two (.t 16 (.two (.gh (.tl .done) .nil) (.nil))) (.two (.reg (.n 4 (.call 1 (.n 5 .done)))) (.two (.t 2 (.two (.gh (.tl .done) .nil) (.nil))) (.two (.reg (.n 2 (.call 1 (.n 5 .done)))) (.t 5 (.nil)))))))
def Q6b:Shp:=⟨[(0,.d (.sl Kw)),(1,.d .i),(2,.d .i)],[]⟩
def Qw5:Shp:=⟨[(0,.d .i),(1,.d .i)],[]⟩
def Qlk:An:=.t 3 (.two (.two (.reg (.n 2 (.call 0 (.n 2 (.sp 17 5 [1,3,4,6] [4,6] ⟨[(22,.d .bool)],[]⟩ (.nl 4 (.n 1 .done)) (.nl 2 (.call 1 (.nl 1 (.n 1 .done)))) (.done)))))) (.two (.t 1 (.nil)) (.nil))) (.t 3 (.two (.t 3 (.t 4 (.gh (.tl .done) .nil))) (.two (.t 8 (.two (.two (.dm 10 [39,40,41,42,43,44,45,46,47,48] [] (.n 4 (.call 2 (.n 5 (.tl (.n 1 (.br (.n 1 .done)))))))) (.nil)) (.gh (.tl .done) .nil))) (.nil)))))
def Qll:Shp:=⟨[(0,.d Jq),(1,.d (.sl .i)),(2,.d Qk),(3,.d .i)],[]⟩
def Qhp:Shp:=⟨[(0,.s 1)],[(1,.row 35 Q8)]⟩
def Jgf:An:=.t 5 (.un (.two (.reg (.n 4 (.call 0 (.n 5 .done)))) (.two (.reg (.n 4 (.call 1 (.n 1 .done)))) (.t 4 (.two (.nil) (.two (.t 3 (.un (.lp [4,6,11,17,37] [4,6] ⟨[(13,.s 100000),(14,.d .i),(15,.d .i),(16,.d .i),(38,.d .i)],[(100000,.row 35 Q8)]⟩ [(.x 0,⟨[(13,.s 100100),(14,.d .i),(15,.d .i)],[(100100,.row 35 Q8)]⟩)] (.t 1 (.two (.two (.nil) (.nil)) (.two (.un (.t 2 (.two (.dm 15 [42,43,44,45,46,47,48,49,50,51,41,52,53,19,1000000014] [] (.n 9 (.call 2 (.n 5 (.tl (.n 1 .done)))))) (.two (.t 2 (.two (.gh (.tl .done) .nil) (.nil))) (.two (.t 2 (.t 3 (.gh (.tl .done) .nil))) (.two (.dm 13 [61,62,63,64,65,66,67,68,69,60,70,71,21] [] (.n 8 (.call 3 (.n 4 (.tl (.n 1 .done)))))) (.two (.t 2 (.two (.gh (.tl .done) .nil) (.nil))) (.t 6 (.t 8 (.reg (.n 5 .done))))))))))) (.reg (.n 2 .done)))))))) (.two (.t 16 (.two (.gh (.tl .done) .nil) (.nil))) (.two (.t 2 (.two (.gh (.tl .done) .nil) (.nil))) (.t 5 (.nil))))))))))
def Jgg:Shp:=⟨[(0,.d Jq),(1,.d (.sl .i)),(2,.d Qk),(3,.d .i)],[]⟩
def Q6c:Shp:=⟨[(0,.d (.sl Q8)),(1,.d .i),(2,.d .i)],[]⟩
def Jgh:An:=.t 1 (.two (.dm 24 [10,11,12,13,14,15,16,17,18,19,20,21,22,23,24,25,26,27,9,28,29,30,3,4] [] (.n 17 (.call 0 (.n 6 (.tl (.n 1 .done)))))) (.two (.t 2 (.two (.gh (.tl .done) .nil) (.nil))) (.t 2 (.two (.t 3 (.un (.lp [0,3,4,35,36] [5000,5002] ⟨[(6,.d .i),(37,.d .i)],[]⟩ [(.x 0,⟨[(6,.d .i)],[]⟩)] (.t 1 (.two (.two (.nil) (.nil)) (.two (.un (.t 4 (.t 2 (.t 5 (.gh (.tl .done) .nil))))) (.reg (.n 2 .done)))))))) (.two (.t 2 (.two (.gh (.tl .done) .nil) (.nil))) (.t 18 (.t 1 (.nil))))))))
def Jgi:Shp:=⟨[(0,.p 5000 [])],[(5000,.var 114 (.ag (.cons (.d Jt) (.cons (.d Q5) (.cons (.d Qk) (.cons (.d Jo) (.cons (.d Qy) (.cons (.d Jq) (.cons (.d .i) (.cons (.ag (.cons (.d Qk) (.cons (.d .i) (.cons (.d .str) (.cons (.d .i) (.cons (.d .str) (.cons (.d (.sl Jy)) (.cons (.s 5001) (.cons (.d .i) (.cons (.d .i) (.cons (.d .i) (.cons (.s 5002) (.cons (.d .i) (.cons (.d .i) (.nil))))))))))))))) (.nil))))))))))),(5001,.row 35 Q8),(5002,.row 76 Ju)]⟩
def Q6d:Shp:=⟨[(0,.d .i)],[(5000,.var 114 (.ag (.cons (.d Jt) (.cons (.d Q5) (.cons (.d Qk) (.cons (.d Jo) (.cons (.d Qy) (.cons (.d Jq) (.cons (.d .i) (.cons (.ag (.cons (.d Qk) (.cons (.d .i) (.cons (.d .str) (.cons (.d .i) (.cons (.d .str) (.cons (.d (.sl Jy)) (.cons (.d (.sl Q8)) (.cons (.d .i) (.cons (.d .i) (.cons (.d .i) (.cons (.s 1) (.cons (.d .i) (.cons (.d .i) (.nil))))))))))))))) (.nil))))))))))),(1,.row 76 Ju)]⟩
def Jgj:An:=.t 1 (.two (.reg (.n 1 (.call 0 (.done)))) (.two (.reg (.n 1 (.call 1 (.n 1 .done)))) (.nil)))
def Jgk:Shp:=⟨[(0,.p 5000 [])],[(5000,.var 99 (.p 5001 [])),(5001,.var 114 (.ag (.cons (.d Jt) (.cons (.d Q5) (.cons (.d Qk) (.cons (.d Jo) (.cons (.d Qy) (.cons (.d Jq) (.cons (.d .i) (.cons (.ag (.cons (.d Qk) (.cons (.d .i) (.cons (.d .str) (.cons (.d .i) (.cons (.d .str) (.cons (.s 5002) (.cons (.s 5003) (.cons (.d .i) (.cons (.d .i) (.cons (.d .i) (.cons (.s 5004) (.cons (.d .i) (.cons (.d .i) (.nil))))))))))))))) (.nil))))))))))),(5002,.row 33 Jy),(5003,.row 35 Q8),(5004,.row 76 Ju)]⟩
def Q6e:Shp:=⟨[(0,.d .i)],[(5001,.var 114 (.ag (.cons (.d Jt) (.cons (.d Q5) (.cons (.d Qk) (.cons (.d Jo) (.cons (.d Qy) (.cons (.d Jq) (.cons (.d .i) (.cons (.ag (.cons (.d Qk) (.cons (.d .i) (.cons (.d .str) (.cons (.d .i) (.cons (.d .str) (.cons (.d (.sl Jy)) (.cons (.d (.sl Q8)) (.cons (.d .i) (.cons (.d .i) (.cons (.d .i) (.cons (.s 1) (.cons (.d .i) (.cons (.d .i) (.nil))))))))))))))) (.nil))))))))))),(1,.row 76 Ju)]⟩
def Qrm:An:=.t 2 (.two (.reg (.n 1 (.call 0 (.n 1 .done)))) (.nil))
def Qrn:Shp:=⟨[(0,.f 52 (.cons (.p 5000 []) (.nil))),(1,.p 5005 [])],[(5000,.var 99 (.p 5001 [])),(5001,.var 114 (.ag (.cons (.d Jt) (.cons (.d Q5) (.cons (.d Qk) (.cons (.d Jo) (.cons (.d Qy) (.cons (.d Jq) (.cons (.d .i) (.cons (.ag (.cons (.d Qk) (.cons (.d .i) (.cons (.d .str) (.cons (.d .i) (.cons (.d .str) (.cons (.s 5002) (.cons (.s 5003) (.cons (.d .i) (.cons (.d .i) (.cons (.d .i) (.cons (.s 5004) (.cons (.d .i) (.cons (.d .i) (.nil))))))))))))))) (.nil))))))))))),(5002,.row 33 Jy),(5003,.row 35 Q8),(5004,.row 76 Ju),(5005,.var 24 (.d .i))]⟩
def Qlm:Shp:=⟨[],[(5001,.var 114 (.ag (.cons (.d Jt) (.cons (.d Q5) (.cons (.d Qk) (.cons (.d Jo) (.cons (.d Qy) (.cons (.d Jq) (.cons (.d .i) (.cons (.ag (.cons (.d Qk) (.cons (.d .i) (.cons (.d .str) (.cons (.d .i) (.cons (.d .str) (.cons (.d (.sl Jy)) (.cons (.d (.sl Q8)) (.cons (.d .i) (.cons (.d .i) (.cons (.d .i) (.cons (.s 1) (.cons (.d .i) (.cons (.d .i) (.nil))))))))))))))) (.nil))))))))))),(5005,.var 24 (.d .i)),(1,.row 76 Ju)]⟩
def Q6f:An:=.t 1 (.two (.t 14 (.two (.gh (.tl .done) .nil) (.nil))) (.two (.reg (.n 3 (.call 0 (.call 1 (.n 1 .done))))) (.nil)))
def Q6g:Shp:=⟨[(0,.d .i),(1,.d .i)],[]⟩
def Qw6:Shp:=⟨[(0,.d Qp)],[]⟩
def Jgl:An:=.t 1 (.two (.dr 10 (.n 10 .done) (.call 0 (.n 2 .done))) (.nil))
def Jgm:Shp:=⟨[(0,.p 5000 [])],[(5000,.var 114 (.ag (.cons (.d Jt) (.cons (.d Q5) (.cons (.d Qk) (.cons (.d Jo) (.cons (.d Qy) (.cons (.d Jq) (.cons (.d .i) (.cons (.ag (.cons (.d Qk) (.cons (.d .i) (.cons (.d .str) (.cons (.d .i) (.cons (.d .str) (.cons (.d (.sl Jy)) (.cons (.d (.sl Q8)) (.cons (.d .i) (.cons (.d .i) (.cons (.d .i) (.cons (.s 5001) (.cons (.d .i) (.cons (.d .i) (.nil))))))))))))))) (.nil))))))))))),(5001,.row 76 Ju)]⟩
def Q6h:Shp:=⟨[(0,.d .i)],[]⟩
def Q6i:An:=.t 3 (.two (.t 17 (.un (.lp [22] [2,3] ⟨[(23,.d .i)],[]⟩ [(.x 0,⟨[],[]⟩)] (.t 1 (.two (.two (.nil) (.nil)) (.two (.un (.t 3 (.un (.t 6 (.two (.gh (.tl .done) .nil) (.t 6 (.two (.gh (.tl .done) .nil) (.nil)))))))) (.reg (.n 2 .done)))))))) (.t 1 (.nil)))
def Q6j:Shp:=⟨[(0,.d Je),(1,.d Je)],[]⟩
def Qw7:Shp:=⟨[(0,.d .i)],[]⟩
def Jgn:An:=.t 1 (.t 6 (.two (.t 3 (.un (.lp [9,16,17,18] [9] ⟨[(8,.p 100000 [])],[(100000,.var 73 (.d Je))]⟩ [(.x 0,⟨[(8,.p 100100 [])],[(100100,.var 73 (.d Je))]⟩),(.r,⟨[(8,.p 100200 [])],[(100200,.var 73 (.d Je))]⟩)] (.t 1 (.two (.two (.nil) (.nil)) (.two (.un (.t 4 (.two (.reg (.n 2 (.call 0 (.n 1 .done)))) (.two (.t 2 (.nil)) (.gh (.tl .done) .nil))))) (.nil))))))) (.t 2 (.nil))))
def Jgo:Shp:=⟨[(0,.d (.sl Je)),(1,.d .i),(2,.d .i),(3,.d .i)],[]⟩
def Q6k:Shp:=⟨[(0,.d Je)],[]⟩
def Jgp:An:=.t 3 (.t 14 (.two (.t 8 (.two (.gh (.tl .done) .nil) (.nil))) (.t 3 (.two (.reg (.n 5 (.call 0 (.n 2 .done)))) (.two (.dr 9 (.n 9 .done) (.n 1 .done)) (.t 2 (.nil)))))))
def Jgq:Shp:=⟨[(0,.d Qk),(1,.d .str),(2,.d .str),(3,.d Je),(4,.d .bool)],[]⟩
def Q6l:Shp:=⟨[(0,.d Qaz)],[]⟩
def Jgr:An:=.t 4 (.two (.t 6 (.two (.gh (.tl .done) .nil) (.nil))) (.t 2 (.t 1 (.t 2 (.two (.t 3 (.un (.lp [10,11,25,26] [4] ⟨[],[]⟩ [(.x 0,⟨[],[]⟩)] (.t 1 (.two (.two (.gh (.tl .done) .nil) (.nil)) (.nil)))))) (.t 5 (.nil)))))))
def Jgs:Shp:=⟨[(0,.d (.sl Y3)),(1,.d Qaz),(2,.d .i)],[]⟩
def Q6m:Shp:=⟨[(0,.d (.sl Ju)),(1,.d .i),(2,.d .i)],[]⟩
def Jgt:An:=.t 1 (.two (.dc 19 [8,9,10,11,12,13,14,15,16,17,18,19,20,21,22,23,24,25,3] [5000] [5001] (.op ⟨.nl 1 .done,[],[],[],[5000]⟩ (.op ⟨.nl 1 .done,[],[5000],[],[5000]⟩ (.op ⟨.nl 1 .done,[],[],[],[5000]⟩ (.op ⟨.nl 1 .done,[],[],[],[5000]⟩ (.op ⟨.nl 1 .done,[],[5000],[],[]⟩ (.op ⟨.nl 1 .done,[],[],[],[5000]⟩ (.op ⟨.nl 1 .done,[],[5000],[],[5000]⟩ (.op ⟨.nl 1 .done,[],[],[],[5000]⟩ (.op ⟨.nl 1 .done,[],[],[],[5000]⟩ (.op ⟨.nl 1 .done,[],[5000],[],[]⟩ (.op ⟨.nl 1 .done,[],[],[],[5000]⟩ (.op ⟨.nl 1 .done,[],[5000],[],[5000]⟩ (.op ⟨.nl 1 .done,[],[],[],[5000]⟩ (.op ⟨.nl 1 .done,[],[],[],[5000]⟩ (.op ⟨.nl 1 .done,[],[5000],[],[]⟩ (.op ⟨.nl 1 .done,[],[],[],[5000]⟩ (.op ⟨.call 0 (.done),[],[5000,5001],[],[]⟩ (.op ⟨.call 1 (.done),[],[],[],[]⟩ (.op ⟨.nl 1 .done,[],[],[3],[3]⟩ (.tl (.n 1 .done)))))))))))))))))))))) (.two (.dr 15 (.n 15 .done) (.call 2 (.n 1 .done))) (.two (.dm 34 [43,44,45,46,47,48,49,50,51,52,53,54,55,56,57,58,59,60,61,62,63,64,65,66,67,68,69,70,42,71,72,73,5,6] [] (.n 21 (.call 3 (.n 5 (.call 4 (.n 6 (.tl (.n 1 .done)))))))) (.two (.t 2 (.two (.gh (.tl .done) .nil) (.nil))) (.t 12 (.t 1 (.nil)))))))
def Jgu:Shp:=⟨[(0,.p 5000 [])],[(5000,.var 114 (.ag (.cons (.d Jt) (.cons (.d Q5) (.cons (.d Qk) (.cons (.d Jo) (.cons (.d Qy) (.cons (.d Jq) (.cons (.d .i) (.cons (.ag (.cons (.d Qk) (.cons (.d .i) (.cons (.d .str) (.cons (.d .i) (.cons (.d .str) (.cons (.d (.sl Jy)) (.cons (.d (.sl Q8)) (.cons (.d .i) (.cons (.d .i) (.cons (.d .i) (.cons (.s 5001) (.cons (.d .i) (.cons (.d .i) (.nil))))))))))))))) (.nil))))))))))),(5001,.row 76 Ju)]⟩
def Q6n:Shp:=⟨[(0,.d .i)],[(5000,.var 114 (.d Gn))]⟩
def Jgv:An:=.t 1 (.two (.reg (.n 1 (.call 0 (.n 1 .done)))) (.nil))
def Jgw:Shp:=⟨[(0,.p 5000 [])],[(5000,.var 99 (.p 5001 [])),(5001,.var 114 (.ag (.cons (.d Jt) (.cons (.d Q5) (.cons (.d Qk) (.cons (.d Jo) (.cons (.d Qy) (.cons (.d Jq) (.cons (.d .i) (.cons (.ag (.cons (.d Qk) (.cons (.d .i) (.cons (.d .str) (.cons (.d .i) (.cons (.d .str) (.cons (.d (.sl Jy)) (.cons (.d (.sl Q8)) (.cons (.d .i) (.cons (.d .i) (.cons (.d .i) (.cons (.s 5002) (.cons (.d .i) (.cons (.d .i) (.nil))))))))))))))) (.nil))))))))))),(5002,.row 76 Ju)]⟩
def Q6o:Shp:=⟨[(0,.d .i)],[(5001,.var 114 (.d Gn))]⟩
def Qro:An:=.t 2 (.two (.reg (.n 1 (.call 0 (.n 1 .done)))) (.nil))
def Qrp:Shp:=⟨[(0,.f 55 (.cons (.p 5000 []) (.nil))),(1,.p 5003 [])],[(5000,.var 99 (.p 5001 [])),(5001,.var 114 (.ag (.cons (.d Jt) (.cons (.d Q5) (.cons (.d Qk) (.cons (.d Jo) (.cons (.d Qy) (.cons (.d Jq) (.cons (.d .i) (.cons (.ag (.cons (.d Qk) (.cons (.d .i) (.cons (.d .str) (.cons (.d .i) (.cons (.d .str) (.cons (.d (.sl Jy)) (.cons (.d (.sl Q8)) (.cons (.d .i) (.cons (.d .i) (.cons (.d .i) (.cons (.s 5002) (.cons (.d .i) (.cons (.d .i) (.nil))))))))))))))) (.nil))))))))))),(5002,.row 76 Ju),(5003,.var 24 (.d .i))]⟩
def Qln:Shp:=⟨[],[(5001,.var 114 (.ag (.cons (.d Jt) (.cons (.d Q5) (.cons (.d Qk) (.cons (.d Jo) (.cons (.d Qy) (.cons (.d Jq) (.cons (.d .i) (.cons (.ag (.cons (.d Qk) (.cons (.d .i) (.cons (.d .str) (.cons (.d .i) (.cons (.d .str) (.cons (.d (.sl Jy)) (.cons (.d (.sl Q8)) (.cons (.d .i) (.cons (.d .i) (.cons (.d .i) (.cons (.d (.sl Ju)) (.cons (.d .i) (.cons (.d .i) (.nil))))))))))))))) (.nil))))))))))),(5003,.var 24 (.d .i))]⟩
def Q6p:An:=.t 2 (.two (.two (.reg (.n 1 (.call 0 (.n 1 .done)))) (.two (.gh (.tl .done) .nil) (.nil))) (.t 9 (.nil)))
def Q6q:Shp:=⟨[(0,.d Jp)],[]⟩
def Qw8:Shp:=⟨[(0,.d .i)],[]⟩
def Q6r:An:=.t 3 (.two (.two (.reg (.n 1 (.call 0 (.n 1 .done)))) (.t 2 (.two (.gh (.tl .done) .nil) (.nil)))) (.two (.two (.reg (.n 1 (.call 1 (.n 1 .done)))) (.two (.gh (.tl .done) .nil) (.nil))) (.two (.two (.reg (.n 2 (.call 2 (.n 1 .done)))) (.two (.gh (.tl .done) .nil) (.nil))) (.t 6 (.t 3 (.nil))))))
def Q6s:Shp:=⟨[(0,.d Jp),(1,.d .i)],[]⟩
def Qw9:Shp:=⟨[(0,.d Jp),(1,.d .i)],[]⟩
def Qlo:An:=.t 1 (.t 2 (.two (.t 3 (.un (.lp [9,10] [] ⟨[(3,.m 100000),(11,.d .i)],[(100000,.map .i .i)]⟩ [(.x 0,⟨[(3,.m 100100)],[(100100,.map .i .i)]⟩)] (.t 1 (.two (.two (.nil) (.nil)) (.two (.un (.t 6 (.t 9 (.t 2 (.t 5 (.gh (.tl .done) .nil)))))) (.reg (.n 2 .done)))))))) (.t 2 (.nil))))
def Qlp:Shp:=⟨[(0,.s 5000)],[(5000,.row 71 Jp)]⟩
def Qhq:Shp:=⟨[(0,.m 1)],[(1,.map .i .i)]⟩
def Jgx:An:=.t 4 (.two (.reg (.n 1 (.call 0 (.n 2 .done)))) (.two (.reg (.n 2 (.call 1 (.n 7 .done)))) (.two (.t 10 (.two (.t 5 (.nil)) (.nil))) (.two (.reg (.n 6 (.call 2 (.n 2 .done)))) (.two (.reg (.n 6 (.call 3 (.n 6 .done)))) (.two (.t 2 (.two (.gh (.tl .done) .nil) (.nil))) (.t 6 (.t 8 (.nil)))))))))
def Jgy:Shp:=⟨[(0,.d Q5),(1,.d .i),(2,.d .i),(3,.d .bool)],[]⟩
def Q6t:Shp:=⟨[(0,.d Q5),(1,.d .i),(2,.d .i)],[]⟩
def Qrq:An:=.t 1 (.two (.dr 10 (.n 10 .done) (.call 0 (.n 2 .done))) (.nil))
def Qrr:Shp:=⟨[(0,.p 5000 [])],[(5000,.var 114 (.d Gn))]⟩
def Qlq:Shp:=⟨[(0,.d .i)],[]⟩
def Q6u:An:=.t 1 (.two (.t 2 (.un (.lp [0,5,6] [] ⟨[],[]⟩ [(.r,⟨[(2,.d .bool)],[]⟩)] (.t 1 (.two (.two (.nil) (.gh (.tl .done) .nil)) (.two (.un (.t 2 (.t 3 (.two (.t 1 (.nil)) (.gh (.tl .done) .nil))))) (.nil))))))) (.nil))
def Q6v:Shp:=⟨[(0,.d .i)],[]⟩
def Qxa:Shp:=⟨[(0,.d .bool)],[]⟩
def Q6w:An:=.t 2 (.two (.reg (.n 9 (.sp 11 4 [1] [1] ⟨[(15,.d .bool)],[]⟩ (.nl 2 (.call 0 (.n 1 .done))) (.nl 3 (.n 1 .done)) (.n 11 .done)))) (.nil))
def Q6x:Shp:=⟨[(0,.d Je)],[]⟩
def Qxb:Shp:=⟨[(0,.d .bool)],[]⟩
def Q6y:An:=.t 2 (.t 19 (.nil))
def Q6z:Shp:=⟨[(0,.d Je)],[]⟩
def Qxc:Shp:=⟨[(0,.d .bool)],[]⟩
def Q60:An:=.t 1 (.two (.t 3 (.un (.lp [0,5,6] [] ⟨[(7,.d .i)],[]⟩ [(.x 0,⟨[],[]⟩)] (.t 1 (.two (.two (.nil) (.nil)) (.two (.un (.t 6 (.two (.two (.reg (.n 1 (.call 0 (.n 2 (.sp 15 4 [3,4,7] [4] ⟨[(19,.d .bool)],[]⟩ (.nl 3 (.n 1 .done)) (.nl 1 (.call 1 (.nl 1 (.n 1 .done)))) (.n 10 .done)))))) (.two (.gh (.tl .done) .nil) (.nil))) (.two (.jn [7] [4] [(.n,⟨[(41,.d .bool)],[]⟩)] (.dm 9 [30,31,32,33,34,35,36,37,38] [] (.n 3 (.so 32 (.tl .done) (.n 6 (.tl (.nl 2 (.n 1 .done)))))))) (.two (.gh (.tl .done) .nil) (.nil)))))) (.reg (.n 2 .done)))))))) (.t 1 (.nil)))
def Q61:Shp:=⟨[(0,.d (.sl Je))],[]⟩
def Qxd:Shp:=⟨[(0,.d .bool)],[]⟩
def Q62:An:=.t 2 (.two (.t 3 (.un (.lp [0,1,6,7,8] [] ⟨[],[]⟩ [(.x 0,⟨[],[]⟩),(.r,⟨[(2,.d .i),(3,.d .i)],[]⟩)] (.t 1 (.two (.two (.nil) (.nil)) (.two (.un (.t 6 (.two (.reg (.n 2 (.call 0 (.done)))) (.un (.t 2 (.two (.t 5 (.nil)) (.gh (.tl .done) .nil))))))) (.nil))))))) (.two (.dr 6 (.n 6 .done) (.done)) (.nil)))
def Q63:Shp:=⟨[(0,.p 5000 []),(1,.p 5001 [])],[(5000,.var 55 (.d (.sl Je))),(5001,.var 73 (.d Je))]⟩
def Qxe:Shp:=⟨[(0,.d .i),(1,.d .i)],[]⟩
def Jgz:An:=.t 4 (.two (.two (.reg (.n 1 (.call 0 (.n 2 (.sp 14 4 [2,3] [2,3] ⟨[(18,.d .bool)],[]⟩ (.nl 3 (.n 1 .done)) (.nl 1 (.call 1 (.nl 1 (.n 1 .done)))) (.done)))))) (.two (.gh (.tl .done) .nil) (.nil))) (.two (.two (.reg (.n 1 (.call 2 (.n 1 .done)))) (.two (.gh (.tl .done) .nil) (.nil))) (.t 2 (.two (.reg (.n 1 (.call 3 (.n 5 .done)))) (.t 3 (.two (.jn [2,7,8] [2,3] [(.n,⟨[(9,.p 100100 [])],[(100100,.var 73 (.d Je))]⟩)] (.t 3 (.two (.two (.dr 9 (.n 9 .done) (.n 1 .done)) (.dr 9 (.n 9 .done) (.n 1 .done))) (.nil)))) (.two (.two (.reg (.n 1 (.call 2 (.n 1 .done)))) (.two (.gh (.tl .done) .nil) (.nil))) (.t 5 (.two (.t 8 (.t 5 (.gh (.tl .done) .nil))) (.t 7 (.nil)))))))))))
def Jg0:Shp:=⟨[(0,.d (.sl Je)),(1,.d Je)],[]⟩
def Q64:Shp:=⟨[(0,.s 1),(1,.d .i)],[(1,.row 73 Je)]⟩
def Jg1:An:=.t 1 (.two (.dm 27 [9,10,11,12,13,14,15,16,17,18,19,20,21,22,23,24,25,26,27,28,8,29,30,31,3,1000000025,4] [] (.n 19 (.call 0 (.n 7 (.tl (.n 1 .done)))))) (.two (.dc 30 [33,34,35,36,37,38,39,40,41,42,43,44,45,46,47,48,49,50,51,52,53,54,55,56,57,58,32,59,60,6] [3,5000] [] (.op ⟨.nl 1 .done,[],[],[],[3]⟩ (.op ⟨.nl 1 .done,[],[3],[],[]⟩ (.op ⟨.nl 1 .done,[],[],[],[5000]⟩ (.op ⟨.nl 1 .done,[],[5000],[],[5000]⟩ (.op ⟨.nl 1 .done,[],[],[],[5000]⟩ (.op ⟨.nl 1 .done,[],[],[],[5000]⟩ (.op ⟨.nl 1 .done,[],[5000],[],[]⟩ (.op ⟨.nl 1 .done,[],[],[],[5000]⟩ (.op ⟨.nl 1 .done,[],[5000],[],[5000]⟩ (.op ⟨.nl 1 .done,[],[],[],[5000]⟩ (.op ⟨.nl 1 .done,[],[],[],[5000]⟩ (.op ⟨.nl 1 .done,[],[5000],[],[]⟩ (.op ⟨.nl 1 .done,[],[],[],[5000]⟩ (.op ⟨.call 1 (.done),[],[5000],[],[]⟩ (.op ⟨.nl 1 .done,[],[],[],[5000]⟩ (.op ⟨.nl 1 .done,[],[5000],[],[5000]⟩ (.op ⟨.nl 1 .done,[],[],[],[5000]⟩ (.op ⟨.nl 1 .done,[],[],[],[5000]⟩ (.op ⟨.nl 1 .done,[],[5000],[],[]⟩ (.op ⟨.nl 1 .done,[],[],[],[5000]⟩ (.op ⟨.nl 1 .done,[],[5000],[],[5000]⟩ (.op ⟨.nl 1 .done,[],[],[],[5000]⟩ (.op ⟨.nl 1 .done,[],[],[],[5000]⟩ (.op ⟨.nl 1 .done,[],[5000],[],[]⟩ (.op ⟨.nl 1 .done,[],[],[],[]⟩ (.op ⟨.call 2 (.done),[],[],[15801],[15801]⟩ (.op ⟨.nl 1 .done,[],[],[],[15801]⟩ (.op ⟨.nl 1 .done,[],[],[],[15801]⟩ (.op ⟨.nl 1 .done,[],[],[],[]⟩ (.op ⟨.nl 1 .done,[],[],[],[15801]⟩ (.tl (.n 1 .done))))))))))))))))))))))))))))))))) (.two (.t 2 (.two (.gh (.tl .done) .nil) (.nil))) (.t 3 (.t 5 (.t 12 (.t 1 (.nil))))))))
def Jg2:Shp:=⟨[(0,.p 5000 [])],[(5000,.var 114 (.d Gn))]⟩
def Q65:Shp:=⟨[(0,.d .i)],[(5000,.var 114 (.ag (.cons (.d Jt) (.cons (.ag (.cons (.d (.sl Qz)) (.cons (.d (.sl Jp)) (.cons (.s 1) (.nil))))) (.cons (.d Qk) (.cons (.d Jo) (.cons (.d Qy) (.cons (.d Jq) (.cons (.d .i) (.cons (.d Jm) (.nil))))))))))),(1,.row 73 Je)]⟩
def Jg3:An:=.t 1 (.two (.reg (.n 1 (.call 0 (.n 1 .done)))) (.nil))
def Jg4:Shp:=⟨[(0,.p 5000 [])],[(5000,.var 99 (.p 5001 [])),(5001,.var 114 (.d Gn))]⟩
def Q66:Shp:=⟨[(0,.d .i)],[(5001,.var 114 (.ag (.cons (.d Jt) (.cons (.ag (.cons (.d (.sl Qz)) (.cons (.d (.sl Jp)) (.cons (.s 1) (.nil))))) (.cons (.d Qk) (.cons (.d Jo) (.cons (.d Qy) (.cons (.d Jq) (.cons (.d .i) (.cons (.d Jm) (.nil))))))))))),(1,.row 73 Je)]⟩
def Qrs:An:=.t 2 (.two (.reg (.n 1 (.call 0 (.n 1 .done)))) (.nil))
def Qrt:Shp:=⟨[(0,.f 57 (.cons (.p 5000 []) (.nil))),(1,.p 5002 [])],[(5000,.var 99 (.p 5001 [])),(5001,.var 114 (.d Gn)),(5002,.var 24 (.d .i))]⟩
def Qlr:Shp:=⟨[],[(5001,.var 114 (.ag (.cons (.d Jt) (.cons (.ag (.cons (.d (.sl Qz)) (.cons (.d (.sl Jp)) (.cons (.d (.sl Je)) (.nil))))) (.cons (.d Qk) (.cons (.d Jo) (.cons (.d Qy) (.cons (.d Jq) (.cons (.d .i) (.cons (.d Jm) (.nil))))))))))),(5002,.var 24 (.d .i))]⟩
def Jg5:An:=.t 2 (.two (.dm 8 [6,7,8,9,10,11,12,3] [] (.n 8 (.tl (.n 1 .done)))) (.two (.t 4 (.un (.lp [2,14,15] [1,2] ⟨[(3,.p 100000 []),(16,.d .i)],[(100000,.var 57 (.ag (.cons (.s 100001) (.cons (.s 100002) (.cons (.s 100003) (.nil)))))),(100001,.row 142 Qz),(100002,.row 71 Jp),(100003,.row 73 Je)]⟩ [(.x 0,⟨[(3,.p 100100 [])],[(100100,.var 57 (.ag (.cons (.s 100101) (.cons (.s 100102) (.cons (.s 100103) (.nil)))))),(100101,.row 142 Qz),(100102,.row 71 Jp),(100103,.row 73 Je)]⟩)] (.t 1 (.two (.two (.nil) (.nil)) (.two (.un (.t 4 (.t 5 (.reg (.n 3 (.fz 22 (.n 4 .done))))))) (.reg (.n 2 .done)))))))) (.t 2 (.nil))))
def Jg6:Shp:=⟨[(0,.d Q5)],[]⟩
def Q67:Shp:=⟨[(0,.d Q5)],[]⟩
def Qru:An:=.t 5 (.two (.t 7 (.two (.gh (.tl .done) .nil) (.nil))) (.t 9 (.t 2 (.t 2 (.two (.reg (.n 2 (.call 0 (.done)))) (.two (.reg (.n 2 (.call 1 (.done)))) (.two (.reg (.n 2 (.call 2 (.done)))) (.two (.reg (.n 2 (.call 3 (.done)))) (.two (.reg (.n 2 (.call 4 (.done)))) (.two (.t 2 (.two (.two (.dm 6 [47,48,49,50,51,1000000005] [6] (.n 1 (.call 5 (.n 4 (.tl (.n 1 .done)))))) (.nil)) (.nil))) (.two (.dm 9 [52,53,54,55,56,57,58,59,1000000008] [6] (.n 9 (.tl (.n 1 .done)))) (.nil))))))))))))
def Qrv:Shp:=⟨[(0,.d Jt),(1,.d Q5),(2,.d Qk)],[]⟩
def Qls:Shp:=⟨[(0,.d Q5),(1,.d Jm)],[]⟩
def Jg7:An:=.t 2 (.two (.dm 8 [6,7,8,9,10,11,12,3] [] (.n 8 (.tl (.n 1 .done)))) (.two (.t 4 (.un (.lp [2,3,15,16] [1,2,3,8,11] ⟨[],[]⟩ [(.x 0,⟨[],[]⟩)] (.t 1 (.two (.two (.gh (.tl .done) .nil) (.nil)) (.nil)))))) (.t 2 (.nil))))
def Jg8:Shp:=⟨[(0,.d Q5)],[]⟩
def Q68:Shp:=⟨[(0,.ag (.cons (.ns) (.cons (.s 1) (.cons (.s 2) (.nil)))))],[(1,.row 71 Jp),(2,.row 73 Je)]⟩
def Q69:An:=.t 2 (.t 10 (.nil))
def Q7a:Shp:=⟨[(0,.d Qk)],[]⟩
def Qxf:Shp:=⟨[(0,.d Hx)],[]⟩
def Q7b:An:=.t 3 (.two (.un (.t 4 (.two (.gh (.tl .done) .nil) (.t 6 (.two (.t 6 (.nil)) (.gh (.tl .done) .nil)))))) (.nil))
def Q7c:Shp:=⟨[(0,.d Hx),(1,.d Hx)],[]⟩
def Qxg:Shp:=⟨[(0,.d .bool)],[]⟩
def Jg9:An:=.t 1 (.two (.t 3 (.two (.t 3 (.nil)) (.nil))) (.two (.dm 11 [11,12,13,14,15,16,17,18,19,20,21] [] (.n 5 (.call 0 (.n 5 (.tl (.call 0 (.n 2 .done))))))) (.t 4 (.two (.un (.lp [] [] ⟨[(3,.d (.sl Qk)),(4,.d (.sl Qk)),(5,.s 100000)],[(100000,.row 23 Qk)]⟩ [(.x 0,⟨[(5,.s 100200)],[(100200,.row 23 Qk)]⟩)] (.two (.t 8 (.two (.nil) (.nil))) (.un (.two (.jn [3,4,5] [100000] [(.n,⟨[(53,.d .bool)],[]⟩)] (.dm 15 [34,35,36,37,38,39,40,41,42,43,44,45,46,47,48] [] (.n 4 (.so 37 (.n 11 (.tl (.nl 4 (.n 1 .done)))) (.n 4 (.so 41 (.n 3 (.call 1 (.n 3 (.tl (.call 1 (.call 2 (.nl 2 (.n 1 .done)))))))) (.n 7 (.tl (.nl 4 (.n 1 .done)))))))))) (.two (.t 7 (.reg (.n 3 .done))) (.t 7 (.reg (.n 3 .done))))))))) (.t 2 (.nil))))))
def Jha:Shp:=⟨[(0,.d (.sl Qk))],[]⟩
def Q7d:Shp:=⟨[(0,.d (.sl Qk))],[]⟩
def Jhb:An:=.t 4 (.two (.reg (.n 1 (.call 0 (.n 2 .done)))) (.t 1 (.two (.two (.reg (.n 1 (.call 1 (.n 2 .done)))) (.un (.gh (.fz 11501 (.fz 11502 (.done))) (.lp [3,6,17,18] [3,4,6] ⟨[(8,.p 100000 []),(9,.s 100001),(19,.d .i)],[(100000,.var 57 (.ag (.cons (.d (.sl Qz)) (.cons (.d (.sl Jp)) (.cons (.d (.sl Je)) (.nil)))))),(100001,.row 29 Jm)]⟩ [(.x 0,⟨[(8,.p 100100 []),(9,.s 100101)],[(100100,.var 57 (.d Q5)),(100101,.row 29 Jm)]⟩)] (.t 1 (.two (.two (.nil) (.nil)) (.two (.un (.t 4 (.two (.reg (.n 3 (.call 2 (.n 7 .done)))) (.t 2 (.reg (.n 5 .done)))))) (.reg (.n 2 .done))))))))) (.t 4 (.nil)))))
def Jhc:Shp:=⟨[(0,.d Jt),(1,.d Q5),(2,.d (.sl Qk))],[]⟩
def Q7e:Shp:=⟨[(0,.d Q5),(1,.s 1)],[(1,.row 29 Jm)]⟩
def Jhd:An:=.t 3 (.two (.reg (.n 3 (.call 0 (.n 4 .done)))) (.nil))
def Jhe:Shp:=⟨[(0,.d Jt),(1,.d (.sl Qk))],[]⟩
def Q7f:Shp:=⟨[(0,.d Q5),(1,.d (.sl Jm))],[]⟩
def D2:An:=.t 1 (.two (.t 1 (.un (.lp [0,1] [] ⟨[(5,.d .i)],[]⟩ [(.x 0,⟨[],[]⟩),(.r,⟨[(4,.d .i)],[]⟩)] (.two (.t 4 (.two (.nil) (.nil))) (.two (.un (.t 8 (.two (.t 2 (.nil)) (.nil)))) (.reg (.n 3 .done))))))) (.t 1 (.nil)))
def D3:Shp:=⟨[(0,.d (.sl Jm)),(1,.d .i)],[]⟩
def Co:Shp:=⟨[(0,.d .i)],[]⟩
def Cp:An:=.t 1 (.two (.t 4 (.two (.t 1 (.nil)) (.nil))) (.two (.t 1 (.un (.lp [0] [] ⟨[(5,.d .i)],[]⟩ [(.x 0,⟨[],[]⟩),(.r,⟨[(4,.d .bool)],[]⟩)] (.two (.t 4 (.two (.nil) (.nil))) (.two (.un (.t 6 (.two (.jn [5] [6] [(.n,⟨[(48,.d .bool)],[]⟩)] (.dr 6 (.n 6 .done) (.call 0 (.n 21 .done)))) (.two (.t 1 (.nil)) (.nil))))) (.reg (.n 3 .done))))))) (.t 1 (.nil))))
def Cq:Shp:=⟨[(0,.d (.sl Jm)),(1,.d .i)],[]⟩
def Bv:Shp:=⟨[(0,.d .bool)],[]⟩
def Qrw:An:=.t 3 (.two (.reg (.n 3 (.call 0 (.n 4 .done)))) (.nil))
def Qrx:Shp:=⟨[(0,.d Jt),(1,.d (.sl Qk))],[]⟩
def Qlt:Shp:=⟨[(0,.d Q5),(1,.s 1)],[(1,.row 29 Jm)]⟩
def Jhf:An:=.t 2 (.two (.dm 4 [5,6,7,8] [] (.n 4 (.tl (.n 1 (.call 0 (.n 1 .done)))))) (.nil))
def Jhg:Shp:=⟨[(0,.d (.sl Qk)),(1,.d Qk)],[]⟩
def Q7g:Shp:=⟨[(0,.d (.sl Qk))],[]⟩
def Md:An:=.t 2 (.t 4 (.nil))
def Me:Shp:=⟨[(0,.d Jm)],[]⟩
def Lb:Shp:=⟨[(0,.d .i)],[]⟩
def Qep:An:=.t 2 (.t 4 (.t 16 (.nil)))
def Qeq:Shp:=⟨[(0,.d Jm)],[]⟩
def Qbw:Shp:=⟨[(0,.d Qw)],[]⟩
def Mf:An:=.t 1 (.two (.un (.t 3 (.two (.nil) (.t 3 (.two (.nil) (.nil)))))) (.two (.reg (.n 3 (.call 0 (.n 2 .done)))) (.two (.dr 8 (.n 8 .done) (.n 1 .done)) (.two (.dr 8 (.n 8 .done) (.n 1 .done)) (.t 2 (.nil))))))
def Mg:Shp:=⟨[(0,.p 5000 []),(1,.p 5001 [])],[(5000,.var 29 (.d Jm)),(5001,.var 29 (.d Jm))]⟩
def Lc:Shp:=⟨[(0,.d Qw)],[]⟩
def Cr:An:=.t 1 (.two (.un (.t 3 (.two (.two (.reg (.n 3 (.call 0 (.n 1 .done)))) (.nil)) (.nil)))) (.nil))
def Cs:Shp:=⟨[(0,.np),(1,.p 5000 [])],[(5000,.var 29 (.d Jm))]⟩
def Bw:Shp:=⟨[(0,.d Qw)],[]⟩
def Ct:An:=.t 1 (.two (.un (.t 3 (.two (.nil) (.t 3 (.two (.two (.reg (.n 3 (.call 0 (.n 2 .done)))) (.t 10 (.t 2 (.nil)))) (.nil)))))) (.nil))
def Cu:Shp:=⟨[(0,.p 5000 []),(1,.np)],[(5000,.var 29 (.d Jm))]⟩
def Bx:Shp:=⟨[(0,.d Qw)],[]⟩
def Pg:An:=.t 3 (.two (.t 5 (.two (.t 6 (.nil)) (.nil))) (.t 6 (.nil)))
def Ph:Shp:=⟨[(0,.d Qw),(1,.d Qw)],[]⟩
def Ns:Shp:=⟨[(0,.d .bool)],[]⟩
def Nt:An:=.t 1 (.t 1 (.two (.t 3 (.un (.lp [8,9] [] ⟨[(3,.s 100000),(10,.d .i)],[(100000,.row 51 Qw)]⟩ [(.x 0,⟨[(3,.s 100500)],[(100500,.row 51 Qw)]⟩)] (.t 1 (.two (.two (.nil) (.nil)) (.two (.jn [10] [] [(.n,⟨[(3,.s 100400)],[(100400,.row 51 Qw)]⟩)] (.un (.t 4 (.two (.t 8 (.two (.nil) (.nil))) (.t 3 (.two (.un (.lp [3,5,10] [5,100000] ⟨[(6,.d .i)],[]⟩ [(.x 2,⟨[(6,.d .i)],[]⟩)] (.two (.two (.jn [6] [] [(.n,⟨[(34,.d .bool)],[]⟩)] (.dm 9 [24,25,26,27,28,29,30,31,32] [] (.n 3 (.so 26 (.n 6 (.tl (.call 0 (.n 1 .done)))) (.n 6 (.tl (.nl 1 (.n 1 .done)))))))) (.two (.nil) (.nil))) (.un (.reg (.n 3 .done)))))) (.two (.reg (.n 2 (.fz 100000 (.n 3 .done)))) (.t 5 (.reg (.n 6 .done)))))))))) (.reg (.n 2 .done)))))))) (.t 2 (.nil))))
def Nu:Shp:=⟨[(0,.d (.sl Qw))],[]⟩
def Mh:Shp:=⟨[(0,.s 1)],[(1,.row 51 Qw)]⟩
def E1:An:=.t 1 (.t 2 (.two (.t 3 (.un (.lp [0,1,2,3,23,24] [] ⟨[(9,.m 100000),(25,.d .i)],[(100000,.map .i .i)]⟩ [(.x 0,⟨[(9,.m 100100)],[(100100,.map .i .i)]⟩)] (.t 1 (.two (.two (.nil) (.nil)) (.two (.un (.t 6 (.reg (.n 3 (.call 0 (.n 2 .done)))))) (.reg (.n 2 .done)))))))) (.t 2 (.t 1 (.two (.t 3 (.un (.lp [0,2,3,9,37,38] [100100] ⟨[(12,.m 100200),(13,.s 100201),(39,.d .i)],[(100200,.map .i .bool),(100201,.row 51 Qw)]⟩ [(.x 2,⟨[(12,.m 100400),(13,.s 100401)],[(100400,.map .i .bool),(100401,.row 51 Qw)]⟩)] (.t 1 (.two (.two (.nil) (.nil)) (.two (.jn [39] [] [(.n,⟨[(12,.m 100300),(13,.s 100301)],[(100300,.map .i .bool),(100301,.row 51 Qw)]⟩)] (.un (.t 4 (.two (.reg (.n 2 (.call 0 (.n 1 .done)))) (.t 8 (.t 1 (.two (.t 6 (.t 3 (.reg (.n 2 (.call 1 (.n 3 .done)))))) (.reg (.n 2 (.call 2 (.n 3 .done))))))))))) (.reg (.n 2 .done)))))))) (.two (.t 3 (.un (.lp [2,3,12,70,71] [100100,100400] ⟨[(13,.s 100500),(72,.d .i)],[(100500,.row 51 Qw)]⟩ [(.x 4,⟨[(13,.s 100700)],[(100700,.row 51 Qw)]⟩)] (.t 1 (.two (.two (.nil) (.nil)) (.two (.jn [72] [] [(.n,⟨[(13,.s 100600)],[(100600,.row 51 Qw)]⟩)] (.un (.t 4 (.two (.reg (.n 3 (.call 0 (.n 2 .done)))) (.two (.reg (.n 2 (.call 3 (.n 3 .done)))) (.nil)))))) (.reg (.n 2 .done)))))))) (.two (.reg (.n 1 (.call 4 (.n 1 .done)))) (.nil))))))))
def E2:Shp:=⟨[(0,.d (.sl Jm)),(1,.d (.sl Jm)),(2,.f 38 (.nil)),(3,.f 39 (.nil))],[]⟩
def H0:Shp:=⟨[(0,.s 1)],[(1,.row 51 Qw)]⟩
def Pi:An:=.t 1 (.two (.reg (.n 2 (.call 0 (.n 1 .done)))) (.nil))
def Pj:Shp:=⟨[(0,.d (.sl Jm)),(1,.d (.sl Jm))],[]⟩
def Nv:Shp:=⟨[(0,.s 1)],[(1,.row 51 Qw)]⟩
def Jhh:An:=.t 3 (.two (.reg (.n 2 (.call 0 (.n 6 .done)))) (.two (.dm 10 [18,19,20,21,22,17,23,24,9,1000000009] [] (.n 3 (.call 1 (.call 2 (.n 5 (.tl (.n 1 .done))))))) (.two (.reg (.n 2 (.call 3 (.n 1 .done)))) (.nil))))
def Jhi:Shp:=⟨[(0,.d Jt),(1,.d (.sl Qk)),(2,.d Qk)],[]⟩
def Q7h:Shp:=⟨[(0,.s 1)],[(1,.row 51 Qw)]⟩
def Jhj:An:=.t 1 (.two (.t 1 (.un (.t 2 (.two (.gh (.tl .done) .nil) (.t 2 (.two (.t 1 (.nil)) (.gh (.tl .done) .nil))))))) (.nil))
def Jhk:Shp:=⟨[(0,.d .i)],[]⟩
def Q7i:Shp:=⟨[(0,.d .str)],[]⟩
def Jhl:An:=.t 1 (.t 1 (.t 1 (.two (.t 3 (.un (.lp [1,14,15] [] ⟨[(5,.s 100000),(6,.s 100001),(16,.d .i)],[(100000,.row 86 Xl),(100001,.row 3 .i)]⟩ [(.x 0,⟨[(5,.s 100600)],[(100600,.row 86 Xl)]⟩)] (.t 1 (.two (.two (.nil) (.nil)) (.two (.un (.t 4 (.two (.t 4 (.two (.gh (.tl .done) .nil) (.nil))) (.t 1 (.two (.un (.lp [5,6,8,9,16] [8,100000,100001] ⟨[],[]⟩ [(.x 2,⟨[],[]⟩)] (.two (.two (.dr 33 (.n 5 (.sp 28 28 [] [] ⟨[(56,.d .bool)],[]⟩ (.tl .done) (.nl 27 (.n 1 .done)) (.done))) (.done)) (.two (.gh (.tl .done) .nil) (.nil))) (.nil)))) (.two (.two (.dr 23 (.n 5 (.sp 63 9 [5,6,8,9,16] [8,100000,100001] ⟨[(72,.d .bool)],[]⟩ (.nl 8 (.n 1 .done)) (.tl .done) (.n 1 (.sp 73 8 [5,6,8,9,16] [8,100000,100001] ⟨[(81,.d .bool)],[]⟩ (.nl 7 (.n 1 .done)) (.tl .done) (.done))))) (.done)) (.two (.two (.dm 7 [82,83,84,85,86,87,10] [] (.n 4 (.call 0 (.n 2 (.tl (.n 1 .done)))))) (.two (.gh (.fz 100000 (.done)) (.dc 10 [88,89,90,91,92,93,94,95,96,97] [10] [] (.op ⟨.nl 1 .done,[],[],[],[]⟩ (.op ⟨.nl 1 .done,[],[],[],[]⟩ (.op ⟨.nl 1 .done,[],[],[],[]⟩ (.op ⟨.nl 1 .done,[],[],[91],[91]⟩ (.op ⟨.nl 1 .done,[],[10],[],[]⟩ (.op ⟨.nl 1 .done,[],[],[],[]⟩ (.op ⟨.nl 1 .done,[91],[],[94],[94]⟩ (.op ⟨.nl 1 .done,[],[],[],[]⟩ (.op ⟨.nl 1 .done,[],[],[],[]⟩ (.op ⟨.nl 1 .done,[],[],[],[]⟩ (.tl (.n 2 .done)))))))))))))) (.gh (.fz 100001 (.done)) (.dc 11 [99,100,101,102,103,104,105,106,107,108,109] [8] [] (.op ⟨.nl 1 .done,[],[],[],[]⟩ (.op ⟨.nl 1 .done,[],[],[],[]⟩ (.op ⟨.nl 1 .done,[],[],[],[]⟩ (.op ⟨.nl 1 .done,[],[],[102],[102]⟩ (.op ⟨.nl 1 .done,[],[],[],[8]⟩ (.op ⟨.nl 1 .done,[],[8],[],[]⟩ (.op ⟨.nl 1 .done,[],[],[],[]⟩ (.op ⟨.nl 1 .done,[102],[],[106],[106]⟩ (.op ⟨.nl 1 .done,[],[],[],[]⟩ (.op ⟨.nl 1 .done,[],[],[],[]⟩ (.op ⟨.nl 1 .done,[],[],[],[]⟩ (.tl (.n 2 .done))))))))))))))))) (.gh (.tl .done) .nil))) (.t 9 (.dr 10 (.n 10 .done) (.n 1 .done))))))))) (.reg (.n 2 .done)))))))) (.t 1 (.two (.t 3 (.un (.lp [130,131] [100600] ⟨[(11,.s 100700),(132,.d .i)],[(100700,.row 86 Xl)]⟩ [(.x 4,⟨[(11,.s 100800)],[(100800,.row 86 Xl)]⟩)] (.t 1 (.two (.two (.nil) (.nil)) (.two (.un (.t 4 (.t 3 (.t 5 (.gh (.tl .done) .nil))))) (.reg (.n 2 .done)))))))) (.t 2 (.nil)))))))
def Jhm:Shp:=⟨[(0,.d (.sl Qw)),(1,.d .i)],[]⟩
def Q7j:Shp:=⟨[(0,.s 1)],[(1,.row 86 Xl)]⟩
def D4:An:=.t 1 (.two (.t 5 (.two (.t 1 (.nil)) (.nil))) (.two (.t 1 (.un (.lp [0,1] [] ⟨[(5,.d .i)],[]⟩ [(.x 0,⟨[],[]⟩),(.r,⟨[(4,.d .bool)],[]⟩)] (.two (.t 4 (.two (.nil) (.nil))) (.two (.un (.two (.dr 9 (.n 9 .done) (.done)) (.two (.t 1 (.nil)) (.nil)))) (.reg (.n 3 .done))))))) (.t 1 (.nil))))
def D5:Shp:=⟨[(0,.d (.sl Qw)),(1,.d (.sl Qw))],[]⟩
def Cv:Shp:=⟨[(0,.d .bool)],[]⟩
def Jhn:An:=.t 1 (.two (.t 5 (.two (.gh (.tl .done) .nil) (.nil))) (.two (.t 1 (.un (.lp [0,1] [] ⟨[(5,.d .i)],[]⟩ [(.x 0,⟨[],[]⟩)] (.two (.t 4 (.two (.nil) (.nil))) (.two (.un (.two (.dr 9 (.n 9 .done) (.done)) (.two (.gh (.tl .done) .nil) (.nil)))) (.reg (.n 3 .done))))))) (.t 1 (.nil))))
def Jho:Shp:=⟨[(0,.d (.sl Xl)),(1,.d (.sl Xl))],[]⟩
def Q7k:Shp:=⟨[(0,.d .bool)],[]⟩
def Cw:An:=.t 1 (.t 3 (.t 3 (.t 2 (.t 2 (.t 2 (.t 2 (.two (.dm 4 [11,12,13,14] [] (.call 0 (.n 3 (.tl (.call 1 (.n 1 .done)))))) (.two (.reg (.n 2 (.call 2 (.n 1 .done)))) (.two (.reg (.n 3 (.call 3 (.n 1 (.fz 11801 (.sp 23 5 [4] [1,2,11501,11801] ⟨[(28,.d .bool)],[]⟩ (.nl 3 (.call 4 (.n 1 .done))) (.nl 4 (.n 1 .done)) (.n 1 .done))))))) (.nil))))))))))
def Cy:Shp:=⟨[],[]⟩
def By:Shp:=⟨[(0,.d .bool)],[]⟩
def Nw:An:=.t 2 (.t 3 (.nil))
def Nx:Shp:=⟨[(0,.d Qw)],[]⟩
def Mi:Shp:=⟨[(0,.d .i)],[]⟩
def Ny:An:=.t 1 (.two (.un (.t 3 (.two (.nil) (.t 3 (.two (.nil) (.nil)))))) (.t 5 (.two (.dr 8 (.n 8 .done) (.n 1 .done)) (.two (.dr 8 (.n 8 .done) (.n 1 .done)) (.t 2 (.nil))))))
def Nz:Shp:=⟨[(0,.p 5000 []),(1,.p 5001 [])],[(5000,.var 51 (.d Qw)),(5001,.var 51 (.d Qw))]⟩
def Mj:Shp:=⟨[(0,.d Qw)],[]⟩
def D6:An:=.t 1 (.two (.un (.t 3 (.two (.t 4 (.nil)) (.nil)))) (.nil))
def D7:Shp:=⟨[(0,.np),(1,.p 5000 [])],[(5000,.var 51 (.d Qw))]⟩
def Cz:Shp:=⟨[(0,.d Qw)],[]⟩
def D8:An:=.t 1 (.two (.un (.t 3 (.two (.nil) (.t 3 (.two (.t 4 (.nil)) (.nil)))))) (.nil))
def D9:Shp:=⟨[(0,.p 5000 []),(1,.np)],[(5000,.var 51 (.d Qw))]⟩
def C0:Shp:=⟨[(0,.d Qw)],[]⟩
def H1:An:=.t 1 (.t 2 (.two (.t 3 (.un (.lp [0,1,2,3,23,24] [] ⟨[(9,.m 100000),(25,.d .i)],[(100000,.map .i .i)]⟩ [(.x 0,⟨[(9,.m 100100)],[(100100,.map .i .i)]⟩)] (.t 1 (.two (.two (.nil) (.nil)) (.two (.un (.t 6 (.reg (.n 3 (.call 0 (.n 2 .done)))))) (.reg (.n 2 .done)))))))) (.t 2 (.t 1 (.two (.t 3 (.un (.lp [0,2,3,9,37,38] [100100] ⟨[(12,.m 100200),(13,.s 100201),(39,.d .i)],[(100200,.map .i .bool),(100201,.row 51 Qw)]⟩ [(.x 2,⟨[(12,.m 100400),(13,.s 100401)],[(100400,.map .i .bool),(100401,.row 51 Qw)]⟩)] (.t 1 (.two (.two (.nil) (.nil)) (.two (.jn [39] [] [(.n,⟨[(12,.m 100300),(13,.s 100301)],[(100300,.map .i .bool),(100301,.row 51 Qw)]⟩)] (.un (.t 4 (.two (.reg (.n 2 (.call 0 (.n 1 .done)))) (.t 8 (.t 1 (.two (.t 6 (.t 3 (.reg (.n 2 (.call 1 (.n 3 .done)))))) (.reg (.n 2 (.call 2 (.n 3 .done))))))))))) (.reg (.n 2 .done)))))))) (.two (.t 3 (.un (.lp [2,3,12,70,71] [100100,100400] ⟨[(13,.s 100500),(72,.d .i)],[(100500,.row 51 Qw)]⟩ [(.x 4,⟨[(13,.s 100700)],[(100700,.row 51 Qw)]⟩)] (.t 1 (.two (.two (.nil) (.nil)) (.two (.jn [72] [] [(.n,⟨[(13,.s 100600)],[(100600,.row 51 Qw)]⟩)] (.un (.t 4 (.two (.reg (.n 3 (.call 0 (.n 2 .done)))) (.two (.reg (.n 2 (.call 3 (.n 3 .done)))) (.nil)))))) (.reg (.n 2 .done)))))))) (.two (.reg (.n 1 (.call 4 (.n 1 .done)))) (.nil))))))))
def H2:Shp:=⟨[(0,.d (.sl Qw)),(1,.d (.sl Qw)),(2,.f 44 (.nil)),(3,.f 45 (.nil))],[]⟩
def Hg:Shp:=⟨[(0,.s 1)],[(1,.row 51 Qw)]⟩
def Rr:An:=.t 1 (.two (.reg (.n 2 (.call 0 (.n 1 .done)))) (.nil))
def Rs:Shp:=⟨[(0,.d (.sl Qw)),(1,.d (.sl Qw))],[]⟩
def Pk:Shp:=⟨[(0,.s 1)],[(1,.row 51 Qw)]⟩
def Bz:An:=.t 2 (.two (.t 1 (.un (.lp [0,1] [] ⟨[(6,.d .i)],[]⟩ [(.x 0,⟨[],[]⟩),(.r,⟨[(4,.d .i),(5,.d .i)],[]⟩)] (.two (.t 4 (.two (.nil) (.nil))) (.two (.un (.t 7 (.two (.two (.dr 12 (.n 12 .done) (.done)) (.nil)) (.nil)))) (.reg (.n 3 .done))))))) (.t 2 (.nil)))
def B1:Shp:=⟨[(0,.d (.sl Qw)),(1,.d .i)],[]⟩
def As:Shp:=⟨[(0,.d .i),(1,.d .i)],[]⟩
def Hh:An:=.t 1 (.two (.two (.reg (.n 1 (.call 0 (.n 2 (.sp 18 4 [0,1,2] [] ⟨[(22,.d .bool)],[]⟩ (.nl 3 (.n 1 .done)) (.nl 1 (.call 0 (.nl 1 (.n 1 .done)))) (.n 1 (.sp 23 4 [0,1,2] [] ⟨[(27,.d .bool)],[]⟩ (.nl 3 (.n 1 .done)) (.nl 1 (.call 0 (.nl 1 (.n 1 .done)))) (.done)))))))) (.two (.two (.reg (.call 1 (.n 1 .done))) (.nil)) (.nil))) (.two (.reg (.n 2 (.call 2 (.n 1 .done)))) (.two (.reg (.n 2 (.call 2 (.n 2 (.call 2 (.call 3 (.n 1 .done))))))) (.two (.reg (.n 2 (.call 2 (.n 1 .done)))) (.two (.t 17 (.two (.t 1 (.nil)) (.nil))) (.two (.t 1 (.un (.lp [7] [13101,13401,13701] ⟨[(8,.s 100200),(9,.s 100201),(10,.d .i)],[(100200,.tail 51 Qw),(100201,.tail 51 Qw)]⟩ [(.x 0,⟨[],[]⟩),(.r,⟨[(6,.d .bool)],[]⟩)] (.two (.t 4 (.two (.nil) (.nil))) (.two (.un (.two (.reg (.n 6 (.call 4 (.n 5 .done)))) (.two (.reg (.n 6 (.call 4 (.n 5 .done)))) (.two (.reg (.n 8 (.sp 92 8 [8,9,10,12,13,14] [100200,100201] ⟨[(100,.d .bool)],[]⟩ (.nl 7 (.n 1 .done)) (.nl 7 (.n 1 .done)) (.n 1 (.sp 101 9 [8,9,10,13,14] [100200,100201] ⟨[(110,.d .bool)],[]⟩ (.nl 8 (.n 1 .done)) (.nl 8 (.n 1 .done)) (.n 1 (.sp 111 9 [8,9,10,14] [100200,100201] ⟨[(120,.d .bool)],[]⟩ (.nl 8 (.n 1 .done)) (.nl 8 (.n 1 .done)) (.done)))))))) (.two (.t 1 (.nil)) (.nil)))))) (.reg (.n 3 .done))))))) (.two (.reg (.call 1 (.n 1 .done))) (.nil))))))))
def Hi:Shp:=⟨[(0,.d (.sl Jm)),(1,.d (.sl Jm)),(2,.d (.sl Jm))],[]⟩
def G6:Shp:=⟨[(0,.d .bool)],[]⟩
theorem Jhp:Runs Tryz.prog 27:=⟨_,Tryz.func27,by decide,rfl⟩
def Qnq (N:Nat):Con:=⟨27,Jem,Q06,fun _=>Z27 N,[]⟩
theorem Jhq (N:Nat):Qn Tryz.prog tx.gl (Qnq N):=Qc (Y:=tx) (N:=N) (K:=[]) (an:=Jel) Qt Qr Qq Tryz.func27 rfl (fun x=>by kernel_rfl)
theorem Q7l:Runs Tryz.prog 205:=⟨_,Tryz.func205,by decide,rfl⟩
def Qhr (N:Nat):Con:=⟨205,Q08,Qu2,fun (x0,x1)=>Jk3 N x0 x1,[]⟩
theorem Q7m (N:Nat):Qn Tryz.prog tx.gl (Qhr N):=Qc (Y:=tx) (N:=N) (K:=[]) (an:=Q07) Qt Qr Qq Tryz.func205 rfl (fun x=>by kernel_rfl)
theorem Q7n:Runs Tryz.prog 179:=⟨_,Tryz.func179,by decide,rfl⟩
def Qhs (N:Nat):Con:=⟨179,Q1a,Qu3,fun (x0,x1)=>Jk4 N x0 x1,[]⟩
theorem Q7o (N:Nat):Qn Tryz.prog tx.gl (Qhs N):=Qc (Y:=tx) (N:=N) (K:=[Qhr N]) (an:=Q09) Qt Qr (Qd (Q7m N) Q7l Qq) Tryz.func179 rfl (fun x=>by kernel_rfl)
theorem Q7p:Runs Tryz.prog 125:=⟨_,Tryz.func125,by decide,rfl⟩
def Qht (N:Nat):Con:=⟨125,Q1c,Qu4,fun (x0,x1)=>Jk5 N x0 x1,[]⟩
theorem Q7q (N:Nat):Qn Tryz.prog tx.gl (Qht N):=Qc (Y:=tx) (N:=N) (K:=[Qhs N]) (an:=Q1b) Qt Qr (Qd (Q7o N) Q7n Qq) Tryz.func125 rfl (fun x=>by kernel_rfl)
theorem Q7r:Runs Tryz.prog 124:=⟨_,Tryz.func124,by decide,rfl⟩
def Qhu (N:Nat):Con:=⟨124,Q1e,Qu5,fun x0=>Jk6 N x0,[]⟩
theorem Q7s (N:Nat):Qn Tryz.prog tx.gl (Qhu N):=Qc (Y:=tx) (N:=N) (K:=[]) (an:=Q1d) Qt Qr Qq Tryz.func124 rfl (fun x=>by kernel_rfl)
theorem Qxh:Runs Tryz.prog 82:=⟨_,Tryz.func82,by decide,rfl⟩
def Qer (N:Nat):Con:=⟨82,Jeo,Q1f,fun (x0,x1)=>Z82 N x0 x1,[]⟩
theorem Qxi (N:Nat):Qn Tryz.prog tx.gl (Qer N):=Qc (Y:=tx) (N:=N) (K:=[Qht N,Qhu N]) (an:=Jen) Qt Qr (Qd (Q7q N) Q7p (Qd (Q7s N) Q7r Qq)) Tryz.func82 rfl (fun x=>by kernel_rfl)
theorem Sg:Runs Tryz.prog 129:=⟨_,Tryz.func129,by decide,rfl⟩
def Ia (N:Nat):Con:=⟨129,Q1h,Qu6,fun x0=>Qrg N x0,[]⟩
theorem Sh (N:Nat):Qn Tryz.prog tx.gl (Ia N):=Qc (Y:=tx) (N:=N) (K:=[]) (an:=Q1g) Qt Qr Qq Tryz.func129 rfl (fun x=>by kernel_rfl)
theorem Qxj:Runs Tryz.prog 83:=⟨_,Tryz.func83,by decide,rfl⟩
def Qes (N:Nat):Con:=⟨83,Jeq,Q1i,fun (x0,x1)=>Z83 N x0 x1,[]⟩
theorem Qxk (N:Nat):Qn Tryz.prog tx.gl (Qes N):=Qc (Y:=tx) (N:=N) (K:=[Ia N]) (an:=Jep) Qt Qr (Qd (Sh N) Sg Qq) Tryz.func83 rfl (fun x=>by kernel_rfl)
theorem Jhr:Runs Tryz.prog 63:=⟨_,Tryz.func63,by decide,rfl⟩
def Qnr (N:Nat):Con:=⟨63,Jes,Q1j,fun (x0,x1,x2)=>Z63 N x0 x1 x2,[]⟩
theorem Jhs (N:Nat):Qn Tryz.prog tx.gl (Qnr N):=Qc (Y:=tx) (N:=N) (K:=[Qer N,Qes N]) (an:=Jer) Qt Qr (Qd (Qxi N) Qxh (Qd (Qxk N) Qxj Qq)) Tryz.func63 rfl (fun x=>by kernel_rfl)
theorem Q7t:Runs Tryz.prog 130:=⟨_,Tryz.func130,by decide,rfl⟩
def Qhv (N:Nat):Con:=⟨130,Q1l,Qu7,fun _=>Jk7 N,[]⟩
theorem Q7u (N:Nat):Qn Tryz.prog tx.gl (Qhv N):=Qc (Y:=tx) (N:=N) (K:=[]) (an:=Q1k) Qt Qr Qq Tryz.func130 rfl (fun x=>by kernel_rfl)
theorem Q7v:Runs Tryz.prog 131:=⟨_,Tryz.func131,by decide,rfl⟩
def Qhw (N:Nat):Con:=⟨131,Q1n,Qu8,fun (x0,x1)=>Jk8 N x0 x1,[]⟩
theorem Q7w (N:Nat):Qn Tryz.prog tx.gl (Qhw N):=Qc (Y:=tx) (N:=N) (K:=[]) (an:=Q1m) Qt Qr Qq Tryz.func131 rfl (fun x=>by kernel_rfl)
theorem Q7x:Runs Tryz.prog 180:=⟨_,Tryz.func180,by decide,rfl⟩
def Qet (N:Nat):It:=⟨180,[(.sl Yh),(.int .i64)],Yh,fun (x1,x2)=>Jk9 N x1 x2⟩
theorem Qxl (N:Nat):Qus Tryz.prog tx.gl (Qet N):=Qzq (Y:=tx) (N:=N) (K:=[]) (it:=Qet N) (an:=Q1o) Qt Qr Qq Tryz.func180 rfl (fun x=>by kernel_rfl)
theorem Q7y:Runs Tryz.prog 181:=⟨_,Tryz.func181,by decide,rfl⟩
def Qhx (N:Nat):Con:=⟨181,Q1q,Qu9,fun (x0,x1)=>Jc7 N x0 x1,[]⟩
theorem Q7z (N:Nat):Qn Tryz.prog tx.gl (Qhx N):=Qc (Y:=tx) (N:=N) (K:=[]) (an:=Q1p) Qt Qr Qq Tryz.func181 rfl (fun x=>by kernel_rfl)
theorem Q70:Runs Tryz.prog 207:=⟨_,Tryz.func207,by decide,rfl⟩
def Qhy (N:Nat):Con:=⟨207,Q1s,Qva,fun (x0,x1)=>Jla N x0 x1,[]⟩
theorem Q71 (N:Nat):Qn Tryz.prog tx.gl (Qhy N):=Qc (Y:=tx) (N:=N) (K:=[]) (an:=Q1r) Qt Qr Qq Tryz.func207 rfl (fun x=>by kernel_rfl)
theorem Qlu:Runs Tryz.prog 182:=⟨_,Tryz.func182,by decide,rfl⟩
def Rb (N:Nat):Con:=⟨182,Qk7,Qhj,fun (x1,x2,m5000_5,m5000_6,m5001,m5002,m5003,m5004,m5005)=>Qnh N x1 x2 m5000_5 m5000_6 m5001 m5002 m5003 m5004 m5005,[5000,5001,5002,5003,5004,5005]⟩
theorem Qlv (N:Nat):Qn Tryz.prog tx.gl (Rb N):=Qc (Y:=tx) (N:=N) (K:=[Qhy N]) (an:=Qk6) Qt Qr (Qd (Q71 N) Q70 Qq) Tryz.func182 rfl (fun x=>by kernel_rfl)
theorem Qlw:Runs Tryz.prog 132:=⟨_,Tryz.func132,by decide,rfl⟩
def Rc (N:Nat):Con:=⟨132,Qk9,Qhk,fun (x1,m5000_5,m5000_6,m5001,m5002,m5003,m5004,m5005)=>Qni N x1 m5000_5 m5000_6 m5001 m5002 m5003 m5004 m5005,[]⟩
theorem Qlx (N:Nat):Qn Tryz.prog tx.gl (Rc N):=Qc (Y:=tx) (N:=N) (K:=[Qhx N,Rb N]) (an:=Qk8) Qt Qr (Qd (Q7z N) Q7y (Qd (Qlv N) Qlu Qq)) Tryz.func132 rfl (fun x=>by kernel_rfl)
theorem Q72:Runs Tryz.prog 133:=⟨_,Tryz.func133,by decide,rfl⟩
def Qhz (N:Nat):Con:=⟨133,Q1u,Qvb,fun (m5000_5,m5000_6,m5001,m5002,m5003,m5004,m5005)=>Jlb N m5000_5 m5000_6 m5001 m5002 m5003 m5004 m5005,[5000,5001,5002,5003,5004,5005]⟩
theorem Q73 (N:Nat):Qn Tryz.prog tx.gl (Qhz N):=Qc (Y:=tx) (N:=N) (K:=[]) (an:=Q1t) Qt Qr Qq Tryz.func133 rfl (fun x=>by kernel_rfl)
theorem Qxm:Runs Tryz.prog 84:=⟨_,Tryz.func84,by decide,rfl⟩
def Qeu (N:Nat):Con:=⟨84,Jeu,Q1v,fun (x0,x1)=>Z84 N x0 x1,[]⟩
theorem Qxn (N:Nat):Qn Tryz.prog tx.gl (Qeu N):=Qut (Y:=tx) (N:=N) (K:=[Qhv N,Qhw N,Rc N,Qhz N]) (its:=[Qet N]) (an:=Jet) Qt Qr (Qd (Q7u N) Q7t (Qd (Q7w N) Q7v (Qd (Qlx N) Qlw (Qd (Q73 N) Q72 Qq)))) (List.forall_mem_cons.2 ⟨⟨Qxl N,Q7x⟩,(List.forall_mem_nil _)⟩) Tryz.func84 rfl (fun x=>by kernel_rfl)
theorem Jht:Runs Tryz.prog 64:=⟨_,Tryz.func64,by decide,rfl⟩
def Qns (N:Nat):Con:=⟨64,Jew,Q1w,fun (x0,x1,x2)=>Z64 N x0 x1 x2,[]⟩
theorem Jhu (N:Nat):Qn Tryz.prog tx.gl (Qns N):=Qc (Y:=tx) (N:=N) (K:=[Qeu N]) (an:=Jev) Qt Qr (Qd (Qxn N) Qxm Qq) Tryz.func64 rfl (fun x=>by kernel_rfl)
theorem Jhv:Runs Tryz.prog 65:=⟨_,Tryz.func65,by decide,rfl⟩
def Qnt (N:Nat):Con:=⟨65,Jey,Q1x,fun (x0,x1,x2)=>Z65 N x0 x1 x2,[]⟩
theorem Jhw (N:Nat):Qn Tryz.prog tx.gl (Qnt N):=Qc (Y:=tx) (N:=N) (K:=[Qeu N]) (an:=Jex) Qt Qr (Qd (Qxn N) Qxm Qq) Tryz.func65 rfl (fun x=>by kernel_rfl)
theorem Jhx:Runs Tryz.prog 49:=⟨_,Tryz.func49,by decide,rfl⟩
def Qnu (N:Nat):Con:=⟨49,Je0,Q1y,fun (m5000_0,m5000_1,m5000_2,m5000_3_0,m5000_3_1,m5000_3_3,m5000_3_4,m5000_4_0,m5000_4_1,m5000_4_2,m5000_4_3,m5000_4_4,m5000_5_0,m5000_5_1,m5000_5_2,m5000_6,m5000_7_0,m5000_7_1,m5000_7_2,m5000_7_3,m5000_7_4,m5000_7_7,m5000_7_8,m5000_7_9,m5000_7_11,m5000_7_12,m5001,m5002,m5003,m5004,m5005,m5006,m5007,m5008,m5009)=>Z49 N m5000_0 m5000_1 m5000_2 m5000_3_0 m5000_3_1 m5000_3_3 m5000_3_4 m5000_4_0 m5000_4_1 m5000_4_2 m5000_4_3 m5000_4_4 m5000_5_0 m5000_5_1 m5000_5_2 m5000_6 m5000_7_0 m5000_7_1 m5000_7_2 m5000_7_3 m5000_7_4 m5000_7_7 m5000_7_8 m5000_7_9 m5000_7_11 m5000_7_12 m5001 m5002 m5003 m5004 m5005 m5006 m5007 m5008 m5009,[]⟩
theorem Jhy (N:Nat):Qn Tryz.prog tx.gl (Qnu N):=Qc (Y:=tx) (N:=N) (K:=[Qnr N,Qns N,Qnt N]) (an:=Jez) Qt Qr (Qd (Jhs N) Jhr (Qd (Jhu N) Jht (Qd (Jhw N) Jhv Qq))) Tryz.func49 rfl (fun x=>by kernel_rfl)
theorem Jhz:Runs Tryz.prog 48:=⟨_,Tryz.func48,by decide,rfl⟩
def Qnv (N:Nat):Con:=⟨48,Je2,Q1z,fun (m5001_0,m5001_1,m5001_2,m5001_3_0,m5001_3_1,m5001_3_3,m5001_3_4,m5001_4_0,m5001_4_1,m5001_4_2,m5001_4_3,m5001_4_4,m5001_5_0,m5001_5_1,m5001_5_2,m5001_6,m5001_7_0,m5001_7_1,m5001_7_2,m5001_7_3,m5001_7_4,m5001_7_7,m5001_7_8,m5001_7_9,m5001_7_11,m5001_7_12,m5002,m5003,m5004,m5005,m5006,m5007,m5008,m5009,m5010)=>Z48 N m5001_0 m5001_1 m5001_2 m5001_3_0 m5001_3_1 m5001_3_3 m5001_3_4 m5001_4_0 m5001_4_1 m5001_4_2 m5001_4_3 m5001_4_4 m5001_5_0 m5001_5_1 m5001_5_2 m5001_6 m5001_7_0 m5001_7_1 m5001_7_2 m5001_7_3 m5001_7_4 m5001_7_7 m5001_7_8 m5001_7_9 m5001_7_11 m5001_7_12 m5002 m5003 m5004 m5005 m5006 m5007 m5008 m5009 m5010,[5000]⟩
theorem Jh0 (N:Nat):Qn Tryz.prog tx.gl (Qnv N):=Qc (Y:=tx) (N:=N) (K:=[Qnu N]) (an:=Je1) Qt Qr (Qd (Jhy N) Jhx Qq) Tryz.func48 rfl (fun x=>by kernel_rfl)
theorem Jh1:Runs Tryz.prog 47:=⟨_,Tryz.func47,by decide,rfl⟩
def Qnw (N:Nat):Con:=⟨47,Je4,Q10,fun (m5001_0,m5001_1,m5001_2,m5001_3_0,m5001_3_1,m5001_3_3,m5001_3_4,m5001_4_0,m5001_4_1,m5001_4_2,m5001_4_3,m5001_4_4,m5001_5_0,m5001_5_1,m5001_5_2,m5001_6,m5001_7_0,m5001_7_1,m5001_7_2,m5001_7_3,m5001_7_4,m5001_7_7,m5001_7_8,m5001_7_9,m5001_7_11,m5001_7_12,m5002,m5003,m5004,m5005,m5006,m5007,m5008,m5009,m5010,m5011)=>Z47 N m5001_0 m5001_1 m5001_2 m5001_3_0 m5001_3_1 m5001_3_3 m5001_3_4 m5001_4_0 m5001_4_1 m5001_4_2 m5001_4_3 m5001_4_4 m5001_5_0 m5001_5_1 m5001_5_2 m5001_6 m5001_7_0 m5001_7_1 m5001_7_2 m5001_7_3 m5001_7_4 m5001_7_7 m5001_7_8 m5001_7_9 m5001_7_11 m5001_7_12 m5002 m5003 m5004 m5005 m5006 m5007 m5008 m5009 m5010 m5011,[5000]⟩
theorem Jh2 (N:Nat):Qn Tryz.prog tx.gl (Qnw N):=Qc (Y:=tx) (N:=N) (K:=[Qnv N]) (an:=Je3) Qt Qr (Qd (Jh0 N) Jhz Qq) Tryz.func47 rfl (fun x=>by kernel_rfl)
theorem Q74:Runs Tryz.prog 134:=⟨_,Tryz.func134,by decide,rfl⟩
def Qh0 (N:Nat):Con:=⟨134,Q12,Qvc,fun x0=>Jlc N x0,[]⟩
theorem Q75 (N:Nat):Qn Tryz.prog tx.gl (Qh0 N):=Qc (Y:=tx) (N:=N) (K:=[]) (an:=Q11) Qt Qr Qq Tryz.func134 rfl (fun x=>by kernel_rfl)
theorem Q76:Runs Tryz.prog 135:=⟨_,Tryz.func135,by decide,rfl⟩
def Qh1 (N:Nat):Con:=⟨135,Q14,Qvd,fun x0=>Jld N x0,[]⟩
theorem Q77 (N:Nat):Qn Tryz.prog tx.gl (Qh1 N):=Qc (Y:=tx) (N:=N) (K:=[]) (an:=Q13) Qt Qr Qq Tryz.func135 rfl (fun x=>by kernel_rfl)
theorem Q78:Runs Tryz.prog 136:=⟨_,Tryz.func136,by decide,rfl⟩
def Qh2 (N:Nat):Con:=⟨136,Q16,Qve,fun x0=>Jle N x0,[]⟩
theorem Q79 (N:Nat):Qn Tryz.prog tx.gl (Qh2 N):=Qc (Y:=tx) (N:=N) (K:=[]) (an:=Q15) Qt Qr Qq Tryz.func136 rfl (fun x=>by kernel_rfl)
theorem Jh3:Runs Tryz.prog 85:=⟨_,Tryz.func85,by decide,rfl⟩
def Qnx (N:Nat):Con:=⟨85,Je6,Q17,fun x0=>Z85 N x0,[]⟩
theorem Jh4 (N:Nat):Qn Tryz.prog tx.gl (Qnx N):=Qc (Y:=tx) (N:=N) (K:=[Qh0 N,Qh1 N,Qh2 N]) (an:=Je5) Qt Qr (Qd (Q75 N) Q74 (Qd (Q77 N) Q76 (Qd (Q79 N) Q78 Qq))) Tryz.func85 rfl (fun x=>by kernel_rfl)
theorem Jh5:Runs Tryz.prog 66:=⟨_,Tryz.func66,by decide,rfl⟩
def Qny (N:Nat):Con:=⟨66,Je8,Q18,fun (x0,x1,x2)=>Z66 N x0 x1 x2,[]⟩
theorem Jh6 (N:Nat):Qn Tryz.prog tx.gl (Qny N):=Qc (Y:=tx) (N:=N) (K:=[Qnx N]) (an:=Je7) Qt Qr (Qd (Jh4 N) Jh3 Qq) Tryz.func66 rfl (fun x=>by kernel_rfl)
theorem Q8a:Runs Tryz.prog 138:=⟨_,Tryz.func138,by decide,rfl⟩
def Qh3 (N:Nat):Con:=⟨138,Q2a,Qvf,fun x0=>Jlf N x0,[]⟩
theorem Q8b (N:Nat):Qn Tryz.prog tx.gl (Qh3 N):=Qc (Y:=tx) (N:=N) (K:=[]) (an:=Q19) Qt Qr Qq Tryz.func138 rfl (fun x=>by kernel_rfl)
theorem Q8c:Runs Tryz.prog 183:=⟨_,Tryz.func183,by decide,rfl⟩
def Qh4 (N:Nat):Con:=⟨183,Q2c,Qvg,fun (x0,m5000)=>Jlg N x0 m5000,[5000]⟩
theorem Q8d (N:Nat):Qn Tryz.prog tx.gl (Qh4 N):=Qc (Y:=tx) (N:=N) (K:=[]) (an:=Q2b) Qt Qr Qq Tryz.func183 rfl (fun x=>by kernel_rfl)
theorem Q8e:Runs Tryz.prog 139:=⟨_,Tryz.func139,by decide,rfl⟩
def Qh5 (N:Nat):Con:=⟨139,Q2e,Qvh,fun (x0,m5000)=>Jlh N x0 m5000,[5000]⟩
theorem Q8f (N:Nat):Qn Tryz.prog tx.gl (Qh5 N):=Qc (Y:=tx) (N:=N) (K:=[Qh4 N]) (an:=Q2d) Qt Qr (Qd (Q8d N) Q8c Qq) Tryz.func139 rfl (fun x=>by kernel_rfl)
theorem Q8g:Runs Tryz.prog 141:=⟨_,Tryz.func141,by decide,rfl⟩
def Qh6 (N:Nat):Con:=⟨141,Q2g,Qvi,fun x0=>Jli N x0,[]⟩
theorem Q8h (N:Nat):Qn Tryz.prog tx.gl (Qh6 N):=Qc (Y:=tx) (N:=N) (K:=[]) (an:=Q2f) Qt Qr Qq Tryz.func141 rfl (fun x=>by kernel_rfl)
theorem Qxo:Runs Tryz.prog 87:=⟨_,Tryz.func87,by decide,rfl⟩
def Qev (N:Nat):Con:=⟨87,Jfa,Q2h,fun x0=>Z87 N x0,[]⟩
theorem Qxp (N:Nat):Qn Tryz.prog tx.gl (Qev N):=Qc (Y:=tx) (N:=N) (K:=[Qh6 N]) (an:=Je9) Qt Qr (Qd (Q8h N) Q8g Qq) Tryz.func87 rfl (fun x=>by kernel_rfl)
theorem Jh7:Runs Tryz.prog 86:=⟨_,Tryz.func86,by decide,rfl⟩
def Qnz (N:Nat):Con:=⟨86,Jfc,Q2i,fun x0=>Z86 N x0,[]⟩
theorem Jh8 (N:Nat):Qn Tryz.prog tx.gl (Qnz N):=Qc (Y:=tx) (N:=N) (K:=[Qh3 N,Qh5 N,Qev N]) (an:=Jfb) Qt Qr (Qd (Q8b N) Q8a (Qd (Q8f N) Q8e (Qd (Qxp N) Qxo Qq))) Tryz.func86 rfl (fun x=>by kernel_rfl)
theorem Jh9:Runs Tryz.prog 88:=⟨_,Tryz.func88,by decide,rfl⟩
def Qn0 (N:Nat):Con:=⟨88,Jfe,Q2j,fun (x1,x2,m5000)=>Z88 N x1 x2 m5000,[5000]⟩
theorem Jia (N:Nat):Qn Tryz.prog tx.gl (Qn0 N):=Qc (Y:=tx) (N:=N) (K:=[]) (an:=Jfd) Qt Qr Qq Tryz.func88 rfl (fun x=>by kernel_rfl)
theorem Qxq:Runs Tryz.prog 67:=⟨_,Tryz.func67,by decide,rfl⟩
def Qew (N:Nat):Con:=⟨67,Jfg,Q2k,fun (x0,x1)=>Z67 N x0 x1,[]⟩
theorem Qxr (N:Nat):Qn Tryz.prog tx.gl (Qew N):=Qc (Y:=tx) (N:=N) (K:=[Qnz N,Qev N,Qn0 N]) (an:=Jff) Qt Qr (Qd (Jh8 N) Jh7 (Qd (Qxp N) Qxo (Qd (Jia N) Jh9 Qq))) Tryz.func67 rfl (fun x=>by kernel_rfl)
theorem Jib:Runs Tryz.prog 51:=⟨_,Tryz.func51,by decide,rfl⟩
def Qn1 (N:Nat):Con:=⟨51,Jfi,Q2l,fun (m5000_0,m5000_1,m5000_2,m5000_3,m5000_4,m5000_5_0,m5000_5_1,m5000_5_2,m5000_6,m5000_7_0,m5000_7_1,m5000_7_2,m5000_7_3,m5000_7_4,m5000_7_7,m5000_7_8,m5000_7_9,m5000_7_11,m5000_7_12,m5001,m5002,m5003,m5004,m5005,m5006,m5007)=>Z51 N m5000_0 m5000_1 m5000_2 m5000_3 m5000_4 m5000_5_0 m5000_5_1 m5000_5_2 m5000_6 m5000_7_0 m5000_7_1 m5000_7_2 m5000_7_3 m5000_7_4 m5000_7_7 m5000_7_8 m5000_7_9 m5000_7_11 m5000_7_12 m5001 m5002 m5003 m5004 m5005 m5006 m5007,[5001,5002,5003,5004]⟩
theorem Jic (N:Nat):Qn Tryz.prog tx.gl (Qn1 N):=Qc (Y:=tx) (N:=N) (K:=[Qny N,Qew N]) (an:=Jfh) Qt Qr (Qd (Jh6 N) Jh5 (Qd (Qxr N) Qxq Qq)) Tryz.func51 rfl (fun x=>by kernel_rfl)
theorem Jid:Runs Tryz.prog 50:=⟨_,Tryz.func50,by decide,rfl⟩
def Qn2 (N:Nat):Con:=⟨50,Jfk,Q2m,fun (m5001_0,m5001_1,m5001_2,m5001_3,m5001_4,m5001_5_0,m5001_5_1,m5001_5_2,m5001_6,m5001_7_0,m5001_7_1,m5001_7_2,m5001_7_3,m5001_7_4,m5001_7_7,m5001_7_8,m5001_7_9,m5001_7_11,m5001_7_12,m5002,m5003,m5004,m5005,m5006,m5007,m5008)=>Z50 N m5001_0 m5001_1 m5001_2 m5001_3 m5001_4 m5001_5_0 m5001_5_1 m5001_5_2 m5001_6 m5001_7_0 m5001_7_1 m5001_7_2 m5001_7_3 m5001_7_4 m5001_7_7 m5001_7_8 m5001_7_9 m5001_7_11 m5001_7_12 m5002 m5003 m5004 m5005 m5006 m5007 m5008,[5000,5002,5003,5004,5005]⟩
theorem Jie (N:Nat):Qn Tryz.prog tx.gl (Qn2 N):=Qc (Y:=tx) (N:=N) (K:=[Qn1 N]) (an:=Jfj) Qt Qr (Qd (Jic N) Jib Qq) Tryz.func50 rfl (fun x=>by kernel_rfl)
theorem Qry:Runs Tryz.prog 47:=⟨_,Tryz.func47,by decide,rfl⟩
def Qa2 (N:Nat):Con:=⟨47,Qrj,Qla,fun (m5001_0,m5001_1,m5001_2,m5001_3,m5001_4,m5001_5_0,m5001_5_1,m5001_5_2,m5001_6,m5001_7_0,m5001_7_1,m5001_7_2,m5001_7_3,m5001_7_4,m5001_7_7,m5001_7_8,m5001_7_9,m5001_7_11,m5001_7_12,m5002,m5003,m5004,m5005,m5006,m5007,m5008,m5009)=>Quu N m5001_0 m5001_1 m5001_2 m5001_3 m5001_4 m5001_5_0 m5001_5_1 m5001_5_2 m5001_6 m5001_7_0 m5001_7_1 m5001_7_2 m5001_7_3 m5001_7_4 m5001_7_7 m5001_7_8 m5001_7_9 m5001_7_11 m5001_7_12 m5002 m5003 m5004 m5005 m5006 m5007 m5008 m5009,[5000]⟩
theorem Qrz (N:Nat):Qn Tryz.prog tx.gl (Qa2 N):=Qc (Y:=tx) (N:=N) (K:=[Qn2 N]) (an:=Qri) Qt Qr (Qd (Jie N) Jid Qq) Tryz.func47 rfl (fun x=>by kernel_rfl)
theorem Q8i:Runs Tryz.prog 142:=⟨_,Tryz.func142,by decide,rfl⟩
def Qh7 (N:Nat):Con:=⟨142,Q2o,Qvj,fun x0=>Jlj N x0,[]⟩
theorem Q8j (N:Nat):Qn Tryz.prog tx.gl (Qh7 N):=Qc (Y:=tx) (N:=N) (K:=[]) (an:=Q2n) Qt Qr Qq Tryz.func142 rfl (fun x=>by kernel_rfl)
theorem Qly:Runs Tryz.prog 89:=⟨_,Tryz.func89,by decide,rfl⟩
def Si (N:Nat):Con:=⟨89,Jfm,Q2p,fun x0=>Z89 N x0,[]⟩
theorem Qlz (N:Nat):Qn Tryz.prog tx.gl (Si N):=Qc (Y:=tx) (N:=N) (K:=[Qh7 N]) (an:=Jfl) Qt Qr (Qd (Q8j N) Q8i Qq) Tryz.func89 rfl (fun x=>by kernel_rfl)
theorem Jif:Runs Tryz.prog 90:=⟨_,Tryz.func90,by decide,rfl⟩
def Qn3 (N:Nat):Con:=⟨90,Jfo,Q2q,fun (x0,x1,x2)=>Z90 N x0 x1 x2,[]⟩
theorem Jig (N:Nat):Qn Tryz.prog tx.gl (Qn3 N):=Qc (Y:=tx) (N:=N) (K:=[]) (an:=Jfn) Qt Qr Qq Tryz.func90 rfl (fun x=>by kernel_rfl)
theorem Q8k:Runs Tryz.prog 115:=⟨_,Tryz.func115,by decide,rfl⟩
def Qh8 (N:Nat):Con:=⟨115,Q2s,Qvk,fun x0=>Jlk N x0,[]⟩
theorem Q8l (N:Nat):Qn Tryz.prog tx.gl (Qh8 N):=Qc (Y:=tx) (N:=N) (K:=[]) (an:=Q2r) Qt Qr Qq Tryz.func115 rfl (fun x=>by kernel_rfl)
theorem Jih:Runs Tryz.prog 91:=⟨_,Tryz.func91,by decide,rfl⟩
def Qn4 (N:Nat):Con:=⟨91,Jfq,Q2t,fun (x0,x1)=>Z91 N x0 x1,[]⟩
theorem Jii (N:Nat):Qn Tryz.prog tx.gl (Qn4 N):=Qc (Y:=tx) (N:=N) (K:=[Qh8 N]) (an:=Jfp) Qt Qr (Qd (Q8l N) Q8k Qq) Tryz.func91 rfl (fun x=>by kernel_rfl)
theorem Qex:Runs Tryz.prog 145:=⟨_,Tryz.func145,by decide,rfl⟩
def N0 (N:Nat):Con:=⟨145,Q2v,Qvl,fun (x0,x1,x2)=>Qk0 N x0 x1 x2,[]⟩
theorem Qey (N:Nat):Qn Tryz.prog tx.gl (N0 N):=Qc (Y:=tx) (N:=N) (K:=[]) (an:=Q2u) Qt Qr Qq Tryz.func145 rfl (fun x=>by kernel_rfl)
theorem Qn5:Runs Tryz.prog 146:=⟨_,Tryz.func146,by decide,rfl⟩
def Qa3 (N:Nat):Con:=⟨146,Q2x,Qvm,fun x0=>Jdm N x0,[]⟩
theorem Qn6 (N:Nat):Qn Tryz.prog tx.gl (Qa3 N):=Qc (Y:=tx) (N:=N) (K:=[]) (an:=Q2w) Qt Qr Qq Tryz.func146 rfl (fun x=>by kernel_rfl)
theorem Qez:Runs Tryz.prog 143:=⟨_,Tryz.func143,by decide,rfl⟩
def N1 (N:Nat):Con:=⟨143,Q2z,Qvn,fun x0=>Qz3 N x0,[]⟩
theorem Qe0 (N:Nat):Qn Tryz.prog tx.gl (N1 N):=Qc (Y:=tx) (N:=N) (K:=[N0 N,Qa3 N]) (an:=Q2y) Qt Qr (Qd (Qey N) Qex (Qd (Qn6 N) Qn5 Qq)) Tryz.func143 rfl (fun x=>by kernel_rfl)
theorem Jij:Runs Tryz.prog 93:=⟨_,Tryz.func93,by decide,rfl⟩
def Qn7 (N:Nat):Con:=⟨93,Jfs,Q20,fun (x0,x1)=>Z93 N x0 x1,[]⟩
theorem Jik (N:Nat):Qn Tryz.prog tx.gl (Qn7 N):=Qc (Y:=tx) (N:=N) (K:=[N1 N,N0 N,Qa3 N]) (an:=Jfr) Qt Qr (Qd (Qe0 N) Qez (Qd (Qey N) Qex (Qd (Qn6 N) Qn5 Qq))) Tryz.func93 rfl (fun x=>by kernel_rfl)
theorem Jil:Runs Tryz.prog 92:=⟨_,Tryz.func92,by decide,rfl⟩
def Qn8 (N:Nat):Con:=⟨92,Jfu,Q21,fun (x0,x1,m5000)=>Z92 N x0 x1 m5000,[]⟩
theorem Jim (N:Nat):Qn Tryz.prog tx.gl (Qn8 N):=Qc (Y:=tx) (N:=N) (K:=[]) (an:=Jft) Qt Qr Qq Tryz.func92 rfl (fun x=>by kernel_rfl)
theorem Jin:Runs Tryz.prog 68:=⟨_,Tryz.func68,by decide,rfl⟩
def Qn9 (N:Nat):Con:=⟨68,Jfw,Q22,fun (x0,x1,x2,x3)=>Z68 N x0 x1 x2 x3,[]⟩
theorem Jio (N:Nat):Qn Tryz.prog tx.gl (Qn9 N):=Qc (Y:=tx) (N:=N) (K:=[Si N,Qn3 N,Qn4 N,Qn7 N,Qn8 N]) (an:=Jfv) Qt Qr (Qd (Qlz N) Qly (Qd (Jig N) Jif (Qd (Jii N) Jih (Qd (Jik N) Jij (Qd (Jim N) Jil Qq))))) Tryz.func68 rfl (fun x=>by kernel_rfl)
theorem Jip:Runs Tryz.prog 95:=⟨_,Tryz.func95,by decide,rfl⟩
def Qoa (N:Nat):Con:=⟨95,Jfy,Q23,fun x0=>Z95 N x0,[]⟩
theorem Jiq (N:Nat):Qn Tryz.prog tx.gl (Qoa N):=Qc (Y:=tx) (N:=N) (K:=[]) (an:=Jfx) Qt Qr Qq Tryz.func95 rfl (fun x=>by kernel_rfl)
theorem Qr0:Runs Tryz.prog 95:=⟨_,Tryz.func95,by decide,rfl⟩
def Qa4 (N:Nat):Con:=⟨95,Qrl,Qlb,fun x0=>Quv N x0,[]⟩
theorem Qr1 (N:Nat):Qn Tryz.prog tx.gl (Qa4 N):=Qc (Y:=tx) (N:=N) (K:=[]) (an:=Qrk) Qt Qr Qq Tryz.func95 rfl (fun x=>by kernel_rfl)
theorem Qxs:Runs Tryz.prog 96:=⟨_,Tryz.func96,by decide,rfl⟩
def Qe1 (N:Nat):Con:=⟨96,Jf0,Q24,fun x0=>Z96 N x0,[]⟩
theorem Qxt (N:Nat):Qn Tryz.prog tx.gl (Qe1 N):=Qc (Y:=tx) (N:=N) (K:=[]) (an:=Jfz) Qt Qr Qq Tryz.func96 rfl (fun x=>by kernel_rfl)
theorem Jir:Runs Tryz.prog 97:=⟨_,Tryz.func97,by decide,rfl⟩
def Qob (N:Nat):Con:=⟨97,Jf2,Q25,fun (x0,x1)=>Z97 N x0 x1,[]⟩
theorem Jis (N:Nat):Qn Tryz.prog tx.gl (Qob N):=Qc (Y:=tx) (N:=N) (K:=[]) (an:=Jf1) Qt Qr Qq Tryz.func97 rfl (fun x=>by kernel_rfl)
theorem Q8m:Runs Tryz.prog 185:=⟨_,Tryz.func185,by decide,rfl⟩
def Qh9 (N:Nat):Con:=⟨185,Q27,Qvo,fun (x0,m5000)=>Jll N x0 m5000,[5000]⟩
theorem Q8n (N:Nat):Qn Tryz.prog tx.gl (Qh9 N):=Qc (Y:=tx) (N:=N) (K:=[]) (an:=Q26) Qt Qr Qq Tryz.func185 rfl (fun x=>by kernel_rfl)
theorem Q8o:Runs Tryz.prog 209:=⟨_,Tryz.func209,by decide,rfl⟩
def Qia (N:Nat):Con:=⟨209,Q29,Qvp,fun x0=>Jlm N x0,[]⟩
theorem Q8p (N:Nat):Qn Tryz.prog tx.gl (Qia N):=Qc (Y:=tx) (N:=N) (K:=[]) (an:=Q28) Qt Qr Qq Tryz.func209 rfl (fun x=>by kernel_rfl)
theorem Q8q:Runs Tryz.prog 184:=⟨_,Tryz.func184,by decide,rfl⟩
def Qib (N:Nat):Con:=⟨184,Q3b,Qvq,fun (x0,x1,m5000)=>Jln N x0 x1 m5000,[5000]⟩
theorem Q8r (N:Nat):Qn Tryz.prog tx.gl (Qib N):=Qc (Y:=tx) (N:=N) (K:=[Qer N,Qh9 N,Qia N]) (an:=Q3a) Qt Qr (Qd (Qxi N) Qxh (Qd (Q8n N) Q8m (Qd (Q8p N) Q8o Qq))) Tryz.func184 rfl (fun x=>by kernel_rfl)
theorem Q8s:Runs Tryz.prog 147:=⟨_,Tryz.func147,by decide,rfl⟩
def Qic (N:Nat):Con:=⟨147,Q3d,Qvr,fun (x0,x1,x2)=>Jlo N x0 x1 x2,[]⟩
theorem Q8t (N:Nat):Qn Tryz.prog tx.gl (Qic N):=Qc (Y:=tx) (N:=N) (K:=[Qib N]) (an:=Q3c) Qt Qr (Qd (Q8r N) Q8q Qq) Tryz.func147 rfl (fun x=>by kernel_rfl)
theorem Jit:Runs Tryz.prog 98:=⟨_,Tryz.func98,by decide,rfl⟩
def Qoc (N:Nat):Con:=⟨98,Jf4,Q3e,fun (x0,x1)=>Z98 N x0 x1,[]⟩
theorem Jiu (N:Nat):Qn Tryz.prog tx.gl (Qoc N):=Qc (Y:=tx) (N:=N) (K:=[Qic N]) (an:=Jf3) Qt Qr (Qd (Q8t N) Q8s Qq) Tryz.func98 rfl (fun x=>by kernel_rfl)
theorem Qod:Runs Tryz.prog 150:=⟨_,Tryz.func150,by decide,rfl⟩
def Qa5 (N:Nat):Con:=⟨150,Q3g,Qvs,fun (x0,x1)=>Jdr N x0 x1,[]⟩
theorem Qoe (N:Nat):Qn Tryz.prog tx.gl (Qa5 N):=Qc (Y:=tx) (N:=N) (K:=[Ia N]) (an:=Q3f) Qt Qr (Qd (Sh N) Sg Qq) Tryz.func150 rfl (fun x=>by kernel_rfl)
theorem Qof:Runs Tryz.prog 221:=⟨_,Tryz.func221,by decide,rfl⟩
def Qa6 (N:Nat):Con:=⟨221,Q3i,Qvt,fun x0=>Qz7 N x0,[]⟩
theorem Qog (N:Nat):Qn Tryz.prog tx.gl (Qa6 N):=Qc (Y:=tx) (N:=N) (K:=[]) (an:=Q3h) Qt Qr Qq Tryz.func221 rfl (fun x=>by kernel_rfl)
theorem Q8u:Runs Tryz.prog 233:=⟨_,Tryz.func233,by decide,rfl⟩
def Qid (N:Nat):Con:=⟨233,Q3k,Qvu,fun x0=>Jlp N x0,[]⟩
theorem Q8v (N:Nat):Qn Tryz.prog tx.gl (Qid N):=Qc (Y:=tx) (N:=N) (K:=[]) (an:=Q3j) Qt Qr Qq Tryz.func233 rfl (fun x=>by kernel_rfl)
theorem Qe2:Runs Tryz.prog 222:=⟨_,Tryz.func222,by decide,rfl⟩
def N2 (N:Nat):Con:=⟨222,Q3m,Qvv,fun (x0,x1)=>Qz8 N x0 x1,[]⟩
theorem Qe3 (N:Nat):Qn Tryz.prog tx.gl (N2 N):=Qc (Y:=tx) (N:=N) (K:=[Qid N]) (an:=Q3l) Qt Qr (Qd (Q8v N) Q8u Qq) Tryz.func222 rfl (fun x=>by kernel_rfl)
theorem Q8w:Runs Tryz.prog 196:=⟨_,Tryz.func196,by decide,rfl⟩
def Qie (N:Nat):Con:=⟨196,Q3o,Qvw,fun x0=>Jlq N x0,[]⟩
theorem Q8x (N:Nat):Qn Tryz.prog tx.gl (Qie N):=Qc (Y:=tx) (N:=N) (K:=[Qa6 N,N2 N]) (an:=Q3n) Qt Qr (Qd (Qog N) Qof (Qd (Qe3 N) Qe2 Qq)) Tryz.func196 rfl (fun x=>by kernel_rfl)
theorem Qe4:Runs Tryz.prog 167:=⟨_,Tryz.func167,by decide,rfl⟩
def N3 (N:Nat):Con:=⟨167,Q3q,Qvx,fun (x0,x1)=>Qrh N x0 x1,[]⟩
theorem Qe5 (N:Nat):Qn Tryz.prog tx.gl (N3 N):=Qc (Y:=tx) (N:=N) (K:=[Qie N]) (an:=Q3p) Qt Qr (Qd (Q8x N) Q8w Qq) Tryz.func167 rfl (fun x=>by kernel_rfl)
theorem Q8y:Runs Tryz.prog 232:=⟨_,Tryz.func232,by decide,rfl⟩
def Qif (N:Nat):Con:=⟨232,Q3s,Qvy,fun (x0,x1)=>Jlr N x0 x1,[]⟩
theorem Q8z (N:Nat):Qn Tryz.prog tx.gl (Qif N):=Qc (Y:=tx) (N:=N) (K:=[N2 N]) (an:=Q3r) Qt Qr (Qd (Qe3 N) Qe2 Qq) Tryz.func232 rfl (fun x=>by kernel_rfl)
theorem Q80:Runs Tryz.prog 220:=⟨_,Tryz.func220,by decide,rfl⟩
def Qig (N:Nat):Con:=⟨220,Q3u,Qvz,fun x0=>Jls N x0,[]⟩
theorem Q81 (N:Nat):Qn Tryz.prog tx.gl (Qig N):=Qc (Y:=tx) (N:=N) (K:=[Qif N,Qa6 N,N2 N]) (an:=Q3t) Qt Qr (Qd (Q8z N) Q8y (Qd (Qog N) Qof (Qd (Qe3 N) Qe2 Qq))) Tryz.func220 rfl (fun x=>by kernel_rfl)
theorem Q82:Runs Tryz.prog 195:=⟨_,Tryz.func195,by decide,rfl⟩
def Qih (N:Nat):Con:=⟨195,Q3w,Qv0,fun (x0,x1)=>Jds N x0 x1,[]⟩
theorem Q83 (N:Nat):Qn Tryz.prog tx.gl (Qih N):=Qc (Y:=tx) (N:=N) (K:=[Qig N]) (an:=Q3v) Qt Qr (Qd (Q81 N) Q80 Qq) Tryz.func195 rfl (fun x=>by kernel_rfl)
theorem Qe6:Runs Tryz.prog 166:=⟨_,Tryz.func166,by decide,rfl⟩
def N4 (N:Nat):Con:=⟨166,Q3y,Qv1,fun (x0,x1)=>Q0c N x0 x1,[]⟩
theorem Qe7 (N:Nat):Qn Tryz.prog tx.gl (N4 N):=Qc (Y:=tx) (N:=N) (K:=[Qih N]) (an:=Q3x) Qt Qr (Qd (Q83 N) Q82 Qq) Tryz.func166 rfl (fun x=>by kernel_rfl)
theorem Q84:Runs Tryz.prog 151:=⟨_,Tryz.func151,by decide,rfl⟩
def Qii (N:Nat):Con:=⟨151,Q30,Qv2,fun (x0,x1)=>Jlt N x0 x1,[]⟩
theorem Q85 (N:Nat):Qn Tryz.prog tx.gl (Qii N):=Qc (Y:=tx) (N:=N) (K:=[N3 N,N4 N]) (an:=Q3z) Qt Qr (Qd (Qe5 N) Qe4 (Qd (Qe7 N) Qe6 Qq)) Tryz.func151 rfl (fun x=>by kernel_rfl)
theorem Ql0:Runs Tryz.prog 151:=⟨_,Tryz.func151,by decide,rfl⟩
def Rd (N:Nat):Con:=⟨151,Qld,Qhl,fun (x0,x1)=>Qnj N x0 x1,[]⟩
theorem Ql1 (N:Nat):Qn Tryz.prog tx.gl (Rd N):=Qc (Y:=tx) (N:=N) (K:=[N3 N,N4 N]) (an:=Qlc) Qt Qr (Qd (Qe5 N) Qe4 (Qd (Qe7 N) Qe6 Qq)) Tryz.func151 rfl (fun x=>by kernel_rfl)
theorem Ql2:Runs Tryz.prog 149:=⟨_,Tryz.func149,by decide,rfl⟩
def Re (N:Nat):Con:=⟨149,Qlf,Qhm,fun (x0,m5000,m5002,m5003)=>Qnk N x0 m5000 m5002 m5003,[5000,5003]⟩
theorem Ql3 (N:Nat):Qn Tryz.prog tx.gl (Re N):=Qc (Y:=tx) (N:=N) (K:=[Qa5 N,Qii N]) (an:=Qle) Qt Qr (Qd (Qoe N) Qod (Qd (Q85 N) Q84 Qq)) Tryz.func149 rfl (fun x=>by kernel_rfl)
theorem Q86:Runs Tryz.prog 212:=⟨_,Tryz.func212,by decide,rfl⟩
def Qij (N:Nat):Con:=⟨212,Q32,Qv3,fun (x0,x1,m5001)=>Jlu N x0 x1 m5001,[]⟩
theorem Q87 (N:Nat):Qn Tryz.prog tx.gl (Qij N):=Qc (Y:=tx) (N:=N) (K:=[Ia N]) (an:=Q31) Qt Qr (Qd (Sh N) Sg Qq) Tryz.func212 rfl (fun x=>by kernel_rfl)
theorem Ql4:Runs Tryz.prog 212:=⟨_,Tryz.func212,by decide,rfl⟩
def Rf (N:Nat):Con:=⟨212,Qlh,Qhn,fun (x0,x1,m5001)=>Qnl N x0 x1 m5001,[]⟩
theorem Ql5 (N:Nat):Qn Tryz.prog tx.gl (Rf N):=Qc (Y:=tx) (N:=N) (K:=[Ia N]) (an:=Qlg) Qt Qr (Qd (Sh N) Sg Qq) Tryz.func212 rfl (fun x=>by kernel_rfl)
theorem Q88:Runs Tryz.prog 248:=⟨_,Tryz.func248,by decide,rfl⟩
def Qik (N:Nat):Con:=⟨248,Q34,Qv4,fun x0=>Jlv N x0,[]⟩
theorem Q89 (N:Nat):Qn Tryz.prog tx.gl (Qik N):=Qc (Y:=tx) (N:=N) (K:=[]) (an:=Q33) Qt Qr Qq Tryz.func248 rfl (fun x=>by kernel_rfl)
theorem Q9a:Runs Tryz.prog 229:=⟨_,Tryz.func229,by decide,rfl⟩
def Qil (N:Nat):Con:=⟨229,Q36,Qv5,fun x0=>Jlw N x0,[]⟩
theorem Q9b (N:Nat):Qn Tryz.prog tx.gl (Qil N):=Qc (Y:=tx) (N:=N) (K:=[Qik N]) (an:=Q35) Qt Qr (Qd (Q89 N) Q88 Qq) Tryz.func229 rfl (fun x=>by kernel_rfl)
theorem Q9c:Runs Tryz.prog 214:=⟨_,Tryz.func214,by decide,rfl⟩
def Qim (N:Nat):Con:=⟨214,Q38,Qv6,fun (x0,x1)=>Jlx N x0 x1,[]⟩
theorem Q9d (N:Nat):Qn Tryz.prog tx.gl (Qim N):=Qc (Y:=tx) (N:=N) (K:=[]) (an:=Q37) Qt Qr Qq Tryz.func214 rfl (fun x=>by kernel_rfl)
theorem Q9e:Runs Tryz.prog 239:=⟨_,Tryz.func239,by decide,rfl⟩
def Qin (N:Nat):Con:=⟨239,Q4a,Qv7,fun (x0,x1,x2)=>Jly N x0 x1 x2,[]⟩
theorem Q9f (N:Nat):Qn Tryz.prog tx.gl (Qin N):=Qc (Y:=tx) (N:=N) (K:=[Qim N]) (an:=Q39) Qt Qr (Qd (Q9d N) Q9c Qq) Tryz.func239 rfl (fun x=>by kernel_rfl)
theorem Q9g:Runs Tryz.prog 228:=⟨_,Tryz.func228,by decide,rfl⟩
def Qio (N:Nat):Con:=⟨228,Q4c,Qv8,fun (x0,x1,x2,x3)=>Jlz N x0 x1 x2 x3,[]⟩
theorem Q9h (N:Nat):Qn Tryz.prog tx.gl (Qio N):=Qc (Y:=tx) (N:=N) (K:=[Qin N]) (an:=Q4b) Qt Qr (Qd (Q9f N) Q9e Qq) Tryz.func228 rfl (fun x=>by kernel_rfl)
theorem Q9i:Runs Tryz.prog 213:=⟨_,Tryz.func213,by decide,rfl⟩
def Qip (N:Nat):Con:=⟨213,Q4e,Qv9,fun x0=>Jl0 N x0,[]⟩
theorem Q9j (N:Nat):Qn Tryz.prog tx.gl (Qip N):=Qc (Y:=tx) (N:=N) (K:=[Qil N,Qio N]) (an:=Q4d) Qt Qr (Qd (Q9b N) Q9a (Qd (Q9h N) Q9g Qq)) Tryz.func213 rfl (fun x=>by kernel_rfl)
theorem Q9k:Runs Tryz.prog 187:=⟨_,Tryz.func187,by decide,rfl⟩
def Qiq (N:Nat):Con:=⟨187,Q4g,Qwa,fun (x0,x1)=>Jl1 N x0 x1,[]⟩
theorem Q9l (N:Nat):Qn Tryz.prog tx.gl (Qiq N):=Qc (Y:=tx) (N:=N) (K:=[]) (an:=Q4f) Qt Qr Qq Tryz.func187 rfl (fun x=>by kernel_rfl)
theorem Q9m:Runs Tryz.prog 186:=⟨_,Tryz.func186,by decide,rfl⟩
def Qir (N:Nat):Con:=⟨186,Q4i,Qwb,fun (x0,x1)=>Jl2 N x0 x1,[]⟩
theorem Q9n (N:Nat):Qn Tryz.prog tx.gl (Qir N):=Qc (Y:=tx) (N:=N) (K:=[Qij N,Rf N,Qip N,Qiq N]) (an:=Q4h) Qt Qr (Qd (Q87 N) Q86 (Qd (Ql5 N) Ql4 (Qd (Q9j N) Q9i (Qd (Q9l N) Q9k Qq)))) Tryz.func186 rfl (fun x=>by kernel_rfl)
theorem Q9o:Runs Tryz.prog 152:=⟨_,Tryz.func152,by decide,rfl⟩
def Qis (N:Nat):Con:=⟨152,Q4k,Qwc,fun x0=>Jl3 N x0,[]⟩
theorem Q9p (N:Nat):Qn Tryz.prog tx.gl (Qis N):=Qc (Y:=tx) (N:=N) (K:=[Qir N]) (an:=Q4j) Qt Qr (Qd (Q9n N) Q9m Qq) Tryz.func152 rfl (fun x=>by kernel_rfl)
theorem Jiv:Runs Tryz.prog 99:=⟨_,Tryz.func99,by decide,rfl⟩
def Qoh (N:Nat):Con:=⟨99,Jf6,Q4l,fun (x0,x1,x2)=>Z99 N x0 x1 x2,[]⟩
theorem Jiw (N:Nat):Qn Tryz.prog tx.gl (Qoh N):=Qc (Y:=tx) (N:=N) (K:=[Re N,Qis N,Rd N]) (an:=Jf5) Qt Qr (Qd (Ql3 N) Ql2 (Qd (Q9p N) Q9o (Qd (Ql1 N) Ql0 Qq))) Tryz.func99 rfl (fun x=>by kernel_rfl)
theorem Q9q:Runs Tryz.prog 189:=⟨_,Tryz.func189,by decide,rfl⟩
def Qit (N:Nat):Con:=⟨189,Q4n,Qwd,fun (x0,m5000,m5001)=>Jl4 N x0 m5000 m5001,[5000,5001]⟩
theorem Q9r (N:Nat):Qn Tryz.prog tx.gl (Qit N):=Qc (Y:=tx) (N:=N) (K:=[]) (an:=Q4m) Qt Qr Qq Tryz.func189 rfl (fun x=>by kernel_rfl)
theorem Q9s:Runs Tryz.prog 188:=⟨_,Tryz.func188,by decide,rfl⟩
def Qiu (N:Nat):Con:=⟨188,Q4p,Qwe,fun (x0,m5000,m5001)=>Jl5 N x0 m5000 m5001,[5000,5001]⟩
theorem Q9t (N:Nat):Qn Tryz.prog tx.gl (Qiu N):=Qc (Y:=tx) (N:=N) (K:=[Qit N]) (an:=Q4o) Qt Qr (Qd (Q9r N) Q9q Qq) Tryz.func188 rfl (fun x=>by kernel_rfl)
theorem Q9u:Runs Tryz.prog 190:=⟨_,Tryz.func190,by decide,rfl⟩
def Qiv (N:Nat):Con:=⟨190,Q4r,Qwf,fun x0=>Jl6 N x0,[]⟩
theorem Q9v (N:Nat):Qn Tryz.prog tx.gl (Qiv N):=Qc (Y:=tx) (N:=N) (K:=[]) (an:=Q4q) Qt Qr Qq Tryz.func190 rfl (fun x=>by kernel_rfl)
theorem Q9w:Runs Tryz.prog 153:=⟨_,Tryz.func153,by decide,rfl⟩
def Qiw (N:Nat):Con:=⟨153,Q4t,Qwg,fun (x0,x1,x2)=>Jl7 N x0 x1 x2,[]⟩
theorem Q9x (N:Nat):Qn Tryz.prog tx.gl (Qiw N):=Qc (Y:=tx) (N:=N) (K:=[Qiu N,Qiv N]) (an:=Q4s) Qt Qr (Qd (Q9t N) Q9s (Qd (Q9v N) Q9u Qq)) Tryz.func153 rfl (fun x=>by kernel_rfl)
theorem Q9y:Runs Tryz.prog 100:=⟨_,Tryz.func100,by decide,rfl⟩
def Qix (N:Nat):Con:=⟨100,Q4v,Qwh,fun (x0,x1,x2)=>Jl8 N x0 x1 x2,[]⟩
theorem Q9z (N:Nat):Qn Tryz.prog tx.gl (Qix N):=Qc (Y:=tx) (N:=N) (K:=[Qa5 N,Qiw N]) (an:=Q4u) Qt Qr (Qd (Qoe N) Qod (Qd (Q9x N) Q9w Qq)) Tryz.func100 rfl (fun x=>by kernel_rfl)
theorem Ql6:Runs Tryz.prog 101:=⟨_,Tryz.func101,by decide,rfl⟩
def Rg (N:Nat):Con:=⟨101,Qlj,Qho,fun (x1,m5000_0,m5001)=>Qnm N x1 m5000_0 m5001,[]⟩
theorem Ql7 (N:Nat):Qn Tryz.prog tx.gl (Rg N):=Qc (Y:=tx) (N:=N) (K:=[Qe1 N,Qa4 N]) (an:=Qli) Qt Qr (Qd (Qxt N) Qxs (Qd (Qr1 N) Qr0 Qq)) Tryz.func101 rfl (fun x=>by kernel_rfl)
theorem Jix:Runs Tryz.prog 69:=⟨_,Tryz.func69,by decide,rfl⟩
def Qoi (N:Nat):Con:=⟨69,Jf8,Q4w,fun (x0,x1,x2,x3,x4)=>Z69 N x0 x1 x2 x3 x4,[]⟩
theorem Jiy (N:Nat):Qn Tryz.prog tx.gl (Qoi N):=Qc (Y:=tx) (N:=N) (K:=[Qoa N,Qe1 N,Qob N,Qoc N,Qoh N,Qix N,Rg N]) (an:=Jf7) Qt Qr (Qd (Jiq N) Jip (Qd (Qxt N) Qxs (Qd (Jis N) Jir (Qd (Jiu N) Jit (Qd (Jiw N) Jiv (Qd (Q9z N) Q9y (Qd (Ql7 N) Ql6 Qq))))))) Tryz.func69 rfl (fun x=>by kernel_rfl)
theorem Q90:Runs Tryz.prog 191:=⟨_,Tryz.func191,by decide,rfl⟩
def Qiy (N:Nat):Con:=⟨191,Q4y,Qwi,fun x0=>Jl9 N x0,[]⟩
theorem Q91 (N:Nat):Qn Tryz.prog tx.gl (Qiy N):=Qc (Y:=tx) (N:=N) (K:=[]) (an:=Q4x) Qt Qr Qq Tryz.func191 rfl (fun x=>by kernel_rfl)
theorem Q92:Runs Tryz.prog 157:=⟨_,Tryz.func157,by decide,rfl⟩
def Qiz (N:Nat):Con:=⟨157,Q40,Qwj,fun x0=>Jma N x0,[]⟩
theorem Q93 (N:Nat):Qn Tryz.prog tx.gl (Qiz N):=Qc (Y:=tx) (N:=N) (K:=[Qiy N]) (an:=Q4z) Qt Qr (Qd (Q91 N) Q90 Qq) Tryz.func157 rfl (fun x=>by kernel_rfl)
theorem Q94:Runs Tryz.prog 158:=⟨_,Tryz.func158,by decide,rfl⟩
def Qi0 (N:Nat):Con:=⟨158,Q42,Qwk,fun (x0,x1,x2)=>Jmb N x0 x1 x2,[]⟩
theorem Q95 (N:Nat):Qn Tryz.prog tx.gl (Qi0 N):=Qc (Y:=tx) (N:=N) (K:=[]) (an:=Q41) Qt Qr Qq Tryz.func158 rfl (fun x=>by kernel_rfl)
theorem Q96:Runs Tryz.prog 159:=⟨_,Tryz.func159,by decide,rfl⟩
def Qi1 (N:Nat):Con:=⟨159,Q44,Qwl,fun (x0,x1,x2,x3,x4,x5,x6)=>Jmc N x0 x1 x2 x3 x4 x5 x6,[]⟩
theorem Q97 (N:Nat):Qn Tryz.prog tx.gl (Qi1 N):=Qc (Y:=tx) (N:=N) (K:=[Qes N]) (an:=Q43) Qt Qr (Qd (Qxk N) Qxj Qq) Tryz.func159 rfl (fun x=>by kernel_rfl)
theorem Q98:Runs Tryz.prog 160:=⟨_,Tryz.func160,by decide,rfl⟩
def Qi2 (N:Nat):Con:=⟨160,Q46,Qwm,fun x0=>Jmd N x0,[]⟩
theorem Q99 (N:Nat):Qn Tryz.prog tx.gl (Qi2 N):=Qc (Y:=tx) (N:=N) (K:=[]) (an:=Q45) Qt Qr Qq Tryz.func160 rfl (fun x=>by kernel_rfl)
theorem Jaa:Runs Tryz.prog 102:=⟨_,Tryz.func102,by decide,rfl⟩
def Qi3 (N:Nat):Con:=⟨102,Q48,Qwn,fun (x0,x1,x2,x3,x4,x5,x6,x7)=>Jme N x0 x1 x2 x3 x4 x5 x6 x7,[]⟩
theorem Jab (N:Nat):Qn Tryz.prog tx.gl (Qi3 N):=Qc (Y:=tx) (N:=N) (K:=[Qiz N,Qi0 N,Qi1 N,Qi2 N]) (an:=Q47) Qt Qr (Qd (Q93 N) Q92 (Qd (Q95 N) Q94 (Qd (Q97 N) Q96 (Qd (Q99 N) Q98 Qq)))) Tryz.func102 rfl (fun x=>by kernel_rfl)
theorem Jiz:Runs Tryz.prog 70:=⟨_,Tryz.func70,by decide,rfl⟩
def Qoj (N:Nat):Con:=⟨70,Jga,Q49,fun (x0,x1,x2,x3)=>Z70 N x0 x1 x2 x3,[]⟩
theorem Ji0 (N:Nat):Qn Tryz.prog tx.gl (Qoj N):=Qc (Y:=tx) (N:=N) (K:=[Si N,Qi3 N]) (an:=Jf9) Qt Qr (Qd (Qlz N) Qly (Qd (Jab N) Jaa Qq)) Tryz.func70 rfl (fun x=>by kernel_rfl)
theorem Ji1:Runs Tryz.prog 53:=⟨_,Tryz.func53,by decide,rfl⟩
def Qok (N:Nat):Con:=⟨53,Jgc,Q5a,fun (m5000_0,m5000_1,m5000_2,m5000_3,m5000_4,m5000_5,m5000_6,m5000_7_0,m5000_7_1,m5000_7_2,m5000_7_3,m5000_7_4,m5000_7_7,m5000_7_8,m5000_7_9,m5000_7_11,m5000_7_12,m5001,m5002,m5003)=>Z53 N m5000_0 m5000_1 m5000_2 m5000_3 m5000_4 m5000_5 m5000_6 m5000_7_0 m5000_7_1 m5000_7_2 m5000_7_3 m5000_7_4 m5000_7_7 m5000_7_8 m5000_7_9 m5000_7_11 m5000_7_12 m5001 m5002 m5003,[5001]⟩
theorem Ji2 (N:Nat):Qn Tryz.prog tx.gl (Qok N):=Qc (Y:=tx) (N:=N) (K:=[Qn9 N,Qoi N,Qoj N]) (an:=Jgb) Qt Qr (Qd (Jio N) Jin (Qd (Jiy N) Jix (Qd (Ji0 N) Jiz Qq))) Tryz.func53 rfl (fun x=>by kernel_rfl)
theorem Jac:Runs Tryz.prog 161:=⟨_,Tryz.func161,by decide,rfl⟩
def Qi4 (N:Nat):Con:=⟨161,Q5c,Qwo,fun (x0,x1)=>Jmf N x0 x1,[]⟩
theorem Jad (N:Nat):Qn Tryz.prog tx.gl (Qi4 N):=Qc (Y:=tx) (N:=N) (K:=[]) (an:=Q5b) Qt Qr Qq Tryz.func161 rfl (fun x=>by kernel_rfl)
theorem Jae:Runs Tryz.prog 168:=⟨_,Tryz.func168,by decide,rfl⟩
def Qi5 (N:Nat):Con:=⟨168,Q5e,Qwp,fun x0=>Jmg N x0,[]⟩
theorem Jaf (N:Nat):Qn Tryz.prog tx.gl (Qi5 N):=Qc (Y:=tx) (N:=N) (K:=[]) (an:=Q5d) Qt Qr Qq Tryz.func168 rfl (fun x=>by kernel_rfl)
theorem Jag:Runs Tryz.prog 197:=⟨_,Tryz.func197,by decide,rfl⟩
def Qi6 (N:Nat):Con:=⟨197,Q5g,Qwq,fun (x0,m5000)=>Jmh N x0 m5000,[5000]⟩
theorem Jah (N:Nat):Qn Tryz.prog tx.gl (Qi6 N):=Qc (Y:=tx) (N:=N) (K:=[]) (an:=Q5f) Qt Qr Qq Tryz.func197 rfl (fun x=>by kernel_rfl)
theorem Jai:Runs Tryz.prog 169:=⟨_,Tryz.func169,by decide,rfl⟩
def Qi7 (N:Nat):Con:=⟨169,Q5i,Qwr,fun (x0,m5000)=>Jmi N x0 m5000,[5000]⟩
theorem Jaj (N:Nat):Qn Tryz.prog tx.gl (Qi7 N):=Qc (Y:=tx) (N:=N) (K:=[Qi6 N]) (an:=Q5h) Qt Qr (Qd (Jah N) Jag Qq) Tryz.func169 rfl (fun x=>by kernel_rfl)
theorem Qol:Runs Tryz.prog 108:=⟨_,Tryz.func108,by decide,rfl⟩
def Qa7 (N:Nat):Con:=⟨108,Q5k,Qws,fun x0=>Jd0 N x0,[]⟩
theorem Qom (N:Nat):Qn Tryz.prog tx.gl (Qa7 N):=Qc (Y:=tx) (N:=N) (K:=[Qi5 N,Qi7 N]) (an:=Q5j) Qt Qr (Qd (Jaf N) Jae (Qd (Jaj N) Jai Qq)) Tryz.func108 rfl (fun x=>by kernel_rfl)
theorem Jak:Runs Tryz.prog 199:=⟨_,Tryz.func199,by decide,rfl⟩
def Qi8 (N:Nat):Con:=⟨199,Q5m,Qwt,fun (x0,x1)=>Jmj N x0 x1,[]⟩
theorem Jal (N:Nat):Qn Tryz.prog tx.gl (Qi8 N):=Qc (Y:=tx) (N:=N) (K:=[]) (an:=Q5l) Qt Qr Qq Tryz.func199 rfl (fun x=>by kernel_rfl)
theorem Jam:Runs Tryz.prog 174:=⟨_,Tryz.func174,by decide,rfl⟩
def Qi9 (N:Nat):Con:=⟨174,Q5o,Qwu,fun (x0,x1)=>Jmk N x0 x1,[]⟩
theorem Jan (N:Nat):Qn Tryz.prog tx.gl (Qi9 N):=Qc (Y:=tx) (N:=N) (K:=[Qi8 N]) (an:=Q5n) Qt Qr (Qd (Jal N) Jak Qq) Tryz.func174 rfl (fun x=>by kernel_rfl)
theorem Qon:Runs Tryz.prog 114:=⟨_,Tryz.func114,by decide,rfl⟩
def Qa8 (N:Nat):Con:=⟨114,Q5q,Qwv,fun x0=>Jd1 N x0,[]⟩
theorem Qoo (N:Nat):Qn Tryz.prog tx.gl (Qa8 N):=Qc (Y:=tx) (N:=N) (K:=[]) (an:=Q5p) Qt Qr Qq Tryz.func114 rfl (fun x=>by kernel_rfl)
theorem Jao:Runs Tryz.prog 110:=⟨_,Tryz.func110,by decide,rfl⟩
def Qja (N:Nat):Con:=⟨110,Q5s,Qww,fun (x0,x1)=>Jml N x0 x1,[]⟩
theorem Jap (N:Nat):Qn Tryz.prog tx.gl (Qja N):=Qc (Y:=tx) (N:=N) (K:=[Qi9 N,Qa8 N]) (an:=Q5r) Qt Qr (Qd (Jan N) Jam (Qd (Qoo N) Qon Qq)) Tryz.func110 rfl (fun x=>by kernel_rfl)
theorem Jaq:Runs Tryz.prog 198:=⟨_,Tryz.func198,by decide,rfl⟩
def Qjb (N:Nat):Con:=⟨198,Q5u,Qwx,fun (x0,m5000,m5001)=>Jmm N x0 m5000 m5001,[5000,5001]⟩
theorem Jar (N:Nat):Qn Tryz.prog tx.gl (Qjb N):=Qc (Y:=tx) (N:=N) (K:=[]) (an:=Q5t) Qt Qr Qq Tryz.func198 rfl (fun x=>by kernel_rfl)
theorem Jas:Runs Tryz.prog 173:=⟨_,Tryz.func173,by decide,rfl⟩
def Qjc (N:Nat):Con:=⟨173,Q5w,Qwy,fun (x0,m5000,m5001)=>Jmn N x0 m5000 m5001,[5000,5001]⟩
theorem Jat (N:Nat):Qn Tryz.prog tx.gl (Qjc N):=Qc (Y:=tx) (N:=N) (K:=[Qjb N]) (an:=Q5v) Qt Qr (Qd (Jar N) Jaq Qq) Tryz.func173 rfl (fun x=>by kernel_rfl)
theorem Jau:Runs Tryz.prog 109:=⟨_,Tryz.func109,by decide,rfl⟩
def Qjd (N:Nat):Con:=⟨109,Q5y,Qwz,fun (x0,x1,x2)=>Jmo N x0 x1 x2,[]⟩
theorem Jav (N:Nat):Qn Tryz.prog tx.gl (Qjd N):=Qc (Y:=tx) (N:=N) (K:=[Qjc N]) (an:=Q5x) Qt Qr (Qd (Jat N) Jas Qq) Tryz.func109 rfl (fun x=>by kernel_rfl)
theorem Qxu:Runs Tryz.prog 74:=⟨_,Tryz.func74,by decide,rfl⟩
def Qe8 (N:Nat):Con:=⟨74,Jge,Q5z,fun (x0,x1,x2)=>Z74 N x0 x1 x2,[]⟩
theorem Qxv (N:Nat):Qn Tryz.prog tx.gl (Qe8 N):=Qc (Y:=tx) (N:=N) (K:=[Qa7 N,Qja N,Qjd N]) (an:=Jgd) Qt Qr (Qd (Qom N) Qol (Qd (Jap N) Jao (Qd (Jav N) Jau Qq))) Tryz.func74 rfl (fun x=>by kernel_rfl)
theorem Jaw:Runs Tryz.prog 163:=⟨_,Tryz.func163,by decide,rfl⟩
def Qje (N:Nat):Con:=⟨163,Q51,Qw0,fun (x0,m5000,m5001,m5002)=>Jmp N x0 m5000 m5001 m5002,[5000,5001,5002]⟩
theorem Jax (N:Nat):Qn Tryz.prog tx.gl (Qje N):=Qc (Y:=tx) (N:=N) (K:=[]) (an:=Q50) Qt Qr Qq Tryz.func163 rfl (fun x=>by kernel_rfl)
theorem Jay:Runs Tryz.prog 104:=⟨_,Tryz.func104,by decide,rfl⟩
def Qjf (N:Nat):Con:=⟨104,Q53,Qw1,fun (x0,x1,x2,x3)=>Jmq N x0 x1 x2 x3,[]⟩
theorem Jaz (N:Nat):Qn Tryz.prog tx.gl (Qjf N):=Qc (Y:=tx) (N:=N) (K:=[Qje N]) (an:=Q52) Qt Qr (Qd (Jax N) Jaw Qq) Tryz.func104 rfl (fun x=>by kernel_rfl)
theorem Ja0:Runs Tryz.prog 194:=⟨_,Tryz.func194,by decide,rfl⟩
def Qjg (N:Nat):Con:=⟨194,Q55,Qw2,fun (x0,x1)=>Jd2 N x0 x1,[]⟩
theorem Ja1 (N:Nat):Qn Tryz.prog tx.gl (Qjg N):=Qc (Y:=tx) (N:=N) (K:=[]) (an:=Q54) Qt Qr Qq Tryz.func194 rfl (fun x=>by kernel_rfl)
theorem Ja2:Runs Tryz.prog 164:=⟨_,Tryz.func164,by decide,rfl⟩
def Qjh (N:Nat):Con:=⟨164,Q57,Qw3,fun x0=>Jmr N x0,[]⟩
theorem Ja3 (N:Nat):Qn Tryz.prog tx.gl (Qjh N):=Qc (Y:=tx) (N:=N) (K:=[Qjg N]) (an:=Q56) Qt Qr (Qd (Ja1 N) Ja0 Qq) Tryz.func164 rfl (fun x=>by kernel_rfl)
theorem Ja4:Runs Tryz.prog 165:=⟨_,Tryz.func165,by decide,rfl⟩
def Qji (N:Nat):Con:=⟨165,Q59,Qw4,fun (x0,x1)=>Jd3 N x0 x1,[]⟩
theorem Ja5 (N:Nat):Qn Tryz.prog tx.gl (Qji N):=Qc (Y:=tx) (N:=N) (K:=[]) (an:=Q58) Qt Qr Qq Tryz.func165 rfl (fun x=>by kernel_rfl)
theorem Ja6:Runs Tryz.prog 105:=⟨_,Tryz.func105,by decide,rfl⟩
def Qjj (N:Nat):Con:=⟨105,Q6b,Qw5,fun (x0,x1,x2)=>Jms N x0 x1 x2,[]⟩
theorem Ja7 (N:Nat):Qn Tryz.prog tx.gl (Qjj N):=Qc (Y:=tx) (N:=N) (K:=[Qjh N,Qji N]) (an:=Q6a) Qt Qr (Qd (Ja3 N) Ja2 (Qd (Ja5 N) Ja4 Qq)) Tryz.func105 rfl (fun x=>by kernel_rfl)
theorem Ql8:Runs Tryz.prog 103:=⟨_,Tryz.func103,by decide,rfl⟩
def Rh (N:Nat):Con:=⟨103,Qll,Qhp,fun (x0,x1,x2,x3)=>Qnn N x0 x1 x2 x3,[]⟩
theorem Ql9 (N:Nat):Qn Tryz.prog tx.gl (Rh N):=Qc (Y:=tx) (N:=N) (K:=[Qi4 N,Qa7 N,Qe8 N]) (an:=Qlk) Qt Qr (Qd (Jad N) Jac (Qd (Qom N) Qol (Qd (Qxv N) Qxu Qq))) Tryz.func103 rfl (fun x=>by kernel_rfl)
theorem Ji3:Runs Tryz.prog 71:=⟨_,Tryz.func71,by decide,rfl⟩
def Qop (N:Nat):Con:=⟨71,Jgg,Q6c,fun (x0,x1,x2,x3)=>Z71 N x0 x1 x2 x3,[]⟩
theorem Ji4 (N:Nat):Qn Tryz.prog tx.gl (Qop N):=Qc (Y:=tx) (N:=N) (K:=[Qew N,Rh N,Qjf N,Qjj N]) (an:=Jgf) Qt Qr (Qd (Qxr N) Qxq (Qd (Ql9 N) Ql8 (Qd (Jaz N) Jay (Qd (Ja7 N) Ja6 Qq)))) Tryz.func71 rfl (fun x=>by kernel_rfl)
theorem Ji5:Runs Tryz.prog 54:=⟨_,Tryz.func54,by decide,rfl⟩
def Qoq (N:Nat):Con:=⟨54,Jgi,Q6d,fun (m5000_0,m5000_1,m5000_2,m5000_3,m5000_4,m5000_5,m5000_6,m5000_7_0,m5000_7_1,m5000_7_2,m5000_7_3,m5000_7_4,m5000_7_5,m5000_7_7,m5000_7_8,m5000_7_9,m5000_7_11,m5000_7_12,m5001,m5002)=>Z54 N m5000_0 m5000_1 m5000_2 m5000_3 m5000_4 m5000_5 m5000_6 m5000_7_0 m5000_7_1 m5000_7_2 m5000_7_3 m5000_7_4 m5000_7_5 m5000_7_7 m5000_7_8 m5000_7_9 m5000_7_11 m5000_7_12 m5001 m5002,[5001]⟩
theorem Ji6 (N:Nat):Qn Tryz.prog tx.gl (Qoq N):=Qc (Y:=tx) (N:=N) (K:=[Qop N]) (an:=Jgh) Qt Qr (Qd (Ji4 N) Ji3 Qq) Tryz.func54 rfl (fun x=>by kernel_rfl)
theorem Ji7:Runs Tryz.prog 52:=⟨_,Tryz.func52,by decide,rfl⟩
def Qor (N:Nat):Con:=⟨52,Jgk,Q6e,fun (m5001_0,m5001_1,m5001_2,m5001_3,m5001_4,m5001_5,m5001_6,m5001_7_0,m5001_7_1,m5001_7_2,m5001_7_3,m5001_7_4,m5001_7_7,m5001_7_8,m5001_7_9,m5001_7_11,m5001_7_12,m5002,m5003,m5004)=>Z52 N m5001_0 m5001_1 m5001_2 m5001_3 m5001_4 m5001_5 m5001_6 m5001_7_0 m5001_7_1 m5001_7_2 m5001_7_3 m5001_7_4 m5001_7_7 m5001_7_8 m5001_7_9 m5001_7_11 m5001_7_12 m5002 m5003 m5004,[5000,5002]⟩
theorem Ji8 (N:Nat):Qn Tryz.prog tx.gl (Qor N):=Qc (Y:=tx) (N:=N) (K:=[Qok N,Qoq N]) (an:=Jgj) Qt Qr (Qd (Ji2 N) Ji1 (Qd (Ji6 N) Ji5 Qq)) Tryz.func52 rfl (fun x=>by kernel_rfl)
theorem Qr2:Runs Tryz.prog 47:=⟨_,Tryz.func47,by decide,rfl⟩
def Qa9 (N:Nat):Con:=⟨47,Qrn,Qlm,fun (m5001_0,m5001_1,m5001_2,m5001_3,m5001_4,m5001_5,m5001_6,m5001_7_0,m5001_7_1,m5001_7_2,m5001_7_3,m5001_7_4,m5001_7_7,m5001_7_8,m5001_7_9,m5001_7_11,m5001_7_12,m5002,m5003,m5004,m5005)=>Quw N m5001_0 m5001_1 m5001_2 m5001_3 m5001_4 m5001_5 m5001_6 m5001_7_0 m5001_7_1 m5001_7_2 m5001_7_3 m5001_7_4 m5001_7_7 m5001_7_8 m5001_7_9 m5001_7_11 m5001_7_12 m5002 m5003 m5004 m5005,[5000]⟩
theorem Qr3 (N:Nat):Qn Tryz.prog tx.gl (Qa9 N):=Qc (Y:=tx) (N:=N) (K:=[Qor N]) (an:=Qrm) Qt Qr (Qd (Ji8 N) Ji7 Qq) Tryz.func47 rfl (fun x=>by kernel_rfl)
theorem Qos:Runs Tryz.prog 107:=⟨_,Tryz.func107,by decide,rfl⟩
def Qba (N:Nat):Con:=⟨107,Q6g,Qw6,fun (x0,x1)=>Jd6 N x0 x1,[]⟩
theorem Qot (N:Nat):Qn Tryz.prog tx.gl (Qba N):=Qc (Y:=tx) (N:=N) (K:=[N3 N,N4 N]) (an:=Q6f) Qt Qr (Qd (Qe5 N) Qe4 (Qd (Qe7 N) Qe6 Qq)) Tryz.func107 rfl (fun x=>by kernel_rfl)
theorem Ji9:Runs Tryz.prog 73:=⟨_,Tryz.func73,by decide,rfl⟩
def Qou (N:Nat):Con:=⟨73,Jgm,Q6h,fun (m5000_0,m5000_1,m5000_2,m5000_3,m5000_4,m5000_5,m5000_6,m5000_7_0,m5000_7_1,m5000_7_2,m5000_7_3,m5000_7_4,m5000_7_5,m5000_7_6,m5000_7_7,m5000_7_8,m5000_7_9,m5000_7_11,m5000_7_12,m5001)=>Z73 N m5000_0 m5000_1 m5000_2 m5000_3 m5000_4 m5000_5 m5000_6 m5000_7_0 m5000_7_1 m5000_7_2 m5000_7_3 m5000_7_4 m5000_7_5 m5000_7_6 m5000_7_7 m5000_7_8 m5000_7_9 m5000_7_11 m5000_7_12 m5001,[5000,5001]⟩
theorem Jja (N:Nat):Qn Tryz.prog tx.gl (Qou N):=Qc (Y:=tx) (N:=N) (K:=[Qba N]) (an:=Jgl) Qt Qr (Qd (Qot N) Qos Qq) Tryz.func73 rfl (fun x=>by kernel_rfl)
theorem Qov:Runs Tryz.prog 106:=⟨_,Tryz.func106,by decide,rfl⟩
def Qbb (N:Nat):Con:=⟨106,Q6j,Qw7,fun (x0,x1)=>Jd7 N x0 x1,[]⟩
theorem Qow (N:Nat):Qn Tryz.prog tx.gl (Qbb N):=Qc (Y:=tx) (N:=N) (K:=[]) (an:=Q6i) Qt Qr Qq Tryz.func106 rfl (fun x=>by kernel_rfl)
theorem Jjb:Runs Tryz.prog 72:=⟨_,Tryz.func72,by decide,rfl⟩
def Qox (N:Nat):Con:=⟨72,Jgo,Q6k,fun (x0,x1,x2,x3)=>Z72 N x0 x1 x2 x3,[]⟩
theorem Jjc (N:Nat):Qn Tryz.prog tx.gl (Qox N):=Qc (Y:=tx) (N:=N) (K:=[Qbb N]) (an:=Jgn) Qt Qr (Qd (Qow N) Qov Qq) Tryz.func72 rfl (fun x=>by kernel_rfl)
theorem Jjd:Runs Tryz.prog 76:=⟨_,Tryz.func76,by decide,rfl⟩
def Qoy (N:Nat):Con:=⟨76,Jgq,Q6l,fun (x0,x1,x2,x3,x4)=>Z76 N x0 x1 x2 x3 x4,[]⟩
theorem Jje (N:Nat):Qn Tryz.prog tx.gl (Qoy N):=Qc (Y:=tx) (N:=N) (K:=[Qa8 N]) (an:=Jgp) Qt Qr (Qd (Qoo N) Qon Qq) Tryz.func76 rfl (fun x=>by kernel_rfl)
theorem Jjf:Runs Tryz.prog 75:=⟨_,Tryz.func75,by decide,rfl⟩
def Qoz (N:Nat):Con:=⟨75,Jgs,Q6m,fun (x0,x1,x2)=>Z75 N x0 x1 x2,[]⟩
theorem Jjg (N:Nat):Qn Tryz.prog tx.gl (Qoz N):=Qc (Y:=tx) (N:=N) (K:=[]) (an:=Jgr) Qt Qr Qq Tryz.func75 rfl (fun x=>by kernel_rfl)
theorem Jjh:Runs Tryz.prog 56:=⟨_,Tryz.func56,by decide,rfl⟩
def Qo0 (N:Nat):Con:=⟨56,Jgu,Q6n,fun (m5000_0,m5000_1,m5000_2,m5000_3,m5000_4,m5000_5,m5000_6,m5000_7_0,m5000_7_1,m5000_7_2,m5000_7_3,m5000_7_4,m5000_7_5,m5000_7_6,m5000_7_7,m5000_7_8,m5000_7_9,m5000_7_11,m5000_7_12,m5001)=>Z56 N m5000_0 m5000_1 m5000_2 m5000_3 m5000_4 m5000_5 m5000_6 m5000_7_0 m5000_7_1 m5000_7_2 m5000_7_3 m5000_7_4 m5000_7_5 m5000_7_6 m5000_7_7 m5000_7_8 m5000_7_9 m5000_7_11 m5000_7_12 m5001,[5001]⟩
theorem Jji (N:Nat):Qn Tryz.prog tx.gl (Qo0 N):=Qc (Y:=tx) (N:=N) (K:=[Qou N,Qox N,Qe8 N,Qoy N,Qoz N]) (an:=Jgt) Qt Qr (Qd (Jja N) Ji9 (Qd (Jjc N) Jjb (Qd (Qxv N) Qxu (Qd (Jje N) Jjd (Qd (Jjg N) Jjf Qq))))) Tryz.func56 rfl (fun x=>by kernel_rfl)
theorem Jjj:Runs Tryz.prog 55:=⟨_,Tryz.func55,by decide,rfl⟩
def Qo1 (N:Nat):Con:=⟨55,Jgw,Q6o,fun (m5001_0,m5001_1,m5001_2,m5001_3,m5001_4,m5001_5,m5001_6,m5001_7_0,m5001_7_1,m5001_7_2,m5001_7_3,m5001_7_4,m5001_7_5,m5001_7_6,m5001_7_7,m5001_7_8,m5001_7_9,m5001_7_11,m5001_7_12,m5002)=>Z55 N m5001_0 m5001_1 m5001_2 m5001_3 m5001_4 m5001_5 m5001_6 m5001_7_0 m5001_7_1 m5001_7_2 m5001_7_3 m5001_7_4 m5001_7_5 m5001_7_6 m5001_7_7 m5001_7_8 m5001_7_9 m5001_7_11 m5001_7_12 m5002,[5000,5002]⟩
theorem Jjk (N:Nat):Qn Tryz.prog tx.gl (Qo1 N):=Qc (Y:=tx) (N:=N) (K:=[Qo0 N]) (an:=Jgv) Qt Qr (Qd (Jji N) Jjh Qq) Tryz.func55 rfl (fun x=>by kernel_rfl)
theorem Qr4:Runs Tryz.prog 47:=⟨_,Tryz.func47,by decide,rfl⟩
def Qbc (N:Nat):Con:=⟨47,Qrp,Qln,fun (m5001_0,m5001_1,m5001_2,m5001_3,m5001_4,m5001_5,m5001_6,m5001_7_0,m5001_7_1,m5001_7_2,m5001_7_3,m5001_7_4,m5001_7_5,m5001_7_6,m5001_7_7,m5001_7_8,m5001_7_9,m5001_7_11,m5001_7_12,m5002,m5003)=>Qux N m5001_0 m5001_1 m5001_2 m5001_3 m5001_4 m5001_5 m5001_6 m5001_7_0 m5001_7_1 m5001_7_2 m5001_7_3 m5001_7_4 m5001_7_5 m5001_7_6 m5001_7_7 m5001_7_8 m5001_7_9 m5001_7_11 m5001_7_12 m5002 m5003,[5000]⟩
theorem Qr5 (N:Nat):Qn Tryz.prog tx.gl (Qbc N):=Qc (Y:=tx) (N:=N) (K:=[Qo1 N]) (an:=Qro) Qt Qr (Qd (Jjk N) Jjj Qq) Tryz.func47 rfl (fun x=>by kernel_rfl)
theorem Qo2:Runs Tryz.prog 116:=⟨_,Tryz.func116,by decide,rfl⟩
def Qbd (N:Nat):Con:=⟨116,Q6q,Qw8,fun x0=>Jea N x0,[]⟩
theorem Qo3 (N:Nat):Qn Tryz.prog tx.gl (Qbd N):=Qc (Y:=tx) (N:=N) (K:=[N1 N]) (an:=Q6p) Qt Qr (Qd (Qe0 N) Qez Qq) Tryz.func116 rfl (fun x=>by kernel_rfl)
theorem Ja8:Runs Tryz.prog 117:=⟨_,Tryz.func117,by decide,rfl⟩
def Qjk (N:Nat):Con:=⟨117,Q6s,Qw9,fun (x0,x1)=>Jmt N x0 x1,[]⟩
theorem Ja9 (N:Nat):Qn Tryz.prog tx.gl (Qjk N):=Qc (Y:=tx) (N:=N) (K:=[N1 N,N0 N,Qbd N]) (an:=Q6r) Qt Qr (Qd (Qe0 N) Qez (Qd (Qey N) Qex (Qd (Qo3 N) Qo2 Qq))) Tryz.func117 rfl (fun x=>by kernel_rfl)
theorem Qma:Runs Tryz.prog 115:=⟨_,Tryz.func115,by decide,rfl⟩
def Ri (N:Nat):Con:=⟨115,Qlp,Qhq,fun m5000=>Qno N m5000,[5000]⟩
theorem Qmb (N:Nat):Qn Tryz.prog tx.gl (Ri N):=Qc (Y:=tx) (N:=N) (K:=[]) (an:=Qlo) Qt Qr Qq Tryz.func115 rfl (fun x=>by kernel_rfl)
theorem Jjl:Runs Tryz.prog 77:=⟨_,Tryz.func77,by decide,rfl⟩
def Qo4 (N:Nat):Con:=⟨77,Jgy,Q6t,fun (x0,x1,x2,x3)=>Z77 N x0 x1 x2 x3,[]⟩
theorem Jjm (N:Nat):Qn Tryz.prog tx.gl (Qo4 N):=Qc (Y:=tx) (N:=N) (K:=[Si N,Ri N,Qbd N,Qjk N]) (an:=Jgx) Qt Qr (Qd (Qlz N) Qly (Qd (Qmb N) Qma (Qd (Qo3 N) Qo2 (Qd (Ja9 N) Ja8 Qq)))) Tryz.func77 rfl (fun x=>by kernel_rfl)
theorem Qr6:Runs Tryz.prog 73:=⟨_,Tryz.func73,by decide,rfl⟩
def Qbe (N:Nat):Con:=⟨73,Qrr,Qlq,fun m5000=>Quy N m5000,[5000]⟩
theorem Qr7 (N:Nat):Qn Tryz.prog tx.gl (Qbe N):=Qc (Y:=tx) (N:=N) (K:=[Qba N]) (an:=Qrq) Qt Qr (Qd (Qot N) Qos Qq) Tryz.func73 rfl (fun x=>by kernel_rfl)
theorem Jba:Runs Tryz.prog 178:=⟨_,Tryz.func178,by decide,rfl⟩
def Qjl (N:Nat):Con:=⟨178,Q6v,Qxa,fun x0=>Jmu N x0,[]⟩
theorem Jbb (N:Nat):Qn Tryz.prog tx.gl (Qjl N):=Qc (Y:=tx) (N:=N) (K:=[]) (an:=Q6u) Qt Qr Qq Tryz.func178 rfl (fun x=>by kernel_rfl)
theorem Qo5:Runs Tryz.prog 119:=⟨_,Tryz.func119,by decide,rfl⟩
def Qbf (N:Nat):Con:=⟨119,Q6x,Qxb,fun x0=>Jeb N x0,[]⟩
theorem Qo6 (N:Nat):Qn Tryz.prog tx.gl (Qbf N):=Qc (Y:=tx) (N:=N) (K:=[Qjl N]) (an:=Q6w) Qt Qr (Qd (Jbb N) Jba Qq) Tryz.func119 rfl (fun x=>by kernel_rfl)
theorem Qo7:Runs Tryz.prog 120:=⟨_,Tryz.func120,by decide,rfl⟩
def Qbg (N:Nat):Con:=⟨120,Q6z,Qxc,fun x0=>Q03 N x0,[]⟩
theorem Qo8 (N:Nat):Qn Tryz.prog tx.gl (Qbg N):=Qc (Y:=tx) (N:=N) (K:=[]) (an:=Q6y) Qt Qr Qq Tryz.func120 rfl (fun x=>by kernel_rfl)
theorem Jbc:Runs Tryz.prog 118:=⟨_,Tryz.func118,by decide,rfl⟩
def Qjm (N:Nat):Con:=⟨118,Q61,Qxd,fun x0=>Jmv N x0,[]⟩
theorem Jbd (N:Nat):Qn Tryz.prog tx.gl (Qjm N):=Qc (Y:=tx) (N:=N) (K:=[Qbf N,Qbg N]) (an:=Q60) Qt Qr (Qd (Qo6 N) Qo5 (Qd (Qo8 N) Qo7 Qq)) Tryz.func118 rfl (fun x=>by kernel_rfl)
theorem Jbe:Runs Tryz.prog 121:=⟨_,Tryz.func121,by decide,rfl⟩
def Qjn (N:Nat):Con:=⟨121,Q63,Qxe,fun (m5000,m5001)=>Jmw N m5000 m5001,[5000,5001]⟩
theorem Jbf (N:Nat):Qn Tryz.prog tx.gl (Qjn N):=Qc (Y:=tx) (N:=N) (K:=[Qbb N]) (an:=Q62) Qt Qr (Qd (Qow N) Qov Qq) Tryz.func121 rfl (fun x=>by kernel_rfl)
theorem Jjn:Runs Tryz.prog 78:=⟨_,Tryz.func78,by decide,rfl⟩
def Qo9 (N:Nat):Con:=⟨78,Jg0,Q64,fun (x0,x1)=>Z78 N x0 x1,[]⟩
theorem Jjo (N:Nat):Qn Tryz.prog tx.gl (Qo9 N):=Qc (Y:=tx) (N:=N) (K:=[Qjm N,Qbf N,Qbg N,Qjn N]) (an:=Jgz) Qt Qr (Qd (Jbd N) Jbc (Qd (Qo6 N) Qo5 (Qd (Qo8 N) Qo7 (Qd (Jbf N) Jbe Qq)))) Tryz.func78 rfl (fun x=>by kernel_rfl)
theorem Jjp:Runs Tryz.prog 58:=⟨_,Tryz.func58,by decide,rfl⟩
def Qpa (N:Nat):Con:=⟨58,Jg2,Q65,fun m5000=>Z58 N m5000,[]⟩
theorem Jjq (N:Nat):Qn Tryz.prog tx.gl (Qpa N):=Qc (Y:=tx) (N:=N) (K:=[Qo4 N,Qbe N,Qo9 N]) (an:=Jg1) Qt Qr (Qd (Jjm N) Jjl (Qd (Qr7 N) Qr6 (Qd (Jjo N) Jjn Qq))) Tryz.func58 rfl (fun x=>by kernel_rfl)
theorem Jjr:Runs Tryz.prog 57:=⟨_,Tryz.func57,by decide,rfl⟩
def Qpb (N:Nat):Con:=⟨57,Jg4,Q66,fun m5001=>Z57 N m5001,[5000]⟩
theorem Jjs (N:Nat):Qn Tryz.prog tx.gl (Qpb N):=Qc (Y:=tx) (N:=N) (K:=[Qpa N]) (an:=Jg3) Qt Qr (Qd (Jjq N) Jjp Qq) Tryz.func57 rfl (fun x=>by kernel_rfl)
theorem Qr8:Runs Tryz.prog 47:=⟨_,Tryz.func47,by decide,rfl⟩
def Qbh (N:Nat):Con:=⟨47,Qrt,Qlr,fun (m5001,m5002)=>Quz N m5001 m5002,[5000]⟩
theorem Qr9 (N:Nat):Qn Tryz.prog tx.gl (Qbh N):=Qc (Y:=tx) (N:=N) (K:=[Qpb N]) (an:=Qrs) Qt Qr (Qd (Jjs N) Jjr Qq) Tryz.func47 rfl (fun x=>by kernel_rfl)
theorem Jjt:Runs Tryz.prog 46:=⟨_,Tryz.func46,by decide,rfl⟩
def Qpc (N:Nat):Con:=⟨46,Jg6,Q67,fun x0=>Z46 N x0,[]⟩
theorem Jju (N:Nat):Qn Tryz.prog tx.gl (Qpc N):=Qc (Y:=tx) (N:=N) (K:=[]) (an:=Jg5) Qt Qr Qq Tryz.func46 rfl (fun x=>by kernel_rfl)
theorem Qsa:Runs Tryz.prog 26:=⟨_,Tryz.func26,by decide,rfl⟩
def Qbi (N:Nat):Con:=⟨26,Qrv,Qls,fun (x0,x1,x2)=>Qu0 N x0 x1 x2,[]⟩
theorem Qsb (N:Nat):Qn Tryz.prog tx.gl (Qbi N):=Qc (Y:=tx) (N:=N) (K:=[Qnw N,Qa2 N,Qa9 N,Qbc N,Qbh N,Qpc N]) (an:=Qru) Qt Qr (Qd (Jh2 N) Jh1 (Qd (Qrz N) Qry (Qd (Qr3 N) Qr2 (Qd (Qr5 N) Qr4 (Qd (Qr9 N) Qr8 (Qd (Jju N) Jjt Qq)))))) Tryz.func26 rfl (fun x=>by kernel_rfl)
theorem Jjv:Runs Tryz.prog 79:=⟨_,Tryz.func79,by decide,rfl⟩
def Qpd (N:Nat):Con:=⟨79,Jg8,Q68,fun x0=>Z79 N x0,[]⟩
theorem Jjw (N:Nat):Qn Tryz.prog tx.gl (Qpd N):=Qc (Y:=tx) (N:=N) (K:=[]) (an:=Jg7) Qt Qr Qq Tryz.func79 rfl (fun x=>by kernel_rfl)
theorem Jbg:Runs Tryz.prog 123:=⟨_,Tryz.func123,by decide,rfl⟩
def Qjo (N:Nat):Con:=⟨123,Q7a,Qxf,fun x0=>Jee N x0,[]⟩
theorem Jbh (N:Nat):Qn Tryz.prog tx.gl (Qjo N):=Qc (Y:=tx) (N:=N) (K:=[]) (an:=Q69) Qt Qr Qq Tryz.func123 rfl (fun x=>by kernel_rfl)
theorem Jbi:Runs Tryz.prog 122:=⟨_,Tryz.func122,by decide,rfl⟩
def Qjp (N:Nat):Con:=⟨122,Q7c,Qxg,fun (x0,x1)=>Jmx N x0 x1,[]⟩
theorem Jbj (N:Nat):Qn Tryz.prog tx.gl (Qjp N):=Qc (Y:=tx) (N:=N) (K:=[]) (an:=Q7b) Qt Qr Qq Tryz.func122 rfl (fun x=>by kernel_rfl)
theorem Qmc:Runs Tryz.prog 80:=⟨_,Tryz.func80,by decide,rfl⟩
def Pl (N n:Nat):Con:=⟨80,Jha,Q7d,fun x0=>Qnp N n x0,[]⟩
theorem Qjq (N:Nat):∀n,Qn Tryz.prog tx.gl (Pl N n)
 | 0=>Qei fun _=>rfl
 | n+1=>have ih:=Qjq N n; Qc (Y:=tx) (N:=N) (K:=[Pl N n,Qjo N,Qjp N]) (an:=Jg9) Qt Qr (Qd (ih) Qmc (Qd (Jbh N) Jbg (Qd (Jbj N) Jbi Qq))) Tryz.func80 rfl (fun x=>by kernel_rfl)
def Qe9 (N:Nat):Con:=Pl N N
theorem Qxw (N:Nat):Qn Tryz.prog tx.gl (Qe9 N):=Qjq N N
theorem Qxx:Runs Tryz.prog 59:=⟨_,Tryz.func59,by decide,rfl⟩
def Qfa (N:Nat):Con:=⟨59,Jhc,Q7e,fun (x0,x1,x2)=>Z59 N x0 x1 x2,[]⟩
theorem Qxy (N:Nat):Qn Tryz.prog tx.gl (Qfa N):=Qc (Y:=tx) (N:=N) (K:=[Qpd N,Qe9 N,Qbi N]) (an:=Jhb) Qt Qr (Qd (Jjw N) Jjv (Qd (Qxw N) Qmc (Qd (Qsb N) Qsa Qq))) Tryz.func59 rfl (fun x=>by kernel_rfl)
theorem Jjx:Runs Tryz.prog 32:=⟨_,Tryz.func32,by decide,rfl⟩
def Qpe (N:Nat):Con:=⟨32,Jhe,Q7f,fun (x0,x1)=>Z32 N x0 x1,[]⟩
theorem Jjy (N:Nat):Qn Tryz.prog tx.gl (Qpe N):=Qc (Y:=tx) (N:=N) (K:=[Qfa N]) (an:=Jhd) Qt Qr (Qd (Qxy N) Qxx Qq) Tryz.func32 rfl (fun x=>by kernel_rfl)
theorem Ib:Runs Tryz.prog 33:=⟨_,Tryz.func33,by decide,rfl⟩
def Wy (N:Nat):Con:=⟨33,D3,Co,fun (x0,x1)=>K2 N x0 x1,[]⟩
theorem Ic (N:Nat):Qn Tryz.prog tx.gl (Wy N):=Qc (Y:=tx) (N:=N) (K:=[]) (an:=D2) Qt Qr Qq Tryz.func33 rfl (fun x=>by kernel_rfl)
theorem C1:Runs Tryz.prog 17:=⟨_,Tryz.func17,by decide,rfl⟩
def Wr (N:Nat):Con:=⟨17,Cq,Bv,fun (x0,x1)=>Ue N x0 x1,[]⟩
theorem C2 (N:Nat):Qn Tryz.prog tx.gl (Wr N):=Qc (Y:=tx) (N:=N) (K:=[Wy N]) (an:=Cp) Qt Qr (Qd (Ic N) Ib Qq) Tryz.func17 rfl (fun x=>by kernel_rfl)
theorem Qsc:Runs Tryz.prog 32:=⟨_,Tryz.func32,by decide,rfl⟩
def Qbj (N:Nat):Con:=⟨32,Qrx,Qlt,fun (x0,x1)=>Qu1 N x0 x1,[]⟩
theorem Qsd (N:Nat):Qn Tryz.prog tx.gl (Qbj N):=Qc (Y:=tx) (N:=N) (K:=[Qfa N]) (an:=Qrw) Qt Qr (Qd (Qxy N) Qxx Qq) Tryz.func32 rfl (fun x=>by kernel_rfl)
theorem Jjz:Runs Tryz.prog 60:=⟨_,Tryz.func60,by decide,rfl⟩
def Qpf (N:Nat):Con:=⟨60,Jhg,Q7g,fun (x0,x1)=>Z60 N x0 x1,[]⟩
theorem Jj0 (N:Nat):Qn Tryz.prog tx.gl (Qpf N):=Qc (Y:=tx) (N:=N) (K:=[Qe9 N]) (an:=Jhf) Qt Qr (Qd (Qxw N) Qmc Qq) Tryz.func60 rfl (fun x=>by kernel_rfl)
theorem Mk:Runs Tryz.prog 38:=⟨_,Tryz.func38,by decide,rfl⟩
def Hl (N:Nat):Con:=⟨38,Me,Lb,fun x0=>Ze N x0,[]⟩
theorem Mm (N:Nat):Qn Tryz.prog tx.gl (Hl N):=Qc (Y:=tx) (N:=N) (K:=[]) (an:=Md) Qt Qr Qq Tryz.func38 rfl (fun x=>by kernel_rfl)
theorem B2:Runs Tryz.prog 40:=⟨_,Tryz.func40,by decide,rfl⟩
def Gw (N:Nat):Con:=⟨40,Qeq,Qbw,fun x0=>I5 N x0,[]⟩
theorem B3 (N:Nat):Qn Tryz.prog tx.gl (Gw N):=Qc (Y:=tx) (N:=N) (K:=[]) (an:=Qep) Qt Qr Qq Tryz.func40 rfl (fun x=>by kernel_rfl)
theorem Mp:Runs Tryz.prog 39:=⟨_,Tryz.func39,by decide,rfl⟩
def Hm (N:Nat):Con:=⟨39,Mg,Lc,fun (m5000,m5001)=>Hf N m5000 m5001,[5000,5001]⟩
theorem Mq (N:Nat):Qn Tryz.prog tx.gl (Hm N):=Qc (Y:=tx) (N:=N) (K:=[Gw N]) (an:=Mf) Qt Qr (Qd (B3 N) B2 Qq) Tryz.func39 rfl (fun x=>by kernel_rfl)
theorem C3:Runs Tryz.prog 39:=⟨_,Tryz.func39,by decide,rfl⟩
def Ws (N:Nat):Con:=⟨39,Cs,Bw,fun m5000=>Xw N m5000,[5000]⟩
theorem C4 (N:Nat):Qn Tryz.prog tx.gl (Ws N):=Qc (Y:=tx) (N:=N) (K:=[Gw N]) (an:=Cr) Qt Qr (Qd (B3 N) B2 Qq) Tryz.func39 rfl (fun x=>by kernel_rfl)
theorem C5:Runs Tryz.prog 39:=⟨_,Tryz.func39,by decide,rfl⟩
def Wt (N:Nat):Con:=⟨39,Cu,Bx,fun m5000=>Xx N m5000,[5000]⟩
theorem C6 (N:Nat):Qn Tryz.prog tx.gl (Wt N):=Qc (Y:=tx) (N:=N) (K:=[Gw N]) (an:=Ct) Qt Qr (Qd (B3 N) B2 Qq) Tryz.func39 rfl (fun x=>by kernel_rfl)
theorem Pm:Runs Tryz.prog 81:=⟨_,Tryz.func81,by decide,rfl⟩
def Fu (N:Nat):Con:=⟨81,Ph,Ns,fun (x0,x1)=>Gv N x0 x1,[]⟩
theorem Pn (N:Nat):Qn Tryz.prog tx.gl (Fu N):=Qc (Y:=tx) (N:=N) (K:=[]) (an:=Pg) Qt Qr Qq Tryz.func81 rfl (fun x=>by kernel_rfl)
theorem Fv:Runs Tryz.prog 62:=⟨_,Tryz.func62,by decide,rfl⟩
def Xy (N:Nat):Con:=⟨62,Nu,Mh,fun x0=>U4 N x0,[]⟩
theorem Fw (N:Nat):Qn Tryz.prog tx.gl (Xy N):=Qc (Y:=tx) (N:=N) (K:=[Fu N]) (an:=Nt) Qt Qr (Qd (Pn N) Pm Qq) Tryz.func62 rfl (fun x=>by kernel_rfl)
theorem E3:Runs Tryz.prog 37:=⟨_,Tryz.func37,by decide,rfl⟩
def K4 (N:Nat):Con:=⟨37,E2,H0,fun (x0,x1)=>Z6 N x0 x1,[]⟩
theorem E4 (N:Nat):Qn Tryz.prog tx.gl (K4 N):=Qc (Y:=tx) (N:=N) (K:=[Hl N,Hm N,Ws N,Wt N,Xy N]) (an:=E1) Qt Qr (Qd (Mm N) Mk (Qd (Mq N) Mp (Qd (C4 N) C3 (Qd (C6 N) C5 (Qd (Fw N) Fv Qq))))) Tryz.func37 rfl (fun x=>by kernel_rfl)
theorem Au:Runs Tryz.prog 20:=⟨_,Tryz.func20,by decide,rfl⟩
def Wu (N:Nat):Con:=⟨20,Pj,Nv,fun (x0,x1)=>Ux N x0 x1,[]⟩
theorem Av (N:Nat):Qn Tryz.prog tx.gl (Wu N):=Qc (Y:=tx) (N:=N) (K:=[K4 N]) (an:=Pi) Qt Qr (Qd (E4 N) E3 Qq) Tryz.func20 rfl (fun x=>by kernel_rfl)
theorem Jj1:Runs Tryz.prog 34:=⟨_,Tryz.func34,by decide,rfl⟩
def Qpg (N:Nat):Con:=⟨34,Jhi,Q7h,fun (x0,x1,x2)=>Z34 N x0 x1 x2,[]⟩
theorem Jj2 (N:Nat):Qn Tryz.prog tx.gl (Qpg N):=Qc (Y:=tx) (N:=N) (K:=[Qbj N,Qpf N,Qpe N,Wu N]) (an:=Jhh) Qt Qr (Qd (Qsd N) Qsc (Qd (Jj0 N) Jjz (Qd (Jjy N) Jjx (Qd (Av N) Au Qq)))) Tryz.func34 rfl (fun x=>by kernel_rfl)
theorem Jj3:Runs Tryz.prog 61:=⟨_,Tryz.func61,by decide,rfl⟩
def Qph (N:Nat):Con:=⟨61,Jhk,Q7i,fun x0=>Z61 N x0,[]⟩
theorem Jj4 (N:Nat):Qn Tryz.prog tx.gl (Qph N):=Qc (Y:=tx) (N:=N) (K:=[]) (an:=Jhj) Qt Qr Qq Tryz.func61 rfl (fun x=>by kernel_rfl)
theorem Jj5:Runs Tryz.prog 35:=⟨_,Tryz.func35,by decide,rfl⟩
def Qpi (N:Nat):Con:=⟨35,Jhm,Q7j,fun (x0,x1)=>Z35 N x0 x1,[]⟩
theorem Jj6 (N:Nat):Qn Tryz.prog tx.gl (Qpi N):=Qc (Y:=tx) (N:=N) (K:=[Qph N]) (an:=Jhl) Qt Qr (Qd (Jj4 N) Jj3 Qq) Tryz.func35 rfl (fun x=>by kernel_rfl)
theorem Ie:Runs Tryz.prog 19:=⟨_,Tryz.func19,by decide,rfl⟩
def Wz (N:Nat):Con:=⟨19,D5,Cv,fun (x0,x1)=>Ft N x0 x1,[]⟩
theorem If (N:Nat):Qn Tryz.prog tx.gl (Wz N):=Qc (Y:=tx) (N:=N) (K:=[]) (an:=D4) Qt Qr Qq Tryz.func19 rfl (fun x=>by kernel_rfl)
theorem Jj7:Runs Tryz.prog 36:=⟨_,Tryz.func36,by decide,rfl⟩
def Qpj (N:Nat):Con:=⟨36,Jho,Q7k,fun (x0,x1)=>Z36 N x0 x1,[]⟩
theorem Jj8 (N:Nat):Qn Tryz.prog tx.gl (Qpj N):=Qc (Y:=tx) (N:=N) (K:=[]) (an:=Jhn) Qt Qr Qq Tryz.func36 rfl (fun x=>by kernel_rfl)
theorem C7:Runs Tryz.prog 18:=⟨_,Tryz.func18,by decide,rfl⟩
def Wv (N:Nat):Con:=⟨18,Cy,By,fun _=>Km N,[]⟩
theorem C8 (N:Nat):Qn Tryz.prog tx.gl (Wv N):=Qc (Y:=tx) (N:=N) (K:=[Qnq N,Qpg N,Qpi N,Wz N,Qpj N]) (an:=Cw) Qt Qr (Qd (Jhq N) Jhp (Qd (Jj2 N) Jj1 (Qd (Jj6 N) Jj5 (Qd (If N) Ie (Qd (Jj8 N) Jj7 Qq))))) Tryz.func18 rfl (fun x=>by kernel_rfl)
theorem N5:Runs Tryz.prog 44:=⟨_,Tryz.func44,by decide,rfl⟩
def E5 (N:Nat):Con:=⟨44,Nx,Mi,fun x0=>Z7 N x0,[]⟩
theorem N6 (N:Nat):Qn Tryz.prog tx.gl (E5 N):=Qc (Y:=tx) (N:=N) (K:=[]) (an:=Nw) Qt Qr Qq Tryz.func44 rfl (fun x=>by kernel_rfl)
theorem N7:Runs Tryz.prog 45:=⟨_,Tryz.func45,by decide,rfl⟩
def E6 (N:Nat):Con:=⟨45,Nz,Mj,fun (m5000,m5001)=>E0 N m5000 m5001,[5000,5001]⟩
theorem N8 (N:Nat):Qn Tryz.prog tx.gl (E6 N):=Qc (Y:=tx) (N:=N) (K:=[]) (an:=Ny) Qt Qr Qq Tryz.func45 rfl (fun x=>by kernel_rfl)
theorem Ig:Runs Tryz.prog 45:=⟨_,Tryz.func45,by decide,rfl⟩
def W0 (N:Nat):Con:=⟨45,D7,Cz,fun m5000=>Wp N m5000,[5000]⟩
theorem Ih (N:Nat):Qn Tryz.prog tx.gl (W0 N):=Qc (Y:=tx) (N:=N) (K:=[]) (an:=D6) Qt Qr Qq Tryz.func45 rfl (fun x=>by kernel_rfl)
theorem Ii:Runs Tryz.prog 45:=⟨_,Tryz.func45,by decide,rfl⟩
def W5 (N:Nat):Con:=⟨45,D9,C0,fun m5000=>Wq N m5000,[5000]⟩
theorem Ij (N:Nat):Qn Tryz.prog tx.gl (W5 N):=Qc (Y:=tx) (N:=N) (K:=[]) (an:=D8) Qt Qr Qq Tryz.func45 rfl (fun x=>by kernel_rfl)
theorem H3:Runs Tryz.prog 43:=⟨_,Tryz.func43,by decide,rfl⟩
def Ks (N:Nat):Con:=⟨43,H2,Hg,fun (x0,x1)=>Zq N x0 x1,[]⟩
theorem H4 (N:Nat):Qn Tryz.prog tx.gl (Ks N):=Qc (Y:=tx) (N:=N) (K:=[E5 N,E6 N,W0 N,W5 N,Xy N]) (an:=H1) Qt Qr (Qd (N6 N) N5 (Qd (N8 N) N7 (Qd (Ih N) Ig (Qd (Ij N) Ii (Qd (Fw N) Fv Qq))))) Tryz.func43 rfl (fun x=>by kernel_rfl)
theorem Rt:Runs Tryz.prog 23:=⟨_,Tryz.func23,by decide,rfl⟩
def Aw (N:Nat):Con:=⟨23,Rs,Pk,fun (x0,x1)=>Hz N x0 x1,[]⟩
theorem Ru (N:Nat):Qn Tryz.prog tx.gl (Aw N):=Qc (Y:=tx) (N:=N) (K:=[Ks N]) (an:=Rr) Qt Qr (Qd (H4 N) H3 Qq) Tryz.func23 rfl (fun x=>by kernel_rfl)
theorem B4:Runs Tryz.prog 25:=⟨_,Tryz.func25,by decide,rfl⟩
def X9 (N:Nat):Con:=⟨25,B1,As,fun (x0,x1)=>Uq N x0 x1,[]⟩
theorem B5 (N:Nat):Qn Tryz.prog tx.gl (X9 N):=Qc (Y:=tx) (N:=N) (K:=[]) (an:=Bz) Qt Qr Qq Tryz.func25 rfl (fun x=>by kernel_rfl)
def Kf (N:Nat):Con:=⟨8,Hi,G6,fun (x0,x1,x2)=>Yo N x0 x1 x2,[]⟩
theorem Hj (N:Nat):Qn Tryz.prog tx.gl (Kf N):=Qc (Y:=tx) (N:=N) (K:=[Wr N,Wv N,Wu N,Aw N,X9 N]) (an:=Hh) Qt Qr (Qd (C2 N) C1 (Qd (C8 N) C7 (Qd (Av N) Au (Qd (Ru N) Rt (Qd (B5 N) B4 Qq))))) Tryz.func8 rfl (fun x=>by kernel_rfl)
end Gx
