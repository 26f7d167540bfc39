/- The interpreter gives these functions. -/
import Derived.Test.YtbhpbpilmejnlaaGreatXFns
import Derived.Test.YtbhpbpilmejnlaaGreatProg
namespace Gx
open Go Gd Go.Proofs
set_option linter.unusedVariables false
def tab:Tab:=[
  ⟨1,.func ⟨[]⟩ ⟨[]⟩ false,.nilFunc,1,8⟩,
  ⟨2,.int .i64,.int .i64 0,1,8⟩,
  ⟨3,.int .i64,.int .i64 0,1,8⟩,
  ⟨4,.bool,.bool false,1,1⟩,
  ⟨5,.int .u8,.int .u8 0,1,1⟩,
  ⟨9,.string,strV [],1,16⟩,
  ⟨23,.struct ⟨[⟨"Id",3,0,false, "", "",0⟩,⟨"Kind",3,1,false, "", "",8⟩,⟨"Account",3,2,false, "", "",16⟩,⟨"Sub",3,3,false, "", "",24⟩,⟨"A",9,4,false, "", "",32⟩,⟨"B",9,5,false, "", "",48⟩,⟨"Start",3,6,false, "", "",64⟩,⟨"Units",3,7,false, "", "",72⟩,⟨"Trunk",3,8,false, "", "",80⟩,⟨"Inbound",4,9,false, "", "",88⟩,⟨"Source",3,10,false, "", "",96⟩,⟨"Serial",3,11,false, "", "",104⟩]⟩,.agg ⟨[.int .i64 0,.int .i64 0,.int .i64 0,.int .i64 0,strV [],strV [],.int .i64 0,.int .i64 0,.int .i64 0,.bool false,.int .i64 0,.int .i64 0]⟩,12,112⟩,
  ⟨24,.int .i64,.int .i64 0,1,8⟩,
  ⟨25,.slice 33,.slice none 0 0,1,24⟩,
  ⟨26,.slice 35,.slice none 0 0,1,24⟩,
  ⟨27,.slice 76,.slice none 0 0,1,24⟩,
  ⟨29,.struct ⟨[⟨"Usage",23,0,false, "", "",0⟩,⟨"Err",24,12,false, "", "",112⟩,⟨"Plan",9,13,false, "", "",120⟩,⟨"Version",3,14,false, "", "",136⟩,⟨"Zone",9,15,false, "", "",144⟩,⟨"Takes",25,16,false, "", "",160⟩,⟨"Segments",26,17,false, "", "",184⟩,⟨"Setup",3,18,false, "", "",208⟩,⟨"Gross",3,19,false, "", "",216⟩,⟨"Net",3,20,false, "", "",224⟩,⟨"Given",27,21,false, "", "",232⟩,⟨"Paid",3,22,false, "", "",256⟩,⟨"Owed",3,23,false, "", "",264⟩]⟩,.agg ⟨[.int .i64 0,.int .i64 0,.int .i64 0,.int .i64 0,strV [],strV [],.int .i64 0,.int .i64 0,.int .i64 0,.bool false,.int .i64 0,.int .i64 0,.int .i64 0,strV [],.int .i64 0,strV [],.slice none 0 0,.slice none 0 0,.int .i64 0,.int .i64 0,.int .i64 0,.slice none 0 0,.int .i64 0,.int .i64 0]⟩,24,272⟩,
  ⟨33,.struct ⟨[⟨"Sub",3,0,false, "", "",0⟩,⟨"Product",9,1,false, "", "",8⟩,⟨"Index",3,2,false, "", "",24⟩,⟨"From",3,3,false, "", "",32⟩,⟨"Units",3,4,false, "", "",40⟩]⟩,.agg ⟨[.int .i64 0,strV [],.int .i64 0,.int .i64 0,.int .i64 0]⟩,5,48⟩,
  ⟨35,.struct ⟨[⟨"Band",9,0,false, "", "",0⟩,⟨"Start",3,1,false, "", "",16⟩,⟨"Units",3,2,false, "", "",24⟩,⟨"Amount",3,3,false, "", "",32⟩]⟩,.agg ⟨[strV [],.int .i64 0,.int .i64 0,.int .i64 0]⟩,4,40⟩,
  ⟨38,.slice 29,.slice none 0 0,1,24⟩,
  ⟨44,.slice 51,.slice none 0 0,1,24⟩,
  ⟨51,.struct ⟨[⟨"Usage",3,0,false, "", "",0⟩,⟨"Account",3,1,false, "", "",8⟩,⟨"Sub",3,2,false, "", "",16⟩,⟨"Kind",3,3,false, "", "",24⟩,⟨"Start",3,4,false, "", "",32⟩,⟨"Paid",3,5,false, "", "",40⟩,⟨"Owed",3,6,false, "", "",48⟩]⟩,.agg ⟨[.int .i64 0,.int .i64 0,.int .i64 0,.int .i64 0,.int .i64 0,.int .i64 0,.int .i64 0]⟩,7,56⟩,
  ⟨53,.slice 142,.slice none 0 0,1,24⟩,
  ⟨54,.slice 71,.slice none 0 0,1,24⟩,
  ⟨55,.slice 73,.slice none 0 0,1,24⟩,
  ⟨57,.struct ⟨[⟨"Buckets",53,0,false, "", "",0⟩,⟨"Wallets",54,1,false, "", "",24⟩,⟨"Counters",55,2,false, "", "",48⟩]⟩,.agg ⟨[.slice none 0 0,.slice none 0 0,.slice none 0 0]⟩,3,72⟩,
  ⟨60,.slice 133,.slice none 0 0,1,24⟩,
  ⟨61,.slice 112,.slice none 0 0,1,24⟩,
  ⟨62,.slice 131,.slice none 0 0,1,24⟩,
  ⟨63,.slice 407,.slice none 0 0,1,24⟩,
  ⟨64,.slice 3,.slice none 0 0,1,24⟩,
  ⟨65,.slice 409,.slice none 0 0,1,24⟩,
  ⟨67,.struct ⟨[⟨"Events",60,0,false, "", "",0⟩,⟨"Tariffs",61,1,false, "", "",24⟩,⟨"Products",62,2,false, "", "",48⟩,⟨"Taxes",63,3,false, "", "",72⟩,⟨"Holidays",64,4,false, "", "",96⟩,⟨"Agreements",65,5,false, "", "",120⟩]⟩,.agg ⟨[.slice none 0 0,.slice none 0 0,.slice none 0 0,.slice none 0 0,.slice none 0 0,.slice none 0 0]⟩,6,144⟩,
  ⟨71,.struct ⟨[⟨"Account",3,0,false, "", "",0⟩,⟨"Balance",3,1,false, "", "",8⟩,⟨"Floor",3,2,false, "", "",16⟩,⟨"Held",3,3,false, "", "",24⟩,⟨"Until",3,4,false, "", "",32⟩]⟩,.agg ⟨[.int .i64 0,.int .i64 0,.int .i64 0,.int .i64 0,.int .i64 0]⟩,5,40⟩,
  ⟨73,.struct ⟨[⟨"Sub",3,0,false, "", "",0⟩,⟨"Kind",3,1,false, "", "",8⟩,⟨"From",3,2,false, "", "",16⟩,⟨"Units",3,3,false, "", "",24⟩,⟨"Spent",3,4,false, "", "",32⟩]⟩,.agg ⟨[.int .i64 0,.int .i64 0,.int .i64 0,.int .i64 0,.int .i64 0]⟩,5,40⟩,
  ⟨76,.struct ⟨[⟨"Name",9,0,false, "", "",0⟩,⟨"Amount",3,1,false, "", "",16⟩]⟩,.agg ⟨[strV [],.int .i64 0]⟩,2,24⟩,
  ⟨79,.slice 23,.slice none 0 0,1,24⟩,
  ⟨82,.slice 86,.slice none 0 0,1,24⟩,
  ⟨86,.struct ⟨[⟨"Kind",3,0,false, "", "",0⟩,⟨"Sub",3,1,false, "", "",8⟩,⟨"Name",9,2,false, "", "",16⟩,⟨"Category",9,3,false, "", "",32⟩,⟨"Count",3,4,false, "", "",48⟩,⟨"Units",3,5,false, "", "",56⟩,⟨"Amount",3,6,false, "", "",64⟩,⟨"Rounded",3,7,false, "", "",72⟩]⟩,.agg ⟨[.int .i64 0,.int .i64 0,strV [],strV [],.int .i64 0,.int .i64 0,.int .i64 0,.int .i64 0]⟩,8,80⟩,
  ⟨88,.func ⟨[29]⟩ ⟨[3]⟩ false,.nilFunc,1,8⟩,
  ⟨89,.pointer 29,.pointer none,1,8⟩,
  ⟨91,.func ⟨[89,89]⟩ ⟨[51]⟩ false,.nilFunc,1,8⟩,
  ⟨95,.func ⟨[51]⟩ ⟨[3]⟩ false,.nilFunc,1,8⟩,
  ⟨96,.pointer 51,.pointer none,1,8⟩,
  ⟨97,.func ⟨[96,96]⟩ ⟨[51]⟩ false,.nilFunc,1,8⟩,
  ⟨99,.pointer 114,.pointer none,1,8⟩,
  ⟨101,.struct ⟨[⟨"From",3,0,false, "", "",0⟩,⟨"To",3,1,false, "", "",8⟩]⟩,.agg ⟨[.int .i64 0,.int .i64 0]⟩,2,16⟩,
  ⟨102,.slice 9,.slice none 0 0,1,24⟩,
  ⟨104,.struct ⟨[⟨"Period",101,0,false, "", "",0⟩,⟨"Plan",9,2,false, "", "",16⟩,⟨"Products",102,3,false, "", "",32⟩,⟨"Suspended",4,4,false, "", "",56⟩,⟨"Family",4,5,false, "", "",57⟩]⟩,.agg ⟨[.int .i64 0,.int .i64 0,strV [],.slice none 0 0,.bool false,.bool false]⟩,6,64⟩,
  ⟨106,.struct ⟨[⟨"Id",3,0,false, "", "",0⟩,⟨"Since",3,1,false, "", "",8⟩,⟨"Anchor",3,2,false, "", "",16⟩,⟨"Prepaid",4,3,false, "", "",24⟩,⟨"Closed",4,4,false, "", "",25⟩,⟨"Subs",64,5,false, "", "",32⟩]⟩,.agg ⟨[.int .i64 0,.int .i64 0,.int .i64 0,.bool false,.bool false,.slice none 0 0]⟩,6,56⟩,
  ⟨107,.slice 118,.slice none 0 0,1,24⟩,
  ⟨108,.slice 121,.slice none 0 0,1,24⟩,
  ⟨109,.slice 126,.slice none 0 0,1,24⟩,
  ⟨110,.slice 231,.slice none 0 0,1,24⟩,
  ⟨112,.struct ⟨[⟨"Name",9,0,false, "", "",0⟩,⟨"From",3,1,false, "", "",16⟩,⟨"Split",4,2,false, "", "",24⟩,⟨"Zones",107,3,false, "", "",32⟩,⟨"Bands",108,4,false, "", "",56⟩,⟨"Rates",109,5,false, "", "",80⟩,⟨"Discounts",110,6,false, "", "",104⟩]⟩,.agg ⟨[strV [],.int .i64 0,.bool false,.slice none 0 0,.slice none 0 0,.slice none 0 0,.slice none 0 0]⟩,7,128⟩,
  ⟨114,.struct ⟨[⟨"book",67,0,false, "", "billing/rate",0⟩,⟨"state",57,6,false, "", "billing/rate",144⟩,⟨"u",23,9,false, "", "billing/rate",216⟩,⟨"spell",104,21,false, "", "billing/rate",328⟩,⟨"account",106,27,false, "", "billing/rate",392⟩,⟨"tariff",112,33,false, "", "billing/rate",448⟩,⟨"free",3,40,false, "", "billing/rate",576⟩,⟨"r",29,41,false, "", "billing/rate",584⟩]⟩,.agg ⟨[.slice none 0 0,.slice none 0 0,.slice none 0 0,.slice none 0 0,.slice none 0 0,.slice none 0 0,.slice none 0 0,.slice none 0 0,.slice none 0 0,.int .i64 0,.int .i64 0,.int .i64 0,.int .i64 0,strV [],strV [],.int .i64 0,.int .i64 0,.int .i64 0,.bool false,.int .i64 0,.int .i64 0,.int .i64 0,.int .i64 0,strV [],.slice none 0 0,.bool false,.bool false,.int .i64 0,.int .i64 0,.int .i64 0,.bool false,.bool false,.slice none 0 0,strV [],.int .i64 0,.bool false,.slice none 0 0,.slice none 0 0,.slice none 0 0,.slice none 0 0,.int .i64 0,.int .i64 0,.int .i64 0,.int .i64 0,.int .i64 0,strV [],strV [],.int .i64 0,.int .i64 0,.int .i64 0,.bool false,.int .i64 0,.int .i64 0,.int .i64 0,strV [],.int .i64 0,strV [],.slice none 0 0,.slice none 0 0,.int .i64 0,.int .i64 0,.int .i64 0,.slice none 0 0,.int .i64 0,.int .i64 0]⟩,65,856⟩,
  ⟨115,.func ⟨[]⟩ ⟨[24]⟩ false,.nilFunc,1,8⟩,
  ⟨118,.struct ⟨[⟨"Name",9,0,false, "", "",0⟩,⟨"Prefixes",102,1,false, "", "",16⟩]⟩,.agg ⟨[strV [],.slice none 0 0]⟩,2,40⟩,
  ⟨119,.slice 264,.slice none 0 0,1,24⟩,
  ⟨121,.struct ⟨[⟨"Name",9,0,false, "", "",0⟩,⟨"Slots",119,1,false, "", "",16⟩]⟩,.agg ⟨[strV [],.slice none 0 0]⟩,2,40⟩,
  ⟨123,.struct ⟨[⟨"Upto",3,0,false, "", "",0⟩,⟨"Quantum",3,1,false, "", "",8⟩,⟨"Price",3,2,false, "", "",16⟩]⟩,.agg ⟨[.int .i64 0,.int .i64 0,.int .i64 0]⟩,3,24⟩,
  ⟨124,.slice 123,.slice none 0 0,1,24⟩,
  ⟨126,.struct ⟨[⟨"Kind",3,0,false, "", "",0⟩,⟨"Zone",9,1,false, "", "",8⟩,⟨"Band",9,2,false, "", "",24⟩,⟨"Setup",3,3,false, "", "",40⟩,⟨"Steps",124,4,false, "", "",48⟩]⟩,.agg ⟨[.int .i64 0,strV [],strV [],.int .i64 0,.slice none 0 0]⟩,5,72⟩,
  ⟨128,.struct ⟨[⟨"Kind",3,0,false, "", "",0⟩,⟨"Zones",102,1,false, "", "",8⟩,⟨"Units",3,2,false, "", "",32⟩,⟨"Rollover",3,3,false, "", "",40⟩,⟨"Priority",3,4,false, "", "",48⟩,⟨"Shared",4,5,false, "", "",56⟩]⟩,.agg ⟨[.int .i64 0,.slice none 0 0,.int .i64 0,.int .i64 0,.int .i64 0,.bool false]⟩,6,64⟩,
  ⟨129,.slice 128,.slice none 0 0,1,24⟩,
  ⟨131,.struct ⟨[⟨"Name",9,0,false, "", "",0⟩,⟨"From",3,1,false, "", "",16⟩,⟨"Fee",3,2,false, "", "",24⟩,⟨"Category",9,3,false, "", "",32⟩,⟨"Prorate",4,4,false, "", "",48⟩,⟨"Bundles",129,5,false, "", "",56⟩]⟩,.agg ⟨[strV [],.int .i64 0,.int .i64 0,strV [],.bool false,.slice none 0 0]⟩,6,80⟩,
  ⟨133,.struct ⟨[⟨"At",3,0,false, "", "",0⟩,⟨"Kind",3,1,false, "", "",8⟩,⟨"Account",3,2,false, "", "",16⟩,⟨"Sub",3,3,false, "", "",24⟩,⟨"Number",9,4,false, "", "",32⟩,⟨"Name",9,5,false, "", "",48⟩,⟨"Value",3,6,false, "", "",64⟩]⟩,.agg ⟨[.int .i64 0,.int .i64 0,.int .i64 0,.int .i64 0,strV [],strV [],.int .i64 0]⟩,7,72⟩,
  ⟨137,.map 3 3,.map none,1,8⟩,
  ⟨138,.map 3 4,.map none,1,8⟩,
  ⟨142,.struct ⟨[⟨"Account",3,0,false, "", "",0⟩,⟨"Sub",3,1,false, "", "",8⟩,⟨"Product",9,2,false, "", "",16⟩,⟨"Index",3,3,false, "", "",32⟩,⟨"Kind",3,4,false, "", "",40⟩,⟨"Zones",102,5,false, "", "",48⟩,⟨"Valid",101,6,false, "", "",72⟩,⟨"Units",3,8,false, "", "",88⟩,⟨"Left",3,9,false, "", "",96⟩,⟨"Priority",3,10,false, "", "",104⟩,⟨"Shared",4,11,false, "", "",112⟩]⟩,.agg ⟨[.int .i64 0,.int .i64 0,strV [],.int .i64 0,.int .i64 0,.slice none 0 0,.int .i64 0,.int .i64 0,.int .i64 0,.int .i64 0,.int .i64 0,.bool false]⟩,12,120⟩,
  ⟨146,.struct ⟨[⟨"Id",3,0,false, "", "",0⟩,⟨"Account",3,1,false, "", "",8⟩,⟨"Since",3,2,false, "", "",16⟩,⟨"Plan",9,3,false, "", "",24⟩,⟨"Numbers",102,4,false, "", "",40⟩,⟨"Products",102,5,false, "", "",64⟩,⟨"Suspended",4,6,false, "", "",88⟩,⟨"Family",4,7,false, "", "",89⟩]⟩,.agg ⟨[.int .i64 0,.int .i64 0,.int .i64 0,strV [],.slice none 0 0,.slice none 0 0,.bool false,.bool false]⟩,8,96⟩,
  ⟨167,.struct ⟨[⟨"Kind",3,0,false, "", "",0⟩,⟨"Units",3,1,false, "", "",8⟩,⟨"Weekday",3,2,false, "", "",16⟩,⟨"Minute",3,3,false, "", "",24⟩,⟨"Total",3,4,false, "", "",32⟩,⟨"Spent",3,5,false, "", "",40⟩,⟨"Zone",9,6,false, "", "",48⟩,⟨"Band",9,7,false, "", "",64⟩,⟨"Family",4,8,false, "", "",80⟩]⟩,.agg ⟨[.int .i64 0,.int .i64 0,.int .i64 0,.int .i64 0,.int .i64 0,.int .i64 0,strV [],strV [],.bool false]⟩,9,88⟩,
  ⟨175,.slice 104,.slice none 0 0,1,24⟩,
  ⟨178,.slice 106,.slice none 0 0,1,24⟩,
  ⟨179,.slice 146,.slice none 0 0,1,24⟩,
  ⟨181,.struct ⟨[⟨"Accounts",178,0,false, "", "",0⟩,⟨"Subs",179,1,false, "", "",24⟩]⟩,.agg ⟨[.slice none 0 0,.slice none 0 0]⟩,2,48⟩,
  ⟨184,.map 9 9,.map none,1,8⟩,
  ⟨195,.pointer 198,.pointer none,1,8⟩,
  ⟨196,.map 201 4,.map none,1,8⟩,
  ⟨198,.struct ⟨[⟨"list",53,0,false, "", "billing/bundle",0⟩,⟨"has",196,1,false, "", "billing/bundle",24⟩]⟩,.agg ⟨[.slice none 0 0,.map none]⟩,2,32⟩,
  ⟨201,.struct ⟨[⟨"sub",3,0,false, "", "billing/bundle",0⟩,⟨"product",9,1,false, "", "billing/bundle",8⟩,⟨"index",3,2,false, "", "billing/bundle",24⟩,⟨"from",3,3,false, "", "billing/bundle",32⟩]⟩,.agg ⟨[.int .i64 0,strV [],.int .i64 0,.int .i64 0]⟩,4,40⟩,
  ⟨204,.slice 209,.slice none 0 0,1,24⟩,
  ⟨206,.slice 101,.slice none 0 0,1,24⟩,
  ⟨209,.struct ⟨[⟨"account",3,0,false, "", "billing/bundle",0⟩,⟨"sub",3,1,false, "", "billing/bundle",8⟩,⟨"product",9,2,false, "", "billing/bundle",16⟩,⟨"active",206,3,false, "", "billing/bundle",32⟩]⟩,.agg ⟨[.int .i64 0,.int .i64 0,strV [],.slice none 0 0]⟩,4,56⟩,
  ⟨210,.slice 213,.slice none 0 0,1,24⟩,
  ⟨213,.struct ⟨[⟨"bucket",142,0,false, "", "billing/bundle",0⟩,⟨"rollover",3,12,false, "", "billing/bundle",120⟩]⟩,.agg ⟨[.int .i64 0,.int .i64 0,strV [],.int .i64 0,.int .i64 0,.slice none 0 0,.int .i64 0,.int .i64 0,.int .i64 0,.int .i64 0,.int .i64 0,.bool false,.int .i64 0]⟩,13,128⟩,
  ⟨227,.slice 229,.slice none 0 0,1,24⟩,
  ⟨229,.struct ⟨[⟨"Op",3,0,false, "", "",0⟩,⟨"Num",3,1,false, "", "",8⟩,⟨"Text",9,2,false, "", "",16⟩,⟨"Args",227,3,false, "", "",32⟩]⟩,.agg ⟨[.int .i64 0,.int .i64 0,strV [],.slice none 0 0]⟩,4,56⟩,
  ⟨231,.struct ⟨[⟨"Name",9,0,false, "", "",0⟩,⟨"When",229,1,false, "", "",16⟩,⟨"Points",3,5,false, "", "",72⟩]⟩,.agg ⟨[strV [],.int .i64 0,.int .i64 0,strV [],.slice none 0 0,.int .i64 0]⟩,6,80⟩,
  ⟨235,.array 2 3,.agg ⟨[.int .i64 0,.int .i64 0]⟩,2,16⟩,
  ⟨244,.struct ⟨[⟨"start",3,0,false, "", "billing/history",0⟩,⟨"source",3,1,false, "", "billing/history",8⟩,⟨"serial",3,2,false, "", "billing/history",16⟩,⟨"id",3,3,false, "", "billing/history",24⟩]⟩,.agg ⟨[.int .i64 0,.int .i64 0,.int .i64 0,.int .i64 0]⟩,4,32⟩,
  ⟨246,.slice 249,.slice none 0 0,1,24⟩,
  ⟨249,.struct ⟨[⟨"at",3,0,false, "", "billing/subscribe",0⟩,⟨"s",146,1,false, "", "billing/subscribe",8⟩]⟩,.agg ⟨[.int .i64 0,.int .i64 0,.int .i64 0,.int .i64 0,strV [],.slice none 0 0,.slice none 0 0,.bool false,.bool false]⟩,9,104⟩,
  ⟨252,.func ⟨[249,249]⟩ ⟨[4]⟩ false,.nilFunc,1,8⟩,
  ⟨253,.func ⟨[249,249]⟩ ⟨[249]⟩ false,.nilFunc,1,8⟩,
  ⟨255,.pointer 314,.pointer none,1,8⟩,
  ⟨264,.struct ⟨[⟨"Days",3,0,false, "", "",0⟩,⟨"From",3,1,false, "", "",8⟩,⟨"To",3,2,false, "", "",16⟩]⟩,.agg ⟨[.int .i64 0,.int .i64 0,.int .i64 0]⟩,3,24⟩,
  ⟨268,.func ⟨[118]⟩ ⟨[4]⟩ false,.nilFunc,1,8⟩,
  ⟨274,.map 9 138,.map none,1,8⟩,
  ⟨289,.struct ⟨[⟨"sub",3,0,false, "", "billing/bucket",0⟩,⟨"product",9,1,false, "", "billing/bucket",8⟩,⟨"index",3,2,false, "", "billing/bucket",24⟩,⟨"from",3,3,false, "", "billing/bucket",32⟩]⟩,.agg ⟨[.int .i64 0,strV [],.int .i64 0,.int .i64 0]⟩,4,40⟩,
  ⟨292,.slice 295,.slice none 0 0,1,24⟩,
  ⟨295,.struct ⟨[⟨"Band",9,0,false, "", "",0⟩,⟨"Period",101,1,false, "", "",16⟩]⟩,.agg ⟨[strV [],.int .i64 0,.int .i64 0]⟩,3,32⟩,
  ⟨299,.array 3 235,.agg ⟨[.int .i64 0,.int .i64 0,.int .i64 0,.int .i64 0,.int .i64 0,.int .i64 0]⟩,6,48⟩,
  ⟨302,.func ⟨[121]⟩ ⟨[4]⟩ false,.nilFunc,1,8⟩,
  ⟨304,.func ⟨[264]⟩ ⟨[4]⟩ false,.nilFunc,1,8⟩,
  ⟨310,.map 3 106,.map none,1,8⟩,
  ⟨311,.map 3 146,.map none,1,8⟩,
  ⟨312,.map 9 3,.map none,1,8⟩,
  ⟨314,.struct ⟨[⟨"accounts",310,0,false, "", "billing/customer",0⟩,⟨"subs",311,1,false, "", "billing/customer",8⟩,⟨"ever",138,2,false, "", "billing/customer",16⟩,⟨"owners",312,3,false, "", "billing/customer",24⟩,⟨"live",137,4,false, "", "billing/customer",32⟩,⟨"opened",64,5,false, "", "billing/customer",40⟩,⟨"added",64,6,false, "", "billing/customer",64⟩]⟩,.agg ⟨[.map none,.map none,.map none,.map none,.map none,.slice none 0 0,.slice none 0 0]⟩,7,88⟩,
  ⟨317,.map 3 64,.map none,1,8⟩,
  ⟨320,.func ⟨[104]⟩ ⟨[4]⟩ false,.nilFunc,1,8⟩,
  ⟨322,.func ⟨[4,4]⟩ ⟨[4]⟩ false,.nilFunc,1,8⟩,
  ⟨324,.func ⟨[131]⟩ ⟨[4]⟩ false,.nilFunc,1,8⟩,
  ⟨329,.struct ⟨[⟨"Year",3,0,false, "", "",0⟩,⟨"Month",3,1,false, "", "",8⟩,⟨"Day",3,2,false, "", "",16⟩]⟩,.agg ⟨[.int .i64 0,.int .i64 0,.int .i64 0]⟩,3,24⟩,
  ⟨337,.array 4 3,.agg ⟨[.int .i64 0,.int .i64 0,.int .i64 0,.int .i64 0]⟩,4,32⟩,
  ⟨340,.func ⟨[101,101]⟩ ⟨[4]⟩ false,.nilFunc,1,8⟩,
  ⟨341,.func ⟨[101,101]⟩ ⟨[101]⟩ false,.nilFunc,1,8⟩,
  ⟨342,.slice 344,.slice none 0 0,1,24⟩,
  ⟨344,.struct ⟨[⟨"at",3,0,false, "", "billing/interval",0⟩,⟨"list",3,1,false, "", "billing/interval",8⟩,⟨"by",3,2,false, "", "billing/interval",16⟩]⟩,.agg ⟨[.int .i64 0,.int .i64 0,.int .i64 0]⟩,3,24⟩,
  ⟨347,.func ⟨[344,344]⟩ ⟨[3]⟩ false,.nilFunc,1,8⟩,
  ⟨357,.int .u64,.int .u64 0,1,8⟩,
  ⟨360,.array 12 3,.agg ⟨[.int .i64 0,.int .i64 0,.int .i64 0,.int .i64 0,.int .i64 0,.int .i64 0,.int .i64 0,.int .i64 0,.int .i64 0,.int .i64 0,.int .i64 0,.int .i64 0]⟩,12,96⟩,
  ⟨365,.int .i64,.int .i64 0,1,8⟩,
  ⟨372,.int .u32,.int .u32 0,1,4⟩,
  ⟨374,.int .u64,.int .u64 0,1,8⟩,
  ⟨407,.struct ⟨[⟨"Category",9,0,false, "", "",0⟩,⟨"From",3,1,false, "", "",16⟩,⟨"Points",3,2,false, "", "",24⟩]⟩,.agg ⟨[strV [],.int .i64 0,.int .i64 0]⟩,3,32⟩,
  ⟨409,.struct ⟨[⟨"Partner",3,0,false, "", "",0⟩,⟨"Kind",3,1,false, "", "",8⟩,⟨"Inbound",4,2,false, "", "",16⟩,⟨"Valid",101,3,false, "", "",24⟩,⟨"Steps",124,5,false, "", "",40⟩,⟨"Cap",3,6,false, "", "",64⟩]⟩,.agg ⟨[.int .i64 0,.int .i64 0,.bool false,.int .i64 0,.int .i64 0,.slice none 0 0,.int .i64 0]⟩,7,72⟩]
def tx:TX:=⟨tab,[(1,.ref),(2,(.int .i64)),(3,(.int .i64)),(4,.bool),(5,(.int .u8)),(9,.str),(23,tyApiUsage),(24,(.int .i64)),(25,(.sl tyApiTake)),(26,(.sl tyApiSegment)),(27,(.sl tyApiGiven)),(29,tyApiRated),(33,tyApiTake),(35,tyApiSegment),(38,(.sl tyApiRated)),(44,(.sl tyApiAdjust)),(51,tyApiAdjust),(53,(.sl tyApiBucket)),(54,(.sl tyApiWallet)),(55,(.sl tyApiCounter)),(57,tyApiState),(60,(.sl tyApiEvent)),(61,(.sl tyApiTariff)),(62,(.sl tyApiProduct)),(63,(.sl tyApiTax)),(64,(.sl (.int .i64))),(65,(.sl tyApiAgreement)),(67,tyApiBook),(71,tyApiWallet),(73,tyApiCounter),(76,tyApiGiven),(79,(.sl tyApiUsage)),(82,(.sl tyApiLine)),(86,tyApiLine),(88,.ref),(89,.ref),(91,.ref),(95,.ref),(96,.ref),(97,.ref),(99,.ref),(101,tyApiPeriod),(102,(.sl .str)),(104,tyApiSpell),(106,tyApiAccount),(107,(.sl tyApiZone)),(108,(.sl tyApiBand)),(109,(.sl tyApiRate)),(110,(.sl tyApiDiscount)),(112,tyApiTariff),(114,tyRateJob),(115,.ref),(118,tyApiZone),(119,(.sl tyApiSlot)),(121,tyApiBand),(123,tyApiStep),(124,(.sl tyApiStep)),(126,tyApiRate),(128,tyApiBundle),(129,(.sl tyApiBundle)),(131,tyApiProduct),(133,tyApiEvent),(137,.ref),(138,.ref),(142,tyApiBucket),(146,tyApiSub),(167,tyApiEnv),(175,(.sl tyApiSpell)),(178,(.sl tyApiAccount)),(179,(.sl tyApiSub)),(181,tyApiCustomers),(184,.ref),(195,.ref),(196,.ref),(198,tyBundleStore),(201,tyBundleIdentity),(204,(.sl tyBundleHolding)),(206,(.sl tyApiPeriod)),(209,tyBundleHolding),(210,(.sl tyBundleGranted)),(213,tyBundleGranted),(227,(.sl tyApiExpr)),(229,tyApiExpr),(231,tyApiDiscount),(235,(.arr 2 (.int .i64))),(244,tyHistoryKey),(246,(.sl tySubscribeMoment)),(249,tySubscribeMoment),(252,.ref),(253,.ref),(255,.ref),(264,tyApiSlot),(268,.ref),(274,.ref),(289,tyBucketIdentity),(292,(.sl tyApiPiece)),(295,tyApiPiece),(299,(.arr 3 (.arr 2 (.int .i64)))),(302,.ref),(304,.ref),(310,.ref),(311,.ref),(312,.ref),(314,tyCustomerWorld),(317,.ref),(320,.ref),(322,.ref),(324,.ref),(329,tyApiDate),(337,(.arr 4 (.int .i64))),(340,.ref),(341,.ref),(342,(.sl tyIntervalChange)),(344,tyIntervalChange),(347,.ref),(357,(.int .u64)),(360,(.arr 12 (.int .i64))),(365,(.int .i64)),(372,(.int .u32)),(374,(.int .u64)),(407,tyApiTax),(409,tyApiAgreement)],[]⟩
theorem mixOk:Tryz.prog.follows .mixedOrders=true:=by kernel_rfl
theorem tabOk:TabOk Tryz.prog tab:=⟨⟨⟨by kernel_rfl,by kernel_rfl⟩,by kernel_rfl⟩,⟨⟨by kernel_rfl,by kernel_rfl⟩,by kernel_rfl⟩,⟨⟨by kernel_rfl,by kernel_rfl⟩,by kernel_rfl⟩,⟨⟨by kernel_rfl,by kernel_rfl⟩,by kernel_rfl⟩,⟨⟨by kernel_rfl,by kernel_rfl⟩,by kernel_rfl⟩,⟨⟨by kernel_rfl,by kernel_rfl⟩,by kernel_rfl⟩,⟨⟨by kernel_rfl,by kernel_rfl⟩,by kernel_rfl⟩,⟨⟨by kernel_rfl,by kernel_rfl⟩,by kernel_rfl⟩,⟨⟨by kernel_rfl,by kernel_rfl⟩,by kernel_rfl⟩,⟨⟨by kernel_rfl,by kernel_rfl⟩,by kernel_rfl⟩,⟨⟨by kernel_rfl,by kernel_rfl⟩,by kernel_rfl⟩,⟨⟨by kernel_rfl,by kernel_rfl⟩,by kernel_rfl⟩,⟨⟨by kernel_rfl,by kernel_rfl⟩,by kernel_rfl⟩,⟨⟨by kernel_rfl,by kernel_rfl⟩,by kernel_rfl⟩,⟨⟨by kernel_rfl,by kernel_rfl⟩,by kernel_rfl⟩,⟨⟨by kernel_rfl,by kernel_rfl⟩,by kernel_rfl⟩,⟨⟨by kernel_rfl,by kernel_rfl⟩,by kernel_rfl⟩,⟨⟨by kernel_rfl,by kernel_rfl⟩,by kernel_rfl⟩,⟨⟨by kernel_rfl,by kernel_rfl⟩,by kernel_rfl⟩,⟨⟨by kernel_rfl,by kernel_rfl⟩,by kernel_rfl⟩,⟨⟨by kernel_rfl,by kernel_rfl⟩,by kernel_rfl⟩,⟨⟨by kernel_rfl,by kernel_rfl⟩,by kernel_rfl⟩,⟨⟨by kernel_rfl,by kernel_rfl⟩,by kernel_rfl⟩,⟨⟨by kernel_rfl,by kernel_rfl⟩,by kernel_rfl⟩,⟨⟨by kernel_rfl,by kernel_rfl⟩,by kernel_rfl⟩,⟨⟨by kernel_rfl,by kernel_rfl⟩,by kernel_rfl⟩,⟨⟨by kernel_rfl,by kernel_rfl⟩,by kernel_rfl⟩,⟨⟨by kernel_rfl,by kernel_rfl⟩,by kernel_rfl⟩,⟨⟨by kernel_rfl,by kernel_rfl⟩,by kernel_rfl⟩,⟨⟨by kernel_rfl,by kernel_rfl⟩,by kernel_rfl⟩,⟨⟨by kernel_rfl,by kernel_rfl⟩,by kernel_rfl⟩,⟨⟨by kernel_rfl,by kernel_rfl⟩,by kernel_rfl⟩,⟨⟨by kernel_rfl,by kernel_rfl⟩,by kernel_rfl⟩,⟨⟨by kernel_rfl,by kernel_rfl⟩,by kernel_rfl⟩,⟨⟨by kernel_rfl,by kernel_rfl⟩,by kernel_rfl⟩,⟨⟨by kernel_rfl,by kernel_rfl⟩,by kernel_rfl⟩,⟨⟨by kernel_rfl,by kernel_rfl⟩,by kernel_rfl⟩,⟨⟨by kernel_rfl,by kernel_rfl⟩,by kernel_rfl⟩,⟨⟨by kernel_rfl,by kernel_rfl⟩,by kernel_rfl⟩,⟨⟨by kernel_rfl,by kernel_rfl⟩,by kernel_rfl⟩,⟨⟨by kernel_rfl,by kernel_rfl⟩,by kernel_rfl⟩,⟨⟨by kernel_rfl,by kernel_rfl⟩,by kernel_rfl⟩,⟨⟨by kernel_rfl,by kernel_rfl⟩,by kernel_rfl⟩,⟨⟨by kernel_rfl,by kernel_rfl⟩,by kernel_rfl⟩,⟨⟨by kernel_rfl,by kernel_rfl⟩,by kernel_rfl⟩,⟨⟨by kernel_rfl,by kernel_rfl⟩,by kernel_rfl⟩,⟨⟨by kernel_rfl,by kernel_rfl⟩,by kernel_rfl⟩,⟨⟨by kernel_rfl,by kernel_rfl⟩,by kernel_rfl⟩,⟨⟨by kernel_rfl,by kernel_rfl⟩,by kernel_rfl⟩,⟨⟨by kernel_rfl,by kernel_rfl⟩,by kernel_rfl⟩,⟨⟨by kernel_rfl,by kernel_rfl⟩,by kernel_rfl⟩,⟨⟨by kernel_rfl,by kernel_rfl⟩,by kernel_rfl⟩,⟨⟨by kernel_rfl,by kernel_rfl⟩,by kernel_rfl⟩,⟨⟨by kernel_rfl,by kernel_rfl⟩,by kernel_rfl⟩,⟨⟨by kernel_rfl,by kernel_rfl⟩,by kernel_rfl⟩,⟨⟨by kernel_rfl,by kernel_rfl⟩,by kernel_rfl⟩,⟨⟨by kernel_rfl,by kernel_rfl⟩,by kernel_rfl⟩,⟨⟨by kernel_rfl,by kernel_rfl⟩,by kernel_rfl⟩,⟨⟨by kernel_rfl,by kernel_rfl⟩,by kernel_rfl⟩,⟨⟨by kernel_rfl,by kernel_rfl⟩,by kernel_rfl⟩,⟨⟨by kernel_rfl,by kernel_rfl⟩,by kernel_rfl⟩,⟨⟨by kernel_rfl,by kernel_rfl⟩,by kernel_rfl⟩,⟨⟨by kernel_rfl,by kernel_rfl⟩,by kernel_rfl⟩,⟨⟨by kernel_rfl,by kernel_rfl⟩,by kernel_rfl⟩,⟨⟨by kernel_rfl,by kernel_rfl⟩,by kernel_rfl⟩,⟨⟨by kernel_rfl,by kernel_rfl⟩,by kernel_rfl⟩,⟨⟨by kernel_rfl,by kernel_rfl⟩,by kernel_rfl⟩,⟨⟨by kernel_rfl,by kernel_rfl⟩,by kernel_rfl⟩,⟨⟨by kernel_rfl,by kernel_rfl⟩,by kernel_rfl⟩,⟨⟨by kernel_rfl,by kernel_rfl⟩,by kernel_rfl⟩,⟨⟨by kernel_rfl,by kernel_rfl⟩,by kernel_rfl⟩,⟨⟨by kernel_rfl,by kernel_rfl⟩,by kernel_rfl⟩,⟨⟨by kernel_rfl,by kernel_rfl⟩,by kernel_rfl⟩,⟨⟨by kernel_rfl,by kernel_rfl⟩,by kernel_rfl⟩,⟨⟨by kernel_rfl,by kernel_rfl⟩,by kernel_rfl⟩,⟨⟨by kernel_rfl,by kernel_rfl⟩,by kernel_rfl⟩,⟨⟨by kernel_rfl,by kernel_rfl⟩,by kernel_rfl⟩,⟨⟨by kernel_rfl,by kernel_rfl⟩,by kernel_rfl⟩,⟨⟨by kernel_rfl,by kernel_rfl⟩,by kernel_rfl⟩,⟨⟨by kernel_rfl,by kernel_rfl⟩,by kernel_rfl⟩,⟨⟨by kernel_rfl,by kernel_rfl⟩,by kernel_rfl⟩,⟨⟨by kernel_rfl,by kernel_rfl⟩,by kernel_rfl⟩,⟨⟨by kernel_rfl,by kernel_rfl⟩,by kernel_rfl⟩,⟨⟨by kernel_rfl,by kernel_rfl⟩,by kernel_rfl⟩,⟨⟨by kernel_rfl,by kernel_rfl⟩,by kernel_rfl⟩,⟨⟨by kernel_rfl,by kernel_rfl⟩,by kernel_rfl⟩,⟨⟨by kernel_rfl,by kernel_rfl⟩,by kernel_rfl⟩,⟨⟨by kernel_rfl,by kernel_rfl⟩,by kernel_rfl⟩,⟨⟨by kernel_rfl,by kernel_rfl⟩,by kernel_rfl⟩,⟨⟨by kernel_rfl,by kernel_rfl⟩,by kernel_rfl⟩,⟨⟨by kernel_rfl,by kernel_rfl⟩,by kernel_rfl⟩,⟨⟨by kernel_rfl,by kernel_rfl⟩,by kernel_rfl⟩,⟨⟨by kernel_rfl,by kernel_rfl⟩,by kernel_rfl⟩,⟨⟨by kernel_rfl,by kernel_rfl⟩,by kernel_rfl⟩,⟨⟨by kernel_rfl,by kernel_rfl⟩,by kernel_rfl⟩,⟨⟨by kernel_rfl,by kernel_rfl⟩,by kernel_rfl⟩,⟨⟨by kernel_rfl,by kernel_rfl⟩,by kernel_rfl⟩,⟨⟨by kernel_rfl,by kernel_rfl⟩,by kernel_rfl⟩,⟨⟨by kernel_rfl,by kernel_rfl⟩,by kernel_rfl⟩,⟨⟨by kernel_rfl,by kernel_rfl⟩,by kernel_rfl⟩,⟨⟨by kernel_rfl,by kernel_rfl⟩,by kernel_rfl⟩,⟨⟨by kernel_rfl,by kernel_rfl⟩,by kernel_rfl⟩,⟨⟨by kernel_rfl,by kernel_rfl⟩,by kernel_rfl⟩,⟨⟨by kernel_rfl,by kernel_rfl⟩,by kernel_rfl⟩,⟨⟨by kernel_rfl,by kernel_rfl⟩,by kernel_rfl⟩,⟨⟨by kernel_rfl,by kernel_rfl⟩,by kernel_rfl⟩,⟨⟨by kernel_rfl,by kernel_rfl⟩,by kernel_rfl⟩,⟨⟨by kernel_rfl,by kernel_rfl⟩,by kernel_rfl⟩,⟨⟨by kernel_rfl,by kernel_rfl⟩,by kernel_rfl⟩,⟨⟨by kernel_rfl,by kernel_rfl⟩,by kernel_rfl⟩,⟨⟨by kernel_rfl,by kernel_rfl⟩,by kernel_rfl⟩,⟨⟨by kernel_rfl,by kernel_rfl⟩,by kernel_rfl⟩,⟨⟨by kernel_rfl,by kernel_rfl⟩,by kernel_rfl⟩,⟨⟨by kernel_rfl,by kernel_rfl⟩,by kernel_rfl⟩,⟨⟨by kernel_rfl,by kernel_rfl⟩,by kernel_rfl⟩,⟨⟨by kernel_rfl,by kernel_rfl⟩,by kernel_rfl⟩,⟨⟨by kernel_rfl,by kernel_rfl⟩,by kernel_rfl⟩,⟨⟨by kernel_rfl,by kernel_rfl⟩,by kernel_rfl⟩,⟨⟨by kernel_rfl,by kernel_rfl⟩,by kernel_rfl⟩,⟨⟨by kernel_rfl,by kernel_rfl⟩,by kernel_rfl⟩,⟨⟨by kernel_rfl,by kernel_rfl⟩,by kernel_rfl⟩,⟨⟨by kernel_rfl,by kernel_rfl⟩,by kernel_rfl⟩,trivial⟩
def an_Z27:An:=.t 1 (.t 12 (.t 5 (.t 11 (.nil))))
def in_Z27:Shp:=⟨[],[]⟩
def out_Z27:Shp:=⟨[(0,.d tyApiBook)],[]⟩
def an_Z205:An:=.t 1 (.t 1 (.two (.un (.lp [0,1,5] [] ⟨[],[]⟩ [(.x 0,⟨[],[]⟩)] (.two (.two (.reg (.n 5 (.sp 11 7 [] [] ⟨[(18,.d .bool)],[]⟩ (.tl .done) (.nl 6 (.n 1 .done)) (.done)))) (.two (.gh (.tl .done) .nil) (.nil))) (.nil)))) (.t 5 (.t 5 (.t 6 (.nil))))))
def in_Z205:Shp:=⟨[(0,.d (.sl .str)),(1,.d .str)],[]⟩
def out_Z205:Shp:=⟨[(0,.s 1)],[(1,.row 9 .str)]⟩
def an_Z179:An:=.t 3 (.two (.t 2 (.un (.t 2 (.two (.t 10 (.nil)) (.t 2 (.two (.gh (.tl .done) .nil) (.t 2 (.two (.gh (.tl .done) .nil) (.t 2 (.two (.reg (.n 4 (.call 0 (.n 2 .done)))) (.gh (.tl .done) .nil))))))))))) (.t 2 (.nil)))
def in_Z179:Shp:=⟨[(0,.d tyApiSub),(1,.d tyApiEvent)],[]⟩
def out_Z179:Shp:=⟨[(0,.ag (.cons (.d .i) (.cons (.d .i) (.cons (.d .i) (.cons (.d .str) (.cons (.d (.sl .str)) (.cons (.s 1) (.cons (.d .bool) (.cons (.d .bool) (.nil))))))))))],[(1,.row 9 .str)]⟩
def an_Z125:An:=.t 1 (.t 1 (.t 1 (.two (.t 3 (.un (.lp [1,10,11] [] ⟨[(5,.s 100000),(6,.p 100001 []),(12,.d .i)],[(100000,.row 249 tySubscribeMoment),(100001,.var 146 (.ag (.cons (.d .i) (.cons (.d .i) (.cons (.d .i) (.cons (.d .str) (.cons (.d (.sl .str)) (.cons (.s 100002) (.cons (.d .bool) (.cons (.d .bool) (.nil))))))))))),(100002,.tail 9 .str)]⟩ [(.x 0,⟨[(5,.s 100300)],[(100300,.row 249 tySubscribeMoment)]⟩)] (.t 1 (.two (.two (.nil) (.nil)) (.two (.jn [12] [] [(.n,⟨[(5,.s 100200),(6,.p 100201 [])],[(100200,.row 249 tySubscribeMoment),(100201,.var 146 (.ag (.cons (.d .i) (.cons (.d .i) (.cons (.d .i) (.cons (.d .str) (.cons (.d (.sl .str)) (.cons (.s 100202) (.cons (.d .bool) (.cons (.d .bool) (.nil))))))))))),(100202,.tail 9 .str)]⟩)] (.un (.t 4 (.two (.t 8 (.two (.nil) (.nil))) (.two (.reg (.n 2 (.call 0 (.n 1 .done)))) (.t 3 (.two (.dr 13 (.n 3 (.sp 31 10 [5,6,8,9,12] [8,12601,100000,100001,100002] ⟨[(41,.d .bool)],[]⟩ (.nl 9 (.n 1 .done)) (.nl 9 (.n 1 .done)) (.done))) (.done)) (.two (.reg (.n 6 (.fz 12601 (.n 1 .done)))) (.reg (.n 5 (.fz 12601 (.n 3 .done)))))))))))) (.reg (.n 2 .done)))))))) (.t 2 (.nil)))))
def in_Z125:Shp:=⟨[(0,.d (.sl tyApiEvent)),(1,.d .i)],[]⟩
def out_Z125:Shp:=⟨[(0,.s 1)],[(1,.row 249 tySubscribeMoment)]⟩
def an_Z124:An:=.t 1 (.t 1 (.two (.t 3 (.un (.lp [1,11,12] [] ⟨[(7,.s 100000),(13,.d .i)],[(100000,.row 249 tySubscribeMoment)]⟩ [(.x 0,⟨[(7,.s 100100)],[(100100,.row 249 tySubscribeMoment)]⟩)] (.t 1 (.two (.two (.nil) (.nil)) (.two (.un (.t 4 (.t 3 (.two (.dm 10 [19,20,21,22,23,24,25,26,27,28] [] (.n 3 (.so 21 (.tl .done) (.n 7 (.tl (.nl 1 (.n 1 .done))))))) (.two (.nil) (.reg (.n 5 .done))))))) (.reg (.n 2 .done)))))))) (.t 2 (.nil))))
def in_Z124:Shp:=⟨[(0,.d (.sl tySubscribeMoment)),(1,.f 126 (.nil)),(2,.f 128 (.nil))],[]⟩
def out_Z124:Shp:=⟨[(0,.s 1)],[(1,.row 249 tySubscribeMoment)]⟩
def an_Z82:An:=.t 1 (.two (.reg (.n 2 (.call 0 (.call 1 (.n 1 .done))))) (.t 1 (.two (.t 3 (.un (.lp [5,14,15] [11201,11301] ⟨[(6,.s 100000),(16,.d .i)],[(100000,.row 104 tyApiSpell)]⟩ [(.x 0,⟨[(6,.s 100100)],[(100100,.row 104 tyApiSpell)]⟩)] (.t 1 (.two (.two (.nil) (.nil)) (.two (.un (.t 6 (.two (.t 4 (.two (.gh (.tl .done) .nil) (.nil))) (.t 5 (.two (.t 5 (.two (.gh (.tl .done) .nil) (.nil))) (.dc 17 [40,41,42,43,44,45,46,47,48,49,50,51,52,53,54,55,56] [9,8] [] (.op ⟨.nl 1 .done,[],[],[],[100000]⟩ (.op ⟨.nl 1 .done,[],[9],[],[]⟩ (.op ⟨.nl 1 .done,[],[],[],[8]⟩ (.op ⟨.nl 1 .done,[],[],[],[8]⟩ (.op ⟨.nl 1 .done,[],[8],[],[]⟩ (.op ⟨.nl 1 .done,[],[],[],[8]⟩ (.op ⟨.nl 1 .done,[],[],[],[8]⟩ (.op ⟨.nl 1 .done,[],[8],[],[]⟩ (.op ⟨.nl 1 .done,[],[],[48],[48]⟩ (.op ⟨.nl 1 .done,[],[],[],[8]⟩ (.op ⟨.nl 1 .done,[],[],[],[8]⟩ (.op ⟨.nl 1 .done,[],[8],[],[]⟩ (.op ⟨.nl 1 .done,[],[],[],[8]⟩ (.op ⟨.nl 1 .done,[],[],[],[8]⟩ (.op ⟨.nl 1 .done,[],[8],[],[]⟩ (.op ⟨.nl 1 .done,[],[],[],[48]⟩ (.op ⟨.fz 48 (.nl 1 .done),[48],[],[],[48]⟩ (.tl (.n 2 .done))))))))))))))))))))))))) (.reg (.n 2 .done)))))))) (.t 2 (.nil)))))
def in_Z82:Shp:=⟨[(0,.d (.sl tyApiEvent)),(1,.d .i)],[]⟩
def out_Z82:Shp:=⟨[(0,.s 1)],[(1,.row 104 tyApiSpell)]⟩
def an_Z129:An:=.t 2 (.t 16 (.nil))
def in_Z129:Shp:=⟨[(0,.d tyApiPeriod)],[]⟩
def out_Z129:Shp:=⟨[(0,.d .bool)],[]⟩
def an_Z83:An:=.t 2 (.two (.reg (.n 1 (.call 0 (.n 13 .done)))) (.nil))
def in_Z83:Shp:=⟨[(0,.d tyApiPeriod),(1,.d .i)],[]⟩
def out_Z83:Shp:=⟨[(0,.d .bool)],[]⟩
def an_Z63:An:=.t 2 (.two (.two (.reg (.n 2 (.call 0 (.n 2 .done)))) (.un (.lp [2,12,13,14] [11201] ⟨[(6,.p 100000 [])],[(100000,.var 104 (.ag (.cons (.d tyApiPeriod) (.cons (.d .str) (.cons (.ns) (.cons (.d .bool) (.cons (.d .bool) (.nil))))))))]⟩ [(.x 0,⟨[(6,.p 100100 [])],[(100100,.var 104 (.ag (.cons (.d tyApiPeriod) (.cons (.d .str) (.cons (.ns) (.cons (.d .bool) (.cons (.d .bool) (.nil))))))))]⟩),(.r,⟨[(6,.p 100200 []),(7,.d .bool)],[(100200,.var 104 (.d tyApiSpell))]⟩)] (.t 1 (.two (.two (.nil) (.nil)) (.two (.un (.t 4 (.two (.reg (.n 3 (.call 1 (.done)))) (.two (.t 3 (.nil)) (.gh (.tl .done) .nil))))) (.nil))))))) (.t 3 (.nil)))
def in_Z63:Shp:=⟨[(0,.d (.sl tyApiEvent)),(1,.d .i),(2,.d .i)],[]⟩
def out_Z63:Shp:=⟨[(0,.d tyApiSpell),(1,.d .bool)],[]⟩
def an_Z130:An:=.t 1 (.t 8 (.nil))
def in_Z130:Shp:=⟨[],[]⟩
def out_Z130:Shp:=⟨[(0,.p 1 [])],[(1,.var 314 (.ag (.cons (.m 2) (.cons (.m 3) (.cons (.m 4) (.cons (.m 5) (.cons (.m 6) (.cons (.ns) (.cons (.ns) (.nil)))))))))),(2,.map .i tyApiAccount),(3,.map .i tyApiSub),(4,.map .i .bool),(5,.map .str .i),(6,.map .i .i)]⟩
def an_Z131:An:=.t 3 (.t 2 (.nil))
def in_Z131:Shp:=⟨[(0,.d (.sl tyApiEvent)),(1,.d .i)],[]⟩
def out_Z131:Shp:=⟨[(0,.f 180 (.cons (.p 1 []) (.cons (.p 2 []) (.nil))))],[(1,.var 60 (.d (.sl tyApiEvent))),(2,.var 3 (.d .i))]⟩
def an_Z180:AnY:=.two (.reg (.n 3 .done)) (.un (.lp [2,6,7] [] ⟨[(8,.d .i)],[]⟩ [(.x 0,⟨[],[]⟩)] (.two (.reg (.n 1 .done)) (.two (.two (.nil) (.nil)) (.two (.un (.two (.reg (.n 4 .done)) (.two (.yr (.h 5 (.n 5 .done) (.so 16 (.mv (.h 1 (.nl 1 .done) (.yl (.h 2 (.nl 1 (.n 1 .done)) (.done))))) (.h 5 (.nl 4 (.n 1 .done)) (.done))))) (.two (.yr .done) (.nil))))) (.reg (.n 2 .done)))))))
def an_Z181:An:=.t 1 (.t 1 (.two (.un (.lp [0,1,5] [] ⟨[],[]⟩ [(.x 0,⟨[],[]⟩)] (.two (.two (.reg (.n 5 (.sp 11 7 [] [] ⟨[(18,.d .bool)],[]⟩ (.tl .done) (.nl 6 (.n 1 .done)) (.done)))) (.two (.gh (.tl .done) .nil) (.nil))) (.nil)))) (.t 5 (.t 5 (.t 6 (.nil))))))
def in_Z181:Shp:=⟨[(0,.d (.sl .i)),(1,.d .i)],[]⟩
def out_Z181:Shp:=⟨[(0,.d (.sl .i))],[]⟩
def an_Z207:An:=.t 1 (.t 1 (.two (.un (.lp [0,1,5] [] ⟨[],[]⟩ [(.x 0,⟨[],[]⟩)] (.two (.two (.reg (.n 5 (.sp 11 7 [] [] ⟨[(18,.d .bool)],[]⟩ (.tl .done) (.nl 6 (.n 1 .done)) (.done)))) (.two (.gh (.tl .done) .nil) (.nil))) (.nil)))) (.t 5 (.t 5 (.t 6 (.nil))))))
def in_Z207:Shp:=⟨[(0,.d (.sl .str)),(1,.d .str)],[]⟩
def out_Z207:Shp:=⟨[(0,.s 1)],[(1,.row 9 .str)]⟩
def an_Z182_k2:An:=.t 3 (.two (.t 2 (.un (.t 2 (.two (.gh (.tl .done) .nil) (.t 2 (.two (.gh (.tl .done) .nil) (.t 2 (.two (.gh (.tl .done) .nil) (.t 2 (.two (.reg (.n 4 (.call 0 (.n 2 .done)))) (.gh (.tl .done) .nil))))))))))) (.t 2 (.nil)))
def in_Z182_k2:Shp:=⟨[(0,.p 5000 []),(1,.d tyApiSub),(2,.d tyApiEvent)],[(5000,.var 314 (.ag (.cons (.m 5001) (.cons (.m 5002) (.cons (.m 5003) (.cons (.m 5004) (.cons (.m 5005) (.cons (.d (.sl .i)) (.cons (.d (.sl .i)) (.nil)))))))))),(5001,.map .i tyApiAccount),(5002,.map .i tyApiSub),(5003,.map .i .bool),(5004,.map .str .i),(5005,.map .i .i)]⟩
def out_Z182_k2:Shp:=⟨[(0,.ag (.cons (.d .i) (.cons (.d .i) (.cons (.d .i) (.cons (.d .str) (.cons (.d (.sl .str)) (.cons (.s 1) (.cons (.d .bool) (.cons (.d .bool) (.nil))))))))))],[(1,.row 9 .str)]⟩
def an_Z132_k2:An:=.t 1 (.t 2 (.un (.t 2 (.two (.two (.two (.dm 12 [38,39,40,41,42,43,44,37,45,46,4,1000000011] [] (.n 12 (.tl (.n 1 .done)))) (.t 2 (.two (.dm 8 [49,50,51,52,53,54,55,56] [] (.n 7 (.call 0 (.tl (.n 3 .done))))) (.gh (.tl .done) .nil)))) (.dr 16 (.n 16 .done) (.n 1 .done))) (.t 2 (.two (.gh (.tl .done) .nil) (.t 2 (.two (.two (.two (.dr 8 (.n 8 .done) (.done)) (.two (.dm 8 [102,103,104,105,106,107,108,109] [] (.n 7 (.call 0 (.tl (.n 3 .done))))) (.gh (.tl .done) .nil))) (.two (.dr 6 (.n 6 .done) (.n 1 .done)) (.two (.dr 8 (.n 8 .done) (.n 1 .done)) (.dr 15 (.n 15 .done) (.n 1 .done))))) (.t 2 (.two (.gh (.tl .done) .nil) (.two (.jn [0,3] [3,5000,5001,5002,5003,5004,5005] [(.n,⟨[(177,.d .bool)],[]⟩)] (.t 2 (.two (.nil) (.reg (.n 2 .done))))) (.two (.nil) (.two (.dm 12 [15,16,17,18,19,20,21,14,22,23,10,1000000011] [] (.n 12 (.tl (.n 1 .done)))) (.t 1 (.two (.dc 10 [25,26,27,28,29,30,31,32,33,34] [5000,3,10,5001,5002,5003,5004,5005] [] (.op ⟨.nl 1 .done,[],[],[],[5000]⟩ (.op ⟨.nl 1 .done,[],[5000],[],[5000]⟩ (.op ⟨.nl 1 .done,[],[],[],[5000]⟩ (.op ⟨.nl 1 .done,[],[5000],[],[5002]⟩ (.op ⟨.nl 1 .done,[],[],[],[3]⟩ (.op ⟨.nl 1 .done,[],[3],[],[]⟩ (.op ⟨.nl 1 .done,[],[],[],[5000]⟩ (.op ⟨.nl 1 .done,[],[10],[],[]⟩ (.op ⟨.nl 1 .done,[],[3],[],[]⟩ (.op ⟨.call 1 (.done),[],[5000,5001,5002,5003,5004,5005],[13401],[13401]⟩ (.tl (.fz 13401 (.n 1 .done)))))))))))))) (.gh (.tl .done) .nil))))))))))))))))
def in_Z132_k2:Shp:=⟨[(0,.p 5000 []),(1,.d tyApiEvent)],[(5000,.var 314 (.ag (.cons (.m 5001) (.cons (.m 5002) (.cons (.m 5003) (.cons (.m 5004) (.cons (.m 5005) (.cons (.d (.sl .i)) (.cons (.d (.sl .i)) (.nil)))))))))),(5001,.map .i tyApiAccount),(5002,.map .i tyApiSub),(5003,.map .i .bool),(5004,.map .str .i),(5005,.map .i .i)]⟩
def out_Z132_k2:Shp:=⟨[],[(5000,.var 314 (.ag (.cons (.m 5001) (.cons (.m 5002) (.cons (.m 5003) (.cons (.m 5004) (.cons (.m 5005) (.cons (.d (.sl .i)) (.cons (.d (.sl .i)) (.nil)))))))))),(5001,.map .i tyApiAccount),(5002,.map .i tyApiSub),(5003,.map .i .bool),(5004,.map .str .i),(5005,.map .i .i)]⟩
def an_Z133:An:=.t 1 (.t 1 (.two (.reg (.n 1 (.mt 12 [] 3 (.n 1 .done)))) (.two (.t 6 (.un (.lp [0,16,17] [] ⟨[(2,.p 100000 []),(3,.p 100001 []),(4,.m 100002),(18,.d .i)],[(100000,.var 181 (.ag (.cons (.ns) (.cons (.ns) (.nil))))),(100001,.var 181 (.ag (.cons (.ns) (.cons (.s 100003) (.nil))))),(100002,.mapT .i (.sl .i) [] 3 .i),(100003,.row 146 tyApiSub)]⟩ [(.x 0,⟨[(2,.p 100100 []),(3,.p 100101 []),(4,.m 100102)],[(100100,.var 181 (.ag (.cons (.ns) (.cons (.ns) (.nil))))),(100101,.var 181 (.ag (.cons (.ns) (.cons (.s 100103) (.nil))))),(100102,.mapT .i (.sl .i) [] 3 .i),(100103,.row 146 tyApiSub)]⟩)] (.t 1 (.two (.two (.nil) (.nil)) (.two (.un (.t 3 (.t 12 (.two (.t 2 (.two (.gh (.tl .done) .nil) (.nil))) (.two (.gh (.op (.v 7 [.f 1 1]) 100002 700000 (.done)) (.dm 10 [33,34,35,36,37,38,39,40,41,42] [700000] (.n 10 (.tl (.n 1 .done))))) (.reg (.n 7 .done))))))) (.reg (.n 2 .done)))))))) (.two (.t 6 (.un (.lp [0,2,4,53,54] [100100,100102] ⟨[(3,.p 100200 []),(55,.d .i)],[(100200,.var 181 (.ag (.cons (.s 100201) (.cons (.s 100202) (.nil))))),(100201,.row 106 tyApiAccount),(100202,.row 146 tyApiSub)]⟩ [(.x 2,⟨[(3,.p 100300 [])],[(100300,.var 181 (.ag (.cons (.s 100301) (.cons (.s 100302) (.nil))))),(100301,.row 106 tyApiAccount),(100302,.row 146 tyApiSub)]⟩)] (.t 1 (.two (.two (.nil) (.nil)) (.two (.un (.t 3 (.t 8 (.t 5 (.reg (.n 7 .done)))))) (.reg (.n 2 .done)))))))) (.t 2 (.gh (.fm 100102 (.done)) .nil))))))
def in_Z133:Shp:=⟨[(0,.p 5000 [])],[(5000,.var 314 (.ag (.cons (.m 5001) (.cons (.m 5002) (.cons (.m 5003) (.cons (.m 5004) (.cons (.m 5005) (.cons (.d (.sl .i)) (.cons (.d (.sl .i)) (.nil)))))))))),(5001,.map .i tyApiAccount),(5002,.map .i tyApiSub),(5003,.map .i .bool),(5004,.map .str .i),(5005,.map .i .i)]⟩
def out_Z133:Shp:=⟨[(0,.ag (.cons (.s 1) (.cons (.s 2) (.nil))))],[(1,.row 106 tyApiAccount),(2,.row 146 tyApiSub)]⟩
def an_Z84:AnR:=.pre (.reg (.n 1 .done)) (.pre (.reg (.call 0 (.n 2 .done))) (.inn (.pre (.reg (.n 2 (.call 1 (.done)))) (.un (.rf 0 [4,5] [4,5] ⟨[],[(10701,.var 314 (.ag (.cons (.m 100001) (.cons (.m 100002) (.cons (.m 100003) (.cons (.m 100004) (.cons (.m 100005) (.cons (.d (.sl .i)) (.cons (.d (.sl .i)) (.nil)))))))))),(100001,.map .i tyApiAccount),(100002,.map .i tyApiSub),(100003,.map .i .bool),(100004,.map .str .i),(100005,.map .i .i)]⟩ (.reg (.n 2 .done)) (.un (.reg (.n 2 (.call 2 (.done)))))))) (.two (.reg (.n 1 (.call 3 (.n 1 .done)))) (.nil))))
def in_Z84:Shp:=⟨[(0,.d (.sl tyApiEvent)),(1,.d .i)],[]⟩
def out_Z84:Shp:=⟨[(0,.ag (.cons (.s 1) (.cons (.s 2) (.nil))))],[(1,.row 106 tyApiAccount),(2,.row 146 tyApiSub)]⟩
def an_Z64:An:=.t 2 (.two (.two (.reg (.n 2 (.call 0 (.n 3 .done)))) (.un (.lp [1,13,14,15] [11201,11202] ⟨[(6,.p 100000 [])],[(100000,.var 146 (.ag (.cons (.d .i) (.cons (.d .i) (.cons (.d .i) (.cons (.d .str) (.cons (.ns) (.cons (.ns) (.cons (.d .bool) (.cons (.d .bool) (.nil)))))))))))]⟩ [(.r,⟨[(6,.p 100100 []),(7,.d .bool)],[(100100,.var 146 (.d tyApiSub))]⟩)] (.t 1 (.two (.two (.nil) (.gh (.tl .done) .nil)) (.two (.un (.t 4 (.t 4 (.two (.t 3 (.nil)) (.gh (.tl .done) .nil))))) (.nil))))))) (.nil))
def in_Z64:Shp:=⟨[(0,.d (.sl tyApiEvent)),(1,.d .i),(2,.d .i)],[]⟩
def out_Z64:Shp:=⟨[(0,.d tyApiSub),(1,.d .bool)],[]⟩
def an_Z65:An:=.t 2 (.two (.two (.reg (.n 2 (.call 0 (.n 3 .done)))) (.un (.lp [1,13,14,15] [11201,11202] ⟨[(6,.p 100000 [])],[(100000,.var 106 (.ag (.cons (.d .i) (.cons (.d .i) (.cons (.d .i) (.cons (.d .bool) (.cons (.d .bool) (.cons (.ns) (.nil)))))))))]⟩ [(.r,⟨[(6,.p 100100 []),(7,.d .bool)],[(100100,.var 106 (.d tyApiAccount))]⟩)] (.t 1 (.two (.two (.nil) (.gh (.tl .done) .nil)) (.two (.un (.t 4 (.t 4 (.two (.t 3 (.nil)) (.gh (.tl .done) .nil))))) (.nil))))))) (.nil))
def in_Z65:Shp:=⟨[(0,.d (.sl tyApiEvent)),(1,.d .i),(2,.d .i)],[]⟩
def out_Z65:Shp:=⟨[(0,.d tyApiAccount),(1,.d .bool)],[]⟩
def an_Z49:An:=.t 1 (.two (.dm 21 [8,9,10,11,12,13,14,15,16,17,18,19,20,21,22,23,7,24,25,3,1000000020] [] (.n 15 (.call 0 (.n 5 (.tl (.n 1 .done)))))) (.two (.t 2 (.two (.t 1 (.nil)) (.nil))) (.two (.dm 21 [29,30,31,32,33,34,35,36,37,38,39,40,41,42,43,44,28,45,46,5,1000000020] [] (.n 15 (.call 1 (.n 5 (.tl (.n 1 .done)))))) (.two (.two (.dr 8 (.n 8 .done) (.done)) (.two (.gh (.tl .done) .nil) (.nil))) (.two (.t 2 (.two (.gh (.tl .done) .nil) (.nil))) (.t 5 (.two (.dm 20 [62,63,64,65,66,67,68,69,70,71,72,73,74,75,61,76,77,78,79,1000000019] [5000] (.n 13 (.call 2 (.n 6 (.tl (.done)))))) (.t 1 (.nil)))))))))
def in_Z49:Shp:=⟨[(0,.p 5000 [])],[(5000,.var 114 (.ag (.cons (.d tyApiBook) (.cons (.d tyApiState) (.cons (.d tyApiUsage) (.cons (.ag (.cons (.d tyApiPeriod) (.cons (.d .str) (.cons (.s 5001) (.cons (.d .bool) (.cons (.d .bool) (.nil))))))) (.cons (.ag (.cons (.d .i) (.cons (.d .i) (.cons (.d .i) (.cons (.d .bool) (.cons (.d .bool) (.cons (.s 5002) (.nil)))))))) (.cons (.ag (.cons (.d .str) (.cons (.d .i) (.cons (.d .bool) (.cons (.s 5003) (.cons (.s 5004) (.cons (.s 5005) (.cons (.s 5006) (.nil))))))))) (.cons (.d .i) (.cons (.ag (.cons (.d tyApiUsage) (.cons (.d .i) (.cons (.d .str) (.cons (.d .i) (.cons (.d .str) (.cons (.s 5007) (.cons (.s 5008) (.cons (.d .i) (.cons (.d .i) (.cons (.d .i) (.cons (.s 5009) (.cons (.d .i) (.cons (.d .i) (.nil))))))))))))))) (.nil))))))))))),(5001,.row 9 .str),(5002,.row 3 .i),(5003,.row 118 tyApiZone),(5004,.row 121 tyApiBand),(5005,.row 126 tyApiRate),(5006,.row 231 tyApiDiscount),(5007,.row 33 tyApiTake),(5008,.row 35 tyApiSegment),(5009,.row 76 tyApiGiven)]⟩
def out_Z49:Shp:=⟨[(0,.d .i)],[(5000,.var 114 (.ag (.cons (.d tyApiBook) (.cons (.d tyApiState) (.cons (.d tyApiUsage) (.cons (.ag (.cons (.d tyApiPeriod) (.cons (.d .str) (.cons (.d (.sl .str)) (.cons (.d .bool) (.cons (.d .bool) (.nil))))))) (.cons (.ag (.cons (.d .i) (.cons (.d .i) (.cons (.d .i) (.cons (.d .bool) (.cons (.d .bool) (.cons (.d (.sl .i)) (.nil)))))))) (.cons (.ag (.cons (.d .str) (.cons (.d .i) (.cons (.d .bool) (.cons (.s 1) (.cons (.s 2) (.cons (.s 3) (.cons (.s 4) (.nil))))))))) (.cons (.d .i) (.cons (.ag (.cons (.d tyApiUsage) (.cons (.d .i) (.cons (.d .str) (.cons (.d .i) (.cons (.d .str) (.cons (.s 5) (.cons (.s 6) (.cons (.d .i) (.cons (.d .i) (.cons (.d .i) (.cons (.s 7) (.cons (.d .i) (.cons (.d .i) (.nil))))))))))))))) (.nil))))))))))),(1,.row 118 tyApiZone),(2,.row 121 tyApiBand),(3,.row 126 tyApiRate),(4,.row 231 tyApiDiscount),(5,.row 33 tyApiTake),(6,.row 35 tyApiSegment),(7,.row 76 tyApiGiven)]⟩
def an_Z48:An:=.t 1 (.two (.reg (.n 1 (.call 0 (.n 1 .done)))) (.nil))
def in_Z48:Shp:=⟨[(0,.p 5000 [])],[(5000,.var 99 (.p 5001 [])),(5001,.var 114 (.ag (.cons (.d tyApiBook) (.cons (.d tyApiState) (.cons (.d tyApiUsage) (.cons (.ag (.cons (.d tyApiPeriod) (.cons (.d .str) (.cons (.s 5002) (.cons (.d .bool) (.cons (.d .bool) (.nil))))))) (.cons (.ag (.cons (.d .i) (.cons (.d .i) (.cons (.d .i) (.cons (.d .bool) (.cons (.d .bool) (.cons (.s 5003) (.nil)))))))) (.cons (.ag (.cons (.d .str) (.cons (.d .i) (.cons (.d .bool) (.cons (.s 5004) (.cons (.s 5005) (.cons (.s 5006) (.cons (.s 5007) (.nil))))))))) (.cons (.d .i) (.cons (.ag (.cons (.d tyApiUsage) (.cons (.d .i) (.cons (.d .str) (.cons (.d .i) (.cons (.d .str) (.cons (.s 5008) (.cons (.s 5009) (.cons (.d .i) (.cons (.d .i) (.cons (.d .i) (.cons (.s 5010) (.cons (.d .i) (.cons (.d .i) (.nil))))))))))))))) (.nil))))))))))),(5002,.row 9 .str),(5003,.row 3 .i),(5004,.row 118 tyApiZone),(5005,.row 121 tyApiBand),(5006,.row 126 tyApiRate),(5007,.row 231 tyApiDiscount),(5008,.row 33 tyApiTake),(5009,.row 35 tyApiSegment),(5010,.row 76 tyApiGiven)]⟩
def out_Z48:Shp:=⟨[(0,.d .i)],[(5001,.var 114 (.ag (.cons (.d tyApiBook) (.cons (.d tyApiState) (.cons (.d tyApiUsage) (.cons (.d tyApiSpell) (.cons (.d tyApiAccount) (.cons (.ag (.cons (.d .str) (.cons (.d .i) (.cons (.d .bool) (.cons (.s 1) (.cons (.s 2) (.cons (.s 3) (.cons (.s 4) (.nil))))))))) (.cons (.d .i) (.cons (.ag (.cons (.d tyApiUsage) (.cons (.d .i) (.cons (.d .str) (.cons (.d .i) (.cons (.d .str) (.cons (.s 5) (.cons (.s 6) (.cons (.d .i) (.cons (.d .i) (.cons (.d .i) (.cons (.s 7) (.cons (.d .i) (.cons (.d .i) (.nil))))))))))))))) (.nil))))))))))),(1,.row 118 tyApiZone),(2,.row 121 tyApiBand),(3,.row 126 tyApiRate),(4,.row 231 tyApiDiscount),(5,.row 33 tyApiTake),(6,.row 35 tyApiSegment),(7,.row 76 tyApiGiven)]⟩
def an_Z47:An:=.t 2 (.two (.reg (.n 1 (.call 0 (.n 1 .done)))) (.nil))
def in_Z47:Shp:=⟨[(0,.f 48 (.cons (.p 5000 []) (.nil))),(1,.p 5011 [])],[(5000,.var 99 (.p 5001 [])),(5001,.var 114 (.ag (.cons (.d tyApiBook) (.cons (.d tyApiState) (.cons (.d tyApiUsage) (.cons (.ag (.cons (.d tyApiPeriod) (.cons (.d .str) (.cons (.s 5002) (.cons (.d .bool) (.cons (.d .bool) (.nil))))))) (.cons (.ag (.cons (.d .i) (.cons (.d .i) (.cons (.d .i) (.cons (.d .bool) (.cons (.d .bool) (.cons (.s 5003) (.nil)))))))) (.cons (.ag (.cons (.d .str) (.cons (.d .i) (.cons (.d .bool) (.cons (.s 5004) (.cons (.s 5005) (.cons (.s 5006) (.cons (.s 5007) (.nil))))))))) (.cons (.d .i) (.cons (.ag (.cons (.d tyApiUsage) (.cons (.d .i) (.cons (.d .str) (.cons (.d .i) (.cons (.d .str) (.cons (.s 5008) (.cons (.s 5009) (.cons (.d .i) (.cons (.d .i) (.cons (.d .i) (.cons (.s 5010) (.cons (.d .i) (.cons (.d .i) (.nil))))))))))))))) (.nil))))))))))),(5002,.row 9 .str),(5003,.row 3 .i),(5004,.row 118 tyApiZone),(5005,.row 121 tyApiBand),(5006,.row 126 tyApiRate),(5007,.row 231 tyApiDiscount),(5008,.row 33 tyApiTake),(5009,.row 35 tyApiSegment),(5010,.row 76 tyApiGiven),(5011,.var 24 (.d .i))]⟩
def out_Z47:Shp:=⟨[],[(5001,.var 114 (.ag (.cons (.d tyApiBook) (.cons (.d tyApiState) (.cons (.d tyApiUsage) (.cons (.ag (.cons (.d tyApiPeriod) (.cons (.d .str) (.cons (.d (.sl .str)) (.cons (.d .bool) (.cons (.d .bool) (.nil))))))) (.cons (.ag (.cons (.d .i) (.cons (.d .i) (.cons (.d .i) (.cons (.d .bool) (.cons (.d .bool) (.cons (.d (.sl .i)) (.nil)))))))) (.cons (.ag (.cons (.d .str) (.cons (.d .i) (.cons (.d .bool) (.cons (.s 1) (.cons (.s 2) (.cons (.s 3) (.cons (.s 4) (.nil))))))))) (.cons (.d .i) (.cons (.ag (.cons (.d tyApiUsage) (.cons (.d .i) (.cons (.d .str) (.cons (.d .i) (.cons (.d .str) (.cons (.s 5) (.cons (.s 6) (.cons (.d .i) (.cons (.d .i) (.cons (.d .i) (.cons (.s 7) (.cons (.d .i) (.cons (.d .i) (.nil))))))))))))))) (.nil))))))))))),(5011,.var 24 (.d .i)),(1,.row 118 tyApiZone),(2,.row 121 tyApiBand),(3,.row 126 tyApiRate),(4,.row 231 tyApiDiscount),(5,.row 33 tyApiTake),(6,.row 35 tyApiSegment),(7,.row 76 tyApiGiven)]⟩
def an_Z134:An:=.t 1 (.t 3 (.nil))
def in_Z134:Shp:=⟨[(0,.d (.sl .str))],[]⟩
def out_Z134:Shp:=⟨[(0,.d (.sl .str))],[]⟩
def an_Z135:An:=.t 1 (.t 3 (.nil))
def in_Z135:Shp:=⟨[(0,.d (.sl tyApiSlot))],[]⟩
def out_Z135:Shp:=⟨[(0,.d (.sl tyApiSlot))],[]⟩
def an_Z136:An:=.t 1 (.t 3 (.nil))
def in_Z136:Shp:=⟨[(0,.d (.sl tyApiStep))],[]⟩
def out_Z136:Shp:=⟨[(0,.s 1)],[(1,.row 123 tyApiStep)]⟩
def an_Z85:An:=.t 2 (.t 3 (.t 8 (.two (.t 4 (.un (.lp [1,2,18,19] [1,2] ⟨[(3,.p 100000 []),(20,.d .i)],[(100000,.var 112 (.ag (.cons (.d .str) (.cons (.d .i) (.cons (.d .bool) (.cons (.s 100001) (.cons (.ns) (.cons (.ns) (.cons (.ns) (.nil)))))))))),(100001,.row 118 tyApiZone)]⟩ [(.x 0,⟨[(3,.p 100100 [])],[(100100,.var 112 (.ag (.cons (.d .str) (.cons (.d .i) (.cons (.d .bool) (.cons (.s 100101) (.cons (.ns) (.cons (.ns) (.cons (.ns) (.nil)))))))))),(100101,.row 118 tyApiZone)]⟩)] (.t 1 (.two (.two (.nil) (.nil)) (.two (.un (.t 4 (.dm 9 [24,25,26,27,28,29,30,31,32] [] (.n 6 (.call 0 (.n 2 (.tl (.n 3 .done)))))))) (.reg (.n 2 .done)))))))) (.two (.t 4 (.un (.lp [1,2,37,38] [1,2] ⟨[(3,.p 100200 []),(39,.d .i)],[(100200,.var 112 (.ag (.cons (.d .str) (.cons (.d .i) (.cons (.d .bool) (.cons (.s 100201) (.cons (.s 100202) (.cons (.ns) (.cons (.ns) (.nil)))))))))),(100201,.row 118 tyApiZone),(100202,.row 121 tyApiBand)]⟩ [(.x 2,⟨[(3,.p 100300 [])],[(100300,.var 112 (.ag (.cons (.d .str) (.cons (.d .i) (.cons (.d .bool) (.cons (.s 100301) (.cons (.s 100302) (.cons (.ns) (.cons (.ns) (.nil)))))))))),(100301,.row 118 tyApiZone),(100302,.row 121 tyApiBand)]⟩)] (.t 1 (.two (.two (.nil) (.nil)) (.two (.un (.t 4 (.dm 9 [43,44,45,46,47,48,49,50,51] [] (.n 6 (.call 1 (.n 2 (.tl (.n 3 .done)))))))) (.reg (.n 2 .done)))))))) (.two (.t 4 (.un (.lp [1,2,56,57] [1,2] ⟨[(3,.p 100400 []),(58,.d .i)],[(100400,.var 112 (.ag (.cons (.d .str) (.cons (.d .i) (.cons (.d .bool) (.cons (.s 100401) (.cons (.s 100402) (.cons (.s 100403) (.cons (.ns) (.nil)))))))))),(100401,.row 118 tyApiZone),(100402,.row 121 tyApiBand),(100403,.row 126 tyApiRate)]⟩ [(.x 4,⟨[(3,.p 100500 [])],[(100500,.var 112 (.ag (.cons (.d .str) (.cons (.d .i) (.cons (.d .bool) (.cons (.s 100501) (.cons (.s 100502) (.cons (.s 100503) (.cons (.ns) (.nil)))))))))),(100501,.row 118 tyApiZone),(100502,.row 121 tyApiBand),(100503,.row 126 tyApiRate)]⟩)] (.t 1 (.two (.two (.nil) (.nil)) (.two (.un (.t 4 (.two (.reg (.n 2 (.call 2 (.n 2 .done)))) (.reg (.n 3 (.fz 16401 (.n 4 .done))))))) (.reg (.n 2 .done)))))))) (.two (.t 4 (.un (.lp [2,3,75,76] [1,2,100500,100501,100502,100503] ⟨[],[]⟩ [(.x 6,⟨[],[]⟩)] (.t 1 (.two (.two (.gh (.tl .done) .nil) (.nil)) (.nil)))))) (.t 2 (.nil))))))))
def in_Z85:Shp:=⟨[(0,.d tyApiTariff)],[]⟩
def out_Z85:Shp:=⟨[(0,.ag (.cons (.d .str) (.cons (.d .i) (.cons (.d .bool) (.cons (.s 1) (.cons (.s 2) (.cons (.s 3) (.cons (.ns) (.nil)))))))))],[(1,.row 118 tyApiZone),(2,.row 121 tyApiBand),(3,.row 126 tyApiRate)]⟩
def an_Z66:An:=.t 2 (.t 1 (.two (.t 3 (.un (.lp [0,1,2,6,11,12] [6] ⟨[(8,.d .i),(13,.d .i)],[]⟩ [(.x 0,⟨[(8,.d .i)],[]⟩)] (.t 1 (.two (.two (.nil) (.nil)) (.two (.un (.t 6 (.t 10 (.t 2 (.gh (.tl .done) .nil))))) (.reg (.n 2 .done)))))))) (.two (.t 2 (.two (.gh (.tl .done) .nil) (.nil))) (.two (.reg (.n 4 (.call 0 (.n 2 .done)))) (.nil)))))
def in_Z66:Shp:=⟨[(0,.d (.sl tyApiTariff)),(1,.d .str),(2,.d .i)],[]⟩
def out_Z66:Shp:=⟨[(0,.d tyApiTariff),(1,.d .bool)],[]⟩
def an_Z138:An:=.t 1 (.two (.t 3 (.un (.lp [0,6] [] ⟨[(7,.d .i)],[]⟩ [(.x 0,⟨[],[]⟩)] (.t 1 (.two (.two (.nil) (.nil)) (.two (.un (.t 2 (.t 4 (.t 22 (.two (.gh (.tl .done) .nil) (.nil)))))) (.reg (.n 2 .done)))))))) (.t 9 (.nil)))
def in_Z138:Shp:=⟨[(0,.d .str)],[]⟩
def out_Z138:Shp:=⟨[(0,.d .bool)],[]⟩
def an_Z183:An:=.t 1 (.two (.t 3 (.un (.lp [7,8] [] ⟨[],[]⟩ [(.x 0,⟨[],[]⟩)] (.t 1 (.two (.two (.gh (.tl .done) .nil) (.nil)) (.nil)))))) (.t 1 (.nil)))
def in_Z183:Shp:=⟨[(0,.d (.sl tyApiZone)),(1,.f 140 (.cons (.p 5000 []) (.nil)))],[(5000,.var 118 (.d tyApiZone))]⟩
def out_Z183:Shp:=⟨[(0,.d .i)],[]⟩
def an_Z139:An:=.t 1 (.two (.reg (.n 2 (.call 0 (.n 2 .done)))) (.nil))
def in_Z139:Shp:=⟨[(0,.d (.sl tyApiZone)),(1,.f 140 (.cons (.p 5000 []) (.nil)))],[(5000,.var 118 (.d tyApiZone))]⟩
def out_Z139:Shp:=⟨[(0,.d .bool)],[]⟩
def an_Z141:An:=.t 1 (.t 7 (.nil))
def in_Z141:Shp:=⟨[(0,.d (.int .u8))],[]⟩
def out_Z141:Shp:=⟨[(0,.d .bool)],[]⟩
def an_Z87:An:=.t 1 (.two (.t 3 (.un (.lp [0,5] [] ⟨[(6,.d .i)],[]⟩ [(.x 0,⟨[],[]⟩)] (.t 1 (.two (.two (.nil) (.nil)) (.two (.un (.t 2 (.two (.reg (.n 3 (.call 0 (.n 1 .done)))) (.two (.gh (.tl .done) .nil) (.nil))))) (.reg (.n 2 .done)))))))) (.t 9 (.nil)))
def in_Z87:Shp:=⟨[(0,.d .str)],[]⟩
def out_Z87:Shp:=⟨[(0,.d .bool)],[]⟩
def an_Z86:An:=.t 2 (.two (.t 3 (.two (.gh (.tl .done) .nil) (.nil))) (.t 2 (.two (.t 3 (.un (.lp [0,15,16] [] ⟨[(4,.m 100000),(17,.d .i)],[(100000,.map .str .str)]⟩ [(.x 0,⟨[(4,.m 100300)],[(100300,.map .str .str)]⟩)] (.t 1 (.two (.two (.nil) (.nil)) (.two (.un (.t 6 (.two (.un (.two (.reg (.n 2 (.call 0 (.n 2 .done)))) (.two (.gh (.tl .done) .nil) (.two (.reg (.n 4 (.call 1 (.n 1 .done)))) (.two (.gh (.tl .done) .nil) (.t 5 (.two (.gh (.tl .done) .nil) (.t 5 (.two (.gh (.tl .done) .nil) (.nil)))))))))) (.t 4 (.un (.lp [6,17,44,45] [6] ⟨[(4,.m 100100),(46,.d .i)],[(100100,.map .str .str)]⟩ [(.x 3,⟨[(4,.m 100200)],[(100200,.map .str .str)]⟩)] (.t 1 (.two (.two (.nil) (.nil)) (.two (.un (.t 3 (.two (.two (.reg (.n 1 (.call 2 (.n 1 .done)))) (.two (.gh (.tl .done) .nil) (.nil))) (.two (.t 8 (.t 1 (.two (.gh (.tl .done) .nil) (.nil)))) (.reg (.n 5 .done)))))) (.reg (.n 2 .done))))))))))) (.reg (.n 2 .done)))))))) (.t 3 (.nil)))))
def in_Z86:Shp:=⟨[(0,.d (.sl tyApiZone))],[]⟩
def out_Z86:Shp:=⟨[(0,.m 1),(1,.d .i)],[(1,.map .str .str)]⟩
def an_Z88:An:=.t 2 (.two (.un (.lp [0,1] [] ⟨[(2,.d .i)],[]⟩ [(.r,⟨[(6,.d .str),(7,.d .bool)],[]⟩)] (.two (.t 2 (.two (.nil) (.gh (.tl .done) .nil))) (.two (.un (.t 10 (.t 1 (.two (.t 3 (.nil)) (.nil))))) (.reg (.n 3 .done)))))) (.nil))
def in_Z88:Shp:=⟨[(0,.m 5000),(1,.d .str),(2,.d .i)],[(5000,.map .str .str)]⟩
def out_Z88:Shp:=⟨[(0,.d .str),(1,.d .bool)],[]⟩
def an_Z67:An:=.t 2 (.two (.reg (.n 1 (.call 0 (.n 5 .done)))) (.two (.two (.reg (.n 3 (.sp 15 4 [1,6] [11001] ⟨[(19,.d .bool)],[]⟩ (.nl 3 (.n 1 .done)) (.nl 1 (.call 1 (.nl 1 (.n 1 .done)))) (.done)))) (.two (.gh (.tl .done) .nil) (.nil))) (.two (.reg (.n 4 (.call 2 (.n 4 .done)))) (.nil))))
def in_Z67:Shp:=⟨[(0,.d (.sl tyApiZone)),(1,.d .str)],[]⟩
def out_Z67:Shp:=⟨[(0,.d .str),(1,.d .bool)],[]⟩
def an_Z51:An:=.t 1 (.two (.dm 21 [6,7,8,9,10,11,12,13,14,15,16,17,18,19,20,21,5,22,23,3,1000000020] [] (.n 15 (.call 0 (.n 5 (.tl (.n 1 .done)))))) (.two (.t 2 (.two (.gh (.tl .done) .nil) (.nil))) (.t 5 (.two (.dm 10 [30,31,32,33,34,35,36,37,38,1000000009] [5000] (.n 10 (.tl (.n 4 .done)))) (.two (.dm 16 [43,44,45,46,47,48,49,50,51,42,52,53,54,55,56,1000000015] [5000] (.n 8 (.call 1 (.n 7 (.tl (.done)))))) (.t 1 (.nil)))))))
def in_Z51:Shp:=⟨[(0,.p 5000 [])],[(5000,.var 114 (.ag (.cons (.d tyApiBook) (.cons (.d tyApiState) (.cons (.d tyApiUsage) (.cons (.d tyApiSpell) (.cons (.d tyApiAccount) (.cons (.ag (.cons (.d .str) (.cons (.d .i) (.cons (.d .bool) (.cons (.s 5001) (.cons (.s 5002) (.cons (.s 5003) (.cons (.s 5004) (.nil))))))))) (.cons (.d .i) (.cons (.ag (.cons (.d tyApiUsage) (.cons (.d .i) (.cons (.d .str) (.cons (.d .i) (.cons (.d .str) (.cons (.s 5005) (.cons (.s 5006) (.cons (.d .i) (.cons (.d .i) (.cons (.d .i) (.cons (.s 5007) (.cons (.d .i) (.cons (.d .i) (.nil))))))))))))))) (.nil))))))))))),(5001,.row 118 tyApiZone),(5002,.row 121 tyApiBand),(5003,.row 126 tyApiRate),(5004,.row 231 tyApiDiscount),(5005,.row 33 tyApiTake),(5006,.row 35 tyApiSegment),(5007,.row 76 tyApiGiven)]⟩
def out_Z51:Shp:=⟨[(0,.d .i)],[(5000,.var 114 (.ag (.cons (.d tyApiBook) (.cons (.d tyApiState) (.cons (.d tyApiUsage) (.cons (.d tyApiSpell) (.cons (.d tyApiAccount) (.cons (.d tyApiTariff) (.cons (.d .i) (.cons (.ag (.cons (.d tyApiUsage) (.cons (.d .i) (.cons (.d .str) (.cons (.d .i) (.cons (.d .str) (.cons (.s 1) (.cons (.s 2) (.cons (.d .i) (.cons (.d .i) (.cons (.d .i) (.cons (.s 3) (.cons (.d .i) (.cons (.d .i) (.nil))))))))))))))) (.nil))))))))))),(1,.row 33 tyApiTake),(2,.row 35 tyApiSegment),(3,.row 76 tyApiGiven)]⟩
def an_Z50:An:=.t 1 (.two (.reg (.n 1 (.call 0 (.n 1 .done)))) (.nil))
def in_Z50:Shp:=⟨[(0,.p 5000 [])],[(5000,.var 99 (.p 5001 [])),(5001,.var 114 (.ag (.cons (.d tyApiBook) (.cons (.d tyApiState) (.cons (.d tyApiUsage) (.cons (.d tyApiSpell) (.cons (.d tyApiAccount) (.cons (.ag (.cons (.d .str) (.cons (.d .i) (.cons (.d .bool) (.cons (.s 5002) (.cons (.s 5003) (.cons (.s 5004) (.cons (.s 5005) (.nil))))))))) (.cons (.d .i) (.cons (.ag (.cons (.d tyApiUsage) (.cons (.d .i) (.cons (.d .str) (.cons (.d .i) (.cons (.d .str) (.cons (.s 5006) (.cons (.s 5007) (.cons (.d .i) (.cons (.d .i) (.cons (.d .i) (.cons (.s 5008) (.cons (.d .i) (.cons (.d .i) (.nil))))))))))))))) (.nil))))))))))),(5002,.row 118 tyApiZone),(5003,.row 121 tyApiBand),(5004,.row 126 tyApiRate),(5005,.row 231 tyApiDiscount),(5006,.row 33 tyApiTake),(5007,.row 35 tyApiSegment),(5008,.row 76 tyApiGiven)]⟩
def out_Z50:Shp:=⟨[(0,.d .i)],[(5001,.var 114 (.ag (.cons (.d tyApiBook) (.cons (.d tyApiState) (.cons (.d tyApiUsage) (.cons (.d tyApiSpell) (.cons (.d tyApiAccount) (.cons (.d tyApiTariff) (.cons (.d .i) (.cons (.ag (.cons (.d tyApiUsage) (.cons (.d .i) (.cons (.d .str) (.cons (.d .i) (.cons (.d .str) (.cons (.s 1) (.cons (.s 2) (.cons (.d .i) (.cons (.d .i) (.cons (.d .i) (.cons (.s 3) (.cons (.d .i) (.cons (.d .i) (.nil))))))))))))))) (.nil))))))))))),(1,.row 33 tyApiTake),(2,.row 35 tyApiSegment),(3,.row 76 tyApiGiven)]⟩
def an_Z47_k2:An:=.t 2 (.two (.reg (.n 1 (.call 0 (.n 1 .done)))) (.nil))
def in_Z47_k2:Shp:=⟨[(0,.f 50 (.cons (.p 5000 []) (.nil))),(1,.p 5009 [])],[(5000,.var 99 (.p 5001 [])),(5001,.var 114 (.ag (.cons (.d tyApiBook) (.cons (.d tyApiState) (.cons (.d tyApiUsage) (.cons (.d tyApiSpell) (.cons (.d tyApiAccount) (.cons (.ag (.cons (.d .str) (.cons (.d .i) (.cons (.d .bool) (.cons (.s 5002) (.cons (.s 5003) (.cons (.s 5004) (.cons (.s 5005) (.nil))))))))) (.cons (.d .i) (.cons (.ag (.cons (.d tyApiUsage) (.cons (.d .i) (.cons (.d .str) (.cons (.d .i) (.cons (.d .str) (.cons (.s 5006) (.cons (.s 5007) (.cons (.d .i) (.cons (.d .i) (.cons (.d .i) (.cons (.s 5008) (.cons (.d .i) (.cons (.d .i) (.nil))))))))))))))) (.nil))))))))))),(5002,.row 118 tyApiZone),(5003,.row 121 tyApiBand),(5004,.row 126 tyApiRate),(5005,.row 231 tyApiDiscount),(5006,.row 33 tyApiTake),(5007,.row 35 tyApiSegment),(5008,.row 76 tyApiGiven),(5009,.var 24 (.d .i))]⟩
def out_Z47_k2:Shp:=⟨[],[(5001,.var 114 (.ag (.cons (.d tyApiBook) (.cons (.d tyApiState) (.cons (.d tyApiUsage) (.cons (.d tyApiSpell) (.cons (.d tyApiAccount) (.cons (.ag (.cons (.d .str) (.cons (.d .i) (.cons (.d .bool) (.cons (.d (.sl tyApiZone)) (.cons (.d (.sl tyApiBand)) (.cons (.d (.sl tyApiRate)) (.cons (.d (.sl tyApiDiscount)) (.nil))))))))) (.cons (.d .i) (.cons (.ag (.cons (.d tyApiUsage) (.cons (.d .i) (.cons (.d .str) (.cons (.d .i) (.cons (.d .str) (.cons (.s 1) (.cons (.s 2) (.cons (.d .i) (.cons (.d .i) (.cons (.d .i) (.cons (.s 3) (.cons (.d .i) (.cons (.d .i) (.nil))))))))))))))) (.nil))))))))))),(5009,.var 24 (.d .i)),(1,.row 33 tyApiTake),(2,.row 35 tyApiSegment),(3,.row 76 tyApiGiven)]⟩
def an_Z142:An:=.t 1 (.t 1 (.two (.t 3 (.un (.lp [6,7] [] ⟨[(3,.s 100000),(8,.d .i)],[(100000,.row 142 tyApiBucket)]⟩ [(.x 0,⟨[(3,.s 100100)],[(100100,.row 142 tyApiBucket)]⟩)] (.t 1 (.two (.two (.nil) (.nil)) (.two (.un (.t 4 (.t 5 (.reg (.n 2 (.fz 14 (.n 3 .done))))))) (.reg (.n 2 .done)))))))) (.t 2 (.nil))))
def in_Z142:Shp:=⟨[(0,.d (.sl tyApiBucket))],[]⟩
def out_Z142:Shp:=⟨[(0,.d (.sl tyApiBucket))],[]⟩
def an_Z89:An:=.t 2 (.two (.dm 8 [3,4,5,6,7,8,9,10] [] (.n 2 (.call 0 (.n 5 (.tl (.n 3 .done)))))) (.nil))
def in_Z89:Shp:=⟨[(0,.d tyApiState)],[]⟩
def out_Z89:Shp:=⟨[(0,.ag (.cons (.d (.sl tyApiBucket)) (.cons (.s 1) (.cons (.s 2) (.nil)))))],[(1,.row 71 tyApiWallet),(2,.row 73 tyApiCounter)]⟩
def an_Z90:An:=.t 1 (.two (.t 3 (.un (.lp [1,2,9,10,11] [] ⟨[],[]⟩ [(.r,⟨[(6,.d .bool)],[]⟩)] (.t 1 (.two (.two (.nil) (.gh (.tl .done) .nil)) (.two (.un (.t 4 (.t 15 (.two (.t 4 (.nil)) (.gh (.tl .done) .nil))))) (.nil))))))) (.nil))
def in_Z90:Shp:=⟨[(0,.d (.sl tyApiEvent)),(1,.d .i),(2,.d .i)],[]⟩
def out_Z90:Shp:=⟨[(0,.d .bool)],[]⟩
def an_Z115:An:=.t 1 (.t 2 (.two (.t 3 (.un (.lp [9,10] [] ⟨[(3,.m 100000),(11,.d .i)],[(100000,.map .i .i)]⟩ [(.x 0,⟨[(3,.m 100100)],[(100100,.map .i .i)]⟩)] (.t 1 (.two (.two (.nil) (.nil)) (.two (.un (.t 6 (.t 9 (.t 2 (.t 5 (.gh (.tl .done) .nil)))))) (.reg (.n 2 .done)))))))) (.t 2 (.nil))))
def in_Z115:Shp:=⟨[(0,.d (.sl tyApiWallet))],[]⟩
def out_Z115:Shp:=⟨[(0,.m 1)],[(1,.map .i .i)]⟩
def an_Z91:An:=.t 2 (.two (.two (.reg (.n 1 (.call 0 (.n 7 .done)))) (.t 1 (.two (.t 5 (.nil)) (.nil)))) (.t 1 (.two (.un (.lp [0,1,8] [11201] ⟨[],[]⟩ [(.x 0,⟨[],[]⟩)] (.two (.two (.reg (.n 5 (.sp 25 8 [] [] ⟨[(33,.d .bool)],[]⟩ (.tl .done) (.nl 7 (.n 1 .done)) (.done)))) (.two (.gh (.tl .done) .nil) (.nil))) (.nil)))) (.t 5 (.t 6 (.t 8 (.nil)))))))
def in_Z91:Shp:=⟨[(0,.d (.sl tyApiWallet)),(1,.d .i)],[]⟩
def out_Z91:Shp:=⟨[(0,.s 1),(1,.d .i)],[(1,.row 71 tyApiWallet)]⟩
def an_Z145:An:=.t 1 (.t 9 (.nil))
def in_Z145:Shp:=⟨[(0,.d .i),(1,.d .i),(2,.d .i)],[]⟩
def out_Z145:Shp:=⟨[(0,.d .bool)],[]⟩
def an_Z146:An:=.t 1 (.t 7 (.nil))
def in_Z146:Shp:=⟨[(0,.d .i)],[]⟩
def out_Z146:Shp:=⟨[(0,.d .bool)],[]⟩
def an_Z143:An:=.t 2 (.two (.un (.two (.reg (.n 2 (.call 0 (.n 2 (.sp 8 5 [1] [1] ⟨[(13,.d .bool)],[]⟩ (.nl 4 (.n 1 .done)) (.nl 2 (.call 1 (.nl 1 (.n 1 .done)))) (.n 1 (.sp 14 5 [1] [1] ⟨[(19,.d .bool)],[]⟩ (.nl 4 (.n 1 .done)) (.nl 2 (.call 0 (.nl 1 (.n 1 .done)))) (.n 1 .done)))))))) (.two (.gh (.tl .done) .nil) (.two (.reg (.n 2 (.call 0 (.n 2 (.sp 25 5 [1] [1] ⟨[(30,.d .bool)],[]⟩ (.nl 4 (.n 1 .done)) (.nl 2 (.call 0 (.nl 1 (.n 1 .done)))) (.n 1 .done)))))) (.two (.gh (.tl .done) .nil) (.t 9 (.two (.gh (.tl .done) .nil) (.nil)))))))) (.t 1 (.nil)))
def in_Z143:Shp:=⟨[(0,.d tyApiWallet)],[]⟩
def out_Z143:Shp:=⟨[(0,.d .i)],[]⟩
def an_Z93:An:=.t 3 (.two (.two (.reg (.n 1 (.call 0 (.n 1 .done)))) (.t 2 (.two (.gh (.tl .done) .nil) (.nil)))) (.two (.two (.reg (.n 1 (.call 1 (.n 2 (.sp 19 7 [1,2,4] [2,4] ⟨[(26,.d .bool)],[]⟩ (.nl 6 (.n 1 .done)) (.nl 4 (.call 2 (.nl 1 (.n 1 .done)))) (.done)))))) (.two (.gh (.tl .done) .nil) (.nil))) (.t 6 (.t 3 (.nil)))))
def in_Z93:Shp:=⟨[(0,.d tyApiWallet),(1,.d .i)],[]⟩
def out_Z93:Shp:=⟨[(0,.d tyApiWallet),(1,.d .i)],[]⟩
def an_Z92:An:=.t 1 (.t 2 (.t 2 (.gh (.tl .done) .nil)))
def in_Z92:Shp:=⟨[(0,.d tyApiWallet),(1,.d .i),(2,.p 5000 [])],[(5000,.var 71 (.d tyApiWallet))]⟩
def out_Z92:Shp:=⟨[],[(5000,.var 71 (.d tyApiWallet))]⟩
def an_Z68:An:=.t 2 (.two (.reg (.n 1 (.call 0 (.n 2 .done)))) (.two (.two (.reg (.n 7 (.sp 24 6 [0,2,3,8,9] [5,8,9,11701,11702] ⟨[(30,.d .bool)],[]⟩ (.nl 5 (.n 1 .done)) (.nl 3 (.call 1 (.nl 1 (.n 1 .done)))) (.done)))) (.two (.gh (.tl .done) .nil) (.nil))) (.two (.reg (.n 3 (.call 2 (.n 5 .done)))) (.t 6 (.t 2 (.two (.t 3 (.un (.lp [2,3,8,9,10,11,44,45] [5,8,9,11701,11702,13601] ⟨[(12,.p 100100 []),(13,.f 92 (.cons (.p 100100 []) (.nil))),(46,.d .i)],[(100100,.var 71 (.d tyApiWallet))]⟩ [(.x 0,⟨[(12,.p 100400 [])],[(100400,.var 71 (.d tyApiWallet))]⟩)] (.t 1 (.two (.two (.nil) (.nil)) (.two (.jn [46] [] [(.n,⟨[(12,.p 100300 []),(13,.f 92 (.cons (.p 100300 []) (.nil)))],[(100300,.var 71 (.d tyApiWallet))]⟩)] (.un (.t 4 (.two (.two (.dr 20 (.n 5 (.sp 54 9 [12,13,15,46] [15,100100] ⟨[(63,.d .bool)],[]⟩ (.nl 8 (.n 1 .done)) (.nl 8 (.n 1 .done)) (.n 6 .done))) (.done)) (.two (.nil) (.nil))) (.t 2 (.un (.t 2 (.two (.reg (.n 4 (.call 3 (.n 2 (.call 4 (.done)))))) (.t 2 (.two (.gh (.tl .done) .nil) (.nil))))))))))) (.reg (.n 2 .done)))))))) (.t 6 (.t 5 (.t 3 (.t 2 (.nil)))))))))))
def in_Z68:Shp:=⟨[(0,.d (.sl tyApiEvent)),(1,.d tyApiState),(2,.d .i),(3,.d .i)],[]⟩
def out_Z68:Shp:=⟨[(0,.d tyApiState)],[]⟩
def an_Z95:An:=.t 2 (.t 5 (.t 2 (.nil)))
def in_Z95:Shp:=⟨[(0,.d tyApiBucket)],[]⟩
def out_Z95:Shp:=⟨[(0,.d tyApiBucket)],[]⟩
def an_Z95_k2:An:=.t 2 (.t 5 (.t 2 (.nil)))
def in_Z95_k2:Shp:=⟨[(0,.d tyApiBucket)],[]⟩
def out_Z95_k2:Shp:=⟨[(0,.ag (.cons (.d .i) (.cons (.d .i) (.cons (.d .str) (.cons (.d .i) (.cons (.d .i) (.cons (.s 1) (.cons (.d tyApiPeriod) (.cons (.d .i) (.cons (.d .i) (.cons (.d .i) (.cons (.d .bool) (.nil)))))))))))))],[(1,.row 9 .str)]⟩
def an_Z96:An:=.t 2 (.t 11 (.nil))
def in_Z96:Shp:=⟨[(0,.d tyApiBucket)],[]⟩
def out_Z96:Shp:=⟨[(0,.d tyBundleIdentity)],[]⟩
def an_Z97:An:=.t 1 (.two (.t 3 (.un (.lp [1,7,8,9] [] ⟨[],[]⟩ [(.r,⟨[(4,.d .i)],[]⟩)] (.t 1 (.two (.two (.nil) (.gh (.tl .done) .nil)) (.two (.un (.t 4 (.t 9 (.two (.t 3 (.nil)) (.gh (.tl .done) .nil))))) (.nil))))))) (.nil))
def in_Z97:Shp:=⟨[(0,.d (.sl tyApiEvent)),(1,.d .i)],[]⟩
def out_Z97:Shp:=⟨[(0,.d .i)],[]⟩
def an_Z185:An:=.t 2 (.two (.t 4 (.un (.lp [1,7,8,9] [2] ⟨[],[]⟩ [(.r,⟨[(3,.d .bool)],[]⟩)] (.t 1 (.two (.two (.nil) (.gh (.tl .done) .nil)) (.two (.un (.t 3 (.t 3 (.two (.t 1 (.nil)) (.gh (.tl .done) .nil))))) (.nil))))))) (.nil))
def in_Z185:Shp:=⟨[(0,.d tyApiSpell),(1,.p 5000 [])],[(5000,.var 9 (.d .str))]⟩
def out_Z185:Shp:=⟨[(0,.d .bool)],[]⟩
def an_Z209:An:=.t 1 (.t 1 (.two (.t 3 (.un (.lp [1,11,12] [] ⟨[(7,.s 100000),(13,.d .i)],[(100000,.row 101 tyApiPeriod)]⟩ [(.x 0,⟨[(7,.s 100100)],[(100100,.row 101 tyApiPeriod)]⟩)] (.t 1 (.two (.two (.nil) (.nil)) (.two (.un (.t 4 (.t 3 (.two (.dm 10 [19,20,21,22,23,24,25,26,27,28] [] (.n 3 (.so 21 (.tl .done) (.n 7 (.tl (.nl 1 (.n 1 .done))))))) (.two (.nil) (.reg (.n 5 .done))))))) (.reg (.n 2 .done)))))))) (.t 2 (.nil))))
def in_Z209:Shp:=⟨[(0,.d (.sl tyApiPeriod)),(1,.f 210 (.nil)),(2,.f 211 (.nil))],[]⟩
def out_Z209:Shp:=⟨[(0,.s 1)],[(1,.row 101 tyApiPeriod)]⟩
def an_Z184:An:=.t 1 (.t 1 (.two (.two (.reg (.n 2 (.call 0 (.n 2 .done)))) (.un (.lp [2,12,13] [11201] ⟨[(7,.s 100000),(14,.d .i)],[(100000,.row 101 tyApiPeriod)]⟩ [(.x 0,⟨[(7,.s 100100)],[(100100,.row 101 tyApiPeriod)]⟩)] (.t 1 (.two (.two (.nil) (.nil)) (.two (.un (.t 4 (.two (.reg (.n 2 (.call 1 (.done)))) (.t 6 (.gh (.tl .done) .nil))))) (.reg (.n 2 .done)))))))) (.two (.reg (.n 1 (.call 2 (.n 1 .done)))) (.nil))))
def in_Z184:Shp:=⟨[(0,.d (.sl tyApiEvent)),(1,.d .i),(2,.f 185 (.cons (.p 5000 []) (.nil)))],[(5000,.var 9 (.d .str))]⟩
def out_Z184:Shp:=⟨[(0,.s 1)],[(1,.row 101 tyApiPeriod)]⟩
def an_Z147:An:=.t 2 (.two (.reg (.n 3 (.call 0 (.n 1 .done)))) (.nil))
def in_Z147:Shp:=⟨[(0,.d (.sl tyApiEvent)),(1,.d .i),(2,.d .str)],[]⟩
def out_Z147:Shp:=⟨[(0,.d (.sl tyApiPeriod))],[]⟩
def an_Z98:An:=.t 1 (.t 2 (.two (.reg (.br (.n 1 .done))) (.t 1 (.two (.t 3 (.un (.lp [0,1,15,16] [] ⟨[(5,.m 100000),(6,.m 100001),(7,.s 100002),(17,.d .i)],[(100000,.map .i .bool),(100001,.mapO .str),(100002,.row 209 tyBundleHolding)]⟩ [(.x 0,⟨[(7,.s 100700)],[(100700,.row 209 tyBundleHolding)]⟩)] (.t 1 (.two (.two (.nil) (.nil)) (.two (.jn [17] [] [(.n,⟨[(5,.m 100600),(6,.m 100601),(7,.s 100602)],[(100600,.map .i .bool),(100601,.mapO .str),(100602,.row 209 tyBundleHolding)]⟩)] (.un (.t 4 (.two (.jn [6,7,9,17] [9,100001,100002] [(.n,⟨[(5,.m 100100)],[(100100,.map .i .bool)]⟩)] (.t 9 (.t 4 (.nil)))) (.two (.two (.reg (.n 11 (.sp 43 8 [5,6,7,9,17] [9,100001,100002,100100] ⟨[(51,.d .bool)],[]⟩ (.nl 7 (.n 1 .done)) (.nl 3 (.br (.nl 2 (.br (.n 1 .done))))) (.done)))) (.two (.nil) (.nil))) (.two (.two (.reg (.n 3 (.br (.n 1 .done)))) (.two (.reg (.n 4 (.br (.done)))) (.nil))) (.two (.reg (.n 3 (.br (.n 3 .done)))) (.two (.dm 13 [67,68,69,70,71,72,73,74,75,76,77,78,10] [] (.n 10 (.call 0 (.n 2 (.tl (.n 1 .done)))))) (.t 1 (.two (.un (.lp [5,6,7,10,11,17] [9,10,60,100001,100002,100100] ⟨[],[]⟩ [(.x 2,⟨[],[]⟩)] (.two (.two (.jn [] [] [(.n,⟨[(90,.d .bool)],[]⟩)] (.dm 10 [79,80,81,82,83,84,85,86,87,88] [] (.n 5 (.so 83 (.tl .done) (.n 5 (.tl (.nl 1 (.n 1 .done)))))))) (.two (.gh (.tl .done) .nil) (.nil))) (.nil)))) (.two (.reg (.n 2 (.fz 100002 (.n 3 .done)))) (.t 5 (.reg (.n 6 .done)))))))))))))) (.reg (.n 2 .done)))))))) (.t 2 (.nil))))))
def in_Z98:Shp:=⟨[(0,.d (.sl tyApiEvent)),(1,.d .i)],[]⟩
def out_Z98:Shp:=⟨[(0,.s 1)],[(1,.row 209 tyBundleHolding)]⟩
def an_Z150:An:=.t 4 (.t 13 (.two (.two (.reg (.n 1 (.call 0 (.n 2 (.sp 21 4 [3,4,6] [2,3,4,6] ⟨[(25,.d .bool)],[]⟩ (.nl 3 (.n 1 .done)) (.nl 1 (.call 0 (.nl 1 (.n 1 .done)))) (.n 7 .done)))))) (.two (.gh (.tl .done) .nil) (.nil))) (.t 3 (.nil))))
def in_Z150:Shp:=⟨[(0,.d tyApiPeriod),(1,.d tyApiPeriod)],[]⟩
def out_Z150:Shp:=⟨[(0,.d tyApiPeriod),(1,.d .bool)],[]⟩
def an_Z221:An:=.t 1 (.t 3 (.t 3 (.two (.jn [] [] [(.n,⟨[(4,.d .i)],[]⟩)] (.t 2 (.t 15 (.nil)))) (.t 2 (.nil)))))
def in_Z221:Shp:=⟨[(0,.d .i)],[]⟩
def out_Z221:Shp:=⟨[(0,.d .i)],[]⟩
def an_Z233:An:=.t 1 (.t 14 (.nil))
def in_Z233:Shp:=⟨[(0,.d .i)],[]⟩
def out_Z233:Shp:=⟨[(0,.d .bool)],[]⟩
def an_Z222:An:=.t 1 (.t 3 (.two (.two (.reg (.n 3 (.sp 9 3 [0,1,5] [5] ⟨[(12,.d .bool)],[]⟩ (.nl 1 (.call 0 (.n 1 .done))) (.nl 2 (.n 1 .done)) (.done)))) (.two (.t 1 (.nil)) (.nil))) (.t 5 (.nil))))
def in_Z222:Shp:=⟨[(0,.d .i),(1,.d .i)],[]⟩
def out_Z222:Shp:=⟨[(0,.d .i)],[]⟩
def an_Z196:An:=.t 1 (.two (.t 6 (.two (.gh (.tl .done) .nil) (.nil))) (.t 6 (.two (.un (.lp [0,2,3] [2,3] ⟨[],[]⟩ [(.x 0,⟨[],[]⟩)] (.two (.two (.reg (.n 3 (.call 0 (.n 2 .done)))) (.two (.gh (.tl .done) .nil) (.nil))) (.nil)))) (.two (.reg (.n 3 (.call 0 (.n 2 .done)))) (.two (.un (.lp [0,2,3] [2,3] ⟨[],[]⟩ [(.x 2,⟨[],[]⟩)] (.two (.two (.reg (.n 5 (.call 1 (.n 1 .done)))) (.two (.gh (.tl .done) .nil) (.nil))) (.nil)))) (.t 4 (.t 2 (.nil))))))))
def in_Z196:Shp:=⟨[(0,.d .i)],[]⟩
def out_Z196:Shp:=⟨[(0,.d tyApiDate)],[]⟩
def an_Z167:An:=.t 1 (.two (.reg (.n 2 (.call 0 (.n 2 .done)))) (.t 9 (.two (.t 4 (.two (.gh (.tl .done) .nil) (.nil))) (.t 2 (.nil)))))
def in_Z167:Shp:=⟨[(0,.d .i),(1,.d .i)],[]⟩
def out_Z167:Shp:=⟨[(0,.d .i)],[]⟩
def an_Z232:An:=.t 1 (.two (.t 14 (.two (.gh (.tl .done) .nil) (.nil))) (.two (.reg (.n 2 (.call 0 (.n 1 .done)))) (.nil)))
def in_Z232:Shp:=⟨[(0,.d .i),(1,.d .i)],[]⟩
def out_Z232:Shp:=⟨[(0,.d .i)],[]⟩
def an_Z220:An:=.t 3 (.two (.two (.jn [1] [1] [(.n,⟨[(18,.d .bool)],[]⟩)] (.dm 11 [6,7,8,9,10,11,12,13,14,15,16] [] (.n 4 (.so 9 (.n 7 (.tl (.nl 1 (.n 1 .done)))) (.n 6 (.call 0 (.tl (.nl 1 (.n 1 .done))))))))) (.two (.gh (.tl .done) .nil) (.nil))) (.two (.dm 5 [19,20,21,22,23] [] (.n 2 (.call 1 (.n 2 (.tl (.n 3 .done)))))) (.two (.t 1 (.un (.lp [1] [1] ⟨[(4,.d .i),(5,.d .i)],[]⟩ [(.x 0,⟨[(4,.d .i)],[]⟩)] (.two (.t 4 (.two (.nil) (.nil))) (.two (.un (.reg (.n 4 (.call 2 (.n 2 .done))))) (.reg (.n 3 .done))))))) (.t 3 (.nil)))))
def in_Z220:Shp:=⟨[(0,.d tyApiDate)],[]⟩
def out_Z220:Shp:=⟨[(0,.d .i),(1,.d .i)],[]⟩
def an_Z195:An:=.t 1 (.two (.reg (.n 8 (.call 0 (.n 5 .done)))) (.two (.t 2 (.two (.gh (.tl .done) .nil) (.nil))) (.t 3 (.nil))))
def in_Z195:Shp:=⟨[(0,.d .i),(1,.d .i)],[]⟩
def out_Z195:Shp:=⟨[(0,.d .i)],[]⟩
def an_Z166:An:=.t 1 (.two (.reg (.n 3 (.call 0 (.n 3 .done)))) (.two (.t 2 (.two (.reg (.n 2 (.call 0 (.n 2 .done)))) (.gh (.tl .done) .nil))) (.t 2 (.nil))))
def in_Z166:Shp:=⟨[(0,.d .i),(1,.d .i)],[]⟩
def out_Z166:Shp:=⟨[(0,.d tyApiPeriod)],[]⟩
def an_Z151:An:=.t 2 (.two (.t 23 (.two (.gh (.tl .done) .nil) (.nil))) (.t 1 (.two (.two (.reg (.n 3 (.call 0 (.n 1 .done)))) (.un (.lp [0,3] [3] ⟨[(5,.s 100000),(6,.d .i)],[(100000,.row 101 tyApiPeriod)]⟩ [(.x 0,⟨[(5,.s 100100)],[(100100,.row 101 tyApiPeriod)]⟩)] (.two (.two (.reg (.n 5 (.call 0 (.n 1 .done)))) (.two (.nil) (.nil))) (.two (.un (.reg (.n 3 (.call 1 (.n 3 .done))))) (.reg (.n 3 .done))))))) (.t 2 (.nil)))))
def in_Z151:Shp:=⟨[(0,.d .i),(1,.d tyApiPeriod)],[]⟩
def out_Z151:Shp:=⟨[(0,.d (.sl tyApiPeriod))],[]⟩
def an_Z151_k2:An:=.t 2 (.two (.t 23 (.two (.gh (.tl .done) .nil) (.nil))) (.t 1 (.two (.two (.reg (.n 3 (.call 0 (.n 1 .done)))) (.un (.lp [0,3] [3] ⟨[(5,.s 100000),(6,.d .i)],[(100000,.row 101 tyApiPeriod)]⟩ [(.x 0,⟨[(5,.s 100100)],[(100100,.row 101 tyApiPeriod)]⟩)] (.two (.two (.reg (.n 5 (.call 0 (.n 1 .done)))) (.two (.nil) (.nil))) (.two (.un (.reg (.n 3 (.call 1 (.n 3 .done))))) (.reg (.n 3 .done))))))) (.t 2 (.nil)))))
def in_Z151_k2:Shp:=⟨[(0,.d .i),(1,.d tyApiPeriod)],[]⟩
def out_Z151_k2:Shp:=⟨[(0,.s 1)],[(1,.row 101 tyApiPeriod)]⟩
def an_Z149_k2:An:=.t 1 (.two (.reg (.n 4 (.call 0 (.n 6 .done)))) (.t 1 (.two (.dm 4 [16,17,18,19] [] (.n 3 (.call 1 (.tl (.n 2 .done))))) (.gh (.tl .done) .nil))))
def in_Z149_k2:Shp:=⟨[(0,.d tyApiPeriod),(1,.p 5000 []),(2,.p 5001 []),(3,.p 5003 [])],[(5000,.var 3 (.d .i)),(5001,.var 206 (.s 5002)),(5002,.row 101 tyApiPeriod),(5003,.var 3 (.d .i))]⟩
def out_Z149_k2:Shp:=⟨[],[(5001,.var 206 (.s 1)),(1,.row 101 tyApiPeriod)]⟩
def an_Z212:An:=.t 3 (.un (.lp [1,7,8] [] ⟨[(2,.p 5000 []),(9,.d .i)],[(5000,.var 342 (.s 100001)),(100001,.row 344 tyIntervalChange)]⟩ [(.x 0,⟨[],[(5000,.var 342 (.s 100101)),(100101,.row 344 tyIntervalChange)]⟩)] (.t 1 (.two (.two (.nil) (.nil)) (.two (.un (.t 4 (.two (.reg (.n 1 (.call 0 (.done)))) (.t 12 (.gh (.tl .done) .nil))))) (.reg (.n 2 .done)))))))
def in_Z212:Shp:=⟨[(0,.d (.sl tyApiPeriod)),(1,.d .i),(2,.p 5000 [])],[(5000,.var 342 (.s 5001)),(5001,.row 344 tyIntervalChange)]⟩
def out_Z212:Shp:=⟨[],[(5000,.var 342 (.s 1)),(1,.row 344 tyIntervalChange)]⟩
def an_Z212_k2:An:=.t 3 (.un (.lp [1,7,8] [] ⟨[(2,.p 5000 []),(9,.d .i)],[(5000,.var 342 (.s 100001)),(100001,.row 344 tyIntervalChange)]⟩ [(.x 0,⟨[],[(5000,.var 342 (.s 100101)),(100101,.row 344 tyIntervalChange)]⟩)] (.t 1 (.two (.two (.nil) (.nil)) (.two (.un (.t 4 (.two (.reg (.n 1 (.call 0 (.done)))) (.t 12 (.gh (.tl .done) .nil))))) (.reg (.n 2 .done)))))))
def in_Z212_k2:Shp:=⟨[(0,.d (.sl tyApiPeriod)),(1,.d .i),(2,.p 5000 [])],[(5000,.var 342 (.s 5001)),(5001,.row 344 tyIntervalChange)]⟩
def out_Z212_k2:Shp:=⟨[],[(5000,.var 342 (.s 1)),(1,.row 344 tyIntervalChange)]⟩
def an_Z248:An:=.t 1 (.two (.t 2 (.two (.gh (.tl .done) .nil) (.nil))) (.two (.t 2 (.two (.gh (.tl .done) .nil) (.nil))) (.two (.t 2 (.two (.gh (.tl .done) .nil) (.nil))) (.t 7 (.nil)))))
def in_Z248:Shp:=⟨[(0,.d (.int .u64))],[]⟩
def out_Z248:Shp:=⟨[(0,.d .i)],[]⟩
def an_Z229:An:=.t 1 (.two (.two (.nil) (.nil)) (.two (.reg (.n 1 (.call 0 (.n 1 .done)))) (.nil)))
def in_Z229:Shp:=⟨[(0,.d (.int .u64))],[]⟩
def out_Z229:Shp:=⟨[(0,.d .i)],[]⟩
def an_Z214:An:=.t 3 (.t 6 (.nil))
def in_Z214:Shp:=⟨[(0,.d tyIntervalChange),(1,.d tyIntervalChange)],[]⟩
def out_Z214:Shp:=⟨[(0,.d .i)],[]⟩
def an_Z239:An:=.t 3 (.un (.lp [0,1,2,3] [] ⟨[(8,.d .i)],[]⟩ [(.x 0,⟨[],[]⟩)] (.two (.t 3 (.two (.nil) (.nil))) (.two (.un (.t 2 (.un (.lp [8,9] [] ⟨[],[]⟩ [(.x 2,⟨[],[]⟩)] (.two (.two (.dm 14 [18,19,20,21,22,23,24,25,26,27,28,29,30,31] [] (.n 4 (.so 21 (.n 10 (.tl (.call 0 (.nl 1 (.n 1 .done))))) (.n 10 (.tl (.nl 2 (.n 1 .done))))))) (.two (.nil) (.nil))) (.nil)))))) (.reg (.n 3 .done))))))
def in_Z239:Shp:=⟨[(0,.d (.sl tyIntervalChange)),(1,.d .i),(2,.d .i),(3,.f 214 (.nil))],[]⟩
def out_Z239:Shp:=⟨[],[]⟩
def an_Z228:An:=.t 1 (.t 1 (.un (.lp [0,1,2,4] [] ⟨[],[]⟩ [(.r,⟨[],[]⟩)] (.un (.t 4 (.two (.t 2 (.two (.two (.reg (.n 4 (.call 0 (.done)))) (.nil)) (.gh (.tl .done) .nil))) (.nil)))))))
def in_Z228:Shp:=⟨[(0,.d (.sl tyIntervalChange)),(1,.d .i),(2,.d .i),(3,.d .i),(4,.f 214 (.nil))],[]⟩
def out_Z228:Shp:=⟨[],[]⟩
def an_Z213:An:=.t 3 (.reg (.n 4 (.call 0 (.n 1 (.call 1 (.done))))))
def in_Z213:Shp:=⟨[(0,.d (.sl tyIntervalChange)),(1,.f 214 (.nil))],[]⟩
def out_Z213:Shp:=⟨[],[]⟩
def an_Z187:An:=.t 1 (.t 2 (.nil))
def in_Z187:Shp:=⟨[(0,.d .bool),(1,.d .bool)],[]⟩
def out_Z187:Shp:=⟨[(0,.d .bool)],[]⟩
def an_Z186:An:=.t 1 (.t 1 (.t 2 (.two (.reg (.n 2 (.call 0 (.done)))) (.two (.reg (.n 2 (.call 1 (.done)))) (.two (.reg (.n 1 (.call 2 (.done)))) (.t 1 (.t 1 (.t 1 (.two (.t 3 (.un (.lp [2,7,24,25] [7,12101] ⟨[(9,.s 100000),(10,.p 100001 []),(11,.d .bool),(26,.d .i)],[(100000,.row 101 tyApiPeriod),(100001,.var 235 (.d (.arr 2 .i)))]⟩ [(.x 0,⟨[(9,.s 100300)],[(100300,.row 101 tyApiPeriod)]⟩)] (.t 1 (.two (.two (.nil) (.nil)) (.two (.un (.t 6 (.two (.dr 8 (.n 8 .done) (.n 1 .done)) (.two (.two (.dr 16 (.n 6 (.sp 44 10 [9,10,11,12,13,26] [13,100000,100001] ⟨[(54,.d .bool)],[]⟩ (.nl 9 (.n 1 .done)) (.nl 9 (.n 1 .done)) (.done))) (.done)) (.two (.gh (.tl .done) .nil) (.nil))) (.two (.reg (.n 7 (.call 3 (.n 1 .done)))) (.two (.jn [10,14,26] [13,100001] [(.n,⟨[(9,.s 100200)],[(100200,.row 101 tyApiPeriod)]⟩)] (.un (.t 6 (.t 7 (.t 6 (.t 9 (.gh (.tl .done) .nil))))))) (.reg (.n 2 .done)))))))) (.reg (.n 2 .done)))))))) (.t 2 (.nil)))))))))))
def in_Z186:Shp:=⟨[(0,.d (.sl tyApiPeriod)),(1,.d (.sl tyApiPeriod)),(2,.f 187 (.nil))],[]⟩
def out_Z186:Shp:=⟨[(0,.s 1)],[(1,.row 101 tyApiPeriod)]⟩
def an_Z152:An:=.t 1 (.two (.reg (.n 1 (.call 0 (.n 1 .done)))) (.nil))
def in_Z152:Shp:=⟨[(0,.d (.sl tyApiPeriod))],[]⟩
def out_Z152:Shp:=⟨[(0,.s 1)],[(1,.row 101 tyApiPeriod)]⟩
def an_Z99:An:=.t 3 (.t 1 (.t 2 (.two (.t 3 (.un (.lp [17,18] [] ⟨[(4,.p 100000 []),(7,.p 100001 []),(8,.f 149 (.cons (.p 100002 []) (.cons (.p 100001 []) (.cons (.p 100000 []) (.nil))))),(19,.d .i)],[(100000,.var 3 (.d .i)),(100001,.var 206 (.s 100003)),(100002,.var 3 (.d .i)),(100003,.row 101 tyApiPeriod)]⟩ [(.x 0,⟨[(4,.p 100300 []),(7,.p 100301 [])],[(100300,.var 3 (.d .i)),(100301,.var 206 (.s 100302)),(100302,.row 101 tyApiPeriod)]⟩)] (.t 1 (.two (.two (.nil) (.nil)) (.two (.un (.t 4 (.t 4 (.un (.lp [19,24,25] [10] ⟨[(4,.p 100100 []),(7,.p 100101 []),(8,.f 149 (.cons (.p 100102 []) (.cons (.p 100101 []) (.cons (.p 100100 []) (.nil))))),(26,.d .i)],[(100100,.var 3 (.d .i)),(100101,.var 206 (.s 100103)),(100102,.var 3 (.d .i)),(100103,.row 101 tyApiPeriod)]⟩ [(.x 2,⟨[(4,.p 100200 []),(7,.p 100201 []),(8,.f 149 (.cons (.p 100202 []) (.cons (.p 100201 []) (.cons (.p 100200 []) (.nil)))))],[(100200,.var 3 (.d .i)),(100201,.var 206 (.s 100203)),(100202,.var 3 (.d .i)),(100203,.row 101 tyApiPeriod)]⟩)] (.t 1 (.two (.two (.nil) (.nil)) (.two (.un (.t 4 (.reg (.n 2 (.call 0 (.done)))))) (.reg (.n 2 .done)))))))))) (.reg (.n 2 .done)))))))) (.t 1 (.two (.two (.reg (.n 1 (.call 1 (.n 2 .done)))) (.un (.lp [4,36,37] [13601,100300,100301,100302] ⟨[(13,.s 100400),(38,.d .i)],[(100400,.row 101 tyApiPeriod)]⟩ [(.x 4,⟨[(13,.s 100500)],[(100500,.row 101 tyApiPeriod)]⟩)] (.t 1 (.two (.two (.nil) (.nil)) (.two (.un (.t 4 (.reg (.n 3 (.call 2 (.n 2 .done)))))) (.reg (.n 2 .done)))))))) (.t 2 (.nil)))))))
def in_Z99:Shp:=⟨[(0,.d (.sl tyBundleHolding)),(1,.d .i),(2,.d .i)],[]⟩
def out_Z99:Shp:=⟨[(0,.s 1)],[(1,.row 101 tyApiPeriod)]⟩
def an_Z189:An:=.t 2 (.t 11 (.nil))
def in_Z189:Shp:=⟨[(0,.d tyApiProduct),(1,.p 5000 []),(2,.p 5001 [])],[(5000,.var 9 (.d .str)),(5001,.var 3 (.d .i))]⟩
def out_Z189:Shp:=⟨[(0,.d .bool)],[]⟩
def an_Z188:An:=.t 1 (.t 1 (.two (.t 3 (.un (.lp [1,8,9] [] ⟨[(5,.s 100000),(10,.d .i)],[(100000,.row 131 tyApiProduct)]⟩ [(.x 0,⟨[(5,.s 100100)],[(100100,.row 131 tyApiProduct)]⟩)] (.t 1 (.two (.two (.nil) (.nil)) (.two (.un (.t 4 (.two (.reg (.n 2 (.call 0 (.done)))) (.t 5 (.gh (.tl .done) .nil))))) (.reg (.n 2 .done)))))))) (.t 2 (.nil))))
def in_Z188:Shp:=⟨[(0,.d (.sl tyApiProduct)),(1,.f 189 (.cons (.p 5000 []) (.cons (.p 5001 []) (.nil))))],[(5000,.var 9 (.d .str)),(5001,.var 3 (.d .i))]⟩
def out_Z188:Shp:=⟨[(0,.s 1)],[(1,.row 131 tyApiProduct)]⟩
def an_Z190:An:=.t 2 (.t 1 (.two (.t 4 (.un (.lp [1,2,7,8] [1,2] ⟨[(3,.s 100000),(9,.d .i)],[(100000,.row 128 tyApiBundle)]⟩ [(.x 0,⟨[(3,.s 100100)],[(100100,.row 128 tyApiBundle)]⟩)] (.t 1 (.two (.two (.nil) (.nil)) (.two (.un (.t 4 (.t 5 (.reg (.n 2 (.fz 15 (.n 3 .done))))))) (.reg (.n 2 .done)))))))) (.t 3 (.t 2 (.nil)))))
def in_Z190:Shp:=⟨[(0,.d tyApiProduct)],[]⟩
def out_Z190:Shp:=⟨[(0,.ag (.cons (.d .str) (.cons (.d .i) (.cons (.d .i) (.cons (.d .str) (.cons (.d .bool) (.cons (.s 1) (.nil))))))))],[(1,.row 128 tyApiBundle)]⟩
def an_Z153:An:=.t 4 (.two (.reg (.n 2 (.call 0 (.n 1 .done)))) (.two (.t 3 (.two (.gh (.tl .done) .nil) (.nil))) (.two (.reg (.n 6 (.call 1 (.n 2 .done)))) (.nil))))
def in_Z153:Shp:=⟨[(0,.d (.sl tyApiProduct)),(1,.d .str),(2,.d .i)],[]⟩
def out_Z153:Shp:=⟨[(0,.ag (.cons (.d .str) (.cons (.d .i) (.cons (.d .i) (.cons (.d .str) (.cons (.d .bool) (.cons (.s 1) (.nil)))))))),(1,.d .bool)],[(1,.row 128 tyApiBundle)]⟩
def an_Z100:An:=.t 3 (.two (.t 4 (.un (.lp [1,3,5,18,19,20] [3,5] ⟨[],[]⟩ [(.r,⟨[(6,.s 100300)],[(100300,.row 213 tyBundleGranted)]⟩)] (.t 1 (.two (.two (.nil) (.gh (.tl .done) .nil)) (.two (.un (.t 4 (.two (.reg (.n 2 (.call 0 (.n 6 .done)))) (.two (.t 2 (.two (.gh (.tl .done) .nil) (.nil))) (.two (.reg (.n 5 (.call 1 (.n 6 .done)))) (.t 1 (.two (.t 4 (.un (.lp [9,42,43] [8,9,11,13801] ⟨[(13,.s 100100),(44,.d .i)],[(100100,.row 213 tyBundleGranted)]⟩ [(.x 2,⟨[(13,.s 100200)],[(100200,.row 213 tyBundleGranted)]⟩)] (.t 1 (.two (.two (.nil) (.nil)) (.two (.un (.t 6 (.t 23 (.reg (.n 8 .done))))) (.reg (.n 2 .done)))))))) (.t 2 (.nil))))))))) (.nil))))))) (.nil))
def in_Z100:Shp:=⟨[(0,.d tyBundleHolding),(1,.d (.sl tyApiProduct)),(2,.d tyApiPeriod)],[]⟩
def out_Z100:Shp:=⟨[(0,.s 1)],[(1,.row 213 tyBundleGranted)]⟩
def an_Z101_k2:An:=.t 1 (.two (.two (.dm 7 [9,10,11,12,13,14,15] [] (.n 6 (.call 0 (.tl (.n 1 .done))))) (.two (.nil) (.nil))) (.two (.reg (.n 2 (.call 1 (.n 2 .done)))) (.two (.t 6 (.un (.lp [0,4,24,25] [3,4,5000,5001,11901] ⟨[],[]⟩ [(.x 0,⟨[],[]⟩)] (.t 1 (.two (.two (.gh (.tl .done) .nil) (.nil)) (.nil)))))) (.t 1 (.two (.un (.lp [0,4,7] [3,4,5000,5001,11901] ⟨[],[]⟩ [(.x 2,⟨[],[]⟩)] (.two (.two (.jn [] [] [(.n,⟨[(55,.d .bool)],[]⟩)] (.dm 16 [38,39,40,41,42,43,44,45,46,47,48,49,50,51,52,53] [] (.n 8 (.so 45 (.tl .done) (.n 8 (.tl (.nl 1 (.n 1 .done)))))))) (.two (.gh (.tl .done) .nil) (.nil))) (.nil)))) (.t 8 (.two (.reg (.n 2 (.fz 11901 (.n 3 .done)))) (.t 12 (.dm 6 [80,81,82,83,84,85] [] (.n 5 (.call 0 (.tl (.n 1 .done)))))))))))))
def in_Z101_k2:Shp:=⟨[(0,.p 5000 []),(1,.d tyBundleGranted)],[(5000,.var 198 (.ag (.cons (.d (.sl tyApiBucket)) (.cons (.m 5001) (.nil))))),(5001,.map tyBundleIdentity .bool)]⟩
def out_Z101_k2:Shp:=⟨[],[(5000,.var 198 (.ag (.cons (.d (.sl tyApiBucket)) (.cons (.m 5001) (.nil))))),(5001,.map tyBundleIdentity .bool)]⟩
def an_Z69:An:=.t 2 (.t 4 (.two (.t 4 (.un (.lp [0,1,3,4,7,10,27,28] [7,10] ⟨[(11,.p 100000 []),(29,.d .i)],[(100000,.var 198 (.ag (.cons (.s 100001) (.cons (.m 100002) (.nil))))),(100001,.tail 142 tyApiBucket),(100002,.map tyBundleIdentity .bool)]⟩ [(.x 0,⟨[(11,.p 100100 [])],[(100100,.var 198 (.ag (.cons (.s 100101) (.cons (.m 100102) (.nil))))),(100101,.tail 142 tyApiBucket),(100102,.map tyBundleIdentity .bool)]⟩)] (.t 1 (.two (.two (.nil) (.nil)) (.two (.un (.t 4 (.two (.dm 9 [33,34,35,36,37,38,39,40,41] [100001] (.n 6 (.call 0 (.n 2 (.tl (.n 3 .done)))))) (.dm 6 [44,45,46,47,48,49] [] (.n 5 (.call 1 (.tl (.n 1 .done)))))))) (.reg (.n 2 .done)))))))) (.two (.dm 8 [51,52,53,54,55,56,57,14] [] (.n 8 (.tl (.n 1 .done)))) (.two (.reg (.n 2 (.call 2 (.n 1 .done)))) (.two (.t 10 (.two (.two (.reg (.n 2 (.call 3 (.n 1 .done)))) (.two (.reg (.n 3 (.call 4 (.n 2 .done)))) (.un (.lp [1,4,10,14,16,77,78] [7,10,14,53,56,17301,17701] ⟨[(11,.p 100200 []),(79,.d .i)],[(100200,.var 198 (.ag (.cons (.d (.sl tyApiBucket)) (.cons (.m 100201) (.nil))))),(100201,.map tyBundleIdentity .bool)]⟩ [(.x 2,⟨[(11,.p 100700 [])],[(100700,.var 198 (.ag (.cons (.d (.sl tyApiBucket)) (.cons (.m 100701) (.nil))))),(100701,.map tyBundleIdentity .bool)]⟩)] (.t 1 (.two (.two (.nil) (.nil)) (.two (.un (.t 4 (.t 3 (.un (.lp [18,79,83,84] [18] ⟨[(11,.p 100300 []),(85,.d .i)],[(100300,.var 198 (.ag (.cons (.d (.sl tyApiBucket)) (.cons (.m 100301) (.nil))))),(100301,.map tyBundleIdentity .bool)]⟩ [(.x 4,⟨[(11,.p 100600 [])],[(100600,.var 198 (.ag (.cons (.d (.sl tyApiBucket)) (.cons (.m 100601) (.nil))))),(100601,.map tyBundleIdentity .bool)]⟩)] (.t 1 (.two (.two (.nil) (.nil)) (.two (.un (.t 4 (.two (.reg (.n 3 (.call 5 (.n 2 .done)))) (.un (.lp [85,92,93] [20,19201] ⟨[(11,.p 100400 []),(94,.d .i)],[(100400,.var 198 (.ag (.cons (.d (.sl tyApiBucket)) (.cons (.m 100401) (.nil))))),(100401,.map tyBundleIdentity .bool)]⟩ [(.x 6,⟨[(11,.p 100500 [])],[(100500,.var 198 (.ag (.cons (.d (.sl tyApiBucket)) (.cons (.m 100501) (.nil))))),(100501,.map tyBundleIdentity .bool)]⟩)] (.t 1 (.two (.two (.nil) (.nil)) (.two (.un (.t 4 (.t 6 (.two (.reg (.n 2 (.call 6 (.done)))) (.gh (.tl .done) .nil))))) (.reg (.n 2 .done)))))))))) (.reg (.n 2 .done)))))))))) (.reg (.n 2 .done))))))))) (.gh (.tl .done) .nil))) (.t 6 (.t 2 (.nil))))))))
def in_Z69:Shp:=⟨[(0,.d (.sl tyApiEvent)),(1,.d (.sl tyApiProduct)),(2,.d tyApiState),(3,.d .i),(4,.d .i)],[]⟩
def out_Z69:Shp:=⟨[(0,.ag (.cons (.d (.sl tyApiBucket)) (.cons (.s 1) (.cons (.s 2) (.nil)))))],[(1,.row 71 tyApiWallet),(2,.row 73 tyApiCounter)]⟩
def an_Z191:An:=.t 2 (.t 5 (.t 2 (.nil)))
def in_Z191:Shp:=⟨[(0,.d tyApiBucket)],[]⟩
def out_Z191:Shp:=⟨[(0,.ag (.cons (.d .i) (.cons (.d .i) (.cons (.d .str) (.cons (.d .i) (.cons (.d .i) (.cons (.s 1) (.cons (.d tyApiPeriod) (.cons (.d .i) (.cons (.d .i) (.cons (.d .i) (.cons (.d .bool) (.nil)))))))))))))],[(1,.row 9 .str)]⟩
def an_Z157:An:=.t 1 (.t 1 (.two (.t 3 (.un (.lp [6,7] [] ⟨[(3,.s 100000),(8,.d .i)],[(100000,.row 142 tyApiBucket)]⟩ [(.x 0,⟨[(3,.s 100100)],[(100100,.row 142 tyApiBucket)]⟩)] (.t 1 (.two (.two (.nil) (.nil)) (.two (.un (.t 4 (.reg (.n 2 (.call 0 (.fz 11401 (.n 3 .done))))))) (.reg (.n 2 .done)))))))) (.t 2 (.nil))))
def in_Z157:Shp:=⟨[(0,.d (.sl tyApiBucket))],[]⟩
def out_Z157:Shp:=⟨[(0,.s 1)],[(1,.row 142 tyApiBucket)]⟩
def an_Z158:An:=.t 1 (.two (.t 4 (.two (.t 1 (.two (.t 2 (.un (.lp [2] [] ⟨[(7,.s 100000),(8,.d .i)],[(100000,.row 3 .i)]⟩ [(.x 0,⟨[(7,.s 100100)],[(100100,.row 3 .i)]⟩)] (.two (.t 3 (.two (.nil) (.nil))) (.two (.un (.reg (.n 5 .done))) (.reg (.n 3 .done))))))) (.t 2 (.nil)))) (.gh (.tl .done) .nil))) (.nil))
def in_Z158:Shp:=⟨[(0,.d (.sl tyApiBucket)),(1,.d .i),(2,.d .i)],[]⟩
def out_Z158:Shp:=⟨[(0,.s 1)],[(1,.row 3 .i)]⟩
def an_Z159:An:=.t 2 (.two (.two (.reg (.n 10 (.sp 26 6 [1,2,5,6,7] [7] ⟨[(32,.d .bool)],[]⟩ (.nl 5 (.n 1 .done)) (.nl 3 (.call 0 (.nl 1 (.n 1 .done)))) (.done)))) (.two (.gh (.tl .done) .nil) (.nil))) (.two (.t 19 (.two (.gh (.tl .done) .nil) (.nil))) (.two (.t 4 (.un (.lp [7,54,55] [7] ⟨[],[]⟩ [(.x 0,⟨[],[]⟩)] (.t 1 (.two (.two (.gh (.tl .done) .nil) (.nil)) (.nil)))))) (.t 5 (.nil)))))
def in_Z159:Shp:=⟨[(0,.d tyApiBucket),(1,.d .i),(2,.d .i),(3,.d .i),(4,.d .str),(5,.d .bool),(6,.d .i)],[]⟩
def out_Z159:Shp:=⟨[(0,.d .bool)],[]⟩
def an_Z160:An:=.t 2 (.t 11 (.nil))
def in_Z160:Shp:=⟨[(0,.d tyApiBucket)],[]⟩
def out_Z160:Shp:=⟨[(0,.d tyBucketIdentity)],[]⟩
def an_Z102:An:=.t 3 (.two (.reg (.n 1 (.call 0 (.n 1 .done)))) (.t 1 (.t 3 (.two (.two (.reg (.n 3 (.call 1 (.n 2 .done)))) (.un (.lp [0,1,2,3,4,5,6,32,33] [13201] ⟨[(7,.d .i),(19,.s 100000),(20,.s 100001),(34,.d .i)],[(100000,.row 142 tyApiBucket),(100001,.row 33 tyApiTake)]⟩ [(.x 0,⟨[(7,.d .i),(19,.s 100100),(20,.s 100101)],[(100100,.row 142 tyApiBucket),(100101,.row 33 tyApiTake)]⟩)] (.t 1 (.two (.two (.nil) (.nil)) (.two (.un (.t 3 (.two (.t 2 (.two (.gh (.tl .done) .nil) (.nil))) (.two (.two (.reg (.n 10 (.call 2 (.n 1 .done)))) (.two (.gh (.tl .done) .nil) (.nil))) (.t 8 (.t 10 (.t 4 (.two (.reg (.n 4 (.call 3 (.n 2 .done)))) (.reg (.n 14 .done)))))))))) (.reg (.n 2 .done)))))))) (.t 6 (.nil))))))
def in_Z102:Shp:=⟨[(0,.d (.sl tyApiBucket)),(1,.d .i),(2,.d .i),(3,.d .i),(4,.d .str),(5,.d .bool),(6,.d .i),(7,.d .i)],[]⟩
def out_Z102:Shp:=⟨[(0,.s 1),(1,.s 2),(2,.d .i)],[(1,.row 142 tyApiBucket),(2,.row 33 tyApiTake)]⟩
def an_Z70:An:=.t 5 (.two (.reg (.n 1 (.call 0 (.n 2 .done)))) (.two (.reg (.n 14 (.call 1 (.n 7 .done)))) (.t 3 (.t 6 (.nil)))))
def in_Z70:Shp:=⟨[(0,.d tyApiState),(1,.d tyApiUsage),(2,.d .str),(3,.d .bool)],[]⟩
def out_Z70:Shp:=⟨[(0,.d tyApiState),(1,.d (.sl tyApiTake)),(2,.d .i)],[]⟩
def an_Z53:An:=.two (.dm 21 [5,6,7,8,9,10,11,12,13,14,15,16,17,18,19,20,21,22,23,24,2] [] (.n 19 (.call 0 (.n 1 (.tl (.n 1 .done)))))) (.two (.dr 21 (.n 21 .done) (.call 1 (.n 1 .done))) (.two (.gh (.fz 14602 (.fz 14601 (.done))) (.dm 22 [48,49,50,51,52,53,54,55,56,57,58,59,60,61,62,63,47,64,65,66,1000000020,3] [2] (.n 15 (.call 2 (.n 6 (.tl (.n 1 .done))))))) (.t 5 (.t 6 (.reg (.n 11 .done))))))
def in_Z53:Shp:=⟨[(0,.p 5000 [])],[(5000,.var 114 (.ag (.cons (.d tyApiBook) (.cons (.d tyApiState) (.cons (.d tyApiUsage) (.cons (.d tyApiSpell) (.cons (.d tyApiAccount) (.cons (.d tyApiTariff) (.cons (.d .i) (.cons (.ag (.cons (.d tyApiUsage) (.cons (.d .i) (.cons (.d .str) (.cons (.d .i) (.cons (.d .str) (.cons (.s 5001) (.cons (.s 5002) (.cons (.d .i) (.cons (.d .i) (.cons (.d .i) (.cons (.s 5003) (.cons (.d .i) (.cons (.d .i) (.nil))))))))))))))) (.nil))))))))))),(5001,.row 33 tyApiTake),(5002,.row 35 tyApiSegment),(5003,.row 76 tyApiGiven)]⟩
def out_Z53:Shp:=⟨[],[(5000,.var 114 (.ag (.cons (.d tyApiBook) (.cons (.d tyApiState) (.cons (.d tyApiUsage) (.cons (.d tyApiSpell) (.cons (.d tyApiAccount) (.cons (.d tyApiTariff) (.cons (.d .i) (.cons (.ag (.cons (.d tyApiUsage) (.cons (.d .i) (.cons (.d .str) (.cons (.d .i) (.cons (.d .str) (.cons (.d (.sl tyApiTake)) (.cons (.s 1) (.cons (.d .i) (.cons (.d .i) (.cons (.d .i) (.cons (.s 2) (.cons (.d .i) (.cons (.d .i) (.nil))))))))))))))) (.nil))))))))))),(1,.row 35 tyApiSegment),(2,.row 76 tyApiGiven)]⟩
def an_Z161:An:=.t 2 (.two (.t 23 (.two (.t 1 (.nil)) (.nil))) (.t 17 (.nil)))
def in_Z161:Shp:=⟨[(0,.d tyApiUsage),(1,.d .i)],[]⟩
def out_Z161:Shp:=⟨[(0,.d .bool)],[]⟩
def an_Z168:An:=.t 1 (.two (.t 3 (.un (.lp [0,6] [] ⟨[(7,.d .i)],[]⟩ [(.x 0,⟨[],[]⟩)] (.t 1 (.two (.two (.nil) (.nil)) (.two (.un (.t 2 (.t 4 (.t 22 (.two (.gh (.tl .done) .nil) (.nil)))))) (.reg (.n 2 .done)))))))) (.t 9 (.nil)))
def in_Z168:Shp:=⟨[(0,.d .str)],[]⟩
def out_Z168:Shp:=⟨[(0,.d .bool)],[]⟩
def an_Z197:An:=.t 1 (.two (.t 3 (.un (.lp [7,8] [] ⟨[],[]⟩ [(.x 0,⟨[],[]⟩)] (.t 1 (.two (.two (.gh (.tl .done) .nil) (.nil)) (.nil)))))) (.t 1 (.nil)))
def in_Z197:Shp:=⟨[(0,.d (.sl tyApiBand)),(1,.f 170 (.cons (.p 5000 []) (.nil)))],[(5000,.var 121 (.d tyApiBand))]⟩
def out_Z197:Shp:=⟨[(0,.d .i)],[]⟩
def an_Z169:An:=.t 1 (.two (.reg (.n 2 (.call 0 (.n 2 .done)))) (.nil))
def in_Z169:Shp:=⟨[(0,.d (.sl tyApiBand)),(1,.f 170 (.cons (.p 5000 []) (.nil)))],[(5000,.var 121 (.d tyApiBand))]⟩
def out_Z169:Shp:=⟨[(0,.d .bool)],[]⟩
def an_Z108:An:=.t 1 (.two (.t 3 (.two (.gh (.tl .done) .nil) (.nil))) (.two (.t 3 (.two (.gh (.tl .done) .nil) (.nil))) (.two (.t 3 (.un (.lp [0,12,13] [] ⟨[(14,.d .i)],[]⟩ [(.x 0,⟨[],[]⟩)] (.t 1 (.two (.two (.nil) (.nil)) (.two (.un (.t 6 (.two (.two (.reg (.n 2 (.call 0 (.n 1 .done)))) (.two (.gh (.tl .done) .nil) (.nil))) (.two (.two (.reg (.n 4 (.call 1 (.done)))) (.two (.gh (.tl .done) .nil) (.nil))) (.two (.t 5 (.two (.two (.t 4 (.two (.gh (.tl .done) .nil) (.nil))) (.nil)) (.gh (.tl .done) .nil))) (.nil)))))) (.reg (.n 2 .done)))))))) (.t 1 (.nil)))))
def in_Z108:Shp:=⟨[(0,.d (.sl tyApiBand))],[]⟩
def out_Z108:Shp:=⟨[(0,.d .i)],[]⟩
def an_Z199:An:=.t 1 (.two (.t 3 (.un (.lp [7,8] [] ⟨[],[]⟩ [(.x 0,⟨[],[]⟩)] (.t 1 (.two (.two (.gh (.tl .done) .nil) (.nil)) (.nil)))))) (.t 1 (.nil)))
def in_Z199:Shp:=⟨[(0,.d (.sl .i)),(1,.d .i)],[]⟩
def out_Z199:Shp:=⟨[(0,.d .i)],[]⟩
def an_Z174:An:=.t 1 (.two (.reg (.n 2 (.call 0 (.n 2 .done)))) (.nil))
def in_Z174:Shp:=⟨[(0,.d (.sl .i)),(1,.d .i)],[]⟩
def out_Z174:Shp:=⟨[(0,.d .bool)],[]⟩
def an_Z114:An:=.t 1 (.two (.t 6 (.two (.gh (.tl .done) .nil) (.nil))) (.t 4 (.nil)))
def in_Z114:Shp:=⟨[(0,.d .i)],[]⟩
def out_Z114:Shp:=⟨[(0,.d .i)],[]⟩
def an_Z110:An:=.t 1 (.two (.two (.reg (.n 2 (.call 0 (.done)))) (.two (.gh (.tl .done) .nil) (.nil))) (.two (.reg (.n 1 (.call 1 (.n 2 .done)))) (.nil)))
def in_Z110:Shp:=⟨[(0,.d (.sl .i)),(1,.d .i)],[]⟩
def out_Z110:Shp:=⟨[(0,.d .i)],[]⟩
def an_Z198:An:=.t 1 (.two (.t 3 (.un (.lp [7,8] [] ⟨[],[]⟩ [(.x 0,⟨[],[]⟩)] (.t 1 (.two (.two (.gh (.tl .done) .nil) (.nil)) (.nil)))))) (.t 1 (.nil)))
def in_Z198:Shp:=⟨[(0,.d (.sl tyApiSlot)),(1,.f 172 (.cons (.p 5000 []) (.cons (.p 5001 []) (.nil))))],[(5000,.var 3 (.d .i)),(5001,.var 3 (.d .i))]⟩
def out_Z198:Shp:=⟨[(0,.d .i)],[]⟩
def an_Z173:An:=.t 1 (.two (.reg (.n 2 (.call 0 (.n 2 .done)))) (.nil))
def in_Z173:Shp:=⟨[(0,.d (.sl tyApiSlot)),(1,.f 172 (.cons (.p 5000 []) (.cons (.p 5001 []) (.nil))))],[(5000,.var 3 (.d .i)),(5001,.var 3 (.d .i))]⟩
def out_Z173:Shp:=⟨[(0,.d .bool)],[]⟩
def an_Z109:An:=.t 3 (.t 2 (.two (.t 3 (.un (.lp [0,7,11,12] [4,5] ⟨[(13,.d .i)],[]⟩ [(.x 0,⟨[],[]⟩)] (.t 1 (.two (.two (.nil) (.nil)) (.two (.un (.t 4 (.two (.reg (.n 3 (.call 0 (.done)))) (.two (.gh (.tl .done) .nil) (.nil))))) (.reg (.n 2 .done)))))))) (.t 8 (.nil))))
def in_Z109:Shp:=⟨[(0,.d (.sl tyApiBand)),(1,.d .i),(2,.d .i)],[]⟩
def out_Z109:Shp:=⟨[(0,.d .str)],[]⟩
def an_Z74:An:=.t 1 (.two (.two (.reg (.n 1 (.call 0 (.n 9 .done)))) (.two (.gh (.tl .done) .nil) (.nil))) (.two (.reg (.n 4 (.call 1 (.n 3 (.call 2 (.n 1 .done)))))) (.nil)))
def in_Z74:Shp:=⟨[(0,.d (.sl tyApiBand)),(1,.d (.sl .i)),(2,.d .i)],[]⟩
def out_Z74:Shp:=⟨[(0,.d .str)],[]⟩
def an_Z163:An:=.t 2 (.t 27 (.nil))
def in_Z163:Shp:=⟨[(0,.d tyApiRate),(1,.p 5000 []),(2,.p 5001 []),(3,.p 5002 [])],[(5000,.var 3 (.d .i)),(5001,.var 9 (.d .str)),(5002,.var 9 (.d .str))]⟩
def out_Z163:Shp:=⟨[(0,.d .bool)],[]⟩
def an_Z104:An:=.t 6 (.t 2 (.two (.t 4 (.un (.lp [10,15,16,17] [4,5,6,7] ⟨[(8,.p 100000 [])],[(100000,.var 126 (.ag (.cons (.d .i) (.cons (.d .str) (.cons (.d .str) (.cons (.d .i) (.cons (.ns) (.nil))))))))]⟩ [(.r,⟨[(8,.p 100100 []),(9,.d .bool)],[(100100,.var 126 (.ag (.cons (.d .i) (.cons (.d .str) (.cons (.d .str) (.cons (.d .i) (.cons (.s 100101) (.nil)))))))),(100101,.row 123 tyApiStep)]⟩)] (.t 1 (.two (.two (.nil) (.gh (.tl .done) .nil)) (.two (.un (.t 4 (.two (.reg (.n 2 (.call 0 (.done)))) (.two (.t 5 (.t 3 (.nil))) (.gh (.tl .done) .nil))))) (.nil))))))) (.nil)))
def in_Z104:Shp:=⟨[(0,.d tyApiTariff),(1,.d .i),(2,.d .str),(3,.d .str)],[]⟩
def out_Z104:Shp:=⟨[(0,.d tyApiRate),(1,.d .bool)],[]⟩
def an_Z194:An:=.t 1 (.two (.t 3 (.un (.lp [0,7,8] [] ⟨[(9,.d .i)],[]⟩ [(.x 0,⟨[],[]⟩)] (.t 1 (.two (.two (.nil) (.nil)) (.two (.un (.t 3 (.t 7 (.two (.gh (.tl .done) .nil) (.nil))))) (.reg (.n 2 .done)))))))) (.t 1 (.nil)))
def in_Z194:Shp:=⟨[(0,.d .i),(1,.d (.sl .i))],[]⟩
def out_Z194:Shp:=⟨[(0,.d .bool)],[]⟩
def an_Z164:An:=.t 1 (.two (.t 3 (.two (.gh (.tl .done) .nil) (.nil))) (.two (.t 3 (.two (.gh (.tl .done) .nil) (.nil))) (.t 1 (.two (.t 3 (.un (.lp [0,12,13] [] ⟨[(3,.d .i),(14,.d .i)],[]⟩ [(.x 0,⟨[],[]⟩)] (.t 1 (.two (.two (.nil) (.nil)) (.two (.un (.t 6 (.two (.two (.reg (.n 5 (.call 0 (.n 7 (.sp 31 6 [3,4,5,14] [5] ⟨[(37,.d .bool)],[]⟩ (.nl 5 (.n 1 .done)) (.nl 3 (.call 0 (.nl 1 (.n 1 .done)))) (.done)))))) (.two (.gh (.tl .done) .nil) (.nil))) (.two (.t 9 (.two (.gh (.tl .done) .nil) (.nil))) (.two (.t 9 (.two (.gh (.tl .done) .nil) (.nil))) (.reg (.n 3 .done))))))) (.reg (.n 2 .done)))))))) (.t 1 (.nil))))))
def in_Z164:Shp:=⟨[(0,.d (.sl tyApiStep))],[]⟩
def out_Z164:Shp:=⟨[(0,.d .i)],[]⟩
def an_Z165:An:=.t 2 (.t 2 (.two (.t 3 (.un (.lp [1,12,13] [] ⟨[(6,.d .i),(7,.d .i),(14,.d .i)],[]⟩ [(.x 0,⟨[(6,.d .i)],[]⟩)] (.t 1 (.two (.two (.nil) (.nil)) (.two (.un (.t 4 (.t 2 (.two (.t 3 (.two (.gh (.tl .done) .nil) (.nil))) (.two (.t 3 (.two (.nil) (.nil))) (.t 11 (.two (.two (.dr 7 (.n 7 .done) (.done)) (.two (.gh (.tl .done) .nil) (.nil))) (.t 7 (.reg (.n 2 .done)))))))))) (.reg (.n 2 .done)))))))) (.t 3 (.nil))))
def in_Z165:Shp:=⟨[(0,.d (.sl tyApiStep)),(1,.d .i)],[]⟩
def out_Z165:Shp:=⟨[(0,.d .i),(1,.d .bool)],[]⟩
def an_Z105:An:=.t 2 (.two (.two (.reg (.n 1 (.call 0 (.n 1 .done)))) (.two (.gh (.tl .done) .nil) (.nil))) (.two (.t 16 (.two (.gh (.tl .done) .nil) (.nil))) (.two (.reg (.n 4 (.call 1 (.n 5 .done)))) (.two (.t 2 (.two (.gh (.tl .done) .nil) (.nil))) (.two (.reg (.n 2 (.call 1 (.n 5 .done)))) (.t 5 (.nil)))))))
def in_Z105:Shp:=⟨[(0,.d (.sl tyApiStep)),(1,.d .i),(2,.d .i)],[]⟩
def out_Z105:Shp:=⟨[(0,.d .i),(1,.d .i)],[]⟩
def an_Z103_k2:An:=.t 3 (.two (.two (.reg (.n 2 (.call 0 (.n 2 (.sp 17 5 [1,3,4,6] [4,6] ⟨[(22,.d .bool)],[]⟩ (.nl 4 (.n 1 .done)) (.nl 2 (.call 1 (.nl 1 (.n 1 .done)))) (.done)))))) (.two (.t 1 (.nil)) (.nil))) (.t 3 (.two (.t 3 (.t 4 (.gh (.tl .done) .nil))) (.two (.t 8 (.two (.two (.dm 10 [39,40,41,42,43,44,45,46,47,48] [] (.n 4 (.call 2 (.n 5 (.tl (.n 1 (.br (.n 1 .done)))))))) (.nil)) (.gh (.tl .done) .nil))) (.nil)))))
def in_Z103_k2:Shp:=⟨[(0,.d tyApiTariff),(1,.d (.sl .i)),(2,.d tyApiUsage),(3,.d .i)],[]⟩
def out_Z103_k2:Shp:=⟨[(0,.s 1)],[(1,.row 35 tyApiSegment)]⟩
def an_Z71:An:=.t 5 (.un (.two (.reg (.n 4 (.call 0 (.n 5 .done)))) (.two (.reg (.n 4 (.call 1 (.n 1 .done)))) (.t 4 (.two (.nil) (.two (.t 3 (.un (.lp [4,6,11,17,37] [4,6] ⟨[(13,.s 100000),(14,.d .i),(15,.d .i),(16,.d .i),(38,.d .i)],[(100000,.row 35 tyApiSegment)]⟩ [(.x 0,⟨[(13,.s 100100),(14,.d .i),(15,.d .i)],[(100100,.row 35 tyApiSegment)]⟩)] (.t 1 (.two (.two (.nil) (.nil)) (.two (.un (.t 2 (.two (.dm 15 [42,43,44,45,46,47,48,49,50,51,41,52,53,19,1000000014] [] (.n 9 (.call 2 (.n 5 (.tl (.n 1 .done)))))) (.two (.t 2 (.two (.gh (.tl .done) .nil) (.nil))) (.two (.t 2 (.t 3 (.gh (.tl .done) .nil))) (.two (.dm 13 [61,62,63,64,65,66,67,68,69,60,70,71,21] [] (.n 8 (.call 3 (.n 4 (.tl (.n 1 .done)))))) (.two (.t 2 (.two (.gh (.tl .done) .nil) (.nil))) (.t 6 (.t 8 (.reg (.n 5 .done))))))))))) (.reg (.n 2 .done)))))))) (.two (.t 16 (.two (.gh (.tl .done) .nil) (.nil))) (.two (.t 2 (.two (.gh (.tl .done) .nil) (.nil))) (.t 5 (.nil))))))))))
def in_Z71:Shp:=⟨[(0,.d tyApiTariff),(1,.d (.sl .i)),(2,.d tyApiUsage),(3,.d .i)],[]⟩
def out_Z71:Shp:=⟨[(0,.d (.sl tyApiSegment)),(1,.d .i),(2,.d .i)],[]⟩
def an_Z54:An:=.t 1 (.two (.dm 24 [10,11,12,13,14,15,16,17,18,19,20,21,22,23,24,25,26,27,9,28,29,30,3,4] [] (.n 17 (.call 0 (.n 6 (.tl (.n 1 .done)))))) (.two (.t 2 (.two (.gh (.tl .done) .nil) (.nil))) (.t 2 (.two (.t 3 (.un (.lp [0,3,4,35,36] [5000,5002] ⟨[(6,.d .i),(37,.d .i)],[]⟩ [(.x 0,⟨[(6,.d .i)],[]⟩)] (.t 1 (.two (.two (.nil) (.nil)) (.two (.un (.t 4 (.t 2 (.t 5 (.gh (.tl .done) .nil))))) (.reg (.n 2 .done)))))))) (.two (.t 2 (.two (.gh (.tl .done) .nil) (.nil))) (.t 18 (.t 1 (.nil))))))))
def in_Z54:Shp:=⟨[(0,.p 5000 [])],[(5000,.var 114 (.ag (.cons (.d tyApiBook) (.cons (.d tyApiState) (.cons (.d tyApiUsage) (.cons (.d tyApiSpell) (.cons (.d tyApiAccount) (.cons (.d tyApiTariff) (.cons (.d .i) (.cons (.ag (.cons (.d tyApiUsage) (.cons (.d .i) (.cons (.d .str) (.cons (.d .i) (.cons (.d .str) (.cons (.d (.sl tyApiTake)) (.cons (.s 5001) (.cons (.d .i) (.cons (.d .i) (.cons (.d .i) (.cons (.s 5002) (.cons (.d .i) (.cons (.d .i) (.nil))))))))))))))) (.nil))))))))))),(5001,.row 35 tyApiSegment),(5002,.row 76 tyApiGiven)]⟩
def out_Z54:Shp:=⟨[(0,.d .i)],[(5000,.var 114 (.ag (.cons (.d tyApiBook) (.cons (.d tyApiState) (.cons (.d tyApiUsage) (.cons (.d tyApiSpell) (.cons (.d tyApiAccount) (.cons (.d tyApiTariff) (.cons (.d .i) (.cons (.ag (.cons (.d tyApiUsage) (.cons (.d .i) (.cons (.d .str) (.cons (.d .i) (.cons (.d .str) (.cons (.d (.sl tyApiTake)) (.cons (.d (.sl tyApiSegment)) (.cons (.d .i) (.cons (.d .i) (.cons (.d .i) (.cons (.s 1) (.cons (.d .i) (.cons (.d .i) (.nil))))))))))))))) (.nil))))))))))),(1,.row 76 tyApiGiven)]⟩
def an_Z52:An:=.t 1 (.two (.reg (.n 1 (.call 0 (.done)))) (.two (.reg (.n 1 (.call 1 (.n 1 .done)))) (.nil)))
def in_Z52:Shp:=⟨[(0,.p 5000 [])],[(5000,.var 99 (.p 5001 [])),(5001,.var 114 (.ag (.cons (.d tyApiBook) (.cons (.d tyApiState) (.cons (.d tyApiUsage) (.cons (.d tyApiSpell) (.cons (.d tyApiAccount) (.cons (.d tyApiTariff) (.cons (.d .i) (.cons (.ag (.cons (.d tyApiUsage) (.cons (.d .i) (.cons (.d .str) (.cons (.d .i) (.cons (.d .str) (.cons (.s 5002) (.cons (.s 5003) (.cons (.d .i) (.cons (.d .i) (.cons (.d .i) (.cons (.s 5004) (.cons (.d .i) (.cons (.d .i) (.nil))))))))))))))) (.nil))))))))))),(5002,.row 33 tyApiTake),(5003,.row 35 tyApiSegment),(5004,.row 76 tyApiGiven)]⟩
def out_Z52:Shp:=⟨[(0,.d .i)],[(5001,.var 114 (.ag (.cons (.d tyApiBook) (.cons (.d tyApiState) (.cons (.d tyApiUsage) (.cons (.d tyApiSpell) (.cons (.d tyApiAccount) (.cons (.d tyApiTariff) (.cons (.d .i) (.cons (.ag (.cons (.d tyApiUsage) (.cons (.d .i) (.cons (.d .str) (.cons (.d .i) (.cons (.d .str) (.cons (.d (.sl tyApiTake)) (.cons (.d (.sl tyApiSegment)) (.cons (.d .i) (.cons (.d .i) (.cons (.d .i) (.cons (.s 1) (.cons (.d .i) (.cons (.d .i) (.nil))))))))))))))) (.nil))))))))))),(1,.row 76 tyApiGiven)]⟩
def an_Z47_k3:An:=.t 2 (.two (.reg (.n 1 (.call 0 (.n 1 .done)))) (.nil))
def in_Z47_k3:Shp:=⟨[(0,.f 52 (.cons (.p 5000 []) (.nil))),(1,.p 5005 [])],[(5000,.var 99 (.p 5001 [])),(5001,.var 114 (.ag (.cons (.d tyApiBook) (.cons (.d tyApiState) (.cons (.d tyApiUsage) (.cons (.d tyApiSpell) (.cons (.d tyApiAccount) (.cons (.d tyApiTariff) (.cons (.d .i) (.cons (.ag (.cons (.d tyApiUsage) (.cons (.d .i) (.cons (.d .str) (.cons (.d .i) (.cons (.d .str) (.cons (.s 5002) (.cons (.s 5003) (.cons (.d .i) (.cons (.d .i) (.cons (.d .i) (.cons (.s 5004) (.cons (.d .i) (.cons (.d .i) (.nil))))))))))))))) (.nil))))))))))),(5002,.row 33 tyApiTake),(5003,.row 35 tyApiSegment),(5004,.row 76 tyApiGiven),(5005,.var 24 (.d .i))]⟩
def out_Z47_k3:Shp:=⟨[],[(5001,.var 114 (.ag (.cons (.d tyApiBook) (.cons (.d tyApiState) (.cons (.d tyApiUsage) (.cons (.d tyApiSpell) (.cons (.d tyApiAccount) (.cons (.d tyApiTariff) (.cons (.d .i) (.cons (.ag (.cons (.d tyApiUsage) (.cons (.d .i) (.cons (.d .str) (.cons (.d .i) (.cons (.d .str) (.cons (.d (.sl tyApiTake)) (.cons (.d (.sl tyApiSegment)) (.cons (.d .i) (.cons (.d .i) (.cons (.d .i) (.cons (.s 1) (.cons (.d .i) (.cons (.d .i) (.nil))))))))))))))) (.nil))))))))))),(5005,.var 24 (.d .i)),(1,.row 76 tyApiGiven)]⟩
def an_Z107:An:=.t 1 (.two (.t 14 (.two (.gh (.tl .done) .nil) (.nil))) (.two (.reg (.n 3 (.call 0 (.call 1 (.n 1 .done))))) (.nil)))
def in_Z107:Shp:=⟨[(0,.d .i),(1,.d .i)],[]⟩
def out_Z107:Shp:=⟨[(0,.d tyApiPeriod)],[]⟩
def an_Z73:An:=.t 1 (.two (.dr 10 (.n 10 .done) (.call 0 (.n 2 .done))) (.nil))
def in_Z73:Shp:=⟨[(0,.p 5000 [])],[(5000,.var 114 (.ag (.cons (.d tyApiBook) (.cons (.d tyApiState) (.cons (.d tyApiUsage) (.cons (.d tyApiSpell) (.cons (.d tyApiAccount) (.cons (.d tyApiTariff) (.cons (.d .i) (.cons (.ag (.cons (.d tyApiUsage) (.cons (.d .i) (.cons (.d .str) (.cons (.d .i) (.cons (.d .str) (.cons (.d (.sl tyApiTake)) (.cons (.d (.sl tyApiSegment)) (.cons (.d .i) (.cons (.d .i) (.cons (.d .i) (.cons (.s 5001) (.cons (.d .i) (.cons (.d .i) (.nil))))))))))))))) (.nil))))))))))),(5001,.row 76 tyApiGiven)]⟩
def out_Z73:Shp:=⟨[(0,.d .i)],[]⟩
def an_Z106:An:=.t 3 (.two (.t 17 (.un (.lp [22] [2,3] ⟨[(23,.d .i)],[]⟩ [(.x 0,⟨[],[]⟩)] (.t 1 (.two (.two (.nil) (.nil)) (.two (.un (.t 3 (.un (.t 6 (.two (.gh (.tl .done) .nil) (.t 6 (.two (.gh (.tl .done) .nil) (.nil)))))))) (.reg (.n 2 .done)))))))) (.t 1 (.nil)))
def in_Z106:Shp:=⟨[(0,.d tyApiCounter),(1,.d tyApiCounter)],[]⟩
def out_Z106:Shp:=⟨[(0,.d .i)],[]⟩
def an_Z72:An:=.t 1 (.t 6 (.two (.t 3 (.un (.lp [9,16,17,18] [9] ⟨[(8,.p 100000 [])],[(100000,.var 73 (.d tyApiCounter))]⟩ [(.x 0,⟨[(8,.p 100100 [])],[(100100,.var 73 (.d tyApiCounter))]⟩),(.r,⟨[(8,.p 100200 [])],[(100200,.var 73 (.d tyApiCounter))]⟩)] (.t 1 (.two (.two (.nil) (.nil)) (.two (.un (.t 4 (.two (.reg (.n 2 (.call 0 (.n 1 .done)))) (.two (.t 2 (.nil)) (.gh (.tl .done) .nil))))) (.nil))))))) (.t 2 (.nil))))
def in_Z72:Shp:=⟨[(0,.d (.sl tyApiCounter)),(1,.d .i),(2,.d .i),(3,.d .i)],[]⟩
def out_Z72:Shp:=⟨[(0,.d tyApiCounter)],[]⟩
def an_Z76:An:=.t 3 (.t 14 (.two (.t 8 (.two (.gh (.tl .done) .nil) (.nil))) (.t 3 (.two (.reg (.n 5 (.call 0 (.n 2 .done)))) (.two (.dr 9 (.n 9 .done) (.n 1 .done)) (.t 2 (.nil)))))))
def in_Z76:Shp:=⟨[(0,.d tyApiUsage),(1,.d .str),(2,.d .str),(3,.d tyApiCounter),(4,.d .bool)],[]⟩
def out_Z76:Shp:=⟨[(0,.d tyApiEnv)],[]⟩
def an_Z75:An:=.t 4 (.two (.t 6 (.two (.gh (.tl .done) .nil) (.nil))) (.t 2 (.t 1 (.t 2 (.two (.t 3 (.un (.lp [10,11,25,26] [4] ⟨[],[]⟩ [(.x 0,⟨[],[]⟩)] (.t 1 (.two (.two (.gh (.tl .done) .nil) (.nil)) (.nil)))))) (.t 5 (.nil)))))))
def in_Z75:Shp:=⟨[(0,.d (.sl tyApiDiscount)),(1,.d tyApiEnv),(2,.d .i)],[]⟩
def out_Z75:Shp:=⟨[(0,.d (.sl tyApiGiven)),(1,.d .i),(2,.d .i)],[]⟩
def an_Z56:An:=.t 1 (.two (.dc 19 [8,9,10,11,12,13,14,15,16,17,18,19,20,21,22,23,24,25,3] [5000] [5001] (.op ⟨.nl 1 .done,[],[],[],[5000]⟩ (.op ⟨.nl 1 .done,[],[5000],[],[5000]⟩ (.op ⟨.nl 1 .done,[],[],[],[5000]⟩ (.op ⟨.nl 1 .done,[],[],[],[5000]⟩ (.op ⟨.nl 1 .done,[],[5000],[],[]⟩ (.op ⟨.nl 1 .done,[],[],[],[5000]⟩ (.op ⟨.nl 1 .done,[],[5000],[],[5000]⟩ (.op ⟨.nl 1 .done,[],[],[],[5000]⟩ (.op ⟨.nl 1 .done,[],[],[],[5000]⟩ (.op ⟨.nl 1 .done,[],[5000],[],[]⟩ (.op ⟨.nl 1 .done,[],[],[],[5000]⟩ (.op ⟨.nl 1 .done,[],[5000],[],[5000]⟩ (.op ⟨.nl 1 .done,[],[],[],[5000]⟩ (.op ⟨.nl 1 .done,[],[],[],[5000]⟩ (.op ⟨.nl 1 .done,[],[5000],[],[]⟩ (.op ⟨.nl 1 .done,[],[],[],[5000]⟩ (.op ⟨.call 0 (.done),[],[5000,5001],[],[]⟩ (.op ⟨.call 1 (.done),[],[],[],[]⟩ (.op ⟨.nl 1 .done,[],[],[3],[3]⟩ (.tl (.n 1 .done)))))))))))))))))))))) (.two (.dr 15 (.n 15 .done) (.call 2 (.n 1 .done))) (.two (.dm 34 [43,44,45,46,47,48,49,50,51,52,53,54,55,56,57,58,59,60,61,62,63,64,65,66,67,68,69,70,42,71,72,73,5,6] [] (.n 21 (.call 3 (.n 5 (.call 4 (.n 6 (.tl (.n 1 .done)))))))) (.two (.t 2 (.two (.gh (.tl .done) .nil) (.nil))) (.t 12 (.t 1 (.nil)))))))
def in_Z56:Shp:=⟨[(0,.p 5000 [])],[(5000,.var 114 (.ag (.cons (.d tyApiBook) (.cons (.d tyApiState) (.cons (.d tyApiUsage) (.cons (.d tyApiSpell) (.cons (.d tyApiAccount) (.cons (.d tyApiTariff) (.cons (.d .i) (.cons (.ag (.cons (.d tyApiUsage) (.cons (.d .i) (.cons (.d .str) (.cons (.d .i) (.cons (.d .str) (.cons (.d (.sl tyApiTake)) (.cons (.d (.sl tyApiSegment)) (.cons (.d .i) (.cons (.d .i) (.cons (.d .i) (.cons (.s 5001) (.cons (.d .i) (.cons (.d .i) (.nil))))))))))))))) (.nil))))))))))),(5001,.row 76 tyApiGiven)]⟩
def out_Z56:Shp:=⟨[(0,.d .i)],[(5000,.var 114 (.d tyRateJob))]⟩
def an_Z55:An:=.t 1 (.two (.reg (.n 1 (.call 0 (.n 1 .done)))) (.nil))
def in_Z55:Shp:=⟨[(0,.p 5000 [])],[(5000,.var 99 (.p 5001 [])),(5001,.var 114 (.ag (.cons (.d tyApiBook) (.cons (.d tyApiState) (.cons (.d tyApiUsage) (.cons (.d tyApiSpell) (.cons (.d tyApiAccount) (.cons (.d tyApiTariff) (.cons (.d .i) (.cons (.ag (.cons (.d tyApiUsage) (.cons (.d .i) (.cons (.d .str) (.cons (.d .i) (.cons (.d .str) (.cons (.d (.sl tyApiTake)) (.cons (.d (.sl tyApiSegment)) (.cons (.d .i) (.cons (.d .i) (.cons (.d .i) (.cons (.s 5002) (.cons (.d .i) (.cons (.d .i) (.nil))))))))))))))) (.nil))))))))))),(5002,.row 76 tyApiGiven)]⟩
def out_Z55:Shp:=⟨[(0,.d .i)],[(5001,.var 114 (.d tyRateJob))]⟩
def an_Z47_k4:An:=.t 2 (.two (.reg (.n 1 (.call 0 (.n 1 .done)))) (.nil))
def in_Z47_k4:Shp:=⟨[(0,.f 55 (.cons (.p 5000 []) (.nil))),(1,.p 5003 [])],[(5000,.var 99 (.p 5001 [])),(5001,.var 114 (.ag (.cons (.d tyApiBook) (.cons (.d tyApiState) (.cons (.d tyApiUsage) (.cons (.d tyApiSpell) (.cons (.d tyApiAccount) (.cons (.d tyApiTariff) (.cons (.d .i) (.cons (.ag (.cons (.d tyApiUsage) (.cons (.d .i) (.cons (.d .str) (.cons (.d .i) (.cons (.d .str) (.cons (.d (.sl tyApiTake)) (.cons (.d (.sl tyApiSegment)) (.cons (.d .i) (.cons (.d .i) (.cons (.d .i) (.cons (.s 5002) (.cons (.d .i) (.cons (.d .i) (.nil))))))))))))))) (.nil))))))))))),(5002,.row 76 tyApiGiven),(5003,.var 24 (.d .i))]⟩
def out_Z47_k4:Shp:=⟨[],[(5001,.var 114 (.ag (.cons (.d tyApiBook) (.cons (.d tyApiState) (.cons (.d tyApiUsage) (.cons (.d tyApiSpell) (.cons (.d tyApiAccount) (.cons (.d tyApiTariff) (.cons (.d .i) (.cons (.ag (.cons (.d tyApiUsage) (.cons (.d .i) (.cons (.d .str) (.cons (.d .i) (.cons (.d .str) (.cons (.d (.sl tyApiTake)) (.cons (.d (.sl tyApiSegment)) (.cons (.d .i) (.cons (.d .i) (.cons (.d .i) (.cons (.d (.sl tyApiGiven)) (.cons (.d .i) (.cons (.d .i) (.nil))))))))))))))) (.nil))))))))))),(5003,.var 24 (.d .i))]⟩
def an_Z116:An:=.t 2 (.two (.two (.reg (.n 1 (.call 0 (.n 1 .done)))) (.two (.gh (.tl .done) .nil) (.nil))) (.t 9 (.nil)))
def in_Z116:Shp:=⟨[(0,.d tyApiWallet)],[]⟩
def out_Z116:Shp:=⟨[(0,.d .i)],[]⟩
def an_Z117:An:=.t 3 (.two (.two (.reg (.n 1 (.call 0 (.n 1 .done)))) (.t 2 (.two (.gh (.tl .done) .nil) (.nil)))) (.two (.two (.reg (.n 1 (.call 1 (.n 1 .done)))) (.two (.gh (.tl .done) .nil) (.nil))) (.two (.two (.reg (.n 2 (.call 2 (.n 1 .done)))) (.two (.gh (.tl .done) .nil) (.nil))) (.t 6 (.t 3 (.nil))))))
def in_Z117:Shp:=⟨[(0,.d tyApiWallet),(1,.d .i)],[]⟩
def out_Z117:Shp:=⟨[(0,.d tyApiWallet),(1,.d .i)],[]⟩
def an_Z115_k2:An:=.t 1 (.t 2 (.two (.t 3 (.un (.lp [9,10] [] ⟨[(3,.m 100000),(11,.d .i)],[(100000,.map .i .i)]⟩ [(.x 0,⟨[(3,.m 100100)],[(100100,.map .i .i)]⟩)] (.t 1 (.two (.two (.nil) (.nil)) (.two (.un (.t 6 (.t 9 (.t 2 (.t 5 (.gh (.tl .done) .nil)))))) (.reg (.n 2 .done)))))))) (.t 2 (.nil))))
def in_Z115_k2:Shp:=⟨[(0,.s 5000)],[(5000,.row 71 tyApiWallet)]⟩
def out_Z115_k2:Shp:=⟨[(0,.m 1)],[(1,.map .i .i)]⟩
def an_Z77:An:=.t 4 (.two (.reg (.n 1 (.call 0 (.n 2 .done)))) (.two (.reg (.n 2 (.call 1 (.n 7 .done)))) (.two (.t 10 (.two (.t 5 (.nil)) (.nil))) (.two (.reg (.n 6 (.call 2 (.n 2 .done)))) (.two (.reg (.n 6 (.call 3 (.n 6 .done)))) (.two (.t 2 (.two (.gh (.tl .done) .nil) (.nil))) (.t 6 (.t 8 (.nil)))))))))
def in_Z77:Shp:=⟨[(0,.d tyApiState),(1,.d .i),(2,.d .i),(3,.d .bool)],[]⟩
def out_Z77:Shp:=⟨[(0,.d tyApiState),(1,.d .i),(2,.d .i)],[]⟩
def an_Z73_k2:An:=.t 1 (.two (.dr 10 (.n 10 .done) (.call 0 (.n 2 .done))) (.nil))
def in_Z73_k2:Shp:=⟨[(0,.p 5000 [])],[(5000,.var 114 (.d tyRateJob))]⟩
def out_Z73_k2:Shp:=⟨[(0,.d .i)],[]⟩
def an_Z178:An:=.t 1 (.two (.t 2 (.un (.lp [0,5,6] [] ⟨[],[]⟩ [(.r,⟨[(2,.d .bool)],[]⟩)] (.t 1 (.two (.two (.nil) (.gh (.tl .done) .nil)) (.two (.un (.t 2 (.t 3 (.two (.t 1 (.nil)) (.gh (.tl .done) .nil))))) (.nil))))))) (.nil))
def in_Z178:Shp:=⟨[(0,.d .i)],[]⟩
def out_Z178:Shp:=⟨[(0,.d .bool)],[]⟩
def an_Z119:An:=.t 2 (.two (.reg (.n 9 (.sp 11 4 [1] [1] ⟨[(15,.d .bool)],[]⟩ (.nl 2 (.call 0 (.n 1 .done))) (.nl 3 (.n 1 .done)) (.n 11 .done)))) (.nil))
def in_Z119:Shp:=⟨[(0,.d tyApiCounter)],[]⟩
def out_Z119:Shp:=⟨[(0,.d .bool)],[]⟩
def an_Z120:An:=.t 2 (.t 19 (.nil))
def in_Z120:Shp:=⟨[(0,.d tyApiCounter)],[]⟩
def out_Z120:Shp:=⟨[(0,.d .bool)],[]⟩
def an_Z118:An:=.t 1 (.two (.t 3 (.un (.lp [0,5,6] [] ⟨[(7,.d .i)],[]⟩ [(.x 0,⟨[],[]⟩)] (.t 1 (.two (.two (.nil) (.nil)) (.two (.un (.t 6 (.two (.two (.reg (.n 1 (.call 0 (.n 2 (.sp 15 4 [3,4,7] [4] ⟨[(19,.d .bool)],[]⟩ (.nl 3 (.n 1 .done)) (.nl 1 (.call 1 (.nl 1 (.n 1 .done)))) (.n 10 .done)))))) (.two (.gh (.tl .done) .nil) (.nil))) (.two (.jn [7] [4] [(.n,⟨[(41,.d .bool)],[]⟩)] (.dm 9 [30,31,32,33,34,35,36,37,38] [] (.n 3 (.so 32 (.tl .done) (.n 6 (.tl (.nl 2 (.n 1 .done)))))))) (.two (.gh (.tl .done) .nil) (.nil)))))) (.reg (.n 2 .done)))))))) (.t 1 (.nil)))
def in_Z118:Shp:=⟨[(0,.d (.sl tyApiCounter))],[]⟩
def out_Z118:Shp:=⟨[(0,.d .bool)],[]⟩
def an_Z121:An:=.t 2 (.two (.t 3 (.un (.lp [0,1,6,7,8] [] ⟨[],[]⟩ [(.x 0,⟨[],[]⟩),(.r,⟨[(2,.d .i),(3,.d .i)],[]⟩)] (.t 1 (.two (.two (.nil) (.nil)) (.two (.un (.t 6 (.two (.reg (.n 2 (.call 0 (.done)))) (.un (.t 2 (.two (.t 5 (.nil)) (.gh (.tl .done) .nil))))))) (.nil))))))) (.two (.dr 6 (.n 6 .done) (.done)) (.nil)))
def in_Z121:Shp:=⟨[(0,.p 5000 []),(1,.p 5001 [])],[(5000,.var 55 (.d (.sl tyApiCounter))),(5001,.var 73 (.d tyApiCounter))]⟩
def out_Z121:Shp:=⟨[(0,.d .i),(1,.d .i)],[]⟩
def an_Z78:An:=.t 4 (.two (.two (.reg (.n 1 (.call 0 (.n 2 (.sp 14 4 [2,3] [2,3] ⟨[(18,.d .bool)],[]⟩ (.nl 3 (.n 1 .done)) (.nl 1 (.call 1 (.nl 1 (.n 1 .done)))) (.done)))))) (.two (.gh (.tl .done) .nil) (.nil))) (.two (.two (.reg (.n 1 (.call 2 (.n 1 .done)))) (.two (.gh (.tl .done) .nil) (.nil))) (.t 2 (.two (.reg (.n 1 (.call 3 (.n 5 .done)))) (.t 3 (.two (.jn [2,7,8] [2,3] [(.n,⟨[(9,.p 100100 [])],[(100100,.var 73 (.d tyApiCounter))]⟩)] (.t 3 (.two (.two (.dr 9 (.n 9 .done) (.n 1 .done)) (.dr 9 (.n 9 .done) (.n 1 .done))) (.nil)))) (.two (.two (.reg (.n 1 (.call 2 (.n 1 .done)))) (.two (.gh (.tl .done) .nil) (.nil))) (.t 5 (.two (.t 8 (.t 5 (.gh (.tl .done) .nil))) (.t 7 (.nil)))))))))))
def in_Z78:Shp:=⟨[(0,.d (.sl tyApiCounter)),(1,.d tyApiCounter)],[]⟩
def out_Z78:Shp:=⟨[(0,.s 1),(1,.d .i)],[(1,.row 73 tyApiCounter)]⟩
def an_Z58:An:=.t 1 (.two (.dm 27 [9,10,11,12,13,14,15,16,17,18,19,20,21,22,23,24,25,26,27,28,8,29,30,31,3,1000000025,4] [] (.n 19 (.call 0 (.n 7 (.tl (.n 1 .done)))))) (.two (.dc 30 [33,34,35,36,37,38,39,40,41,42,43,44,45,46,47,48,49,50,51,52,53,54,55,56,57,58,32,59,60,6] [3,5000] [] (.op ⟨.nl 1 .done,[],[],[],[3]⟩ (.op ⟨.nl 1 .done,[],[3],[],[]⟩ (.op ⟨.nl 1 .done,[],[],[],[5000]⟩ (.op ⟨.nl 1 .done,[],[5000],[],[5000]⟩ (.op ⟨.nl 1 .done,[],[],[],[5000]⟩ (.op ⟨.nl 1 .done,[],[],[],[5000]⟩ (.op ⟨.nl 1 .done,[],[5000],[],[]⟩ (.op ⟨.nl 1 .done,[],[],[],[5000]⟩ (.op ⟨.nl 1 .done,[],[5000],[],[5000]⟩ (.op ⟨.nl 1 .done,[],[],[],[5000]⟩ (.op ⟨.nl 1 .done,[],[],[],[5000]⟩ (.op ⟨.nl 1 .done,[],[5000],[],[]⟩ (.op ⟨.nl 1 .done,[],[],[],[5000]⟩ (.op ⟨.call 1 (.done),[],[5000],[],[]⟩ (.op ⟨.nl 1 .done,[],[],[],[5000]⟩ (.op ⟨.nl 1 .done,[],[5000],[],[5000]⟩ (.op ⟨.nl 1 .done,[],[],[],[5000]⟩ (.op ⟨.nl 1 .done,[],[],[],[5000]⟩ (.op ⟨.nl 1 .done,[],[5000],[],[]⟩ (.op ⟨.nl 1 .done,[],[],[],[5000]⟩ (.op ⟨.nl 1 .done,[],[5000],[],[5000]⟩ (.op ⟨.nl 1 .done,[],[],[],[5000]⟩ (.op ⟨.nl 1 .done,[],[],[],[5000]⟩ (.op ⟨.nl 1 .done,[],[5000],[],[]⟩ (.op ⟨.nl 1 .done,[],[],[],[]⟩ (.op ⟨.call 2 (.done),[],[],[15801],[15801]⟩ (.op ⟨.nl 1 .done,[],[],[],[15801]⟩ (.op ⟨.nl 1 .done,[],[],[],[15801]⟩ (.op ⟨.nl 1 .done,[],[],[],[]⟩ (.op ⟨.nl 1 .done,[],[],[],[15801]⟩ (.tl (.n 1 .done))))))))))))))))))))))))))))))))) (.two (.t 2 (.two (.gh (.tl .done) .nil) (.nil))) (.t 3 (.t 5 (.t 12 (.t 1 (.nil))))))))
def in_Z58:Shp:=⟨[(0,.p 5000 [])],[(5000,.var 114 (.d tyRateJob))]⟩
def out_Z58:Shp:=⟨[(0,.d .i)],[(5000,.var 114 (.ag (.cons (.d tyApiBook) (.cons (.ag (.cons (.d (.sl tyApiBucket)) (.cons (.d (.sl tyApiWallet)) (.cons (.s 1) (.nil))))) (.cons (.d tyApiUsage) (.cons (.d tyApiSpell) (.cons (.d tyApiAccount) (.cons (.d tyApiTariff) (.cons (.d .i) (.cons (.d tyApiRated) (.nil))))))))))),(1,.row 73 tyApiCounter)]⟩
def an_Z57:An:=.t 1 (.two (.reg (.n 1 (.call 0 (.n 1 .done)))) (.nil))
def in_Z57:Shp:=⟨[(0,.p 5000 [])],[(5000,.var 99 (.p 5001 [])),(5001,.var 114 (.d tyRateJob))]⟩
def out_Z57:Shp:=⟨[(0,.d .i)],[(5001,.var 114 (.ag (.cons (.d tyApiBook) (.cons (.ag (.cons (.d (.sl tyApiBucket)) (.cons (.d (.sl tyApiWallet)) (.cons (.s 1) (.nil))))) (.cons (.d tyApiUsage) (.cons (.d tyApiSpell) (.cons (.d tyApiAccount) (.cons (.d tyApiTariff) (.cons (.d .i) (.cons (.d tyApiRated) (.nil))))))))))),(1,.row 73 tyApiCounter)]⟩
def an_Z47_k5:An:=.t 2 (.two (.reg (.n 1 (.call 0 (.n 1 .done)))) (.nil))
def in_Z47_k5:Shp:=⟨[(0,.f 57 (.cons (.p 5000 []) (.nil))),(1,.p 5002 [])],[(5000,.var 99 (.p 5001 [])),(5001,.var 114 (.d tyRateJob)),(5002,.var 24 (.d .i))]⟩
def out_Z47_k5:Shp:=⟨[],[(5001,.var 114 (.ag (.cons (.d tyApiBook) (.cons (.ag (.cons (.d (.sl tyApiBucket)) (.cons (.d (.sl tyApiWallet)) (.cons (.d (.sl tyApiCounter)) (.nil))))) (.cons (.d tyApiUsage) (.cons (.d tyApiSpell) (.cons (.d tyApiAccount) (.cons (.d tyApiTariff) (.cons (.d .i) (.cons (.d tyApiRated) (.nil))))))))))),(5002,.var 24 (.d .i))]⟩
def an_Z46:An:=.t 2 (.two (.dm 8 [6,7,8,9,10,11,12,3] [] (.n 8 (.tl (.n 1 .done)))) (.two (.t 4 (.un (.lp [2,14,15] [1,2] ⟨[(3,.p 100000 []),(16,.d .i)],[(100000,.var 57 (.ag (.cons (.s 100001) (.cons (.s 100002) (.cons (.s 100003) (.nil)))))),(100001,.row 142 tyApiBucket),(100002,.row 71 tyApiWallet),(100003,.row 73 tyApiCounter)]⟩ [(.x 0,⟨[(3,.p 100100 [])],[(100100,.var 57 (.ag (.cons (.s 100101) (.cons (.s 100102) (.cons (.s 100103) (.nil)))))),(100101,.row 142 tyApiBucket),(100102,.row 71 tyApiWallet),(100103,.row 73 tyApiCounter)]⟩)] (.t 1 (.two (.two (.nil) (.nil)) (.two (.un (.t 4 (.t 5 (.reg (.n 3 (.fz 22 (.n 4 .done))))))) (.reg (.n 2 .done)))))))) (.t 2 (.nil))))
def in_Z46:Shp:=⟨[(0,.d tyApiState)],[]⟩
def out_Z46:Shp:=⟨[(0,.d tyApiState)],[]⟩
def an_Z26_k2:An:=.t 5 (.two (.t 7 (.two (.gh (.tl .done) .nil) (.nil))) (.t 9 (.t 2 (.t 2 (.two (.reg (.n 2 (.call 0 (.done)))) (.two (.reg (.n 2 (.call 1 (.done)))) (.two (.reg (.n 2 (.call 2 (.done)))) (.two (.reg (.n 2 (.call 3 (.done)))) (.two (.reg (.n 2 (.call 4 (.done)))) (.two (.t 2 (.two (.two (.dm 6 [47,48,49,50,51,1000000005] [6] (.n 1 (.call 5 (.n 4 (.tl (.n 1 .done)))))) (.nil)) (.nil))) (.two (.dm 9 [52,53,54,55,56,57,58,59,1000000008] [6] (.n 9 (.tl (.n 1 .done)))) (.nil))))))))))))
def in_Z26_k2:Shp:=⟨[(0,.d tyApiBook),(1,.d tyApiState),(2,.d tyApiUsage)],[]⟩
def out_Z26_k2:Shp:=⟨[(0,.d tyApiState),(1,.d tyApiRated)],[]⟩
def an_Z79:An:=.t 2 (.two (.dm 8 [6,7,8,9,10,11,12,3] [] (.n 8 (.tl (.n 1 .done)))) (.two (.t 4 (.un (.lp [2,3,15,16] [1,2,3,8,11] ⟨[],[]⟩ [(.x 0,⟨[],[]⟩)] (.t 1 (.two (.two (.gh (.tl .done) .nil) (.nil)) (.nil)))))) (.t 2 (.nil))))
def in_Z79:Shp:=⟨[(0,.d tyApiState)],[]⟩
def out_Z79:Shp:=⟨[(0,.ag (.cons (.ns) (.cons (.s 1) (.cons (.s 2) (.nil)))))],[(1,.row 71 tyApiWallet),(2,.row 73 tyApiCounter)]⟩
def an_Z123:An:=.t 2 (.t 10 (.nil))
def in_Z123:Shp:=⟨[(0,.d tyApiUsage)],[]⟩
def out_Z123:Shp:=⟨[(0,.d tyHistoryKey)],[]⟩
def an_Z122:An:=.t 3 (.two (.un (.t 4 (.two (.gh (.tl .done) .nil) (.t 6 (.two (.t 6 (.nil)) (.gh (.tl .done) .nil)))))) (.nil))
def in_Z122:Shp:=⟨[(0,.d tyHistoryKey),(1,.d tyHistoryKey)],[]⟩
def out_Z122:Shp:=⟨[(0,.d .bool)],[]⟩
def an_Z80:An:=.t 1 (.two (.t 3 (.two (.t 3 (.nil)) (.nil))) (.two (.dm 11 [11,12,13,14,15,16,17,18,19,20,21] [] (.n 5 (.call 0 (.n 5 (.tl (.call 0 (.n 2 .done))))))) (.t 4 (.two (.un (.lp [] [] ⟨[(3,.d (.sl tyApiUsage)),(4,.d (.sl tyApiUsage)),(5,.s 100000)],[(100000,.row 23 tyApiUsage)]⟩ [(.x 0,⟨[(5,.s 100200)],[(100200,.row 23 tyApiUsage)]⟩)] (.two (.t 8 (.two (.nil) (.nil))) (.un (.two (.jn [3,4,5] [100000] [(.n,⟨[(53,.d .bool)],[]⟩)] (.dm 15 [34,35,36,37,38,39,40,41,42,43,44,45,46,47,48] [] (.n 4 (.so 37 (.n 11 (.tl (.nl 4 (.n 1 .done)))) (.n 4 (.so 41 (.n 3 (.call 1 (.n 3 (.tl (.call 1 (.call 2 (.nl 2 (.n 1 .done)))))))) (.n 7 (.tl (.nl 4 (.n 1 .done)))))))))) (.two (.t 7 (.reg (.n 3 .done))) (.t 7 (.reg (.n 3 .done))))))))) (.t 2 (.nil))))))
def in_Z80:Shp:=⟨[(0,.d (.sl tyApiUsage))],[]⟩
def out_Z80:Shp:=⟨[(0,.d (.sl tyApiUsage))],[]⟩
def an_Z59:An:=.t 4 (.two (.reg (.n 1 (.call 0 (.n 2 .done)))) (.t 1 (.two (.two (.reg (.n 1 (.call 1 (.n 2 .done)))) (.un (.gh (.fz 11501 (.fz 11502 (.done))) (.lp [3,6,17,18] [3,4,6] ⟨[(8,.p 100000 []),(9,.s 100001),(19,.d .i)],[(100000,.var 57 (.ag (.cons (.d (.sl tyApiBucket)) (.cons (.d (.sl tyApiWallet)) (.cons (.d (.sl tyApiCounter)) (.nil)))))),(100001,.row 29 tyApiRated)]⟩ [(.x 0,⟨[(8,.p 100100 []),(9,.s 100101)],[(100100,.var 57 (.d tyApiState)),(100101,.row 29 tyApiRated)]⟩)] (.t 1 (.two (.two (.nil) (.nil)) (.two (.un (.t 4 (.two (.reg (.n 3 (.call 2 (.n 7 .done)))) (.t 2 (.reg (.n 5 .done)))))) (.reg (.n 2 .done))))))))) (.t 4 (.nil)))))
def in_Z59:Shp:=⟨[(0,.d tyApiBook),(1,.d tyApiState),(2,.d (.sl tyApiUsage))],[]⟩
def out_Z59:Shp:=⟨[(0,.d tyApiState),(1,.s 1)],[(1,.row 29 tyApiRated)]⟩
def an_Z32:An:=.t 3 (.two (.reg (.n 3 (.call 0 (.n 4 .done)))) (.nil))
def in_Z32:Shp:=⟨[(0,.d tyApiBook),(1,.d (.sl tyApiUsage))],[]⟩
def out_Z32:Shp:=⟨[(0,.d tyApiState),(1,.d (.sl tyApiRated))],[]⟩
def an_history_Totals:An:=.t 3 (.t 3 (.two (.t 3 (.un (.lp [10,11] [] ⟨[(5,.d .i),(6,.d .i),(7,.d .i),(12,.d .i)],[]⟩ [(.x 0,⟨[(5,.d .i),(6,.d .i),(7,.d .i)],[]⟩)] (.t 1 (.two (.two (.nil) (.nil)) (.two (.un (.t 4 (.t 5 (.t 5 (.reg (.n 5 .done)))))) (.reg (.n 2 .done)))))))) (.t 6 (.nil))))
def in_history_Totals:Shp:=⟨[(0,.d (.sl tyApiRated))],[]⟩
def out_history_Totals:Shp:=⟨[(0,.d .i),(1,.d .i),(2,.d .i)],[]⟩
def an_billinglaw38_awake:An:=.t 1 (.t 3 (.t 3 (.t 2 (.t 2 (.t 2 (.two (.dm 10 [14,15,16,17,18,13,19,20,3,1000000009] [] (.call 0 (.n 3 (.call 1 (.n 5 (.tl (.n 1 .done))))))) (.two (.two (.reg (.n 10 (.sp 30 7 [3,4] [1,2,3] ⟨[(37,.d .bool)],[]⟩ (.nl 6 (.n 1 .done)) (.nl 6 (.n 1 .done)) (.n 1 (.sp 38 7 [3,4] [1,2,3] ⟨[(45,.d .bool)],[]⟩ (.nl 6 (.n 1 .done)) (.nl 6 (.n 1 .done)) (.done)))))) (.two (.gh (.tl .done) .nil) (.nil))) (.two (.reg (.n 1 (.call 2 (.n 7 .done)))) (.two (.reg (.n 7 (.sp 58 6 [3,4,5,6,7] [1,2,3] ⟨[(64,.d .bool)],[]⟩ (.nl 5 (.n 1 .done)) (.nl 5 (.n 1 .done)) (.n 1 (.sp 65 9 [3,4,5,6,7] [1,2,3] ⟨[(74,.d .bool)],[]⟩ (.nl 8 (.n 1 .done)) (.nl 8 (.n 1 .done)) (.n 1 (.sp 75 6 [3,4,5,6,7] [1,2,3] ⟨[(81,.d .bool)],[]⟩ (.nl 5 (.n 1 .done)) (.nl 5 (.n 1 .done)) (.n 1 (.sp 82 9 [3,4,5,6,7] [1,2,3] ⟨[(91,.d .bool)],[]⟩ (.nl 8 (.n 1 .done)) (.nl 8 (.n 1 .done)) (.n 13 (.sp 104 7 [3] [1,2,3] ⟨[(111,.d .bool)],[]⟩ (.nl 6 (.n 1 .done)) (.nl 6 (.n 1 .done)) (.n 1 .done)))))))))))) (.nil))))))))))
def in_billinglaw38_awake:Shp:=⟨[],[]⟩
def out_billinglaw38_awake:Shp:=⟨[(0,.d .bool)],[]⟩
def an_billingref38_Totals:An:=.t 3 (.t 3 (.two (.t 1 (.un (.lp [0] [] ⟨[(5,.d .i),(6,.d .i),(7,.d .i),(8,.d .i)],[]⟩ [(.x 0,⟨[(5,.d .i),(6,.d .i),(7,.d .i)],[]⟩)] (.two (.t 4 (.two (.nil) (.nil))) (.two (.un (.dr 24 (.n 24 .done) (.done))) (.reg (.n 3 .done))))))) (.t 6 (.nil))))
def in_billingref38_Totals:Shp:=⟨[(0,.d (.sl tyApiRated))],[]⟩
def out_billingref38_Totals:Shp:=⟨[(0,.d .i),(1,.d .i),(2,.d .i)],[]⟩
def an_billinglaw38_HistoryTotals:An:=.t 1 (.two (.t 3 (.two (.two (.reg (.call 0 (.n 1 .done))) (.nil)) (.nil))) (.two (.t 1 (.un (.lp [0] [] ⟨[(3,.d .i)],[]⟩ [(.x 0,⟨[],[]⟩),(.r,⟨[(2,.d .bool)],[]⟩)] (.two (.t 4 (.two (.nil) (.nil))) (.two (.un (.two (.reg (.n 7 (.sp 26 7 [3] [] ⟨[(33,.d .bool)],[]⟩ (.nl 6 (.n 1 .done)) (.nl 6 (.n 1 .done)) (.n 1 (.sp 34 7 [3] [] ⟨[(41,.d .bool)],[]⟩ (.nl 6 (.n 1 .done)) (.nl 6 (.n 1 .done)) (.n 1 (.sp 42 7 [3] [] ⟨[(49,.d .bool)],[]⟩ (.nl 6 (.n 1 .done)) (.nl 6 (.n 1 .done)) (.n 1 (.sp 50 7 [3] [] ⟨[(57,.d .bool)],[]⟩ (.nl 6 (.n 1 .done)) (.nl 6 (.n 1 .done)) (.n 1 (.sp 58 7 [3] [] ⟨[(65,.d .bool)],[]⟩ (.nl 6 (.n 1 .done)) (.nl 6 (.n 1 .done)) (.done)))))))))))) (.two (.two (.reg (.call 0 (.n 1 .done))) (.nil)) (.nil)))) (.reg (.n 3 .done))))))) (.two (.reg (.n 1 (.call 1 (.n 7 .done)))) (.two (.reg (.n 1 (.call 2 (.n 7 .done)))) (.two (.reg (.n 14 (.sp 92 2 [] [] ⟨[(94,.d .bool)],[]⟩ (.call 0 (.n 1 .done)) (.nl 1 (.n 1 .done)) (.n 1 .done)))) (.nil))))))
def in_billinglaw38_HistoryTotals:Shp:=⟨[(0,.d (.sl tyApiRated))],[]⟩
def out_billinglaw38_HistoryTotals:Shp:=⟨[(0,.d .bool)],[]⟩
theorem rn_Z27:Runs Tryz.prog 27:=⟨_,Tryz.func27,by decide,rfl⟩
def con_Z27 (N:Nat):Con:=⟨27,in_Z27,out_Z27,fun _=>Z27 N,[]⟩
theorem ok_Z27 (N:Nat):ConOk Tryz.prog tx.gl (con_Z27 N):=runF_ok (Y:=tx) (N:=N) (K:=[]) (an:=an_Z27) tabOk mixOk ksNil Tryz.func27 rfl (fun x=>by kernel_rfl)
theorem rn_Z205:Runs Tryz.prog 205:=⟨_,Tryz.func205,by decide,rfl⟩
def con_Z205 (N:Nat):Con:=⟨205,in_Z205,out_Z205,fun (x0,x1)=>Z205 N x0 x1,[]⟩
theorem ok_Z205 (N:Nat):ConOk Tryz.prog tx.gl (con_Z205 N):=runF_ok (Y:=tx) (N:=N) (K:=[]) (an:=an_Z205) tabOk mixOk ksNil Tryz.func205 rfl (fun x=>by kernel_rfl)
theorem rn_Z179:Runs Tryz.prog 179:=⟨_,Tryz.func179,by decide,rfl⟩
def con_Z179 (N:Nat):Con:=⟨179,in_Z179,out_Z179,fun (x0,x1)=>Z179 N x0 x1,[]⟩
theorem ok_Z179 (N:Nat):ConOk Tryz.prog tx.gl (con_Z179 N):=runF_ok (Y:=tx) (N:=N) (K:=[con_Z205 N]) (an:=an_Z179) tabOk mixOk (ksCons (ok_Z205 N) rn_Z205 ksNil) Tryz.func179 rfl (fun x=>by kernel_rfl)
theorem rn_Z125:Runs Tryz.prog 125:=⟨_,Tryz.func125,by decide,rfl⟩
def con_Z125 (N:Nat):Con:=⟨125,in_Z125,out_Z125,fun (x0,x1)=>Z125 N x0 x1,[]⟩
theorem ok_Z125 (N:Nat):ConOk Tryz.prog tx.gl (con_Z125 N):=runF_ok (Y:=tx) (N:=N) (K:=[con_Z179 N]) (an:=an_Z125) tabOk mixOk (ksCons (ok_Z179 N) rn_Z179 ksNil) Tryz.func125 rfl (fun x=>by kernel_rfl)
theorem rn_Z124:Runs Tryz.prog 124:=⟨_,Tryz.func124,by decide,rfl⟩
def con_Z124 (N:Nat):Con:=⟨124,in_Z124,out_Z124,fun x0=>Z124 N x0,[]⟩
theorem ok_Z124 (N:Nat):ConOk Tryz.prog tx.gl (con_Z124 N):=runF_ok (Y:=tx) (N:=N) (K:=[]) (an:=an_Z124) tabOk mixOk ksNil Tryz.func124 rfl (fun x=>by kernel_rfl)
theorem rn_Z82:Runs Tryz.prog 82:=⟨_,Tryz.func82,by decide,rfl⟩
def con_Z82 (N:Nat):Con:=⟨82,in_Z82,out_Z82,fun (x0,x1)=>Z82 N x0 x1,[]⟩
theorem ok_Z82 (N:Nat):ConOk Tryz.prog tx.gl (con_Z82 N):=runF_ok (Y:=tx) (N:=N) (K:=[con_Z125 N,con_Z124 N]) (an:=an_Z82) tabOk mixOk (ksCons (ok_Z125 N) rn_Z125 (ksCons (ok_Z124 N) rn_Z124 ksNil)) Tryz.func82 rfl (fun x=>by kernel_rfl)
theorem rn_Z129:Runs Tryz.prog 129:=⟨_,Tryz.func129,by decide,rfl⟩
def con_Z129 (N:Nat):Con:=⟨129,in_Z129,out_Z129,fun x0=>Z129 N x0,[]⟩
theorem ok_Z129 (N:Nat):ConOk Tryz.prog tx.gl (con_Z129 N):=runF_ok (Y:=tx) (N:=N) (K:=[]) (an:=an_Z129) tabOk mixOk ksNil Tryz.func129 rfl (fun x=>by kernel_rfl)
theorem rn_Z83:Runs Tryz.prog 83:=⟨_,Tryz.func83,by decide,rfl⟩
def con_Z83 (N:Nat):Con:=⟨83,in_Z83,out_Z83,fun (x0,x1)=>Z83 N x0 x1,[]⟩
theorem ok_Z83 (N:Nat):ConOk Tryz.prog tx.gl (con_Z83 N):=runF_ok (Y:=tx) (N:=N) (K:=[con_Z129 N]) (an:=an_Z83) tabOk mixOk (ksCons (ok_Z129 N) rn_Z129 ksNil) Tryz.func83 rfl (fun x=>by kernel_rfl)
theorem rn_Z63:Runs Tryz.prog 63:=⟨_,Tryz.func63,by decide,rfl⟩
def con_Z63 (N:Nat):Con:=⟨63,in_Z63,out_Z63,fun (x0,x1,x2)=>Z63 N x0 x1 x2,[]⟩
theorem ok_Z63 (N:Nat):ConOk Tryz.prog tx.gl (con_Z63 N):=runF_ok (Y:=tx) (N:=N) (K:=[con_Z82 N,con_Z83 N]) (an:=an_Z63) tabOk mixOk (ksCons (ok_Z82 N) rn_Z82 (ksCons (ok_Z83 N) rn_Z83 ksNil)) Tryz.func63 rfl (fun x=>by kernel_rfl)
theorem rn_Z130:Runs Tryz.prog 130:=⟨_,Tryz.func130,by decide,rfl⟩
def con_Z130 (N:Nat):Con:=⟨130,in_Z130,out_Z130,fun _=>Z130 N,[]⟩
theorem ok_Z130 (N:Nat):ConOk Tryz.prog tx.gl (con_Z130 N):=runF_ok (Y:=tx) (N:=N) (K:=[]) (an:=an_Z130) tabOk mixOk ksNil Tryz.func130 rfl (fun x=>by kernel_rfl)
theorem rn_Z131:Runs Tryz.prog 131:=⟨_,Tryz.func131,by decide,rfl⟩
def con_Z131 (N:Nat):Con:=⟨131,in_Z131,out_Z131,fun (x0,x1)=>Z131 N x0 x1,[]⟩
theorem ok_Z131 (N:Nat):ConOk Tryz.prog tx.gl (con_Z131 N):=runF_ok (Y:=tx) (N:=N) (K:=[]) (an:=an_Z131) tabOk mixOk ksNil Tryz.func131 rfl (fun x=>by kernel_rfl)
theorem rn_Z180:Runs Tryz.prog 180:=⟨_,Tryz.func180,by decide,rfl⟩
def it_Z180 (N:Nat):It:=⟨180,[(.sl tyApiEvent),(.int .i64)],tyApiEvent,fun (x1,x2)=>Z180 N x1 x2⟩
theorem iok_Z180 (N:Nat):ItOk Tryz.prog tx.gl (it_Z180 N):=iter_ok (Y:=tx) (N:=N) (K:=[]) (it:=it_Z180 N) (an:=an_Z180) tabOk mixOk ksNil Tryz.func180 rfl (fun x=>by kernel_rfl)
theorem rn_Z181:Runs Tryz.prog 181:=⟨_,Tryz.func181,by decide,rfl⟩
def con_Z181 (N:Nat):Con:=⟨181,in_Z181,out_Z181,fun (x0,x1)=>Z181 N x0 x1,[]⟩
theorem ok_Z181 (N:Nat):ConOk Tryz.prog tx.gl (con_Z181 N):=runF_ok (Y:=tx) (N:=N) (K:=[]) (an:=an_Z181) tabOk mixOk ksNil Tryz.func181 rfl (fun x=>by kernel_rfl)
theorem rn_Z207:Runs Tryz.prog 207:=⟨_,Tryz.func207,by decide,rfl⟩
def con_Z207 (N:Nat):Con:=⟨207,in_Z207,out_Z207,fun (x0,x1)=>Z207 N x0 x1,[]⟩
theorem ok_Z207 (N:Nat):ConOk Tryz.prog tx.gl (con_Z207 N):=runF_ok (Y:=tx) (N:=N) (K:=[]) (an:=an_Z207) tabOk mixOk ksNil Tryz.func207 rfl (fun x=>by kernel_rfl)
theorem rn_Z182_k2:Runs Tryz.prog 182:=⟨_,Tryz.func182,by decide,rfl⟩
def con_Z182_k2 (N:Nat):Con:=⟨182,in_Z182_k2,out_Z182_k2,fun (x1,x2,m5000_5,m5000_6,m5001,m5002,m5003,m5004,m5005)=>Z182_k2 N x1 x2 m5000_5 m5000_6 m5001 m5002 m5003 m5004 m5005,[5000,5001,5002,5003,5004,5005]⟩
theorem ok_Z182_k2 (N:Nat):ConOk Tryz.prog tx.gl (con_Z182_k2 N):=runF_ok (Y:=tx) (N:=N) (K:=[con_Z207 N]) (an:=an_Z182_k2) tabOk mixOk (ksCons (ok_Z207 N) rn_Z207 ksNil) Tryz.func182 rfl (fun x=>by kernel_rfl)
theorem rn_Z132_k2:Runs Tryz.prog 132:=⟨_,Tryz.func132,by decide,rfl⟩
def con_Z132_k2 (N:Nat):Con:=⟨132,in_Z132_k2,out_Z132_k2,fun (x1,m5000_5,m5000_6,m5001,m5002,m5003,m5004,m5005)=>Z132_k2 N x1 m5000_5 m5000_6 m5001 m5002 m5003 m5004 m5005,[]⟩
theorem ok_Z132_k2 (N:Nat):ConOk Tryz.prog tx.gl (con_Z132_k2 N):=runF_ok (Y:=tx) (N:=N) (K:=[con_Z181 N,con_Z182_k2 N]) (an:=an_Z132_k2) tabOk mixOk (ksCons (ok_Z181 N) rn_Z181 (ksCons (ok_Z182_k2 N) rn_Z182_k2 ksNil)) Tryz.func132 rfl (fun x=>by kernel_rfl)
theorem rn_Z133:Runs Tryz.prog 133:=⟨_,Tryz.func133,by decide,rfl⟩
def con_Z133 (N:Nat):Con:=⟨133,in_Z133,out_Z133,fun (m5000_5,m5000_6,m5001,m5002,m5003,m5004,m5005)=>Z133 N m5000_5 m5000_6 m5001 m5002 m5003 m5004 m5005,[5000,5001,5002,5003,5004,5005]⟩
theorem ok_Z133 (N:Nat):ConOk Tryz.prog tx.gl (con_Z133 N):=runF_ok (Y:=tx) (N:=N) (K:=[]) (an:=an_Z133) tabOk mixOk ksNil Tryz.func133 rfl (fun x=>by kernel_rfl)
theorem rn_Z84:Runs Tryz.prog 84:=⟨_,Tryz.func84,by decide,rfl⟩
def con_Z84 (N:Nat):Con:=⟨84,in_Z84,out_Z84,fun (x0,x1)=>Z84 N x0 x1,[]⟩
theorem ok_Z84 (N:Nat):ConOk Tryz.prog tx.gl (con_Z84 N):=runFR_ok (Y:=tx) (N:=N) (K:=[con_Z130 N,con_Z131 N,con_Z132_k2 N,con_Z133 N]) (its:=[it_Z180 N]) (an:=an_Z84) tabOk mixOk (ksCons (ok_Z130 N) rn_Z130 (ksCons (ok_Z131 N) rn_Z131 (ksCons (ok_Z132_k2 N) rn_Z132_k2 (ksCons (ok_Z133 N) rn_Z133 ksNil)))) (List.forall_mem_cons.2 ⟨⟨iok_Z180 N,rn_Z180⟩,(List.forall_mem_nil _)⟩) Tryz.func84 rfl (fun x=>by kernel_rfl)
theorem rn_Z64:Runs Tryz.prog 64:=⟨_,Tryz.func64,by decide,rfl⟩
def con_Z64 (N:Nat):Con:=⟨64,in_Z64,out_Z64,fun (x0,x1,x2)=>Z64 N x0 x1 x2,[]⟩
theorem ok_Z64 (N:Nat):ConOk Tryz.prog tx.gl (con_Z64 N):=runF_ok (Y:=tx) (N:=N) (K:=[con_Z84 N]) (an:=an_Z64) tabOk mixOk (ksCons (ok_Z84 N) rn_Z84 ksNil) Tryz.func64 rfl (fun x=>by kernel_rfl)
theorem rn_Z65:Runs Tryz.prog 65:=⟨_,Tryz.func65,by decide,rfl⟩
def con_Z65 (N:Nat):Con:=⟨65,in_Z65,out_Z65,fun (x0,x1,x2)=>Z65 N x0 x1 x2,[]⟩
theorem ok_Z65 (N:Nat):ConOk Tryz.prog tx.gl (con_Z65 N):=runF_ok (Y:=tx) (N:=N) (K:=[con_Z84 N]) (an:=an_Z65) tabOk mixOk (ksCons (ok_Z84 N) rn_Z84 ksNil) Tryz.func65 rfl (fun x=>by kernel_rfl)
theorem rn_Z49:Runs Tryz.prog 49:=⟨_,Tryz.func49,by decide,rfl⟩
def con_Z49 (N:Nat):Con:=⟨49,in_Z49,out_Z49,fun (m5000_0,m5000_1,m5000_2,m5000_3_0,m5000_3_1,m5000_3_3,m5000_3_4,m5000_4_0,m5000_4_1,m5000_4_2,m5000_4_3,m5000_4_4,m5000_5_0,m5000_5_1,m5000_5_2,m5000_6,m5000_7_0,m5000_7_1,m5000_7_2,m5000_7_3,m5000_7_4,m5000_7_7,m5000_7_8,m5000_7_9,m5000_7_11,m5000_7_12,m5001,m5002,m5003,m5004,m5005,m5006,m5007,m5008,m5009)=>Z49 N m5000_0 m5000_1 m5000_2 m5000_3_0 m5000_3_1 m5000_3_3 m5000_3_4 m5000_4_0 m5000_4_1 m5000_4_2 m5000_4_3 m5000_4_4 m5000_5_0 m5000_5_1 m5000_5_2 m5000_6 m5000_7_0 m5000_7_1 m5000_7_2 m5000_7_3 m5000_7_4 m5000_7_7 m5000_7_8 m5000_7_9 m5000_7_11 m5000_7_12 m5001 m5002 m5003 m5004 m5005 m5006 m5007 m5008 m5009,[]⟩
theorem ok_Z49 (N:Nat):ConOk Tryz.prog tx.gl (con_Z49 N):=runF_ok (Y:=tx) (N:=N) (K:=[con_Z63 N,con_Z64 N,con_Z65 N]) (an:=an_Z49) tabOk mixOk (ksCons (ok_Z63 N) rn_Z63 (ksCons (ok_Z64 N) rn_Z64 (ksCons (ok_Z65 N) rn_Z65 ksNil))) Tryz.func49 rfl (fun x=>by kernel_rfl)
theorem rn_Z48:Runs Tryz.prog 48:=⟨_,Tryz.func48,by decide,rfl⟩
def con_Z48 (N:Nat):Con:=⟨48,in_Z48,out_Z48,fun (m5001_0,m5001_1,m5001_2,m5001_3_0,m5001_3_1,m5001_3_3,m5001_3_4,m5001_4_0,m5001_4_1,m5001_4_2,m5001_4_3,m5001_4_4,m5001_5_0,m5001_5_1,m5001_5_2,m5001_6,m5001_7_0,m5001_7_1,m5001_7_2,m5001_7_3,m5001_7_4,m5001_7_7,m5001_7_8,m5001_7_9,m5001_7_11,m5001_7_12,m5002,m5003,m5004,m5005,m5006,m5007,m5008,m5009,m5010)=>Z48 N m5001_0 m5001_1 m5001_2 m5001_3_0 m5001_3_1 m5001_3_3 m5001_3_4 m5001_4_0 m5001_4_1 m5001_4_2 m5001_4_3 m5001_4_4 m5001_5_0 m5001_5_1 m5001_5_2 m5001_6 m5001_7_0 m5001_7_1 m5001_7_2 m5001_7_3 m5001_7_4 m5001_7_7 m5001_7_8 m5001_7_9 m5001_7_11 m5001_7_12 m5002 m5003 m5004 m5005 m5006 m5007 m5008 m5009 m5010,[5000]⟩
theorem ok_Z48 (N:Nat):ConOk Tryz.prog tx.gl (con_Z48 N):=runF_ok (Y:=tx) (N:=N) (K:=[con_Z49 N]) (an:=an_Z48) tabOk mixOk (ksCons (ok_Z49 N) rn_Z49 ksNil) Tryz.func48 rfl (fun x=>by kernel_rfl)
theorem rn_Z47:Runs Tryz.prog 47:=⟨_,Tryz.func47,by decide,rfl⟩
def con_Z47 (N:Nat):Con:=⟨47,in_Z47,out_Z47,fun (m5001_0,m5001_1,m5001_2,m5001_3_0,m5001_3_1,m5001_3_3,m5001_3_4,m5001_4_0,m5001_4_1,m5001_4_2,m5001_4_3,m5001_4_4,m5001_5_0,m5001_5_1,m5001_5_2,m5001_6,m5001_7_0,m5001_7_1,m5001_7_2,m5001_7_3,m5001_7_4,m5001_7_7,m5001_7_8,m5001_7_9,m5001_7_11,m5001_7_12,m5002,m5003,m5004,m5005,m5006,m5007,m5008,m5009,m5010,m5011)=>Z47 N m5001_0 m5001_1 m5001_2 m5001_3_0 m5001_3_1 m5001_3_3 m5001_3_4 m5001_4_0 m5001_4_1 m5001_4_2 m5001_4_3 m5001_4_4 m5001_5_0 m5001_5_1 m5001_5_2 m5001_6 m5001_7_0 m5001_7_1 m5001_7_2 m5001_7_3 m5001_7_4 m5001_7_7 m5001_7_8 m5001_7_9 m5001_7_11 m5001_7_12 m5002 m5003 m5004 m5005 m5006 m5007 m5008 m5009 m5010 m5011,[5000]⟩
theorem ok_Z47 (N:Nat):ConOk Tryz.prog tx.gl (con_Z47 N):=runF_ok (Y:=tx) (N:=N) (K:=[con_Z48 N]) (an:=an_Z47) tabOk mixOk (ksCons (ok_Z48 N) rn_Z48 ksNil) Tryz.func47 rfl (fun x=>by kernel_rfl)
theorem rn_Z134:Runs Tryz.prog 134:=⟨_,Tryz.func134,by decide,rfl⟩
def con_Z134 (N:Nat):Con:=⟨134,in_Z134,out_Z134,fun x0=>Z134 N x0,[]⟩
theorem ok_Z134 (N:Nat):ConOk Tryz.prog tx.gl (con_Z134 N):=runF_ok (Y:=tx) (N:=N) (K:=[]) (an:=an_Z134) tabOk mixOk ksNil Tryz.func134 rfl (fun x=>by kernel_rfl)
theorem rn_Z135:Runs Tryz.prog 135:=⟨_,Tryz.func135,by decide,rfl⟩
def con_Z135 (N:Nat):Con:=⟨135,in_Z135,out_Z135,fun x0=>Z135 N x0,[]⟩
theorem ok_Z135 (N:Nat):ConOk Tryz.prog tx.gl (con_Z135 N):=runF_ok (Y:=tx) (N:=N) (K:=[]) (an:=an_Z135) tabOk mixOk ksNil Tryz.func135 rfl (fun x=>by kernel_rfl)
theorem rn_Z136:Runs Tryz.prog 136:=⟨_,Tryz.func136,by decide,rfl⟩
def con_Z136 (N:Nat):Con:=⟨136,in_Z136,out_Z136,fun x0=>Z136 N x0,[]⟩
theorem ok_Z136 (N:Nat):ConOk Tryz.prog tx.gl (con_Z136 N):=runF_ok (Y:=tx) (N:=N) (K:=[]) (an:=an_Z136) tabOk mixOk ksNil Tryz.func136 rfl (fun x=>by kernel_rfl)
theorem rn_Z85:Runs Tryz.prog 85:=⟨_,Tryz.func85,by decide,rfl⟩
def con_Z85 (N:Nat):Con:=⟨85,in_Z85,out_Z85,fun x0=>Z85 N x0,[]⟩
theorem ok_Z85 (N:Nat):ConOk Tryz.prog tx.gl (con_Z85 N):=runF_ok (Y:=tx) (N:=N) (K:=[con_Z134 N,con_Z135 N,con_Z136 N]) (an:=an_Z85) tabOk mixOk (ksCons (ok_Z134 N) rn_Z134 (ksCons (ok_Z135 N) rn_Z135 (ksCons (ok_Z136 N) rn_Z136 ksNil))) Tryz.func85 rfl (fun x=>by kernel_rfl)
theorem rn_Z66:Runs Tryz.prog 66:=⟨_,Tryz.func66,by decide,rfl⟩
def con_Z66 (N:Nat):Con:=⟨66,in_Z66,out_Z66,fun (x0,x1,x2)=>Z66 N x0 x1 x2,[]⟩
theorem ok_Z66 (N:Nat):ConOk Tryz.prog tx.gl (con_Z66 N):=runF_ok (Y:=tx) (N:=N) (K:=[con_Z85 N]) (an:=an_Z66) tabOk mixOk (ksCons (ok_Z85 N) rn_Z85 ksNil) Tryz.func66 rfl (fun x=>by kernel_rfl)
theorem rn_Z138:Runs Tryz.prog 138:=⟨_,Tryz.func138,by decide,rfl⟩
def con_Z138 (N:Nat):Con:=⟨138,in_Z138,out_Z138,fun x0=>Z138 N x0,[]⟩
theorem ok_Z138 (N:Nat):ConOk Tryz.prog tx.gl (con_Z138 N):=runF_ok (Y:=tx) (N:=N) (K:=[]) (an:=an_Z138) tabOk mixOk ksNil Tryz.func138 rfl (fun x=>by kernel_rfl)
theorem rn_Z183:Runs Tryz.prog 183:=⟨_,Tryz.func183,by decide,rfl⟩
def con_Z183 (N:Nat):Con:=⟨183,in_Z183,out_Z183,fun (x0,m5000)=>Z183 N x0 m5000,[5000]⟩
theorem ok_Z183 (N:Nat):ConOk Tryz.prog tx.gl (con_Z183 N):=runF_ok (Y:=tx) (N:=N) (K:=[]) (an:=an_Z183) tabOk mixOk ksNil Tryz.func183 rfl (fun x=>by kernel_rfl)
theorem rn_Z139:Runs Tryz.prog 139:=⟨_,Tryz.func139,by decide,rfl⟩
def con_Z139 (N:Nat):Con:=⟨139,in_Z139,out_Z139,fun (x0,m5000)=>Z139 N x0 m5000,[5000]⟩
theorem ok_Z139 (N:Nat):ConOk Tryz.prog tx.gl (con_Z139 N):=runF_ok (Y:=tx) (N:=N) (K:=[con_Z183 N]) (an:=an_Z139) tabOk mixOk (ksCons (ok_Z183 N) rn_Z183 ksNil) Tryz.func139 rfl (fun x=>by kernel_rfl)
theorem rn_Z141:Runs Tryz.prog 141:=⟨_,Tryz.func141,by decide,rfl⟩
def con_Z141 (N:Nat):Con:=⟨141,in_Z141,out_Z141,fun x0=>Z141 N x0,[]⟩
theorem ok_Z141 (N:Nat):ConOk Tryz.prog tx.gl (con_Z141 N):=runF_ok (Y:=tx) (N:=N) (K:=[]) (an:=an_Z141) tabOk mixOk ksNil Tryz.func141 rfl (fun x=>by kernel_rfl)
theorem rn_Z87:Runs Tryz.prog 87:=⟨_,Tryz.func87,by decide,rfl⟩
def con_Z87 (N:Nat):Con:=⟨87,in_Z87,out_Z87,fun x0=>Z87 N x0,[]⟩
theorem ok_Z87 (N:Nat):ConOk Tryz.prog tx.gl (con_Z87 N):=runF_ok (Y:=tx) (N:=N) (K:=[con_Z141 N]) (an:=an_Z87) tabOk mixOk (ksCons (ok_Z141 N) rn_Z141 ksNil) Tryz.func87 rfl (fun x=>by kernel_rfl)
theorem rn_Z86:Runs Tryz.prog 86:=⟨_,Tryz.func86,by decide,rfl⟩
def con_Z86 (N:Nat):Con:=⟨86,in_Z86,out_Z86,fun x0=>Z86 N x0,[]⟩
theorem ok_Z86 (N:Nat):ConOk Tryz.prog tx.gl (con_Z86 N):=runF_ok (Y:=tx) (N:=N) (K:=[con_Z138 N,con_Z139 N,con_Z87 N]) (an:=an_Z86) tabOk mixOk (ksCons (ok_Z138 N) rn_Z138 (ksCons (ok_Z139 N) rn_Z139 (ksCons (ok_Z87 N) rn_Z87 ksNil))) Tryz.func86 rfl (fun x=>by kernel_rfl)
theorem rn_Z88:Runs Tryz.prog 88:=⟨_,Tryz.func88,by decide,rfl⟩
def con_Z88 (N:Nat):Con:=⟨88,in_Z88,out_Z88,fun (x1,x2,m5000)=>Z88 N x1 x2 m5000,[5000]⟩
theorem ok_Z88 (N:Nat):ConOk Tryz.prog tx.gl (con_Z88 N):=runF_ok (Y:=tx) (N:=N) (K:=[]) (an:=an_Z88) tabOk mixOk ksNil Tryz.func88 rfl (fun x=>by kernel_rfl)
theorem rn_Z67:Runs Tryz.prog 67:=⟨_,Tryz.func67,by decide,rfl⟩
def con_Z67 (N:Nat):Con:=⟨67,in_Z67,out_Z67,fun (x0,x1)=>Z67 N x0 x1,[]⟩
theorem ok_Z67 (N:Nat):ConOk Tryz.prog tx.gl (con_Z67 N):=runF_ok (Y:=tx) (N:=N) (K:=[con_Z86 N,con_Z87 N,con_Z88 N]) (an:=an_Z67) tabOk mixOk (ksCons (ok_Z86 N) rn_Z86 (ksCons (ok_Z87 N) rn_Z87 (ksCons (ok_Z88 N) rn_Z88 ksNil))) Tryz.func67 rfl (fun x=>by kernel_rfl)
theorem rn_Z51:Runs Tryz.prog 51:=⟨_,Tryz.func51,by decide,rfl⟩
def con_Z51 (N:Nat):Con:=⟨51,in_Z51,out_Z51,fun (m5000_0,m5000_1,m5000_2,m5000_3,m5000_4,m5000_5_0,m5000_5_1,m5000_5_2,m5000_6,m5000_7_0,m5000_7_1,m5000_7_2,m5000_7_3,m5000_7_4,m5000_7_7,m5000_7_8,m5000_7_9,m5000_7_11,m5000_7_12,m5001,m5002,m5003,m5004,m5005,m5006,m5007)=>Z51 N m5000_0 m5000_1 m5000_2 m5000_3 m5000_4 m5000_5_0 m5000_5_1 m5000_5_2 m5000_6 m5000_7_0 m5000_7_1 m5000_7_2 m5000_7_3 m5000_7_4 m5000_7_7 m5000_7_8 m5000_7_9 m5000_7_11 m5000_7_12 m5001 m5002 m5003 m5004 m5005 m5006 m5007,[5001,5002,5003,5004]⟩
theorem ok_Z51 (N:Nat):ConOk Tryz.prog tx.gl (con_Z51 N):=runF_ok (Y:=tx) (N:=N) (K:=[con_Z66 N,con_Z67 N]) (an:=an_Z51) tabOk mixOk (ksCons (ok_Z66 N) rn_Z66 (ksCons (ok_Z67 N) rn_Z67 ksNil)) Tryz.func51 rfl (fun x=>by kernel_rfl)
theorem rn_Z50:Runs Tryz.prog 50:=⟨_,Tryz.func50,by decide,rfl⟩
def con_Z50 (N:Nat):Con:=⟨50,in_Z50,out_Z50,fun (m5001_0,m5001_1,m5001_2,m5001_3,m5001_4,m5001_5_0,m5001_5_1,m5001_5_2,m5001_6,m5001_7_0,m5001_7_1,m5001_7_2,m5001_7_3,m5001_7_4,m5001_7_7,m5001_7_8,m5001_7_9,m5001_7_11,m5001_7_12,m5002,m5003,m5004,m5005,m5006,m5007,m5008)=>Z50 N m5001_0 m5001_1 m5001_2 m5001_3 m5001_4 m5001_5_0 m5001_5_1 m5001_5_2 m5001_6 m5001_7_0 m5001_7_1 m5001_7_2 m5001_7_3 m5001_7_4 m5001_7_7 m5001_7_8 m5001_7_9 m5001_7_11 m5001_7_12 m5002 m5003 m5004 m5005 m5006 m5007 m5008,[5000,5002,5003,5004,5005]⟩
theorem ok_Z50 (N:Nat):ConOk Tryz.prog tx.gl (con_Z50 N):=runF_ok (Y:=tx) (N:=N) (K:=[con_Z51 N]) (an:=an_Z50) tabOk mixOk (ksCons (ok_Z51 N) rn_Z51 ksNil) Tryz.func50 rfl (fun x=>by kernel_rfl)
theorem rn_Z47_k2:Runs Tryz.prog 47:=⟨_,Tryz.func47,by decide,rfl⟩
def con_Z47_k2 (N:Nat):Con:=⟨47,in_Z47_k2,out_Z47_k2,fun (m5001_0,m5001_1,m5001_2,m5001_3,m5001_4,m5001_5_0,m5001_5_1,m5001_5_2,m5001_6,m5001_7_0,m5001_7_1,m5001_7_2,m5001_7_3,m5001_7_4,m5001_7_7,m5001_7_8,m5001_7_9,m5001_7_11,m5001_7_12,m5002,m5003,m5004,m5005,m5006,m5007,m5008,m5009)=>Z47_k2 N m5001_0 m5001_1 m5001_2 m5001_3 m5001_4 m5001_5_0 m5001_5_1 m5001_5_2 m5001_6 m5001_7_0 m5001_7_1 m5001_7_2 m5001_7_3 m5001_7_4 m5001_7_7 m5001_7_8 m5001_7_9 m5001_7_11 m5001_7_12 m5002 m5003 m5004 m5005 m5006 m5007 m5008 m5009,[5000]⟩
theorem ok_Z47_k2 (N:Nat):ConOk Tryz.prog tx.gl (con_Z47_k2 N):=runF_ok (Y:=tx) (N:=N) (K:=[con_Z50 N]) (an:=an_Z47_k2) tabOk mixOk (ksCons (ok_Z50 N) rn_Z50 ksNil) Tryz.func47 rfl (fun x=>by kernel_rfl)
theorem rn_Z142:Runs Tryz.prog 142:=⟨_,Tryz.func142,by decide,rfl⟩
def con_Z142 (N:Nat):Con:=⟨142,in_Z142,out_Z142,fun x0=>Z142 N x0,[]⟩
theorem ok_Z142 (N:Nat):ConOk Tryz.prog tx.gl (con_Z142 N):=runF_ok (Y:=tx) (N:=N) (K:=[]) (an:=an_Z142) tabOk mixOk ksNil Tryz.func142 rfl (fun x=>by kernel_rfl)
theorem rn_Z89:Runs Tryz.prog 89:=⟨_,Tryz.func89,by decide,rfl⟩
def con_Z89 (N:Nat):Con:=⟨89,in_Z89,out_Z89,fun x0=>Z89 N x0,[]⟩
theorem ok_Z89 (N:Nat):ConOk Tryz.prog tx.gl (con_Z89 N):=runF_ok (Y:=tx) (N:=N) (K:=[con_Z142 N]) (an:=an_Z89) tabOk mixOk (ksCons (ok_Z142 N) rn_Z142 ksNil) Tryz.func89 rfl (fun x=>by kernel_rfl)
theorem rn_Z90:Runs Tryz.prog 90:=⟨_,Tryz.func90,by decide,rfl⟩
def con_Z90 (N:Nat):Con:=⟨90,in_Z90,out_Z90,fun (x0,x1,x2)=>Z90 N x0 x1 x2,[]⟩
theorem ok_Z90 (N:Nat):ConOk Tryz.prog tx.gl (con_Z90 N):=runF_ok (Y:=tx) (N:=N) (K:=[]) (an:=an_Z90) tabOk mixOk ksNil Tryz.func90 rfl (fun x=>by kernel_rfl)
theorem rn_Z115:Runs Tryz.prog 115:=⟨_,Tryz.func115,by decide,rfl⟩
def con_Z115 (N:Nat):Con:=⟨115,in_Z115,out_Z115,fun x0=>Z115 N x0,[]⟩
theorem ok_Z115 (N:Nat):ConOk Tryz.prog tx.gl (con_Z115 N):=runF_ok (Y:=tx) (N:=N) (K:=[]) (an:=an_Z115) tabOk mixOk ksNil Tryz.func115 rfl (fun x=>by kernel_rfl)
theorem rn_Z91:Runs Tryz.prog 91:=⟨_,Tryz.func91,by decide,rfl⟩
def con_Z91 (N:Nat):Con:=⟨91,in_Z91,out_Z91,fun (x0,x1)=>Z91 N x0 x1,[]⟩
theorem ok_Z91 (N:Nat):ConOk Tryz.prog tx.gl (con_Z91 N):=runF_ok (Y:=tx) (N:=N) (K:=[con_Z115 N]) (an:=an_Z91) tabOk mixOk (ksCons (ok_Z115 N) rn_Z115 ksNil) Tryz.func91 rfl (fun x=>by kernel_rfl)
theorem rn_Z145:Runs Tryz.prog 145:=⟨_,Tryz.func145,by decide,rfl⟩
def con_Z145 (N:Nat):Con:=⟨145,in_Z145,out_Z145,fun (x0,x1,x2)=>Z145 N x0 x1 x2,[]⟩
theorem ok_Z145 (N:Nat):ConOk Tryz.prog tx.gl (con_Z145 N):=runF_ok (Y:=tx) (N:=N) (K:=[]) (an:=an_Z145) tabOk mixOk ksNil Tryz.func145 rfl (fun x=>by kernel_rfl)
theorem rn_Z146:Runs Tryz.prog 146:=⟨_,Tryz.func146,by decide,rfl⟩
def con_Z146 (N:Nat):Con:=⟨146,in_Z146,out_Z146,fun x0=>Z146 N x0,[]⟩
theorem ok_Z146 (N:Nat):ConOk Tryz.prog tx.gl (con_Z146 N):=runF_ok (Y:=tx) (N:=N) (K:=[]) (an:=an_Z146) tabOk mixOk ksNil Tryz.func146 rfl (fun x=>by kernel_rfl)
theorem rn_Z143:Runs Tryz.prog 143:=⟨_,Tryz.func143,by decide,rfl⟩
def con_Z143 (N:Nat):Con:=⟨143,in_Z143,out_Z143,fun x0=>Z143 N x0,[]⟩
theorem ok_Z143 (N:Nat):ConOk Tryz.prog tx.gl (con_Z143 N):=runF_ok (Y:=tx) (N:=N) (K:=[con_Z145 N,con_Z146 N]) (an:=an_Z143) tabOk mixOk (ksCons (ok_Z145 N) rn_Z145 (ksCons (ok_Z146 N) rn_Z146 ksNil)) Tryz.func143 rfl (fun x=>by kernel_rfl)
theorem rn_Z93:Runs Tryz.prog 93:=⟨_,Tryz.func93,by decide,rfl⟩
def con_Z93 (N:Nat):Con:=⟨93,in_Z93,out_Z93,fun (x0,x1)=>Z93 N x0 x1,[]⟩
theorem ok_Z93 (N:Nat):ConOk Tryz.prog tx.gl (con_Z93 N):=runF_ok (Y:=tx) (N:=N) (K:=[con_Z143 N,con_Z145 N,con_Z146 N]) (an:=an_Z93) tabOk mixOk (ksCons (ok_Z143 N) rn_Z143 (ksCons (ok_Z145 N) rn_Z145 (ksCons (ok_Z146 N) rn_Z146 ksNil))) Tryz.func93 rfl (fun x=>by kernel_rfl)
theorem rn_Z92:Runs Tryz.prog 92:=⟨_,Tryz.func92,by decide,rfl⟩
def con_Z92 (N:Nat):Con:=⟨92,in_Z92,out_Z92,fun (x0,x1,m5000)=>Z92 N x0 x1 m5000,[]⟩
theorem ok_Z92 (N:Nat):ConOk Tryz.prog tx.gl (con_Z92 N):=runF_ok (Y:=tx) (N:=N) (K:=[]) (an:=an_Z92) tabOk mixOk ksNil Tryz.func92 rfl (fun x=>by kernel_rfl)
theorem rn_Z68:Runs Tryz.prog 68:=⟨_,Tryz.func68,by decide,rfl⟩
def con_Z68 (N:Nat):Con:=⟨68,in_Z68,out_Z68,fun (x0,x1,x2,x3)=>Z68 N x0 x1 x2 x3,[]⟩
theorem ok_Z68 (N:Nat):ConOk Tryz.prog tx.gl (con_Z68 N):=runF_ok (Y:=tx) (N:=N) (K:=[con_Z89 N,con_Z90 N,con_Z91 N,con_Z93 N,con_Z92 N]) (an:=an_Z68) tabOk mixOk (ksCons (ok_Z89 N) rn_Z89 (ksCons (ok_Z90 N) rn_Z90 (ksCons (ok_Z91 N) rn_Z91 (ksCons (ok_Z93 N) rn_Z93 (ksCons (ok_Z92 N) rn_Z92 ksNil))))) Tryz.func68 rfl (fun x=>by kernel_rfl)
theorem rn_Z95:Runs Tryz.prog 95:=⟨_,Tryz.func95,by decide,rfl⟩
def con_Z95 (N:Nat):Con:=⟨95,in_Z95,out_Z95,fun x0=>Z95 N x0,[]⟩
theorem ok_Z95 (N:Nat):ConOk Tryz.prog tx.gl (con_Z95 N):=runF_ok (Y:=tx) (N:=N) (K:=[]) (an:=an_Z95) tabOk mixOk ksNil Tryz.func95 rfl (fun x=>by kernel_rfl)
theorem rn_Z95_k2:Runs Tryz.prog 95:=⟨_,Tryz.func95,by decide,rfl⟩
def con_Z95_k2 (N:Nat):Con:=⟨95,in_Z95_k2,out_Z95_k2,fun x0=>Z95_k2 N x0,[]⟩
theorem ok_Z95_k2 (N:Nat):ConOk Tryz.prog tx.gl (con_Z95_k2 N):=runF_ok (Y:=tx) (N:=N) (K:=[]) (an:=an_Z95_k2) tabOk mixOk ksNil Tryz.func95 rfl (fun x=>by kernel_rfl)
theorem rn_Z96:Runs Tryz.prog 96:=⟨_,Tryz.func96,by decide,rfl⟩
def con_Z96 (N:Nat):Con:=⟨96,in_Z96,out_Z96,fun x0=>Z96 N x0,[]⟩
theorem ok_Z96 (N:Nat):ConOk Tryz.prog tx.gl (con_Z96 N):=runF_ok (Y:=tx) (N:=N) (K:=[]) (an:=an_Z96) tabOk mixOk ksNil Tryz.func96 rfl (fun x=>by kernel_rfl)
theorem rn_Z97:Runs Tryz.prog 97:=⟨_,Tryz.func97,by decide,rfl⟩
def con_Z97 (N:Nat):Con:=⟨97,in_Z97,out_Z97,fun (x0,x1)=>Z97 N x0 x1,[]⟩
theorem ok_Z97 (N:Nat):ConOk Tryz.prog tx.gl (con_Z97 N):=runF_ok (Y:=tx) (N:=N) (K:=[]) (an:=an_Z97) tabOk mixOk ksNil Tryz.func97 rfl (fun x=>by kernel_rfl)
theorem rn_Z185:Runs Tryz.prog 185:=⟨_,Tryz.func185,by decide,rfl⟩
def con_Z185 (N:Nat):Con:=⟨185,in_Z185,out_Z185,fun (x0,m5000)=>Z185 N x0 m5000,[5000]⟩
theorem ok_Z185 (N:Nat):ConOk Tryz.prog tx.gl (con_Z185 N):=runF_ok (Y:=tx) (N:=N) (K:=[]) (an:=an_Z185) tabOk mixOk ksNil Tryz.func185 rfl (fun x=>by kernel_rfl)
theorem rn_Z209:Runs Tryz.prog 209:=⟨_,Tryz.func209,by decide,rfl⟩
def con_Z209 (N:Nat):Con:=⟨209,in_Z209,out_Z209,fun x0=>Z209 N x0,[]⟩
theorem ok_Z209 (N:Nat):ConOk Tryz.prog tx.gl (con_Z209 N):=runF_ok (Y:=tx) (N:=N) (K:=[]) (an:=an_Z209) tabOk mixOk ksNil Tryz.func209 rfl (fun x=>by kernel_rfl)
theorem rn_Z184:Runs Tryz.prog 184:=⟨_,Tryz.func184,by decide,rfl⟩
def con_Z184 (N:Nat):Con:=⟨184,in_Z184,out_Z184,fun (x0,x1,m5000)=>Z184 N x0 x1 m5000,[5000]⟩
theorem ok_Z184 (N:Nat):ConOk Tryz.prog tx.gl (con_Z184 N):=runF_ok (Y:=tx) (N:=N) (K:=[con_Z82 N,con_Z185 N,con_Z209 N]) (an:=an_Z184) tabOk mixOk (ksCons (ok_Z82 N) rn_Z82 (ksCons (ok_Z185 N) rn_Z185 (ksCons (ok_Z209 N) rn_Z209 ksNil))) Tryz.func184 rfl (fun x=>by kernel_rfl)
theorem rn_Z147:Runs Tryz.prog 147:=⟨_,Tryz.func147,by decide,rfl⟩
def con_Z147 (N:Nat):Con:=⟨147,in_Z147,out_Z147,fun (x0,x1,x2)=>Z147 N x0 x1 x2,[]⟩
theorem ok_Z147 (N:Nat):ConOk Tryz.prog tx.gl (con_Z147 N):=runF_ok (Y:=tx) (N:=N) (K:=[con_Z184 N]) (an:=an_Z147) tabOk mixOk (ksCons (ok_Z184 N) rn_Z184 ksNil) Tryz.func147 rfl (fun x=>by kernel_rfl)
theorem rn_Z98:Runs Tryz.prog 98:=⟨_,Tryz.func98,by decide,rfl⟩
def con_Z98 (N:Nat):Con:=⟨98,in_Z98,out_Z98,fun (x0,x1)=>Z98 N x0 x1,[]⟩
theorem ok_Z98 (N:Nat):ConOk Tryz.prog tx.gl (con_Z98 N):=runF_ok (Y:=tx) (N:=N) (K:=[con_Z147 N]) (an:=an_Z98) tabOk mixOk (ksCons (ok_Z147 N) rn_Z147 ksNil) Tryz.func98 rfl (fun x=>by kernel_rfl)
theorem rn_Z150:Runs Tryz.prog 150:=⟨_,Tryz.func150,by decide,rfl⟩
def con_Z150 (N:Nat):Con:=⟨150,in_Z150,out_Z150,fun (x0,x1)=>Z150 N x0 x1,[]⟩
theorem ok_Z150 (N:Nat):ConOk Tryz.prog tx.gl (con_Z150 N):=runF_ok (Y:=tx) (N:=N) (K:=[con_Z129 N]) (an:=an_Z150) tabOk mixOk (ksCons (ok_Z129 N) rn_Z129 ksNil) Tryz.func150 rfl (fun x=>by kernel_rfl)
theorem rn_Z221:Runs Tryz.prog 221:=⟨_,Tryz.func221,by decide,rfl⟩
def con_Z221 (N:Nat):Con:=⟨221,in_Z221,out_Z221,fun x0=>Z221 N x0,[]⟩
theorem ok_Z221 (N:Nat):ConOk Tryz.prog tx.gl (con_Z221 N):=runF_ok (Y:=tx) (N:=N) (K:=[]) (an:=an_Z221) tabOk mixOk ksNil Tryz.func221 rfl (fun x=>by kernel_rfl)
theorem rn_Z233:Runs Tryz.prog 233:=⟨_,Tryz.func233,by decide,rfl⟩
def con_Z233 (N:Nat):Con:=⟨233,in_Z233,out_Z233,fun x0=>Z233 N x0,[]⟩
theorem ok_Z233 (N:Nat):ConOk Tryz.prog tx.gl (con_Z233 N):=runF_ok (Y:=tx) (N:=N) (K:=[]) (an:=an_Z233) tabOk mixOk ksNil Tryz.func233 rfl (fun x=>by kernel_rfl)
theorem rn_Z222:Runs Tryz.prog 222:=⟨_,Tryz.func222,by decide,rfl⟩
def con_Z222 (N:Nat):Con:=⟨222,in_Z222,out_Z222,fun (x0,x1)=>Z222 N x0 x1,[]⟩
theorem ok_Z222 (N:Nat):ConOk Tryz.prog tx.gl (con_Z222 N):=runF_ok (Y:=tx) (N:=N) (K:=[con_Z233 N]) (an:=an_Z222) tabOk mixOk (ksCons (ok_Z233 N) rn_Z233 ksNil) Tryz.func222 rfl (fun x=>by kernel_rfl)
theorem rn_Z196:Runs Tryz.prog 196:=⟨_,Tryz.func196,by decide,rfl⟩
def con_Z196 (N:Nat):Con:=⟨196,in_Z196,out_Z196,fun x0=>Z196 N x0,[]⟩
theorem ok_Z196 (N:Nat):ConOk Tryz.prog tx.gl (con_Z196 N):=runF_ok (Y:=tx) (N:=N) (K:=[con_Z221 N,con_Z222 N]) (an:=an_Z196) tabOk mixOk (ksCons (ok_Z221 N) rn_Z221 (ksCons (ok_Z222 N) rn_Z222 ksNil)) Tryz.func196 rfl (fun x=>by kernel_rfl)
theorem rn_Z167:Runs Tryz.prog 167:=⟨_,Tryz.func167,by decide,rfl⟩
def con_Z167 (N:Nat):Con:=⟨167,in_Z167,out_Z167,fun (x0,x1)=>Z167 N x0 x1,[]⟩
theorem ok_Z167 (N:Nat):ConOk Tryz.prog tx.gl (con_Z167 N):=runF_ok (Y:=tx) (N:=N) (K:=[con_Z196 N]) (an:=an_Z167) tabOk mixOk (ksCons (ok_Z196 N) rn_Z196 ksNil) Tryz.func167 rfl (fun x=>by kernel_rfl)
theorem rn_Z232:Runs Tryz.prog 232:=⟨_,Tryz.func232,by decide,rfl⟩
def con_Z232 (N:Nat):Con:=⟨232,in_Z232,out_Z232,fun (x0,x1)=>Z232 N x0 x1,[]⟩
theorem ok_Z232 (N:Nat):ConOk Tryz.prog tx.gl (con_Z232 N):=runF_ok (Y:=tx) (N:=N) (K:=[con_Z222 N]) (an:=an_Z232) tabOk mixOk (ksCons (ok_Z222 N) rn_Z222 ksNil) Tryz.func232 rfl (fun x=>by kernel_rfl)
theorem rn_Z220:Runs Tryz.prog 220:=⟨_,Tryz.func220,by decide,rfl⟩
def con_Z220 (N:Nat):Con:=⟨220,in_Z220,out_Z220,fun x0=>Z220 N x0,[]⟩
theorem ok_Z220 (N:Nat):ConOk Tryz.prog tx.gl (con_Z220 N):=runF_ok (Y:=tx) (N:=N) (K:=[con_Z232 N,con_Z221 N,con_Z222 N]) (an:=an_Z220) tabOk mixOk (ksCons (ok_Z232 N) rn_Z232 (ksCons (ok_Z221 N) rn_Z221 (ksCons (ok_Z222 N) rn_Z222 ksNil))) Tryz.func220 rfl (fun x=>by kernel_rfl)
theorem rn_Z195:Runs Tryz.prog 195:=⟨_,Tryz.func195,by decide,rfl⟩
def con_Z195 (N:Nat):Con:=⟨195,in_Z195,out_Z195,fun (x0,x1)=>Z195 N x0 x1,[]⟩
theorem ok_Z195 (N:Nat):ConOk Tryz.prog tx.gl (con_Z195 N):=runF_ok (Y:=tx) (N:=N) (K:=[con_Z220 N]) (an:=an_Z195) tabOk mixOk (ksCons (ok_Z220 N) rn_Z220 ksNil) Tryz.func195 rfl (fun x=>by kernel_rfl)
theorem rn_Z166:Runs Tryz.prog 166:=⟨_,Tryz.func166,by decide,rfl⟩
def con_Z166 (N:Nat):Con:=⟨166,in_Z166,out_Z166,fun (x0,x1)=>Z166 N x0 x1,[]⟩
theorem ok_Z166 (N:Nat):ConOk Tryz.prog tx.gl (con_Z166 N):=runF_ok (Y:=tx) (N:=N) (K:=[con_Z195 N]) (an:=an_Z166) tabOk mixOk (ksCons (ok_Z195 N) rn_Z195 ksNil) Tryz.func166 rfl (fun x=>by kernel_rfl)
theorem rn_Z151:Runs Tryz.prog 151:=⟨_,Tryz.func151,by decide,rfl⟩
def con_Z151 (N:Nat):Con:=⟨151,in_Z151,out_Z151,fun (x0,x1)=>Z151 N x0 x1,[]⟩
theorem ok_Z151 (N:Nat):ConOk Tryz.prog tx.gl (con_Z151 N):=runF_ok (Y:=tx) (N:=N) (K:=[con_Z167 N,con_Z166 N]) (an:=an_Z151) tabOk mixOk (ksCons (ok_Z167 N) rn_Z167 (ksCons (ok_Z166 N) rn_Z166 ksNil)) Tryz.func151 rfl (fun x=>by kernel_rfl)
theorem rn_Z151_k2:Runs Tryz.prog 151:=⟨_,Tryz.func151,by decide,rfl⟩
def con_Z151_k2 (N:Nat):Con:=⟨151,in_Z151_k2,out_Z151_k2,fun (x0,x1)=>Z151_k2 N x0 x1,[]⟩
theorem ok_Z151_k2 (N:Nat):ConOk Tryz.prog tx.gl (con_Z151_k2 N):=runF_ok (Y:=tx) (N:=N) (K:=[con_Z167 N,con_Z166 N]) (an:=an_Z151_k2) tabOk mixOk (ksCons (ok_Z167 N) rn_Z167 (ksCons (ok_Z166 N) rn_Z166 ksNil)) Tryz.func151 rfl (fun x=>by kernel_rfl)
theorem rn_Z149_k2:Runs Tryz.prog 149:=⟨_,Tryz.func149,by decide,rfl⟩
def con_Z149_k2 (N:Nat):Con:=⟨149,in_Z149_k2,out_Z149_k2,fun (x0,m5000,m5002,m5003)=>Z149_k2 N x0 m5000 m5002 m5003,[5000,5003]⟩
theorem ok_Z149_k2 (N:Nat):ConOk Tryz.prog tx.gl (con_Z149_k2 N):=runF_ok (Y:=tx) (N:=N) (K:=[con_Z150 N,con_Z151 N]) (an:=an_Z149_k2) tabOk mixOk (ksCons (ok_Z150 N) rn_Z150 (ksCons (ok_Z151 N) rn_Z151 ksNil)) Tryz.func149 rfl (fun x=>by kernel_rfl)
theorem rn_Z212:Runs Tryz.prog 212:=⟨_,Tryz.func212,by decide,rfl⟩
def con_Z212 (N:Nat):Con:=⟨212,in_Z212,out_Z212,fun (x0,x1,m5001)=>Z212 N x0 x1 m5001,[]⟩
theorem ok_Z212 (N:Nat):ConOk Tryz.prog tx.gl (con_Z212 N):=runF_ok (Y:=tx) (N:=N) (K:=[con_Z129 N]) (an:=an_Z212) tabOk mixOk (ksCons (ok_Z129 N) rn_Z129 ksNil) Tryz.func212 rfl (fun x=>by kernel_rfl)
theorem rn_Z212_k2:Runs Tryz.prog 212:=⟨_,Tryz.func212,by decide,rfl⟩
def con_Z212_k2 (N:Nat):Con:=⟨212,in_Z212_k2,out_Z212_k2,fun (x0,x1,m5001)=>Z212_k2 N x0 x1 m5001,[]⟩
theorem ok_Z212_k2 (N:Nat):ConOk Tryz.prog tx.gl (con_Z212_k2 N):=runF_ok (Y:=tx) (N:=N) (K:=[con_Z129 N]) (an:=an_Z212_k2) tabOk mixOk (ksCons (ok_Z129 N) rn_Z129 ksNil) Tryz.func212 rfl (fun x=>by kernel_rfl)
theorem rn_Z248:Runs Tryz.prog 248:=⟨_,Tryz.func248,by decide,rfl⟩
def con_Z248 (N:Nat):Con:=⟨248,in_Z248,out_Z248,fun x0=>Z248 N x0,[]⟩
theorem ok_Z248 (N:Nat):ConOk Tryz.prog tx.gl (con_Z248 N):=runF_ok (Y:=tx) (N:=N) (K:=[]) (an:=an_Z248) tabOk mixOk ksNil Tryz.func248 rfl (fun x=>by kernel_rfl)
theorem rn_Z229:Runs Tryz.prog 229:=⟨_,Tryz.func229,by decide,rfl⟩
def con_Z229 (N:Nat):Con:=⟨229,in_Z229,out_Z229,fun x0=>Z229 N x0,[]⟩
theorem ok_Z229 (N:Nat):ConOk Tryz.prog tx.gl (con_Z229 N):=runF_ok (Y:=tx) (N:=N) (K:=[con_Z248 N]) (an:=an_Z229) tabOk mixOk (ksCons (ok_Z248 N) rn_Z248 ksNil) Tryz.func229 rfl (fun x=>by kernel_rfl)
theorem rn_Z214:Runs Tryz.prog 214:=⟨_,Tryz.func214,by decide,rfl⟩
def con_Z214 (N:Nat):Con:=⟨214,in_Z214,out_Z214,fun (x0,x1)=>Z214 N x0 x1,[]⟩
theorem ok_Z214 (N:Nat):ConOk Tryz.prog tx.gl (con_Z214 N):=runF_ok (Y:=tx) (N:=N) (K:=[]) (an:=an_Z214) tabOk mixOk ksNil Tryz.func214 rfl (fun x=>by kernel_rfl)
theorem rn_Z239:Runs Tryz.prog 239:=⟨_,Tryz.func239,by decide,rfl⟩
def con_Z239 (N:Nat):Con:=⟨239,in_Z239,out_Z239,fun (x0,x1,x2)=>Z239 N x0 x1 x2,[]⟩
theorem ok_Z239 (N:Nat):ConOk Tryz.prog tx.gl (con_Z239 N):=runF_ok (Y:=tx) (N:=N) (K:=[con_Z214 N]) (an:=an_Z239) tabOk mixOk (ksCons (ok_Z214 N) rn_Z214 ksNil) Tryz.func239 rfl (fun x=>by kernel_rfl)
theorem rn_Z228:Runs Tryz.prog 228:=⟨_,Tryz.func228,by decide,rfl⟩
def con_Z228 (N:Nat):Con:=⟨228,in_Z228,out_Z228,fun (x0,x1,x2,x3)=>Z228 N x0 x1 x2 x3,[]⟩
theorem ok_Z228 (N:Nat):ConOk Tryz.prog tx.gl (con_Z228 N):=runF_ok (Y:=tx) (N:=N) (K:=[con_Z239 N]) (an:=an_Z228) tabOk mixOk (ksCons (ok_Z239 N) rn_Z239 ksNil) Tryz.func228 rfl (fun x=>by kernel_rfl)
theorem rn_Z213:Runs Tryz.prog 213:=⟨_,Tryz.func213,by decide,rfl⟩
def con_Z213 (N:Nat):Con:=⟨213,in_Z213,out_Z213,fun x0=>Z213 N x0,[]⟩
theorem ok_Z213 (N:Nat):ConOk Tryz.prog tx.gl (con_Z213 N):=runF_ok (Y:=tx) (N:=N) (K:=[con_Z229 N,con_Z228 N]) (an:=an_Z213) tabOk mixOk (ksCons (ok_Z229 N) rn_Z229 (ksCons (ok_Z228 N) rn_Z228 ksNil)) Tryz.func213 rfl (fun x=>by kernel_rfl)
theorem rn_Z187:Runs Tryz.prog 187:=⟨_,Tryz.func187,by decide,rfl⟩
def con_Z187 (N:Nat):Con:=⟨187,in_Z187,out_Z187,fun (x0,x1)=>Z187 N x0 x1,[]⟩
theorem ok_Z187 (N:Nat):ConOk Tryz.prog tx.gl (con_Z187 N):=runF_ok (Y:=tx) (N:=N) (K:=[]) (an:=an_Z187) tabOk mixOk ksNil Tryz.func187 rfl (fun x=>by kernel_rfl)
theorem rn_Z186:Runs Tryz.prog 186:=⟨_,Tryz.func186,by decide,rfl⟩
def con_Z186 (N:Nat):Con:=⟨186,in_Z186,out_Z186,fun (x0,x1)=>Z186 N x0 x1,[]⟩
theorem ok_Z186 (N:Nat):ConOk Tryz.prog tx.gl (con_Z186 N):=runF_ok (Y:=tx) (N:=N) (K:=[con_Z212 N,con_Z212_k2 N,con_Z213 N,con_Z187 N]) (an:=an_Z186) tabOk mixOk (ksCons (ok_Z212 N) rn_Z212 (ksCons (ok_Z212_k2 N) rn_Z212_k2 (ksCons (ok_Z213 N) rn_Z213 (ksCons (ok_Z187 N) rn_Z187 ksNil)))) Tryz.func186 rfl (fun x=>by kernel_rfl)
theorem rn_Z152:Runs Tryz.prog 152:=⟨_,Tryz.func152,by decide,rfl⟩
def con_Z152 (N:Nat):Con:=⟨152,in_Z152,out_Z152,fun x0=>Z152 N x0,[]⟩
theorem ok_Z152 (N:Nat):ConOk Tryz.prog tx.gl (con_Z152 N):=runF_ok (Y:=tx) (N:=N) (K:=[con_Z186 N]) (an:=an_Z152) tabOk mixOk (ksCons (ok_Z186 N) rn_Z186 ksNil) Tryz.func152 rfl (fun x=>by kernel_rfl)
theorem rn_Z99:Runs Tryz.prog 99:=⟨_,Tryz.func99,by decide,rfl⟩
def con_Z99 (N:Nat):Con:=⟨99,in_Z99,out_Z99,fun (x0,x1,x2)=>Z99 N x0 x1 x2,[]⟩
theorem ok_Z99 (N:Nat):ConOk Tryz.prog tx.gl (con_Z99 N):=runF_ok (Y:=tx) (N:=N) (K:=[con_Z149_k2 N,con_Z152 N,con_Z151_k2 N]) (an:=an_Z99) tabOk mixOk (ksCons (ok_Z149_k2 N) rn_Z149_k2 (ksCons (ok_Z152 N) rn_Z152 (ksCons (ok_Z151_k2 N) rn_Z151_k2 ksNil))) Tryz.func99 rfl (fun x=>by kernel_rfl)
theorem rn_Z189:Runs Tryz.prog 189:=⟨_,Tryz.func189,by decide,rfl⟩
def con_Z189 (N:Nat):Con:=⟨189,in_Z189,out_Z189,fun (x0,m5000,m5001)=>Z189 N x0 m5000 m5001,[5000,5001]⟩
theorem ok_Z189 (N:Nat):ConOk Tryz.prog tx.gl (con_Z189 N):=runF_ok (Y:=tx) (N:=N) (K:=[]) (an:=an_Z189) tabOk mixOk ksNil Tryz.func189 rfl (fun x=>by kernel_rfl)
theorem rn_Z188:Runs Tryz.prog 188:=⟨_,Tryz.func188,by decide,rfl⟩
def con_Z188 (N:Nat):Con:=⟨188,in_Z188,out_Z188,fun (x0,m5000,m5001)=>Z188 N x0 m5000 m5001,[5000,5001]⟩
theorem ok_Z188 (N:Nat):ConOk Tryz.prog tx.gl (con_Z188 N):=runF_ok (Y:=tx) (N:=N) (K:=[con_Z189 N]) (an:=an_Z188) tabOk mixOk (ksCons (ok_Z189 N) rn_Z189 ksNil) Tryz.func188 rfl (fun x=>by kernel_rfl)
theorem rn_Z190:Runs Tryz.prog 190:=⟨_,Tryz.func190,by decide,rfl⟩
def con_Z190 (N:Nat):Con:=⟨190,in_Z190,out_Z190,fun x0=>Z190 N x0,[]⟩
theorem ok_Z190 (N:Nat):ConOk Tryz.prog tx.gl (con_Z190 N):=runF_ok (Y:=tx) (N:=N) (K:=[]) (an:=an_Z190) tabOk mixOk ksNil Tryz.func190 rfl (fun x=>by kernel_rfl)
theorem rn_Z153:Runs Tryz.prog 153:=⟨_,Tryz.func153,by decide,rfl⟩
def con_Z153 (N:Nat):Con:=⟨153,in_Z153,out_Z153,fun (x0,x1,x2)=>Z153 N x0 x1 x2,[]⟩
theorem ok_Z153 (N:Nat):ConOk Tryz.prog tx.gl (con_Z153 N):=runF_ok (Y:=tx) (N:=N) (K:=[con_Z188 N,con_Z190 N]) (an:=an_Z153) tabOk mixOk (ksCons (ok_Z188 N) rn_Z188 (ksCons (ok_Z190 N) rn_Z190 ksNil)) Tryz.func153 rfl (fun x=>by kernel_rfl)
theorem rn_Z100:Runs Tryz.prog 100:=⟨_,Tryz.func100,by decide,rfl⟩
def con_Z100 (N:Nat):Con:=⟨100,in_Z100,out_Z100,fun (x0,x1,x2)=>Z100 N x0 x1 x2,[]⟩
theorem ok_Z100 (N:Nat):ConOk Tryz.prog tx.gl (con_Z100 N):=runF_ok (Y:=tx) (N:=N) (K:=[con_Z150 N,con_Z153 N]) (an:=an_Z100) tabOk mixOk (ksCons (ok_Z150 N) rn_Z150 (ksCons (ok_Z153 N) rn_Z153 ksNil)) Tryz.func100 rfl (fun x=>by kernel_rfl)
theorem rn_Z101_k2:Runs Tryz.prog 101:=⟨_,Tryz.func101,by decide,rfl⟩
def con_Z101_k2 (N:Nat):Con:=⟨101,in_Z101_k2,out_Z101_k2,fun (x1,m5000_0,m5001)=>Z101_k2 N x1 m5000_0 m5001,[]⟩
theorem ok_Z101_k2 (N:Nat):ConOk Tryz.prog tx.gl (con_Z101_k2 N):=runF_ok (Y:=tx) (N:=N) (K:=[con_Z96 N,con_Z95_k2 N]) (an:=an_Z101_k2) tabOk mixOk (ksCons (ok_Z96 N) rn_Z96 (ksCons (ok_Z95_k2 N) rn_Z95_k2 ksNil)) Tryz.func101 rfl (fun x=>by kernel_rfl)
theorem rn_Z69:Runs Tryz.prog 69:=⟨_,Tryz.func69,by decide,rfl⟩
def con_Z69 (N:Nat):Con:=⟨69,in_Z69,out_Z69,fun (x0,x1,x2,x3,x4)=>Z69 N x0 x1 x2 x3 x4,[]⟩
theorem ok_Z69 (N:Nat):ConOk Tryz.prog tx.gl (con_Z69 N):=runF_ok (Y:=tx) (N:=N) (K:=[con_Z95 N,con_Z96 N,con_Z97 N,con_Z98 N,con_Z99 N,con_Z100 N,con_Z101_k2 N]) (an:=an_Z69) tabOk mixOk (ksCons (ok_Z95 N) rn_Z95 (ksCons (ok_Z96 N) rn_Z96 (ksCons (ok_Z97 N) rn_Z97 (ksCons (ok_Z98 N) rn_Z98 (ksCons (ok_Z99 N) rn_Z99 (ksCons (ok_Z100 N) rn_Z100 (ksCons (ok_Z101_k2 N) rn_Z101_k2 ksNil))))))) Tryz.func69 rfl (fun x=>by kernel_rfl)
theorem rn_Z191:Runs Tryz.prog 191:=⟨_,Tryz.func191,by decide,rfl⟩
def con_Z191 (N:Nat):Con:=⟨191,in_Z191,out_Z191,fun x0=>Z191 N x0,[]⟩
theorem ok_Z191 (N:Nat):ConOk Tryz.prog tx.gl (con_Z191 N):=runF_ok (Y:=tx) (N:=N) (K:=[]) (an:=an_Z191) tabOk mixOk ksNil Tryz.func191 rfl (fun x=>by kernel_rfl)
theorem rn_Z157:Runs Tryz.prog 157:=⟨_,Tryz.func157,by decide,rfl⟩
def con_Z157 (N:Nat):Con:=⟨157,in_Z157,out_Z157,fun x0=>Z157 N x0,[]⟩
theorem ok_Z157 (N:Nat):ConOk Tryz.prog tx.gl (con_Z157 N):=runF_ok (Y:=tx) (N:=N) (K:=[con_Z191 N]) (an:=an_Z157) tabOk mixOk (ksCons (ok_Z191 N) rn_Z191 ksNil) Tryz.func157 rfl (fun x=>by kernel_rfl)
theorem rn_Z158:Runs Tryz.prog 158:=⟨_,Tryz.func158,by decide,rfl⟩
def con_Z158 (N:Nat):Con:=⟨158,in_Z158,out_Z158,fun (x0,x1,x2)=>Z158 N x0 x1 x2,[]⟩
theorem ok_Z158 (N:Nat):ConOk Tryz.prog tx.gl (con_Z158 N):=runF_ok (Y:=tx) (N:=N) (K:=[]) (an:=an_Z158) tabOk mixOk ksNil Tryz.func158 rfl (fun x=>by kernel_rfl)
theorem rn_Z159:Runs Tryz.prog 159:=⟨_,Tryz.func159,by decide,rfl⟩
def con_Z159 (N:Nat):Con:=⟨159,in_Z159,out_Z159,fun (x0,x1,x2,x3,x4,x5,x6)=>Z159 N x0 x1 x2 x3 x4 x5 x6,[]⟩
theorem ok_Z159 (N:Nat):ConOk Tryz.prog tx.gl (con_Z159 N):=runF_ok (Y:=tx) (N:=N) (K:=[con_Z83 N]) (an:=an_Z159) tabOk mixOk (ksCons (ok_Z83 N) rn_Z83 ksNil) Tryz.func159 rfl (fun x=>by kernel_rfl)
theorem rn_Z160:Runs Tryz.prog 160:=⟨_,Tryz.func160,by decide,rfl⟩
def con_Z160 (N:Nat):Con:=⟨160,in_Z160,out_Z160,fun x0=>Z160 N x0,[]⟩
theorem ok_Z160 (N:Nat):ConOk Tryz.prog tx.gl (con_Z160 N):=runF_ok (Y:=tx) (N:=N) (K:=[]) (an:=an_Z160) tabOk mixOk ksNil Tryz.func160 rfl (fun x=>by kernel_rfl)
theorem rn_Z102:Runs Tryz.prog 102:=⟨_,Tryz.func102,by decide,rfl⟩
def con_Z102 (N:Nat):Con:=⟨102,in_Z102,out_Z102,fun (x0,x1,x2,x3,x4,x5,x6,x7)=>Z102 N x0 x1 x2 x3 x4 x5 x6 x7,[]⟩
theorem ok_Z102 (N:Nat):ConOk Tryz.prog tx.gl (con_Z102 N):=runF_ok (Y:=tx) (N:=N) (K:=[con_Z157 N,con_Z158 N,con_Z159 N,con_Z160 N]) (an:=an_Z102) tabOk mixOk (ksCons (ok_Z157 N) rn_Z157 (ksCons (ok_Z158 N) rn_Z158 (ksCons (ok_Z159 N) rn_Z159 (ksCons (ok_Z160 N) rn_Z160 ksNil)))) Tryz.func102 rfl (fun x=>by kernel_rfl)
theorem rn_Z70:Runs Tryz.prog 70:=⟨_,Tryz.func70,by decide,rfl⟩
def con_Z70 (N:Nat):Con:=⟨70,in_Z70,out_Z70,fun (x0,x1,x2,x3)=>Z70 N x0 x1 x2 x3,[]⟩
theorem ok_Z70 (N:Nat):ConOk Tryz.prog tx.gl (con_Z70 N):=runF_ok (Y:=tx) (N:=N) (K:=[con_Z89 N,con_Z102 N]) (an:=an_Z70) tabOk mixOk (ksCons (ok_Z89 N) rn_Z89 (ksCons (ok_Z102 N) rn_Z102 ksNil)) Tryz.func70 rfl (fun x=>by kernel_rfl)
theorem rn_Z53:Runs Tryz.prog 53:=⟨_,Tryz.func53,by decide,rfl⟩
def con_Z53 (N:Nat):Con:=⟨53,in_Z53,out_Z53,fun (m5000_0,m5000_1,m5000_2,m5000_3,m5000_4,m5000_5,m5000_6,m5000_7_0,m5000_7_1,m5000_7_2,m5000_7_3,m5000_7_4,m5000_7_7,m5000_7_8,m5000_7_9,m5000_7_11,m5000_7_12,m5001,m5002,m5003)=>Z53 N m5000_0 m5000_1 m5000_2 m5000_3 m5000_4 m5000_5 m5000_6 m5000_7_0 m5000_7_1 m5000_7_2 m5000_7_3 m5000_7_4 m5000_7_7 m5000_7_8 m5000_7_9 m5000_7_11 m5000_7_12 m5001 m5002 m5003,[5001]⟩
theorem ok_Z53 (N:Nat):ConOk Tryz.prog tx.gl (con_Z53 N):=runF_ok (Y:=tx) (N:=N) (K:=[con_Z68 N,con_Z69 N,con_Z70 N]) (an:=an_Z53) tabOk mixOk (ksCons (ok_Z68 N) rn_Z68 (ksCons (ok_Z69 N) rn_Z69 (ksCons (ok_Z70 N) rn_Z70 ksNil))) Tryz.func53 rfl (fun x=>by kernel_rfl)
theorem rn_Z161:Runs Tryz.prog 161:=⟨_,Tryz.func161,by decide,rfl⟩
def con_Z161 (N:Nat):Con:=⟨161,in_Z161,out_Z161,fun (x0,x1)=>Z161 N x0 x1,[]⟩
theorem ok_Z161 (N:Nat):ConOk Tryz.prog tx.gl (con_Z161 N):=runF_ok (Y:=tx) (N:=N) (K:=[]) (an:=an_Z161) tabOk mixOk ksNil Tryz.func161 rfl (fun x=>by kernel_rfl)
theorem rn_Z168:Runs Tryz.prog 168:=⟨_,Tryz.func168,by decide,rfl⟩
def con_Z168 (N:Nat):Con:=⟨168,in_Z168,out_Z168,fun x0=>Z168 N x0,[]⟩
theorem ok_Z168 (N:Nat):ConOk Tryz.prog tx.gl (con_Z168 N):=runF_ok (Y:=tx) (N:=N) (K:=[]) (an:=an_Z168) tabOk mixOk ksNil Tryz.func168 rfl (fun x=>by kernel_rfl)
theorem rn_Z197:Runs Tryz.prog 197:=⟨_,Tryz.func197,by decide,rfl⟩
def con_Z197 (N:Nat):Con:=⟨197,in_Z197,out_Z197,fun (x0,m5000)=>Z197 N x0 m5000,[5000]⟩
theorem ok_Z197 (N:Nat):ConOk Tryz.prog tx.gl (con_Z197 N):=runF_ok (Y:=tx) (N:=N) (K:=[]) (an:=an_Z197) tabOk mixOk ksNil Tryz.func197 rfl (fun x=>by kernel_rfl)
theorem rn_Z169:Runs Tryz.prog 169:=⟨_,Tryz.func169,by decide,rfl⟩
def con_Z169 (N:Nat):Con:=⟨169,in_Z169,out_Z169,fun (x0,m5000)=>Z169 N x0 m5000,[5000]⟩
theorem ok_Z169 (N:Nat):ConOk Tryz.prog tx.gl (con_Z169 N):=runF_ok (Y:=tx) (N:=N) (K:=[con_Z197 N]) (an:=an_Z169) tabOk mixOk (ksCons (ok_Z197 N) rn_Z197 ksNil) Tryz.func169 rfl (fun x=>by kernel_rfl)
theorem rn_Z108:Runs Tryz.prog 108:=⟨_,Tryz.func108,by decide,rfl⟩
def con_Z108 (N:Nat):Con:=⟨108,in_Z108,out_Z108,fun x0=>Z108 N x0,[]⟩
theorem ok_Z108 (N:Nat):ConOk Tryz.prog tx.gl (con_Z108 N):=runF_ok (Y:=tx) (N:=N) (K:=[con_Z168 N,con_Z169 N]) (an:=an_Z108) tabOk mixOk (ksCons (ok_Z168 N) rn_Z168 (ksCons (ok_Z169 N) rn_Z169 ksNil)) Tryz.func108 rfl (fun x=>by kernel_rfl)
theorem rn_Z199:Runs Tryz.prog 199:=⟨_,Tryz.func199,by decide,rfl⟩
def con_Z199 (N:Nat):Con:=⟨199,in_Z199,out_Z199,fun (x0,x1)=>Z199 N x0 x1,[]⟩
theorem ok_Z199 (N:Nat):ConOk Tryz.prog tx.gl (con_Z199 N):=runF_ok (Y:=tx) (N:=N) (K:=[]) (an:=an_Z199) tabOk mixOk ksNil Tryz.func199 rfl (fun x=>by kernel_rfl)
theorem rn_Z174:Runs Tryz.prog 174:=⟨_,Tryz.func174,by decide,rfl⟩
def con_Z174 (N:Nat):Con:=⟨174,in_Z174,out_Z174,fun (x0,x1)=>Z174 N x0 x1,[]⟩
theorem ok_Z174 (N:Nat):ConOk Tryz.prog tx.gl (con_Z174 N):=runF_ok (Y:=tx) (N:=N) (K:=[con_Z199 N]) (an:=an_Z174) tabOk mixOk (ksCons (ok_Z199 N) rn_Z199 ksNil) Tryz.func174 rfl (fun x=>by kernel_rfl)
theorem rn_Z114:Runs Tryz.prog 114:=⟨_,Tryz.func114,by decide,rfl⟩
def con_Z114 (N:Nat):Con:=⟨114,in_Z114,out_Z114,fun x0=>Z114 N x0,[]⟩
theorem ok_Z114 (N:Nat):ConOk Tryz.prog tx.gl (con_Z114 N):=runF_ok (Y:=tx) (N:=N) (K:=[]) (an:=an_Z114) tabOk mixOk ksNil Tryz.func114 rfl (fun x=>by kernel_rfl)
theorem rn_Z110:Runs Tryz.prog 110:=⟨_,Tryz.func110,by decide,rfl⟩
def con_Z110 (N:Nat):Con:=⟨110,in_Z110,out_Z110,fun (x0,x1)=>Z110 N x0 x1,[]⟩
theorem ok_Z110 (N:Nat):ConOk Tryz.prog tx.gl (con_Z110 N):=runF_ok (Y:=tx) (N:=N) (K:=[con_Z174 N,con_Z114 N]) (an:=an_Z110) tabOk mixOk (ksCons (ok_Z174 N) rn_Z174 (ksCons (ok_Z114 N) rn_Z114 ksNil)) Tryz.func110 rfl (fun x=>by kernel_rfl)
theorem rn_Z198:Runs Tryz.prog 198:=⟨_,Tryz.func198,by decide,rfl⟩
def con_Z198 (N:Nat):Con:=⟨198,in_Z198,out_Z198,fun (x0,m5000,m5001)=>Z198 N x0 m5000 m5001,[5000,5001]⟩
theorem ok_Z198 (N:Nat):ConOk Tryz.prog tx.gl (con_Z198 N):=runF_ok (Y:=tx) (N:=N) (K:=[]) (an:=an_Z198) tabOk mixOk ksNil Tryz.func198 rfl (fun x=>by kernel_rfl)
theorem rn_Z173:Runs Tryz.prog 173:=⟨_,Tryz.func173,by decide,rfl⟩
def con_Z173 (N:Nat):Con:=⟨173,in_Z173,out_Z173,fun (x0,m5000,m5001)=>Z173 N x0 m5000 m5001,[5000,5001]⟩
theorem ok_Z173 (N:Nat):ConOk Tryz.prog tx.gl (con_Z173 N):=runF_ok (Y:=tx) (N:=N) (K:=[con_Z198 N]) (an:=an_Z173) tabOk mixOk (ksCons (ok_Z198 N) rn_Z198 ksNil) Tryz.func173 rfl (fun x=>by kernel_rfl)
theorem rn_Z109:Runs Tryz.prog 109:=⟨_,Tryz.func109,by decide,rfl⟩
def con_Z109 (N:Nat):Con:=⟨109,in_Z109,out_Z109,fun (x0,x1,x2)=>Z109 N x0 x1 x2,[]⟩
theorem ok_Z109 (N:Nat):ConOk Tryz.prog tx.gl (con_Z109 N):=runF_ok (Y:=tx) (N:=N) (K:=[con_Z173 N]) (an:=an_Z109) tabOk mixOk (ksCons (ok_Z173 N) rn_Z173 ksNil) Tryz.func109 rfl (fun x=>by kernel_rfl)
theorem rn_Z74:Runs Tryz.prog 74:=⟨_,Tryz.func74,by decide,rfl⟩
def con_Z74 (N:Nat):Con:=⟨74,in_Z74,out_Z74,fun (x0,x1,x2)=>Z74 N x0 x1 x2,[]⟩
theorem ok_Z74 (N:Nat):ConOk Tryz.prog tx.gl (con_Z74 N):=runF_ok (Y:=tx) (N:=N) (K:=[con_Z108 N,con_Z110 N,con_Z109 N]) (an:=an_Z74) tabOk mixOk (ksCons (ok_Z108 N) rn_Z108 (ksCons (ok_Z110 N) rn_Z110 (ksCons (ok_Z109 N) rn_Z109 ksNil))) Tryz.func74 rfl (fun x=>by kernel_rfl)
theorem rn_Z163:Runs Tryz.prog 163:=⟨_,Tryz.func163,by decide,rfl⟩
def con_Z163 (N:Nat):Con:=⟨163,in_Z163,out_Z163,fun (x0,m5000,m5001,m5002)=>Z163 N x0 m5000 m5001 m5002,[5000,5001,5002]⟩
theorem ok_Z163 (N:Nat):ConOk Tryz.prog tx.gl (con_Z163 N):=runF_ok (Y:=tx) (N:=N) (K:=[]) (an:=an_Z163) tabOk mixOk ksNil Tryz.func163 rfl (fun x=>by kernel_rfl)
theorem rn_Z104:Runs Tryz.prog 104:=⟨_,Tryz.func104,by decide,rfl⟩
def con_Z104 (N:Nat):Con:=⟨104,in_Z104,out_Z104,fun (x0,x1,x2,x3)=>Z104 N x0 x1 x2 x3,[]⟩
theorem ok_Z104 (N:Nat):ConOk Tryz.prog tx.gl (con_Z104 N):=runF_ok (Y:=tx) (N:=N) (K:=[con_Z163 N]) (an:=an_Z104) tabOk mixOk (ksCons (ok_Z163 N) rn_Z163 ksNil) Tryz.func104 rfl (fun x=>by kernel_rfl)
theorem rn_Z194:Runs Tryz.prog 194:=⟨_,Tryz.func194,by decide,rfl⟩
def con_Z194 (N:Nat):Con:=⟨194,in_Z194,out_Z194,fun (x0,x1)=>Z194 N x0 x1,[]⟩
theorem ok_Z194 (N:Nat):ConOk Tryz.prog tx.gl (con_Z194 N):=runF_ok (Y:=tx) (N:=N) (K:=[]) (an:=an_Z194) tabOk mixOk ksNil Tryz.func194 rfl (fun x=>by kernel_rfl)
theorem rn_Z164:Runs Tryz.prog 164:=⟨_,Tryz.func164,by decide,rfl⟩
def con_Z164 (N:Nat):Con:=⟨164,in_Z164,out_Z164,fun x0=>Z164 N x0,[]⟩
theorem ok_Z164 (N:Nat):ConOk Tryz.prog tx.gl (con_Z164 N):=runF_ok (Y:=tx) (N:=N) (K:=[con_Z194 N]) (an:=an_Z164) tabOk mixOk (ksCons (ok_Z194 N) rn_Z194 ksNil) Tryz.func164 rfl (fun x=>by kernel_rfl)
theorem rn_Z165:Runs Tryz.prog 165:=⟨_,Tryz.func165,by decide,rfl⟩
def con_Z165 (N:Nat):Con:=⟨165,in_Z165,out_Z165,fun (x0,x1)=>Z165 N x0 x1,[]⟩
theorem ok_Z165 (N:Nat):ConOk Tryz.prog tx.gl (con_Z165 N):=runF_ok (Y:=tx) (N:=N) (K:=[]) (an:=an_Z165) tabOk mixOk ksNil Tryz.func165 rfl (fun x=>by kernel_rfl)
theorem rn_Z105:Runs Tryz.prog 105:=⟨_,Tryz.func105,by decide,rfl⟩
def con_Z105 (N:Nat):Con:=⟨105,in_Z105,out_Z105,fun (x0,x1,x2)=>Z105 N x0 x1 x2,[]⟩
theorem ok_Z105 (N:Nat):ConOk Tryz.prog tx.gl (con_Z105 N):=runF_ok (Y:=tx) (N:=N) (K:=[con_Z164 N,con_Z165 N]) (an:=an_Z105) tabOk mixOk (ksCons (ok_Z164 N) rn_Z164 (ksCons (ok_Z165 N) rn_Z165 ksNil)) Tryz.func105 rfl (fun x=>by kernel_rfl)
theorem rn_Z103_k2:Runs Tryz.prog 103:=⟨_,Tryz.func103,by decide,rfl⟩
def con_Z103_k2 (N:Nat):Con:=⟨103,in_Z103_k2,out_Z103_k2,fun (x0,x1,x2,x3)=>Z103_k2 N x0 x1 x2 x3,[]⟩
theorem ok_Z103_k2 (N:Nat):ConOk Tryz.prog tx.gl (con_Z103_k2 N):=runF_ok (Y:=tx) (N:=N) (K:=[con_Z161 N,con_Z108 N,con_Z74 N]) (an:=an_Z103_k2) tabOk mixOk (ksCons (ok_Z161 N) rn_Z161 (ksCons (ok_Z108 N) rn_Z108 (ksCons (ok_Z74 N) rn_Z74 ksNil))) Tryz.func103 rfl (fun x=>by kernel_rfl)
theorem rn_Z71:Runs Tryz.prog 71:=⟨_,Tryz.func71,by decide,rfl⟩
def con_Z71 (N:Nat):Con:=⟨71,in_Z71,out_Z71,fun (x0,x1,x2,x3)=>Z71 N x0 x1 x2 x3,[]⟩
theorem ok_Z71 (N:Nat):ConOk Tryz.prog tx.gl (con_Z71 N):=runF_ok (Y:=tx) (N:=N) (K:=[con_Z67 N,con_Z103_k2 N,con_Z104 N,con_Z105 N]) (an:=an_Z71) tabOk mixOk (ksCons (ok_Z67 N) rn_Z67 (ksCons (ok_Z103_k2 N) rn_Z103_k2 (ksCons (ok_Z104 N) rn_Z104 (ksCons (ok_Z105 N) rn_Z105 ksNil)))) Tryz.func71 rfl (fun x=>by kernel_rfl)
theorem rn_Z54:Runs Tryz.prog 54:=⟨_,Tryz.func54,by decide,rfl⟩
def con_Z54 (N:Nat):Con:=⟨54,in_Z54,out_Z54,fun (m5000_0,m5000_1,m5000_2,m5000_3,m5000_4,m5000_5,m5000_6,m5000_7_0,m5000_7_1,m5000_7_2,m5000_7_3,m5000_7_4,m5000_7_5,m5000_7_7,m5000_7_8,m5000_7_9,m5000_7_11,m5000_7_12,m5001,m5002)=>Z54 N m5000_0 m5000_1 m5000_2 m5000_3 m5000_4 m5000_5 m5000_6 m5000_7_0 m5000_7_1 m5000_7_2 m5000_7_3 m5000_7_4 m5000_7_5 m5000_7_7 m5000_7_8 m5000_7_9 m5000_7_11 m5000_7_12 m5001 m5002,[5001]⟩
theorem ok_Z54 (N:Nat):ConOk Tryz.prog tx.gl (con_Z54 N):=runF_ok (Y:=tx) (N:=N) (K:=[con_Z71 N]) (an:=an_Z54) tabOk mixOk (ksCons (ok_Z71 N) rn_Z71 ksNil) Tryz.func54 rfl (fun x=>by kernel_rfl)
theorem rn_Z52:Runs Tryz.prog 52:=⟨_,Tryz.func52,by decide,rfl⟩
def con_Z52 (N:Nat):Con:=⟨52,in_Z52,out_Z52,fun (m5001_0,m5001_1,m5001_2,m5001_3,m5001_4,m5001_5,m5001_6,m5001_7_0,m5001_7_1,m5001_7_2,m5001_7_3,m5001_7_4,m5001_7_7,m5001_7_8,m5001_7_9,m5001_7_11,m5001_7_12,m5002,m5003,m5004)=>Z52 N m5001_0 m5001_1 m5001_2 m5001_3 m5001_4 m5001_5 m5001_6 m5001_7_0 m5001_7_1 m5001_7_2 m5001_7_3 m5001_7_4 m5001_7_7 m5001_7_8 m5001_7_9 m5001_7_11 m5001_7_12 m5002 m5003 m5004,[5000,5002]⟩
theorem ok_Z52 (N:Nat):ConOk Tryz.prog tx.gl (con_Z52 N):=runF_ok (Y:=tx) (N:=N) (K:=[con_Z53 N,con_Z54 N]) (an:=an_Z52) tabOk mixOk (ksCons (ok_Z53 N) rn_Z53 (ksCons (ok_Z54 N) rn_Z54 ksNil)) Tryz.func52 rfl (fun x=>by kernel_rfl)
theorem rn_Z47_k3:Runs Tryz.prog 47:=⟨_,Tryz.func47,by decide,rfl⟩
def con_Z47_k3 (N:Nat):Con:=⟨47,in_Z47_k3,out_Z47_k3,fun (m5001_0,m5001_1,m5001_2,m5001_3,m5001_4,m5001_5,m5001_6,m5001_7_0,m5001_7_1,m5001_7_2,m5001_7_3,m5001_7_4,m5001_7_7,m5001_7_8,m5001_7_9,m5001_7_11,m5001_7_12,m5002,m5003,m5004,m5005)=>Z47_k3 N m5001_0 m5001_1 m5001_2 m5001_3 m5001_4 m5001_5 m5001_6 m5001_7_0 m5001_7_1 m5001_7_2 m5001_7_3 m5001_7_4 m5001_7_7 m5001_7_8 m5001_7_9 m5001_7_11 m5001_7_12 m5002 m5003 m5004 m5005,[5000]⟩
theorem ok_Z47_k3 (N:Nat):ConOk Tryz.prog tx.gl (con_Z47_k3 N):=runF_ok (Y:=tx) (N:=N) (K:=[con_Z52 N]) (an:=an_Z47_k3) tabOk mixOk (ksCons (ok_Z52 N) rn_Z52 ksNil) Tryz.func47 rfl (fun x=>by kernel_rfl)
theorem rn_Z107:Runs Tryz.prog 107:=⟨_,Tryz.func107,by decide,rfl⟩
def con_Z107 (N:Nat):Con:=⟨107,in_Z107,out_Z107,fun (x0,x1)=>Z107 N x0 x1,[]⟩
theorem ok_Z107 (N:Nat):ConOk Tryz.prog tx.gl (con_Z107 N):=runF_ok (Y:=tx) (N:=N) (K:=[con_Z167 N,con_Z166 N]) (an:=an_Z107) tabOk mixOk (ksCons (ok_Z167 N) rn_Z167 (ksCons (ok_Z166 N) rn_Z166 ksNil)) Tryz.func107 rfl (fun x=>by kernel_rfl)
theorem rn_Z73:Runs Tryz.prog 73:=⟨_,Tryz.func73,by decide,rfl⟩
def con_Z73 (N:Nat):Con:=⟨73,in_Z73,out_Z73,fun (m5000_0,m5000_1,m5000_2,m5000_3,m5000_4,m5000_5,m5000_6,m5000_7_0,m5000_7_1,m5000_7_2,m5000_7_3,m5000_7_4,m5000_7_5,m5000_7_6,m5000_7_7,m5000_7_8,m5000_7_9,m5000_7_11,m5000_7_12,m5001)=>Z73 N m5000_0 m5000_1 m5000_2 m5000_3 m5000_4 m5000_5 m5000_6 m5000_7_0 m5000_7_1 m5000_7_2 m5000_7_3 m5000_7_4 m5000_7_5 m5000_7_6 m5000_7_7 m5000_7_8 m5000_7_9 m5000_7_11 m5000_7_12 m5001,[5000,5001]⟩
theorem ok_Z73 (N:Nat):ConOk Tryz.prog tx.gl (con_Z73 N):=runF_ok (Y:=tx) (N:=N) (K:=[con_Z107 N]) (an:=an_Z73) tabOk mixOk (ksCons (ok_Z107 N) rn_Z107 ksNil) Tryz.func73 rfl (fun x=>by kernel_rfl)
theorem rn_Z106:Runs Tryz.prog 106:=⟨_,Tryz.func106,by decide,rfl⟩
def con_Z106 (N:Nat):Con:=⟨106,in_Z106,out_Z106,fun (x0,x1)=>Z106 N x0 x1,[]⟩
theorem ok_Z106 (N:Nat):ConOk Tryz.prog tx.gl (con_Z106 N):=runF_ok (Y:=tx) (N:=N) (K:=[]) (an:=an_Z106) tabOk mixOk ksNil Tryz.func106 rfl (fun x=>by kernel_rfl)
theorem rn_Z72:Runs Tryz.prog 72:=⟨_,Tryz.func72,by decide,rfl⟩
def con_Z72 (N:Nat):Con:=⟨72,in_Z72,out_Z72,fun (x0,x1,x2,x3)=>Z72 N x0 x1 x2 x3,[]⟩
theorem ok_Z72 (N:Nat):ConOk Tryz.prog tx.gl (con_Z72 N):=runF_ok (Y:=tx) (N:=N) (K:=[con_Z106 N]) (an:=an_Z72) tabOk mixOk (ksCons (ok_Z106 N) rn_Z106 ksNil) Tryz.func72 rfl (fun x=>by kernel_rfl)
theorem rn_Z76:Runs Tryz.prog 76:=⟨_,Tryz.func76,by decide,rfl⟩
def con_Z76 (N:Nat):Con:=⟨76,in_Z76,out_Z76,fun (x0,x1,x2,x3,x4)=>Z76 N x0 x1 x2 x3 x4,[]⟩
theorem ok_Z76 (N:Nat):ConOk Tryz.prog tx.gl (con_Z76 N):=runF_ok (Y:=tx) (N:=N) (K:=[con_Z114 N]) (an:=an_Z76) tabOk mixOk (ksCons (ok_Z114 N) rn_Z114 ksNil) Tryz.func76 rfl (fun x=>by kernel_rfl)
theorem rn_Z75:Runs Tryz.prog 75:=⟨_,Tryz.func75,by decide,rfl⟩
def con_Z75 (N:Nat):Con:=⟨75,in_Z75,out_Z75,fun (x0,x1,x2)=>Z75 N x0 x1 x2,[]⟩
theorem ok_Z75 (N:Nat):ConOk Tryz.prog tx.gl (con_Z75 N):=runF_ok (Y:=tx) (N:=N) (K:=[]) (an:=an_Z75) tabOk mixOk ksNil Tryz.func75 rfl (fun x=>by kernel_rfl)
theorem rn_Z56:Runs Tryz.prog 56:=⟨_,Tryz.func56,by decide,rfl⟩
def con_Z56 (N:Nat):Con:=⟨56,in_Z56,out_Z56,fun (m5000_0,m5000_1,m5000_2,m5000_3,m5000_4,m5000_5,m5000_6,m5000_7_0,m5000_7_1,m5000_7_2,m5000_7_3,m5000_7_4,m5000_7_5,m5000_7_6,m5000_7_7,m5000_7_8,m5000_7_9,m5000_7_11,m5000_7_12,m5001)=>Z56 N m5000_0 m5000_1 m5000_2 m5000_3 m5000_4 m5000_5 m5000_6 m5000_7_0 m5000_7_1 m5000_7_2 m5000_7_3 m5000_7_4 m5000_7_5 m5000_7_6 m5000_7_7 m5000_7_8 m5000_7_9 m5000_7_11 m5000_7_12 m5001,[5001]⟩
theorem ok_Z56 (N:Nat):ConOk Tryz.prog tx.gl (con_Z56 N):=runF_ok (Y:=tx) (N:=N) (K:=[con_Z73 N,con_Z72 N,con_Z74 N,con_Z76 N,con_Z75 N]) (an:=an_Z56) tabOk mixOk (ksCons (ok_Z73 N) rn_Z73 (ksCons (ok_Z72 N) rn_Z72 (ksCons (ok_Z74 N) rn_Z74 (ksCons (ok_Z76 N) rn_Z76 (ksCons (ok_Z75 N) rn_Z75 ksNil))))) Tryz.func56 rfl (fun x=>by kernel_rfl)
theorem rn_Z55:Runs Tryz.prog 55:=⟨_,Tryz.func55,by decide,rfl⟩
def con_Z55 (N:Nat):Con:=⟨55,in_Z55,out_Z55,fun (m5001_0,m5001_1,m5001_2,m5001_3,m5001_4,m5001_5,m5001_6,m5001_7_0,m5001_7_1,m5001_7_2,m5001_7_3,m5001_7_4,m5001_7_5,m5001_7_6,m5001_7_7,m5001_7_8,m5001_7_9,m5001_7_11,m5001_7_12,m5002)=>Z55 N m5001_0 m5001_1 m5001_2 m5001_3 m5001_4 m5001_5 m5001_6 m5001_7_0 m5001_7_1 m5001_7_2 m5001_7_3 m5001_7_4 m5001_7_5 m5001_7_6 m5001_7_7 m5001_7_8 m5001_7_9 m5001_7_11 m5001_7_12 m5002,[5000,5002]⟩
theorem ok_Z55 (N:Nat):ConOk Tryz.prog tx.gl (con_Z55 N):=runF_ok (Y:=tx) (N:=N) (K:=[con_Z56 N]) (an:=an_Z55) tabOk mixOk (ksCons (ok_Z56 N) rn_Z56 ksNil) Tryz.func55 rfl (fun x=>by kernel_rfl)
theorem rn_Z47_k4:Runs Tryz.prog 47:=⟨_,Tryz.func47,by decide,rfl⟩
def con_Z47_k4 (N:Nat):Con:=⟨47,in_Z47_k4,out_Z47_k4,fun (m5001_0,m5001_1,m5001_2,m5001_3,m5001_4,m5001_5,m5001_6,m5001_7_0,m5001_7_1,m5001_7_2,m5001_7_3,m5001_7_4,m5001_7_5,m5001_7_6,m5001_7_7,m5001_7_8,m5001_7_9,m5001_7_11,m5001_7_12,m5002,m5003)=>Z47_k4 N m5001_0 m5001_1 m5001_2 m5001_3 m5001_4 m5001_5 m5001_6 m5001_7_0 m5001_7_1 m5001_7_2 m5001_7_3 m5001_7_4 m5001_7_5 m5001_7_6 m5001_7_7 m5001_7_8 m5001_7_9 m5001_7_11 m5001_7_12 m5002 m5003,[5000]⟩
theorem ok_Z47_k4 (N:Nat):ConOk Tryz.prog tx.gl (con_Z47_k4 N):=runF_ok (Y:=tx) (N:=N) (K:=[con_Z55 N]) (an:=an_Z47_k4) tabOk mixOk (ksCons (ok_Z55 N) rn_Z55 ksNil) Tryz.func47 rfl (fun x=>by kernel_rfl)
theorem rn_Z116:Runs Tryz.prog 116:=⟨_,Tryz.func116,by decide,rfl⟩
def con_Z116 (N:Nat):Con:=⟨116,in_Z116,out_Z116,fun x0=>Z116 N x0,[]⟩
theorem ok_Z116 (N:Nat):ConOk Tryz.prog tx.gl (con_Z116 N):=runF_ok (Y:=tx) (N:=N) (K:=[con_Z143 N]) (an:=an_Z116) tabOk mixOk (ksCons (ok_Z143 N) rn_Z143 ksNil) Tryz.func116 rfl (fun x=>by kernel_rfl)
theorem rn_Z117:Runs Tryz.prog 117:=⟨_,Tryz.func117,by decide,rfl⟩
def con_Z117 (N:Nat):Con:=⟨117,in_Z117,out_Z117,fun (x0,x1)=>Z117 N x0 x1,[]⟩
theorem ok_Z117 (N:Nat):ConOk Tryz.prog tx.gl (con_Z117 N):=runF_ok (Y:=tx) (N:=N) (K:=[con_Z143 N,con_Z145 N,con_Z116 N]) (an:=an_Z117) tabOk mixOk (ksCons (ok_Z143 N) rn_Z143 (ksCons (ok_Z145 N) rn_Z145 (ksCons (ok_Z116 N) rn_Z116 ksNil))) Tryz.func117 rfl (fun x=>by kernel_rfl)
theorem rn_Z115_k2:Runs Tryz.prog 115:=⟨_,Tryz.func115,by decide,rfl⟩
def con_Z115_k2 (N:Nat):Con:=⟨115,in_Z115_k2,out_Z115_k2,fun m5000=>Z115_k2 N m5000,[5000]⟩
theorem ok_Z115_k2 (N:Nat):ConOk Tryz.prog tx.gl (con_Z115_k2 N):=runF_ok (Y:=tx) (N:=N) (K:=[]) (an:=an_Z115_k2) tabOk mixOk ksNil Tryz.func115 rfl (fun x=>by kernel_rfl)
theorem rn_Z77:Runs Tryz.prog 77:=⟨_,Tryz.func77,by decide,rfl⟩
def con_Z77 (N:Nat):Con:=⟨77,in_Z77,out_Z77,fun (x0,x1,x2,x3)=>Z77 N x0 x1 x2 x3,[]⟩
theorem ok_Z77 (N:Nat):ConOk Tryz.prog tx.gl (con_Z77 N):=runF_ok (Y:=tx) (N:=N) (K:=[con_Z89 N,con_Z115_k2 N,con_Z116 N,con_Z117 N]) (an:=an_Z77) tabOk mixOk (ksCons (ok_Z89 N) rn_Z89 (ksCons (ok_Z115_k2 N) rn_Z115_k2 (ksCons (ok_Z116 N) rn_Z116 (ksCons (ok_Z117 N) rn_Z117 ksNil)))) Tryz.func77 rfl (fun x=>by kernel_rfl)
theorem rn_Z73_k2:Runs Tryz.prog 73:=⟨_,Tryz.func73,by decide,rfl⟩
def con_Z73_k2 (N:Nat):Con:=⟨73,in_Z73_k2,out_Z73_k2,fun m5000=>Z73_k2 N m5000,[5000]⟩
theorem ok_Z73_k2 (N:Nat):ConOk Tryz.prog tx.gl (con_Z73_k2 N):=runF_ok (Y:=tx) (N:=N) (K:=[con_Z107 N]) (an:=an_Z73_k2) tabOk mixOk (ksCons (ok_Z107 N) rn_Z107 ksNil) Tryz.func73 rfl (fun x=>by kernel_rfl)
theorem rn_Z178:Runs Tryz.prog 178:=⟨_,Tryz.func178,by decide,rfl⟩
def con_Z178 (N:Nat):Con:=⟨178,in_Z178,out_Z178,fun x0=>Z178 N x0,[]⟩
theorem ok_Z178 (N:Nat):ConOk Tryz.prog tx.gl (con_Z178 N):=runF_ok (Y:=tx) (N:=N) (K:=[]) (an:=an_Z178) tabOk mixOk ksNil Tryz.func178 rfl (fun x=>by kernel_rfl)
theorem rn_Z119:Runs Tryz.prog 119:=⟨_,Tryz.func119,by decide,rfl⟩
def con_Z119 (N:Nat):Con:=⟨119,in_Z119,out_Z119,fun x0=>Z119 N x0,[]⟩
theorem ok_Z119 (N:Nat):ConOk Tryz.prog tx.gl (con_Z119 N):=runF_ok (Y:=tx) (N:=N) (K:=[con_Z178 N]) (an:=an_Z119) tabOk mixOk (ksCons (ok_Z178 N) rn_Z178 ksNil) Tryz.func119 rfl (fun x=>by kernel_rfl)
theorem rn_Z120:Runs Tryz.prog 120:=⟨_,Tryz.func120,by decide,rfl⟩
def con_Z120 (N:Nat):Con:=⟨120,in_Z120,out_Z120,fun x0=>Z120 N x0,[]⟩
theorem ok_Z120 (N:Nat):ConOk Tryz.prog tx.gl (con_Z120 N):=runF_ok (Y:=tx) (N:=N) (K:=[]) (an:=an_Z120) tabOk mixOk ksNil Tryz.func120 rfl (fun x=>by kernel_rfl)
theorem rn_Z118:Runs Tryz.prog 118:=⟨_,Tryz.func118,by decide,rfl⟩
def con_Z118 (N:Nat):Con:=⟨118,in_Z118,out_Z118,fun x0=>Z118 N x0,[]⟩
theorem ok_Z118 (N:Nat):ConOk Tryz.prog tx.gl (con_Z118 N):=runF_ok (Y:=tx) (N:=N) (K:=[con_Z119 N,con_Z120 N]) (an:=an_Z118) tabOk mixOk (ksCons (ok_Z119 N) rn_Z119 (ksCons (ok_Z120 N) rn_Z120 ksNil)) Tryz.func118 rfl (fun x=>by kernel_rfl)
theorem rn_Z121:Runs Tryz.prog 121:=⟨_,Tryz.func121,by decide,rfl⟩
def con_Z121 (N:Nat):Con:=⟨121,in_Z121,out_Z121,fun (m5000,m5001)=>Z121 N m5000 m5001,[5000,5001]⟩
theorem ok_Z121 (N:Nat):ConOk Tryz.prog tx.gl (con_Z121 N):=runF_ok (Y:=tx) (N:=N) (K:=[con_Z106 N]) (an:=an_Z121) tabOk mixOk (ksCons (ok_Z106 N) rn_Z106 ksNil) Tryz.func121 rfl (fun x=>by kernel_rfl)
theorem rn_Z78:Runs Tryz.prog 78:=⟨_,Tryz.func78,by decide,rfl⟩
def con_Z78 (N:Nat):Con:=⟨78,in_Z78,out_Z78,fun (x0,x1)=>Z78 N x0 x1,[]⟩
theorem ok_Z78 (N:Nat):ConOk Tryz.prog tx.gl (con_Z78 N):=runF_ok (Y:=tx) (N:=N) (K:=[con_Z118 N,con_Z119 N,con_Z120 N,con_Z121 N]) (an:=an_Z78) tabOk mixOk (ksCons (ok_Z118 N) rn_Z118 (ksCons (ok_Z119 N) rn_Z119 (ksCons (ok_Z120 N) rn_Z120 (ksCons (ok_Z121 N) rn_Z121 ksNil)))) Tryz.func78 rfl (fun x=>by kernel_rfl)
theorem rn_Z58:Runs Tryz.prog 58:=⟨_,Tryz.func58,by decide,rfl⟩
def con_Z58 (N:Nat):Con:=⟨58,in_Z58,out_Z58,fun m5000=>Z58 N m5000,[]⟩
theorem ok_Z58 (N:Nat):ConOk Tryz.prog tx.gl (con_Z58 N):=runF_ok (Y:=tx) (N:=N) (K:=[con_Z77 N,con_Z73_k2 N,con_Z78 N]) (an:=an_Z58) tabOk mixOk (ksCons (ok_Z77 N) rn_Z77 (ksCons (ok_Z73_k2 N) rn_Z73_k2 (ksCons (ok_Z78 N) rn_Z78 ksNil))) Tryz.func58 rfl (fun x=>by kernel_rfl)
theorem rn_Z57:Runs Tryz.prog 57:=⟨_,Tryz.func57,by decide,rfl⟩
def con_Z57 (N:Nat):Con:=⟨57,in_Z57,out_Z57,fun m5001=>Z57 N m5001,[5000]⟩
theorem ok_Z57 (N:Nat):ConOk Tryz.prog tx.gl (con_Z57 N):=runF_ok (Y:=tx) (N:=N) (K:=[con_Z58 N]) (an:=an_Z57) tabOk mixOk (ksCons (ok_Z58 N) rn_Z58 ksNil) Tryz.func57 rfl (fun x=>by kernel_rfl)
theorem rn_Z47_k5:Runs Tryz.prog 47:=⟨_,Tryz.func47,by decide,rfl⟩
def con_Z47_k5 (N:Nat):Con:=⟨47,in_Z47_k5,out_Z47_k5,fun (m5001,m5002)=>Z47_k5 N m5001 m5002,[5000]⟩
theorem ok_Z47_k5 (N:Nat):ConOk Tryz.prog tx.gl (con_Z47_k5 N):=runF_ok (Y:=tx) (N:=N) (K:=[con_Z57 N]) (an:=an_Z47_k5) tabOk mixOk (ksCons (ok_Z57 N) rn_Z57 ksNil) Tryz.func47 rfl (fun x=>by kernel_rfl)
theorem rn_Z46:Runs Tryz.prog 46:=⟨_,Tryz.func46,by decide,rfl⟩
def con_Z46 (N:Nat):Con:=⟨46,in_Z46,out_Z46,fun x0=>Z46 N x0,[]⟩
theorem ok_Z46 (N:Nat):ConOk Tryz.prog tx.gl (con_Z46 N):=runF_ok (Y:=tx) (N:=N) (K:=[]) (an:=an_Z46) tabOk mixOk ksNil Tryz.func46 rfl (fun x=>by kernel_rfl)
theorem rn_Z26_k2:Runs Tryz.prog 26:=⟨_,Tryz.func26,by decide,rfl⟩
def con_Z26_k2 (N:Nat):Con:=⟨26,in_Z26_k2,out_Z26_k2,fun (x0,x1,x2)=>Z26_k2 N x0 x1 x2,[]⟩
theorem ok_Z26_k2 (N:Nat):ConOk Tryz.prog tx.gl (con_Z26_k2 N):=runF_ok (Y:=tx) (N:=N) (K:=[con_Z47 N,con_Z47_k2 N,con_Z47_k3 N,con_Z47_k4 N,con_Z47_k5 N,con_Z46 N]) (an:=an_Z26_k2) tabOk mixOk (ksCons (ok_Z47 N) rn_Z47 (ksCons (ok_Z47_k2 N) rn_Z47_k2 (ksCons (ok_Z47_k3 N) rn_Z47_k3 (ksCons (ok_Z47_k4 N) rn_Z47_k4 (ksCons (ok_Z47_k5 N) rn_Z47_k5 (ksCons (ok_Z46 N) rn_Z46 ksNil)))))) Tryz.func26 rfl (fun x=>by kernel_rfl)
theorem rn_Z79:Runs Tryz.prog 79:=⟨_,Tryz.func79,by decide,rfl⟩
def con_Z79 (N:Nat):Con:=⟨79,in_Z79,out_Z79,fun x0=>Z79 N x0,[]⟩
theorem ok_Z79 (N:Nat):ConOk Tryz.prog tx.gl (con_Z79 N):=runF_ok (Y:=tx) (N:=N) (K:=[]) (an:=an_Z79) tabOk mixOk ksNil Tryz.func79 rfl (fun x=>by kernel_rfl)
theorem rn_Z123:Runs Tryz.prog 123:=⟨_,Tryz.func123,by decide,rfl⟩
def con_Z123 (N:Nat):Con:=⟨123,in_Z123,out_Z123,fun x0=>Z123 N x0,[]⟩
theorem ok_Z123 (N:Nat):ConOk Tryz.prog tx.gl (con_Z123 N):=runF_ok (Y:=tx) (N:=N) (K:=[]) (an:=an_Z123) tabOk mixOk ksNil Tryz.func123 rfl (fun x=>by kernel_rfl)
theorem rn_Z122:Runs Tryz.prog 122:=⟨_,Tryz.func122,by decide,rfl⟩
def con_Z122 (N:Nat):Con:=⟨122,in_Z122,out_Z122,fun (x0,x1)=>Z122 N x0 x1,[]⟩
theorem ok_Z122 (N:Nat):ConOk Tryz.prog tx.gl (con_Z122 N):=runF_ok (Y:=tx) (N:=N) (K:=[]) (an:=an_Z122) tabOk mixOk ksNil Tryz.func122 rfl (fun x=>by kernel_rfl)
theorem rn_Z80:Runs Tryz.prog 80:=⟨_,Tryz.func80,by decide,rfl⟩
def con_Z80_r (N n:Nat):Con:=⟨80,in_Z80,out_Z80,fun x0=>Z80_r N n x0,[]⟩
theorem ok_Z80_r (N:Nat):∀n,ConOk Tryz.prog tx.gl (con_Z80_r N n)
  | 0=>conNone fun _=>rfl
  | n+1=>have ih:=ok_Z80_r N n; runF_ok (Y:=tx) (N:=N) (K:=[con_Z80_r N n,con_Z123 N,con_Z122 N]) (an:=an_Z80) tabOk mixOk (ksCons (ih) rn_Z80 (ksCons (ok_Z123 N) rn_Z123 (ksCons (ok_Z122 N) rn_Z122 ksNil))) Tryz.func80 rfl (fun x=>by kernel_rfl)
def con_Z80 (N:Nat):Con:=con_Z80_r N N
theorem ok_Z80 (N:Nat):ConOk Tryz.prog tx.gl (con_Z80 N):=ok_Z80_r N N
theorem rn_Z59:Runs Tryz.prog 59:=⟨_,Tryz.func59,by decide,rfl⟩
def con_Z59 (N:Nat):Con:=⟨59,in_Z59,out_Z59,fun (x0,x1,x2)=>Z59 N x0 x1 x2,[]⟩
theorem ok_Z59 (N:Nat):ConOk Tryz.prog tx.gl (con_Z59 N):=runF_ok (Y:=tx) (N:=N) (K:=[con_Z79 N,con_Z80 N,con_Z26_k2 N]) (an:=an_Z59) tabOk mixOk (ksCons (ok_Z79 N) rn_Z79 (ksCons (ok_Z80 N) rn_Z80 (ksCons (ok_Z26_k2 N) rn_Z26_k2 ksNil))) Tryz.func59 rfl (fun x=>by kernel_rfl)
theorem rn_Z32:Runs Tryz.prog 32:=⟨_,Tryz.func32,by decide,rfl⟩
def con_Z32 (N:Nat):Con:=⟨32,in_Z32,out_Z32,fun (x0,x1)=>Z32 N x0 x1,[]⟩
theorem ok_Z32 (N:Nat):ConOk Tryz.prog tx.gl (con_Z32 N):=runF_ok (Y:=tx) (N:=N) (K:=[con_Z59 N]) (an:=an_Z32) tabOk mixOk (ksCons (ok_Z59 N) rn_Z59 ksNil) Tryz.func32 rfl (fun x=>by kernel_rfl)
theorem rn_history_Totals:Runs Tryz.prog 15:=⟨_,Tryz.func15,by decide,rfl⟩
def con_history_Totals (N:Nat):Con:=⟨15,in_history_Totals,out_history_Totals,fun x0=>history_Totals N x0,[]⟩
theorem ok_history_Totals (N:Nat):ConOk Tryz.prog tx.gl (con_history_Totals N):=runF_ok (Y:=tx) (N:=N) (K:=[]) (an:=an_history_Totals) tabOk mixOk ksNil Tryz.func15 rfl (fun x=>by kernel_rfl)
theorem rn_billinglaw38_awake:Runs Tryz.prog 14:=⟨_,Tryz.func14,by decide,rfl⟩
def con_billinglaw38_awake (N:Nat):Con:=⟨14,in_billinglaw38_awake,out_billinglaw38_awake,fun _=>billinglaw38_awake N,[]⟩
theorem ok_billinglaw38_awake (N:Nat):ConOk Tryz.prog tx.gl (con_billinglaw38_awake N):=runF_ok (Y:=tx) (N:=N) (K:=[con_Z27 N,con_Z32 N,con_history_Totals N]) (an:=an_billinglaw38_awake) tabOk mixOk (ksCons (ok_Z27 N) rn_Z27 (ksCons (ok_Z32 N) rn_Z32 (ksCons (ok_history_Totals N) rn_history_Totals ksNil))) Tryz.func14 rfl (fun x=>by kernel_rfl)
theorem rn_billingref38_Totals:Runs Tryz.prog 16:=⟨_,Tryz.func16,by decide,rfl⟩
def con_billingref38_Totals (N:Nat):Con:=⟨16,in_billingref38_Totals,out_billingref38_Totals,fun x0=>billingref38_Totals N x0,[]⟩
theorem ok_billingref38_Totals (N:Nat):ConOk Tryz.prog tx.gl (con_billingref38_Totals N):=runF_ok (Y:=tx) (N:=N) (K:=[]) (an:=an_billingref38_Totals) tabOk mixOk ksNil Tryz.func16 rfl (fun x=>by kernel_rfl)
def con_billinglaw38_HistoryTotals (N:Nat):Con:=⟨5,in_billinglaw38_HistoryTotals,out_billinglaw38_HistoryTotals,fun x0=>billinglaw38_HistoryTotals N x0,[]⟩
theorem ok_billinglaw38_HistoryTotals (N:Nat):ConOk Tryz.prog tx.gl (con_billinglaw38_HistoryTotals N):=runF_ok (Y:=tx) (N:=N) (K:=[con_billinglaw38_awake N,con_history_Totals N,con_billingref38_Totals N]) (an:=an_billinglaw38_HistoryTotals) tabOk mixOk (ksCons (ok_billinglaw38_awake N) rn_billinglaw38_awake (ksCons (ok_history_Totals N) rn_history_Totals (ksCons (ok_billingref38_Totals N) rn_billingref38_Totals ksNil))) Tryz.func5 rfl (fun x=>by kernel_rfl)
end Gx
