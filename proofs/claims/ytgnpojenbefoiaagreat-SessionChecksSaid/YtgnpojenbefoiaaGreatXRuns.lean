/- The interpreter gives these functions. -/
import Derived.Test.YtgnpojenbefoiaaGreatXFns
import Derived.Test.YtgnpojenbefoiaaGreatProg
namespace Gx
open Go Gd Go.Proofs
set_option linter.unusedVariables false
noncomputable section
def tab:Tab:=[
 ⟨1,.func ⟨[]⟩ ⟨[]⟩ false,.nilFunc,1,8⟩,
 ⟨2,.int .i64,.int .i64 0,1,8⟩,
 ⟨3,.int .i64,.int .i64 0,1,8⟩,
 ⟨4,.bool,.bool false,1,1⟩,
 ⟨5,.int .u8,.int .u8 0,1,1⟩,
 ⟨9,.string,Yn [],1,16⟩,
 ⟨22,.slice 145,.slice none 0 0,1,24⟩,
 ⟨23,.slice 87,.slice none 0 0,1,24⟩,
 ⟨24,.slice 105,.slice none 0 0,1,24⟩,
 ⟨26,.struct ⟨[⟨"Buckets",22,0,false, "", "",0⟩,⟨"Wallets",23,1,false, "", "",24⟩,⟨"Counters",24,2,false, "", "",48⟩]⟩,.agg ⟨[.slice none 0 0,.slice none 0 0,.slice none 0 0]⟩,3,72⟩,
 ⟨27,.slice 39,.slice none 0 0,1,24⟩,
 ⟨29,.slice 153,.slice none 0 0,1,24⟩,
 ⟨31,.struct ⟨[⟨"Kind",3,0,false, "", "",0⟩,⟨"Zone",9,1,false, "", "",8⟩,⟨"Band",9,2,false, "", "",24⟩,⟨"Setup",3,3,false, "", "",40⟩,⟨"Steps",29,4,false, "", "",48⟩]⟩,.agg ⟨[.int .i64 0,Yn [],Yn [],.int .i64 0,.slice none 0 0]⟩,5,72⟩,
 ⟨33,.struct ⟨[⟨"Account",3,0,false, "", "",0⟩,⟨"Sub",3,1,false, "", "",8⟩,⟨"Kind",3,2,false, "", "",16⟩,⟨"Zone",9,3,false, "", "",24⟩,⟨"Plan",9,4,false, "", "",40⟩,⟨"Version",3,5,false, "", "",56⟩,⟨"Rate",31,6,false, "", "",64⟩,⟨"Free",3,11,false, "", "",136⟩,⟨"Paid",3,12,false, "", "",144⟩]⟩,.agg ⟨[.int .i64 0,.int .i64 0,.int .i64 0,Yn [],Yn [],.int .i64 0,.int .i64 0,Yn [],Yn [],.int .i64 0,.slice none 0 0,.int .i64 0,.int .i64 0]⟩,13,152⟩,
 ⟨34,.slice 91,.slice none 0 0,1,24⟩,
 ⟨35,.int .i64,.int .i64 0,1,8⟩,
 ⟨37,.struct ⟨[⟨"Session",3,0,false, "", "",0⟩,⟨"Seq",3,1,false, "", "",8⟩,⟨"Granted",3,2,false, "", "",16⟩,⟨"Until",3,3,false, "", "",24⟩,⟨"Err",35,4,false, "", "",32⟩]⟩,.agg ⟨[.int .i64 0,.int .i64 0,.int .i64 0,.int .i64 0,.int .i64 0]⟩,5,40⟩,
 ⟨39,.struct ⟨[⟨"Id",3,0,false, "", "",0⟩,⟨"Seq",3,1,false, "", "",8⟩,⟨"Start",3,2,false, "", "",16⟩,⟨"Until",3,3,false, "", "",24⟩,⟨"Meter",33,4,false, "", "",32⟩,⟨"Granted",3,17,false, "", "",184⟩,⟨"Takes",34,18,false, "", "",192⟩,⟨"Held",3,19,false, "", "",216⟩,⟨"Spent",3,20,false, "", "",224⟩,⟨"Closed",4,21,false, "", "",232⟩,⟨"Last",37,22,false, "", "",240⟩]⟩,.agg ⟨[.int .i64 0,.int .i64 0,.int .i64 0,.int .i64 0,.int .i64 0,.int .i64 0,.int .i64 0,Yn [],Yn [],.int .i64 0,.int .i64 0,Yn [],Yn [],.int .i64 0,.slice none 0 0,.int .i64 0,.int .i64 0,.int .i64 0,.slice none 0 0,.int .i64 0,.int .i64 0,.bool false,.int .i64 0,.int .i64 0,.int .i64 0,.int .i64 0,.int .i64 0]⟩,27,280⟩,
 ⟨42,.struct ⟨[⟨"Session",3,0,false, "", "",0⟩,⟨"Seq",3,1,false, "", "",8⟩,⟨"Kind",3,2,false, "", "",16⟩,⟨"At",3,3,false, "", "",24⟩,⟨"Sub",3,4,false, "", "",32⟩,⟨"Usage",3,5,false, "", "",40⟩,⟨"B",9,6,false, "", "",48⟩,⟨"Used",3,7,false, "", "",64⟩,⟨"Ask",3,8,false, "", "",72⟩]⟩,.agg ⟨[.int .i64 0,.int .i64 0,.int .i64 0,.int .i64 0,.int .i64 0,.int .i64 0,Yn [],.int .i64 0,.int .i64 0]⟩,9,80⟩,
 ⟨44,.slice 148,.slice none 0 0,1,24⟩,
 ⟨45,.slice 131,.slice none 0 0,1,24⟩,
 ⟨46,.slice 135,.slice none 0 0,1,24⟩,
 ⟨47,.slice 192,.slice none 0 0,1,24⟩,
 ⟨48,.slice 3,.slice none 0 0,1,24⟩,
 ⟨49,.slice 142,.slice none 0 0,1,24⟩,
 ⟨51,.struct ⟨[⟨"Events",44,0,false, "", "",0⟩,⟨"Tariffs",45,1,false, "", "",24⟩,⟨"Products",46,2,false, "", "",48⟩,⟨"Taxes",47,3,false, "", "",72⟩,⟨"Holidays",48,4,false, "", "",96⟩,⟨"Agreements",49,5,false, "", "",120⟩]⟩,.agg ⟨[.slice none 0 0,.slice none 0 0,.slice none 0 0,.slice none 0 0,.slice none 0 0,.slice none 0 0]⟩,6,144⟩,
 ⟨80,.slice 42,.slice none 0 0,1,24⟩,
 ⟨82,.struct ⟨[⟨"Book",51,0,false, "", "",0⟩,⟨"State",26,6,false, "", "",144⟩,⟨"Requests",80,9,false, "", "",216⟩]⟩,.agg ⟨[.slice none 0 0,.slice none 0 0,.slice none 0 0,.slice none 0 0,.slice none 0 0,.slice none 0 0,.slice none 0 0,.slice none 0 0,.slice none 0 0,.slice none 0 0]⟩,10,240⟩,
 ⟨87,.struct ⟨[⟨"Account",3,0,false, "", "",0⟩,⟨"Balance",3,1,false, "", "",8⟩,⟨"Floor",3,2,false, "", "",16⟩,⟨"Held",3,3,false, "", "",24⟩,⟨"Until",3,4,false, "", "",32⟩]⟩,.agg ⟨[.int .i64 0,.int .i64 0,.int .i64 0,.int .i64 0,.int .i64 0]⟩,5,40⟩,
 ⟨89,.map 3 3,.map none,1,8⟩,
 ⟨91,.struct ⟨[⟨"Sub",3,0,false, "", "",0⟩,⟨"Product",9,1,false, "", "",8⟩,⟨"Index",3,2,false, "", "",24⟩,⟨"From",3,3,false, "", "",32⟩,⟨"Units",3,4,false, "", "",40⟩]⟩,.agg ⟨[.int .i64 0,Yn [],.int .i64 0,.int .i64 0,.int .i64 0]⟩,5,48⟩,
 ⟨92,.map 3 4,.map none,1,8⟩,
 ⟨105,.struct ⟨[⟨"Sub",3,0,false, "", "",0⟩,⟨"Kind",3,1,false, "", "",8⟩,⟨"From",3,2,false, "", "",16⟩,⟨"Units",3,3,false, "", "",24⟩,⟨"Spent",3,4,false, "", "",32⟩]⟩,.agg ⟨[.int .i64 0,.int .i64 0,.int .i64 0,.int .i64 0,.int .i64 0]⟩,5,40⟩,
 ⟨126,.slice 204,.slice none 0 0,1,24⟩,
 ⟨127,.slice 151,.slice none 0 0,1,24⟩,
 ⟨128,.slice 31,.slice none 0 0,1,24⟩,
 ⟨129,.slice 212,.slice none 0 0,1,24⟩,
 ⟨131,.struct ⟨[⟨"Name",9,0,false, "", "",0⟩,⟨"From",3,1,false, "", "",16⟩,⟨"Split",4,2,false, "", "",24⟩,⟨"Zones",126,3,false, "", "",32⟩,⟨"Bands",127,4,false, "", "",56⟩,⟨"Rates",128,5,false, "", "",80⟩,⟨"Discounts",129,6,false, "", "",104⟩]⟩,.agg ⟨[Yn [],.int .i64 0,.bool false,.slice none 0 0,.slice none 0 0,.slice none 0 0,.slice none 0 0]⟩,7,128⟩,
 ⟨133,.slice 138,.slice none 0 0,1,24⟩,
 ⟨135,.struct ⟨[⟨"Name",9,0,false, "", "",0⟩,⟨"From",3,1,false, "", "",16⟩,⟨"Fee",3,2,false, "", "",24⟩,⟨"Category",9,3,false, "", "",32⟩,⟨"Prorate",4,4,false, "", "",48⟩,⟨"Bundles",133,5,false, "", "",56⟩]⟩,.agg ⟨[Yn [],.int .i64 0,.int .i64 0,Yn [],.bool false,.slice none 0 0]⟩,6,80⟩,
 ⟨136,.slice 9,.slice none 0 0,1,24⟩,
 ⟨138,.struct ⟨[⟨"Kind",3,0,false, "", "",0⟩,⟨"Zones",136,1,false, "", "",8⟩,⟨"Units",3,2,false, "", "",32⟩,⟨"Rollover",3,3,false, "", "",40⟩,⟨"Priority",3,4,false, "", "",48⟩,⟨"Shared",4,5,false, "", "",56⟩]⟩,.agg ⟨[.int .i64 0,.slice none 0 0,.int .i64 0,.int .i64 0,.int .i64 0,.bool false]⟩,6,64⟩,
 ⟨140,.struct ⟨[⟨"From",3,0,false, "", "",0⟩,⟨"To",3,1,false, "", "",8⟩]⟩,.agg ⟨[.int .i64 0,.int .i64 0]⟩,2,16⟩,
 ⟨142,.struct ⟨[⟨"Partner",3,0,false, "", "",0⟩,⟨"Kind",3,1,false, "", "",8⟩,⟨"Inbound",4,2,false, "", "",16⟩,⟨"Valid",140,3,false, "", "",24⟩,⟨"Steps",29,5,false, "", "",40⟩,⟨"Cap",3,6,false, "", "",64⟩]⟩,.agg ⟨[.int .i64 0,.int .i64 0,.bool false,.int .i64 0,.int .i64 0,.slice none 0 0,.int .i64 0]⟩,7,72⟩,
 ⟨145,.struct ⟨[⟨"Account",3,0,false, "", "",0⟩,⟨"Sub",3,1,false, "", "",8⟩,⟨"Product",9,2,false, "", "",16⟩,⟨"Index",3,3,false, "", "",32⟩,⟨"Kind",3,4,false, "", "",40⟩,⟨"Zones",136,5,false, "", "",48⟩,⟨"Valid",140,6,false, "", "",72⟩,⟨"Units",3,8,false, "", "",88⟩,⟨"Left",3,9,false, "", "",96⟩,⟨"Priority",3,10,false, "", "",104⟩,⟨"Shared",4,11,false, "", "",112⟩]⟩,.agg ⟨[.int .i64 0,.int .i64 0,Yn [],.int .i64 0,.int .i64 0,.slice none 0 0,.int .i64 0,.int .i64 0,.int .i64 0,.int .i64 0,.int .i64 0,.bool false]⟩,12,120⟩,
 ⟨148,.struct ⟨[⟨"At",3,0,false, "", "",0⟩,⟨"Kind",3,1,false, "", "",8⟩,⟨"Account",3,2,false, "", "",16⟩,⟨"Sub",3,3,false, "", "",24⟩,⟨"Number",9,4,false, "", "",32⟩,⟨"Name",9,5,false, "", "",48⟩,⟨"Value",3,6,false, "", "",64⟩]⟩,.agg ⟨[.int .i64 0,.int .i64 0,.int .i64 0,.int .i64 0,Yn [],Yn [],.int .i64 0]⟩,7,72⟩,
 ⟨149,.slice 266,.slice none 0 0,1,24⟩,
 ⟨151,.struct ⟨[⟨"Name",9,0,false, "", "",0⟩,⟨"Slots",149,1,false, "", "",16⟩]⟩,.agg ⟨[Yn [],.slice none 0 0]⟩,2,40⟩,
 ⟨153,.struct ⟨[⟨"Upto",3,0,false, "", "",0⟩,⟨"Quantum",3,1,false, "", "",8⟩,⟨"Price",3,2,false, "", "",16⟩]⟩,.agg ⟨[.int .i64 0,.int .i64 0,.int .i64 0]⟩,3,24⟩,
 ⟨157,.pointer 162,.pointer none,1,8⟩,
 ⟨162,.struct ⟨[⟨"Session",39,0,true, "", "",0⟩,⟨"state",26,27,false, "", "billing/session",280⟩]⟩,.agg ⟨[.int .i64 0,.int .i64 0,.int .i64 0,.int .i64 0,.int .i64 0,.int .i64 0,.int .i64 0,Yn [],Yn [],.int .i64 0,.int .i64 0,Yn [],Yn [],.int .i64 0,.slice none 0 0,.int .i64 0,.int .i64 0,.int .i64 0,.slice none 0 0,.int .i64 0,.int .i64 0,.bool false,.int .i64 0,.int .i64 0,.int .i64 0,.int .i64 0,.int .i64 0,.slice none 0 0,.slice none 0 0,.slice none 0 0]⟩,30,352⟩,
 ⟨168,.struct ⟨[⟨"sub",3,0,false, "", "billing/bucket",0⟩,⟨"product",9,1,false, "", "billing/bucket",8⟩,⟨"index",3,2,false, "", "billing/bucket",24⟩,⟨"from",3,3,false, "", "billing/bucket",32⟩]⟩,.agg ⟨[.int .i64 0,Yn [],.int .i64 0,.int .i64 0]⟩,4,40⟩,
 ⟨192,.struct ⟨[⟨"Category",9,0,false, "", "",0⟩,⟨"From",3,1,false, "", "",16⟩,⟨"Points",3,2,false, "", "",24⟩]⟩,.agg ⟨[Yn [],.int .i64 0,.int .i64 0]⟩,3,32⟩,
 ⟨204,.struct ⟨[⟨"Name",9,0,false, "", "",0⟩,⟨"Prefixes",136,1,false, "", "",16⟩]⟩,.agg ⟨[Yn [],.slice none 0 0]⟩,2,40⟩,
 ⟨208,.slice 210,.slice none 0 0,1,24⟩,
 ⟨210,.struct ⟨[⟨"Op",3,0,false, "", "",0⟩,⟨"Num",3,1,false, "", "",8⟩,⟨"Text",9,2,false, "", "",16⟩,⟨"Args",208,3,false, "", "",32⟩]⟩,.agg ⟨[.int .i64 0,.int .i64 0,Yn [],.slice none 0 0]⟩,4,56⟩,
 ⟨212,.struct ⟨[⟨"Name",9,0,false, "", "",0⟩,⟨"When",210,1,false, "", "",16⟩,⟨"Points",3,5,false, "", "",72⟩]⟩,.agg ⟨[Yn [],.int .i64 0,.int .i64 0,Yn [],.slice none 0 0,.int .i64 0]⟩,6,80⟩,
 ⟨218,.struct ⟨[⟨"Period",140,0,false, "", "",0⟩,⟨"Plan",9,2,false, "", "",16⟩,⟨"Products",136,3,false, "", "",32⟩,⟨"Suspended",4,4,false, "", "",56⟩,⟨"Family",4,5,false, "", "",57⟩]⟩,.agg ⟨[.int .i64 0,.int .i64 0,Yn [],.slice none 0 0,.bool false,.bool false]⟩,6,64⟩,
 ⟨222,.struct ⟨[⟨"Id",3,0,false, "", "",0⟩,⟨"Account",3,1,false, "", "",8⟩,⟨"Since",3,2,false, "", "",16⟩,⟨"Plan",9,3,false, "", "",24⟩,⟨"Numbers",136,4,false, "", "",40⟩,⟨"Products",136,5,false, "", "",64⟩,⟨"Suspended",4,6,false, "", "",88⟩,⟨"Family",4,7,false, "", "",89⟩]⟩,.agg ⟨[.int .i64 0,.int .i64 0,.int .i64 0,Yn [],.slice none 0 0,.slice none 0 0,.bool false,.bool false]⟩,8,96⟩,
 ⟨239,.struct ⟨[⟨"Id",3,0,false, "", "",0⟩,⟨"Since",3,1,false, "", "",8⟩,⟨"Anchor",3,2,false, "", "",16⟩,⟨"Prepaid",4,3,false, "", "",24⟩,⟨"Closed",4,4,false, "", "",25⟩,⟨"Subs",48,5,false, "", "",32⟩]⟩,.agg ⟨[.int .i64 0,.int .i64 0,.int .i64 0,.bool false,.bool false,.slice none 0 0]⟩,6,56⟩,
 ⟨249,.slice 239,.slice none 0 0,1,24⟩,
 ⟨250,.slice 222,.slice none 0 0,1,24⟩,
 ⟨266,.struct ⟨[⟨"Days",3,0,false, "", "",0⟩,⟨"From",3,1,false, "", "",8⟩,⟨"To",3,2,false, "", "",16⟩]⟩,.agg ⟨[.int .i64 0,.int .i64 0,.int .i64 0]⟩,3,24⟩,
 ⟨281,.slice 218,.slice none 0 0,1,24⟩,
 ⟨285,.struct ⟨[⟨"Accounts",249,0,false, "", "",0⟩,⟨"Subs",250,1,false, "", "",24⟩]⟩,.agg ⟨[.slice none 0 0,.slice none 0 0]⟩,2,48⟩,
 ⟨287,.map 9 9,.map none,1,8⟩,
 ⟨295,.pointer 298,.pointer none,1,8⟩,
 ⟨296,.map 300 4,.map none,1,8⟩,
 ⟨298,.struct ⟨[⟨"list",22,0,false, "", "billing/bundle",0⟩,⟨"has",296,1,false, "", "billing/bundle",24⟩]⟩,.agg ⟨[.slice none 0 0,.map none]⟩,2,32⟩,
 ⟨300,.struct ⟨[⟨"sub",3,0,false, "", "billing/bundle",0⟩,⟨"product",9,1,false, "", "billing/bundle",8⟩,⟨"index",3,2,false, "", "billing/bundle",24⟩,⟨"from",3,3,false, "", "billing/bundle",32⟩]⟩,.agg ⟨[.int .i64 0,Yn [],.int .i64 0,.int .i64 0]⟩,4,40⟩,
 ⟨303,.slice 308,.slice none 0 0,1,24⟩,
 ⟨305,.slice 140,.slice none 0 0,1,24⟩,
 ⟨308,.struct ⟨[⟨"account",3,0,false, "", "billing/bundle",0⟩,⟨"sub",3,1,false, "", "billing/bundle",8⟩,⟨"product",9,2,false, "", "billing/bundle",16⟩,⟨"active",305,3,false, "", "billing/bundle",32⟩]⟩,.agg ⟨[.int .i64 0,.int .i64 0,Yn [],.slice none 0 0]⟩,4,56⟩,
 ⟨309,.slice 312,.slice none 0 0,1,24⟩,
 ⟨312,.struct ⟨[⟨"bucket",145,0,false, "", "billing/bundle",0⟩,⟨"rollover",3,12,false, "", "billing/bundle",120⟩]⟩,.agg ⟨[.int .i64 0,.int .i64 0,Yn [],.int .i64 0,.int .i64 0,.slice none 0 0,.int .i64 0,.int .i64 0,.int .i64 0,.int .i64 0,.int .i64 0,.bool false,.int .i64 0]⟩,13,128⟩,
 ⟨321,.struct ⟨[⟨"Meter",33,0,true, "", "",0⟩]⟩,.agg ⟨[.int .i64 0,.int .i64 0,.int .i64 0,Yn [],Yn [],.int .i64 0,.int .i64 0,Yn [],Yn [],.int .i64 0,.slice none 0 0,.int .i64 0,.int .i64 0]⟩,13,152⟩,
 ⟨329,.func ⟨[87]⟩ ⟨[4]⟩ false,.nilFunc,1,8⟩,
 ⟨334,.int .u64,.int .u64 0,1,8⟩,
 ⟨359,.slice 362,.slice none 0 0,1,24⟩,
 ⟨362,.struct ⟨[⟨"at",3,0,false, "", "billing/subscribe",0⟩,⟨"s",222,1,false, "", "billing/subscribe",8⟩]⟩,.agg ⟨[.int .i64 0,.int .i64 0,.int .i64 0,.int .i64 0,Yn [],.slice none 0 0,.slice none 0 0,.bool false,.bool false]⟩,9,104⟩,
 ⟨365,.func ⟨[362,362]⟩ ⟨[4]⟩ false,.nilFunc,1,8⟩,
 ⟨366,.func ⟨[362,362]⟩ ⟨[362]⟩ false,.nilFunc,1,8⟩,
 ⟨367,.pointer 430,.pointer none,1,8⟩,
 ⟨374,.func ⟨[204]⟩ ⟨[4]⟩ false,.nilFunc,1,8⟩,
 ⟨376,.func ⟨[151]⟩ ⟨[4]⟩ false,.nilFunc,1,8⟩,
 ⟨378,.func ⟨[266]⟩ ⟨[4]⟩ false,.nilFunc,1,8⟩,
 ⟨381,.map 9 92,.map none,1,8⟩,
 ⟨394,.int .i64,.int .i64 0,1,8⟩,
 ⟨401,.int .u32,.int .u32 0,1,4⟩,
 ⟨403,.int .u64,.int .u64 0,1,8⟩,
 ⟨422,.array 2 3,.agg ⟨[.int .i64 0,.int .i64 0]⟩,2,16⟩,
 ⟨426,.map 3 239,.map none,1,8⟩,
 ⟨427,.map 3 222,.map none,1,8⟩,
 ⟨428,.map 9 3,.map none,1,8⟩,
 ⟨430,.struct ⟨[⟨"accounts",426,0,false, "", "billing/customer",0⟩,⟨"subs",427,1,false, "", "billing/customer",8⟩,⟨"ever",92,2,false, "", "billing/customer",16⟩,⟨"owners",428,3,false, "", "billing/customer",24⟩,⟨"live",89,4,false, "", "billing/customer",32⟩,⟨"opened",48,5,false, "", "billing/customer",40⟩,⟨"added",48,6,false, "", "billing/customer",64⟩]⟩,.agg ⟨[.map none,.map none,.map none,.map none,.map none,.slice none 0 0,.slice none 0 0]⟩,7,88⟩,
 ⟨432,.map 3 48,.map none,1,8⟩,
 ⟨439,.func ⟨[4,4]⟩ ⟨[4]⟩ false,.nilFunc,1,8⟩,
 ⟨468,.slice 470,.slice none 0 0,1,24⟩,
 ⟨470,.struct ⟨[⟨"at",3,0,false, "", "billing/interval",0⟩,⟨"list",3,1,false, "", "billing/interval",8⟩,⟨"by",3,2,false, "", "billing/interval",16⟩]⟩,.agg ⟨[.int .i64 0,.int .i64 0,.int .i64 0]⟩,3,24⟩,
 ⟨473,.func ⟨[470,470]⟩ ⟨[3]⟩ false,.nilFunc,1,8⟩]
def tx:TX:=⟨tab,[(1,.ref),(2,(.int .i64)),(3,(.int .i64)),(4,.bool),(5,(.int .u8)),(9,.str),(22,(.sl Qg)),(23,(.sl Ql)),(24,(.sl Qp)),(26,Ye),(27,(.sl Qz)),(29,(.sl Yp)),(31,Zv),(33,Yf),(34,(.sl Jr)),(35,(.int .i64)),(37,Jh),(39,Qz),(42,Vx),(44,(.sl J5)),(45,(.sl Xz)),(46,(.sl Hp)),(47,(.sl Qai)),(48,(.sl (.int .i64))),(49,(.sl Ek)),(51,K7),(80,(.sl Vx)),(82,El),(87,Ql),(89,.ref),(91,Jr),(92,.ref),(105,Qp),(126,(.sl Ai)),(127,(.sl Vo)),(128,(.sl Zv)),(129,(.sl Fs)),(131,Xz),(133,(.sl Dv)),(135,Hp),(136,(.sl .str)),(138,Dv),(140,Yc),(142,Ek),(145,Qg),(148,J5),(149,(.sl Ge)),(151,Vo),(153,Yp),(157,.ref),(162,P5),(168,Aj),(192,Qai),(204,Ai),(208,(.sl Oe)),(210,Oe),(212,Fs),(218,Z8),(222,Y7),(239,Yd),(249,(.sl Yd)),(250,(.sl Y7)),(266,Ge),(281,(.sl Z8)),(285,Qaj),(287,.ref),(295,.ref),(296,.ref),(298,Qbl),(300,Of),(303,(.sl Hd)),(305,(.sl Yc)),(308,Hd),(309,(.sl Ce)),(312,Ce),(321,Xk),(329,.ref),(334,(.int .u64)),(359,(.sl Yi)),(362,Yi),(365,.ref),(366,.ref),(367,.ref),(374,.ref),(376,.ref),(378,.ref),(381,.ref),(394,(.int .i64)),(401,(.int .u32)),(403,(.int .u64)),(422,(.arr 2 (.int .i64))),(426,.ref),(427,.ref),(428,.ref),(430,P6),(432,.ref),(439,.ref),(468,(.sl Vb)),(470,Vb),(473,.ref)],[]⟩
theorem Qq:Tryz.prog.follows .mixedOrders=true:=by kernel_rfl
theorem Qr:Q0 Tryz.prog tab:=⟨⟨⟨by kernel_rfl,by kernel_rfl⟩,by kernel_rfl⟩,⟨⟨by kernel_rfl,by kernel_rfl⟩,by kernel_rfl⟩,⟨⟨by kernel_rfl,by kernel_rfl⟩,by kernel_rfl⟩,⟨⟨by kernel_rfl,by kernel_rfl⟩,by kernel_rfl⟩,⟨⟨by kernel_rfl,by kernel_rfl⟩,by kernel_rfl⟩,⟨⟨by kernel_rfl,by kernel_rfl⟩,by kernel_rfl⟩,⟨⟨by kernel_rfl,by kernel_rfl⟩,by kernel_rfl⟩,⟨⟨by kernel_rfl,by kernel_rfl⟩,by kernel_rfl⟩,⟨⟨by kernel_rfl,by kernel_rfl⟩,by kernel_rfl⟩,⟨⟨by kernel_rfl,by kernel_rfl⟩,by kernel_rfl⟩,⟨⟨by kernel_rfl,by kernel_rfl⟩,by kernel_rfl⟩,⟨⟨by kernel_rfl,by kernel_rfl⟩,by kernel_rfl⟩,⟨⟨by kernel_rfl,by kernel_rfl⟩,by kernel_rfl⟩,⟨⟨by kernel_rfl,by kernel_rfl⟩,by kernel_rfl⟩,⟨⟨by kernel_rfl,by kernel_rfl⟩,by kernel_rfl⟩,⟨⟨by kernel_rfl,by kernel_rfl⟩,by kernel_rfl⟩,⟨⟨by kernel_rfl,by kernel_rfl⟩,by kernel_rfl⟩,⟨⟨by kernel_rfl,by kernel_rfl⟩,by kernel_rfl⟩,⟨⟨by kernel_rfl,by kernel_rfl⟩,by kernel_rfl⟩,⟨⟨by kernel_rfl,by kernel_rfl⟩,by kernel_rfl⟩,⟨⟨by kernel_rfl,by kernel_rfl⟩,by kernel_rfl⟩,⟨⟨by kernel_rfl,by kernel_rfl⟩,by kernel_rfl⟩,⟨⟨by kernel_rfl,by kernel_rfl⟩,by kernel_rfl⟩,⟨⟨by kernel_rfl,by kernel_rfl⟩,by kernel_rfl⟩,⟨⟨by kernel_rfl,by kernel_rfl⟩,by kernel_rfl⟩,⟨⟨by kernel_rfl,by kernel_rfl⟩,by kernel_rfl⟩,⟨⟨by kernel_rfl,by kernel_rfl⟩,by kernel_rfl⟩,⟨⟨by kernel_rfl,by kernel_rfl⟩,by kernel_rfl⟩,⟨⟨by kernel_rfl,by kernel_rfl⟩,by kernel_rfl⟩,⟨⟨by kernel_rfl,by kernel_rfl⟩,by kernel_rfl⟩,⟨⟨by kernel_rfl,by kernel_rfl⟩,by kernel_rfl⟩,⟨⟨by kernel_rfl,by kernel_rfl⟩,by kernel_rfl⟩,⟨⟨by kernel_rfl,by kernel_rfl⟩,by kernel_rfl⟩,⟨⟨by kernel_rfl,by kernel_rfl⟩,by kernel_rfl⟩,⟨⟨by kernel_rfl,by kernel_rfl⟩,by kernel_rfl⟩,⟨⟨by kernel_rfl,by kernel_rfl⟩,by kernel_rfl⟩,⟨⟨by kernel_rfl,by kernel_rfl⟩,by kernel_rfl⟩,⟨⟨by kernel_rfl,by kernel_rfl⟩,by kernel_rfl⟩,⟨⟨by kernel_rfl,by kernel_rfl⟩,by kernel_rfl⟩,⟨⟨by kernel_rfl,by kernel_rfl⟩,by kernel_rfl⟩,⟨⟨by kernel_rfl,by kernel_rfl⟩,by kernel_rfl⟩,⟨⟨by kernel_rfl,by kernel_rfl⟩,by kernel_rfl⟩,⟨⟨by kernel_rfl,by kernel_rfl⟩,by kernel_rfl⟩,⟨⟨by kernel_rfl,by kernel_rfl⟩,by kernel_rfl⟩,⟨⟨by kernel_rfl,by kernel_rfl⟩,by kernel_rfl⟩,⟨⟨by kernel_rfl,by kernel_rfl⟩,by kernel_rfl⟩,⟨⟨by kernel_rfl,by kernel_rfl⟩,by kernel_rfl⟩,⟨⟨by kernel_rfl,by kernel_rfl⟩,by kernel_rfl⟩,⟨⟨by kernel_rfl,by kernel_rfl⟩,by kernel_rfl⟩,⟨⟨by kernel_rfl,by kernel_rfl⟩,by kernel_rfl⟩,⟨⟨by kernel_rfl,by kernel_rfl⟩,by kernel_rfl⟩,⟨⟨by kernel_rfl,by kernel_rfl⟩,by kernel_rfl⟩,⟨⟨by kernel_rfl,by kernel_rfl⟩,by kernel_rfl⟩,⟨⟨by kernel_rfl,by kernel_rfl⟩,by kernel_rfl⟩,⟨⟨by kernel_rfl,by kernel_rfl⟩,by kernel_rfl⟩,⟨⟨by kernel_rfl,by kernel_rfl⟩,by kernel_rfl⟩,⟨⟨by kernel_rfl,by kernel_rfl⟩,by kernel_rfl⟩,⟨⟨by kernel_rfl,by kernel_rfl⟩,by kernel_rfl⟩,⟨⟨by kernel_rfl,by kernel_rfl⟩,by kernel_rfl⟩,⟨⟨by kernel_rfl,by kernel_rfl⟩,by kernel_rfl⟩,⟨⟨by kernel_rfl,by kernel_rfl⟩,by kernel_rfl⟩,⟨⟨by kernel_rfl,by kernel_rfl⟩,by kernel_rfl⟩,⟨⟨by kernel_rfl,by kernel_rfl⟩,by kernel_rfl⟩,⟨⟨by kernel_rfl,by kernel_rfl⟩,by kernel_rfl⟩,⟨⟨by kernel_rfl,by kernel_rfl⟩,by kernel_rfl⟩,⟨⟨by kernel_rfl,by kernel_rfl⟩,by kernel_rfl⟩,⟨⟨by kernel_rfl,by kernel_rfl⟩,by kernel_rfl⟩,⟨⟨by kernel_rfl,by kernel_rfl⟩,by kernel_rfl⟩,⟨⟨by kernel_rfl,by kernel_rfl⟩,by kernel_rfl⟩,⟨⟨by kernel_rfl,by kernel_rfl⟩,by kernel_rfl⟩,⟨⟨by kernel_rfl,by kernel_rfl⟩,by kernel_rfl⟩,⟨⟨by kernel_rfl,by kernel_rfl⟩,by kernel_rfl⟩,⟨⟨by kernel_rfl,by kernel_rfl⟩,by kernel_rfl⟩,⟨⟨by kernel_rfl,by kernel_rfl⟩,by kernel_rfl⟩,⟨⟨by kernel_rfl,by kernel_rfl⟩,by kernel_rfl⟩,⟨⟨by kernel_rfl,by kernel_rfl⟩,by kernel_rfl⟩,⟨⟨by kernel_rfl,by kernel_rfl⟩,by kernel_rfl⟩,⟨⟨by kernel_rfl,by kernel_rfl⟩,by kernel_rfl⟩,⟨⟨by kernel_rfl,by kernel_rfl⟩,by kernel_rfl⟩,⟨⟨by kernel_rfl,by kernel_rfl⟩,by kernel_rfl⟩,⟨⟨by kernel_rfl,by kernel_rfl⟩,by kernel_rfl⟩,⟨⟨by kernel_rfl,by kernel_rfl⟩,by kernel_rfl⟩,⟨⟨by kernel_rfl,by kernel_rfl⟩,by kernel_rfl⟩,⟨⟨by kernel_rfl,by kernel_rfl⟩,by kernel_rfl⟩,⟨⟨by kernel_rfl,by kernel_rfl⟩,by kernel_rfl⟩,⟨⟨by kernel_rfl,by kernel_rfl⟩,by kernel_rfl⟩,⟨⟨by kernel_rfl,by kernel_rfl⟩,by kernel_rfl⟩,⟨⟨by kernel_rfl,by kernel_rfl⟩,by kernel_rfl⟩,⟨⟨by kernel_rfl,by kernel_rfl⟩,by kernel_rfl⟩,⟨⟨by kernel_rfl,by kernel_rfl⟩,by kernel_rfl⟩,⟨⟨by kernel_rfl,by kernel_rfl⟩,by kernel_rfl⟩,⟨⟨by kernel_rfl,by kernel_rfl⟩,by kernel_rfl⟩,⟨⟨by kernel_rfl,by kernel_rfl⟩,by kernel_rfl⟩,⟨⟨by kernel_rfl,by kernel_rfl⟩,by kernel_rfl⟩,⟨⟨by kernel_rfl,by kernel_rfl⟩,by kernel_rfl⟩,⟨⟨by kernel_rfl,by kernel_rfl⟩,by kernel_rfl⟩,⟨⟨by kernel_rfl,by kernel_rfl⟩,by kernel_rfl⟩,⟨⟨by kernel_rfl,by kernel_rfl⟩,by kernel_rfl⟩,⟨⟨by kernel_rfl,by kernel_rfl⟩,by kernel_rfl⟩,⟨⟨by kernel_rfl,by kernel_rfl⟩,by kernel_rfl⟩,trivial⟩
def Q8s:An:=.t 1 (.t 18 (.nil))
def Q8t:Shp:=⟨[],[]⟩
def Qys:Shp:=⟨[(0,.d El)],[]⟩
def Qyt:An:=.t 1 (.t 7 (.nil))
def Qyu:Shp:=⟨[(0,.d (.int .u8))],[]⟩
def Qtk:Shp:=⟨[(0,.d .bool)],[]⟩
def Qyv:An:=.t 1 (.two (.t 3 (.un (.lp [0,5] [] ⟨[(6,.d .i)],[]⟩ [(.x 0,⟨[],[]⟩)] (.t 1 (.two (.two (.nil) (.nil)) (.two (.un (.t 2 (.two (.reg (.n 3 (.call 0 (.n 1 .done)))) (.two (.gh (.tl .done) .nil) (.nil))))) (.reg (.n 2 .done)))))))) (.t 9 (.nil)))
def Qyw:Shp:=⟨[(0,.d .str)],[]⟩
def Qtl:Shp:=⟨[(0,.d .bool)],[]⟩
def Qyx:An:=.t 3 (.two (.t 2 (.un (.t 2 (.two (.t 10 (.nil)) (.gh (.tl .done) .nil))))) (.nil))
def Qyy:Shp:=⟨[(0,.d Y7),(1,.d J5)],[]⟩
def Qtm:Shp:=⟨[(0,.d Y7)],[]⟩
def Qyz:An:=.t 1 (.t 1 (.t 1 (.two (.t 3 (.un (.lp [1,10,11] [] ⟨[(5,.s 100000),(6,.p 100001 []),(12,.d .i)],[(100000,.row 362 Yi),(100001,.var 222 (.d Y7))]⟩ [(.x 0,⟨[(5,.s 100300)],[(100300,.row 362 Yi)]⟩)] (.t 1 (.two (.two (.nil) (.nil)) (.two (.jn [12] [] [(.n,⟨[(5,.s 100200),(6,.p 100201 [])],[(100200,.row 362 Yi),(100201,.var 222 (.d Y7))]⟩)] (.un (.t 4 (.two (.t 8 (.two (.nil) (.nil))) (.two (.reg (.n 2 (.call 0 (.n 1 .done)))) (.t 3 (.two (.dr 13 (.n 3 (.sp 31 10 [5,6,8,9,12] [8,100000,100001] ⟨[(41,.d .bool)],[]⟩ (.tl .done) (.nl 9 (.n 1 .done)) (.done))) (.done)) (.two (.gh (.tl .done) .nil) (.reg (.n 8 .done)))))))))) (.reg (.n 2 .done)))))))) (.t 2 (.nil)))))
def Qy0:Shp:=⟨[(0,.d (.sl J5)),(1,.d .i)],[]⟩
def Qtn:Shp:=⟨[(0,.s 1)],[(1,.row 362 Yi)]⟩
def Qy1:An:=.t 1 (.t 1 (.two (.t 3 (.un (.lp [1,11,12] [] ⟨[(7,.s 100000),(13,.d .i)],[(100000,.row 362 Yi)]⟩ [(.x 0,⟨[(7,.s 100100)],[(100100,.row 362 Yi)]⟩)] (.t 1 (.two (.two (.nil) (.nil)) (.two (.un (.t 4 (.t 3 (.two (.dm 10 [19,20,21,22,23,24,25,26,27,28] [] (.n 3 (.so 21 (.tl .done) (.n 7 (.tl (.nl 1 (.n 1 .done))))))) (.two (.nil) (.reg (.n 5 .done))))))) (.reg (.n 2 .done)))))))) (.t 2 (.nil))))
def Qy2:Shp:=⟨[(0,.d (.sl Yi)),(1,.f 231 (.nil)),(2,.f 233 (.nil))],[]⟩
def Qto:Shp:=⟨[(0,.s 1)],[(1,.row 362 Yi)]⟩
def Qy3:An:=.t 1 (.two (.reg (.n 2 (.call 0 (.call 1 (.n 1 .done))))) (.t 1 (.two (.t 3 (.un (.lp [5,14,15] [11201,11301] ⟨[(6,.s 100000),(16,.d .i)],[(100000,.row 218 Z8)]⟩ [(.x 0,⟨[(6,.s 100100)],[(100100,.row 218 Z8)]⟩)] (.t 1 (.two (.two (.nil) (.nil)) (.two (.un (.t 6 (.two (.t 4 (.two (.gh (.tl .done) .nil) (.nil))) (.t 5 (.two (.t 5 (.two (.gh (.tl .done) .nil) (.nil))) (.dc 17 [40,41,42,43,44,45,46,47,48,49,50,51,52,53,54,55,56] [9,8] [] (.op ⟨.nl 1 .done,[],[],[],[100000]⟩ (.op ⟨.nl 1 .done,[],[9],[],[]⟩ (.op ⟨.nl 1 .done,[],[],[],[8]⟩ (.op ⟨.nl 1 .done,[],[],[],[8]⟩ (.op ⟨.nl 1 .done,[],[8],[],[]⟩ (.op ⟨.nl 1 .done,[],[],[],[8]⟩ (.op ⟨.nl 1 .done,[],[],[],[8]⟩ (.op ⟨.nl 1 .done,[],[8],[],[]⟩ (.op ⟨.nl 1 .done,[],[],[48],[48]⟩ (.op ⟨.nl 1 .done,[],[],[],[8]⟩ (.op ⟨.nl 1 .done,[],[],[],[8]⟩ (.op ⟨.nl 1 .done,[],[8],[],[]⟩ (.op ⟨.nl 1 .done,[],[],[],[8]⟩ (.op ⟨.nl 1 .done,[],[],[],[8]⟩ (.op ⟨.nl 1 .done,[],[8],[],[]⟩ (.op ⟨.nl 1 .done,[],[],[],[48]⟩ (.op ⟨.fz 48 (.nl 1 .done),[48],[],[],[48]⟩ (.tl (.n 2 .done))))))))))))))))))))))))) (.reg (.n 2 .done)))))))) (.t 2 (.nil)))))
def Qy4:Shp:=⟨[(0,.d (.sl J5)),(1,.d .i)],[]⟩
def Qtp:Shp:=⟨[(0,.s 1)],[(1,.row 218 Z8)]⟩
def Qy5:An:=.t 2 (.t 16 (.nil))
def Qy6:Shp:=⟨[(0,.d Yc)],[]⟩
def Qtq:Shp:=⟨[(0,.d .bool)],[]⟩
def Qy7:An:=.t 2 (.two (.reg (.n 1 (.call 0 (.n 13 .done)))) (.nil))
def Qy8:Shp:=⟨[(0,.d Yc),(1,.d .i)],[]⟩
def Qtr:Shp:=⟨[(0,.d .bool)],[]⟩
def Qy9:An:=.t 2 (.two (.two (.reg (.n 2 (.call 0 (.n 2 .done)))) (.un (.lp [2,12,13,14] [11201] ⟨[(6,.p 100000 [])],[(100000,.var 218 (.ag (.cons (.d Yc) (.cons (.d .str) (.cons (.ns) (.cons (.d .bool) (.cons (.d .bool) (.nil))))))))]⟩ [(.r,⟨[(6,.p 100100 []),(7,.d .bool)],[(100100,.var 218 (.d Z8))]⟩)] (.t 1 (.two (.two (.nil) (.gh (.tl .done) .nil)) (.two (.un (.t 4 (.two (.reg (.n 3 (.call 1 (.done)))) (.two (.t 3 (.nil)) (.gh (.tl .done) .nil))))) (.nil))))))) (.nil))
def Qza:Shp:=⟨[(0,.d (.sl J5)),(1,.d .i),(2,.d .i)],[]⟩
def Qts:Shp:=⟨[(0,.d Z8),(1,.d .bool)],[]⟩
def Qzb:An:=.t 1 (.t 8 (.nil))
def Qzc:Shp:=⟨[],[]⟩
def Qtt:Shp:=⟨[(0,.p 1 [])],[(1,.var 430 (.ag (.cons (.m 2) (.cons (.m 3) (.cons (.m 4) (.cons (.m 5) (.cons (.m 6) (.cons (.ns) (.cons (.ns) (.nil)))))))))),(2,.map .i Yd),(3,.map .i Y7),(4,.map .i .bool),(5,.map .str .i),(6,.map .i .i)]⟩
def Qzd:An:=.t 3 (.t 2 (.nil))
def Qze:Shp:=⟨[(0,.d (.sl J5)),(1,.d .i)],[]⟩
def Qtu:Shp:=⟨[(0,.f 314 (.cons (.p 1 []) (.cons (.p 2 []) (.nil))))],[(1,.var 44 (.d (.sl J5))),(2,.var 3 (.d .i))]⟩
def Qzf:AnY:=.two (.reg (.n 3 .done)) (.un (.lp [2,6,7] [] ⟨[(8,.d .i)],[]⟩ [(.x 0,⟨[],[]⟩)] (.two (.reg (.n 1 .done)) (.two (.two (.nil) (.nil)) (.two (.un (.two (.reg (.n 4 .done)) (.two (.yr (.h 5 (.n 5 .done) (.so 16 (.mv (.h 1 (.nl 1 .done) (.yl (.h 2 (.nl 1 (.n 1 .done)) (.done))))) (.h 5 (.nl 4 (.n 1 .done)) (.done))))) (.two (.yr .done) (.nil))))) (.reg (.n 2 .done)))))))
def Qzg:An:=.t 1 (.t 1 (.two (.un (.lp [0,1,5] [] ⟨[],[]⟩ [(.x 0,⟨[],[]⟩)] (.two (.two (.reg (.n 5 (.sp 11 7 [] [] ⟨[(18,.d .bool)],[]⟩ (.tl .done) (.nl 6 (.n 1 .done)) (.done)))) (.two (.gh (.tl .done) .nil) (.nil))) (.nil)))) (.t 5 (.t 5 (.t 6 (.nil))))))
def Qzh:Shp:=⟨[(0,.d (.sl .i)),(1,.d .i)],[]⟩
def Qtv:Shp:=⟨[(0,.d (.sl .i))],[]⟩
def Qkm:An:=.t 1 (.t 2 (.un (.t 2 (.two (.two (.two (.dm 12 [38,39,40,41,42,43,44,37,45,46,4,1000000011] [] (.n 12 (.tl (.n 1 .done)))) (.t 2 (.two (.dm 8 [49,50,51,52,53,54,55,56] [] (.n 7 (.call 0 (.tl (.n 3 .done))))) (.gh (.tl .done) .nil)))) (.dr 16 (.n 16 .done) (.n 1 .done))) (.t 2 (.two (.gh (.tl .done) .nil) (.t 2 (.two (.two (.two (.dr 8 (.n 8 .done) (.done)) (.two (.dm 8 [102,103,104,105,106,107,108,109] [] (.n 7 (.call 0 (.tl (.n 3 .done))))) (.gh (.tl .done) .nil))) (.two (.dr 6 (.n 6 .done) (.n 1 .done)) (.two (.dr 8 (.n 8 .done) (.n 1 .done)) (.dr 15 (.n 15 .done) (.n 1 .done))))) (.t 2 (.two (.gh (.tl .done) .nil) (.two (.t 2 (.two (.nil) (.gh (.tl .done) .nil))) (.two (.nil) (.gh (.tl .done) .nil)))))))))))))
def Qkn:Shp:=⟨[(0,.p 5000 []),(1,.d J5)],[(5000,.var 430 (.ag (.cons (.m 5001) (.cons (.m 5002) (.cons (.m 5003) (.cons (.m 5004) (.cons (.m 5005) (.cons (.d (.sl .i)) (.cons (.d (.sl .i)) (.nil)))))))))),(5001,.map .i Yd),(5002,.map .i Y7),(5003,.map .i .bool),(5004,.map .str .i),(5005,.map .i .i)]⟩
def Qgw:Shp:=⟨[],[(5000,.var 430 (.ag (.cons (.m 5001) (.cons (.m 5002) (.cons (.m 5003) (.cons (.m 5004) (.cons (.m 5005) (.cons (.d (.sl .i)) (.cons (.d (.sl .i)) (.nil)))))))))),(5001,.map .i Yd),(5002,.map .i Y7),(5003,.map .i .bool),(5004,.map .str .i),(5005,.map .i .i)]⟩
def Qzi:An:=.t 1 (.t 1 (.two (.reg (.n 1 (.mt 12 [] 3 (.n 1 .done)))) (.two (.t 6 (.un (.lp [0,16,17] [] ⟨[(2,.p 100000 []),(3,.p 100001 []),(4,.m 100002),(18,.d .i)],[(100000,.var 285 (.ag (.cons (.ns) (.cons (.ns) (.nil))))),(100001,.var 285 (.ag (.cons (.ns) (.cons (.s 100003) (.nil))))),(100002,.mapT .i (.sl .i) [] 3 .i),(100003,.row 222 Y7)]⟩ [(.x 0,⟨[(2,.p 100100 []),(3,.p 100101 []),(4,.m 100102)],[(100100,.var 285 (.ag (.cons (.ns) (.cons (.ns) (.nil))))),(100101,.var 285 (.ag (.cons (.ns) (.cons (.s 100103) (.nil))))),(100102,.mapT .i (.sl .i) [] 3 .i),(100103,.row 222 Y7)]⟩)] (.t 1 (.two (.two (.nil) (.nil)) (.two (.un (.t 3 (.t 12 (.two (.t 2 (.two (.gh (.tl .done) .nil) (.nil))) (.two (.gh (.op (.v 7 [.f 1 1]) 100002 700000 (.done)) (.dm 10 [33,34,35,36,37,38,39,40,41,42] [700000] (.n 10 (.tl (.n 1 .done))))) (.reg (.n 7 .done))))))) (.reg (.n 2 .done)))))))) (.two (.t 6 (.un (.lp [0,2,4,53,54] [100100,100102] ⟨[(3,.p 100200 []),(55,.d .i)],[(100200,.var 285 (.ag (.cons (.s 100201) (.cons (.s 100202) (.nil))))),(100201,.row 239 Yd),(100202,.row 222 Y7)]⟩ [(.x 2,⟨[(3,.p 100300 [])],[(100300,.var 285 (.ag (.cons (.s 100301) (.cons (.s 100302) (.nil))))),(100301,.row 239 Yd),(100302,.row 222 Y7)]⟩)] (.t 1 (.two (.two (.nil) (.nil)) (.two (.un (.t 3 (.t 8 (.t 5 (.reg (.n 7 .done)))))) (.reg (.n 2 .done)))))))) (.t 2 (.gh (.fm 100102 (.done)) .nil))))))
def Qzj:Shp:=⟨[(0,.p 5000 [])],[(5000,.var 430 (.ag (.cons (.m 5001) (.cons (.m 5002) (.cons (.m 5003) (.cons (.m 5004) (.cons (.m 5005) (.cons (.d (.sl .i)) (.cons (.d (.sl .i)) (.nil)))))))))),(5001,.map .i Yd),(5002,.map .i Y7),(5003,.map .i .bool),(5004,.map .str .i),(5005,.map .i .i)]⟩
def Qtw:Shp:=⟨[(0,.ag (.cons (.s 1) (.cons (.s 2) (.nil))))],[(1,.row 239 Yd),(2,.row 222 Y7)]⟩
def Qzk:AnR:=.pre (.reg (.n 1 .done)) (.pre (.reg (.call 0 (.n 2 .done))) (.inn (.pre (.reg (.n 2 (.call 1 (.done)))) (.un (.rf 0 [4,5] [4,5] ⟨[],[(10701,.var 430 (.ag (.cons (.m 100001) (.cons (.m 100002) (.cons (.m 100003) (.cons (.m 100004) (.cons (.m 100005) (.cons (.d (.sl .i)) (.cons (.d (.sl .i)) (.nil)))))))))),(100001,.map .i Yd),(100002,.map .i Y7),(100003,.map .i .bool),(100004,.map .str .i),(100005,.map .i .i)]⟩ (.reg (.n 2 .done)) (.un (.reg (.n 2 (.call 2 (.done)))))))) (.two (.reg (.n 1 (.call 3 (.n 1 .done)))) (.nil))))
def Qzl:Shp:=⟨[(0,.d (.sl J5)),(1,.d .i)],[]⟩
def Qtx:Shp:=⟨[(0,.ag (.cons (.s 1) (.cons (.s 2) (.nil))))],[(1,.row 239 Yd),(2,.row 222 Y7)]⟩
def Qzm:An:=.t 2 (.two (.two (.reg (.n 2 (.call 0 (.n 3 .done)))) (.un (.lp [1,13,14,15] [11201,11202] ⟨[(6,.p 100000 [])],[(100000,.var 222 (.ag (.cons (.d .i) (.cons (.d .i) (.cons (.d .i) (.cons (.d .str) (.cons (.ns) (.cons (.ns) (.cons (.d .bool) (.cons (.d .bool) (.nil)))))))))))]⟩ [(.r,⟨[(6,.p 100100 []),(7,.d .bool)],[(100100,.var 222 (.d Y7))]⟩)] (.t 1 (.two (.two (.nil) (.gh (.tl .done) .nil)) (.two (.un (.t 4 (.t 4 (.two (.t 3 (.nil)) (.gh (.tl .done) .nil))))) (.nil))))))) (.nil))
def Qzn:Shp:=⟨[(0,.d (.sl J5)),(1,.d .i),(2,.d .i)],[]⟩
def Qty:Shp:=⟨[(0,.d Y7),(1,.d .bool)],[]⟩
def Qzo:An:=.t 1 (.t 3 (.nil))
def Qzp:Shp:=⟨[(0,.d (.sl Ge))],[]⟩
def Qtz:Shp:=⟨[(0,.d (.sl Ge))],[]⟩
def Qzq:An:=.t 1 (.t 3 (.nil))
def Qzr:Shp:=⟨[(0,.d (.sl Yp))],[]⟩
def Qt0:Shp:=⟨[(0,.s 1)],[(1,.row 153 Yp)]⟩
def Qzs:An:=.t 2 (.t 3 (.t 8 (.two (.t 4 (.un (.lp [1,2,3,19,20] [1,2,3] ⟨[],[]⟩ [(.x 0,⟨[],[]⟩)] (.t 1 (.two (.two (.gh (.tl .done) .nil) (.nil)) (.nil)))))) (.two (.t 4 (.un (.lp [1,2,37,38] [1,2] ⟨[(3,.p 100200 []),(39,.d .i)],[(100200,.var 131 (.ag (.cons (.d .str) (.cons (.d .i) (.cons (.d .bool) (.cons (.ns) (.cons (.s 100201) (.cons (.ns) (.cons (.ns) (.nil)))))))))),(100201,.row 151 Vo)]⟩ [(.x 2,⟨[(3,.p 100300 [])],[(100300,.var 131 (.ag (.cons (.d .str) (.cons (.d .i) (.cons (.d .bool) (.cons (.ns) (.cons (.s 100301) (.cons (.ns) (.cons (.ns) (.nil)))))))))),(100301,.row 151 Vo)]⟩)] (.t 1 (.two (.two (.nil) (.nil)) (.two (.un (.t 4 (.dm 9 [43,44,45,46,47,48,49,50,51] [] (.n 6 (.call 0 (.n 2 (.tl (.n 3 .done)))))))) (.reg (.n 2 .done)))))))) (.two (.t 4 (.un (.lp [1,2,56,57] [1,2] ⟨[(3,.p 100400 []),(58,.d .i)],[(100400,.var 131 (.ag (.cons (.d .str) (.cons (.d .i) (.cons (.d .bool) (.cons (.ns) (.cons (.s 100401) (.cons (.s 100402) (.cons (.ns) (.nil)))))))))),(100401,.row 151 Vo),(100402,.row 31 Zv)]⟩ [(.x 4,⟨[(3,.p 100500 [])],[(100500,.var 131 (.ag (.cons (.d .str) (.cons (.d .i) (.cons (.d .bool) (.cons (.ns) (.cons (.s 100501) (.cons (.s 100502) (.cons (.ns) (.nil)))))))))),(100501,.row 151 Vo),(100502,.row 31 Zv)]⟩)] (.t 1 (.two (.two (.nil) (.nil)) (.two (.un (.t 4 (.two (.reg (.n 2 (.call 1 (.n 2 .done)))) (.reg (.n 3 (.fz 16401 (.n 4 .done))))))) (.reg (.n 2 .done)))))))) (.two (.t 4 (.un (.lp [2,3,75,76] [1,2,100500,100501,100502] ⟨[],[]⟩ [(.x 6,⟨[],[]⟩)] (.t 1 (.two (.two (.gh (.tl .done) .nil) (.nil)) (.nil)))))) (.t 2 (.nil))))))))
def Qzt:Shp:=⟨[(0,.d Xz)],[]⟩
def Qt1:Shp:=⟨[(0,.ag (.cons (.d .str) (.cons (.d .i) (.cons (.d .bool) (.cons (.ns) (.cons (.s 1) (.cons (.s 2) (.cons (.ns) (.nil)))))))))],[(1,.row 151 Vo),(2,.row 31 Zv)]⟩
def Qzu:An:=.t 2 (.t 1 (.two (.t 3 (.un (.lp [0,1,2,6,11,12] [6] ⟨[(8,.d .i),(13,.d .i)],[]⟩ [(.x 0,⟨[(8,.d .i)],[]⟩)] (.t 1 (.two (.two (.nil) (.nil)) (.two (.un (.t 6 (.t 10 (.t 2 (.gh (.tl .done) .nil))))) (.reg (.n 2 .done)))))))) (.two (.t 2 (.two (.gh (.tl .done) .nil) (.nil))) (.two (.reg (.n 4 (.call 0 (.n 2 .done)))) (.nil)))))
def Qzv:Shp:=⟨[(0,.d (.sl Xz)),(1,.d .str),(2,.d .i)],[]⟩
def Qt2:Shp:=⟨[(0,.ag (.cons (.d .str) (.cons (.d .i) (.cons (.d .bool) (.cons (.ns) (.cons (.s 1) (.cons (.s 2) (.cons (.ns) (.nil))))))))),(1,.d .bool)],[(1,.row 151 Vo),(2,.row 31 Zv)]⟩
def Qzw:An:=.t 2 (.two (.t 3 (.two (.gh (.tl .done) .nil) (.nil))) (.t 2 (.two (.t 3 (.un (.lp [4,16,17] [14] ⟨[],[]⟩ [(.x 0,⟨[],[]⟩)] (.t 1 (.two (.two (.gh (.tl .done) .nil) (.nil)) (.nil)))))) (.t 3 (.nil)))))
def Qzx:Shp:=⟨[(0,.d (.sl Ai))],[]⟩
def Qt3:Shp:=⟨[(0,.m 1),(1,.d .i)],[(1,.map .str .str)]⟩
def Qzy:An:=.t 2 (.two (.un (.lp [0,1] [] ⟨[(2,.d .i)],[]⟩ [(.x 0,⟨[],[]⟩)] (.two (.t 2 (.two (.nil) (.nil))) (.two (.un (.t 10 (.t 1 (.two (.gh (.tl .done) .nil) (.nil))))) (.reg (.n 3 .done)))))) (.t 2 (.nil)))
def Qzz:Shp:=⟨[(0,.m 5000),(1,.d .str),(2,.d .i)],[(5000,.map .str .str)]⟩
def Qt4:Shp:=⟨[(0,.d .str),(1,.d .bool)],[]⟩
def Qz0:An:=.t 2 (.two (.reg (.n 1 (.call 0 (.n 5 .done)))) (.two (.two (.reg (.n 3 (.sp 15 4 [1,6] [11001] ⟨[(19,.d .bool)],[]⟩ (.nl 3 (.n 1 .done)) (.nl 1 (.call 1 (.nl 1 (.n 1 .done)))) (.done)))) (.two (.gh (.tl .done) .nil) (.nil))) (.two (.reg (.n 4 (.call 2 (.n 4 .done)))) (.nil))))
def Qz1:Shp:=⟨[(0,.d (.sl Ai)),(1,.d .str)],[]⟩
def Qt5:Shp:=⟨[(0,.d .str),(1,.d .bool)],[]⟩
def Qz2:An:=.t 1 (.two (.t 3 (.un (.lp [0,6] [] ⟨[(7,.d .i)],[]⟩ [(.x 0,⟨[],[]⟩)] (.t 1 (.two (.two (.nil) (.nil)) (.two (.un (.t 2 (.t 4 (.t 22 (.two (.gh (.tl .done) .nil) (.nil)))))) (.reg (.n 2 .done)))))))) (.t 9 (.nil)))
def Qz3:Shp:=⟨[(0,.d .str)],[]⟩
def Qt6:Shp:=⟨[(0,.d .bool)],[]⟩
def Qz4:An:=.t 1 (.two (.t 3 (.un (.lp [7,8] [] ⟨[],[]⟩ [(.x 0,⟨[],[]⟩)] (.t 1 (.two (.two (.gh (.tl .done) .nil) (.nil)) (.nil)))))) (.t 1 (.nil)))
def Qz5:Shp:=⟨[(0,.d (.sl Vo)),(1,.f 248 (.cons (.p 5000 []) (.nil)))],[(5000,.var 151 (.d Vo))]⟩
def Qt7:Shp:=⟨[(0,.d .i)],[]⟩
def Qz6:An:=.t 1 (.two (.reg (.n 2 (.call 0 (.n 2 .done)))) (.nil))
def Qz7:Shp:=⟨[(0,.d (.sl Vo)),(1,.f 248 (.cons (.p 5000 []) (.nil)))],[(5000,.var 151 (.d Vo))]⟩
def Qt8:Shp:=⟨[(0,.d .bool)],[]⟩
def Qz8:An:=.t 1 (.two (.t 3 (.two (.gh (.tl .done) .nil) (.nil))) (.two (.t 3 (.two (.gh (.tl .done) .nil) (.nil))) (.two (.t 3 (.un (.lp [0,12,13] [] ⟨[(14,.d .i)],[]⟩ [(.x 0,⟨[],[]⟩)] (.t 1 (.two (.two (.nil) (.nil)) (.two (.un (.t 6 (.two (.two (.reg (.n 2 (.call 0 (.n 1 .done)))) (.two (.gh (.tl .done) .nil) (.nil))) (.two (.two (.reg (.n 4 (.call 1 (.done)))) (.two (.gh (.tl .done) .nil) (.nil))) (.two (.t 5 (.two (.two (.t 4 (.two (.gh (.tl .done) .nil) (.nil))) (.nil)) (.gh (.tl .done) .nil))) (.nil)))))) (.reg (.n 2 .done)))))))) (.t 1 (.nil)))))
def Qz9:Shp:=⟨[(0,.d (.sl Vo))],[]⟩
def Qt9:Shp:=⟨[(0,.d .i)],[]⟩
def Q0a:An:=.t 1 (.two (.t 3 (.un (.lp [7,8] [] ⟨[],[]⟩ [(.x 0,⟨[],[]⟩)] (.t 1 (.two (.two (.gh (.tl .done) .nil) (.nil)) (.nil)))))) (.t 1 (.nil)))
def Q0b:Shp:=⟨[(0,.d (.sl .i)),(1,.d .i)],[]⟩
def Qua:Shp:=⟨[(0,.d .i)],[]⟩
def Q0c:An:=.t 1 (.two (.reg (.n 2 (.call 0 (.n 2 .done)))) (.nil))
def Q0d:Shp:=⟨[(0,.d (.sl .i)),(1,.d .i)],[]⟩
def Qub:Shp:=⟨[(0,.d .bool)],[]⟩
def Q0e:An:=.t 1 (.two (.t 6 (.two (.gh (.tl .done) .nil) (.nil))) (.t 4 (.nil)))
def Q0f:Shp:=⟨[(0,.d .i)],[]⟩
def Quc:Shp:=⟨[(0,.d .i)],[]⟩
def Q0g:An:=.t 1 (.two (.two (.reg (.n 2 (.call 0 (.done)))) (.two (.gh (.tl .done) .nil) (.nil))) (.two (.reg (.n 1 (.call 1 (.n 2 .done)))) (.nil)))
def Q0h:Shp:=⟨[(0,.d (.sl .i)),(1,.d .i)],[]⟩
def Qud:Shp:=⟨[(0,.d .i)],[]⟩
def Q0i:An:=.t 1 (.two (.t 3 (.un (.lp [7,8] [] ⟨[],[]⟩ [(.x 0,⟨[],[]⟩)] (.t 1 (.two (.two (.gh (.tl .done) .nil) (.nil)) (.nil)))))) (.t 1 (.nil)))
def Q0j:Shp:=⟨[(0,.d (.sl Ge)),(1,.f 250 (.cons (.p 5000 []) (.cons (.p 5001 []) (.nil))))],[(5000,.var 3 (.d .i)),(5001,.var 3 (.d .i))]⟩
def Que:Shp:=⟨[(0,.d .i)],[]⟩
def Q0k:An:=.t 1 (.two (.reg (.n 2 (.call 0 (.n 2 .done)))) (.nil))
def Q0l:Shp:=⟨[(0,.d (.sl Ge)),(1,.f 250 (.cons (.p 5000 []) (.cons (.p 5001 []) (.nil))))],[(5000,.var 3 (.d .i)),(5001,.var 3 (.d .i))]⟩
def Quf:Shp:=⟨[(0,.d .bool)],[]⟩
def Q0m:An:=.t 3 (.t 2 (.two (.t 3 (.un (.lp [0,7,11,12] [4,5] ⟨[(13,.d .i)],[]⟩ [(.x 0,⟨[],[]⟩)] (.t 1 (.two (.two (.nil) (.nil)) (.two (.un (.t 4 (.two (.reg (.n 3 (.call 0 (.done)))) (.two (.gh (.tl .done) .nil) (.nil))))) (.reg (.n 2 .done)))))))) (.t 8 (.nil))))
def Q0n:Shp:=⟨[(0,.d (.sl Vo)),(1,.d .i),(2,.d .i)],[]⟩
def Qug:Shp:=⟨[(0,.d .str)],[]⟩
def Q0o:An:=.t 1 (.two (.two (.reg (.n 1 (.call 0 (.n 9 .done)))) (.two (.gh (.tl .done) .nil) (.nil))) (.two (.reg (.n 4 (.call 1 (.n 3 (.call 2 (.n 1 .done)))))) (.nil)))
def Q0p:Shp:=⟨[(0,.d (.sl Vo)),(1,.d (.sl .i)),(2,.d .i)],[]⟩
def Quh:Shp:=⟨[(0,.d .str)],[]⟩
def Q0q:An:=.t 2 (.t 27 (.nil))
def Q0r:Shp:=⟨[(0,.d Zv),(1,.p 5000 []),(2,.p 5001 []),(3,.p 5002 [])],[(5000,.var 3 (.d .i)),(5001,.var 9 (.d .str)),(5002,.var 9 (.d .str))]⟩
def Qui:Shp:=⟨[(0,.d .bool)],[]⟩
def Q0s:An:=.t 6 (.t 2 (.two (.t 4 (.un (.lp [10,15,16,17] [4,5,6,7] ⟨[(8,.p 100000 [])],[(100000,.var 31 (.ag (.cons (.d .i) (.cons (.d .str) (.cons (.d .str) (.cons (.d .i) (.cons (.ns) (.nil))))))))]⟩ [(.r,⟨[(8,.p 100100 []),(9,.d .bool)],[(100100,.var 31 (.ag (.cons (.d .i) (.cons (.d .str) (.cons (.d .str) (.cons (.d .i) (.cons (.s 100101) (.nil)))))))),(100101,.row 153 Yp)]⟩)] (.t 1 (.two (.two (.nil) (.gh (.tl .done) .nil)) (.two (.un (.t 4 (.two (.reg (.n 2 (.call 0 (.done)))) (.two (.t 5 (.t 3 (.nil))) (.gh (.tl .done) .nil))))) (.nil))))))) (.nil)))
def Q0t:Shp:=⟨[(0,.d Xz),(1,.d .i),(2,.d .str),(3,.d .str)],[]⟩
def Quj:Shp:=⟨[(0,.d Zv),(1,.d .bool)],[]⟩
def Q8u:An:=.t 4 (.t 7 (.two (.un (.t 7 (.two (.gh (.tl .done) .nil) (.t 7 (.two (.gh (.tl .done) .nil) (.two (.reg (.n 1 (.call 0 (.n 10 .done)))) (.two (.gh (.tl .done) .nil) (.nil)))))))) (.two (.reg (.n 4 (.call 1 (.n 6 .done)))) (.two (.reg (.n 4 (.call 2 (.n 6 .done)))) (.two (.un (.t 7 (.two (.gh (.tl .done) .nil) (.t 3 (.two (.gh (.tl .done) .nil) (.nil)))))) (.two (.reg (.n 5 (.call 3 (.n 6 .done)))) (.two (.t 2 (.two (.gh (.tl .done) .nil) (.nil))) (.two (.reg (.n 3 (.call 4 (.n 5 .done)))) (.two (.gh (.fz 19401 (.fz 19402 (.done))) (.dm 15 [108,109,110,111,112,113,114,115,116,117,107,118,119,23,1000000014] [] (.n 8 (.call 5 (.call 6 (.n 5 (.tl (.n 1 .done)))))))) (.two (.t 2 (.two (.gh (.tl .done) .nil) (.nil))) (.two (.reg (.n 2 (.call 7 (.n 2 .done)))) (.t 13 (.nil)))))))))))))
def Q8v:Shp:=⟨[(0,.d K7),(1,.d Ye),(2,.d .i),(3,.d .i),(4,.d .str),(5,.d .i)],[]⟩
def Q0u:Shp:=⟨[(0,.ag (.cons (.d .i) (.cons (.d .i) (.cons (.d .i) (.cons (.d .str) (.cons (.d .str) (.cons (.d .i) (.cons (.ag (.cons (.d .i) (.cons (.d .str) (.cons (.d .str) (.cons (.d .i) (.cons (.s 1) (.nil))))))) (.cons (.d .i) (.cons (.d .i) (.nil))))))))))),(1,.d .i)],[(1,.row 153 Yp)]⟩
def Q0v:An:=.t 2 (.two (.reg (.n 2 (.call 0 (.n 2 .done)))) (.two (.reg (.n 4 (.call 1 (.n 4 .done)))) (.t 2 (.nil))))
def Q0w:Shp:=⟨[(0,.d Qz)],[]⟩
def Quk:Shp:=⟨[(0,.d Qz)],[]⟩
def Dw:An:=.t 2 (.two (.dc 11 [5,6,7,8,9,10,11,12,13,14,3] [1] [] (.op ⟨.nl 1 .done,[],[],[],[1]⟩ (.op ⟨.nl 1 .done,[],[1],[],[]⟩ (.op ⟨.call 0 (.done),[],[],[10700],[10700]⟩ (.op ⟨.nl 1 .done,[],[],[],[1]⟩ (.op ⟨.nl 1 .done,[],[1],[],[]⟩ (.op ⟨.call 1 (.done),[],[],[11000],[11000]⟩ (.op ⟨.nl 1 .done,[],[],[],[1]⟩ (.op ⟨.nl 1 .done,[],[1],[],[]⟩ (.op ⟨.call 2 (.done),[],[],[11300],[11300]⟩ (.op ⟨.nl 1 .done,[],[],[],[10700,11000,11300]⟩ (.op ⟨.nl 1 .done,[],[],[3],[3]⟩ (.tl (.n 1 .done)))))))))))))) (.two (.t 4 (.un (.lp [2,3,17] [1,2,3,11000,11300] ⟨[(18,.d .i)],[(10700,.row 145 Qg)]⟩ [(.x 0,⟨[],[(10700,.row 145 Qg)]⟩)] (.t 1 (.two (.two (.nil) (.nil)) (.two (.un (.t 2 (.dm 10 [21,22,23,24,25,26,27,28,29,30] [] (.n 9 (.call 3 (.tl (.n 3 .done))))))) (.reg (.n 2 .done)))))))) (.t 2 (.nil))))
def Dy:Shp:=⟨[(0,.d Ye)],[]⟩
def Cp:Shp:=⟨[(0,.ag (.cons (.s 1) (.cons (.s 2) (.cons (.s 3) (.nil)))))],[(1,.row 145 Qg),(2,.row 87 Ql),(3,.row 105 Qp)]⟩
def Q8w:An:=.t 3 (.two (.dm 3 [5,6,7] [] (.n 1 (.call 0 (.n 1 (.tl (.call 1 (.n 3 .done))))))) (.nil))
def Q8x:Shp:=⟨[(0,.d Ye),(1,.d Qz)],[]⟩
def Q0x:Shp:=⟨[(0,.p 1 [])],[(1,.var 162 (.ag (.cons (.d Qz) (.cons (.ag (.cons (.s 2) (.cons (.s 3) (.cons (.s 4) (.nil))))) (.nil))))),(2,.row 145 Qg),(3,.row 87 Ql),(4,.row 105 Qp)]⟩
def Q0y:An:=.t 1 (.two (.t 3 (.un (.lp [1,7,8,9] [] ⟨[],[]⟩ [(.r,⟨[(4,.d .i)],[]⟩)] (.t 1 (.two (.two (.nil) (.gh (.tl .done) .nil)) (.two (.un (.t 4 (.t 9 (.two (.t 3 (.nil)) (.gh (.tl .done) .nil))))) (.nil))))))) (.nil))
def Q0z:Shp:=⟨[(0,.d (.sl J5)),(1,.d .i)],[]⟩
def Qul:Shp:=⟨[(0,.d .i)],[]⟩
def Q00:An:=.t 1 (.t 2 (.two (.reg (.br (.n 1 .done))) (.t 1 (.two (.t 3 (.un (.lp [1,6,7,15,16] [14] ⟨[(5,.m 100000),(17,.d .i)],[(100000,.map .i .bool)]⟩ [(.x 0,⟨[],[]⟩)] (.t 1 (.two (.two (.nil) (.nil)) (.two (.un (.t 4 (.two (.jn [9,17] [9] [(.n,⟨[(5,.m 100100)],[(100100,.map .i .bool)]⟩)] (.t 9 (.t 4 (.nil)))) (.two (.two (.reg (.n 11 (.sp 43 8 [5,9,17] [9,100100] ⟨[(51,.d .bool)],[]⟩ (.nl 7 (.n 1 .done)) (.tl .done) (.done)))) (.two (.nil) (.gh (.tl .done) .nil))) (.nil))))) (.reg (.n 2 .done)))))))) (.t 2 (.nil))))))
def Q01:Shp:=⟨[(0,.d (.sl J5)),(1,.d .i)],[]⟩
def Qum:Shp:=⟨[(0,.ns)],[]⟩
def Q02:An:=.t 3 (.un (.lp [8,9] [5000,5001] ⟨[],[]⟩ [(.x 0,⟨[],[]⟩)] (.t 1 (.two (.two (.gh (.tl .done) .nil) (.nil)) (.nil)))))
def Q03:Shp:=⟨[(0,.d (.sl Yc)),(1,.d .i),(2,.p 5000 [])],[(5000,.var 468 (.s 5001)),(5001,.row 470 Vb)]⟩
def Qun:Shp:=⟨[],[(5000,.var 468 (.s 1)),(1,.row 470 Vb)]⟩
def Qko:An:=.t 3 (.un (.lp [8,9] [] ⟨[],[]⟩ [(.x 0,⟨[],[]⟩)] (.t 1 (.two (.two (.gh (.tl .done) .nil) (.nil)) (.nil)))))
def Qkp:Shp:=⟨[(0,.d (.sl Yc)),(1,.d .i),(2,.p 5000 [])],[(5000,.var 468 (.s 5001)),(5001,.row 470 Vb)]⟩
def Qgx:Shp:=⟨[],[]⟩
def Q04:An:=.t 1 (.two (.t 2 (.two (.gh (.tl .done) .nil) (.nil))) (.two (.t 2 (.two (.gh (.tl .done) .nil) (.nil))) (.two (.t 2 (.two (.gh (.tl .done) .nil) (.nil))) (.t 7 (.nil)))))
def Q05:Shp:=⟨[(0,.d (.int .u64))],[]⟩
def Quo:Shp:=⟨[(0,.d .i)],[]⟩
def Q06:An:=.t 1 (.two (.two (.nil) (.nil)) (.two (.reg (.n 1 (.call 0 (.n 1 .done)))) (.nil)))
def Q07:Shp:=⟨[(0,.d (.int .u64))],[]⟩
def Qup:Shp:=⟨[(0,.d .i)],[]⟩
def Q08:An:=.t 3 (.un (.lp [2,8] [] ⟨[],[]⟩ [(.x 0,⟨[],[]⟩)] (.two (.t 3 (.two (.gh (.tl .done) .nil) (.nil))) (.nil))))
def Q09:Shp:=⟨[(0,.d (.sl Vb)),(1,.d .i),(2,.d .i),(3,.f 361 (.nil))],[]⟩
def Quq:Shp:=⟨[],[]⟩
def Q1a:An:=.t 1 (.t 1 (.un (.lp [0,1,2,4] [] ⟨[],[]⟩ [(.r,⟨[],[]⟩)] (.un (.t 4 (.two (.t 2 (.two (.two (.reg (.n 4 (.call 0 (.done)))) (.nil)) (.gh (.tl .done) .nil))) (.nil)))))))
def Q1b:Shp:=⟨[(0,.d (.sl Vb)),(1,.d .i),(2,.d .i),(3,.d .i),(4,.f 361 (.nil))],[]⟩
def Qur:Shp:=⟨[],[]⟩
def Q1c:An:=.t 3 (.reg (.n 4 (.call 0 (.n 1 (.call 1 (.done))))))
def Q1d:Shp:=⟨[(0,.d (.sl Vb)),(1,.f 361 (.nil))],[]⟩
def Qus:Shp:=⟨[],[]⟩
def Q1e:An:=.t 1 (.t 1 (.t 2 (.two (.reg (.n 2 (.call 0 (.done)))) (.two (.reg (.n 2 (.call 1 (.done)))) (.two (.reg (.n 1 (.call 2 (.done)))) (.t 1 (.t 1 (.t 1 (.two (.t 3 (.un (.lp [9,25,26] [7,10,11801] ⟨[],[]⟩ [(.x 0,⟨[],[]⟩)] (.t 1 (.two (.two (.gh (.tl .done) .nil) (.nil)) (.nil)))))) (.t 2 (.nil)))))))))))
def Q1f:Shp:=⟨[(0,.d (.sl Yc)),(1,.d (.sl Yc)),(2,.f 326 (.nil))],[]⟩
def Qut:Shp:=⟨[(0,.ns)],[]⟩
def Q1g:An:=.t 1 (.two (.reg (.n 1 (.call 0 (.n 1 .done)))) (.nil))
def Q1h:Shp:=⟨[(0,.d (.sl Yc))],[]⟩
def Quu:Shp:=⟨[(0,.ns)],[]⟩
def Q1i:An:=.t 3 (.t 1 (.t 2 (.two (.t 3 (.un (.lp [7,18,19] [4,5,7] ⟨[],[]⟩ [(.x 0,⟨[],[]⟩)] (.t 1 (.two (.two (.gh (.tl .done) .nil) (.nil)) (.nil)))))) (.t 1 (.two (.two (.reg (.n 1 (.call 0 (.n 2 .done)))) (.un (.lp [13,37,38] [4,5,7] ⟨[],[]⟩ [(.x 4,⟨[],[]⟩)] (.t 1 (.two (.two (.gh (.tl .done) .nil) (.nil)) (.nil)))))) (.t 2 (.nil)))))))
def Q1j:Shp:=⟨[(0,.d (.sl Hd)),(1,.d .i),(2,.d .i)],[]⟩
def Quv:Shp:=⟨[(0,.ns)],[]⟩
def Q1k:An:=.t 2 (.t 4 (.two (.t 4 (.un (.lp [0,3,4,7,10,11,28,29] [7,10,23,25] ⟨[],[]⟩ [(.x 0,⟨[],[]⟩)] (.t 1 (.two (.two (.gh (.tl .done) .nil) (.nil)) (.nil)))))) (.two (.dm 8 [51,52,53,54,55,56,57,14] [] (.n 8 (.tl (.n 1 .done)))) (.two (.reg (.n 2 (.call 0 (.n 1 .done)))) (.two (.t 10 (.two (.two (.reg (.n 2 (.call 1 (.n 1 .done)))) (.two (.reg (.n 3 (.call 2 (.n 2 .done)))) (.un (.lp [10,11,14,78,79] [7,10,14,23,25,53,56] ⟨[],[]⟩ [(.x 2,⟨[],[]⟩)] (.t 1 (.two (.two (.gh (.tl .done) .nil) (.nil)) (.nil))))))) (.gh (.tl .done) .nil))) (.t 6 (.t 2 (.nil))))))))
def Q1l:Shp:=⟨[(0,.d (.sl J5)),(1,.d (.sl Hp)),(2,.d Ye),(3,.d .i),(4,.d .i)],[]⟩
def Quw:Shp:=⟨[(0,.d Ye)],[]⟩
def Q1m:An:=.t 1 (.t 1 (.two (.t 3 (.un (.lp [3,7,8] [] ⟨[],[]⟩ [(.x 0,⟨[],[]⟩)] (.t 1 (.two (.two (.gh (.tl .done) .nil) (.nil)) (.nil)))))) (.t 2 (.nil))))
def Q1n:Shp:=⟨[(0,.d (.sl Qg))],[]⟩
def Qux:Shp:=⟨[(0,.d (.sl Qg))],[]⟩
def Q1o:An:=.t 2 (.two (.dm 8 [3,4,5,6,7,8,9,10] [] (.n 2 (.call 0 (.n 5 (.tl (.n 3 .done)))))) (.nil))
def Q1p:Shp:=⟨[(0,.d Ye)],[]⟩
def Quy:Shp:=⟨[(0,.ag (.cons (.d (.sl Qg)) (.cons (.s 1) (.cons (.s 2) (.nil)))))],[(1,.row 87 Ql),(2,.row 105 Qp)]⟩
def Q1q:An:=.t 1 (.two (.t 3 (.un (.lp [1,2,9,10,11] [] ⟨[],[]⟩ [(.r,⟨[(6,.d .bool)],[]⟩)] (.t 1 (.two (.two (.nil) (.gh (.tl .done) .nil)) (.two (.un (.t 4 (.t 15 (.two (.t 4 (.nil)) (.gh (.tl .done) .nil))))) (.nil))))))) (.nil))
def Q1r:Shp:=⟨[(0,.d (.sl J5)),(1,.d .i),(2,.d .i)],[]⟩
def Quz:Shp:=⟨[(0,.d .bool)],[]⟩
def Q1s:An:=.t 1 (.t 2 (.two (.t 3 (.un (.lp [9,10] [] ⟨[(3,.m 100000),(11,.d .i)],[(100000,.map .i .i)]⟩ [(.x 0,⟨[(3,.m 100100)],[(100100,.map .i .i)]⟩)] (.t 1 (.two (.two (.nil) (.nil)) (.two (.un (.t 6 (.t 9 (.t 2 (.t 5 (.gh (.tl .done) .nil)))))) (.reg (.n 2 .done)))))))) (.t 2 (.nil))))
def Q1t:Shp:=⟨[(0,.d (.sl Ql))],[]⟩
def Qu0:Shp:=⟨[(0,.m 1)],[(1,.map .i .i)]⟩
def Q1u:An:=.t 2 (.two (.two (.reg (.n 1 (.call 0 (.n 7 .done)))) (.t 1 (.two (.t 5 (.nil)) (.nil)))) (.t 1 (.two (.un (.lp [0,1,8] [11201] ⟨[],[]⟩ [(.x 0,⟨[],[]⟩)] (.two (.two (.reg (.n 5 (.sp 25 8 [] [] ⟨[(33,.d .bool)],[]⟩ (.tl .done) (.nl 7 (.n 1 .done)) (.done)))) (.two (.gh (.tl .done) .nil) (.nil))) (.nil)))) (.t 5 (.t 6 (.t 8 (.nil)))))))
def Q1v:Shp:=⟨[(0,.d (.sl Ql)),(1,.d .i)],[]⟩
def Qu1:Shp:=⟨[(0,.s 1),(1,.d .i)],[(1,.row 87 Ql)]⟩
def Q1w:An:=.t 1 (.t 9 (.nil))
def Q1x:Shp:=⟨[(0,.d .i),(1,.d .i),(2,.d .i)],[]⟩
def Qu2:Shp:=⟨[(0,.d .bool)],[]⟩
def Q1y:An:=.t 1 (.t 7 (.nil))
def Q1z:Shp:=⟨[(0,.d .i)],[]⟩
def Qu3:Shp:=⟨[(0,.d .bool)],[]⟩
def Q10:An:=.t 2 (.two (.un (.two (.reg (.n 2 (.call 0 (.n 2 (.sp 8 5 [1] [1] ⟨[(13,.d .bool)],[]⟩ (.nl 4 (.n 1 .done)) (.nl 2 (.call 1 (.nl 1 (.n 1 .done)))) (.n 1 (.sp 14 5 [1] [1] ⟨[(19,.d .bool)],[]⟩ (.nl 4 (.n 1 .done)) (.nl 2 (.call 0 (.nl 1 (.n 1 .done)))) (.n 1 .done)))))))) (.two (.gh (.tl .done) .nil) (.two (.reg (.n 2 (.call 0 (.n 2 (.sp 25 5 [1] [1] ⟨[(30,.d .bool)],[]⟩ (.nl 4 (.n 1 .done)) (.nl 2 (.call 0 (.nl 1 (.n 1 .done)))) (.n 1 .done)))))) (.two (.gh (.tl .done) .nil) (.t 9 (.two (.gh (.tl .done) .nil) (.nil)))))))) (.t 1 (.nil)))
def Q11:Shp:=⟨[(0,.d Ql)],[]⟩
def Qu4:Shp:=⟨[(0,.d .i)],[]⟩
def Q12:An:=.t 3 (.two (.two (.reg (.n 1 (.call 0 (.n 1 .done)))) (.t 2 (.two (.gh (.tl .done) .nil) (.nil)))) (.two (.two (.reg (.n 1 (.call 1 (.n 2 (.sp 19 7 [1,2,4] [2,4] ⟨[(26,.d .bool)],[]⟩ (.nl 6 (.n 1 .done)) (.nl 4 (.call 2 (.nl 1 (.n 1 .done)))) (.done)))))) (.two (.gh (.tl .done) .nil) (.nil))) (.t 6 (.t 3 (.nil)))))
def Q13:Shp:=⟨[(0,.d Ql),(1,.d .i)],[]⟩
def Qu5:Shp:=⟨[(0,.d Ql),(1,.d .i)],[]⟩
def Q14:An:=.t 1 (.t 2 (.t 2 (.gh (.tl .done) .nil)))
def Q15:Shp:=⟨[(0,.d Ql),(1,.d .i),(2,.p 5000 [])],[(5000,.var 87 (.d Ql))]⟩
def Qu6:Shp:=⟨[],[(5000,.var 87 (.d Ql))]⟩
def Qkq:An:=.t 2 (.two (.two (.reg (.n 2 (.call 0 (.n 2 .done)))) (.un (.lp [2,12,13,14] [11201] ⟨[(6,.p 100000 [])],[(100000,.var 218 (.ag (.cons (.d Yc) (.cons (.d .str) (.cons (.ns) (.cons (.d .bool) (.cons (.d .bool) (.nil))))))))]⟩ [(.r,⟨[(6,.p 100100 []),(7,.d .bool)],[(100100,.var 218 (.d Z8))]⟩)] (.t 1 (.two (.two (.nil) (.gh (.tl .done) .nil)) (.two (.un (.t 4 (.two (.reg (.n 3 (.call 1 (.done)))) (.two (.t 3 (.nil)) (.gh (.tl .done) .nil))))) (.nil))))))) (.nil))
def Qkr:Shp:=⟨[(0,.d (.sl J5)),(1,.d .i),(2,.d .i)],[]⟩
def Qgy:Shp:=⟨[(0,.d Z8),(1,.d .bool)],[]⟩
def Q16:An:=.t 1 (.t 8 (.nil))
def Q17:Shp:=⟨[(0,.d .i),(1,.d .i)],[]⟩
def Qu7:Shp:=⟨[(0,.d .bool)],[]⟩
def P7:An:=.t 2 (.t 5 (.t 2 (.nil)))
def P8:Shp:=⟨[(0,.d Qg)],[]⟩
def Oh:Shp:=⟨[(0,.ag (.cons (.d .i) (.cons (.d .i) (.cons (.d .str) (.cons (.d .i) (.cons (.d .i) (.cons (.s 1) (.cons (.d Yc) (.cons (.d .i) (.cons (.d .i) (.cons (.d .i) (.cons (.d .bool) (.nil)))))))))))))],[(1,.row 9 .str)]⟩
def Oi:An:=.t 1 (.t 1 (.two (.t 3 (.un (.lp [6,7] [] ⟨[(3,.s 100000),(8,.d .i)],[(100000,.row 145 Qg)]⟩ [(.x 0,⟨[(3,.s 100100)],[(100100,.row 145 Qg)]⟩)] (.t 1 (.two (.two (.nil) (.nil)) (.two (.un (.t 4 (.reg (.n 2 (.call 0 (.fz 11401 (.n 3 .done))))))) (.reg (.n 2 .done)))))))) (.t 2 (.nil))))
def Oj:Shp:=⟨[(0,.d (.sl Qg))],[]⟩
def M8:Shp:=⟨[(0,.s 1)],[(1,.row 145 Qg)]⟩
def Q18:An:=.t 1 (.two (.t 4 (.two (.t 1 (.two (.t 2 (.un (.lp [2,7,8] [] ⟨[],[]⟩ [(.x 0,⟨[],[]⟩)] (.two (.t 3 (.two (.gh (.tl .done) .nil) (.nil))) (.nil))))) (.t 2 (.nil)))) (.gh (.tl .done) .nil))) (.nil))
def Q19:Shp:=⟨[(0,.d (.sl Qg)),(1,.d .i),(2,.d .i)],[]⟩
def Qu8:Shp:=⟨[(0,.ns)],[]⟩
def Q2a:An:=.t 3 (.two (.reg (.n 1 (.call 0 (.n 1 .done)))) (.t 1 (.t 3 (.two (.two (.reg (.n 3 (.call 1 (.n 2 .done)))) (.un (.lp [7,19,20,33,34] [12601] ⟨[],[]⟩ [(.x 0,⟨[],[]⟩)] (.t 1 (.two (.two (.gh (.tl .done) .nil) (.nil)) (.nil)))))) (.t 6 (.nil))))))
def Q2b:Shp:=⟨[(0,.d (.sl Qg)),(1,.d .i),(2,.d .i),(3,.d .i),(4,.d .str),(5,.d .bool),(6,.d .i),(7,.d .i)],[]⟩
def Qu9:Shp:=⟨[(0,.s 1),(1,.ns),(2,.d .i)],[(1,.row 145 Qg)]⟩
def Q2c:An:=.t 2 (.two (.two (.reg (.n 2 (.call 0 (.n 3 .done)))) (.un (.lp [1,13,14,15] [11201,11202] ⟨[(6,.p 100000 [])],[(100000,.var 239 (.ag (.cons (.d .i) (.cons (.d .i) (.cons (.d .i) (.cons (.d .bool) (.cons (.d .bool) (.cons (.ns) (.nil)))))))))]⟩ [(.r,⟨[(6,.p 100100 []),(7,.d .bool)],[(100100,.var 239 (.d Yd))]⟩)] (.t 1 (.two (.two (.nil) (.gh (.tl .done) .nil)) (.two (.un (.t 4 (.t 4 (.two (.t 3 (.nil)) (.gh (.tl .done) .nil))))) (.nil))))))) (.nil))
def Q2d:Shp:=⟨[(0,.d (.sl J5)),(1,.d .i),(2,.d .i)],[]⟩
def Qva:Shp:=⟨[(0,.d Yd),(1,.d .bool)],[]⟩
def Q2e:An:=.t 2 (.two (.two (.reg (.n 1 (.call 0 (.n 1 .done)))) (.two (.gh (.tl .done) .nil) (.nil))) (.t 9 (.nil)))
def Q2f:Shp:=⟨[(0,.d Ql)],[]⟩
def Qvb:Shp:=⟨[(0,.d .i)],[]⟩
def Q2g:An:=.t 1 (.two (.t 3 (.un (.lp [0,7,8] [] ⟨[(9,.d .i)],[]⟩ [(.x 0,⟨[],[]⟩)] (.t 1 (.two (.two (.nil) (.nil)) (.two (.un (.t 3 (.t 7 (.two (.gh (.tl .done) .nil) (.nil))))) (.reg (.n 2 .done)))))))) (.t 1 (.nil)))
def Q2h:Shp:=⟨[(0,.d .i),(1,.d (.sl .i))],[]⟩
def Qvc:Shp:=⟨[(0,.d .bool)],[]⟩
def Q2i:An:=.t 1 (.two (.t 3 (.two (.gh (.tl .done) .nil) (.nil))) (.two (.t 3 (.two (.gh (.tl .done) .nil) (.nil))) (.t 1 (.two (.t 3 (.un (.lp [0,12,13] [] ⟨[(3,.d .i),(14,.d .i)],[]⟩ [(.x 0,⟨[],[]⟩)] (.t 1 (.two (.two (.nil) (.nil)) (.two (.un (.t 6 (.two (.two (.reg (.n 5 (.call 0 (.n 7 (.sp 31 6 [3,4,5,14] [5] ⟨[(37,.d .bool)],[]⟩ (.nl 5 (.n 1 .done)) (.nl 3 (.call 0 (.nl 1 (.n 1 .done)))) (.done)))))) (.two (.gh (.tl .done) .nil) (.nil))) (.two (.t 9 (.two (.gh (.tl .done) .nil) (.nil))) (.two (.t 9 (.two (.gh (.tl .done) .nil) (.nil))) (.reg (.n 3 .done))))))) (.reg (.n 2 .done)))))))) (.t 1 (.nil))))))
def Q2j:Shp:=⟨[(0,.d (.sl Yp))],[]⟩
def Qvd:Shp:=⟨[(0,.d .i)],[]⟩
def Q2k:An:=.t 2 (.t 2 (.two (.t 3 (.un (.lp [1,12,13] [] ⟨[(6,.d .i),(7,.d .i),(14,.d .i)],[]⟩ [(.x 0,⟨[(6,.d .i)],[]⟩)] (.t 1 (.two (.two (.nil) (.nil)) (.two (.un (.t 4 (.t 2 (.two (.t 3 (.two (.gh (.tl .done) .nil) (.nil))) (.two (.t 3 (.two (.nil) (.nil))) (.t 11 (.two (.two (.dr 7 (.n 7 .done) (.done)) (.two (.gh (.tl .done) .nil) (.nil))) (.t 7 (.reg (.n 2 .done)))))))))) (.reg (.n 2 .done)))))))) (.t 3 (.nil))))
def Q2l:Shp:=⟨[(0,.d (.sl Yp)),(1,.d .i)],[]⟩
def Qve:Shp:=⟨[(0,.d .i),(1,.d .bool)],[]⟩
def Q2m:An:=.t 2 (.two (.two (.reg (.n 1 (.call 0 (.n 1 .done)))) (.two (.gh (.tl .done) .nil) (.nil))) (.two (.t 6 (.two (.gh (.tl .done) .nil) (.nil))) (.two (.reg (.n 2 (.call 1 (.n 5 .done)))) (.two (.t 2 (.two (.gh (.tl .done) .nil) (.nil))) (.t 3 (.nil))))))
def Q2n:Shp:=⟨[(0,.d (.sl Yp)),(1,.d .i)],[]⟩
def Qvf:Shp:=⟨[(0,.d .i),(1,.d .i)],[]⟩
def Q2o:An:=.t 3 (.two (.reg (.n 5 (.call 0 (.n 5 .done)))) (.two (.un (.t 3 (.two (.gh (.tl .done) .nil) (.t 3 (.two (.t 2 (.nil)) (.t 8 (.two (.gh (.tl .done) .nil) (.nil)))))))) (.t 8 (.nil))))
def Q2p:Shp:=⟨[(0,.d Xk),(1,.d .i)],[]⟩
def Qvg:Shp:=⟨[(0,.d .i),(1,.d .i)],[]⟩
def Q2q:An:=.t 3 (.two (.two (.reg (.n 1 (.call 0 (.n 2 (.sp 12 6 [1,2] [2] ⟨[(18,.d .bool)],[]⟩ (.nl 5 (.n 1 .done)) (.nl 3 (.call 0 (.nl 1 (.n 1 .done)))) (.n 9 (.sp 27 7 [1,2] [2] ⟨[(34,.d .bool)],[]⟩ (.nl 6 (.n 1 .done)) (.nl 4 (.call 0 (.nl 1 (.n 1 .done)))) (.done)))))))) (.two (.gh (.tl .done) .nil) (.nil))) (.two (.reg (.n 6 (.call 1 (.n 5 .done)))) (.two (.t 2 (.two (.gh (.tl .done) .nil) (.nil))) (.two (.reg (.n 4 (.call 1 (.n 5 .done)))) (.two (.t 2 (.two (.gh (.tl .done) .nil) (.nil))) (.t 5 (.nil)))))))
def Q2r:Shp:=⟨[(0,.d Xk),(1,.d .i)],[]⟩
def Qvh:Shp:=⟨[(0,.d .i),(1,.d .i)],[]⟩
def Q2s:An:=.t 1 (.two (.reg (.n 2 (.call 0 (.n 5 .done)))) (.t 8 (.nil)))
def Q2t:Shp:=⟨[(0,.d .i),(1,.p 5000 []),(2,.p 5001 [])],[(5000,.var 321 (.d Xk)),(5001,.var 3 (.d .i))]⟩
def Qvi:Shp:=⟨[(0,.d .bool)],[]⟩
def Q2u:An:=.t 3 (.t 2 (.two (.t 2 (.two (.gh (.tl .done) .nil) (.nil))) (.t 3 (.two (.un (.lp [7] [3,5] ⟨[(8,.d .i),(9,.d .i)],[]⟩ [(.x 0,⟨[(8,.d .i)],[]⟩)] (.two (.t 3 (.two (.nil) (.nil))) (.un (.t 7 (.two (.reg (.n 2 (.call 0 (.done)))) (.t 2 (.reg (.n 3 .done))))))))) (.t 2 (.nil))))))
def Q2v:Shp:=⟨[(0,.d Xk),(1,.d .i),(2,.d .i)],[]⟩
def Qvj:Shp:=⟨[(0,.d .i)],[]⟩
def Qks:An:=.t 2 (.two (.two (.reg (.n 2 (.call 0 (.n 3 .done)))) (.un (.lp [1,13,14,15] [11201,11202] ⟨[(6,.p 100000 [])],[(100000,.var 239 (.ag (.cons (.d .i) (.cons (.d .i) (.cons (.d .i) (.cons (.d .bool) (.cons (.d .bool) (.cons (.ns) (.nil)))))))))]⟩ [(.r,⟨[(6,.p 100100 []),(7,.d .bool)],[(100100,.var 239 (.d Yd))]⟩)] (.t 1 (.two (.two (.nil) (.gh (.tl .done) .nil)) (.two (.un (.t 4 (.t 4 (.two (.t 3 (.nil)) (.gh (.tl .done) .nil))))) (.nil))))))) (.nil))
def Qkt:Shp:=⟨[(0,.d (.sl J5)),(1,.d .i),(2,.d .i)],[]⟩
def Qgz:Shp:=⟨[(0,.d Yd),(1,.d .bool)],[]⟩
def Q2w:An:=.t 3 (.two (.reg (.n 3 (.call 0 (.n 4 .done)))) (.nil))
def Q2x:Shp:=⟨[(0,.d Yf),(1,.d .i)],[]⟩
def Qvk:Shp:=⟨[(0,.d .i),(1,.d .i)],[]⟩
def Q2y:An:=.t 3 (.two (.two (.reg (.n 1 (.call 0 (.n 1 .done)))) (.t 2 (.two (.gh (.tl .done) .nil) (.nil)))) (.two (.two (.reg (.n 1 (.call 1 (.n 1 .done)))) (.two (.gh (.tl .done) .nil) (.nil))) (.two (.two (.reg (.n 2 (.call 2 (.n 1 .done)))) (.two (.gh (.tl .done) .nil) (.nil))) (.two (.t 5 (.two (.gh (.tl .done) .nil) (.nil))) (.t 6 (.t 3 (.nil)))))))
def Q2z:Shp:=⟨[(0,.d Ql),(1,.d .i)],[]⟩
def Qvl:Shp:=⟨[(0,.d Ql),(1,.d .i)],[]⟩
def Qku:An:=.t 2 (.two (.reg (.n 1 (.call 0 (.n 2 .done)))) (.two (.two (.reg (.n 7 (.sp 24 6 [0,2,3,8,9] [5,8,9,11701,11702] ⟨[(30,.d .bool)],[]⟩ (.nl 5 (.n 1 .done)) (.nl 3 (.call 1 (.nl 1 (.n 1 .done)))) (.done)))) (.two (.gh (.tl .done) .nil) (.nil))) (.two (.reg (.n 3 (.call 2 (.n 5 .done)))) (.t 6 (.t 2 (.two (.t 3 (.un (.lp [2,3,8,9,10,11,44,45] [5,8,9,11701,11702,13601] ⟨[(12,.p 100100 []),(13,.f 187 (.cons (.p 100100 []) (.nil))),(46,.d .i)],[(100100,.var 87 (.d Ql))]⟩ [(.x 0,⟨[(12,.p 100400 [])],[(100400,.var 87 (.d Ql))]⟩)] (.t 1 (.two (.two (.nil) (.nil)) (.two (.jn [46] [] [(.n,⟨[(12,.p 100300 []),(13,.f 187 (.cons (.p 100300 []) (.nil)))],[(100300,.var 87 (.d Ql))]⟩)] (.un (.t 4 (.two (.two (.dr 20 (.n 5 (.sp 54 9 [12,13,15,46] [15,100100] ⟨[(63,.d .bool)],[]⟩ (.nl 8 (.n 1 .done)) (.nl 8 (.n 1 .done)) (.n 6 .done))) (.done)) (.two (.nil) (.nil))) (.t 2 (.un (.t 2 (.two (.reg (.n 4 (.call 3 (.n 2 (.call 4 (.done)))))) (.t 2 (.two (.gh (.tl .done) .nil) (.nil))))))))))) (.reg (.n 2 .done)))))))) (.t 6 (.t 5 (.t 3 (.t 2 (.nil)))))))))))
def Qkv:Shp:=⟨[(0,.d (.sl J5)),(1,.d Ye),(2,.d .i),(3,.d .i)],[]⟩
def Qg0:Shp:=⟨[(0,.ag (.cons (.d (.sl Qg)) (.cons (.s 1) (.cons (.s 2) (.nil)))))],[(1,.row 87 Ql),(2,.row 105 Qp)]⟩
def Qkw:An:=.t 4 (.two (.reg (.n 5 (.call 0 (.n 6 .done)))) (.two (.t 7 (.two (.gh (.tl .done) .nil) (.nil))) (.two (.t 4 (.un (.lp [6,30,31,32] [4,5,6,9] ⟨[],[]⟩ [(.r,⟨[(8,.d .i)],[]⟩)] (.t 1 (.two (.two (.nil) (.gh (.tl .done) .nil)) (.two (.un (.t 4 (.t 5 (.two (.two (.two (.reg (.n 1 (.call 1 (.n 1 .done)))) (.two (.gh (.tl .done) .nil) (.nil))) (.two (.dm 5 [44,45,46,47,48] [] (.n 1 (.call 2 (.n 3 (.tl (.n 2 .done)))))) (.nil))) (.gh (.tl .done) .nil))))) (.nil))))))) (.nil))))
def Qkx:Shp:=⟨[(0,.d K7),(1,.ag (.cons (.d (.sl Qg)) (.cons (.s 5000) (.cons (.s 5001) (.nil))))),(2,.d Yf),(3,.d .i)],[(5000,.row 87 Ql),(5001,.row 105 Qp)]⟩
def Qg1:Shp:=⟨[(0,.d .i)],[]⟩
def Qky:An:=.t 5 (.two (.t 14 (.two (.gh (.tl .done) .nil) (.nil))) (.t 1 (.two (.two (.reg (.n 2 (.call 0 (.done)))) (.two (.t 6 (.t 2 (.two (.two (.reg (.n 5 (.call 1 (.n 6 .done)))) (.two (.reg (.n 14 (.call 2 (.n 7 .done)))) (.reg (.n 4 .done)))) (.gh (.tl .done) .nil)))) (.gh (.tl .done) .nil))) (.two (.dc 12 [74,75,76,77,78,79,80,81,82,83,84,85] [7,5,6] [5000,5001] (.op ⟨.nl 1 .done,[],[],[],[]⟩ (.op ⟨.nl 1 .done,[],[7],[],[]⟩ (.op ⟨.nl 1 .done,[],[],[],[]⟩ (.op ⟨.nl 1 .done,[],[],[],[]⟩ (.op ⟨.nl 1 .done,[],[],[],[]⟩ (.op ⟨.nl 1 .done,[],[],[],[]⟩ (.op ⟨.nl 1 .done,[],[5],[],[]⟩ (.op ⟨.nl 1 .done,[],[6],[],[5000,5001]⟩ (.op ⟨.nl 1 .done,[],[7],[],[]⟩ (.op ⟨.nl 1 .done,[],[],[],[]⟩ (.op ⟨.call 3 (.done),[],[5000,5001],[],[]⟩ (.op ⟨.call 4 (.done),[],[],[],[]⟩ (.tl (.n 2 .done))))))))))))))) (.nil)))))
def Qkz:Shp:=⟨[(0,.d K7),(1,.ag (.cons (.d (.sl Qg)) (.cons (.s 5000) (.cons (.s 5001) (.nil))))),(2,.d Yf),(3,.d .i),(4,.d .i)],[(5000,.row 87 Ql),(5001,.row 105 Qp)]⟩
def Qg2:Shp:=⟨[(0,.d .i),(1,.d .i)],[]⟩
def Qk0:An:=.t 2 (.two (.dr 10 (.n 10 .done) (.done)) (.nil))
def Qk1:Shp:=⟨[(0,.d Ql),(1,.p 5000 [])],[(5000,.var 157 (.p 5001 [])),(5001,.var 162 (.ag (.cons (.d Qz) (.cons (.ag (.cons (.d (.sl Qg)) (.cons (.s 5002) (.cons (.s 5003) (.nil))))) (.nil))))),(5002,.row 87 Ql),(5003,.row 105 Qp)]⟩
def Qg3:Shp:=⟨[(0,.d .bool)],[]⟩
def Qk2:An:=.t 1 (.two (.t 3 (.un (.lp [0,1,7,8] [] ⟨[],[]⟩ [(.r,⟨[(4,.d .i)],[]⟩)] (.t 1 (.two (.two (.nil) (.gh (.tl .done) .nil)) (.two (.un (.t 2 (.two (.reg (.n 5 (.call 0 (.done)))) (.two (.t 2 (.nil)) (.gh (.tl .done) .nil))))) (.nil))))))) (.nil))
def Qk3:Shp:=⟨[(0,.s 5000),(1,.f 199 (.cons (.p 5001 []) (.nil)))],[(5000,.row 87 Ql),(5001,.var 157 (.p 5002 [])),(5002,.var 162 (.ag (.cons (.d Qz) (.cons (.ag (.cons (.d (.sl Qg)) (.cons (.s 5000) (.cons (.s 5003) (.nil))))) (.nil))))),(5003,.row 105 Qp)]⟩
def Qg4:Shp:=⟨[(0,.d .i)],[]⟩
def Qk4:An:=.t 2 (.two (.reg (.n 6 (.call 0 (.n 1 .done)))) (.nil))
def Qk5:Shp:=⟨[(0,.p 5000 [])],[(5000,.var 162 (.ag (.cons (.d Qz) (.cons (.ag (.cons (.d (.sl Qg)) (.cons (.s 5001) (.cons (.s 5002) (.nil))))) (.nil))))),(5001,.row 87 Ql),(5002,.row 105 Qp)]⟩
def Qg5:Shp:=⟨[(0,.d .i)],[(5001,.row 87 Ql)]⟩
def Qk6:An:=.two (.reg (.n 6 (.call 0 (.n 5 .done)))) (.two (.reg (.n 1 (.call 1 (.n 1 .done)))) (.two (.t 10 (.two (.nil) (.nil))) (.two (.reg (.n 9 (.call 2 (.n 6 .done)))) (.t 2 (.two (.dm 11 [46,47,48,49,50,51,52,53,54,55,1000000010] [5001] (.n 11 (.tl (.n 4 .done)))) (.gh (.tl .done) .nil))))))
def Qk7:Shp:=⟨[(0,.p 5000 []),(1,.d .i)],[(5000,.var 162 (.ag (.cons (.d Qz) (.cons (.ag (.cons (.d (.sl Qg)) (.cons (.s 5001) (.cons (.s 5002) (.nil))))) (.nil))))),(5001,.row 87 Ql),(5002,.row 105 Qp)]⟩
def Qg6:Shp:=⟨[],[(5000,.var 162 (.ag (.cons (.d Qz) (.cons (.ag (.cons (.d (.sl Qg)) (.cons (.s 1) (.cons (.s 2) (.nil))))) (.nil))))),(1,.row 87 Ql),(2,.row 105 Qp)]⟩
def Q8y:An:=.t 2 (.two (.gh (.fz 5001 (.fz 5002 (.fz 5003 (.done)))) (.dm 17 [15,16,17,18,19,20,21,22,23,24,25,26,27,28,29,30,31] [] (.n 16 (.call 0 (.tl (.n 3 .done)))))) (.two (.dc 15 [34,35,36,37,38,39,40,41,42,43,44,45,46,47,48] [5,5000] [] (.op ⟨.nl 1 .done,[],[],[],[5000]⟩ (.op ⟨.nl 1 .done,[],[],[],[5]⟩ (.op ⟨.nl 1 .done,[],[5],[],[]⟩ (.op ⟨.nl 1 .done,[],[],[],[5000]⟩ (.op ⟨.nl 1 .done,[],[5000],[],[5000]⟩ (.op ⟨.nl 1 .done,[],[],[],[5000]⟩ (.op ⟨.nl 1 .done,[],[5000],[],[]⟩ (.op ⟨.nl 1 .done,[],[],[],[5000]⟩ (.op ⟨.nl 1 .done,[],[5000],[],[5000]⟩ (.op ⟨.nl 1 .done,[],[],[],[5000]⟩ (.op ⟨.nl 1 .done,[],[],[],[5000]⟩ (.op ⟨.nl 1 .done,[],[],[],[5000]⟩ (.op ⟨.nl 1 .done,[],[5000],[],[]⟩ (.op ⟨.nl 1 .done,[],[],[],[]⟩ (.op ⟨.call 1 (.done),[],[],[14802,14801],[14801,14802]⟩ (.tl (.n 3 .done)))))))))))))))))) (.t 8 (.two (.dm 15 [59,60,61,62,63,64,65,66,67,68,58,69,70,9,1000000014] [] (.n 9 (.call 2 (.n 5 (.tl (.n 1 .done)))))) (.two (.un (.t 3 (.two (.gh (.tl .done) .nil) (.t 3 (.two (.gh (.tl .done) .nil) (.nil)))))) (.two (.dc 17 [78,79,80,81,82,83,84,85,86,87,88,89,90,77,91,92,11] [5,5000,14801,14802] [] (.op ⟨.nl 1 .done,[],[5],[],[]⟩ (.op ⟨.nl 1 .done,[],[],[],[5000]⟩ (.op ⟨.nl 1 .done,[],[5000],[],[5000]⟩ (.op ⟨.nl 1 .done,[],[],[],[5000]⟩ (.op ⟨.nl 1 .done,[],[5000],[],[14801,14802]⟩ (.op ⟨.nl 1 .done,[],[],[],[5000]⟩ (.op ⟨.nl 1 .done,[],[5000],[],[5000]⟩ (.op ⟨.nl 1 .done,[],[],[],[5000]⟩ (.op ⟨.nl 1 .done,[],[],[],[5000]⟩ (.op ⟨.nl 1 .done,[],[5000],[],[]⟩ (.op ⟨.nl 1 .done,[],[],[],[]⟩ (.op ⟨.nl 1 .done,[],[],[],[]⟩ (.op ⟨.call 3 (.done),[],[14801,14802],[],[]⟩ (.op ⟨.nl 1 .done,[],[],[],[]⟩ (.op ⟨.nl 1 .done,[],[],[],[]⟩ (.op ⟨.nl 1 .done,[],[],[],[]⟩ (.op ⟨.nl 1 .done,[],[],[],[]⟩ (.tl (.n 1 .done)))))))))))))))))))) (.two (.t 4 (.two (.gh (.tl .done) .nil) (.nil))) (.two (.t 2 (.two (.gh (.tl .done) .nil) (.nil))) (.two (.two (.dm 15 [148,149,150,151,152,153,154,155,156,157,147,158,159,13,1000000014] [] (.n 9 (.call 4 (.n 5 (.tl (.n 1 .done)))))) (.t 5 (.two (.reg (.n 2 (.call 5 (.done)))) (.gh (.tl .done) .nil)))) (.t 8 (.t 1 (.nil))))))))))))
def Q8z:Shp:=⟨[(0,.p 5000 []),(1,.d K7),(2,.d .i),(3,.d .i)],[(5000,.var 162 (.ag (.cons (.d Qz) (.cons (.ag (.cons (.s 5001) (.cons (.s 5002) (.cons (.s 5003) (.nil))))) (.nil))))),(5001,.row 145 Qg),(5002,.row 87 Ql),(5003,.row 105 Qp)]⟩
def Q20:Shp:=⟨[(0,.d .i)],[(5000,.var 162 (.ag (.cons (.d Qz) (.cons (.ag (.cons (.d (.sl Qg)) (.cons (.s 1) (.cons (.s 2) (.nil))))) (.nil))))),(1,.row 87 Ql),(2,.row 105 Qp)]⟩
def Q80:An:=.t 4 (.t 10 (.two (.dm 9 [22,23,24,25,26,27,28,29,1000000008] [5000] (.n 9 (.tl (.n 4 .done)))) (.two (.dm 11 [33,34,35,36,37,38,39,40,41,1000000009,1000000010] [10,11] (.n 11 (.tl (.n 1 .done)))) (.nil))))
def Q81:Shp:=⟨[(0,.p 5000 []),(1,.d Vx),(2,.d .i),(3,.d .i),(4,.d .i)],[(5000,.var 162 (.ag (.cons (.d Qz) (.cons (.ag (.cons (.d (.sl Qg)) (.cons (.s 5001) (.cons (.s 5002) (.nil))))) (.nil))))),(5001,.row 87 Ql),(5002,.row 105 Qp)]⟩
def Q21:Shp:=⟨[(0,.ag (.cons (.d (.sl Qg)) (.cons (.s 1) (.cons (.s 2) (.nil))))),(1,.d Qz),(2,.d Jh)],[(5000,.var 162 (.ag (.cons (.d Qz) (.cons (.ag (.cons (.d (.sl Qg)) (.cons (.s 1) (.cons (.s 2) (.nil))))) (.nil))))),(1,.row 87 Ql),(2,.row 105 Qp)]⟩
def Q82:An:=.t 4 (.t 1 (.two (.t 6 (.t 6 (.gh (.tl .done) .nil))) (.two (.dc 13 [21,22,23,24,25,26,27,28,29,30,31,32,33] [4,5000,5001,5002] [] (.op ⟨.nl 1 .done,[],[],[],[5000]⟩ (.op ⟨.nl 1 .done,[],[4],[],[]⟩ (.op ⟨.nl 1 .done,[],[],[],[5000]⟩ (.op ⟨.nl 1 .done,[],[5000],[],[5000]⟩ (.op ⟨.nl 1 .done,[],[],[],[5000]⟩ (.op ⟨.nl 1 .done,[],[],[],[5000]⟩ (.op ⟨.nl 1 .done,[],[5000],[],[]⟩ (.op ⟨.nl 1 .done,[],[],[],[]⟩ (.op ⟨.nl 1 .done,[],[],[],[]⟩ (.op ⟨.call 0 (.done),[5000,5001,5002],[],[13002,13001],[5000,13001,13002]⟩ (.op ⟨.nl 1 .done,[],[],[],[13001,13002]⟩ (.op ⟨.nl 1 .done,[],[],[],[]⟩ (.op ⟨.nl 1 .done,[],[],[],[]⟩ (.tl (.n 3 .done)))))))))))))))) (.nil))))
def Q83:Shp:=⟨[(0,.p 5000 []),(1,.d Vx),(2,.d .i)],[(5000,.var 162 (.ag (.cons (.d Qz) (.cons (.ag (.cons (.d (.sl Qg)) (.cons (.s 5001) (.cons (.s 5002) (.nil))))) (.nil))))),(5001,.row 87 Ql),(5002,.row 105 Qp)]⟩
def Q22:Shp:=⟨[(0,.ag (.cons (.d (.sl Qg)) (.cons (.s 1) (.cons (.s 2) (.nil))))),(1,.d Qz),(2,.d Jh)],[(5000,.var 162 (.ag (.cons (.d Qz) (.cons (.ag (.cons (.d (.sl Qg)) (.cons (.s 1) (.cons (.s 2) (.nil))))) (.nil))))),(1,.row 87 Ql),(2,.row 105 Qp)]⟩
def Q84:An:=.t 6 (.t 1 (.two (.t 3 (.two (.gh (.tl .done) .nil) (.nil))) (.t 1 (.two (.un (.t 9 (.two (.gh (.tl .done) .nil) (.t 9 (.two (.gh (.tl .done) .nil) (.t 4 (.two (.gh (.tl .done) .nil) (.t 15 (.two (.gh (.tl .done) .nil) (.nil)))))))))) (.two (.t 2 (.two (.gh (.tl .done) .nil) (.nil))) (.two (.reg (.n 10 (.call 0 (.n 6 .done)))) (.two (.t 2 (.two (.gh (.tl .done) .nil) (.nil))) (.two (.reg (.n 7 (.call 1 (.n 1 .done)))) (.two (.reg (.n 6 (.call 2 (.n 1 .done)))) (.two (.t 3 (.two (.two (.reg (.n 3 (.call 3 (.n 6 .done)))) (.nil)) (.gh (.tl .done) .nil))) (.nil)))))))))))
def Q85:Shp:=⟨[(0,.d K7),(1,.d Ye),(2,.d Vx)],[]⟩
def Q23:Shp:=⟨[(0,.d Ye),(1,.d Qz),(2,.d Jh)],[]⟩
def Q86:An:=.t 3 (.two (.un (.t 5 (.two (.gh (.tl .done) .nil) (.t 6 (.two (.gh (.tl .done) .nil) (.t 3 (.two (.gh (.tl .done) .nil) (.t 7 (.two (.gh (.tl .done) .nil) (.t 16 (.two (.gh (.tl .done) .nil) (.t 22 (.two (.gh (.tl .done) .nil) (.nil)))))))))))))) (.t 1 (.nil)))
def Q87:Shp:=⟨[(0,.d Qz),(1,.d Vx),(2,.d .i),(3,.d .i)],[]⟩
def Q24:Shp:=⟨[(0,.d .i)],[]⟩
def Q25:An:=.t 4 (.two (.two (.reg (.n 1 (.call 0 (.n 2 (.sp 15 5 [1,2,3,6] [3,6] ⟨[(20,.d .bool)],[]⟩ (.nl 4 (.n 1 .done)) (.nl 2 (.call 0 (.nl 1 (.n 1 .done)))) (.n 7 .done)))))) (.two (.gh (.tl .done) .nil) (.nil))) (.two (.reg (.n 3 (.call 1 (.n 5 .done)))) (.two (.t 2 (.two (.gh (.tl .done) .nil) (.nil))) (.t 3 (.two (.dm 10 [41,42,43,44,45,46,47,48,49,1000000009] [11] (.n 10 (.tl (.n 2 .done)))) (.two (.reg (.n 3 (.call 2 (.n 3 .done)))) (.t 5 (.nil))))))))
def Q26:Shp:=⟨[(0,.d Yf),(1,.d .i),(2,.d .i)],[]⟩
def Qvm:Shp:=⟨[(0,.ag (.cons (.d .i) (.cons (.d .i) (.cons (.d .i) (.cons (.d .str) (.cons (.d .str) (.cons (.d .i) (.cons (.ag (.cons (.d .i) (.cons (.d .str) (.cons (.d .str) (.cons (.d .i) (.cons (.s 1) (.nil))))))) (.cons (.d .i) (.cons (.d .i) (.nil))))))))))),(1,.d .i),(2,.d .i)],[(1,.row 153 Yp)]⟩
def Qk8:An:=.t 2 (.two (.dr 10 (.n 10 .done) (.done)) (.nil))
def Qk9:Shp:=⟨[(0,.d Ql),(1,.p 5000 [])],[(5000,.var 157 (.p 5001 [])),(5001,.var 162 (.ag (.cons (.ag (.cons (.d .i) (.cons (.d .i) (.cons (.d .i) (.cons (.d .i) (.cons (.ag (.cons (.d .i) (.cons (.d .i) (.cons (.d .i) (.cons (.d .str) (.cons (.d .str) (.cons (.d .i) (.cons (.ag (.cons (.d .i) (.cons (.d .str) (.cons (.d .str) (.cons (.d .i) (.cons (.s 5002) (.nil))))))) (.cons (.d .i) (.cons (.d .i) (.nil))))))))))) (.cons (.d .i) (.cons (.d (.sl Jr)) (.cons (.d .i) (.cons (.d .i) (.cons (.d .bool) (.cons (.d Jh) (.nil))))))))))))) (.cons (.ag (.cons (.s 5003) (.cons (.s 5004) (.cons (.s 5005) (.nil))))) (.nil))))),(5002,.row 153 Yp),(5003,.row 145 Qg),(5004,.row 87 Ql),(5005,.row 105 Qp)]⟩
def Qg7:Shp:=⟨[(0,.d .bool)],[]⟩
def Qla:An:=.t 1 (.two (.t 3 (.un (.lp [0,1,7,8] [] ⟨[],[]⟩ [(.r,⟨[(4,.d .i)],[]⟩)] (.t 1 (.two (.two (.nil) (.gh (.tl .done) .nil)) (.two (.un (.t 2 (.two (.reg (.n 5 (.call 0 (.done)))) (.two (.t 2 (.nil)) (.gh (.tl .done) .nil))))) (.nil))))))) (.nil))
def Qlb:Shp:=⟨[(0,.s 5000),(1,.f 199 (.cons (.p 5001 []) (.nil)))],[(5000,.row 87 Ql),(5001,.var 157 (.p 5002 [])),(5002,.var 162 (.ag (.cons (.ag (.cons (.d .i) (.cons (.d .i) (.cons (.d .i) (.cons (.d .i) (.cons (.ag (.cons (.d .i) (.cons (.d .i) (.cons (.d .i) (.cons (.d .str) (.cons (.d .str) (.cons (.d .i) (.cons (.ag (.cons (.d .i) (.cons (.d .str) (.cons (.d .str) (.cons (.d .i) (.cons (.s 5003) (.nil))))))) (.cons (.d .i) (.cons (.d .i) (.nil))))))))))) (.cons (.d .i) (.cons (.d (.sl Jr)) (.cons (.d .i) (.cons (.d .i) (.cons (.d .bool) (.cons (.d Jh) (.nil))))))))))))) (.cons (.ag (.cons (.s 5004) (.cons (.s 5000) (.cons (.s 5005) (.nil))))) (.nil))))),(5003,.row 153 Yp),(5004,.row 145 Qg),(5005,.row 105 Qp)]⟩
def Qg8:Shp:=⟨[(0,.d .i)],[]⟩
def Qlc:An:=.t 2 (.two (.reg (.n 6 (.call 0 (.n 1 .done)))) (.nil))
def Qld:Shp:=⟨[(0,.p 5000 [])],[(5000,.var 162 (.ag (.cons (.ag (.cons (.d .i) (.cons (.d .i) (.cons (.d .i) (.cons (.d .i) (.cons (.ag (.cons (.d .i) (.cons (.d .i) (.cons (.d .i) (.cons (.d .str) (.cons (.d .str) (.cons (.d .i) (.cons (.ag (.cons (.d .i) (.cons (.d .str) (.cons (.d .str) (.cons (.d .i) (.cons (.s 5001) (.nil))))))) (.cons (.d .i) (.cons (.d .i) (.nil))))))))))) (.cons (.d .i) (.cons (.d (.sl Jr)) (.cons (.d .i) (.cons (.d .i) (.cons (.d .bool) (.cons (.d Jh) (.nil))))))))))))) (.cons (.ag (.cons (.s 5002) (.cons (.s 5003) (.cons (.s 5004) (.nil))))) (.nil))))),(5001,.row 153 Yp),(5002,.row 145 Qg),(5003,.row 87 Ql),(5004,.row 105 Qp)]⟩
def Qg9:Shp:=⟨[(0,.d .i)],[(5003,.row 87 Ql)]⟩
def Q27:An:=.t 3 (.two (.two (.reg (.n 1 (.call 0 (.n 1 .done)))) (.t 2 (.two (.gh (.tl .done) .nil) (.nil)))) (.two (.two (.reg (.n 2 (.call 1 (.n 7 .done)))) (.two (.gh (.tl .done) .nil) (.nil))) (.t 6 (.t 6 (.t 3 (.nil))))))
def Q28:Shp:=⟨[(0,.d Ql),(1,.d .i),(2,.d .i)],[]⟩
def Qvn:Shp:=⟨[(0,.d Ql),(1,.d .i)],[]⟩
def Q88:An:=.t 3 (.two (.t 7 (.un (.lp [0,1,4,5,24,25] [18,5000,5001,5002,5003] ⟨[],[]⟩ [(.x 0,⟨[],[]⟩)] (.t 1 (.two (.two (.gh (.tl .done) .nil) (.nil)) (.nil)))))) (.two (.t 3 (.two (.gh (.tl .done) .nil) (.nil))) (.t 1 (.two (.two (.reg (.n 9 (.call 0 (.n 8 .done)))) (.t 2 (.t 8 (.gh (.tl .done) .nil)))) (.t 11 (.two (.two (.reg (.n 1 (.call 1 (.n 1 .done)))) (.t 10 (.two (.two (.dm 20 [117,118,119,120,121,122,123,124,125,126,127,128,129,130,131,116,132,133,16,1000000019] [] (.n 14 (.call 2 (.n 5 (.tl (.n 1 .done)))))) (.t 2 (.two (.dr 8 (.n 8 .done) (.n 1 .done)) (.gh (.tl .done) .nil)))) (.gh (.tl .done) .nil)))) (.reg (.n 15 .done))))))))
def Q89:Shp:=⟨[(0,.p 5000 []),(1,.d .i)],[(5000,.var 162 (.ag (.cons (.d Qz) (.cons (.ag (.cons (.s 5001) (.cons (.s 5002) (.cons (.s 5003) (.nil))))) (.nil))))),(5001,.row 145 Qg),(5002,.row 87 Ql),(5003,.row 105 Qp)]⟩
def Q29:Shp:=⟨[],[(5000,.var 162 (.ag (.cons (.ag (.cons (.d .i) (.cons (.d .i) (.cons (.d .i) (.cons (.d .i) (.cons (.ag (.cons (.d .i) (.cons (.d .i) (.cons (.d .i) (.cons (.d .str) (.cons (.d .str) (.cons (.d .i) (.cons (.ag (.cons (.d .i) (.cons (.d .str) (.cons (.d .str) (.cons (.d .i) (.cons (.s 1) (.nil))))))) (.cons (.d .i) (.cons (.d .i) (.nil))))))))))) (.cons (.d .i) (.cons (.ns) (.cons (.d .i) (.cons (.d .i) (.cons (.d .bool) (.cons (.d Jh) (.nil))))))))))))) (.cons (.ag (.cons (.s 2) (.cons (.s 3) (.cons (.s 4) (.nil))))) (.nil))))),(1,.row 153 Yp),(2,.row 145 Qg),(3,.row 87 Ql),(4,.row 105 Qp)]⟩
def Qle:An:=.t 2 (.two (.dr 10 (.n 10 .done) (.done)) (.nil))
def Qlf:Shp:=⟨[(0,.d Ql),(1,.p 5000 [])],[(5000,.var 157 (.p 5001 [])),(5001,.var 162 (.ag (.cons (.ag (.cons (.d .i) (.cons (.d .i) (.cons (.d .i) (.cons (.d .i) (.cons (.d Yf) (.cons (.d .i) (.cons (.s 5002) (.cons (.d .i) (.cons (.d .i) (.cons (.d .bool) (.cons (.d Jh) (.nil))))))))))))) (.cons (.ag (.cons (.d (.sl Qg)) (.cons (.s 5003) (.cons (.s 5004) (.nil))))) (.nil))))),(5002,.row 91 Jr),(5003,.row 87 Ql),(5004,.row 105 Qp)]⟩
def Qha:Shp:=⟨[(0,.d .bool)],[]⟩
def Qlg:An:=.t 1 (.two (.t 3 (.un (.lp [0,1,7,8] [] ⟨[],[]⟩ [(.r,⟨[(4,.d .i)],[]⟩)] (.t 1 (.two (.two (.nil) (.gh (.tl .done) .nil)) (.two (.un (.t 2 (.two (.reg (.n 5 (.call 0 (.done)))) (.two (.t 2 (.nil)) (.gh (.tl .done) .nil))))) (.nil))))))) (.nil))
def Qlh:Shp:=⟨[(0,.s 5000),(1,.f 199 (.cons (.p 5001 []) (.nil)))],[(5000,.row 87 Ql),(5001,.var 157 (.p 5002 [])),(5002,.var 162 (.ag (.cons (.ag (.cons (.d .i) (.cons (.d .i) (.cons (.d .i) (.cons (.d .i) (.cons (.d Yf) (.cons (.d .i) (.cons (.s 5003) (.cons (.d .i) (.cons (.d .i) (.cons (.d .bool) (.cons (.d Jh) (.nil))))))))))))) (.cons (.ag (.cons (.d (.sl Qg)) (.cons (.s 5000) (.cons (.s 5004) (.nil))))) (.nil))))),(5003,.row 91 Jr),(5004,.row 105 Qp)]⟩
def Qhb:Shp:=⟨[(0,.d .i)],[]⟩
def Qli:An:=.t 2 (.two (.reg (.n 6 (.call 0 (.n 1 .done)))) (.nil))
def Qlj:Shp:=⟨[(0,.p 5000 [])],[(5000,.var 162 (.ag (.cons (.ag (.cons (.d .i) (.cons (.d .i) (.cons (.d .i) (.cons (.d .i) (.cons (.d Yf) (.cons (.d .i) (.cons (.s 5001) (.cons (.d .i) (.cons (.d .i) (.cons (.d .bool) (.cons (.d Jh) (.nil))))))))))))) (.cons (.ag (.cons (.d (.sl Qg)) (.cons (.s 5002) (.cons (.s 5003) (.nil))))) (.nil))))),(5001,.row 91 Jr),(5002,.row 87 Ql),(5003,.row 105 Qp)]⟩
def Qhc:Shp:=⟨[(0,.d .i)],[(5002,.row 87 Ql)]⟩
def Qlk:An:=.two (.reg (.n 6 (.call 0 (.n 5 .done)))) (.two (.reg (.n 1 (.call 1 (.n 1 .done)))) (.two (.t 10 (.two (.nil) (.nil))) (.two (.reg (.n 9 (.call 2 (.n 6 .done)))) (.t 2 (.two (.dm 11 [46,47,48,49,50,51,52,53,54,55,1000000010] [5002] (.n 11 (.tl (.n 4 .done)))) (.gh (.tl .done) .nil))))))
def Qll:Shp:=⟨[(0,.p 5000 []),(1,.d .i)],[(5000,.var 162 (.ag (.cons (.ag (.cons (.d .i) (.cons (.d .i) (.cons (.d .i) (.cons (.d .i) (.cons (.d Yf) (.cons (.d .i) (.cons (.s 5001) (.cons (.d .i) (.cons (.d .i) (.cons (.d .bool) (.cons (.d Jh) (.nil))))))))))))) (.cons (.ag (.cons (.d (.sl Qg)) (.cons (.s 5002) (.cons (.s 5003) (.nil))))) (.nil))))),(5001,.row 91 Jr),(5002,.row 87 Ql),(5003,.row 105 Qp)]⟩
def Qhd:Shp:=⟨[],[(5000,.var 162 (.ag (.cons (.ag (.cons (.d .i) (.cons (.d .i) (.cons (.d .i) (.cons (.d .i) (.cons (.d Yf) (.cons (.d .i) (.cons (.s 1) (.cons (.d .i) (.cons (.d .i) (.cons (.d .bool) (.cons (.d Jh) (.nil))))))))))))) (.cons (.ag (.cons (.d (.sl Qg)) (.cons (.s 2) (.cons (.s 3) (.nil))))) (.nil))))),(1,.row 91 Jr),(2,.row 87 Ql),(3,.row 105 Qp)]⟩
def Qqo:An:=.t 2 (.two (.gh (.fz 5003 (.fz 5004 (.fz 5005 (.done)))) (.dm 17 [15,16,17,18,19,20,21,22,23,24,25,26,27,28,29,30,31] [] (.n 16 (.call 0 (.tl (.n 3 .done)))))) (.two (.dc 15 [34,35,36,37,38,39,40,41,42,43,44,45,46,47,48] [5,5000] [] (.op ⟨.nl 1 .done,[],[],[],[5000]⟩ (.op ⟨.nl 1 .done,[],[],[],[5]⟩ (.op ⟨.nl 1 .done,[],[5],[],[]⟩ (.op ⟨.nl 1 .done,[],[],[],[5000]⟩ (.op ⟨.nl 1 .done,[],[5000],[],[5000]⟩ (.op ⟨.nl 1 .done,[],[],[],[5000]⟩ (.op ⟨.nl 1 .done,[],[5000],[],[]⟩ (.op ⟨.nl 1 .done,[],[],[],[5000]⟩ (.op ⟨.nl 1 .done,[],[5000],[],[5000]⟩ (.op ⟨.nl 1 .done,[],[],[],[5000]⟩ (.op ⟨.nl 1 .done,[],[],[],[5000]⟩ (.op ⟨.nl 1 .done,[],[],[],[5000]⟩ (.op ⟨.nl 1 .done,[],[5000],[],[]⟩ (.op ⟨.nl 1 .done,[],[],[],[]⟩ (.op ⟨.call 1 (.done),[],[],[14802,14801],[14801,14802]⟩ (.tl (.n 3 .done)))))))))))))))))) (.t 8 (.two (.dm 15 [59,60,61,62,63,64,65,66,67,68,58,69,70,9,1000000014] [] (.n 9 (.call 2 (.n 5 (.tl (.n 1 .done)))))) (.two (.un (.t 3 (.two (.gh (.tl .done) .nil) (.t 3 (.two (.gh (.tl .done) .nil) (.nil)))))) (.two (.gh (.fz 5001 (.dt 5000 (.done))) (.dc 17 [78,79,80,81,82,83,84,85,86,87,88,89,90,77,91,92,11] [5,5000,14801,14802] [] (.op ⟨.nl 1 .done,[],[5],[],[]⟩ (.op ⟨.nl 1 .done,[],[],[],[5000]⟩ (.op ⟨.nl 1 .done,[],[5000],[],[5000]⟩ (.op ⟨.nl 1 .done,[],[],[],[5000]⟩ (.op ⟨.nl 1 .done,[],[5000],[],[14801,14802]⟩ (.op ⟨.nl 1 .done,[],[],[],[5000]⟩ (.op ⟨.nl 1 .done,[],[5000],[],[5000]⟩ (.op ⟨.nl 1 .done,[],[],[],[5000]⟩ (.op ⟨.nl 1 .done,[],[],[],[5000]⟩ (.op ⟨.nl 1 .done,[],[5000],[],[]⟩ (.op ⟨.nl 1 .done,[],[],[],[]⟩ (.op ⟨.nl 1 .done,[],[],[],[]⟩ (.op ⟨.call 3 (.done),[],[14801,14802],[],[]⟩ (.op ⟨.nl 1 .done,[],[],[],[]⟩ (.op ⟨.nl 1 .done,[],[],[],[]⟩ (.op ⟨.nl 1 .done,[],[],[],[]⟩ (.op ⟨.nl 1 .done,[],[],[],[]⟩ (.tl (.n 1 .done))))))))))))))))))))) (.two (.t 4 (.two (.gh (.tl .done) .nil) (.nil))) (.two (.t 2 (.two (.gh (.tl .done) .nil) (.nil))) (.two (.two (.dm 15 [148,149,150,151,152,153,154,155,156,157,147,158,159,13,1000000014] [] (.n 9 (.call 4 (.n 5 (.tl (.n 1 .done)))))) (.t 5 (.two (.reg (.n 2 (.call 5 (.done)))) (.gh (.tl .done) .nil)))) (.t 8 (.t 1 (.nil))))))))))))
def Qqp:Shp:=⟨[(0,.p 5000 []),(1,.d K7),(2,.d .i),(3,.d .i)],[(5000,.var 162 (.ag (.cons (.ag (.cons (.d .i) (.cons (.d .i) (.cons (.d .i) (.cons (.d .i) (.cons (.ag (.cons (.d .i) (.cons (.d .i) (.cons (.d .i) (.cons (.d .str) (.cons (.d .str) (.cons (.d .i) (.cons (.ag (.cons (.d .i) (.cons (.d .str) (.cons (.d .str) (.cons (.d .i) (.cons (.s 5001) (.nil))))))) (.cons (.d .i) (.cons (.d .i) (.nil))))))))))) (.cons (.d .i) (.cons (.s 5002) (.cons (.d .i) (.cons (.d .i) (.cons (.d .bool) (.cons (.d Jh) (.nil))))))))))))) (.cons (.ag (.cons (.s 5003) (.cons (.s 5004) (.cons (.s 5005) (.nil))))) (.nil))))),(5001,.row 153 Yp),(5002,.row 91 Jr),(5003,.row 145 Qg),(5004,.row 87 Ql),(5005,.row 105 Qp)]⟩
def Qlm:Shp:=⟨[(0,.d .i)],[(5000,.var 162 (.ag (.cons (.ag (.cons (.d .i) (.cons (.d .i) (.cons (.d .i) (.cons (.d .i) (.cons (.d Yf) (.cons (.d .i) (.cons (.s 1) (.cons (.d .i) (.cons (.d .i) (.cons (.d .bool) (.cons (.d Jh) (.nil))))))))))))) (.cons (.ag (.cons (.d (.sl Qg)) (.cons (.s 2) (.cons (.s 3) (.nil))))) (.nil))))),(1,.row 91 Jr),(2,.row 87 Ql),(3,.row 105 Qp)]⟩
def Qqq:An:=.t 4 (.t 10 (.two (.dm 9 [22,23,24,25,26,27,28,29,1000000008] [5000] (.n 9 (.tl (.n 4 .done)))) (.two (.dm 11 [33,34,35,36,37,38,39,40,41,1000000009,1000000010] [10,11] (.n 11 (.tl (.n 1 .done)))) (.nil))))
def Qqr:Shp:=⟨[(0,.p 5000 []),(1,.d Vx),(2,.d .i),(3,.d .i),(4,.d .i)],[(5000,.var 162 (.ag (.cons (.ag (.cons (.d .i) (.cons (.d .i) (.cons (.d .i) (.cons (.d .i) (.cons (.d Yf) (.cons (.d .i) (.cons (.s 5001) (.cons (.d .i) (.cons (.d .i) (.cons (.d .bool) (.cons (.d Jh) (.nil))))))))))))) (.cons (.ag (.cons (.d (.sl Qg)) (.cons (.s 5002) (.cons (.s 5003) (.nil))))) (.nil))))),(5001,.row 91 Jr),(5002,.row 87 Ql),(5003,.row 105 Qp)]⟩
def Qln:Shp:=⟨[(0,.ag (.cons (.d (.sl Qg)) (.cons (.s 1) (.cons (.s 2) (.nil))))),(1,.ag (.cons (.d .i) (.cons (.d .i) (.cons (.d .i) (.cons (.d .i) (.cons (.d Yf) (.cons (.d .i) (.cons (.s 3) (.cons (.d .i) (.cons (.d .i) (.cons (.d .bool) (.cons (.d Jh) (.nil))))))))))))),(2,.d Jh)],[(5000,.var 162 (.ag (.cons (.ag (.cons (.d .i) (.cons (.d .i) (.cons (.d .i) (.cons (.d .i) (.cons (.d Yf) (.cons (.d .i) (.cons (.s 3) (.cons (.d .i) (.cons (.d .i) (.cons (.d .bool) (.cons (.d Jh) (.nil))))))))))))) (.cons (.ag (.cons (.d (.sl Qg)) (.cons (.s 1) (.cons (.s 2) (.nil))))) (.nil))))),(1,.row 87 Ql),(2,.row 105 Qp),(3,.row 91 Jr)]⟩
def Qqs:An:=.t 4 (.t 1 (.two (.t 6 (.t 6 (.gh (.tl .done) .nil))) (.two (.dc 13 [21,22,23,24,25,26,27,28,29,30,31,32,33] [4,5000,5001,5002,5003] [] (.op ⟨.nl 1 .done,[],[],[],[5000]⟩ (.op ⟨.nl 1 .done,[],[4],[],[]⟩ (.op ⟨.nl 1 .done,[],[],[],[5000]⟩ (.op ⟨.nl 1 .done,[],[5000],[],[5000]⟩ (.op ⟨.nl 1 .done,[],[],[],[5000]⟩ (.op ⟨.nl 1 .done,[],[],[],[5000]⟩ (.op ⟨.nl 1 .done,[],[5000],[],[]⟩ (.op ⟨.nl 1 .done,[],[],[],[]⟩ (.op ⟨.nl 1 .done,[],[],[],[]⟩ (.op ⟨.call 0 (.done),[5000,5001,5002,5003],[],[13003,13002,13001],[5000,13001,13002,13003]⟩ (.op ⟨.nl 1 .done,[],[],[],[13001,13002]⟩ (.op ⟨.nl 1 .done,[],[],[],[13003]⟩ (.op ⟨.nl 1 .done,[],[],[],[]⟩ (.tl (.n 3 .done)))))))))))))))) (.nil))))
def Qqt:Shp:=⟨[(0,.p 5000 []),(1,.d Vx),(2,.d .i)],[(5000,.var 162 (.ag (.cons (.ag (.cons (.d .i) (.cons (.d .i) (.cons (.d .i) (.cons (.d .i) (.cons (.d Yf) (.cons (.d .i) (.cons (.s 5001) (.cons (.d .i) (.cons (.d .i) (.cons (.d .bool) (.cons (.d Jh) (.nil))))))))))))) (.cons (.ag (.cons (.d (.sl Qg)) (.cons (.s 5002) (.cons (.s 5003) (.nil))))) (.nil))))),(5001,.row 91 Jr),(5002,.row 87 Ql),(5003,.row 105 Qp)]⟩
def Qlo:Shp:=⟨[(0,.ag (.cons (.d (.sl Qg)) (.cons (.s 1) (.cons (.s 2) (.nil))))),(1,.ag (.cons (.d .i) (.cons (.d .i) (.cons (.d .i) (.cons (.d .i) (.cons (.d Yf) (.cons (.d .i) (.cons (.s 3) (.cons (.d .i) (.cons (.d .i) (.cons (.d .bool) (.cons (.d Jh) (.nil))))))))))))),(2,.d Jh)],[(5000,.var 162 (.ag (.cons (.ag (.cons (.d .i) (.cons (.d .i) (.cons (.d .i) (.cons (.d .i) (.cons (.d Yf) (.cons (.d .i) (.cons (.s 3) (.cons (.d .i) (.cons (.d .i) (.cons (.d .bool) (.cons (.d Jh) (.nil))))))))))))) (.cons (.ag (.cons (.d (.sl Qg)) (.cons (.s 1) (.cons (.s 2) (.nil))))) (.nil))))),(1,.row 87 Ql),(2,.row 105 Qp),(3,.row 91 Jr)]⟩
def Q9a:An:=.t 7 (.two (.two (.reg (.n 2 (.call 0 (.n 1 .done)))) (.t 2 (.two (.gh (.tl .done) .nil) (.nil)))) (.two (.reg (.n 2 (.call 1 (.n 1 .done)))) (.two (.reg (.n 3 (.call 2 (.done)))) (.two (.dc 13 [33,34,35,36,37,38,39,40,41,42,43,44,45] [7,4,12801,13201,13202,13203,13204] [] (.op ⟨.nl 1 .done,[],[],[],[12801]⟩ (.op ⟨.nl 1 .done,[],[7],[],[]⟩ (.op ⟨.nl 1 .done,[],[],[],[12801]⟩ (.op ⟨.nl 1 .done,[],[4],[],[]⟩ (.op ⟨.nl 1 .done,[],[],[],[7]⟩ (.op ⟨.nl 1 .done,[],[7],[],[]⟩ (.op ⟨.nl 1 .done,[],[],[],[7]⟩ (.op ⟨.nl 1 .done,[],[7],[],[]⟩ (.op ⟨.call 3 (.done),[12801,13201,13202,13203,13204],[],[14103,14102,14101],[12801,14101,14102,14103]⟩ (.op ⟨.call 4 (.done),[12801,14101,14102,14103],[],[14203,14202,14201],[12801,14201,14202,14203]⟩ (.op ⟨.nl 1 .done,[],[],[],[14201,14202]⟩ (.op ⟨.nl 1 .done,[],[],[],[14203]⟩ (.op ⟨.nl 1 .done,[],[],[],[]⟩ (.tl (.n 3 .done)))))))))))))))) (.nil)))))
def Q9b:Shp:=⟨[(0,.d K7),(1,.d Ye),(2,.d Qz),(3,.d Vx)],[]⟩
def Q3a:Shp:=⟨[(0,.d Ye),(1,.d Qz),(2,.d Jh)],[]⟩
def Cq:An:=.t 1 (.two (.reg (.call 0 (.n 2 .done))) (.two (.dm 18 [10,11,12,13,14,15,16,17,18,9,19,20,21,2,3,4,1000000016,1000000017] [] (.n 8 (.call 1 (.n 9 (.tl (.n 1 .done)))))) (.two (.two (.reg (.n 20 (.sp 41 7 [1,2,3] [1,2,3,4] ⟨[(48,.d .bool)],[]⟩ (.nl 6 (.n 1 .done)) (.nl 6 (.n 1 .done)) (.done)))) (.two (.gh (.tl .done) .nil) (.nil))) (.two (.dm 18 [50,51,52,53,54,55,56,57,58,49,59,60,61,5,6,7,1000000016,1000000017] [] (.n 8 (.call 2 (.n 9 (.tl (.n 1 .done)))))) (.two (.reg (.n 25 (.sp 86 7 [5] [1,2,3,4,5,6,7] ⟨[(93,.d .bool)],[]⟩ (.nl 6 (.n 1 .done)) (.nl 6 (.n 1 .done)) (.n 1 (.sp 94 7 [5] [1,2,3,4,5,6,7] ⟨[(101,.d .bool)],[]⟩ (.nl 6 (.n 1 .done)) (.nl 6 (.n 1 .done)) (.n 1 .done)))))) (.nil))))))
def Cr:Shp:=⟨[],[]⟩
def Bq:Shp:=⟨[(0,.d .bool)],[]⟩
def Qeh:An:=.t 2 (.t 11 (.nil))
def Qei:Shp:=⟨[(0,.d Qg)],[]⟩
def Qbm:Shp:=⟨[(0,.d Aj)],[]⟩
def Qak:An:=.t 1 (.two (.t 8 (.two (.t 1 (.nil)) (.nil))) (.t 6 (.nil)))
def Qal:Shp:=⟨[(0,.d .i),(1,.d .i),(2,.d .i)],[]⟩
def P9:Shp:=⟨[(0,.d .bool)],[]⟩
def Qam:An:=.t 2 (.two (.reg (.n 1 (.call 0 (.n 1 .done)))) (.two (.t 3 (.un (.lp [14,15] [] ⟨[(6,.s 100000),(16,.d .i)],[(100000,.row 145 Qg)]⟩ [(.x 0,⟨[(6,.s 100300)],[(100300,.row 145 Qg)]⟩),(.r,⟨[(4,.ns),(5,.d .i)],[]⟩)] (.t 1 (.two (.two (.nil) (.nil)) (.two (.un (.t 4 (.two (.t 3 (.two (.t 2 (.nil)) (.nil))) (.t 1 (.two (.t 3 (.un (.lp [6,8,16,23,24] [8,100000] ⟨[(9,.d .i),(25,.d .i)],[]⟩ [(.x 2,⟨[(9,.d .i)],[]⟩)] (.t 1 (.two (.two (.nil) (.nil)) (.two (.un (.t 6 (.two (.dm 11 [30,31,32,33,34,35,36,37,38,39,40] [] (.n 1 (.call 1 (.n 9 (.tl (.n 1 .done)))))) (.two (.t 2 (.nil)) (.nil))))) (.reg (.n 2 .done)))))))) (.two (.t 2 (.two (.t 2 (.nil)) (.nil))) (.two (.two (.dr 12 (.n 12 .done) (.call 2 (.n 1 .done))) (.two (.t 2 (.nil)) (.nil))) (.dr 10 (.n 10 .done) (.n 1 .done))))))))) (.reg (.n 2 .done)))))))) (.t 3 (.nil))))
def Qan:Shp:=⟨[(0,.d (.sl Qg)),(1,.d (.sl Jr))],[]⟩
def Ra:Shp:=⟨[(0,.s 1),(1,.d .i)],[(1,.row 145 Qg)]⟩
def Ol:An:=.t 2 (.t 4 (.two (.t 3 (.un (.lp [1,2,20,21] [2] ⟨[(5,.m 100000),(6,.s 100001),(22,.d .i)],[(100000,.map .i .i),(100001,.row 91 Jr)]⟩ [(.x 0,⟨[(5,.m 100800),(6,.s 100801)],[(100800,.map .i .i),(100801,.row 91 Jr)]⟩),(.r,⟨[(4,.d .bool)],[]⟩)] (.t 1 (.two (.two (.nil) (.nil)) (.two (.jn [22] [] [(.n,⟨[(5,.m 100700),(6,.s 100701)],[(100700,.map .i .i),(100701,.row 91 Jr)]⟩),(.r,⟨[(4,.d .bool)],[]⟩)] (.un (.t 6 (.two (.two (.dr 18 (.n 4 (.sp 30 14 [5,6,7,8,22] [8,100000,100001] ⟨[(44,.d .bool)],[]⟩ (.nl 13 (.n 1 .done)) (.nl 3 (.sp 33 10 [5,6,7,8,22,30] [] ⟨[(43,.d .bool)],[]⟩ (.nl 10 .done) (.nl 10 .done) (.n 1 .done))) (.done))) (.done)) (.two (.t 1 (.nil)) (.nil))) (.two (.t 38 (.two (.t 1 (.nil)) (.nil))) (.t 3 (.two (.t 4 (.un (.lp [5,6,8,22,86,87] [8,100000,100001] ⟨[(9,.d .i),(88,.d .i)],[]⟩ [(.x 2,⟨[],[]⟩),(.r,⟨[(4,.d .bool)],[]⟩)] (.t 1 (.two (.two (.nil) (.nil)) (.two (.un (.t 4 (.two (.t 14 (.two (.t 1 (.nil)) (.nil))) (.reg (.n 5 .done))))) (.reg (.n 2 .done)))))))) (.t 5 (.t 3 (.t 9 (.nil))))))))))) (.reg (.n 2 .done)))))))) (.t 2 (.two (.t 4 (.un (.lp [2,5,6,129,130] [2,100800,100801] ⟨[(12,.m 101000),(131,.d .i)],[(101000,.map .i .bool)]⟩ [(.x 4,⟨[(12,.m 101100)],[(101100,.map .i .bool)]⟩),(.r,⟨[(4,.d .bool)],[]⟩)] (.t 1 (.two (.two (.nil) (.nil)) (.two (.un (.t 4 (.two (.t 7 (.two (.t 1 (.nil)) (.nil))) (.reg (.n 4 .done))))) (.reg (.n 2 .done)))))))) (.two (.mp (.n 1 .done) [2,6,12] [2,100800,100801,101100] ⟨[],[]⟩ [(.r,⟨[(4,.d .bool)],[]⟩)] (.n 2 .done) (.t 4 (.two (.t 1 (.nil)) (.nil)))) (.two (.reg (.n 1 (.call 0 (.n 2 (.call 1 (.n 5 .done)))))) (.t 3 (.nil))))))))
def Om:Shp:=⟨[(0,.d Ye),(1,.d (.sl Qz))],[]⟩
def M9:Shp:=⟨[(0,.d .bool)],[]⟩
def Br:An:=.t 2 (.two (.t 18 (.two (.t 1 (.nil)) (.nil))) (.t 1 (.two (.t 1 (.un (.lp [1] [1] ⟨[(3,.d .i),(4,.d .i)],[]⟩ [(.x 0,⟨[(3,.d .i)],[]⟩),(.r,⟨[(2,.d .bool)],[]⟩)] (.two (.t 5 (.two (.nil) (.nil))) (.two (.un (.two (.two (.reg (.n 8 (.sp 37 8 [3,4] [] ⟨[(45,.d .bool)],[]⟩ (.nl 7 (.n 1 .done)) (.nl 7 (.n 1 .done)) (.done)))) (.two (.t 1 (.nil)) (.nil))) (.reg (.n 9 .done)))) (.reg (.n 3 .done))))))) (.t 26 (.nil)))))
def Bs:Shp:=⟨[(0,.d Qz)],[]⟩
def Ak:Shp:=⟨[(0,.d .bool)],[]⟩
def Cs:An:=.t 1 (.two (.t 1 (.un (.lp [0,1] [] ⟨[(5,.d .i)],[]⟩ [(.x 0,⟨[],[]⟩),(.r,⟨[(4,.d .i)],[]⟩)] (.two (.t 4 (.two (.nil) (.nil))) (.two (.un (.t 7 (.two (.t 2 (.nil)) (.nil)))) (.reg (.n 3 .done))))))) (.t 1 (.nil)))
def Ct:Shp:=⟨[(0,.d (.sl Ql)),(1,.d .i)],[]⟩
def Bt:Shp:=⟨[(0,.d .i)],[]⟩
def Dz:An:=.t 2 (.t 6 (.t 2 (.nil)))
def D0:Shp:=⟨[(0,.d Qg)],[]⟩
def Cu:Shp:=⟨[(0,.ag (.cons (.d .i) (.cons (.d .i) (.cons (.d .str) (.cons (.d .i) (.cons (.d .i) (.cons (.s 1) (.cons (.d Yc) (.cons (.d .i) (.cons (.d .i) (.cons (.d .i) (.cons (.d .bool) (.nil)))))))))))))],[(1,.row 9 .str)]⟩
def Bu:An:=.t 1 (.t 1 (.two (.t 1 (.un (.lp [0] [] ⟨[(3,.s 100000),(4,.d .i)],[(100000,.row 145 Qg)]⟩ [(.x 0,⟨[(3,.s 100100)],[(100100,.row 145 Qg)]⟩)] (.two (.t 4 (.two (.nil) (.nil))) (.two (.un (.reg (.n 5 (.call 0 (.fz 11601 (.n 3 .done)))))) (.reg (.n 3 .done))))))) (.t 2 (.nil))))
def Bv:Shp:=⟨[(0,.d (.sl Qg))],[]⟩
def Al:Shp:=⟨[(0,.s 1)],[(1,.row 145 Qg)]⟩
def Am:An:=.t 2 (.two (.t 1 (.un (.lp [0,3] [3] ⟨[(5,.d .i)],[]⟩ [(.x 0,⟨[],[]⟩),(.r,⟨[(4,.d .i)],[]⟩)] (.two (.t 4 (.two (.nil) (.nil))) (.two (.un (.t 6 (.t 27 (.two (.t 2 (.nil)) (.nil))))) (.reg (.n 3 .done))))))) (.t 1 (.nil)))
def Ao:Shp:=⟨[(0,.s 5000),(1,.d Jr)],[(5000,.row 145 Qg)]⟩
def Ft:Shp:=⟨[(0,.d .i)],[]⟩
def D1:An:=.t 2 (.two (.reg (.n 1 (.call 0 (.n 1 .done)))) (.two (.t 1 (.un (.lp [1] [] ⟨[(6,.s 100000),(7,.d .i)],[(100000,.row 145 Qg)]⟩ [(.x 0,⟨[(6,.s 100100)],[(100100,.row 145 Qg)]⟩),(.r,⟨[(4,.ns),(5,.d .i)],[]⟩)] (.two (.t 4 (.two (.nil) (.nil))) (.two (.un (.t 6 (.two (.t 3 (.two (.t 2 (.nil)) (.nil))) (.two (.reg (.n 2 (.call 1 (.n 1 .done)))) (.two (.t 2 (.two (.t 2 (.nil)) (.nil))) (.two (.dr 12 (.n 12 .done) (.done)) (.two (.two (.dr 21 (.n 21 .done) (.done)) (.two (.t 2 (.nil)) (.nil))) (.dr 10 (.n 10 .done) (.n 1 .done))))))))) (.reg (.n 3 .done))))))) (.t 3 (.nil))))
def D2:Shp:=⟨[(0,.d (.sl Qg)),(1,.d (.sl Jr))],[]⟩
def Cv:Shp:=⟨[(0,.s 1),(1,.d .i)],[(1,.row 145 Qg)]⟩
def Cw:An:=.t 2 (.t 1 (.two (.t 1 (.un (.lp [1,2] [2] ⟨[(5,.s 100000),(6,.d .i)],[(100000,.row 91 Jr)]⟩ [(.x 0,⟨[(5,.s 100200)],[(100200,.row 91 Jr)]⟩),(.r,⟨[(4,.d .bool)],[]⟩)] (.two (.t 4 (.two (.nil) (.nil))) (.two (.un (.t 6 (.two (.two (.jn [5,6,7] [7,100000] [(.n,⟨[(59,.d .bool)],[]⟩)] (.dm 33 [23,24,25,26,27,28,29,30,31,32,33,34,35,36,37,38,39,40,41,42,43,44,45,46,47,48,49,50,51,52,53,54,55] [] (.n 4 (.so 26 (.n 29 (.tl (.nl 3 (.n 1 .done)))) (.n 3 (.so 29 (.n 12 (.so 41 (.n 14 (.tl (.nl 3 (.n 1 .done)))) (.n 1 (.call 0 (.n 3 (.so 46 (.n 9 (.tl (.nl 3 (.n 1 .done)))) (.n 4 (.so 50 (.n 5 (.tl (.call 1 (.nl 2 (.n 1 .done))))) (.n 5 (.tl (.nl 3 (.n 1 .done)))))))))))) (.n 13 (.call 0 (.n 3 (.so 46 (.n 9 (.tl (.nl 3 (.n 1 .done)))) (.n 4 (.so 50 (.n 5 (.tl (.call 1 (.nl 2 (.n 1 .done))))) (.n 5 (.tl (.nl 3 (.n 1 .done)))))))))))))))) (.two (.t 1 (.nil)) (.nil))) (.reg (.n 5 .done))))) (.reg (.n 3 .done))))))) (.two (.t 1 (.un (.lp [1,2,5] [2,100200] ⟨[(8,.d .i)],[]⟩ [(.x 2,⟨[],[]⟩),(.r,⟨[(4,.d .bool)],[]⟩)] (.two (.t 5 (.two (.nil) (.nil))) (.two (.un (.t 1 (.two (.t 1 (.un (.lp [8] [] ⟨[(9,.d .i),(10,.d .i)],[]⟩ [(.x 4,⟨[(9,.d .i)],[]⟩)] (.two (.t 4 (.two (.nil) (.nil))) (.two (.jn [10] [] [(.n,⟨[(9,.d .i)],[]⟩)] (.un (.two (.dr 13 (.n 13 .done) (.done)) (.t 8 (.nil))))) (.reg (.n 3 .done))))))) (.t 8 (.two (.t 1 (.nil)) (.nil)))))) (.reg (.n 3 .done))))))) (.two (.reg (.n 3 (.call 2 (.n 5 .done)))) (.t 3 (.nil))))))
def Cy:Shp:=⟨[(0,.d Ye),(1,.d (.sl Qz))],[]⟩
def Bw:Shp:=⟨[(0,.d .bool)],[]⟩
def G0:An:=.t 2 (.two (.t 15 (.two (.two (.reg (.call 0 (.n 1 .done))) (.nil)) (.nil))) (.two (.t 1 (.un (.lp [1,2] [2] ⟨[(5,.d .i)],[]⟩ [(.x 0,⟨[],[]⟩),(.r,⟨[(4,.d .bool)],[]⟩)] (.two (.t 4 (.two (.nil) (.nil))) (.two (.un (.two (.reg (.n 8 (.sp 35 10 [5] [] ⟨[(45,.d .bool)],[]⟩ (.nl 9 (.n 1 .done)) (.nl 9 (.n 1 .done)) (.done)))) (.two (.two (.reg (.call 0 (.n 1 .done))) (.nil)) (.nil)))) (.reg (.n 3 .done))))))) (.two (.jn [] [2] [(.n,⟨[(4,.d .bool)],[]⟩)] (.dm 5 [47,48,49,50,51] [] (.n 2 (.call 1 (.n 2 (.tl (.call 2 (.n 2 (.sp 54 2 [] [] ⟨[(56,.d .bool)],[]⟩ (.call 0 (.n 1 .done)) (.nl 1 (.n 1 .done)) (.n 1 .done)))))))))) (.nil))))
def G1:Shp:=⟨[(0,.d Ye),(1,.d (.sl Qz))],[]⟩
def Gg:Shp:=⟨[(0,.d .bool)],[]⟩
theorem Zg:Runs Tryz.prog 82:=⟨_,Tryz.func82,by decide,rfl⟩
def Vp:Con:=⟨82,(Qgt Yp),(Qgu 153 Yp),Xg 24,[]⟩
theorem Zh:Qm Tryz.prog tx.gl Vp:=Ah Qr Qq Tryz.func82 rfl rfl rfl rfl rfl rfl rfl rfl (by kernel_rfl) (y0:=([]:(List Yo))) (by kernel_rfl) (an0:=.reg (.n 1 .done)) (anA:=.two (.reg (.n 1 .done)) .nil) (anC:=.two (.reg (.n 4 .done)) .nil) ⟨by kernel_rfl,by kernel_rfl⟩ (fun xs=>by kernel_rfl) (fun xs=>by kernel_rfl) (fun xs=>by kernel_rfl)
theorem Fu:Runs Tryz.prog 81:=⟨_,Tryz.func81,by decide,rfl⟩
def Xc:Con:=⟨81,(Qgt Jr),(Qgu 91 Jr),Xg 48,[]⟩
theorem Fv:Qm Tryz.prog tx.gl Xc:=Ah Qr Qq Tryz.func81 rfl rfl rfl rfl rfl rfl rfl rfl (by kernel_rfl) (y0:=([]:(List Qw))) (by kernel_rfl) (an0:=.reg (.n 1 .done)) (anA:=.two (.reg (.n 1 .done)) .nil) (anC:=.two (.reg (.n 4 .done)) .nil) ⟨by kernel_rfl,by kernel_rfl⟩ (fun xs=>by kernel_rfl) (fun xs=>by kernel_rfl) (fun xs=>by kernel_rfl)
theorem Fw:Runs Tryz.prog 75:=⟨_,Tryz.func75,by decide,rfl⟩
def Xd:Con:=⟨75,(Qgt .str),(Qgt .str),Xg 16,[]⟩
theorem Fx:Qm Tryz.prog tx.gl Xd:=Ah Qr Qq Tryz.func75 rfl rfl rfl rfl rfl rfl rfl rfl (by kernel_rfl) (y0:=([]:(List Str))) (by kernel_rfl) (an0:=.reg (.n 1 .done)) (anA:=.two (.reg (.n 1 .done)) .nil) (anC:=.two (.reg (.n 4 .done)) .nil) ⟨by kernel_rfl,by kernel_rfl⟩ (fun xs=>by kernel_rfl) (fun xs=>by kernel_rfl) (fun xs=>by kernel_rfl)
theorem Em:Runs Tryz.prog 72:=⟨_,Tryz.func72,by decide,rfl⟩
def Ko:Con:=⟨72,(Qgt Qg),(Qgu 145 Qg),Xg 120,[]⟩
theorem Eo:Qm Tryz.prog tx.gl Ko:=Ah Qr Qq Tryz.func72 rfl rfl rfl rfl rfl rfl rfl rfl (by kernel_rfl) (y0:=([]:(List Qa))) (by kernel_rfl) (an0:=.reg (.n 1 .done)) (anA:=.two (.reg (.n 1 .done)) .nil) (anC:=.two (.reg (.n 4 .done)) .nil) ⟨by kernel_rfl,by kernel_rfl⟩ (fun xs=>by kernel_rfl) (fun xs=>by kernel_rfl) (fun xs=>by kernel_rfl)
theorem Ep:Runs Tryz.prog 73:=⟨_,Tryz.func73,by decide,rfl⟩
def Kp:Con:=⟨73,(Qgt Ql),(Qgu 87 Ql),Xg 40,[]⟩
theorem Er:Qm Tryz.prog tx.gl Kp:=Ah Qr Qq Tryz.func73 rfl rfl rfl rfl rfl rfl rfl rfl (by kernel_rfl) (y0:=([]:(List Qh))) (by kernel_rfl) (an0:=.reg (.n 1 .done)) (anA:=.two (.reg (.n 1 .done)) .nil) (anC:=.two (.reg (.n 4 .done)) .nil) ⟨by kernel_rfl,by kernel_rfl⟩ (fun xs=>by kernel_rfl) (fun xs=>by kernel_rfl) (fun xs=>by kernel_rfl)
theorem Hr:Runs Tryz.prog 74:=⟨_,Tryz.func74,by decide,rfl⟩
def Kf:Con:=⟨74,(Qgt Qp),(Qgu 105 Qp),Xg 40,[]⟩
theorem Hs:Qm Tryz.prog tx.gl Kf:=Ah Qr Qq Tryz.func74 rfl rfl rfl rfl rfl rfl rfl rfl (by kernel_rfl) (y0:=([]:(List Qn))) (by kernel_rfl) (an0:=.reg (.n 1 .done)) (anA:=.two (.reg (.n 1 .done)) .nil) (anC:=.two (.reg (.n 4 .done)) .nil) ⟨by kernel_rfl,by kernel_rfl⟩ (fun xs=>by kernel_rfl) (fun xs=>by kernel_rfl) (fun xs=>by kernel_rfl)
theorem Q9c:Runs Tryz.prog 28:=⟨_,Tryz.func28,by decide,rfl⟩
def Qn4 (N:Nat):Con:=⟨28,Q8t,Qys,fun _=>Z28 N,[]⟩
theorem Q9d (N:Nat):Qm Tryz.prog tx.gl (Qn4 N):=Qj (Y:=tx) (N:=N) (K:=[]) (an:=Q8s) Qr Qq Qu Tryz.func28 rfl (fun x=>by kernel_rfl)
theorem Q3b:Runs Tryz.prog 166:=⟨_,Tryz.func166,by decide,rfl⟩
def Qhe (N:Nat):Con:=⟨166,Qyu,Qtk,fun x0=>Jay N x0,[]⟩
theorem Q3c (N:Nat):Qm Tryz.prog tx.gl (Qhe N):=Qj (Y:=tx) (N:=N) (K:=[]) (an:=Qyt) Qr Qq Qu Tryz.func166 rfl (fun x=>by kernel_rfl)
theorem Qn5:Runs Tryz.prog 109:=⟨_,Tryz.func109,by decide,rfl⟩
def Qao (N:Nat):Con:=⟨109,Qyw,Qtl,fun x0=>Q8f N x0,[]⟩
theorem Qn6 (N:Nat):Qm Tryz.prog tx.gl (Qao N):=Qj (Y:=tx) (N:=N) (K:=[Qhe N]) (an:=Qyv) Qr Qq (Qi (Q3c N) Q3b Qu) Tryz.func109 rfl (fun x=>by kernel_rfl)
theorem Q3d:Runs Tryz.prog 313:=⟨_,Tryz.func313,by decide,rfl⟩
def Qhf (N:Nat):Con:=⟨313,Qyy,Qtm,fun (x0,x1)=>Jaz N x0 x1,[]⟩
theorem Q3e (N:Nat):Qm Tryz.prog tx.gl (Qhf N):=Qj (Y:=tx) (N:=N) (K:=[]) (an:=Qyx) Qr Qq Qu Tryz.func313 rfl (fun x=>by kernel_rfl)
theorem Q3f:Runs Tryz.prog 230:=⟨_,Tryz.func230,by decide,rfl⟩
def Qhg (N:Nat):Con:=⟨230,Qy0,Qtn,fun (x0,x1)=>Ja0 N x0 x1,[]⟩
theorem Q3g (N:Nat):Qm Tryz.prog tx.gl (Qhg N):=Qj (Y:=tx) (N:=N) (K:=[Qhf N]) (an:=Qyz) Qr Qq (Qi (Q3e N) Q3d Qu) Tryz.func230 rfl (fun x=>by kernel_rfl)
theorem Q3h:Runs Tryz.prog 229:=⟨_,Tryz.func229,by decide,rfl⟩
def Qhh (N:Nat):Con:=⟨229,Qy2,Qto,fun x0=>Ja1 N x0,[]⟩
theorem Q3i (N:Nat):Qm Tryz.prog tx.gl (Qhh N):=Qj (Y:=tx) (N:=N) (K:=[]) (an:=Qy1) Qr Qq Qu Tryz.func229 rfl (fun x=>by kernel_rfl)
theorem Qn7:Runs Tryz.prog 167:=⟨_,Tryz.func167,by decide,rfl⟩
def Qap (N:Nat):Con:=⟨167,Qy4,Qtp,fun (x0,x1)=>Q8g N x0 x1,[]⟩
theorem Qn8 (N:Nat):Qm Tryz.prog tx.gl (Qap N):=Qj (Y:=tx) (N:=N) (K:=[Qhg N,Qhh N]) (an:=Qy3) Qr Qq (Qi (Q3g N) Q3f (Qi (Q3i N) Q3h Qu)) Tryz.func167 rfl (fun x=>by kernel_rfl)
theorem Q3j:Runs Tryz.prog 234:=⟨_,Tryz.func234,by decide,rfl⟩
def Qhi (N:Nat):Con:=⟨234,Qy6,Qtq,fun x0=>Ja2 N x0,[]⟩
theorem Q3k (N:Nat):Qm Tryz.prog tx.gl (Qhi N):=Qj (Y:=tx) (N:=N) (K:=[]) (an:=Qy5) Qr Qq Qu Tryz.func234 rfl (fun x=>by kernel_rfl)
theorem Qn9:Runs Tryz.prog 168:=⟨_,Tryz.func168,by decide,rfl⟩
def Qaq (N:Nat):Con:=⟨168,Qy8,Qtr,fun (x0,x1)=>Q8h N x0 x1,[]⟩
theorem Qoa (N:Nat):Qm Tryz.prog tx.gl (Qaq N):=Qj (Y:=tx) (N:=N) (K:=[Qhi N]) (an:=Qy7) Qr Qq (Qi (Q3k N) Q3j Qu) Tryz.func168 rfl (fun x=>by kernel_rfl)
theorem Qob:Runs Tryz.prog 110:=⟨_,Tryz.func110,by decide,rfl⟩
def Qar (N:Nat):Con:=⟨110,Qza,Qts,fun (x0,x1,x2)=>Q8i N x0 x1 x2,[]⟩
theorem Qoc (N:Nat):Qm Tryz.prog tx.gl (Qar N):=Qj (Y:=tx) (N:=N) (K:=[Qap N,Qaq N]) (an:=Qy9) Qr Qq (Qi (Qn8 N) Qn7 (Qi (Qoa N) Qn9 Qu)) Tryz.func110 rfl (fun x=>by kernel_rfl)
theorem Q3l:Runs Tryz.prog 235:=⟨_,Tryz.func235,by decide,rfl⟩
def Qhj (N:Nat):Con:=⟨235,Qzc,Qtt,fun _=>Ja3 N,[]⟩
theorem Q3m (N:Nat):Qm Tryz.prog tx.gl (Qhj N):=Qj (Y:=tx) (N:=N) (K:=[]) (an:=Qzb) Qr Qq Qu Tryz.func235 rfl (fun x=>by kernel_rfl)
theorem Q3n:Runs Tryz.prog 236:=⟨_,Tryz.func236,by decide,rfl⟩
def Qhk (N:Nat):Con:=⟨236,Qze,Qtu,fun (x0,x1)=>Ja4 N x0 x1,[]⟩
theorem Q3o (N:Nat):Qm Tryz.prog tx.gl (Qhk N):=Qj (Y:=tx) (N:=N) (K:=[]) (an:=Qzd) Qr Qq Qu Tryz.func236 rfl (fun x=>by kernel_rfl)
theorem Q3p:Runs Tryz.prog 314:=⟨_,Tryz.func314,by decide,rfl⟩
def Qej (N:Nat):It:=⟨314,[(.sl J5),(.int .i64)],J5,fun (x1,x2)=>Ja5 N x1 x2⟩
theorem Qvo (N:Nat):Qte Tryz.prog tx.gl (Qej N):=Qxd (Y:=tx) (N:=N) (K:=[]) (it:=Qej N) (an:=Qzf) Qr Qq Qu Tryz.func314 rfl (fun x=>by kernel_rfl)
theorem Q3q:Runs Tryz.prog 315:=⟨_,Tryz.func315,by decide,rfl⟩
def Qhl (N:Nat):Con:=⟨315,Qzh,Qtv,fun (x0,x1)=>Q8j N x0 x1,[]⟩
theorem Q3r (N:Nat):Qm Tryz.prog tx.gl (Qhl N):=Qj (Y:=tx) (N:=N) (K:=[]) (an:=Qzg) Qr Qq Qu Tryz.func315 rfl (fun x=>by kernel_rfl)
theorem Qlp:Runs Tryz.prog 237:=⟨_,Tryz.func237,by decide,rfl⟩
def Pk (N:Nat):Con:=⟨237,Qkn,Qgw,fun (x1,m5000_5,m5000_6,m5001,m5002,m5003,m5004,m5005)=>Qnq N x1 m5000_5 m5000_6 m5001 m5002 m5003 m5004 m5005,[]⟩
theorem Qlq (N:Nat):Qm Tryz.prog tx.gl (Pk N):=Qj (Y:=tx) (N:=N) (K:=[Qhl N]) (an:=Qkm) Qr Qq (Qi (Q3r N) Q3q Qu) Tryz.func237 rfl (fun x=>by kernel_rfl)
theorem Q3s:Runs Tryz.prog 238:=⟨_,Tryz.func238,by decide,rfl⟩
def Qhm (N:Nat):Con:=⟨238,Qzj,Qtw,fun (m5000_5,m5000_6,m5001,m5002,m5003,m5004,m5005)=>Ja6 N m5000_5 m5000_6 m5001 m5002 m5003 m5004 m5005,[5000,5001,5002,5003,5004,5005]⟩
theorem Q3t (N:Nat):Qm Tryz.prog tx.gl (Qhm N):=Qj (Y:=tx) (N:=N) (K:=[]) (an:=Qzi) Qr Qq Qu Tryz.func238 rfl (fun x=>by kernel_rfl)
theorem Qek:Runs Tryz.prog 169:=⟨_,Tryz.func169,by decide,rfl⟩
def Na (N:Nat):Con:=⟨169,Qzl,Qtx,fun (x0,x1)=>Qxq N x0 x1,[]⟩
theorem Qel (N:Nat):Qm Tryz.prog tx.gl (Na N):=Qtf (Y:=tx) (N:=N) (K:=[Qhj N,Qhk N,Pk N,Qhm N]) (its:=[Qej N]) (an:=Qzk) Qr Qq (Qi (Q3m N) Q3l (Qi (Q3o N) Q3n (Qi (Qlq N) Qlp (Qi (Q3t N) Q3s Qu)))) (List.forall_mem_cons.2 ⟨⟨Qvo N,Q3p⟩,(List.forall_mem_nil _)⟩) Tryz.func169 rfl (fun x=>by kernel_rfl)
theorem Q3u:Runs Tryz.prog 111:=⟨_,Tryz.func111,by decide,rfl⟩
def Qhn (N:Nat):Con:=⟨111,Qzn,Qty,fun (x0,x1,x2)=>Ja7 N x0 x1 x2,[]⟩
theorem Q3v (N:Nat):Qm Tryz.prog tx.gl (Qhn N):=Qj (Y:=tx) (N:=N) (K:=[Na N]) (an:=Qzm) Qr Qq (Qi (Qel N) Qek Qu) Tryz.func111 rfl (fun x=>by kernel_rfl)
theorem Q3w:Runs Tryz.prog 240:=⟨_,Tryz.func240,by decide,rfl⟩
def Qho (N:Nat):Con:=⟨240,Qzp,Qtz,fun x0=>Ja8 N x0,[]⟩
theorem Q3x (N:Nat):Qm Tryz.prog tx.gl (Qho N):=Qj (Y:=tx) (N:=N) (K:=[]) (an:=Qzo) Qr Qq Qu Tryz.func240 rfl (fun x=>by kernel_rfl)
theorem Q3y:Runs Tryz.prog 241:=⟨_,Tryz.func241,by decide,rfl⟩
def Qhp (N:Nat):Con:=⟨241,Qzr,Qt0,fun x0=>Ja9 N x0,[]⟩
theorem Q3z (N:Nat):Qm Tryz.prog tx.gl (Qhp N):=Qj (Y:=tx) (N:=N) (K:=[]) (an:=Qzq) Qr Qq Qu Tryz.func241 rfl (fun x=>by kernel_rfl)
theorem Q30:Runs Tryz.prog 170:=⟨_,Tryz.func170,by decide,rfl⟩
def Qhq (N:Nat):Con:=⟨170,Qzt,Qt1,fun x0=>Jba N x0,[]⟩
theorem Q31 (N:Nat):Qm Tryz.prog tx.gl (Qhq N):=Qj (Y:=tx) (N:=N) (K:=[Qho N,Qhp N]) (an:=Qzs) Qr Qq (Qi (Q3x N) Q3w (Qi (Q3z N) Q3y Qu)) Tryz.func170 rfl (fun x=>by kernel_rfl)
theorem Q32:Runs Tryz.prog 112:=⟨_,Tryz.func112,by decide,rfl⟩
def Qhr (N:Nat):Con:=⟨112,Qzv,Qt2,fun (x0,x1,x2)=>Jbb N x0 x1 x2,[]⟩
theorem Q33 (N:Nat):Qm Tryz.prog tx.gl (Qhr N):=Qj (Y:=tx) (N:=N) (K:=[Qhq N]) (an:=Qzu) Qr Qq (Qi (Q31 N) Q30 Qu) Tryz.func112 rfl (fun x=>by kernel_rfl)
theorem Q34:Runs Tryz.prog 171:=⟨_,Tryz.func171,by decide,rfl⟩
def Qhs (N:Nat):Con:=⟨171,Qzx,Qt3,fun x0=>Jbc N x0,[]⟩
theorem Q35 (N:Nat):Qm Tryz.prog tx.gl (Qhs N):=Qj (Y:=tx) (N:=N) (K:=[]) (an:=Qzw) Qr Qq Qu Tryz.func171 rfl (fun x=>by kernel_rfl)
theorem Q36:Runs Tryz.prog 172:=⟨_,Tryz.func172,by decide,rfl⟩
def Qht (N:Nat):Con:=⟨172,Qzz,Qt4,fun (x1,x2,m5000)=>Jbd N x1 x2 m5000,[5000]⟩
theorem Q37 (N:Nat):Qm Tryz.prog tx.gl (Qht N):=Qj (Y:=tx) (N:=N) (K:=[]) (an:=Qzy) Qr Qq Qu Tryz.func172 rfl (fun x=>by kernel_rfl)
theorem Q38:Runs Tryz.prog 113:=⟨_,Tryz.func113,by decide,rfl⟩
def Qhu (N:Nat):Con:=⟨113,Qz1,Qt5,fun (x0,x1)=>Jbe N x0 x1,[]⟩
theorem Q39 (N:Nat):Qm Tryz.prog tx.gl (Qhu N):=Qj (Y:=tx) (N:=N) (K:=[Qhs N,Qao N,Qht N]) (an:=Qz0) Qr Qq (Qi (Q35 N) Q34 (Qi (Qn6 N) Qn5 (Qi (Q37 N) Q36 Qu))) Tryz.func113 rfl (fun x=>by kernel_rfl)
theorem Q4a:Runs Tryz.prog 246:=⟨_,Tryz.func246,by decide,rfl⟩
def Qhv (N:Nat):Con:=⟨246,Qz3,Qt6,fun x0=>Jbf N x0,[]⟩
theorem Q4b (N:Nat):Qm Tryz.prog tx.gl (Qhv N):=Qj (Y:=tx) (N:=N) (K:=[]) (an:=Qz2) Qr Qq Qu Tryz.func246 rfl (fun x=>by kernel_rfl)
theorem Q4c:Runs Tryz.prog 318:=⟨_,Tryz.func318,by decide,rfl⟩
def Qhw (N:Nat):Con:=⟨318,Qz5,Qt7,fun (x0,m5000)=>Jbg N x0 m5000,[5000]⟩
theorem Q4d (N:Nat):Qm Tryz.prog tx.gl (Qhw N):=Qj (Y:=tx) (N:=N) (K:=[]) (an:=Qz4) Qr Qq Qu Tryz.func318 rfl (fun x=>by kernel_rfl)
theorem Q4e:Runs Tryz.prog 247:=⟨_,Tryz.func247,by decide,rfl⟩
def Qhx (N:Nat):Con:=⟨247,Qz7,Qt8,fun (x0,m5000)=>Jbh N x0 m5000,[5000]⟩
theorem Q4f (N:Nat):Qm Tryz.prog tx.gl (Qhx N):=Qj (Y:=tx) (N:=N) (K:=[Qhw N]) (an:=Qz6) Qr Qq (Qi (Q4d N) Q4c Qu) Tryz.func247 rfl (fun x=>by kernel_rfl)
theorem Q4g:Runs Tryz.prog 174:=⟨_,Tryz.func174,by decide,rfl⟩
def Qhy (N:Nat):Con:=⟨174,Qz9,Qt9,fun x0=>Jbi N x0,[]⟩
theorem Q4h (N:Nat):Qm Tryz.prog tx.gl (Qhy N):=Qj (Y:=tx) (N:=N) (K:=[Qhv N,Qhx N]) (an:=Qz8) Qr Qq (Qi (Q4b N) Q4a (Qi (Q4f N) Q4e Qu)) Tryz.func174 rfl (fun x=>by kernel_rfl)
theorem Q4i:Runs Tryz.prog 320:=⟨_,Tryz.func320,by decide,rfl⟩
def Qhz (N:Nat):Con:=⟨320,Q0b,Qua,fun (x0,x1)=>Jbj N x0 x1,[]⟩
theorem Q4j (N:Nat):Qm Tryz.prog tx.gl (Qhz N):=Qj (Y:=tx) (N:=N) (K:=[]) (an:=Q0a) Qr Qq Qu Tryz.func320 rfl (fun x=>by kernel_rfl)
theorem Q4k:Runs Tryz.prog 252:=⟨_,Tryz.func252,by decide,rfl⟩
def Qh0 (N:Nat):Con:=⟨252,Q0d,Qub,fun (x0,x1)=>Jbk N x0 x1,[]⟩
theorem Q4l (N:Nat):Qm Tryz.prog tx.gl (Qh0 N):=Qj (Y:=tx) (N:=N) (K:=[Qhz N]) (an:=Q0c) Qr Qq (Qi (Q4j N) Q4i Qu) Tryz.func252 rfl (fun x=>by kernel_rfl)
theorem Q4m:Runs Tryz.prog 253:=⟨_,Tryz.func253,by decide,rfl⟩
def Qh1 (N:Nat):Con:=⟨253,Q0f,Quc,fun x0=>Jbl N x0,[]⟩
theorem Q4n (N:Nat):Qm Tryz.prog tx.gl (Qh1 N):=Qj (Y:=tx) (N:=N) (K:=[]) (an:=Q0e) Qr Qq Qu Tryz.func253 rfl (fun x=>by kernel_rfl)
theorem Q4o:Runs Tryz.prog 176:=⟨_,Tryz.func176,by decide,rfl⟩
def Qh2 (N:Nat):Con:=⟨176,Q0h,Qud,fun (x0,x1)=>Jbm N x0 x1,[]⟩
theorem Q4p (N:Nat):Qm Tryz.prog tx.gl (Qh2 N):=Qj (Y:=tx) (N:=N) (K:=[Qh0 N,Qh1 N]) (an:=Q0g) Qr Qq (Qi (Q4l N) Q4k (Qi (Q4n N) Q4m Qu)) Tryz.func176 rfl (fun x=>by kernel_rfl)
theorem Q4q:Runs Tryz.prog 319:=⟨_,Tryz.func319,by decide,rfl⟩
def Qh3 (N:Nat):Con:=⟨319,Q0j,Que,fun (x0,m5000,m5001)=>Jbn N x0 m5000 m5001,[5000,5001]⟩
theorem Q4r (N:Nat):Qm Tryz.prog tx.gl (Qh3 N):=Qj (Y:=tx) (N:=N) (K:=[]) (an:=Q0i) Qr Qq Qu Tryz.func319 rfl (fun x=>by kernel_rfl)
theorem Q4s:Runs Tryz.prog 251:=⟨_,Tryz.func251,by decide,rfl⟩
def Qh4 (N:Nat):Con:=⟨251,Q0l,Quf,fun (x0,m5000,m5001)=>Jbo N x0 m5000 m5001,[5000,5001]⟩
theorem Q4t (N:Nat):Qm Tryz.prog tx.gl (Qh4 N):=Qj (Y:=tx) (N:=N) (K:=[Qh3 N]) (an:=Q0k) Qr Qq (Qi (Q4r N) Q4q Qu) Tryz.func251 rfl (fun x=>by kernel_rfl)
theorem Q4u:Runs Tryz.prog 175:=⟨_,Tryz.func175,by decide,rfl⟩
def Qh5 (N:Nat):Con:=⟨175,Q0n,Qug,fun (x0,x1,x2)=>Jbp N x0 x1 x2,[]⟩
theorem Q4v (N:Nat):Qm Tryz.prog tx.gl (Qh5 N):=Qj (Y:=tx) (N:=N) (K:=[Qh4 N]) (an:=Q0m) Qr Qq (Qi (Q4t N) Q4s Qu) Tryz.func175 rfl (fun x=>by kernel_rfl)
theorem Q4w:Runs Tryz.prog 115:=⟨_,Tryz.func115,by decide,rfl⟩
def Qh6 (N:Nat):Con:=⟨115,Q0p,Quh,fun (x0,x1,x2)=>Jbq N x0 x1 x2,[]⟩
theorem Q4x (N:Nat):Qm Tryz.prog tx.gl (Qh6 N):=Qj (Y:=tx) (N:=N) (K:=[Qhy N,Qh2 N,Qh5 N]) (an:=Q0o) Qr Qq (Qi (Q4h N) Q4g (Qi (Q4p N) Q4o (Qi (Q4v N) Q4u Qu))) Tryz.func115 rfl (fun x=>by kernel_rfl)
theorem Q4y:Runs Tryz.prog 173:=⟨_,Tryz.func173,by decide,rfl⟩
def Qh7 (N:Nat):Con:=⟨173,Q0r,Qui,fun (x0,m5000,m5001,m5002)=>Jbr N x0 m5000 m5001 m5002,[5000,5001,5002]⟩
theorem Q4z (N:Nat):Qm Tryz.prog tx.gl (Qh7 N):=Qj (Y:=tx) (N:=N) (K:=[]) (an:=Q0q) Qr Qq Qu Tryz.func173 rfl (fun x=>by kernel_rfl)
theorem Q40:Runs Tryz.prog 114:=⟨_,Tryz.func114,by decide,rfl⟩
def Qh8 (N:Nat):Con:=⟨114,Q0t,Quj,fun (x0,x1,x2,x3)=>Jbs N x0 x1 x2 x3,[]⟩
theorem Q41 (N:Nat):Qm Tryz.prog tx.gl (Qh8 N):=Qj (Y:=tx) (N:=N) (K:=[Qh7 N]) (an:=Q0s) Qr Qq (Qi (Q4z N) Q4y Qu) Tryz.func114 rfl (fun x=>by kernel_rfl)
theorem Q9e:Runs Tryz.prog 61:=⟨_,Tryz.func61,by decide,rfl⟩
def Qod (N:Nat):Con:=⟨61,Q8v,Q0u,fun (x0,x1,x2,x3,x4,x5)=>Z61 N x0 x1 x2 x3 x4 x5,[]⟩
theorem Q9f (N:Nat):Qm Tryz.prog tx.gl (Qod N):=Qj (Y:=tx) (N:=N) (K:=[Qao N,Qar N,Qhn N,Qhr N,Qhu N,Qh6 N,Qh8 N,Vp]) (an:=Q8u) Qr Qq (Qi (Qn6 N) Qn5 (Qi (Qoc N) Qob (Qi (Q3v N) Q3u (Qi (Q33 N) Q32 (Qi (Q39 N) Q38 (Qi (Q4x N) Q4w (Qi (Q41 N) Q40 (Qi (Zh) Zg Qu)))))))) Tryz.func61 rfl (fun x=>by kernel_rfl)
theorem Q42:Runs Tryz.prog 108:=⟨_,Tryz.func108,by decide,rfl⟩
def Qh9 (N:Nat):Con:=⟨108,Q0w,Quk,fun x0=>Jbt N x0,[]⟩
theorem Q43 (N:Nat):Qm Tryz.prog tx.gl (Qh9 N):=Qj (Y:=tx) (N:=N) (K:=[Xc,Vp]) (an:=Q0v) Qr Qq (Qi (Fv) Fu (Qi (Zh) Zg Qu)) Tryz.func108 rfl (fun x=>by kernel_rfl)
theorem G2:Runs Tryz.prog 32:=⟨_,Tryz.func32,by decide,rfl⟩
def Kl (N:Nat):Con:=⟨32,Dy,Cp,fun x0=>Zb N x0,[]⟩
theorem G3 (N:Nat):Qm Tryz.prog tx.gl (Kl N):=Qj (Y:=tx) (N:=N) (K:=[Ko,Kp,Kf,Xd]) (an:=Dw) Qr Qq (Qi (Eo) Em (Qi (Er) Ep (Qi (Hs) Hr (Qi (Fx) Fw Qu)))) Tryz.func32 rfl (fun x=>by kernel_rfl)
theorem Qvp:Runs Tryz.prog 62:=⟨_,Tryz.func62,by decide,rfl⟩
def Qem (N:Nat):Con:=⟨62,Q8x,Q0x,fun (x0,x1)=>Z62 N x0 x1,[]⟩
theorem Qvq (N:Nat):Qm Tryz.prog tx.gl (Qem N):=Qj (Y:=tx) (N:=N) (K:=[Qh9 N,Kl N]) (an:=Q8w) Qr Qq (Qi (Q43 N) Q42 (Qi (G3 N) G2 Qu)) Tryz.func62 rfl (fun x=>by kernel_rfl)
theorem Q44:Runs Tryz.prog 179:=⟨_,Tryz.func179,by decide,rfl⟩
def Qia (N:Nat):Con:=⟨179,Q0z,Qul,fun (x0,x1)=>Jbu N x0 x1,[]⟩
theorem Q45 (N:Nat):Qm Tryz.prog tx.gl (Qia N):=Qj (Y:=tx) (N:=N) (K:=[]) (an:=Q0y) Qr Qq Qu Tryz.func179 rfl (fun x=>by kernel_rfl)
theorem Q46:Runs Tryz.prog 180:=⟨_,Tryz.func180,by decide,rfl⟩
def Qib (N:Nat):Con:=⟨180,Q01,Qum,fun (x0,x1)=>Jbv N x0 x1,[]⟩
theorem Q47 (N:Nat):Qm Tryz.prog tx.gl (Qib N):=Qj (Y:=tx) (N:=N) (K:=[]) (an:=Q00) Qr Qq Qu Tryz.func180 rfl (fun x=>by kernel_rfl)
theorem Q48:Runs Tryz.prog 359:=⟨_,Tryz.func359,by decide,rfl⟩
def Qic (N:Nat):Con:=⟨359,Q03,Qun,fun (x0,x1,m5001)=>Jbw N x0 x1 m5001,[]⟩
theorem Q49 (N:Nat):Qm Tryz.prog tx.gl (Qic N):=Qj (Y:=tx) (N:=N) (K:=[]) (an:=Q02) Qr Qq Qu Tryz.func359 rfl (fun x=>by kernel_rfl)
theorem Qlr:Runs Tryz.prog 359:=⟨_,Tryz.func359,by decide,rfl⟩
def Pl (N:Nat):Con:=⟨359,Qkp,Qgx,fun (x0,x1,m5001)=>Qnr N x0 x1 m5001,[5000,5001]⟩
theorem Qls (N:Nat):Qm Tryz.prog tx.gl (Pl N):=Qj (Y:=tx) (N:=N) (K:=[]) (an:=Qko) Qr Qq Qu Tryz.func359 rfl (fun x=>by kernel_rfl)
theorem Q5a:Runs Tryz.prog 281:=⟨_,Tryz.func281,by decide,rfl⟩
def Qid (N:Nat):Con:=⟨281,Q05,Quo,fun x0=>Jbx N x0,[]⟩
theorem Q5b (N:Nat):Qm Tryz.prog tx.gl (Qid N):=Qj (Y:=tx) (N:=N) (K:=[]) (an:=Q04) Qr Qq Qu Tryz.func281 rfl (fun x=>by kernel_rfl)
theorem Q5c:Runs Tryz.prog 205:=⟨_,Tryz.func205,by decide,rfl⟩
def Qie (N:Nat):Con:=⟨205,Q07,Qup,fun x0=>Jby N x0,[]⟩
theorem Q5d (N:Nat):Qm Tryz.prog tx.gl (Qie N):=Qj (Y:=tx) (N:=N) (K:=[Qid N]) (an:=Q06) Qr Qq (Qi (Q5b N) Q5a Qu) Tryz.func205 rfl (fun x=>by kernel_rfl)
theorem Q5e:Runs Tryz.prog 390:=⟨_,Tryz.func390,by decide,rfl⟩
def Qif (N:Nat):Con:=⟨390,Q09,Quq,fun (x0,x1,x2)=>Jbz N x0 x1 x2,[]⟩
theorem Q5f (N:Nat):Qm Tryz.prog tx.gl (Qif N):=Qj (Y:=tx) (N:=N) (K:=[]) (an:=Q08) Qr Qq Qu Tryz.func390 rfl (fun x=>by kernel_rfl)
theorem Q5g:Runs Tryz.prog 377:=⟨_,Tryz.func377,by decide,rfl⟩
def Qig (N:Nat):Con:=⟨377,Q1b,Qur,fun (x0,x1,x2,x3)=>Jb0 N x0 x1 x2 x3,[]⟩
theorem Q5h (N:Nat):Qm Tryz.prog tx.gl (Qig N):=Qj (Y:=tx) (N:=N) (K:=[Qif N]) (an:=Q1a) Qr Qq (Qi (Q5f N) Q5e Qu) Tryz.func377 rfl (fun x=>by kernel_rfl)
theorem Q5i:Runs Tryz.prog 360:=⟨_,Tryz.func360,by decide,rfl⟩
def Qih (N:Nat):Con:=⟨360,Q1d,Qus,fun x0=>Jb1 N x0,[]⟩
theorem Q5j (N:Nat):Qm Tryz.prog tx.gl (Qih N):=Qj (Y:=tx) (N:=N) (K:=[Qie N,Qig N]) (an:=Q1c) Qr Qq (Qi (Q5d N) Q5c (Qi (Q5h N) Q5g Qu)) Tryz.func360 rfl (fun x=>by kernel_rfl)
theorem Q5k:Runs Tryz.prog 325:=⟨_,Tryz.func325,by decide,rfl⟩
def Qii (N:Nat):Con:=⟨325,Q1f,Qut,fun (x0,x1)=>Jb2 N x0 x1,[]⟩
theorem Q5l (N:Nat):Qm Tryz.prog tx.gl (Qii N):=Qj (Y:=tx) (N:=N) (K:=[Qic N,Pl N,Qih N]) (an:=Q1e) Qr Qq (Qi (Q49 N) Q48 (Qi (Qls N) Qlr (Qi (Q5j N) Q5i Qu))) Tryz.func325 rfl (fun x=>by kernel_rfl)
theorem Q5m:Runs Tryz.prog 259:=⟨_,Tryz.func259,by decide,rfl⟩
def Qij (N:Nat):Con:=⟨259,Q1h,Quu,fun x0=>Jb3 N x0,[]⟩
theorem Q5n (N:Nat):Qm Tryz.prog tx.gl (Qij N):=Qj (Y:=tx) (N:=N) (K:=[Qii N]) (an:=Q1g) Qr Qq (Qi (Q5l N) Q5k Qu) Tryz.func259 rfl (fun x=>by kernel_rfl)
theorem Q5o:Runs Tryz.prog 181:=⟨_,Tryz.func181,by decide,rfl⟩
def Qik (N:Nat):Con:=⟨181,Q1j,Quv,fun (x0,x1,x2)=>Jb4 N x0 x1 x2,[]⟩
theorem Q5p (N:Nat):Qm Tryz.prog tx.gl (Qik N):=Qj (Y:=tx) (N:=N) (K:=[Qij N]) (an:=Q1i) Qr Qq (Qi (Q5n N) Q5m Qu) Tryz.func181 rfl (fun x=>by kernel_rfl)
theorem Qoe:Runs Tryz.prog 116:=⟨_,Tryz.func116,by decide,rfl⟩
def Qas (N:Nat):Con:=⟨116,Q1l,Quw,fun (x0,x1,x2,x3,x4)=>Q8k N x0 x1 x2 x3 x4,[]⟩
theorem Qof (N:Nat):Qm Tryz.prog tx.gl (Qas N):=Qj (Y:=tx) (N:=N) (K:=[Qia N,Qib N,Qik N]) (an:=Q1k) Qr Qq (Qi (Q45 N) Q44 (Qi (Q47 N) Q46 (Qi (Q5p N) Q5o Qu))) Tryz.func116 rfl (fun x=>by kernel_rfl)
theorem Q5q:Runs Tryz.prog 264:=⟨_,Tryz.func264,by decide,rfl⟩
def Qil (N:Nat):Con:=⟨264,Q1n,Qux,fun x0=>Jb5 N x0,[]⟩
theorem Q5r (N:Nat):Qm Tryz.prog tx.gl (Qil N):=Qj (Y:=tx) (N:=N) (K:=[]) (an:=Q1m) Qr Qq Qu Tryz.func264 rfl (fun x=>by kernel_rfl)
theorem Q5s:Runs Tryz.prog 184:=⟨_,Tryz.func184,by decide,rfl⟩
def Qim (N:Nat):Con:=⟨184,Q1p,Quy,fun x0=>Jb6 N x0,[]⟩
theorem Q5t (N:Nat):Qm Tryz.prog tx.gl (Qim N):=Qj (Y:=tx) (N:=N) (K:=[Qil N]) (an:=Q1o) Qr Qq (Qi (Q5r N) Q5q Qu) Tryz.func184 rfl (fun x=>by kernel_rfl)
theorem Q5u:Runs Tryz.prog 185:=⟨_,Tryz.func185,by decide,rfl⟩
def Qin (N:Nat):Con:=⟨185,Q1r,Quz,fun (x0,x1,x2)=>Jb7 N x0 x1 x2,[]⟩
theorem Q5v (N:Nat):Qm Tryz.prog tx.gl (Qin N):=Qj (Y:=tx) (N:=N) (K:=[]) (an:=Q1q) Qr Qq Qu Tryz.func185 rfl (fun x=>by kernel_rfl)
theorem Q5w:Runs Tryz.prog 265:=⟨_,Tryz.func265,by decide,rfl⟩
def Qio (N:Nat):Con:=⟨265,Q1t,Qu0,fun x0=>Jb8 N x0,[]⟩
theorem Q5x (N:Nat):Qm Tryz.prog tx.gl (Qio N):=Qj (Y:=tx) (N:=N) (K:=[]) (an:=Q1s) Qr Qq Qu Tryz.func265 rfl (fun x=>by kernel_rfl)
theorem Q5y:Runs Tryz.prog 186:=⟨_,Tryz.func186,by decide,rfl⟩
def Qip (N:Nat):Con:=⟨186,Q1v,Qu1,fun (x0,x1)=>Jb9 N x0 x1,[]⟩
theorem Q5z (N:Nat):Qm Tryz.prog tx.gl (Qip N):=Qj (Y:=tx) (N:=N) (K:=[Qio N]) (an:=Q1u) Qr Qq (Qi (Q5x N) Q5w Qu) Tryz.func186 rfl (fun x=>by kernel_rfl)
theorem Rx:Runs Tryz.prog 202:=⟨_,Tryz.func202,by decide,rfl⟩
def D3 (N:Nat):Con:=⟨202,Q1x,Qu2,fun (x0,x1,x2)=>Qgv N x0 x1 x2,[]⟩
theorem Ry (N:Nat):Qm Tryz.prog tx.gl (D3 N):=Qj (Y:=tx) (N:=N) (K:=[]) (an:=Q1w) Qr Qq Qu Tryz.func202 rfl (fun x=>by kernel_rfl)
theorem Qog:Runs Tryz.prog 266:=⟨_,Tryz.func266,by decide,rfl⟩
def Qat (N:Nat):Con:=⟨266,Q1z,Qu3,fun x0=>Q8l N x0,[]⟩
theorem Qoh (N:Nat):Qm Tryz.prog tx.gl (Qat N):=Qj (Y:=tx) (N:=N) (K:=[]) (an:=Q1y) Qr Qq Qu Tryz.func266 rfl (fun x=>by kernel_rfl)
theorem Nb:Runs Tryz.prog 200:=⟨_,Tryz.func200,by decide,rfl⟩
def Ap (N:Nat):Con:=⟨200,Q11,Qu4,fun x0=>Qqn N x0,[]⟩
theorem Nc (N:Nat):Qm Tryz.prog tx.gl (Ap N):=Qj (Y:=tx) (N:=N) (K:=[D3 N,Qat N]) (an:=Q10) Qr Qq (Qi (Ry N) Rx (Qi (Qoh N) Qog Qu)) Tryz.func200 rfl (fun x=>by kernel_rfl)
theorem Q50:Runs Tryz.prog 188:=⟨_,Tryz.func188,by decide,rfl⟩
def Qiq (N:Nat):Con:=⟨188,Q13,Qu5,fun (x0,x1)=>Jca N x0 x1,[]⟩
theorem Q51 (N:Nat):Qm Tryz.prog tx.gl (Qiq N):=Qj (Y:=tx) (N:=N) (K:=[Ap N,D3 N,Qat N]) (an:=Q12) Qr Qq (Qi (Nc N) Nb (Qi (Ry N) Rx (Qi (Qoh N) Qog Qu))) Tryz.func188 rfl (fun x=>by kernel_rfl)
theorem Q52:Runs Tryz.prog 187:=⟨_,Tryz.func187,by decide,rfl⟩
def Qir (N:Nat):Con:=⟨187,Q15,Qu6,fun (x0,x1,m5000)=>Jcb N x0 x1 m5000,[]⟩
theorem Q53 (N:Nat):Qm Tryz.prog tx.gl (Qir N):=Qj (Y:=tx) (N:=N) (K:=[]) (an:=Q14) Qr Qq Qu Tryz.func187 rfl (fun x=>by kernel_rfl)
theorem Qau:Runs Tryz.prog 110:=⟨_,Tryz.func110,by decide,rfl⟩
def D4 (N:Nat):Con:=⟨110,Qkr,Qgy,fun (x0,x1,x2)=>Qed N x0 x1 x2,[]⟩
theorem Qav (N:Nat):Qm Tryz.prog tx.gl (D4 N):=Qj (Y:=tx) (N:=N) (K:=[Qap N,Qaq N]) (an:=Qkq) Qr Qq (Qi (Qn8 N) Qn7 (Qi (Qoa N) Qn9 Qu)) Tryz.func110 rfl (fun x=>by kernel_rfl)
theorem Qen:Runs Tryz.prog 190:=⟨_,Tryz.func190,by decide,rfl⟩
def Nd (N:Nat):Con:=⟨190,Q17,Qu7,fun (x0,x1)=>Qkf N x0 x1,[]⟩
theorem Qeo (N:Nat):Qm Tryz.prog tx.gl (Nd N):=Qj (Y:=tx) (N:=N) (K:=[]) (an:=Q16) Qr Qq Qu Tryz.func190 rfl (fun x=>by kernel_rfl)
theorem Rb:Runs Tryz.prog 125:=⟨_,Tryz.func125,by decide,rfl⟩
def Aq (N:Nat):Con:=⟨125,P8,Oh,fun x0=>Bp N x0,[]⟩
theorem Rc (N:Nat):Qm Tryz.prog tx.gl (Aq N):=Qj (Y:=tx) (N:=N) (K:=[]) (an:=P7) Qr Qq Qu Tryz.func125 rfl (fun x=>by kernel_rfl)
theorem Ar:Runs Tryz.prog 69:=⟨_,Tryz.func69,by decide,rfl⟩
def Wn (N:Nat):Con:=⟨69,Oj,M8,fun x0=>Xl N x0,[]⟩
theorem As (N:Nat):Qm Tryz.prog tx.gl (Wn N):=Qj (Y:=tx) (N:=N) (K:=[Aq N]) (an:=Oi) Qr Qq (Qi (Rc N) Rb Qu) Tryz.func69 rfl (fun x=>by kernel_rfl)
theorem Q54:Runs Tryz.prog 193:=⟨_,Tryz.func193,by decide,rfl⟩
def Qis (N:Nat):Con:=⟨193,Q19,Qu8,fun (x0,x1,x2)=>Jcc N x0 x1 x2,[]⟩
theorem Q55 (N:Nat):Qm Tryz.prog tx.gl (Qis N):=Qj (Y:=tx) (N:=N) (K:=[]) (an:=Q18) Qr Qq Qu Tryz.func193 rfl (fun x=>by kernel_rfl)
theorem Q56:Runs Tryz.prog 119:=⟨_,Tryz.func119,by decide,rfl⟩
def Qit (N:Nat):Con:=⟨119,Q2b,Qu9,fun (x0,x1,x2,x3,x4,x5,x6,x7)=>Jcd N x0 x1 x2 x3 x4 x5 x6 x7,[]⟩
theorem Q57 (N:Nat):Qm Tryz.prog tx.gl (Qit N):=Qj (Y:=tx) (N:=N) (K:=[Wn N,Qis N]) (an:=Q2a) Qr Qq (Qi (As N) Ar (Qi (Q55 N) Q54 Qu)) Tryz.func119 rfl (fun x=>by kernel_rfl)
theorem Q58:Runs Tryz.prog 120:=⟨_,Tryz.func120,by decide,rfl⟩
def Qiu (N:Nat):Con:=⟨120,Q2d,Qva,fun (x0,x1,x2)=>Jce N x0 x1 x2,[]⟩
theorem Q59 (N:Nat):Qm Tryz.prog tx.gl (Qiu N):=Qj (Y:=tx) (N:=N) (K:=[Na N]) (an:=Q2c) Qr Qq (Qi (Qel N) Qek Qu) Tryz.func120 rfl (fun x=>by kernel_rfl)
theorem Qoi:Runs Tryz.prog 268:=⟨_,Tryz.func268,by decide,rfl⟩
def Qaw (N:Nat):Con:=⟨268,Q2f,Qvb,fun x0=>Q8m N x0,[]⟩
theorem Qoj (N:Nat):Qm Tryz.prog tx.gl (Qaw N):=Qj (Y:=tx) (N:=N) (K:=[Ap N]) (an:=Q2e) Qr Qq (Qi (Nc N) Nb Qu) Tryz.func268 rfl (fun x=>by kernel_rfl)
theorem Q6a:Runs Tryz.prog 368:=⟨_,Tryz.func368,by decide,rfl⟩
def Qiv (N:Nat):Con:=⟨368,Q2h,Qvc,fun (x0,x1)=>Q8n N x0 x1,[]⟩
theorem Q6b (N:Nat):Qm Tryz.prog tx.gl (Qiv N):=Qj (Y:=tx) (N:=N) (K:=[]) (an:=Q2g) Qr Qq Qu Tryz.func368 rfl (fun x=>by kernel_rfl)
theorem Q6c:Runs Tryz.prog 344:=⟨_,Tryz.func344,by decide,rfl⟩
def Qiw (N:Nat):Con:=⟨344,Q2j,Qvd,fun x0=>Jcf N x0,[]⟩
theorem Q6d (N:Nat):Qm Tryz.prog tx.gl (Qiw N):=Qj (Y:=tx) (N:=N) (K:=[Qiv N]) (an:=Q2i) Qr Qq (Qi (Q6b N) Q6a Qu) Tryz.func344 rfl (fun x=>by kernel_rfl)
theorem Q6e:Runs Tryz.prog 345:=⟨_,Tryz.func345,by decide,rfl⟩
def Qix (N:Nat):Con:=⟨345,Q2l,Qve,fun (x0,x1)=>Jcg N x0 x1,[]⟩
theorem Q6f (N:Nat):Qm Tryz.prog tx.gl (Qix N):=Qj (Y:=tx) (N:=N) (K:=[]) (an:=Q2k) Qr Qq Qu Tryz.func345 rfl (fun x=>by kernel_rfl)
theorem Q6g:Runs Tryz.prog 331:=⟨_,Tryz.func331,by decide,rfl⟩
def Qiy (N:Nat):Con:=⟨331,Q2n,Qvf,fun (x0,x1)=>Jch N x0 x1,[]⟩
theorem Q6h (N:Nat):Qm Tryz.prog tx.gl (Qiy N):=Qj (Y:=tx) (N:=N) (K:=[Qiw N,Qix N]) (an:=Q2m) Qr Qq (Qi (Q6d N) Q6c (Qi (Q6f N) Q6e Qu)) Tryz.func331 rfl (fun x=>by kernel_rfl)
theorem Q6i:Runs Tryz.prog 270:=⟨_,Tryz.func270,by decide,rfl⟩
def Qiz (N:Nat):Con:=⟨270,Q2p,Qvg,fun (x0,x1)=>Q8o N x0 x1,[]⟩
theorem Q6j (N:Nat):Qm Tryz.prog tx.gl (Qiz N):=Qj (Y:=tx) (N:=N) (K:=[Qiy N]) (an:=Q2o) Qr Qq (Qi (Q6h N) Q6g Qu) Tryz.func270 rfl (fun x=>by kernel_rfl)
theorem Qep:Runs Tryz.prog 197:=⟨_,Tryz.func197,by decide,rfl⟩
def Nf (N:Nat):Con:=⟨197,Q2r,Qvh,fun (x0,x1)=>Qyq N x0 x1,[]⟩
theorem Qeq (N:Nat):Qm Tryz.prog tx.gl (Nf N):=Qj (Y:=tx) (N:=N) (K:=[Nd N,Qiz N]) (an:=Q2q) Qr Qq (Qi (Qeo N) Qen (Qi (Q6j N) Q6i Qu)) Tryz.func197 rfl (fun x=>by kernel_rfl)
theorem Q6k:Runs Tryz.prog 267:=⟨_,Tryz.func267,by decide,rfl⟩
def Qi0 (N:Nat):Con:=⟨267,Q2t,Qvi,fun (x0,m5000,m5001)=>Jci N x0 m5000 m5001,[5000,5001]⟩
theorem Q6l (N:Nat):Qm Tryz.prog tx.gl (Qi0 N):=Qj (Y:=tx) (N:=N) (K:=[Nf N]) (an:=Q2s) Qr Qq (Qi (Qeq N) Qep Qu) Tryz.func267 rfl (fun x=>by kernel_rfl)
theorem Q6m:Runs Tryz.prog 191:=⟨_,Tryz.func191,by decide,rfl⟩
def Qi1 (N:Nat):Con:=⟨191,Q2v,Qvj,fun (x0,x1,x2)=>Jcj N x0 x1 x2,[]⟩
theorem Q6n (N:Nat):Qm Tryz.prog tx.gl (Qi1 N):=Qj (Y:=tx) (N:=N) (K:=[Qi0 N]) (an:=Q2u) Qr Qq (Qi (Q6l N) Q6k Qu) Tryz.func191 rfl (fun x=>by kernel_rfl)
theorem Qax:Runs Tryz.prog 120:=⟨_,Tryz.func120,by decide,rfl⟩
def D5 (N:Nat):Con:=⟨120,Qkt,Qgz,fun (x0,x1,x2)=>Qee N x0 x1 x2,[]⟩
theorem Qay (N:Nat):Qm Tryz.prog tx.gl (D5 N):=Qj (Y:=tx) (N:=N) (K:=[Na N]) (an:=Qks) Qr Qq (Qi (Qel N) Qek Qu) Tryz.func120 rfl (fun x=>by kernel_rfl)
theorem Qok:Runs Tryz.prog 195:=⟨_,Tryz.func195,by decide,rfl⟩
def Qaz (N:Nat):Con:=⟨195,Q2x,Qvk,fun (x0,x1)=>Q8p N x0 x1,[]⟩
theorem Qol (N:Nat):Qm Tryz.prog tx.gl (Qaz N):=Qj (Y:=tx) (N:=N) (K:=[Nf N]) (an:=Q2w) Qr Qq (Qi (Qeq N) Qep Qu) Tryz.func195 rfl (fun x=>by kernel_rfl)
theorem Qom:Runs Tryz.prog 196:=⟨_,Tryz.func196,by decide,rfl⟩
def Qa0 (N:Nat):Con:=⟨196,Q2z,Qvl,fun (x0,x1)=>Q8q N x0 x1,[]⟩
theorem Qon (N:Nat):Qm Tryz.prog tx.gl (Qa0 N):=Qj (Y:=tx) (N:=N) (K:=[Ap N,D3 N,Qaw N]) (an:=Q2y) Qr Qq (Qi (Nc N) Nb (Qi (Ry N) Rx (Qi (Qoj N) Qoi Qu))) Tryz.func196 rfl (fun x=>by kernel_rfl)
theorem Qa1:Runs Tryz.prog 117:=⟨_,Tryz.func117,by decide,rfl⟩
def D6 (N:Nat):Con:=⟨117,Qkv,Qg0,fun (x0,x1,x2,x3)=>Qef N x0 x1 x2 x3,[]⟩
theorem Qa2 (N:Nat):Qm Tryz.prog tx.gl (D6 N):=Qj (Y:=tx) (N:=N) (K:=[Qim N,Qin N,Qip N,Qiq N,Qir N]) (an:=Qku) Qr Qq (Qi (Q5t N) Q5s (Qi (Q5v N) Q5u (Qi (Q5z N) Q5y (Qi (Q51 N) Q50 (Qi (Q53 N) Q52 Qu))))) Tryz.func117 rfl (fun x=>by kernel_rfl)
theorem Qlt:Runs Tryz.prog 192:=⟨_,Tryz.func192,by decide,rfl⟩
def Pm (N:Nat):Con:=⟨192,Qkx,Qg1,fun (x0,x1_0,x2,x3,m5000,m5001)=>Qns N x0 x1_0 x2 x3 m5000 m5001,[5000,5001]⟩
theorem Qlu (N:Nat):Qm Tryz.prog tx.gl (Pm N):=Qj (Y:=tx) (N:=N) (K:=[Qiu N,Ap N,Qaw N]) (an:=Qkw) Qr Qq (Qi (Q59 N) Q58 (Qi (Nc N) Nb (Qi (Qoj N) Qoi Qu))) Tryz.func192 rfl (fun x=>by kernel_rfl)
theorem Qa3:Runs Tryz.prog 118:=⟨_,Tryz.func118,by decide,rfl⟩
def D7 (N:Nat):Con:=⟨118,Qkz,Qg2,fun (x0,x1_0,x2,x3,x4,m5000,m5001)=>Qeg N x0 x1_0 x2 x3 x4 m5000 m5001,[5000,5001]⟩
theorem Qa4 (N:Nat):Qm Tryz.prog tx.gl (D7 N):=Qj (Y:=tx) (N:=N) (K:=[Nd N,Qar N,Qit N,Pm N,Qi1 N]) (an:=Qky) Qr Qq (Qi (Qeo N) Qen (Qi (Qoc N) Qob (Qi (Q57 N) Q56 (Qi (Qlu N) Qlt (Qi (Q6n N) Q6m Qu))))) Tryz.func118 rfl (fun x=>by kernel_rfl)
theorem Qlv:Runs Tryz.prog 199:=⟨_,Tryz.func199,by decide,rfl⟩
def Pn (N:Nat):Con:=⟨199,Qk1,Qg3,fun (x0,m5001_0,m5001_1_0,m5002,m5003)=>Qnt N x0 m5001_0 m5001_1_0 m5002 m5003,[5000,5001,5002,5003]⟩
theorem Qlw (N:Nat):Qm Tryz.prog tx.gl (Pn N):=Qj (Y:=tx) (N:=N) (K:=[]) (an:=Qk0) Qr Qq Qu Tryz.func199 rfl (fun x=>by kernel_rfl)
theorem Qlx:Runs Tryz.prog 198:=⟨_,Tryz.func198,by decide,rfl⟩
def Po (N:Nat):Con:=⟨198,Qk3,Qg4,fun (m5000,m5002_0,m5002_1_0,m5003)=>Qnu N m5000 m5002_0 m5002_1_0 m5003,[5000,5001,5002,5003]⟩
theorem Qly (N:Nat):Qm Tryz.prog tx.gl (Po N):=Qj (Y:=tx) (N:=N) (K:=[Pn N]) (an:=Qk2) Qr Qq (Qi (Qlw N) Qlv Qu) Tryz.func198 rfl (fun x=>by kernel_rfl)
theorem Qlz:Runs Tryz.prog 123:=⟨_,Tryz.func123,by decide,rfl⟩
def Pp (N:Nat):Con:=⟨123,Qk5,Qg5,fun (m5000_0,m5000_1_0,m5001,m5002)=>Qnv N m5000_0 m5000_1_0 m5001 m5002,[5000,5002]⟩
theorem Ql0 (N:Nat):Qm Tryz.prog tx.gl (Pp N):=Qj (Y:=tx) (N:=N) (K:=[Po N]) (an:=Qk4) Qr Qq (Qi (Qly N) Qlx Qu) Tryz.func123 rfl (fun x=>by kernel_rfl)
theorem Ql1:Runs Tryz.prog 121:=⟨_,Tryz.func121,by decide,rfl⟩
def Pq (N:Nat):Con:=⟨121,Qk7,Qg6,fun (x1,m5000_0,m5000_1_0,m5001,m5002)=>Qnw N x1 m5000_0 m5000_1_0 m5001 m5002,[]⟩
theorem Ql2 (N:Nat):Qm Tryz.prog tx.gl (Pq N):=Qj (Y:=tx) (N:=N) (K:=[Qaz N,Pp N,Qa0 N]) (an:=Qk6) Qr Qq (Qi (Qol N) Qok (Qi (Ql0 N) Qlz (Qi (Qon N) Qom Qu))) Tryz.func121 rfl (fun x=>by kernel_rfl)
theorem Q9g:Runs Tryz.prog 63:=⟨_,Tryz.func63,by decide,rfl⟩
def Qoo (N:Nat):Con:=⟨63,Q8z,Q20,fun (x1,x2,x3,m5000_0,m5001,m5002,m5003)=>Z63 N x1 x2 x3 m5000_0 m5001 m5002 m5003,[]⟩
theorem Q9h (N:Nat):Qm Tryz.prog tx.gl (Qoo N):=Qj (Y:=tx) (N:=N) (K:=[Qas N,D6 N,D4 N,D7 N,D5 N,Pq N]) (an:=Q8y) Qr Qq (Qi (Qof N) Qoe (Qi (Qa2 N) Qa1 (Qi (Qav N) Qau (Qi (Qa4 N) Qa3 (Qi (Qay N) Qax (Qi (Ql2 N) Ql1 Qu)))))) Tryz.func63 rfl (fun x=>by kernel_rfl)
theorem Q9i:Runs Tryz.prog 67:=⟨_,Tryz.func67,by decide,rfl⟩
def Qop (N:Nat):Con:=⟨67,Q81,Q21,fun (x1,x2,x3,x4,m5000_0,m5000_1_0,m5001,m5002)=>Z67 N x1 x2 x3 x4 m5000_0 m5000_1_0 m5001 m5002,[]⟩
theorem Q9j (N:Nat):Qm Tryz.prog tx.gl (Qop N):=Qj (Y:=tx) (N:=N) (K:=[]) (an:=Q80) Qr Qq Qu Tryz.func67 rfl (fun x=>by kernel_rfl)
theorem Q9k:Runs Tryz.prog 64:=⟨_,Tryz.func64,by decide,rfl⟩
def Qoq (N:Nat):Con:=⟨64,Q83,Q22,fun (x1,x2,m5000_0,m5000_1_0,m5001,m5002)=>Z64 N x1 x2 m5000_0 m5000_1_0 m5001 m5002,[]⟩
theorem Q9l (N:Nat):Qm Tryz.prog tx.gl (Qoq N):=Qj (Y:=tx) (N:=N) (K:=[Qop N]) (an:=Q82) Qr Qq (Qi (Q9j N) Q9i Qu) Tryz.func64 rfl (fun x=>by kernel_rfl)
theorem Q9m:Runs Tryz.prog 29:=⟨_,Tryz.func29,by decide,rfl⟩
def Qor (N:Nat):Con:=⟨29,Q85,Q23,fun (x0,x1,x2)=>Z29 N x0 x1 x2,[]⟩
theorem Q9n (N:Nat):Qm Tryz.prog tx.gl (Qor N):=Qj (Y:=tx) (N:=N) (K:=[Qod N,Qem N,Qoo N,Qoq N]) (an:=Q84) Qr Qq (Qi (Q9f N) Q9e (Qi (Qvq N) Qvp (Qi (Q9h N) Q9g (Qi (Q9l N) Q9k Qu)))) Tryz.func29 rfl (fun x=>by kernel_rfl)
theorem Q9o:Runs Tryz.prog 68:=⟨_,Tryz.func68,by decide,rfl⟩
def Qos (N:Nat):Con:=⟨68,Q87,Q24,fun (x0,x1,x2,x3)=>Z68 N x0 x1 x2 x3,[]⟩
theorem Q9p (N:Nat):Qm Tryz.prog tx.gl (Qos N):=Qj (Y:=tx) (N:=N) (K:=[]) (an:=Q86) Qr Qq Qu Tryz.func68 rfl (fun x=>by kernel_rfl)
theorem Q6o:Runs Tryz.prog 122:=⟨_,Tryz.func122,by decide,rfl⟩
def Qi2 (N:Nat):Con:=⟨122,Q26,Qvm,fun (x0,x1,x2)=>Jck N x0 x1 x2,[]⟩
theorem Q6p (N:Nat):Qm Tryz.prog tx.gl (Qi2 N):=Qj (Y:=tx) (N:=N) (K:=[Nd N,Nf N,Vp]) (an:=Q25) Qr Qq (Qi (Qeo N) Qen (Qi (Qeq N) Qep (Qi (Zh) Zg Qu))) Tryz.func122 rfl (fun x=>by kernel_rfl)
theorem Ql3:Runs Tryz.prog 199:=⟨_,Tryz.func199,by decide,rfl⟩
def Pr (N:Nat):Con:=⟨199,Qk9,Qg7,fun (x0,m5001_0_0,m5001_0_1,m5001_0_2,m5001_0_3,m5001_0_4_0,m5001_0_4_1,m5001_0_4_2,m5001_0_4_3,m5001_0_4_4,m5001_0_4_5,m5001_0_4_6_0,m5001_0_4_6_1,m5001_0_4_6_2,m5001_0_4_6_3,m5001_0_4_7,m5001_0_4_8,m5001_0_5,m5001_0_6,m5001_0_7,m5001_0_8,m5001_0_9,m5001_0_10,m5002,m5003,m5004,m5005)=>Qnx N x0 m5001_0_0 m5001_0_1 m5001_0_2 m5001_0_3 m5001_0_4_0 m5001_0_4_1 m5001_0_4_2 m5001_0_4_3 m5001_0_4_4 m5001_0_4_5 m5001_0_4_6_0 m5001_0_4_6_1 m5001_0_4_6_2 m5001_0_4_6_3 m5001_0_4_7 m5001_0_4_8 m5001_0_5 m5001_0_6 m5001_0_7 m5001_0_8 m5001_0_9 m5001_0_10 m5002 m5003 m5004 m5005,[5000,5001,5002,5003,5004,5005]⟩
theorem Ql4 (N:Nat):Qm Tryz.prog tx.gl (Pr N):=Qj (Y:=tx) (N:=N) (K:=[]) (an:=Qk8) Qr Qq Qu Tryz.func199 rfl (fun x=>by kernel_rfl)
theorem Ql5:Runs Tryz.prog 198:=⟨_,Tryz.func198,by decide,rfl⟩
def Ps (N:Nat):Con:=⟨198,Qlb,Qg8,fun (m5000,m5002_0_0,m5002_0_1,m5002_0_2,m5002_0_3,m5002_0_4_0,m5002_0_4_1,m5002_0_4_2,m5002_0_4_3,m5002_0_4_4,m5002_0_4_5,m5002_0_4_6_0,m5002_0_4_6_1,m5002_0_4_6_2,m5002_0_4_6_3,m5002_0_4_7,m5002_0_4_8,m5002_0_5,m5002_0_6,m5002_0_7,m5002_0_8,m5002_0_9,m5002_0_10,m5003,m5004,m5005)=>Qny N m5000 m5002_0_0 m5002_0_1 m5002_0_2 m5002_0_3 m5002_0_4_0 m5002_0_4_1 m5002_0_4_2 m5002_0_4_3 m5002_0_4_4 m5002_0_4_5 m5002_0_4_6_0 m5002_0_4_6_1 m5002_0_4_6_2 m5002_0_4_6_3 m5002_0_4_7 m5002_0_4_8 m5002_0_5 m5002_0_6 m5002_0_7 m5002_0_8 m5002_0_9 m5002_0_10 m5003 m5004 m5005,[5000,5001,5002,5003,5004,5005]⟩
theorem Ql6 (N:Nat):Qm Tryz.prog tx.gl (Ps N):=Qj (Y:=tx) (N:=N) (K:=[Pr N]) (an:=Qla) Qr Qq (Qi (Ql4 N) Ql3 Qu) Tryz.func198 rfl (fun x=>by kernel_rfl)
theorem Ql7:Runs Tryz.prog 123:=⟨_,Tryz.func123,by decide,rfl⟩
def Pt (N:Nat):Con:=⟨123,Qld,Qg9,fun (m5000_0_0,m5000_0_1,m5000_0_2,m5000_0_3,m5000_0_4_0,m5000_0_4_1,m5000_0_4_2,m5000_0_4_3,m5000_0_4_4,m5000_0_4_5,m5000_0_4_6_0,m5000_0_4_6_1,m5000_0_4_6_2,m5000_0_4_6_3,m5000_0_4_7,m5000_0_4_8,m5000_0_5,m5000_0_6,m5000_0_7,m5000_0_8,m5000_0_9,m5000_0_10,m5001,m5002,m5003,m5004)=>Qnz N m5000_0_0 m5000_0_1 m5000_0_2 m5000_0_3 m5000_0_4_0 m5000_0_4_1 m5000_0_4_2 m5000_0_4_3 m5000_0_4_4 m5000_0_4_5 m5000_0_4_6_0 m5000_0_4_6_1 m5000_0_4_6_2 m5000_0_4_6_3 m5000_0_4_7 m5000_0_4_8 m5000_0_5 m5000_0_6 m5000_0_7 m5000_0_8 m5000_0_9 m5000_0_10 m5001 m5002 m5003 m5004,[5000,5001,5002,5004]⟩
theorem Ql8 (N:Nat):Qm Tryz.prog tx.gl (Pt N):=Qj (Y:=tx) (N:=N) (K:=[Ps N]) (an:=Qlc) Qr Qq (Qi (Ql6 N) Ql5 Qu) Tryz.func123 rfl (fun x=>by kernel_rfl)
theorem Q6q:Runs Tryz.prog 124:=⟨_,Tryz.func124,by decide,rfl⟩
def Qi3 (N:Nat):Con:=⟨124,Q28,Qvn,fun (x0,x1,x2)=>Jcl N x0 x1 x2,[]⟩
theorem Q6r (N:Nat):Qm Tryz.prog tx.gl (Qi3 N):=Qj (Y:=tx) (N:=N) (K:=[Ap N,D3 N]) (an:=Q27) Qr Qq (Qi (Nc N) Nb (Qi (Ry N) Rx Qu)) Tryz.func124 rfl (fun x=>by kernel_rfl)
theorem Q9q:Runs Tryz.prog 65:=⟨_,Tryz.func65,by decide,rfl⟩
def Qot (N:Nat):Con:=⟨65,Q89,Q29,fun (x1,m5000_0,m5001,m5002,m5003)=>Z65 N x1 m5000_0 m5001 m5002 m5003,[]⟩
theorem Q9r (N:Nat):Qm Tryz.prog tx.gl (Qot N):=Qj (Y:=tx) (N:=N) (K:=[Qi2 N,Pt N,Qi3 N]) (an:=Q88) Qr Qq (Qi (Q6p N) Q6o (Qi (Ql8 N) Ql7 (Qi (Q6r N) Q6q Qu))) Tryz.func65 rfl (fun x=>by kernel_rfl)
theorem Ql9:Runs Tryz.prog 199:=⟨_,Tryz.func199,by decide,rfl⟩
def Pu (N:Nat):Con:=⟨199,Qlf,Qha,fun (x0,m5001_0_0,m5001_0_1,m5001_0_2,m5001_0_3,m5001_0_4,m5001_0_5,m5001_0_7,m5001_0_8,m5001_0_9,m5001_0_10,m5001_1_0,m5002,m5003,m5004)=>Qn0 N x0 m5001_0_0 m5001_0_1 m5001_0_2 m5001_0_3 m5001_0_4 m5001_0_5 m5001_0_7 m5001_0_8 m5001_0_9 m5001_0_10 m5001_1_0 m5002 m5003 m5004,[5000,5001,5002,5003,5004]⟩
theorem Qma (N:Nat):Qm Tryz.prog tx.gl (Pu N):=Qj (Y:=tx) (N:=N) (K:=[]) (an:=Qle) Qr Qq Qu Tryz.func199 rfl (fun x=>by kernel_rfl)
theorem Qmb:Runs Tryz.prog 198:=⟨_,Tryz.func198,by decide,rfl⟩
def Pv (N:Nat):Con:=⟨198,Qlh,Qhb,fun (m5000,m5002_0_0,m5002_0_1,m5002_0_2,m5002_0_3,m5002_0_4,m5002_0_5,m5002_0_7,m5002_0_8,m5002_0_9,m5002_0_10,m5002_1_0,m5003,m5004)=>Qn1 N m5000 m5002_0_0 m5002_0_1 m5002_0_2 m5002_0_3 m5002_0_4 m5002_0_5 m5002_0_7 m5002_0_8 m5002_0_9 m5002_0_10 m5002_1_0 m5003 m5004,[5000,5001,5002,5003,5004]⟩
theorem Qmc (N:Nat):Qm Tryz.prog tx.gl (Pv N):=Qj (Y:=tx) (N:=N) (K:=[Pu N]) (an:=Qlg) Qr Qq (Qi (Qma N) Ql9 Qu) Tryz.func198 rfl (fun x=>by kernel_rfl)
theorem Qmd:Runs Tryz.prog 123:=⟨_,Tryz.func123,by decide,rfl⟩
def Pw (N:Nat):Con:=⟨123,Qlj,Qhc,fun (m5000_0_0,m5000_0_1,m5000_0_2,m5000_0_3,m5000_0_4,m5000_0_5,m5000_0_7,m5000_0_8,m5000_0_9,m5000_0_10,m5000_1_0,m5001,m5002,m5003)=>Qn2 N m5000_0_0 m5000_0_1 m5000_0_2 m5000_0_3 m5000_0_4 m5000_0_5 m5000_0_7 m5000_0_8 m5000_0_9 m5000_0_10 m5000_1_0 m5001 m5002 m5003,[5000,5001,5003]⟩
theorem Qme (N:Nat):Qm Tryz.prog tx.gl (Pw N):=Qj (Y:=tx) (N:=N) (K:=[Pv N]) (an:=Qli) Qr Qq (Qi (Qmc N) Qmb Qu) Tryz.func123 rfl (fun x=>by kernel_rfl)
theorem Qmf:Runs Tryz.prog 121:=⟨_,Tryz.func121,by decide,rfl⟩
def Px (N:Nat):Con:=⟨121,Qll,Qhd,fun (x1,m5000_0_0,m5000_0_1,m5000_0_2,m5000_0_3,m5000_0_4,m5000_0_5,m5000_0_7,m5000_0_8,m5000_0_9,m5000_0_10,m5000_1_0,m5001,m5002,m5003)=>Qn3 N x1 m5000_0_0 m5000_0_1 m5000_0_2 m5000_0_3 m5000_0_4 m5000_0_5 m5000_0_7 m5000_0_8 m5000_0_9 m5000_0_10 m5000_1_0 m5001 m5002 m5003,[]⟩
theorem Qmg (N:Nat):Qm Tryz.prog tx.gl (Px N):=Qj (Y:=tx) (N:=N) (K:=[Qaz N,Pw N,Qa0 N]) (an:=Qlk) Qr Qq (Qi (Qol N) Qok (Qi (Qme N) Qmd (Qi (Qon N) Qom Qu))) Tryz.func121 rfl (fun x=>by kernel_rfl)
theorem Qqu:Runs Tryz.prog 63:=⟨_,Tryz.func63,by decide,rfl⟩
def Qa5 (N:Nat):Con:=⟨63,Qqp,Qlm,fun (x1,x2,x3,m5000_0_0,m5000_0_1,m5000_0_2,m5000_0_3,m5000_0_4_0,m5000_0_4_1,m5000_0_4_2,m5000_0_4_3,m5000_0_4_4,m5000_0_4_5,m5000_0_4_6_0,m5000_0_4_6_1,m5000_0_4_6_2,m5000_0_4_6_3,m5000_0_4_7,m5000_0_4_8,m5000_0_5,m5000_0_7,m5000_0_8,m5000_0_9,m5000_0_10,m5001,m5002,m5003,m5004,m5005)=>Qth N x1 x2 x3 m5000_0_0 m5000_0_1 m5000_0_2 m5000_0_3 m5000_0_4_0 m5000_0_4_1 m5000_0_4_2 m5000_0_4_3 m5000_0_4_4 m5000_0_4_5 m5000_0_4_6_0 m5000_0_4_6_1 m5000_0_4_6_2 m5000_0_4_6_3 m5000_0_4_7 m5000_0_4_8 m5000_0_5 m5000_0_7 m5000_0_8 m5000_0_9 m5000_0_10 m5001 m5002 m5003 m5004 m5005,[]⟩
theorem Qqv (N:Nat):Qm Tryz.prog tx.gl (Qa5 N):=Qj (Y:=tx) (N:=N) (K:=[Qas N,D6 N,D4 N,D7 N,D5 N,Px N]) (an:=Qqo) Qr Qq (Qi (Qof N) Qoe (Qi (Qa2 N) Qa1 (Qi (Qav N) Qau (Qi (Qa4 N) Qa3 (Qi (Qay N) Qax (Qi (Qmg N) Qmf Qu)))))) Tryz.func63 rfl (fun x=>by kernel_rfl)
theorem Qqw:Runs Tryz.prog 67:=⟨_,Tryz.func67,by decide,rfl⟩
def Qa6 (N:Nat):Con:=⟨67,Qqr,Qln,fun (x1,x2,x3,x4,m5000_0_0,m5000_0_1,m5000_0_2,m5000_0_3,m5000_0_4,m5000_0_5,m5000_0_7,m5000_0_8,m5000_0_9,m5000_0_10,m5000_1_0,m5001,m5002,m5003)=>Qti N x1 x2 x3 x4 m5000_0_0 m5000_0_1 m5000_0_2 m5000_0_3 m5000_0_4 m5000_0_5 m5000_0_7 m5000_0_8 m5000_0_9 m5000_0_10 m5000_1_0 m5001 m5002 m5003,[]⟩
theorem Qqx (N:Nat):Qm Tryz.prog tx.gl (Qa6 N):=Qj (Y:=tx) (N:=N) (K:=[]) (an:=Qqq) Qr Qq Qu Tryz.func67 rfl (fun x=>by kernel_rfl)
theorem Qqy:Runs Tryz.prog 64:=⟨_,Tryz.func64,by decide,rfl⟩
def Qa7 (N:Nat):Con:=⟨64,Qqt,Qlo,fun (x1,x2,m5000_0_0,m5000_0_1,m5000_0_2,m5000_0_3,m5000_0_4,m5000_0_5,m5000_0_7,m5000_0_8,m5000_0_9,m5000_0_10,m5000_1_0,m5001,m5002,m5003)=>Qtj N x1 x2 m5000_0_0 m5000_0_1 m5000_0_2 m5000_0_3 m5000_0_4 m5000_0_5 m5000_0_7 m5000_0_8 m5000_0_9 m5000_0_10 m5000_1_0 m5001 m5002 m5003,[]⟩
theorem Qqz (N:Nat):Qm Tryz.prog tx.gl (Qa7 N):=Qj (Y:=tx) (N:=N) (K:=[Qa6 N]) (an:=Qqs) Qr Qq (Qi (Qqx N) Qqw Qu) Tryz.func64 rfl (fun x=>by kernel_rfl)
theorem Q9s:Runs Tryz.prog 30:=⟨_,Tryz.func30,by decide,rfl⟩
def Qou (N:Nat):Con:=⟨30,Q9b,Q3a,fun (x0,x1,x2,x3)=>Z30 N x0 x1 x2 x3,[]⟩
theorem Q9t (N:Nat):Qm Tryz.prog tx.gl (Qou N):=Qj (Y:=tx) (N:=N) (K:=[Qos N,Qem N,Qot N,Qa5 N,Qa7 N]) (an:=Q9a) Qr Qq (Qi (Q9p N) Q9o (Qi (Qvq N) Qvp (Qi (Q9r N) Q9q (Qi (Qqv N) Qqu (Qi (Qqz N) Qqy Qu))))) Tryz.func30 rfl (fun x=>by kernel_rfl)
theorem Cz:Runs Tryz.prog 7:=⟨_,Tryz.func7,by decide,rfl⟩
def Wo (N:Nat):Con:=⟨7,Cr,Bq,fun _=>Vv N,[]⟩
theorem C0 (N:Nat):Qm Tryz.prog tx.gl (Wo N):=Qj (Y:=tx) (N:=N) (K:=[Qn4 N,Qor N,Qou N]) (an:=Cq) Qr Qq (Qi (Q9d N) Q9c (Qi (Q9n N) Q9m (Qi (Q9t N) Q9s Qu))) Tryz.func7 rfl (fun x=>by kernel_rfl)
theorem Qer:Runs Tryz.prog 70:=⟨_,Tryz.func70,by decide,rfl⟩
def Lg (N:Nat):Con:=⟨70,Qei,Qbm,fun x0=>Og N x0,[]⟩
theorem Qes (N:Nat):Qm Tryz.prog tx.gl (Lg N):=Qj (Y:=tx) (N:=N) (K:=[]) (an:=Qeh) Qr Qq Qu Tryz.func70 rfl (fun x=>by kernel_rfl)
theorem Qa8:Runs Tryz.prog 71:=⟨_,Tryz.func71,by decide,rfl⟩
def Cf (N:Nat):Con:=⟨71,Qal,P9,fun (x0,x1,x2)=>Fd N x0 x1 x2,[]⟩
theorem Qa9 (N:Nat):Qm Tryz.prog tx.gl (Cf N):=Qj (Y:=tx) (N:=N) (K:=[]) (an:=Qak) Qr Qq Qu Tryz.func71 rfl (fun x=>by kernel_rfl)
theorem Qba:Runs Tryz.prog 31:=⟨_,Tryz.func31,by decide,rfl⟩
def Cg (N:Nat):Con:=⟨31,Qan,Ra,fun (x0,x1)=>Ff N x0 x1,[]⟩
theorem Qbb (N:Nat):Qm Tryz.prog tx.gl (Cg N):=Qj (Y:=tx) (N:=N) (K:=[Wn N,Lg N,Cf N]) (an:=Qam) Qr Qq (Qi (As N) Ar (Qi (Qes N) Qer (Qi (Qa9 N) Qa8 Qu))) Tryz.func31 rfl (fun x=>by kernel_rfl)
theorem On:Runs Tryz.prog 8:=⟨_,Tryz.func8,by decide,rfl⟩
def Fg (N:Nat):Con:=⟨8,Om,M9,fun (x0,x1)=>Gq N x0 x1,[]⟩
theorem Oo (N:Nat):Qm Tryz.prog tx.gl (Fg N):=Qj (Y:=tx) (N:=N) (K:=[Kl N,Cg N]) (an:=Ol) Qr Qq (Qi (G3 N) G2 (Qi (Qbb N) Qba Qu)) Tryz.func8 rfl (fun x=>by kernel_rfl)
theorem Bx:Runs Tryz.prog 33:=⟨_,Tryz.func33,by decide,rfl⟩
def X4 (N:Nat):Con:=⟨33,Bs,Ak,fun x0=>Y4 N x0,[]⟩
theorem By (N:Nat):Qm Tryz.prog tx.gl (X4 N):=Qj (Y:=tx) (N:=N) (K:=[]) (an:=Br) Qr Qq Qu Tryz.func33 rfl (fun x=>by kernel_rfl)
theorem C1:Runs Tryz.prog 34:=⟨_,Tryz.func34,by decide,rfl⟩
def Wp (N:Nat):Con:=⟨34,Ct,Bt,fun (x0,x1)=>Yx N x0 x1,[]⟩
theorem C2 (N:Nat):Qm Tryz.prog tx.gl (Wp N):=Qj (Y:=tx) (N:=N) (K:=[]) (an:=Cs) Qr Qq Qu Tryz.func34 rfl (fun x=>by kernel_rfl)
theorem D8:Runs Tryz.prog 126:=⟨_,Tryz.func126,by decide,rfl⟩
def Wt (N:Nat):Con:=⟨126,D0,Cu,fun x0=>Wm N x0,[]⟩
theorem D9 (N:Nat):Qm Tryz.prog tx.gl (Wt N):=Qj (Y:=tx) (N:=N) (K:=[]) (an:=Dz) Qr Qq Qu Tryz.func126 rfl (fun x=>by kernel_rfl)
theorem Bz:Runs Tryz.prog 76:=⟨_,Tryz.func76,by decide,rfl⟩
def X5 (N:Nat):Con:=⟨76,Bv,Al,fun x0=>Zm N x0,[]⟩
theorem B1 (N:Nat):Qm Tryz.prog tx.gl (X5 N):=Qj (Y:=tx) (N:=N) (K:=[Wt N]) (an:=Bu) Qr Qq (Qi (D9 N) D8 Qu) Tryz.func76 rfl (fun x=>by kernel_rfl)
theorem Au:Runs Tryz.prog 77:=⟨_,Tryz.func77,by decide,rfl⟩
def Xm (N:Nat):Con:=⟨77,Ao,Ft,fun (x1,m5000)=>Zc N x1 m5000,[5000]⟩
theorem Av (N:Nat):Qm Tryz.prog tx.gl (Xm N):=Qj (Y:=tx) (N:=N) (K:=[]) (an:=Am) Qr Qq Qu Tryz.func77 rfl (fun x=>by kernel_rfl)
theorem Ia:Runs Tryz.prog 35:=⟨_,Tryz.func35,by decide,rfl⟩
def Wu (N:Nat):Con:=⟨35,D2,Cv,fun (x0,x1)=>Kn N x0 x1,[]⟩
theorem Ib (N:Nat):Qm Tryz.prog tx.gl (Wu N):=Qj (Y:=tx) (N:=N) (K:=[X5 N,Xm N]) (an:=D1) Qr Qq (Qi (B1 N) Bz (Qi (Av N) Au Qu)) Tryz.func35 rfl (fun x=>by kernel_rfl)
theorem C3:Runs Tryz.prog 9:=⟨_,Tryz.func9,by decide,rfl⟩
def Wq (N:Nat):Con:=⟨9,Cy,Bw,fun (x0,x1)=>Ka N x0 x1,[]⟩
theorem C4 (N:Nat):Qm Tryz.prog tx.gl (Wq N):=Qj (Y:=tx) (N:=N) (K:=[X4 N,Wp N,Wu N]) (an:=Cw) Qr Qq (Qi (By N) Bx (Qi (C2 N) C1 (Qi (Ib N) Ia Qu))) Tryz.func9 rfl (fun x=>by kernel_rfl)
def Zw (N:Nat):Con:=⟨3,G1,Gg,fun (x0,x1)=>Up N x0 x1,[]⟩
theorem G4 (N:Nat):Qm Tryz.prog tx.gl (Zw N):=Qj (Y:=tx) (N:=N) (K:=[Wo N,Fg N,Wq N]) (an:=G0) Qr Qq (Qi (C0 N) Cz (Qi (Oo N) On (Qi (C4 N) C3 Qu))) Tryz.func3 rfl (fun x=>by kernel_rfl)
end
end Gx
