/- The interpreter gives these functions. -/
import Derived.Test.YtgnpojenbefoiaaGreatXFns
import Derived.Test.YtgnpojenbefoiaaGreatProg
import Derived.Test.YtgnpojenbefoiaaGreatXShelf
namespace Gx
open Go Gd Go.Proofs
set_option linter.unusedVariables false
noncomputable section
def tab:Tab:=[
 ⟨1,.func ⟨[]⟩ ⟨[]⟩ false,.nilFunc,1,8⟩,
 ⟨2,.int .i64,.int .i64 0,1,8⟩,
 ⟨3,.int .i64,.int .i64 0,1,8⟩,
 ⟨4,.bool,.bool false,1,1⟩,
 ⟨5,.int .u8,.int .u8 0,1,1⟩,
 ⟨9,.string,Yu [],1,16⟩,
 ⟨22,.slice 145,.slice none 0 0,1,24⟩,
 ⟨23,.slice 87,.slice none 0 0,1,24⟩,
 ⟨24,.slice 105,.slice none 0 0,1,24⟩,
 ⟨26,.struct ⟨[⟨"Buckets",22,0,false, "", "",0⟩,⟨"Wallets",23,1,false, "", "",24⟩,⟨"Counters",24,2,false, "", "",48⟩]⟩,.agg ⟨[.slice none 0 0,.slice none 0 0,.slice none 0 0]⟩,3,72⟩,
 ⟨27,.slice 39,.slice none 0 0,1,24⟩,
 ⟨29,.slice 153,.slice none 0 0,1,24⟩,
 ⟨31,.struct ⟨[⟨"Kind",3,0,false, "", "",0⟩,⟨"Zone",9,1,false, "", "",8⟩,⟨"Band",9,2,false, "", "",24⟩,⟨"Setup",3,3,false, "", "",40⟩,⟨"Steps",29,4,false, "", "",48⟩]⟩,.agg ⟨[.int .i64 0,Yu [],Yu [],.int .i64 0,.slice none 0 0]⟩,5,72⟩,
 ⟨33,.struct ⟨[⟨"Account",3,0,false, "", "",0⟩,⟨"Sub",3,1,false, "", "",8⟩,⟨"Kind",3,2,false, "", "",16⟩,⟨"Zone",9,3,false, "", "",24⟩,⟨"Plan",9,4,false, "", "",40⟩,⟨"Version",3,5,false, "", "",56⟩,⟨"Rate",31,6,false, "", "",64⟩,⟨"Free",3,11,false, "", "",136⟩,⟨"Paid",3,12,false, "", "",144⟩]⟩,.agg ⟨[.int .i64 0,.int .i64 0,.int .i64 0,Yu [],Yu [],.int .i64 0,.int .i64 0,Yu [],Yu [],.int .i64 0,.slice none 0 0,.int .i64 0,.int .i64 0]⟩,13,152⟩,
 ⟨34,.slice 91,.slice none 0 0,1,24⟩,
 ⟨35,.int .i64,.int .i64 0,1,8⟩,
 ⟨37,.struct ⟨[⟨"Session",3,0,false, "", "",0⟩,⟨"Seq",3,1,false, "", "",8⟩,⟨"Granted",3,2,false, "", "",16⟩,⟨"Until",3,3,false, "", "",24⟩,⟨"Err",35,4,false, "", "",32⟩]⟩,.agg ⟨[.int .i64 0,.int .i64 0,.int .i64 0,.int .i64 0,.int .i64 0]⟩,5,40⟩,
 ⟨39,.struct ⟨[⟨"Id",3,0,false, "", "",0⟩,⟨"Seq",3,1,false, "", "",8⟩,⟨"Start",3,2,false, "", "",16⟩,⟨"Until",3,3,false, "", "",24⟩,⟨"Meter",33,4,false, "", "",32⟩,⟨"Granted",3,17,false, "", "",184⟩,⟨"Takes",34,18,false, "", "",192⟩,⟨"Held",3,19,false, "", "",216⟩,⟨"Spent",3,20,false, "", "",224⟩,⟨"Closed",4,21,false, "", "",232⟩,⟨"Last",37,22,false, "", "",240⟩]⟩,.agg ⟨[.int .i64 0,.int .i64 0,.int .i64 0,.int .i64 0,.int .i64 0,.int .i64 0,.int .i64 0,Yu [],Yu [],.int .i64 0,.int .i64 0,Yu [],Yu [],.int .i64 0,.slice none 0 0,.int .i64 0,.int .i64 0,.int .i64 0,.slice none 0 0,.int .i64 0,.int .i64 0,.bool false,.int .i64 0,.int .i64 0,.int .i64 0,.int .i64 0,.int .i64 0]⟩,27,280⟩,
 ⟨42,.struct ⟨[⟨"Session",3,0,false, "", "",0⟩,⟨"Seq",3,1,false, "", "",8⟩,⟨"Kind",3,2,false, "", "",16⟩,⟨"At",3,3,false, "", "",24⟩,⟨"Sub",3,4,false, "", "",32⟩,⟨"Usage",3,5,false, "", "",40⟩,⟨"B",9,6,false, "", "",48⟩,⟨"Used",3,7,false, "", "",64⟩,⟨"Ask",3,8,false, "", "",72⟩]⟩,.agg ⟨[.int .i64 0,.int .i64 0,.int .i64 0,.int .i64 0,.int .i64 0,.int .i64 0,Yu [],.int .i64 0,.int .i64 0]⟩,9,80⟩,
 ⟨43,.pointer 54,.pointer none,1,8⟩,
 ⟨44,.slice 148,.slice none 0 0,1,24⟩,
 ⟨45,.slice 131,.slice none 0 0,1,24⟩,
 ⟨46,.slice 135,.slice none 0 0,1,24⟩,
 ⟨47,.slice 192,.slice none 0 0,1,24⟩,
 ⟨48,.slice 3,.slice none 0 0,1,24⟩,
 ⟨49,.slice 142,.slice none 0 0,1,24⟩,
 ⟨51,.struct ⟨[⟨"Events",44,0,false, "", "",0⟩,⟨"Tariffs",45,1,false, "", "",24⟩,⟨"Products",46,2,false, "", "",48⟩,⟨"Taxes",47,3,false, "", "",72⟩,⟨"Holidays",48,4,false, "", "",96⟩,⟨"Agreements",49,5,false, "", "",120⟩]⟩,.agg ⟨[.slice none 0 0,.slice none 0 0,.slice none 0 0,.slice none 0 0,.slice none 0 0,.slice none 0 0]⟩,6,144⟩,
 ⟨52,.map 3 39,.map none,1,8⟩,
 ⟨54,.struct ⟨[⟨"book",51,0,false, "", "billing/online",0⟩,⟨"state",26,6,false, "", "billing/online",144⟩,⟨"sessions",52,9,false, "", "billing/online",216⟩]⟩,.agg ⟨[.slice none 0 0,.slice none 0 0,.slice none 0 0,.slice none 0 0,.slice none 0 0,.slice none 0 0,.slice none 0 0,.slice none 0 0,.slice none 0 0,.map none]⟩,10,224⟩,
 ⟨55,.slice 43,.slice none 0 0,1,24⟩,
 ⟨87,.struct ⟨[⟨"Account",3,0,false, "", "",0⟩,⟨"Balance",3,1,false, "", "",8⟩,⟨"Floor",3,2,false, "", "",16⟩,⟨"Held",3,3,false, "", "",24⟩,⟨"Until",3,4,false, "", "",32⟩]⟩,.agg ⟨[.int .i64 0,.int .i64 0,.int .i64 0,.int .i64 0,.int .i64 0]⟩,5,40⟩,
 ⟨89,.map 3 3,.map none,1,8⟩,
 ⟨91,.struct ⟨[⟨"Sub",3,0,false, "", "",0⟩,⟨"Product",9,1,false, "", "",8⟩,⟨"Index",3,2,false, "", "",24⟩,⟨"From",3,3,false, "", "",32⟩,⟨"Units",3,4,false, "", "",40⟩]⟩,.agg ⟨[.int .i64 0,Yu [],.int .i64 0,.int .i64 0,.int .i64 0]⟩,5,48⟩,
 ⟨92,.map 3 4,.map none,1,8⟩,
 ⟨105,.struct ⟨[⟨"Sub",3,0,false, "", "",0⟩,⟨"Kind",3,1,false, "", "",8⟩,⟨"From",3,2,false, "", "",16⟩,⟨"Units",3,3,false, "", "",24⟩,⟨"Spent",3,4,false, "", "",32⟩]⟩,.agg ⟨[.int .i64 0,.int .i64 0,.int .i64 0,.int .i64 0,.int .i64 0]⟩,5,40⟩,
 ⟨126,.slice 204,.slice none 0 0,1,24⟩,
 ⟨127,.slice 151,.slice none 0 0,1,24⟩,
 ⟨128,.slice 31,.slice none 0 0,1,24⟩,
 ⟨129,.slice 212,.slice none 0 0,1,24⟩,
 ⟨131,.struct ⟨[⟨"Name",9,0,false, "", "",0⟩,⟨"From",3,1,false, "", "",16⟩,⟨"Split",4,2,false, "", "",24⟩,⟨"Zones",126,3,false, "", "",32⟩,⟨"Bands",127,4,false, "", "",56⟩,⟨"Rates",128,5,false, "", "",80⟩,⟨"Discounts",129,6,false, "", "",104⟩]⟩,.agg ⟨[Yu [],.int .i64 0,.bool false,.slice none 0 0,.slice none 0 0,.slice none 0 0,.slice none 0 0]⟩,7,128⟩,
 ⟨133,.slice 138,.slice none 0 0,1,24⟩,
 ⟨135,.struct ⟨[⟨"Name",9,0,false, "", "",0⟩,⟨"From",3,1,false, "", "",16⟩,⟨"Fee",3,2,false, "", "",24⟩,⟨"Category",9,3,false, "", "",32⟩,⟨"Prorate",4,4,false, "", "",48⟩,⟨"Bundles",133,5,false, "", "",56⟩]⟩,.agg ⟨[Yu [],.int .i64 0,.int .i64 0,Yu [],.bool false,.slice none 0 0]⟩,6,80⟩,
 ⟨136,.slice 9,.slice none 0 0,1,24⟩,
 ⟨138,.struct ⟨[⟨"Kind",3,0,false, "", "",0⟩,⟨"Zones",136,1,false, "", "",8⟩,⟨"Units",3,2,false, "", "",32⟩,⟨"Rollover",3,3,false, "", "",40⟩,⟨"Priority",3,4,false, "", "",48⟩,⟨"Shared",4,5,false, "", "",56⟩]⟩,.agg ⟨[.int .i64 0,.slice none 0 0,.int .i64 0,.int .i64 0,.int .i64 0,.bool false]⟩,6,64⟩,
 ⟨140,.struct ⟨[⟨"From",3,0,false, "", "",0⟩,⟨"To",3,1,false, "", "",8⟩]⟩,.agg ⟨[.int .i64 0,.int .i64 0]⟩,2,16⟩,
 ⟨142,.struct ⟨[⟨"Partner",3,0,false, "", "",0⟩,⟨"Kind",3,1,false, "", "",8⟩,⟨"Inbound",4,2,false, "", "",16⟩,⟨"Valid",140,3,false, "", "",24⟩,⟨"Steps",29,5,false, "", "",40⟩,⟨"Cap",3,6,false, "", "",64⟩]⟩,.agg ⟨[.int .i64 0,.int .i64 0,.bool false,.int .i64 0,.int .i64 0,.slice none 0 0,.int .i64 0]⟩,7,72⟩,
 ⟨145,.struct ⟨[⟨"Account",3,0,false, "", "",0⟩,⟨"Sub",3,1,false, "", "",8⟩,⟨"Product",9,2,false, "", "",16⟩,⟨"Index",3,3,false, "", "",32⟩,⟨"Kind",3,4,false, "", "",40⟩,⟨"Zones",136,5,false, "", "",48⟩,⟨"Valid",140,6,false, "", "",72⟩,⟨"Units",3,8,false, "", "",88⟩,⟨"Left",3,9,false, "", "",96⟩,⟨"Priority",3,10,false, "", "",104⟩,⟨"Shared",4,11,false, "", "",112⟩]⟩,.agg ⟨[.int .i64 0,.int .i64 0,Yu [],.int .i64 0,.int .i64 0,.slice none 0 0,.int .i64 0,.int .i64 0,.int .i64 0,.int .i64 0,.int .i64 0,.bool false]⟩,12,120⟩,
 ⟨148,.struct ⟨[⟨"At",3,0,false, "", "",0⟩,⟨"Kind",3,1,false, "", "",8⟩,⟨"Account",3,2,false, "", "",16⟩,⟨"Sub",3,3,false, "", "",24⟩,⟨"Number",9,4,false, "", "",32⟩,⟨"Name",9,5,false, "", "",48⟩,⟨"Value",3,6,false, "", "",64⟩]⟩,.agg ⟨[.int .i64 0,.int .i64 0,.int .i64 0,.int .i64 0,Yu [],Yu [],.int .i64 0]⟩,7,72⟩,
 ⟨149,.slice 266,.slice none 0 0,1,24⟩,
 ⟨151,.struct ⟨[⟨"Name",9,0,false, "", "",0⟩,⟨"Slots",149,1,false, "", "",16⟩]⟩,.agg ⟨[Yu [],.slice none 0 0]⟩,2,40⟩,
 ⟨153,.struct ⟨[⟨"Upto",3,0,false, "", "",0⟩,⟨"Quantum",3,1,false, "", "",8⟩,⟨"Price",3,2,false, "", "",16⟩]⟩,.agg ⟨[.int .i64 0,.int .i64 0,.int .i64 0]⟩,3,24⟩,
 ⟨157,.pointer 162,.pointer none,1,8⟩,
 ⟨162,.struct ⟨[⟨"Session",39,0,true, "", "",0⟩,⟨"state",26,27,false, "", "billing/session",280⟩]⟩,.agg ⟨[.int .i64 0,.int .i64 0,.int .i64 0,.int .i64 0,.int .i64 0,.int .i64 0,.int .i64 0,Yu [],Yu [],.int .i64 0,.int .i64 0,Yu [],Yu [],.int .i64 0,.slice none 0 0,.int .i64 0,.int .i64 0,.int .i64 0,.slice none 0 0,.int .i64 0,.int .i64 0,.bool false,.int .i64 0,.int .i64 0,.int .i64 0,.int .i64 0,.int .i64 0,.slice none 0 0,.slice none 0 0,.slice none 0 0]⟩,30,352⟩,
 ⟨168,.struct ⟨[⟨"sub",3,0,false, "", "billing/bucket",0⟩,⟨"product",9,1,false, "", "billing/bucket",8⟩,⟨"index",3,2,false, "", "billing/bucket",24⟩,⟨"from",3,3,false, "", "billing/bucket",32⟩]⟩,.agg ⟨[.int .i64 0,Yu [],.int .i64 0,.int .i64 0]⟩,4,40⟩,
 ⟨177,.func ⟨[116]⟩ ⟨[]⟩ false,.nilFunc,1,8⟩,
 ⟨192,.struct ⟨[⟨"Category",9,0,false, "", "",0⟩,⟨"From",3,1,false, "", "",16⟩,⟨"Points",3,2,false, "", "",24⟩]⟩,.agg ⟨[Yu [],.int .i64 0,.int .i64 0]⟩,3,32⟩,
 ⟨204,.struct ⟨[⟨"Name",9,0,false, "", "",0⟩,⟨"Prefixes",136,1,false, "", "",16⟩]⟩,.agg ⟨[Yu [],.slice none 0 0]⟩,2,40⟩,
 ⟨208,.slice 210,.slice none 0 0,1,24⟩,
 ⟨210,.struct ⟨[⟨"Op",3,0,false, "", "",0⟩,⟨"Num",3,1,false, "", "",8⟩,⟨"Text",9,2,false, "", "",16⟩,⟨"Args",208,3,false, "", "",32⟩]⟩,.agg ⟨[.int .i64 0,.int .i64 0,Yu [],.slice none 0 0]⟩,4,56⟩,
 ⟨212,.struct ⟨[⟨"Name",9,0,false, "", "",0⟩,⟨"When",210,1,false, "", "",16⟩,⟨"Points",3,5,false, "", "",72⟩]⟩,.agg ⟨[Yu [],.int .i64 0,.int .i64 0,Yu [],.slice none 0 0,.int .i64 0]⟩,6,80⟩,
 ⟨218,.struct ⟨[⟨"Period",140,0,false, "", "",0⟩,⟨"Plan",9,2,false, "", "",16⟩,⟨"Products",136,3,false, "", "",32⟩,⟨"Suspended",4,4,false, "", "",56⟩,⟨"Family",4,5,false, "", "",57⟩]⟩,.agg ⟨[.int .i64 0,.int .i64 0,Yu [],.slice none 0 0,.bool false,.bool false]⟩,6,64⟩,
 ⟨222,.struct ⟨[⟨"Id",3,0,false, "", "",0⟩,⟨"Account",3,1,false, "", "",8⟩,⟨"Since",3,2,false, "", "",16⟩,⟨"Plan",9,3,false, "", "",24⟩,⟨"Numbers",136,4,false, "", "",40⟩,⟨"Products",136,5,false, "", "",64⟩,⟨"Suspended",4,6,false, "", "",88⟩,⟨"Family",4,7,false, "", "",89⟩]⟩,.agg ⟨[.int .i64 0,.int .i64 0,.int .i64 0,Yu [],.slice none 0 0,.slice none 0 0,.bool false,.bool false]⟩,8,96⟩,
 ⟨239,.struct ⟨[⟨"Id",3,0,false, "", "",0⟩,⟨"Since",3,1,false, "", "",8⟩,⟨"Anchor",3,2,false, "", "",16⟩,⟨"Prepaid",4,3,false, "", "",24⟩,⟨"Closed",4,4,false, "", "",25⟩,⟨"Subs",48,5,false, "", "",32⟩]⟩,.agg ⟨[.int .i64 0,.int .i64 0,.int .i64 0,.bool false,.bool false,.slice none 0 0]⟩,6,56⟩,
 ⟨249,.slice 239,.slice none 0 0,1,24⟩,
 ⟨250,.slice 222,.slice none 0 0,1,24⟩,
 ⟨266,.struct ⟨[⟨"Days",3,0,false, "", "",0⟩,⟨"From",3,1,false, "", "",8⟩,⟨"To",3,2,false, "", "",16⟩]⟩,.agg ⟨[.int .i64 0,.int .i64 0,.int .i64 0]⟩,3,24⟩,
 ⟨281,.slice 218,.slice none 0 0,1,24⟩,
 ⟨285,.struct ⟨[⟨"Accounts",249,0,false, "", "",0⟩,⟨"Subs",250,1,false, "", "",24⟩]⟩,.agg ⟨[.slice none 0 0,.slice none 0 0]⟩,2,48⟩,
 ⟨287,.map 9 9,.map none,1,8⟩,
 ⟨295,.pointer 298,.pointer none,1,8⟩,
 ⟨296,.map 300 4,.map none,1,8⟩,
 ⟨298,.struct ⟨[⟨"list",22,0,false, "", "billing/bundle",0⟩,⟨"has",296,1,false, "", "billing/bundle",24⟩]⟩,.agg ⟨[.slice none 0 0,.map none]⟩,2,32⟩,
 ⟨300,.struct ⟨[⟨"sub",3,0,false, "", "billing/bundle",0⟩,⟨"product",9,1,false, "", "billing/bundle",8⟩,⟨"index",3,2,false, "", "billing/bundle",24⟩,⟨"from",3,3,false, "", "billing/bundle",32⟩]⟩,.agg ⟨[.int .i64 0,Yu [],.int .i64 0,.int .i64 0]⟩,4,40⟩,
 ⟨303,.slice 308,.slice none 0 0,1,24⟩,
 ⟨305,.slice 140,.slice none 0 0,1,24⟩,
 ⟨308,.struct ⟨[⟨"account",3,0,false, "", "billing/bundle",0⟩,⟨"sub",3,1,false, "", "billing/bundle",8⟩,⟨"product",9,2,false, "", "billing/bundle",16⟩,⟨"active",305,3,false, "", "billing/bundle",32⟩]⟩,.agg ⟨[.int .i64 0,.int .i64 0,Yu [],.slice none 0 0]⟩,4,56⟩,
 ⟨309,.slice 312,.slice none 0 0,1,24⟩,
 ⟨312,.struct ⟨[⟨"bucket",145,0,false, "", "billing/bundle",0⟩,⟨"rollover",3,12,false, "", "billing/bundle",120⟩]⟩,.agg ⟨[.int .i64 0,.int .i64 0,Yu [],.int .i64 0,.int .i64 0,.slice none 0 0,.int .i64 0,.int .i64 0,.int .i64 0,.int .i64 0,.int .i64 0,.bool false,.int .i64 0]⟩,13,128⟩,
 ⟨321,.struct ⟨[⟨"Meter",33,0,true, "", "",0⟩]⟩,.agg ⟨[.int .i64 0,.int .i64 0,.int .i64 0,Yu [],Yu [],.int .i64 0,.int .i64 0,Yu [],Yu [],.int .i64 0,.slice none 0 0,.int .i64 0,.int .i64 0]⟩,13,152⟩,
 ⟨329,.func ⟨[87]⟩ ⟨[4]⟩ false,.nilFunc,1,8⟩,
 ⟨334,.int .u64,.int .u64 0,1,8⟩,
 ⟨359,.slice 362,.slice none 0 0,1,24⟩,
 ⟨362,.struct ⟨[⟨"at",3,0,false, "", "billing/subscribe",0⟩,⟨"s",222,1,false, "", "billing/subscribe",8⟩]⟩,.agg ⟨[.int .i64 0,.int .i64 0,.int .i64 0,.int .i64 0,Yu [],.slice none 0 0,.slice none 0 0,.bool false,.bool false]⟩,9,104⟩,
 ⟨365,.func ⟨[362,362]⟩ ⟨[4]⟩ false,.nilFunc,1,8⟩,
 ⟨366,.func ⟨[362,362]⟩ ⟨[362]⟩ false,.nilFunc,1,8⟩,
 ⟨367,.pointer 430,.pointer none,1,8⟩,
 ⟨374,.func ⟨[204]⟩ ⟨[4]⟩ false,.nilFunc,1,8⟩,
 ⟨376,.func ⟨[151]⟩ ⟨[4]⟩ false,.nilFunc,1,8⟩,
 ⟨378,.func ⟨[266]⟩ ⟨[4]⟩ false,.nilFunc,1,8⟩,
 ⟨381,.map 9 92,.map none,1,8⟩,
 ⟨394,.int .i64,.int .i64 0,1,8⟩,
 ⟨401,.int .u32,.int .u32 0,1,4⟩,
 ⟨403,.int .u64,.int .u64 0,1,8⟩,
 ⟨422,.array 2 3,.agg ⟨[.int .i64 0,.int .i64 0]⟩,2,16⟩,
 ⟨426,.map 3 239,.map none,1,8⟩,
 ⟨427,.map 3 222,.map none,1,8⟩,
 ⟨428,.map 9 3,.map none,1,8⟩,
 ⟨430,.struct ⟨[⟨"accounts",426,0,false, "", "billing/customer",0⟩,⟨"subs",427,1,false, "", "billing/customer",8⟩,⟨"ever",92,2,false, "", "billing/customer",16⟩,⟨"owners",428,3,false, "", "billing/customer",24⟩,⟨"live",89,4,false, "", "billing/customer",32⟩,⟨"opened",48,5,false, "", "billing/customer",40⟩,⟨"added",48,6,false, "", "billing/customer",64⟩]⟩,.agg ⟨[.map none,.map none,.map none,.map none,.map none,.slice none 0 0,.slice none 0 0]⟩,7,88⟩,
 ⟨432,.map 3 48,.map none,1,8⟩,
 ⟨439,.func ⟨[4,4]⟩ ⟨[4]⟩ false,.nilFunc,1,8⟩,
 ⟨468,.slice 470,.slice none 0 0,1,24⟩,
 ⟨470,.struct ⟨[⟨"at",3,0,false, "", "billing/interval",0⟩,⟨"list",3,1,false, "", "billing/interval",8⟩,⟨"by",3,2,false, "", "billing/interval",16⟩]⟩,.agg ⟨[.int .i64 0,.int .i64 0,.int .i64 0]⟩,3,24⟩,
 ⟨473,.func ⟨[470,470]⟩ ⟨[3]⟩ false,.nilFunc,1,8⟩]
def tx:TX:=⟨tab,[(1,.ref),(2,(.int .i64)),(3,(.int .i64)),(4,.bool),(5,(.int .u8)),(9,.str),(22,(.sl Jr)),(23,(.sl Yw)),(24,(.sl Yr)),(26,Qk),(27,(.sl Qj)),(29,(.sl Y4)),(31,Uf),(33,Wx),(34,(.sl X4)),(35,(.int .i64)),(37,Yd),(39,Qj),(42,J5),(43,.ref),(44,(.sl Qz)),(45,(.sl Jd)),(46,(.sl Jq)),(47,(.sl Vj)),(48,(.sl (.int .i64))),(49,(.sl Jc)),(51,Ya),(52,.ref),(54,Rh),(87,Yw),(89,.ref),(91,X4),(92,.ref),(105,Yr),(126,(.sl Wy)),(127,(.sl Y5)),(128,(.sl Uf)),(129,(.sl Xi)),(131,Jd),(133,(.sl Ch)),(135,Jq),(136,(.sl .str)),(138,Ch),(140,Y8),(142,Jc),(145,Jr),(148,Qz),(149,(.sl K6)),(151,Y5),(153,Y4),(157,.ref),(162,Vn),(168,L2),(177,.ref),(192,Vj),(204,Wy),(208,(.sl L1)),(210,L1),(212,Xi),(218,Kc),(222,Vk),(239,Yj),(249,(.sl Yj)),(250,(.sl Vk)),(266,K6),(281,(.sl Kc)),(285,Ri),(287,.ref),(295,.ref),(296,.ref),(298,Sg),(300,L3),(303,(.sl Gy)),(305,(.sl Y8)),(308,Gy),(309,(.sl Bc)),(312,Bc),(321,Xj),(329,.ref),(334,(.int .u64)),(359,(.sl Yo)),(362,Yo),(365,.ref),(366,.ref),(367,.ref),(374,.ref),(376,.ref),(378,.ref),(381,.ref),(394,(.int .i64)),(401,(.int .u32)),(403,(.int .u64)),(422,(.arr 2 (.int .i64))),(426,.ref),(427,.ref),(428,.ref),(430,Ng),(432,.ref),(439,.ref),(468,(.sl Vp)),(470,Vp),(473,.ref)],[]⟩
theorem Qm:Tryz.prog.follows .mixedOrders=true:=by kernel_rfl
theorem Qn:Qy Tryz.prog tab:=⟨⟨⟨by kernel_rfl,by kernel_rfl⟩,by kernel_rfl⟩,⟨⟨by kernel_rfl,by kernel_rfl⟩,by kernel_rfl⟩,⟨⟨by kernel_rfl,by kernel_rfl⟩,by kernel_rfl⟩,⟨⟨by kernel_rfl,by kernel_rfl⟩,by kernel_rfl⟩,⟨⟨by kernel_rfl,by kernel_rfl⟩,by kernel_rfl⟩,⟨⟨by kernel_rfl,by kernel_rfl⟩,by kernel_rfl⟩,⟨⟨by kernel_rfl,by kernel_rfl⟩,by kernel_rfl⟩,⟨⟨by kernel_rfl,by kernel_rfl⟩,by kernel_rfl⟩,⟨⟨by kernel_rfl,by kernel_rfl⟩,by kernel_rfl⟩,⟨⟨by kernel_rfl,by kernel_rfl⟩,by kernel_rfl⟩,⟨⟨by kernel_rfl,by kernel_rfl⟩,by kernel_rfl⟩,⟨⟨by kernel_rfl,by kernel_rfl⟩,by kernel_rfl⟩,⟨⟨by kernel_rfl,by kernel_rfl⟩,by kernel_rfl⟩,⟨⟨by kernel_rfl,by kernel_rfl⟩,by kernel_rfl⟩,⟨⟨by kernel_rfl,by kernel_rfl⟩,by kernel_rfl⟩,⟨⟨by kernel_rfl,by kernel_rfl⟩,by kernel_rfl⟩,⟨⟨by kernel_rfl,by kernel_rfl⟩,by kernel_rfl⟩,⟨⟨by kernel_rfl,by kernel_rfl⟩,by kernel_rfl⟩,⟨⟨by kernel_rfl,by kernel_rfl⟩,by kernel_rfl⟩,⟨⟨by kernel_rfl,by kernel_rfl⟩,by kernel_rfl⟩,⟨⟨by kernel_rfl,by kernel_rfl⟩,by kernel_rfl⟩,⟨⟨by kernel_rfl,by kernel_rfl⟩,by kernel_rfl⟩,⟨⟨by kernel_rfl,by kernel_rfl⟩,by kernel_rfl⟩,⟨⟨by kernel_rfl,by kernel_rfl⟩,by kernel_rfl⟩,⟨⟨by kernel_rfl,by kernel_rfl⟩,by kernel_rfl⟩,⟨⟨by kernel_rfl,by kernel_rfl⟩,by kernel_rfl⟩,⟨⟨by kernel_rfl,by kernel_rfl⟩,by kernel_rfl⟩,⟨⟨by kernel_rfl,by kernel_rfl⟩,by kernel_rfl⟩,⟨⟨by kernel_rfl,by kernel_rfl⟩,by kernel_rfl⟩,⟨⟨by kernel_rfl,by kernel_rfl⟩,by kernel_rfl⟩,⟨⟨by kernel_rfl,by kernel_rfl⟩,by kernel_rfl⟩,⟨⟨by kernel_rfl,by kernel_rfl⟩,by kernel_rfl⟩,⟨⟨by kernel_rfl,by kernel_rfl⟩,by kernel_rfl⟩,⟨⟨by kernel_rfl,by kernel_rfl⟩,by kernel_rfl⟩,⟨⟨by kernel_rfl,by kernel_rfl⟩,by kernel_rfl⟩,⟨⟨by kernel_rfl,by kernel_rfl⟩,by kernel_rfl⟩,⟨⟨by kernel_rfl,by kernel_rfl⟩,by kernel_rfl⟩,⟨⟨by kernel_rfl,by kernel_rfl⟩,by kernel_rfl⟩,⟨⟨by kernel_rfl,by kernel_rfl⟩,by kernel_rfl⟩,⟨⟨by kernel_rfl,by kernel_rfl⟩,by kernel_rfl⟩,⟨⟨by kernel_rfl,by kernel_rfl⟩,by kernel_rfl⟩,⟨⟨by kernel_rfl,by kernel_rfl⟩,by kernel_rfl⟩,⟨⟨by kernel_rfl,by kernel_rfl⟩,by kernel_rfl⟩,⟨⟨by kernel_rfl,by kernel_rfl⟩,by kernel_rfl⟩,⟨⟨by kernel_rfl,by kernel_rfl⟩,by kernel_rfl⟩,⟨⟨by kernel_rfl,by kernel_rfl⟩,by kernel_rfl⟩,⟨⟨by kernel_rfl,by kernel_rfl⟩,by kernel_rfl⟩,⟨⟨by kernel_rfl,by kernel_rfl⟩,by kernel_rfl⟩,⟨⟨by kernel_rfl,by kernel_rfl⟩,by kernel_rfl⟩,⟨⟨by kernel_rfl,by kernel_rfl⟩,by kernel_rfl⟩,⟨⟨by kernel_rfl,by kernel_rfl⟩,by kernel_rfl⟩,⟨⟨by kernel_rfl,by kernel_rfl⟩,by kernel_rfl⟩,⟨⟨by kernel_rfl,by kernel_rfl⟩,by kernel_rfl⟩,⟨⟨by kernel_rfl,by kernel_rfl⟩,by kernel_rfl⟩,⟨⟨by kernel_rfl,by kernel_rfl⟩,by kernel_rfl⟩,⟨⟨by kernel_rfl,by kernel_rfl⟩,by kernel_rfl⟩,⟨⟨by kernel_rfl,by kernel_rfl⟩,by kernel_rfl⟩,⟨⟨by kernel_rfl,by kernel_rfl⟩,by kernel_rfl⟩,⟨⟨by kernel_rfl,by kernel_rfl⟩,by kernel_rfl⟩,⟨⟨by kernel_rfl,by kernel_rfl⟩,by kernel_rfl⟩,⟨⟨by kernel_rfl,by kernel_rfl⟩,by kernel_rfl⟩,⟨⟨by kernel_rfl,by kernel_rfl⟩,by kernel_rfl⟩,⟨⟨by kernel_rfl,by kernel_rfl⟩,by kernel_rfl⟩,⟨⟨by kernel_rfl,by kernel_rfl⟩,by kernel_rfl⟩,⟨⟨by kernel_rfl,by kernel_rfl⟩,by kernel_rfl⟩,⟨⟨by kernel_rfl,by kernel_rfl⟩,by kernel_rfl⟩,⟨⟨by kernel_rfl,by kernel_rfl⟩,by kernel_rfl⟩,⟨⟨by kernel_rfl,by kernel_rfl⟩,by kernel_rfl⟩,⟨⟨by kernel_rfl,by kernel_rfl⟩,by kernel_rfl⟩,⟨⟨by kernel_rfl,by kernel_rfl⟩,by kernel_rfl⟩,⟨⟨by kernel_rfl,by kernel_rfl⟩,by kernel_rfl⟩,⟨⟨by kernel_rfl,by kernel_rfl⟩,by kernel_rfl⟩,⟨⟨by kernel_rfl,by kernel_rfl⟩,by kernel_rfl⟩,⟨⟨by kernel_rfl,by kernel_rfl⟩,by kernel_rfl⟩,⟨⟨by kernel_rfl,by kernel_rfl⟩,by kernel_rfl⟩,⟨⟨by kernel_rfl,by kernel_rfl⟩,by kernel_rfl⟩,⟨⟨by kernel_rfl,by kernel_rfl⟩,by kernel_rfl⟩,⟨⟨by kernel_rfl,by kernel_rfl⟩,by kernel_rfl⟩,⟨⟨by kernel_rfl,by kernel_rfl⟩,by kernel_rfl⟩,⟨⟨by kernel_rfl,by kernel_rfl⟩,by kernel_rfl⟩,⟨⟨by kernel_rfl,by kernel_rfl⟩,by kernel_rfl⟩,⟨⟨by kernel_rfl,by kernel_rfl⟩,by kernel_rfl⟩,⟨⟨by kernel_rfl,by kernel_rfl⟩,by kernel_rfl⟩,⟨⟨by kernel_rfl,by kernel_rfl⟩,by kernel_rfl⟩,⟨⟨by kernel_rfl,by kernel_rfl⟩,by kernel_rfl⟩,⟨⟨by kernel_rfl,by kernel_rfl⟩,by kernel_rfl⟩,⟨⟨by kernel_rfl,by kernel_rfl⟩,by kernel_rfl⟩,⟨⟨by kernel_rfl,by kernel_rfl⟩,by kernel_rfl⟩,⟨⟨by kernel_rfl,by kernel_rfl⟩,by kernel_rfl⟩,⟨⟨by kernel_rfl,by kernel_rfl⟩,by kernel_rfl⟩,⟨⟨by kernel_rfl,by kernel_rfl⟩,by kernel_rfl⟩,⟨⟨by kernel_rfl,by kernel_rfl⟩,by kernel_rfl⟩,⟨⟨by kernel_rfl,by kernel_rfl⟩,by kernel_rfl⟩,⟨⟨by kernel_rfl,by kernel_rfl⟩,by kernel_rfl⟩,⟨⟨by kernel_rfl,by kernel_rfl⟩,by kernel_rfl⟩,⟨⟨by kernel_rfl,by kernel_rfl⟩,by kernel_rfl⟩,⟨⟨by kernel_rfl,by kernel_rfl⟩,by kernel_rfl⟩,⟨⟨by kernel_rfl,by kernel_rfl⟩,by kernel_rfl⟩,⟨⟨by kernel_rfl,by kernel_rfl⟩,by kernel_rfl⟩,⟨⟨by kernel_rfl,by kernel_rfl⟩,by kernel_rfl⟩,⟨⟨by kernel_rfl,by kernel_rfl⟩,by kernel_rfl⟩,⟨⟨by kernel_rfl,by kernel_rfl⟩,by kernel_rfl⟩,⟨⟨by kernel_rfl,by kernel_rfl⟩,by kernel_rfl⟩,trivial⟩
def Q55:An:=.t 1 (.two (.reg (.n 3 (.nl 5 (.n 2 .done)))) (.nil))
def Q56:Shp:=⟨[(0,.np)],[]⟩
def Qvu:Shp:=⟨[(0,.d .bool)],[]⟩
def Q57:An:=.t 2 (.two (.two (.reg (.n 1 (.call 0 (.n 1 .done)))) (.two (.t 2 (.nil)) (.nil))) (.two (.t 8 (.two (.gh (.tl .done) .nil) (.nil))) (.nil)))
def Q58:Shp:=⟨[(0,.np),(1,.d J5)],[]⟩
def Qvv:Shp:=⟨[(0,.d Yd)],[]⟩
def Q59:An:=.t 1 (.two (.two (.reg (.n 1 (.call 0 (.n 1 .done)))) (.two (.t 1 (.nil)) (.nil))) (.nil))
def Q6a:Shp:=⟨[(0,.np),(1,.d .i)],[]⟩
def Qvw:Shp:=⟨[(0,.ns)],[]⟩
def Q6b:An:=.t 1 (.two (.two (.reg (.n 1 (.call 0 (.n 1 .done)))) (.two (.t 2 (.nil)) (.gh (.tl .done) .nil))) (.nil))
def Q6c:Shp:=⟨[(0,.np)],[]⟩
def Qvx:Shp:=⟨[(0,.d Qk)],[]⟩
def Q6d:An:=.t 1 (.two (.t 5 (.two (.gh (.tl .done) .nil) (.nil))) (.two (.t 1 (.un (.lp [0,5] [] ⟨[],[]⟩ [(.x 0,⟨[],[]⟩)] (.two (.t 4 (.two (.gh (.tl .done) .nil) (.nil))) (.nil))))) (.t 1 (.nil))))
def Q6e:Shp:=⟨[(0,.d (.sl Jr)),(1,.d (.sl Jr))],[]⟩
def Qvy:Shp:=⟨[(0,.d .bool)],[]⟩
def Q6f:An:=.t 3 (.two (.two (.reg (.n 4 (.call 0 (.n 19 .done)))) (.two (.gh (.tl .done) .nil) (.nil))) (.two (.t 1 (.un (.lp [2,5] [2,3] ⟨[],[]⟩ [(.x 0,⟨[],[]⟩)] (.two (.t 5 (.two (.gh (.tl .done) .nil) (.nil))) (.nil))))) (.two (.t 1 (.un (.lp [2,6] [2,3] ⟨[],[]⟩ [(.x 2,⟨[],[]⟩)] (.two (.t 5 (.two (.gh (.tl .done) .nil) (.nil))) (.nil))))) (.t 1 (.nil)))))
def Q6g:Shp:=⟨[(0,.d Qk),(1,.d Qk)],[]⟩
def Qvz:Shp:=⟨[(0,.d .bool)],[]⟩
def Q6h:An:=.t 1 (.two (.two (.reg (.n 1 (.call 0 (.n 1 .done)))) (.two (.t 1 (.nil)) (.nil))) (.nil))
def Q6i:Shp:=⟨[(0,.np)],[]⟩
def Qv0:Shp:=⟨[(0,.ns)],[]⟩
def Q6j:An:=.t 1 (.two (.two (.reg (.n 1 (.call 0 (.n 1 .done)))) (.two (.t 1 (.nil)) (.nil))) (.nil))
def Q6k:Shp:=⟨[(0,.np),(1,.d .i)],[]⟩
def Qv1:Shp:=⟨[(0,.d .i)],[]⟩
def Q6l:An:=.t 1 (.two (.two (.reg (.n 1 (.call 0 (.n 1 .done)))) (.two (.t 1 (.nil)) (.gh (.tl .done) .nil))) (.nil))
def Q6m:Shp:=⟨[(0,.np)],[]⟩
def Qv2:Shp:=⟨[(0,.np)],[]⟩
def Qmb:An:=.t 1 (.two (.reg (.n 3 (.nl 5 (.n 2 .done)))) (.nil))
def Qmc:Shp:=⟨[(0,.p 5000 [])],[(5000,.var 54 (.ag (.cons (.ag (.cons (.s 5001) (.cons (.s 5002) (.cons (.s 5003) (.cons (.s 5004) (.cons (.s 5005) (.cons (.s 5006) (.nil)))))))) (.cons (.ag (.cons (.s 5007) (.cons (.s 5008) (.cons (.s 5009) (.nil))))) (.cons (.nm) (.nil)))))),(5001,.row 148 Qz),(5002,.row 131 Jd),(5003,.row 135 Jq),(5004,.row 192 Vj),(5005,.row 3 .i),(5006,.row 142 Jc),(5007,.row 145 Jr),(5008,.row 87 Yw),(5009,.row 105 Yr)]⟩
def Qg2:Shp:=⟨[(0,.d .bool)],[]⟩
def Qmd:An:=.t 1 (.two (.two (.reg (.n 1 (.call 0 (.n 1 .done)))) (.two (.t 1 (.nil)) (.nil))) (.nil))
def Qme:Shp:=⟨[(0,.p 5000 []),(1,.d .i)],[(5000,.var 54 (.ag (.cons (.ag (.cons (.s 5001) (.cons (.s 5002) (.cons (.s 5003) (.cons (.s 5004) (.cons (.s 5005) (.cons (.s 5006) (.nil)))))))) (.cons (.ag (.cons (.s 5007) (.cons (.s 5008) (.cons (.s 5009) (.nil))))) (.cons (.nm) (.nil)))))),(5001,.row 148 Qz),(5002,.row 131 Jd),(5003,.row 135 Jq),(5004,.row 192 Vj),(5005,.row 3 .i),(5006,.row 142 Jc),(5007,.row 145 Jr),(5008,.row 87 Yw),(5009,.row 105 Yr)]⟩
def Qg3:Shp:=⟨[(0,.ns)],[]⟩
def Qmf:An:=.t 1 (.two (.two (.reg (.n 1 (.call 0 (.n 1 .done)))) (.two (.t 2 (.nil)) (.gh (.tl .done) .nil))) (.nil))
def Qmg:Shp:=⟨[(0,.p 5000 [])],[(5000,.var 54 (.ag (.cons (.ag (.cons (.s 5001) (.cons (.s 5002) (.cons (.s 5003) (.cons (.s 5004) (.cons (.s 5005) (.cons (.s 5006) (.nil)))))))) (.cons (.ag (.cons (.s 5007) (.cons (.s 5008) (.cons (.s 5009) (.nil))))) (.cons (.nm) (.nil)))))),(5001,.row 148 Qz),(5002,.row 131 Jd),(5003,.row 135 Jq),(5004,.row 192 Vj),(5005,.row 3 .i),(5006,.row 142 Jc),(5007,.row 145 Jr),(5008,.row 87 Yw),(5009,.row 105 Yr)]⟩
def Qg4:Shp:=⟨[(0,.d Qk)],[]⟩
def Qmh:An:=.t 1 (.two (.two (.reg (.n 1 (.call 0 (.n 1 .done)))) (.two (.t 1 (.nil)) (.nil))) (.nil))
def Qmi:Shp:=⟨[(0,.p 5000 [])],[(5000,.var 54 (.ag (.cons (.ag (.cons (.s 5001) (.cons (.s 5002) (.cons (.s 5003) (.cons (.s 5004) (.cons (.s 5005) (.cons (.s 5006) (.nil)))))))) (.cons (.ag (.cons (.s 5007) (.cons (.s 5008) (.cons (.s 5009) (.nil))))) (.cons (.nm) (.nil)))))),(5001,.row 148 Qz),(5002,.row 131 Jd),(5003,.row 135 Jq),(5004,.row 192 Vj),(5005,.row 3 .i),(5006,.row 142 Jc),(5007,.row 145 Jr),(5008,.row 87 Yw),(5009,.row 105 Yr)]⟩
def Qg5:Shp:=⟨[(0,.ns)],[]⟩
def Qmj:An:=.t 1 (.two (.two (.reg (.n 1 (.call 0 (.n 1 .done)))) (.two (.t 1 (.nil)) (.nil))) (.nil))
def Qmk:Shp:=⟨[(0,.p 5000 []),(1,.d .i)],[(5000,.var 54 (.ag (.cons (.ag (.cons (.s 5001) (.cons (.s 5002) (.cons (.s 5003) (.cons (.s 5004) (.cons (.s 5005) (.cons (.s 5006) (.nil)))))))) (.cons (.ag (.cons (.s 5007) (.cons (.s 5008) (.cons (.s 5009) (.nil))))) (.cons (.nm) (.nil)))))),(5001,.row 148 Qz),(5002,.row 131 Jd),(5003,.row 135 Jq),(5004,.row 192 Vj),(5005,.row 3 .i),(5006,.row 142 Jc),(5007,.row 145 Jr),(5008,.row 87 Yw),(5009,.row 105 Yr)]⟩
def Qg6:Shp:=⟨[(0,.d .i)],[]⟩
def Qml:An:=.t 1 (.two (.two (.reg (.n 1 (.call 0 (.n 1 .done)))) (.two (.t 1 (.nil)) (.gh (.tl .done) .nil))) (.nil))
def Qmm:Shp:=⟨[(0,.p 5000 [])],[(5000,.var 54 (.ag (.cons (.ag (.cons (.s 5001) (.cons (.s 5002) (.cons (.s 5003) (.cons (.s 5004) (.cons (.s 5005) (.cons (.s 5006) (.nil)))))))) (.cons (.ag (.cons (.s 5007) (.cons (.s 5008) (.cons (.s 5009) (.nil))))) (.cons (.nm) (.nil)))))),(5001,.row 148 Qz),(5002,.row 131 Jd),(5003,.row 135 Jq),(5004,.row 192 Vj),(5005,.row 3 .i),(5006,.row 142 Jc),(5007,.row 145 Jr),(5008,.row 87 Yw),(5009,.row 105 Yr)]⟩
def Qg7:Shp:=⟨[(0,.np)],[]⟩
def Qmn:An:=.t 2 (.two (.two (.reg (.n 1 (.call 0 (.n 1 .done)))) (.two (.t 2 (.nil)) (.nil))) (.two (.t 8 (.two (.gh (.tl .done) .nil) (.nil))) (.nil)))
def Qmo:Shp:=⟨[(0,.p 5000 []),(1,.d J5)],[(5000,.var 54 (.ag (.cons (.ag (.cons (.s 5001) (.cons (.s 5002) (.cons (.s 5003) (.cons (.s 5004) (.cons (.s 5005) (.cons (.s 5006) (.nil)))))))) (.cons (.ag (.cons (.s 5007) (.cons (.s 5008) (.cons (.s 5009) (.nil))))) (.cons (.nm) (.nil)))))),(5001,.row 148 Qz),(5002,.row 131 Jd),(5003,.row 135 Jq),(5004,.row 192 Vj),(5005,.row 3 .i),(5006,.row 142 Jc),(5007,.row 145 Jr),(5008,.row 87 Yw),(5009,.row 105 Yr)]⟩
def Qg8:Shp:=⟨[(0,.d Yd)],[]⟩
def Q6n:An:=.t 1 (.t 13 (.nil))
def Q6o:Shp:=⟨[],[]⟩
def Qv3:Shp:=⟨[(0,.d Ya)],[]⟩
def Q6p:An:=.t 2 (.two (.dc 13 [7,8,9,10,11,12,13,14,15,16,17,18,19] [1] [] (.op ⟨.nl 1 .done,[],[],[],[1]⟩ (.op ⟨.nl 1 .done,[],[1],[],[]⟩ (.op ⟨.call 0 (.done),[],[],[10900],[10900]⟩ (.op ⟨.nl 1 .done,[],[],[],[1]⟩ (.op ⟨.nl 1 .done,[],[1],[],[]⟩ (.op ⟨.call 1 (.done),[],[],[11200],[11200]⟩ (.op ⟨.nl 1 .done,[],[],[],[1]⟩ (.op ⟨.nl 1 .done,[],[1],[],[]⟩ (.op ⟨.call 2 (.done),[],[],[11500],[11500]⟩ (.op ⟨.nl 1 .done,[],[],[],[1]⟩ (.op ⟨.nl 1 .done,[],[1],[],[]⟩ (.op ⟨.call 3 (.done),[],[],[11800],[11800]⟩ (.op ⟨.nl 1 .done,[],[],[],[1]⟩ (.tl (.n 7 .done)))))))))))))))) (.two (.t 4 (.un (.lp [1,2,25,26] [1,2,10900,11200,11500,11800] ⟨[],[]⟩ [(.x 0,⟨[],[]⟩)] (.t 1 (.two (.two (.gh (.tl .done) .nil) (.nil)) (.nil)))))) (.two (.t 4 (.un (.lp [1,2,44] [1,2,10900,11500,11800] ⟨[(45,.d .i)],[(11200,.row 151 Y5)]⟩ [(.x 2,⟨[],[(11200,.row 151 Y5)]⟩)] (.t 1 (.two (.two (.nil) (.nil)) (.two (.un (.t 2 (.dm 10 [48,49,50,51,52,53,54,55,56,57] [] (.n 9 (.call 4 (.tl (.n 3 .done))))))) (.reg (.n 2 .done)))))))) (.two (.t 4 (.un (.lp [1,2,63] [1,2,10900,11200,11800] ⟨[(64,.d .i)],[(11500,.row 31 Uf)]⟩ [(.x 4,⟨[],[(11500,.row 31 Uf)]⟩)] (.t 1 (.two (.two (.nil) (.nil)) (.two (.un (.t 2 (.dm 10 [67,68,69,70,71,72,73,74,75,76] [] (.n 9 (.call 5 (.tl (.n 3 .done))))))) (.reg (.n 2 .done)))))))) (.two (.t 4 (.un (.lp [1,2,82,83] [1,2,10900,11200,11500,11800] ⟨[],[]⟩ [(.x 6,⟨[],[]⟩)] (.t 1 (.two (.two (.gh (.tl .done) .nil) (.nil)) (.nil)))))) (.t 2 (.nil)))))))
def Q6q:Shp:=⟨[(0,.d Jd)],[]⟩
def Qv4:Shp:=⟨[(0,.d Jd)],[]⟩
def Q6r:An:=.t 2 (.two (.dm 10 [8,9,10,11,12,13,14,15,16,17] [] (.n 2 (.call 0 (.n 2 (.call 1 (.n 2 (.call 2 (.n 1 (.tl (.n 5 .done)))))))))) (.two (.dc 10 [20,21,22,23,24,25,26,27,28,29] [1] [] (.op ⟨.nl 1 .done,[],[],[],[1]⟩ (.op ⟨.nl 1 .done,[],[1],[],[]⟩ (.op ⟨.call 3 (.done),[],[],[12200],[12200]⟩ (.op ⟨.nl 1 .done,[],[],[],[1]⟩ (.op ⟨.nl 1 .done,[],[1],[],[]⟩ (.op ⟨.call 4 (.done),[],[],[12500],[12500]⟩ (.op ⟨.nl 1 .done,[],[],[],[1]⟩ (.op ⟨.nl 1 .done,[],[1],[],[]⟩ (.op ⟨.call 5 (.done),[],[],[12800],[12800]⟩ (.op ⟨.nl 1 .done,[],[],[],[1]⟩ (.tl (.n 5 .done))))))))))))) (.two (.t 4 (.un (.lp [1,2,34] [1,2,12500,12800] ⟨[(35,.d .i)],[(12200,.row 131 Jd)]⟩ [(.x 0,⟨[],[(12200,.row 131 Jd)]⟩)] (.t 1 (.two (.two (.nil) (.nil)) (.two (.un (.t 2 (.dm 9 [38,39,40,41,42,43,44,45,46] [] (.n 8 (.call 6 (.tl (.n 2 .done))))))) (.reg (.n 2 .done)))))))) (.two (.t 4 (.un (.lp [1,2,51,52] [1,2,12200,12500,12800] ⟨[],[]⟩ [(.x 2,⟨[],[]⟩)] (.t 1 (.two (.two (.gh (.tl .done) .nil) (.nil)) (.nil)))))) (.two (.t 4 (.un (.lp [1,2,87,88] [1,2,12200,12500,12800] ⟨[],[]⟩ [(.x 6,⟨[],[]⟩)] (.t 1 (.two (.two (.gh (.tl .done) .nil) (.nil)) (.nil)))))) (.t 2 (.nil)))))))
def Q6s:Shp:=⟨[(0,.d Ya)],[]⟩
def Qv5:Shp:=⟨[(0,.ag (.cons (.d (.sl Qz)) (.cons (.s 1) (.cons (.s 2) (.cons (.d (.sl Vj)) (.cons (.d (.sl .i)) (.cons (.s 3) (.nil))))))))],[(1,.row 131 Jd),(2,.row 135 Jq),(3,.row 142 Jc)]⟩
def Q6t:An:=.t 2 (.two (.dm 11 [5,6,7,8,9,10,11,12,13,14,3] [] (.n 2 (.call 0 (.n 2 (.call 1 (.n 2 (.call 2 (.n 2 (.tl (.n 1 .done)))))))))) (.two (.t 4 (.un (.lp [2,3,17,18] [1,2,3] ⟨[],[]⟩ [(.x 0,⟨[],[]⟩)] (.t 1 (.two (.two (.gh (.tl .done) .nil) (.nil)) (.nil)))))) (.t 2 (.nil))))
def Q6u:Shp:=⟨[(0,.d Qk)],[]⟩
def Qv6:Shp:=⟨[(0,.d Qk)],[]⟩
def Q6v:An:=.t 3 (.two (.dc 5 [5,6,7,8,9] [2,3] [] (.op ⟨.nl 1 .done,[],[2],[],[]⟩ (.op ⟨.call 0 (.done),[],[],[10603,10602,10601],[10601,10602,10603]⟩ (.op ⟨.nl 1 .done,[],[3],[],[]⟩ (.op ⟨.call 1 (.done),[],[],[],[]⟩ (.op ⟨.nl 1 .done,[],[],[9],[9]⟩ (.tl (.n 3 .done)))))))) (.nil))
def Q6w:Shp:=⟨[(0,.d Ya),(1,.d Qk)],[]⟩
def Qv7:Shp:=⟨[(0,.p 1 [])],[(1,.var 54 (.ag (.cons (.ag (.cons (.d (.sl Qz)) (.cons (.s 2) (.cons (.s 3) (.cons (.d (.sl Vj)) (.cons (.d (.sl .i)) (.cons (.s 4) (.nil)))))))) (.cons (.d Qk) (.cons (.m 5) (.nil)))))),(2,.row 131 Jd),(3,.row 135 Jq),(4,.row 142 Jc),(5,.map .i Qj)]⟩
def Qmp:An:=.t 1 (.two (.reg (.n 3 (.nl 5 (.n 2 .done)))) (.nil))
def Qmq:Shp:=⟨[(0,.p 5000 [])],[(5000,.var 54 (.ag (.cons (.ag (.cons (.d (.sl Qz)) (.cons (.s 5001) (.cons (.s 5002) (.cons (.d (.sl Vj)) (.cons (.d (.sl .i)) (.cons (.s 5003) (.nil)))))))) (.cons (.d Qk) (.cons (.m 5004) (.nil)))))),(5001,.row 131 Jd),(5002,.row 135 Jq),(5003,.row 142 Jc),(5004,.map .i Qj)]⟩
def Qg9:Shp:=⟨[(0,.d .bool)],[]⟩
def Qv8:An:=.t 1 (.t 7 (.nil))
def Qv9:Shp:=⟨[(0,.d (.int .u8))],[]⟩
def Qq1:Shp:=⟨[(0,.d .bool)],[]⟩
def Qwa:An:=.t 1 (.two (.t 3 (.un (.lp [0,5] [] ⟨[(6,.d .i)],[]⟩ [(.x 0,⟨[],[]⟩)] (.t 1 (.two (.two (.nil) (.nil)) (.two (.un (.t 2 (.two (.reg (.n 3 (.call 0 (.n 1 .done)))) (.two (.gh (.tl .done) .nil) (.nil))))) (.reg (.n 2 .done)))))))) (.t 9 (.nil)))
def Qwb:Shp:=⟨[(0,.d .str)],[]⟩
def Qq2:Shp:=⟨[(0,.d .bool)],[]⟩
def Qwc:An:=.t 3 (.two (.t 2 (.un (.t 2 (.two (.t 10 (.nil)) (.gh (.tl .done) .nil))))) (.nil))
def Qwd:Shp:=⟨[(0,.d Vk),(1,.d Qz)],[]⟩
def Qq3:Shp:=⟨[(0,.d Vk)],[]⟩
def Qwe:An:=.t 1 (.t 1 (.t 1 (.two (.t 3 (.un (.lp [1,10,11] [] ⟨[(5,.s 100000),(6,.p 100001 []),(12,.d .i)],[(100000,.row 362 Yo),(100001,.var 222 (.d Vk))]⟩ [(.x 0,⟨[(5,.s 100300)],[(100300,.row 362 Yo)]⟩)] (.t 1 (.two (.two (.nil) (.nil)) (.two (.jn [12] [] [(.n,⟨[(5,.s 100200),(6,.p 100201 [])],[(100200,.row 362 Yo),(100201,.var 222 (.d Vk))]⟩)] (.un (.t 4 (.two (.t 8 (.two (.nil) (.nil))) (.two (.reg (.n 2 (.call 0 (.n 1 .done)))) (.t 3 (.two (.dr 13 (.n 3 (.sp 31 10 [5,6,8,9,12] [8,100000,100001] ⟨[(41,.d .bool)],[]⟩ (.tl .done) (.nl 9 (.n 1 .done)) (.done))) (.done)) (.two (.gh (.tl .done) .nil) (.reg (.n 8 .done)))))))))) (.reg (.n 2 .done)))))))) (.t 2 (.nil)))))
def Qwf:Shp:=⟨[(0,.d (.sl Qz)),(1,.d .i)],[]⟩
def Qq4:Shp:=⟨[(0,.s 1)],[(1,.row 362 Yo)]⟩
def Qwg:An:=.t 1 (.t 1 (.two (.t 3 (.un (.lp [1,11,12] [] ⟨[(7,.s 100000),(13,.d .i)],[(100000,.row 362 Yo)]⟩ [(.x 0,⟨[(7,.s 100100)],[(100100,.row 362 Yo)]⟩)] (.t 1 (.two (.two (.nil) (.nil)) (.two (.un (.t 4 (.t 3 (.two (.dm 10 [19,20,21,22,23,24,25,26,27,28] [] (.n 3 (.so 21 (.tl .done) (.n 7 (.tl (.nl 1 (.n 1 .done))))))) (.two (.nil) (.reg (.n 5 .done))))))) (.reg (.n 2 .done)))))))) (.t 2 (.nil))))
def Qwh:Shp:=⟨[(0,.d (.sl Yo)),(1,.f 231 (.nil)),(2,.f 233 (.nil))],[]⟩
def Qq5:Shp:=⟨[(0,.s 1)],[(1,.row 362 Yo)]⟩
def Qwi:An:=.t 1 (.two (.reg (.n 2 (.call 0 (.call 1 (.n 1 .done))))) (.t 1 (.two (.t 3 (.un (.lp [5,14,15] [11201,11301] ⟨[(6,.s 100000),(16,.d .i)],[(100000,.row 218 Kc)]⟩ [(.x 0,⟨[(6,.s 100100)],[(100100,.row 218 Kc)]⟩)] (.t 1 (.two (.two (.nil) (.nil)) (.two (.un (.t 6 (.two (.t 4 (.two (.gh (.tl .done) .nil) (.nil))) (.t 5 (.two (.t 5 (.two (.gh (.tl .done) .nil) (.nil))) (.dc 17 [40,41,42,43,44,45,46,47,48,49,50,51,52,53,54,55,56] [9,8] [] (.op ⟨.nl 1 .done,[],[],[],[100000]⟩ (.op ⟨.nl 1 .done,[],[9],[],[]⟩ (.op ⟨.nl 1 .done,[],[],[],[8]⟩ (.op ⟨.nl 1 .done,[],[],[],[8]⟩ (.op ⟨.nl 1 .done,[],[8],[],[]⟩ (.op ⟨.nl 1 .done,[],[],[],[8]⟩ (.op ⟨.nl 1 .done,[],[],[],[8]⟩ (.op ⟨.nl 1 .done,[],[8],[],[]⟩ (.op ⟨.nl 1 .done,[],[],[48],[48]⟩ (.op ⟨.nl 1 .done,[],[],[],[8]⟩ (.op ⟨.nl 1 .done,[],[],[],[8]⟩ (.op ⟨.nl 1 .done,[],[8],[],[]⟩ (.op ⟨.nl 1 .done,[],[],[],[8]⟩ (.op ⟨.nl 1 .done,[],[],[],[8]⟩ (.op ⟨.nl 1 .done,[],[8],[],[]⟩ (.op ⟨.nl 1 .done,[],[],[],[48]⟩ (.op ⟨.fz 48 (.nl 1 .done),[48],[],[],[48]⟩ (.tl (.n 2 .done))))))))))))))))))))))))) (.reg (.n 2 .done)))))))) (.t 2 (.nil)))))
def Qwj:Shp:=⟨[(0,.d (.sl Qz)),(1,.d .i)],[]⟩
def Qq6:Shp:=⟨[(0,.s 1)],[(1,.row 218 Kc)]⟩
def Qwk:An:=.t 2 (.t 16 (.nil))
def Qwl:Shp:=⟨[(0,.d Y8)],[]⟩
def Qq7:Shp:=⟨[(0,.d .bool)],[]⟩
def Qwm:An:=.t 2 (.two (.reg (.n 1 (.call 0 (.n 13 .done)))) (.nil))
def Qwn:Shp:=⟨[(0,.d Y8),(1,.d .i)],[]⟩
def Qq8:Shp:=⟨[(0,.d .bool)],[]⟩
def Qwo:An:=.t 2 (.two (.two (.reg (.n 2 (.call 0 (.n 2 .done)))) (.un (.lp [2,12,13,14] [11201] ⟨[(6,.p 100000 [])],[(100000,.var 218 (.ag (.cons (.d Y8) (.cons (.d .str) (.cons (.ns) (.cons (.d .bool) (.cons (.d .bool) (.nil))))))))]⟩ [(.r,⟨[(6,.p 100100 []),(7,.d .bool)],[(100100,.var 218 (.d Kc))]⟩)] (.t 1 (.two (.two (.nil) (.gh (.tl .done) .nil)) (.two (.un (.t 4 (.two (.reg (.n 3 (.call 1 (.done)))) (.two (.t 3 (.nil)) (.gh (.tl .done) .nil))))) (.nil))))))) (.nil))
def Qwp:Shp:=⟨[(0,.d (.sl Qz)),(1,.d .i),(2,.d .i)],[]⟩
def Qq9:Shp:=⟨[(0,.d Kc),(1,.d .bool)],[]⟩
def Qwq:An:=.t 1 (.t 8 (.nil))
def Qwr:Shp:=⟨[],[]⟩
def Qra:Shp:=⟨[(0,.p 1 [])],[(1,.var 430 (.ag (.cons (.m 2) (.cons (.m 3) (.cons (.m 4) (.cons (.m 5) (.cons (.m 6) (.cons (.ns) (.cons (.ns) (.nil)))))))))),(2,.map .i Yj),(3,.map .i Vk),(4,.map .i .bool),(5,.map .str .i),(6,.map .i .i)]⟩
def Qws:An:=.t 3 (.t 2 (.nil))
def Qwt:Shp:=⟨[(0,.d (.sl Qz)),(1,.d .i)],[]⟩
def Qrb:Shp:=⟨[(0,.f 314 (.cons (.p 1 []) (.cons (.p 2 []) (.nil))))],[(1,.var 44 (.d (.sl Qz))),(2,.var 3 (.d .i))]⟩
def Qwu:AnY:=.two (.reg (.n 3 .done)) (.un (.lp [2,6,7] [] ⟨[(8,.d .i)],[]⟩ [(.x 0,⟨[],[]⟩)] (.two (.reg (.n 1 .done)) (.two (.two (.nil) (.nil)) (.two (.un (.two (.reg (.n 4 .done)) (.two (.yr (.h 5 (.n 5 .done) (.so 16 (.mv (.h 1 (.nl 1 .done) (.yl (.h 2 (.nl 1 (.n 1 .done)) (.done))))) (.h 5 (.nl 4 (.n 1 .done)) (.done))))) (.two (.yr .done) (.nil))))) (.reg (.n 2 .done)))))))
def Qwv:An:=.t 1 (.t 1 (.two (.un (.lp [0,1,5] [] ⟨[],[]⟩ [(.x 0,⟨[],[]⟩)] (.two (.two (.reg (.n 5 (.sp 11 7 [] [] ⟨[(18,.d .bool)],[]⟩ (.tl .done) (.nl 6 (.n 1 .done)) (.done)))) (.two (.gh (.tl .done) .nil) (.nil))) (.nil)))) (.t 5 (.t 5 (.t 6 (.nil))))))
def Qww:Shp:=⟨[(0,.d (.sl .i)),(1,.d .i)],[]⟩
def Qrc:Shp:=⟨[(0,.d (.sl .i))],[]⟩
def Qha:An:=.t 1 (.t 2 (.un (.t 2 (.two (.two (.two (.dm 12 [38,39,40,41,42,43,44,37,45,46,4,1000000011] [] (.n 12 (.tl (.n 1 .done)))) (.t 2 (.two (.dm 8 [49,50,51,52,53,54,55,56] [] (.n 7 (.call 0 (.tl (.n 3 .done))))) (.gh (.tl .done) .nil)))) (.dr 16 (.n 16 .done) (.n 1 .done))) (.t 2 (.two (.gh (.tl .done) .nil) (.t 2 (.two (.two (.two (.dr 8 (.n 8 .done) (.done)) (.two (.dm 8 [102,103,104,105,106,107,108,109] [] (.n 7 (.call 0 (.tl (.n 3 .done))))) (.gh (.tl .done) .nil))) (.two (.dr 6 (.n 6 .done) (.n 1 .done)) (.two (.dr 8 (.n 8 .done) (.n 1 .done)) (.dr 15 (.n 15 .done) (.n 1 .done))))) (.gh (.tl .done) .nil)))))))))
def Qhb:Shp:=⟨[(0,.p 5000 []),(1,.d Qz)],[(5000,.var 430 (.ag (.cons (.m 5001) (.cons (.m 5002) (.cons (.m 5003) (.cons (.m 5004) (.cons (.m 5005) (.cons (.d (.sl .i)) (.cons (.d (.sl .i)) (.nil)))))))))),(5001,.map .i Yj),(5002,.map .i Vk),(5003,.map .i .bool),(5004,.map .str .i),(5005,.map .i .i)]⟩
def Qdy:Shp:=⟨[],[(5000,.var 430 (.ag (.cons (.m 5001) (.cons (.m 5002) (.cons (.m 5003) (.cons (.m 5004) (.cons (.m 5005) (.cons (.d (.sl .i)) (.cons (.d (.sl .i)) (.nil)))))))))),(5001,.map .i Yj),(5002,.map .i Vk),(5003,.map .i .bool),(5004,.map .str .i),(5005,.map .i .i)]⟩
def Qwx:An:=.t 1 (.t 1 (.two (.reg (.n 1 (.mt 12 [] 3 (.n 1 .done)))) (.two (.t 6 (.un (.lp [0,16,17] [] ⟨[(2,.p 100000 []),(3,.p 100001 []),(4,.m 100002),(18,.d .i)],[(100000,.var 285 (.ag (.cons (.ns) (.cons (.ns) (.nil))))),(100001,.var 285 (.ag (.cons (.ns) (.cons (.s 100003) (.nil))))),(100002,.mapT .i (.sl .i) [] 3 .i),(100003,.row 222 Vk)]⟩ [(.x 0,⟨[(2,.p 100100 []),(3,.p 100101 []),(4,.m 100102)],[(100100,.var 285 (.ag (.cons (.ns) (.cons (.ns) (.nil))))),(100101,.var 285 (.ag (.cons (.ns) (.cons (.s 100103) (.nil))))),(100102,.mapT .i (.sl .i) [] 3 .i),(100103,.row 222 Vk)]⟩)] (.t 1 (.two (.two (.nil) (.nil)) (.two (.un (.t 3 (.t 12 (.two (.t 2 (.two (.gh (.tl .done) .nil) (.nil))) (.two (.gh (.op (.v 7 [.f 1 1]) 100002 700000 (.done)) (.dm 10 [33,34,35,36,37,38,39,40,41,42] [700000] (.n 10 (.tl (.n 1 .done))))) (.reg (.n 7 .done))))))) (.reg (.n 2 .done)))))))) (.two (.t 6 (.un (.lp [0,2,4,53,54] [100100,100102] ⟨[(3,.p 100200 []),(55,.d .i)],[(100200,.var 285 (.ag (.cons (.s 100201) (.cons (.s 100202) (.nil))))),(100201,.row 239 Yj),(100202,.row 222 Vk)]⟩ [(.x 2,⟨[(3,.p 100300 [])],[(100300,.var 285 (.ag (.cons (.s 100301) (.cons (.s 100302) (.nil))))),(100301,.row 239 Yj),(100302,.row 222 Vk)]⟩)] (.t 1 (.two (.two (.nil) (.nil)) (.two (.un (.t 3 (.t 8 (.t 5 (.reg (.n 7 .done)))))) (.reg (.n 2 .done)))))))) (.t 2 (.gh (.fm 100102 (.done)) .nil))))))
def Qwy:Shp:=⟨[(0,.p 5000 [])],[(5000,.var 430 (.ag (.cons (.m 5001) (.cons (.m 5002) (.cons (.m 5003) (.cons (.m 5004) (.cons (.m 5005) (.cons (.d (.sl .i)) (.cons (.d (.sl .i)) (.nil)))))))))),(5001,.map .i Yj),(5002,.map .i Vk),(5003,.map .i .bool),(5004,.map .str .i),(5005,.map .i .i)]⟩
def Qrd:Shp:=⟨[(0,.ag (.cons (.s 1) (.cons (.s 2) (.nil))))],[(1,.row 239 Yj),(2,.row 222 Vk)]⟩
def Qwz:AnR:=.pre (.reg (.n 1 .done)) (.pre (.reg (.call 0 (.n 2 .done))) (.inn (.pre (.reg (.n 2 (.call 1 (.done)))) (.un (.rf 0 [4,5] [4,5] ⟨[],[(10701,.var 430 (.ag (.cons (.m 100001) (.cons (.m 100002) (.cons (.m 100003) (.cons (.m 100004) (.cons (.m 100005) (.cons (.d (.sl .i)) (.cons (.d (.sl .i)) (.nil)))))))))),(100001,.map .i Yj),(100002,.map .i Vk),(100003,.map .i .bool),(100004,.map .str .i),(100005,.map .i .i)]⟩ (.reg (.n 2 .done)) (.un (.reg (.n 2 (.call 2 (.done)))))))) (.two (.reg (.n 1 (.call 3 (.n 1 .done)))) (.nil))))
def Qw0:Shp:=⟨[(0,.d (.sl Qz)),(1,.d .i)],[]⟩
def Qre:Shp:=⟨[(0,.ag (.cons (.s 1) (.cons (.s 2) (.nil))))],[(1,.row 239 Yj),(2,.row 222 Vk)]⟩
def Qw1:An:=.t 2 (.two (.two (.reg (.n 2 (.call 0 (.n 3 .done)))) (.un (.lp [1,13,14,15] [11201,11202] ⟨[(6,.p 100000 [])],[(100000,.var 222 (.ag (.cons (.d .i) (.cons (.d .i) (.cons (.d .i) (.cons (.d .str) (.cons (.ns) (.cons (.ns) (.cons (.d .bool) (.cons (.d .bool) (.nil)))))))))))]⟩ [(.r,⟨[(6,.p 100100 []),(7,.d .bool)],[(100100,.var 222 (.d Vk))]⟩)] (.t 1 (.two (.two (.nil) (.gh (.tl .done) .nil)) (.two (.un (.t 4 (.t 4 (.two (.t 3 (.nil)) (.gh (.tl .done) .nil))))) (.nil))))))) (.nil))
def Qw2:Shp:=⟨[(0,.d (.sl Qz)),(1,.d .i),(2,.d .i)],[]⟩
def Qrf:Shp:=⟨[(0,.d Vk),(1,.d .bool)],[]⟩
def Qw3:An:=.t 1 (.t 3 (.nil))
def Qw4:Shp:=⟨[(0,.d (.sl K6))],[]⟩
def Qrg:Shp:=⟨[(0,.d (.sl K6))],[]⟩
def Qw5:An:=.t 1 (.t 3 (.nil))
def Qw6:Shp:=⟨[(0,.d (.sl Y4))],[]⟩
def Qrh:Shp:=⟨[(0,.s 1)],[(1,.row 153 Y4)]⟩
def Qw7:An:=.t 2 (.t 3 (.t 8 (.two (.t 4 (.un (.lp [1,2,3,19,20] [1,2,3] ⟨[],[]⟩ [(.x 0,⟨[],[]⟩)] (.t 1 (.two (.two (.gh (.tl .done) .nil) (.nil)) (.nil)))))) (.two (.t 4 (.un (.lp [1,2,37,38] [1,2] ⟨[(3,.p 100200 []),(39,.d .i)],[(100200,.var 131 (.ag (.cons (.d .str) (.cons (.d .i) (.cons (.d .bool) (.cons (.ns) (.cons (.s 100201) (.cons (.ns) (.cons (.ns) (.nil)))))))))),(100201,.row 151 Y5)]⟩ [(.x 2,⟨[(3,.p 100300 [])],[(100300,.var 131 (.ag (.cons (.d .str) (.cons (.d .i) (.cons (.d .bool) (.cons (.ns) (.cons (.s 100301) (.cons (.ns) (.cons (.ns) (.nil)))))))))),(100301,.row 151 Y5)]⟩)] (.t 1 (.two (.two (.nil) (.nil)) (.two (.un (.t 4 (.dm 9 [43,44,45,46,47,48,49,50,51] [] (.n 6 (.call 0 (.n 2 (.tl (.n 3 .done)))))))) (.reg (.n 2 .done)))))))) (.two (.t 4 (.un (.lp [1,2,56,57] [1,2] ⟨[(3,.p 100400 []),(58,.d .i)],[(100400,.var 131 (.ag (.cons (.d .str) (.cons (.d .i) (.cons (.d .bool) (.cons (.ns) (.cons (.s 100401) (.cons (.s 100402) (.cons (.ns) (.nil)))))))))),(100401,.row 151 Y5),(100402,.row 31 Uf)]⟩ [(.x 4,⟨[(3,.p 100500 [])],[(100500,.var 131 (.ag (.cons (.d .str) (.cons (.d .i) (.cons (.d .bool) (.cons (.ns) (.cons (.s 100501) (.cons (.s 100502) (.cons (.ns) (.nil)))))))))),(100501,.row 151 Y5),(100502,.row 31 Uf)]⟩)] (.t 1 (.two (.two (.nil) (.nil)) (.two (.un (.t 4 (.two (.reg (.n 2 (.call 1 (.n 2 .done)))) (.reg (.n 3 (.fz 16401 (.n 4 .done))))))) (.reg (.n 2 .done)))))))) (.two (.t 4 (.un (.lp [2,3,75,76] [1,2,100500,100501,100502] ⟨[],[]⟩ [(.x 6,⟨[],[]⟩)] (.t 1 (.two (.two (.gh (.tl .done) .nil) (.nil)) (.nil)))))) (.t 2 (.nil))))))))
def Qw8:Shp:=⟨[(0,.d Jd)],[]⟩
def Qri:Shp:=⟨[(0,.ag (.cons (.d .str) (.cons (.d .i) (.cons (.d .bool) (.cons (.ns) (.cons (.s 1) (.cons (.s 2) (.cons (.ns) (.nil)))))))))],[(1,.row 151 Y5),(2,.row 31 Uf)]⟩
def Qw9:An:=.t 2 (.t 1 (.two (.t 3 (.un (.lp [0,1,2,6,11,12] [6] ⟨[(8,.d .i),(13,.d .i)],[]⟩ [(.x 0,⟨[(8,.d .i)],[]⟩)] (.t 1 (.two (.two (.nil) (.nil)) (.two (.un (.t 6 (.t 10 (.t 2 (.gh (.tl .done) .nil))))) (.reg (.n 2 .done)))))))) (.two (.t 2 (.two (.gh (.tl .done) .nil) (.nil))) (.two (.reg (.n 4 (.call 0 (.n 2 .done)))) (.nil)))))
def Qxa:Shp:=⟨[(0,.d (.sl Jd)),(1,.d .str),(2,.d .i)],[]⟩
def Qrj:Shp:=⟨[(0,.ag (.cons (.d .str) (.cons (.d .i) (.cons (.d .bool) (.cons (.ns) (.cons (.s 1) (.cons (.s 2) (.cons (.ns) (.nil))))))))),(1,.d .bool)],[(1,.row 151 Y5),(2,.row 31 Uf)]⟩
def Qxb:An:=.t 2 (.two (.t 3 (.two (.gh (.tl .done) .nil) (.nil))) (.t 2 (.two (.t 3 (.un (.lp [4,16,17] [14] ⟨[],[]⟩ [(.x 0,⟨[],[]⟩)] (.t 1 (.two (.two (.gh (.tl .done) .nil) (.nil)) (.nil)))))) (.t 3 (.nil)))))
def Qxc:Shp:=⟨[(0,.d (.sl Wy))],[]⟩
def Qrk:Shp:=⟨[(0,.m 1),(1,.d .i)],[(1,.map .str .str)]⟩
def Qxd:An:=.t 2 (.two (.un (.lp [0,1] [] ⟨[(2,.d .i)],[]⟩ [(.x 0,⟨[],[]⟩)] (.two (.t 2 (.two (.nil) (.nil))) (.two (.un (.t 10 (.t 1 (.two (.gh (.tl .done) .nil) (.nil))))) (.reg (.n 3 .done)))))) (.t 2 (.nil)))
def Qxe:Shp:=⟨[(0,.m 5000),(1,.d .str),(2,.d .i)],[(5000,.map .str .str)]⟩
def Qrl:Shp:=⟨[(0,.d .str),(1,.d .bool)],[]⟩
def Qxf:An:=.t 2 (.two (.reg (.n 1 (.call 0 (.n 5 .done)))) (.two (.two (.reg (.n 3 (.sp 15 4 [1,6] [11001] ⟨[(19,.d .bool)],[]⟩ (.nl 3 (.n 1 .done)) (.nl 1 (.call 1 (.nl 1 (.n 1 .done)))) (.done)))) (.two (.gh (.tl .done) .nil) (.nil))) (.two (.reg (.n 4 (.call 2 (.n 4 .done)))) (.nil))))
def Qxg:Shp:=⟨[(0,.d (.sl Wy)),(1,.d .str)],[]⟩
def Qrm:Shp:=⟨[(0,.d .str),(1,.d .bool)],[]⟩
def Qxh:An:=.t 1 (.two (.t 3 (.un (.lp [0,6] [] ⟨[(7,.d .i)],[]⟩ [(.x 0,⟨[],[]⟩)] (.t 1 (.two (.two (.nil) (.nil)) (.two (.un (.t 2 (.t 4 (.t 22 (.two (.gh (.tl .done) .nil) (.nil)))))) (.reg (.n 2 .done)))))))) (.t 9 (.nil)))
def Qxi:Shp:=⟨[(0,.d .str)],[]⟩
def Qrn:Shp:=⟨[(0,.d .bool)],[]⟩
def Qxj:An:=.t 1 (.two (.t 3 (.un (.lp [7,8] [] ⟨[],[]⟩ [(.x 0,⟨[],[]⟩)] (.t 1 (.two (.two (.gh (.tl .done) .nil) (.nil)) (.nil)))))) (.t 1 (.nil)))
def Qxk:Shp:=⟨[(0,.d (.sl Y5)),(1,.f 248 (.cons (.p 5000 []) (.nil)))],[(5000,.var 151 (.d Y5))]⟩
def Qro:Shp:=⟨[(0,.d .i)],[]⟩
def Qxl:An:=.t 1 (.two (.reg (.n 2 (.call 0 (.n 2 .done)))) (.nil))
def Qxm:Shp:=⟨[(0,.d (.sl Y5)),(1,.f 248 (.cons (.p 5000 []) (.nil)))],[(5000,.var 151 (.d Y5))]⟩
def Qrp:Shp:=⟨[(0,.d .bool)],[]⟩
def Qxn:An:=.t 1 (.two (.t 3 (.two (.gh (.tl .done) .nil) (.nil))) (.two (.t 3 (.two (.gh (.tl .done) .nil) (.nil))) (.two (.t 3 (.un (.lp [0,12,13] [] ⟨[(14,.d .i)],[]⟩ [(.x 0,⟨[],[]⟩)] (.t 1 (.two (.two (.nil) (.nil)) (.two (.un (.t 6 (.two (.two (.reg (.n 2 (.call 0 (.n 1 .done)))) (.two (.gh (.tl .done) .nil) (.nil))) (.two (.two (.reg (.n 4 (.call 1 (.done)))) (.two (.gh (.tl .done) .nil) (.nil))) (.two (.t 5 (.two (.two (.t 4 (.two (.gh (.tl .done) .nil) (.nil))) (.nil)) (.gh (.tl .done) .nil))) (.nil)))))) (.reg (.n 2 .done)))))))) (.t 1 (.nil)))))
def Qxo:Shp:=⟨[(0,.d (.sl Y5))],[]⟩
def Qrq:Shp:=⟨[(0,.d .i)],[]⟩
def Qxp:An:=.t 1 (.two (.t 3 (.un (.lp [7,8] [] ⟨[],[]⟩ [(.x 0,⟨[],[]⟩)] (.t 1 (.two (.two (.gh (.tl .done) .nil) (.nil)) (.nil)))))) (.t 1 (.nil)))
def Qxq:Shp:=⟨[(0,.d (.sl .i)),(1,.d .i)],[]⟩
def Qrr:Shp:=⟨[(0,.d .i)],[]⟩
def Qxr:An:=.t 1 (.two (.reg (.n 2 (.call 0 (.n 2 .done)))) (.nil))
def Qxs:Shp:=⟨[(0,.d (.sl .i)),(1,.d .i)],[]⟩
def Qrs:Shp:=⟨[(0,.d .bool)],[]⟩
def Qxt:An:=.t 1 (.two (.t 6 (.two (.gh (.tl .done) .nil) (.nil))) (.t 4 (.nil)))
def Qxu:Shp:=⟨[(0,.d .i)],[]⟩
def Qrt:Shp:=⟨[(0,.d .i)],[]⟩
def Qxv:An:=.t 1 (.two (.two (.reg (.n 2 (.call 0 (.done)))) (.two (.gh (.tl .done) .nil) (.nil))) (.two (.reg (.n 1 (.call 1 (.n 2 .done)))) (.nil)))
def Qxw:Shp:=⟨[(0,.d (.sl .i)),(1,.d .i)],[]⟩
def Qru:Shp:=⟨[(0,.d .i)],[]⟩
def Qxx:An:=.t 1 (.two (.t 3 (.un (.lp [7,8] [] ⟨[],[]⟩ [(.x 0,⟨[],[]⟩)] (.t 1 (.two (.two (.gh (.tl .done) .nil) (.nil)) (.nil)))))) (.t 1 (.nil)))
def Qxy:Shp:=⟨[(0,.d (.sl K6)),(1,.f 250 (.cons (.p 5000 []) (.cons (.p 5001 []) (.nil))))],[(5000,.var 3 (.d .i)),(5001,.var 3 (.d .i))]⟩
def Qrv:Shp:=⟨[(0,.d .i)],[]⟩
def Qxz:An:=.t 1 (.two (.reg (.n 2 (.call 0 (.n 2 .done)))) (.nil))
def Qx0:Shp:=⟨[(0,.d (.sl K6)),(1,.f 250 (.cons (.p 5000 []) (.cons (.p 5001 []) (.nil))))],[(5000,.var 3 (.d .i)),(5001,.var 3 (.d .i))]⟩
def Qrw:Shp:=⟨[(0,.d .bool)],[]⟩
def Qx1:An:=.t 3 (.t 2 (.two (.t 3 (.un (.lp [0,7,11,12] [4,5] ⟨[(13,.d .i)],[]⟩ [(.x 0,⟨[],[]⟩)] (.t 1 (.two (.two (.nil) (.nil)) (.two (.un (.t 4 (.two (.reg (.n 3 (.call 0 (.done)))) (.two (.gh (.tl .done) .nil) (.nil))))) (.reg (.n 2 .done)))))))) (.t 8 (.nil))))
def Qx2:Shp:=⟨[(0,.d (.sl Y5)),(1,.d .i),(2,.d .i)],[]⟩
def Qrx:Shp:=⟨[(0,.d .str)],[]⟩
def Qx3:An:=.t 1 (.two (.two (.reg (.n 1 (.call 0 (.n 9 .done)))) (.two (.gh (.tl .done) .nil) (.nil))) (.two (.reg (.n 4 (.call 1 (.n 3 (.call 2 (.n 1 .done)))))) (.nil)))
def Qx4:Shp:=⟨[(0,.d (.sl Y5)),(1,.d (.sl .i)),(2,.d .i)],[]⟩
def Qry:Shp:=⟨[(0,.d .str)],[]⟩
def Qx5:An:=.t 2 (.t 27 (.nil))
def Qx6:Shp:=⟨[(0,.d Uf),(1,.p 5000 []),(2,.p 5001 []),(3,.p 5002 [])],[(5000,.var 3 (.d .i)),(5001,.var 9 (.d .str)),(5002,.var 9 (.d .str))]⟩
def Qrz:Shp:=⟨[(0,.d .bool)],[]⟩
def Qx7:An:=.t 6 (.t 2 (.two (.t 4 (.un (.lp [10,15,16,17] [4,5,6,7] ⟨[(8,.p 100000 [])],[(100000,.var 31 (.ag (.cons (.d .i) (.cons (.d .str) (.cons (.d .str) (.cons (.d .i) (.cons (.ns) (.nil))))))))]⟩ [(.r,⟨[(8,.p 100100 []),(9,.d .bool)],[(100100,.var 31 (.ag (.cons (.d .i) (.cons (.d .str) (.cons (.d .str) (.cons (.d .i) (.cons (.s 100101) (.nil)))))))),(100101,.row 153 Y4)]⟩)] (.t 1 (.two (.two (.nil) (.gh (.tl .done) .nil)) (.two (.un (.t 4 (.two (.reg (.n 2 (.call 0 (.done)))) (.two (.t 5 (.t 3 (.nil))) (.gh (.tl .done) .nil))))) (.nil))))))) (.nil)))
def Qx8:Shp:=⟨[(0,.d Jd),(1,.d .i),(2,.d .str),(3,.d .str)],[]⟩
def Qr0:Shp:=⟨[(0,.d Uf),(1,.d .bool)],[]⟩
def Q6x:An:=.t 4 (.t 7 (.two (.un (.t 7 (.two (.gh (.tl .done) .nil) (.t 7 (.two (.gh (.tl .done) .nil) (.two (.reg (.n 1 (.call 0 (.n 10 .done)))) (.two (.gh (.tl .done) .nil) (.nil)))))))) (.two (.reg (.n 4 (.call 1 (.n 6 .done)))) (.two (.reg (.n 4 (.call 2 (.n 6 .done)))) (.two (.un (.t 7 (.two (.gh (.tl .done) .nil) (.t 3 (.two (.gh (.tl .done) .nil) (.nil)))))) (.two (.reg (.n 5 (.call 3 (.n 6 .done)))) (.two (.t 2 (.two (.gh (.tl .done) .nil) (.nil))) (.two (.reg (.n 3 (.call 4 (.n 5 .done)))) (.two (.gh (.fz 19401 (.fz 19402 (.done))) (.dm 15 [108,109,110,111,112,113,114,115,116,117,107,118,119,23,1000000014] [] (.n 8 (.call 5 (.call 6 (.n 5 (.tl (.n 1 .done)))))))) (.two (.t 2 (.two (.gh (.tl .done) .nil) (.nil))) (.two (.reg (.n 2 (.call 7 (.n 2 .done)))) (.t 13 (.nil)))))))))))))
def Q6y:Shp:=⟨[(0,.d Ya),(1,.d Qk),(2,.d .i),(3,.d .i),(4,.d .str),(5,.d .i)],[]⟩
def Qx9:Shp:=⟨[(0,.ag (.cons (.d .i) (.cons (.d .i) (.cons (.d .i) (.cons (.d .str) (.cons (.d .str) (.cons (.d .i) (.cons (.ag (.cons (.d .i) (.cons (.d .str) (.cons (.d .str) (.cons (.d .i) (.cons (.s 1) (.nil))))))) (.cons (.d .i) (.cons (.d .i) (.nil))))))))))),(1,.d .i)],[(1,.row 153 Y4)]⟩
def Qya:An:=.t 2 (.two (.reg (.n 2 (.call 0 (.n 2 .done)))) (.two (.reg (.n 4 (.call 1 (.n 4 .done)))) (.t 2 (.nil))))
def Qyb:Shp:=⟨[(0,.d Qj)],[]⟩
def Qr1:Shp:=⟨[(0,.d Qj)],[]⟩
def Q6z:An:=.t 2 (.two (.dm 11 [5,6,7,8,9,10,11,12,13,14,3] [] (.n 2 (.call 0 (.n 2 (.call 1 (.n 2 (.call 2 (.n 2 (.tl (.n 1 .done)))))))))) (.two (.t 4 (.un (.lp [2,3,17,18] [1,2,3] ⟨[],[]⟩ [(.x 0,⟨[],[]⟩)] (.t 1 (.two (.two (.gh (.tl .done) .nil) (.nil)) (.nil)))))) (.t 2 (.nil))))
def Q60:Shp:=⟨[(0,.d Qk)],[]⟩
def Qyc:Shp:=⟨[(0,.d Qk)],[]⟩
def Q61:An:=.t 3 (.two (.dm 3 [5,6,7] [] (.n 1 (.call 0 (.n 1 (.tl (.call 1 (.n 3 .done))))))) (.nil))
def Q62:Shp:=⟨[(0,.d Qk),(1,.d Qj)],[]⟩
def Qyd:Shp:=⟨[(0,.p 1 [])],[(1,.var 162 (.d Vn))]⟩
def Qye:An:=.t 1 (.two (.t 3 (.un (.lp [1,7,8,9] [] ⟨[],[]⟩ [(.r,⟨[(4,.d .i)],[]⟩)] (.t 1 (.two (.two (.nil) (.gh (.tl .done) .nil)) (.two (.un (.t 4 (.t 9 (.two (.t 3 (.nil)) (.gh (.tl .done) .nil))))) (.nil))))))) (.nil))
def Qyf:Shp:=⟨[(0,.d (.sl Qz)),(1,.d .i)],[]⟩
def Qr2:Shp:=⟨[(0,.d .i)],[]⟩
def Qyg:An:=.t 1 (.t 2 (.two (.reg (.br (.n 1 .done))) (.t 1 (.two (.t 3 (.un (.lp [1,6,7,15,16] [14] ⟨[(5,.m 100000),(17,.d .i)],[(100000,.map .i .bool)]⟩ [(.x 0,⟨[],[]⟩)] (.t 1 (.two (.two (.nil) (.nil)) (.two (.un (.t 4 (.two (.jn [9,17] [9] [(.n,⟨[(5,.m 100100)],[(100100,.map .i .bool)]⟩)] (.t 9 (.t 4 (.nil)))) (.two (.two (.reg (.n 11 (.sp 43 8 [5,9,17] [9,100100] ⟨[(51,.d .bool)],[]⟩ (.nl 7 (.n 1 .done)) (.tl .done) (.done)))) (.two (.nil) (.gh (.tl .done) .nil))) (.nil))))) (.reg (.n 2 .done)))))))) (.t 2 (.nil))))))
def Qyh:Shp:=⟨[(0,.d (.sl Qz)),(1,.d .i)],[]⟩
def Qr3:Shp:=⟨[(0,.ns)],[]⟩
def Qyi:An:=.t 3 (.un (.lp [8,9] [5000,5001] ⟨[],[]⟩ [(.x 0,⟨[],[]⟩)] (.t 1 (.two (.two (.gh (.tl .done) .nil) (.nil)) (.nil)))))
def Qyj:Shp:=⟨[(0,.d (.sl Y8)),(1,.d .i),(2,.p 5000 [])],[(5000,.var 468 (.s 5001)),(5001,.row 470 Vp)]⟩
def Qr4:Shp:=⟨[],[(5000,.var 468 (.s 1)),(1,.row 470 Vp)]⟩
def Qhc:An:=.t 3 (.un (.lp [8,9] [] ⟨[],[]⟩ [(.x 0,⟨[],[]⟩)] (.t 1 (.two (.two (.gh (.tl .done) .nil) (.nil)) (.nil)))))
def Qhd:Shp:=⟨[(0,.d (.sl Y8)),(1,.d .i),(2,.p 5000 [])],[(5000,.var 468 (.s 5001)),(5001,.row 470 Vp)]⟩
def Qdz:Shp:=⟨[],[]⟩
def Qyk:An:=.t 1 (.two (.t 2 (.two (.gh (.tl .done) .nil) (.nil))) (.two (.t 2 (.two (.gh (.tl .done) .nil) (.nil))) (.two (.t 2 (.two (.gh (.tl .done) .nil) (.nil))) (.t 7 (.nil)))))
def Qyl:Shp:=⟨[(0,.d (.int .u64))],[]⟩
def Qr5:Shp:=⟨[(0,.d .i)],[]⟩
def Qym:An:=.t 1 (.two (.two (.nil) (.nil)) (.two (.reg (.n 1 (.call 0 (.n 1 .done)))) (.nil)))
def Qyn:Shp:=⟨[(0,.d (.int .u64))],[]⟩
def Qr6:Shp:=⟨[(0,.d .i)],[]⟩
def Qyo:An:=.t 3 (.un (.lp [2,8] [] ⟨[],[]⟩ [(.x 0,⟨[],[]⟩)] (.two (.t 3 (.two (.gh (.tl .done) .nil) (.nil))) (.nil))))
def Qyp:Shp:=⟨[(0,.d (.sl Vp)),(1,.d .i),(2,.d .i),(3,.f 361 (.nil))],[]⟩
def Qr7:Shp:=⟨[],[]⟩
def Qyq:An:=.t 1 (.t 1 (.un (.lp [0,1,2,4] [] ⟨[],[]⟩ [(.r,⟨[],[]⟩)] (.un (.t 4 (.two (.t 2 (.two (.two (.reg (.n 4 (.call 0 (.done)))) (.nil)) (.gh (.tl .done) .nil))) (.nil)))))))
def Qyr:Shp:=⟨[(0,.d (.sl Vp)),(1,.d .i),(2,.d .i),(3,.d .i),(4,.f 361 (.nil))],[]⟩
def Qr8:Shp:=⟨[],[]⟩
def Qys:An:=.t 3 (.reg (.n 4 (.call 0 (.n 1 (.call 1 (.done))))))
def Qyt:Shp:=⟨[(0,.d (.sl Vp)),(1,.f 361 (.nil))],[]⟩
def Qr9:Shp:=⟨[],[]⟩
def Qyu:An:=.t 1 (.t 1 (.t 2 (.two (.reg (.n 2 (.call 0 (.done)))) (.two (.reg (.n 2 (.call 1 (.done)))) (.two (.reg (.n 1 (.call 2 (.done)))) (.t 1 (.t 1 (.t 1 (.two (.t 3 (.un (.lp [9,25,26] [7,10,11801] ⟨[],[]⟩ [(.x 0,⟨[],[]⟩)] (.t 1 (.two (.two (.gh (.tl .done) .nil) (.nil)) (.nil)))))) (.t 2 (.nil)))))))))))
def Qyv:Shp:=⟨[(0,.d (.sl Y8)),(1,.d (.sl Y8)),(2,.f 326 (.nil))],[]⟩
def Qsa:Shp:=⟨[(0,.ns)],[]⟩
def Qyw:An:=.t 1 (.two (.reg (.n 1 (.call 0 (.n 1 .done)))) (.nil))
def Qyx:Shp:=⟨[(0,.d (.sl Y8))],[]⟩
def Qsb:Shp:=⟨[(0,.ns)],[]⟩
def Qyy:An:=.t 3 (.t 1 (.t 2 (.two (.t 3 (.un (.lp [7,18,19] [4,5,7] ⟨[],[]⟩ [(.x 0,⟨[],[]⟩)] (.t 1 (.two (.two (.gh (.tl .done) .nil) (.nil)) (.nil)))))) (.t 1 (.two (.two (.reg (.n 1 (.call 0 (.n 2 .done)))) (.un (.lp [13,37,38] [4,5,7] ⟨[],[]⟩ [(.x 4,⟨[],[]⟩)] (.t 1 (.two (.two (.gh (.tl .done) .nil) (.nil)) (.nil)))))) (.t 2 (.nil)))))))
def Qyz:Shp:=⟨[(0,.d (.sl Gy)),(1,.d .i),(2,.d .i)],[]⟩
def Qsc:Shp:=⟨[(0,.ns)],[]⟩
def Qy0:An:=.t 2 (.t 4 (.two (.t 4 (.un (.lp [0,3,4,7,10,11,28,29] [7,10,23,25] ⟨[],[]⟩ [(.x 0,⟨[],[]⟩)] (.t 1 (.two (.two (.gh (.tl .done) .nil) (.nil)) (.nil)))))) (.two (.dm 8 [51,52,53,54,55,56,57,14] [] (.n 8 (.tl (.n 1 .done)))) (.two (.reg (.n 2 (.call 0 (.n 1 .done)))) (.two (.t 10 (.two (.two (.reg (.n 2 (.call 1 (.n 1 .done)))) (.two (.reg (.n 3 (.call 2 (.n 2 .done)))) (.un (.lp [10,11,14,78,79] [7,10,14,23,25,53,56] ⟨[],[]⟩ [(.x 2,⟨[],[]⟩)] (.t 1 (.two (.two (.gh (.tl .done) .nil) (.nil)) (.nil))))))) (.gh (.tl .done) .nil))) (.t 6 (.t 2 (.nil))))))))
def Qy1:Shp:=⟨[(0,.d (.sl Qz)),(1,.d (.sl Jq)),(2,.d Qk),(3,.d .i),(4,.d .i)],[]⟩
def Qsd:Shp:=⟨[(0,.d Qk)],[]⟩
def Qy2:An:=.t 1 (.t 1 (.two (.t 3 (.un (.lp [3,7,8] [] ⟨[],[]⟩ [(.x 0,⟨[],[]⟩)] (.t 1 (.two (.two (.gh (.tl .done) .nil) (.nil)) (.nil)))))) (.t 2 (.nil))))
def Qy3:Shp:=⟨[(0,.d (.sl Jr))],[]⟩
def Qse:Shp:=⟨[(0,.d (.sl Jr))],[]⟩
def Qy4:An:=.t 2 (.two (.dm 8 [3,4,5,6,7,8,9,10] [] (.n 2 (.call 0 (.n 5 (.tl (.n 3 .done)))))) (.nil))
def Qy5:Shp:=⟨[(0,.d Qk)],[]⟩
def Qsf:Shp:=⟨[(0,.ag (.cons (.d (.sl Jr)) (.cons (.s 1) (.cons (.s 2) (.nil)))))],[(1,.row 87 Yw),(2,.row 105 Yr)]⟩
def Qy6:An:=.t 1 (.two (.t 3 (.un (.lp [1,2,9,10,11] [] ⟨[],[]⟩ [(.r,⟨[(6,.d .bool)],[]⟩)] (.t 1 (.two (.two (.nil) (.gh (.tl .done) .nil)) (.two (.un (.t 4 (.t 15 (.two (.t 4 (.nil)) (.gh (.tl .done) .nil))))) (.nil))))))) (.nil))
def Qy7:Shp:=⟨[(0,.d (.sl Qz)),(1,.d .i),(2,.d .i)],[]⟩
def Qsg:Shp:=⟨[(0,.d .bool)],[]⟩
def Qy8:An:=.t 2 (.two (.reg (.n 1 (.call 0 (.n 2 .done)))) (.two (.two (.reg (.n 7 (.sp 24 6 [0,2,3,8,9] [5,8,9,11701,11702] ⟨[(30,.d .bool)],[]⟩ (.nl 5 (.n 1 .done)) (.nl 3 (.call 1 (.nl 1 (.n 1 .done)))) (.done)))) (.two (.t 2 (.nil)) (.gh (.tl .done) .nil))) (.nil)))
def Qy9:Shp:=⟨[(0,.d (.sl Qz)),(1,.d Qk),(2,.d .i),(3,.d .i)],[]⟩
def Qsh:Shp:=⟨[(0,.d Qk)],[]⟩
def Qhe:An:=.t 2 (.two (.two (.reg (.n 2 (.call 0 (.n 2 .done)))) (.un (.lp [2,12,13,14] [11201] ⟨[(6,.p 100000 [])],[(100000,.var 218 (.ag (.cons (.d Y8) (.cons (.d .str) (.cons (.ns) (.cons (.d .bool) (.cons (.d .bool) (.nil))))))))]⟩ [(.r,⟨[(6,.p 100100 []),(7,.d .bool)],[(100100,.var 218 (.d Kc))]⟩)] (.t 1 (.two (.two (.nil) (.gh (.tl .done) .nil)) (.two (.un (.t 4 (.two (.reg (.n 3 (.call 1 (.done)))) (.two (.t 3 (.nil)) (.gh (.tl .done) .nil))))) (.nil))))))) (.nil))
def Qhf:Shp:=⟨[(0,.d (.sl Qz)),(1,.d .i),(2,.d .i)],[]⟩
def Qd0:Shp:=⟨[(0,.d Kc),(1,.d .bool)],[]⟩
def Qza:An:=.t 1 (.t 8 (.nil))
def Qzb:Shp:=⟨[(0,.d .i),(1,.d .i)],[]⟩
def Qsi:Shp:=⟨[(0,.d .bool)],[]⟩
def Q63:An:=.t 1 (.t 1 (.two (.t 3 (.un (.lp [3,7,8] [] ⟨[],[]⟩ [(.x 0,⟨[],[]⟩)] (.t 1 (.two (.two (.gh (.tl .done) .nil) (.nil)) (.nil)))))) (.t 2 (.nil))))
def Q64:Shp:=⟨[(0,.d (.sl Jr))],[]⟩
def Qzc:Shp:=⟨[(0,.ns)],[]⟩
def Qzd:An:=.t 1 (.two (.t 4 (.two (.t 1 (.two (.t 2 (.un (.lp [2,7,8] [] ⟨[],[]⟩ [(.x 0,⟨[],[]⟩)] (.two (.t 3 (.two (.gh (.tl .done) .nil) (.nil))) (.nil))))) (.t 2 (.nil)))) (.gh (.tl .done) .nil))) (.nil))
def Qze:Shp:=⟨[(0,.d (.sl Jr)),(1,.d .i),(2,.d .i)],[]⟩
def Qsj:Shp:=⟨[(0,.ns)],[]⟩
def Qzf:An:=.t 3 (.two (.reg (.n 1 (.call 0 (.n 1 .done)))) (.t 1 (.t 3 (.two (.two (.reg (.n 3 (.call 1 (.n 2 .done)))) (.un (.lp [7,19,20,33,34] [] ⟨[],[]⟩ [(.x 0,⟨[],[]⟩)] (.t 1 (.two (.two (.gh (.tl .done) .nil) (.nil)) (.nil)))))) (.t 6 (.nil))))))
def Qzg:Shp:=⟨[(0,.d (.sl Jr)),(1,.d .i),(2,.d .i),(3,.d .i),(4,.d .str),(5,.d .bool),(6,.d .i),(7,.d .i)],[]⟩
def Qsk:Shp:=⟨[(0,.ns),(1,.ns),(2,.d .i)],[]⟩
def Qzh:An:=.t 2 (.two (.two (.reg (.n 2 (.call 0 (.n 3 .done)))) (.un (.lp [1,13,14,15] [11201,11202] ⟨[(6,.p 100000 [])],[(100000,.var 239 (.ag (.cons (.d .i) (.cons (.d .i) (.cons (.d .i) (.cons (.d .bool) (.cons (.d .bool) (.cons (.ns) (.nil)))))))))]⟩ [(.r,⟨[(6,.p 100100 []),(7,.d .bool)],[(100100,.var 239 (.d Yj))]⟩)] (.t 1 (.two (.two (.nil) (.gh (.tl .done) .nil)) (.two (.un (.t 4 (.t 4 (.two (.t 3 (.nil)) (.gh (.tl .done) .nil))))) (.nil))))))) (.nil))
def Qzi:Shp:=⟨[(0,.d (.sl Qz)),(1,.d .i),(2,.d .i)],[]⟩
def Qsl:Shp:=⟨[(0,.d Yj),(1,.d .bool)],[]⟩
def Qzj:An:=.t 4 (.two (.reg (.n 5 (.call 0 (.n 6 .done)))) (.two (.t 7 (.two (.t 1 (.nil)) (.gh (.tl .done) .nil))) (.nil)))
def Qzk:Shp:=⟨[(0,.d Ya),(1,.d Qk),(2,.d Wx),(3,.d .i)],[]⟩
def Qsm:Shp:=⟨[(0,.d .i)],[]⟩
def Qzl:An:=.t 1 (.two (.t 3 (.un (.lp [0,7,8] [] ⟨[(9,.d .i)],[]⟩ [(.x 0,⟨[],[]⟩)] (.t 1 (.two (.two (.nil) (.nil)) (.two (.un (.t 3 (.t 7 (.two (.gh (.tl .done) .nil) (.nil))))) (.reg (.n 2 .done)))))))) (.t 1 (.nil)))
def Qzm:Shp:=⟨[(0,.d .i),(1,.d (.sl .i))],[]⟩
def Qsn:Shp:=⟨[(0,.d .bool)],[]⟩
def Qzn:An:=.t 1 (.two (.t 3 (.two (.gh (.tl .done) .nil) (.nil))) (.two (.t 3 (.two (.gh (.tl .done) .nil) (.nil))) (.t 1 (.two (.t 3 (.un (.lp [0,12,13] [] ⟨[(3,.d .i),(14,.d .i)],[]⟩ [(.x 0,⟨[],[]⟩)] (.t 1 (.two (.two (.nil) (.nil)) (.two (.un (.t 6 (.two (.two (.reg (.n 5 (.call 0 (.n 7 (.sp 31 6 [3,4,5,14] [5] ⟨[(37,.d .bool)],[]⟩ (.nl 5 (.n 1 .done)) (.nl 3 (.call 0 (.nl 1 (.n 1 .done)))) (.done)))))) (.two (.gh (.tl .done) .nil) (.nil))) (.two (.t 9 (.two (.gh (.tl .done) .nil) (.nil))) (.two (.t 9 (.two (.gh (.tl .done) .nil) (.nil))) (.reg (.n 3 .done))))))) (.reg (.n 2 .done)))))))) (.t 1 (.nil))))))
def Qzo:Shp:=⟨[(0,.d (.sl Y4))],[]⟩
def Qso:Shp:=⟨[(0,.d .i)],[]⟩
def Qzp:An:=.t 2 (.t 2 (.two (.t 3 (.un (.lp [1,12,13] [] ⟨[(6,.d .i),(7,.d .i),(14,.d .i)],[]⟩ [(.x 0,⟨[(6,.d .i)],[]⟩)] (.t 1 (.two (.two (.nil) (.nil)) (.two (.un (.t 4 (.t 2 (.two (.t 3 (.two (.gh (.tl .done) .nil) (.nil))) (.two (.t 3 (.two (.nil) (.nil))) (.t 11 (.two (.two (.dr 7 (.n 7 .done) (.done)) (.two (.gh (.tl .done) .nil) (.nil))) (.t 7 (.reg (.n 2 .done)))))))))) (.reg (.n 2 .done)))))))) (.t 3 (.nil))))
def Qzq:Shp:=⟨[(0,.d (.sl Y4)),(1,.d .i)],[]⟩
def Qsp:Shp:=⟨[(0,.d .i),(1,.d .bool)],[]⟩
def Qzr:An:=.t 2 (.two (.two (.reg (.n 1 (.call 0 (.n 1 .done)))) (.two (.gh (.tl .done) .nil) (.nil))) (.two (.t 6 (.two (.gh (.tl .done) .nil) (.nil))) (.two (.reg (.n 2 (.call 1 (.n 5 .done)))) (.two (.t 2 (.two (.gh (.tl .done) .nil) (.nil))) (.t 3 (.nil))))))
def Qzs:Shp:=⟨[(0,.d (.sl Y4)),(1,.d .i)],[]⟩
def Qsq:Shp:=⟨[(0,.d .i),(1,.d .i)],[]⟩
def Qzt:An:=.t 3 (.two (.reg (.n 5 (.call 0 (.n 5 .done)))) (.two (.un (.t 3 (.two (.gh (.tl .done) .nil) (.t 3 (.two (.t 2 (.nil)) (.t 8 (.two (.gh (.tl .done) .nil) (.nil)))))))) (.t 8 (.nil))))
def Qzu:Shp:=⟨[(0,.d Xj),(1,.d .i)],[]⟩
def Qsr:Shp:=⟨[(0,.d .i),(1,.d .i)],[]⟩
def Qzv:An:=.t 3 (.two (.two (.reg (.n 1 (.call 0 (.n 2 (.sp 12 6 [1,2] [2] ⟨[(18,.d .bool)],[]⟩ (.nl 5 (.n 1 .done)) (.nl 3 (.call 0 (.nl 1 (.n 1 .done)))) (.n 9 (.sp 27 7 [1,2] [2] ⟨[(34,.d .bool)],[]⟩ (.nl 6 (.n 1 .done)) (.nl 4 (.call 0 (.nl 1 (.n 1 .done)))) (.done)))))))) (.two (.gh (.tl .done) .nil) (.nil))) (.two (.reg (.n 6 (.call 1 (.n 5 .done)))) (.two (.t 2 (.two (.gh (.tl .done) .nil) (.nil))) (.two (.reg (.n 4 (.call 1 (.n 5 .done)))) (.two (.t 2 (.two (.gh (.tl .done) .nil) (.nil))) (.t 5 (.nil)))))))
def Qzw:Shp:=⟨[(0,.d Xj),(1,.d .i)],[]⟩
def Qss:Shp:=⟨[(0,.d .i),(1,.d .i)],[]⟩
def Qzx:An:=.t 1 (.two (.reg (.n 2 (.call 0 (.n 5 .done)))) (.t 8 (.nil)))
def Qzy:Shp:=⟨[(0,.d .i),(1,.p 5000 []),(2,.p 5001 [])],[(5000,.var 321 (.d Xj)),(5001,.var 3 (.d .i))]⟩
def Qst:Shp:=⟨[(0,.d .bool)],[]⟩
def Qzz:An:=.t 3 (.t 2 (.two (.t 2 (.two (.gh (.tl .done) .nil) (.nil))) (.t 3 (.two (.un (.lp [7,9] [3,5] ⟨[(8,.d .i)],[]⟩ [(.x 0,⟨[(8,.d .i)],[]⟩)] (.two (.t 3 (.two (.nil) (.nil))) (.un (.t 7 (.two (.reg (.n 2 (.call 0 (.done)))) (.t 2 (.gh (.tl .done) .nil)))))))) (.t 2 (.nil))))))
def Qz0:Shp:=⟨[(0,.d Xj),(1,.d .i),(2,.d .i)],[]⟩
def Qsu:Shp:=⟨[(0,.d .i)],[]⟩
def Qz1:An:=.t 5 (.two (.t 14 (.two (.gh (.tl .done) .nil) (.nil))) (.t 1 (.two (.two (.reg (.n 2 (.call 0 (.done)))) (.two (.t 6 (.t 2 (.two (.two (.reg (.n 5 (.call 1 (.n 6 .done)))) (.two (.reg (.n 14 (.call 2 (.n 7 .done)))) (.reg (.n 4 .done)))) (.gh (.tl .done) .nil)))) (.gh (.tl .done) .nil))) (.two (.dm 12 [74,75,76,77,78,79,80,81,82,83,84,85] [] (.n 10 (.call 3 (.call 4 (.tl (.n 2 .done)))))) (.nil)))))
def Qz2:Shp:=⟨[(0,.d Ya),(1,.d Qk),(2,.d Wx),(3,.d .i),(4,.d .i)],[]⟩
def Qsv:Shp:=⟨[(0,.d .i),(1,.d .i)],[]⟩
def Qhg:An:=.t 2 (.two (.two (.reg (.n 2 (.call 0 (.n 3 .done)))) (.un (.lp [1,13,14,15] [11201,11202] ⟨[(6,.p 100000 [])],[(100000,.var 239 (.ag (.cons (.d .i) (.cons (.d .i) (.cons (.d .i) (.cons (.d .bool) (.cons (.d .bool) (.cons (.ns) (.nil)))))))))]⟩ [(.r,⟨[(6,.p 100100 []),(7,.d .bool)],[(100100,.var 239 (.d Yj))]⟩)] (.t 1 (.two (.two (.nil) (.gh (.tl .done) .nil)) (.two (.un (.t 4 (.t 4 (.two (.t 3 (.nil)) (.gh (.tl .done) .nil))))) (.nil))))))) (.nil))
def Qhh:Shp:=⟨[(0,.d (.sl Qz)),(1,.d .i),(2,.d .i)],[]⟩
def Qd1:Shp:=⟨[(0,.d Yj),(1,.d .bool)],[]⟩
def Q65:An:=.t 2 (.two (.dm 17 [15,16,17,18,19,20,21,22,23,24,25,26,27,28,29,30,31] [] (.n 16 (.call 0 (.tl (.n 3 .done))))) (.two (.dm 15 [34,35,36,37,38,39,40,41,42,43,44,45,46,47,48] [] (.n 14 (.call 1 (.tl (.n 3 .done))))) (.t 8 (.two (.dm 15 [59,60,61,62,63,64,65,66,67,68,58,69,70,9,1000000014] [] (.n 9 (.call 2 (.n 5 (.tl (.n 1 .done)))))) (.two (.un (.t 3 (.two (.gh (.tl .done) .nil) (.t 3 (.two (.gh (.tl .done) .nil) (.nil)))))) (.two (.dm 17 [78,79,80,81,82,83,84,85,86,87,88,89,90,77,91,92,11] [] (.n 12 (.call 3 (.n 4 (.tl (.n 1 .done)))))) (.two (.t 4 (.two (.gh (.tl .done) .nil) (.nil))) (.two (.t 2 (.two (.gh (.tl .done) .nil) (.nil))) (.two (.two (.dm 15 [148,149,150,151,152,153,154,155,156,157,147,158,159,13,1000000014] [] (.n 9 (.call 4 (.n 5 (.tl (.n 1 .done)))))) (.t 5 (.two (.gh (.tl .done) .nil) (.nil)))) (.t 8 (.t 1 (.nil))))))))))))
def Q66:Shp:=⟨[(0,.p 5000 []),(1,.d Ya),(2,.d .i),(3,.d .i)],[(5000,.var 162 (.d Vn))]⟩
def Qz3:Shp:=⟨[(0,.d .i)],[(5000,.var 162 (.d Vn))]⟩
def Q67:An:=.t 4 (.t 10 (.two (.dm 9 [22,23,24,25,26,27,28,29,1000000008] [5000] (.n 9 (.tl (.n 4 .done)))) (.two (.dm 11 [33,34,35,36,37,38,39,40,41,1000000009,1000000010] [10,11] (.n 11 (.tl (.n 1 .done)))) (.nil))))
def Q68:Shp:=⟨[(0,.p 5000 []),(1,.d J5),(2,.d .i),(3,.d .i),(4,.d .i)],[(5000,.var 162 (.d Vn))]⟩
def Qz4:Shp:=⟨[(0,.d Qk),(1,.d Qj),(2,.d Yd)],[(5000,.var 162 (.d Vn))]⟩
def Q69:An:=.t 4 (.t 1 (.two (.t 6 (.t 6 (.gh (.tl .done) .nil))) (.two (.dc 13 [21,22,23,24,25,26,27,28,29,30,31,32,33] [4,5000] [] (.op ⟨.nl 1 .done,[],[],[],[5000]⟩ (.op ⟨.nl 1 .done,[],[4],[],[]⟩ (.op ⟨.nl 1 .done,[],[],[],[5000]⟩ (.op ⟨.nl 1 .done,[],[5000],[],[5000]⟩ (.op ⟨.nl 1 .done,[],[],[],[5000]⟩ (.op ⟨.nl 1 .done,[],[],[],[5000]⟩ (.op ⟨.nl 1 .done,[],[5000],[],[]⟩ (.op ⟨.nl 1 .done,[],[],[],[]⟩ (.op ⟨.nl 1 .done,[],[],[],[]⟩ (.op ⟨.call 0 (.done),[5000],[],[],[5000]⟩ (.op ⟨.nl 1 .done,[],[],[],[]⟩ (.op ⟨.nl 1 .done,[],[],[],[]⟩ (.op ⟨.nl 1 .done,[],[],[],[]⟩ (.tl (.n 3 .done)))))))))))))))) (.nil))))
def Q7a:Shp:=⟨[(0,.p 5000 []),(1,.d J5),(2,.d .i)],[(5000,.var 162 (.d Vn))]⟩
def Qz5:Shp:=⟨[(0,.d Qk),(1,.d Qj),(2,.d Yd)],[(5000,.var 162 (.d Vn))]⟩
def Q7b:An:=.t 6 (.t 1 (.two (.t 3 (.two (.gh (.tl .done) .nil) (.nil))) (.t 1 (.two (.un (.t 9 (.two (.gh (.tl .done) .nil) (.t 9 (.two (.gh (.tl .done) .nil) (.t 4 (.two (.gh (.tl .done) .nil) (.t 15 (.two (.gh (.tl .done) .nil) (.nil)))))))))) (.two (.t 2 (.two (.gh (.tl .done) .nil) (.nil))) (.two (.reg (.n 10 (.call 0 (.n 6 .done)))) (.two (.t 2 (.two (.gh (.tl .done) .nil) (.nil))) (.two (.reg (.n 7 (.call 1 (.n 1 .done)))) (.two (.reg (.n 6 (.call 2 (.n 1 .done)))) (.two (.t 3 (.two (.two (.reg (.n 3 (.call 3 (.n 6 .done)))) (.nil)) (.gh (.tl .done) .nil))) (.nil)))))))))))
def Q7c:Shp:=⟨[(0,.d Ya),(1,.d Qk),(2,.d J5)],[]⟩
def Qz6:Shp:=⟨[(0,.d Qk),(1,.d Qj),(2,.d Yd)],[]⟩
def Q7d:An:=.t 2 (.two (.dr 7 (.n 7 .done) (.n 1 .done)) (.two (.gh (.fz 5001 (.fz 5002 (.fz 5003 (.done)))) (.dm 19 [16,17,18,19,20,21,22,23,24,25,15,26,27,28,5,6,7,1000000017,1000000018] [] (.n 9 (.call 0 (.n 9 (.tl (.n 1 .done))))))) (.two (.dc 14 [29,30,31,32,33,34,35,36,37,38,39,1000000011,40,41] [5000,3,5,6,5004] [] (.op ⟨.nl 1 .done,[],[],[],[5000]⟩ (.op ⟨.nl 1 .done,[],[],[],[5000]⟩ (.op ⟨.nl 1 .done,[],[5000],[],[5000]⟩ (.op ⟨.nl 1 .done,[],[],[],[5000]⟩ (.op ⟨.nl 1 .done,[],[5000],[],[5004]⟩ (.op ⟨.nl 1 .done,[],[],[],[3]⟩ (.op ⟨.nl 1 .done,[],[3],[],[]⟩ (.op ⟨.nl 1 .done,[],[5],[],[]⟩ (.op ⟨.nl 1 .done,[],[6],[],[]⟩ (.op ⟨.nl 1 .done,[],[5000],[],[5000]⟩ (.op ⟨.nl 1 .done,[],[],[],[5000]⟩ (.op ⟨.nl 1 .done,[5000],[],[],[5000,5001,5002,5003,5004]⟩ (.op ⟨.br (.done),[5004],[],[40],[40,5004]⟩ (.op ⟨.nl 1 .done,[],[],[],[40]⟩ (.tl (.br (.done)))))))))))))))))) (.two (.t 3 (.two (.gh (.tl .done) .nil) (.nil))) (.t 2 (.nil))))))
def Q7e:Shp:=⟨[(0,.p 5000 []),(1,.d J5)],[(5000,.var 54 (.ag (.cons (.ag (.cons (.d (.sl Qz)) (.cons (.s 5001) (.cons (.s 5002) (.cons (.d (.sl Vj)) (.cons (.d (.sl .i)) (.cons (.s 5003) (.nil)))))))) (.cons (.d Qk) (.cons (.m 5004) (.nil)))))),(5001,.row 131 Jd),(5002,.row 135 Jq),(5003,.row 142 Jc),(5004,.map .i Qj)]⟩
def Qz7:Shp:=⟨[(0,.d Yd)],[(5000,.var 54 (.ag (.cons (.ag (.cons (.d (.sl Qz)) (.cons (.s 1) (.cons (.s 2) (.cons (.d (.sl Vj)) (.cons (.d (.sl .i)) (.cons (.s 3) (.nil)))))))) (.cons (.d Qk) (.cons (.m 5004) (.nil)))))),(5004,.map .i Qj),(1,.tail 131 Jd),(2,.tail 135 Jq),(3,.tail 142 Jc)]⟩
def Q7f:An:=.t 2 (.t 7 (.nil))
def Q7g:Shp:=⟨[(0,.d J5),(1,.d .i)],[]⟩
def Qz8:Shp:=⟨[(0,.d Yd)],[]⟩
def Q7h:An:=.t 3 (.two (.un (.t 5 (.two (.gh (.tl .done) .nil) (.t 6 (.two (.gh (.tl .done) .nil) (.t 3 (.two (.gh (.tl .done) .nil) (.t 7 (.two (.t 1 (.nil)) (.gh (.tl .done) .nil)))))))))) (.nil))
def Q7i:Shp:=⟨[(0,.d Qj),(1,.d J5),(2,.d .i),(3,.d .i)],[]⟩
def Qz9:Shp:=⟨[(0,.d .i)],[]⟩
def Qmr:An:=.t 2 (.two (.dm 11 [5,6,7,8,9,10,11,12,13,14,3] [] (.n 2 (.call 0 (.n 2 (.call 1 (.n 2 (.call 2 (.n 2 (.tl (.n 1 .done)))))))))) (.two (.t 4 (.un (.lp [2,3,17,18] [1,2,3] ⟨[],[]⟩ [(.x 0,⟨[],[]⟩)] (.t 1 (.two (.two (.gh (.tl .done) .nil) (.nil)) (.nil)))))) (.t 2 (.nil))))
def Qms:Shp:=⟨[(0,.d Qk)],[]⟩
def Qhi:Shp:=⟨[(0,.d Qk)],[]⟩
def Q7j:An:=.t 6 (.two (.dm 12 [11,12,13,14,15,16,17,18,19,20,1000000010,1000000011] [8,9] (.n 1 (.call 0 (.n 1 (.call 1 (.n 8 (.tl (.n 1 .done)))))))) (.nil))
def Q7k:Shp:=⟨[(0,.d Qk),(1,.d Qj),(2,.d J5),(3,.d .i)],[]⟩
def Q0a:Shp:=⟨[(0,.d Qk),(1,.d Qj),(2,.d Yd)],[]⟩
def Q7l:An:=.t 7 (.two (.two (.reg (.n 2 (.call 0 (.n 1 .done)))) (.t 2 (.two (.two (.reg (.n 4 (.call 1 (.n 6 .done)))) (.nil)) (.gh (.tl .done) .nil)))) (.nil))
def Q7m:Shp:=⟨[(0,.d Ya),(1,.d Qk),(2,.d Qj),(3,.d J5)],[]⟩
def Q0b:Shp:=⟨[(0,.d Qk),(1,.d Qj),(2,.d Yd)],[]⟩
def Qmt:An:=.t 2 (.two (.two (.reg (.n 1 (.call 0 (.n 1 .done)))) (.two (.t 2 (.nil)) (.nil))) (.two (.t 8 (.two (.gh (.tl .done) .nil) (.nil))) (.two (.dm 12 [23,24,25,26,27,28,29,22,30,31,5,1000000011] [] (.n 12 (.tl (.n 1 .done)))) (.two (.un (.t 9 (.two (.t 3 (.nil)) (.t 9 (.two (.two (.t 1 (.two (.gh (.tl .done) .nil) (.nil))) (.two (.reg (.n 2 (.call 1 (.n 1 .done)))) (.nil))) (.t 3 (.two (.two (.reg (.n 1 (.call 2 (.n 1 .done)))) (.nil)) (.nil)))))))) (.t 1 (.two (.t 3 (.two (.gh (.tl .done) .nil) (.gh (.fz 5001 (.dt 5000 (.fz 5002 (.dt 5000 (.fz 5003 (.dt 5000 (.done))))))) (.dc 26 [91,92,93,94,95,96,97,98,99,100,101,102,103,104,105,106,107,108,90,109,110,111,112,113,1000000024,1000000025] [5000,3,5,5004] [] (.op ⟨.nl 1 .done,[],[],[],[5000]⟩ (.op ⟨.nl 1 .done,[],[],[],[5000]⟩ (.op ⟨.nl 1 .done,[],[5000],[],[5000]⟩ (.op ⟨.nl 1 .done,[],[],[],[5000]⟩ (.op ⟨.nl 1 .done,[],[5000],[],[5004]⟩ (.op ⟨.nl 1 .done,[],[],[],[3]⟩ (.op ⟨.nl 1 .done,[],[3],[],[]⟩ (.op ⟨.nl 1 .done,[],[],[],[5000]⟩ (.op ⟨.nl 1 .done,[],[5000],[],[5000]⟩ (.op ⟨.nl 1 .done,[],[],[],[5000]⟩ (.op ⟨.nl 1 .done,[],[5000],[],[]⟩ (.op ⟨.nl 1 .done,[],[],[],[5000]⟩ (.op ⟨.nl 1 .done,[],[5000],[],[5000]⟩ (.op ⟨.nl 1 .done,[],[],[],[5000]⟩ (.op ⟨.nl 1 .done,[],[5000],[],[]⟩ (.op ⟨.nl 1 .done,[],[5],[],[]⟩ (.op ⟨.nl 1 .done,[],[3],[],[]⟩ (.op ⟨.call 3 (.done),[],[],[],[]⟩ (.op ⟨.nl 1 .done,[],[],[],[]⟩ (.op ⟨.nl 1 .done,[],[],[],[]⟩ (.op ⟨.nl 1 .done,[],[],[],[]⟩ (.op ⟨.nl 1 .done,[],[],[],[]⟩ (.op ⟨.nl 1 .done,[],[5000],[],[5000]⟩ (.op ⟨.nl 1 .done,[],[],[],[5000]⟩ (.op ⟨.nl 1 .done,[5000],[],[],[5000,5004]⟩ (.op ⟨.nl 1 .done,[5004],[],[],[5004]⟩ (.tl (.n 1 .done)))))))))))))))))))))))))))))))) (.t 2 (.nil))))))))
def Qmu:Shp:=⟨[(0,.p 5000 []),(1,.d J5)],[(5000,.var 54 (.ag (.cons (.ag (.cons (.d (.sl Qz)) (.cons (.s 5001) (.cons (.s 5002) (.cons (.d (.sl Vj)) (.cons (.d (.sl .i)) (.cons (.s 5003) (.nil)))))))) (.cons (.d Qk) (.cons (.m 5004) (.nil)))))),(5001,.row 131 Jd),(5002,.row 135 Jq),(5003,.row 142 Jc),(5004,.map .i Qj)]⟩
def Qhj:Shp:=⟨[(0,.d Yd)],[(5000,.var 54 (.ag (.cons (.ag (.cons (.d (.sl Qz)) (.cons (.d (.sl Jd)) (.cons (.d (.sl Jq)) (.cons (.d (.sl Vj)) (.cons (.d (.sl .i)) (.cons (.d (.sl Jc)) (.nil)))))))) (.cons (.d Qk) (.cons (.m 5004) (.nil)))))),(5004,.map .i Qj)]⟩
def Qmv:An:=.t 1 (.two (.reg (.n 3 (.nl 5 (.n 2 .done)))) (.nil))
def Qmw:Shp:=⟨[(0,.p 5000 [])],[(5000,.var 54 (.ag (.cons (.d Ya) (.cons (.d Qk) (.cons (.m 5001) (.nil)))))),(5001,.map .i Qj)]⟩
def Qhk:Shp:=⟨[(0,.d .bool)],[]⟩
def Qmx:An:=.t 2 (.two (.dr 7 (.n 7 .done) (.n 1 .done)) (.two (.dm 19 [16,17,18,19,20,21,22,23,24,25,15,26,27,28,5,6,7,1000000017,1000000018] [] (.n 9 (.call 0 (.n 9 (.tl (.n 1 .done)))))) (.two (.dc 14 [29,30,31,32,33,34,35,36,37,38,39,1000000011,40,41] [5000,3,5,6,5001] [] (.op ⟨.nl 1 .done,[],[],[],[5000]⟩ (.op ⟨.nl 1 .done,[],[],[],[5000]⟩ (.op ⟨.nl 1 .done,[],[5000],[],[5000]⟩ (.op ⟨.nl 1 .done,[],[],[],[5000]⟩ (.op ⟨.nl 1 .done,[],[5000],[],[5001]⟩ (.op ⟨.nl 1 .done,[],[],[],[3]⟩ (.op ⟨.nl 1 .done,[],[3],[],[]⟩ (.op ⟨.nl 1 .done,[],[5],[],[]⟩ (.op ⟨.nl 1 .done,[],[6],[],[]⟩ (.op ⟨.nl 1 .done,[],[5000],[],[5000]⟩ (.op ⟨.nl 1 .done,[],[],[],[5000]⟩ (.op ⟨.nl 1 .done,[5000],[],[],[5000,5001]⟩ (.op ⟨.br (.done),[5001],[],[40],[40,5001]⟩ (.op ⟨.nl 1 .done,[],[],[],[40]⟩ (.tl (.br (.done)))))))))))))))))) (.two (.t 3 (.two (.gh (.tl .done) .nil) (.nil))) (.t 2 (.nil))))))
def Qmy:Shp:=⟨[(0,.p 5000 []),(1,.d J5)],[(5000,.var 54 (.ag (.cons (.d Ya) (.cons (.d Qk) (.cons (.m 5001) (.nil)))))),(5001,.map .i Qj)]⟩
def Qhl:Shp:=⟨[(0,.d Yd)],[(5000,.var 54 (.ag (.cons (.d Ya) (.cons (.d Qk) (.cons (.m 5001) (.nil)))))),(5001,.map .i Qj)]⟩
def Qmz:An:=.t 2 (.two (.two (.reg (.n 1 (.call 0 (.n 1 .done)))) (.two (.t 2 (.nil)) (.nil))) (.two (.t 8 (.two (.gh (.tl .done) .nil) (.nil))) (.two (.dm 12 [23,24,25,26,27,28,29,22,30,31,5,1000000011] [] (.n 12 (.tl (.n 1 .done)))) (.two (.un (.t 9 (.two (.t 3 (.nil)) (.t 9 (.two (.two (.t 1 (.two (.gh (.tl .done) .nil) (.nil))) (.two (.reg (.n 2 (.call 1 (.n 1 .done)))) (.nil))) (.t 3 (.two (.two (.reg (.n 1 (.call 2 (.n 1 .done)))) (.nil)) (.nil)))))))) (.t 1 (.two (.t 3 (.two (.gh (.tl .done) .nil) (.dc 26 [91,92,93,94,95,96,97,98,99,100,101,102,103,104,105,106,107,108,90,109,110,111,112,113,1000000024,1000000025] [5000,3,5,5001] [] (.op ⟨.nl 1 .done,[],[],[],[5000]⟩ (.op ⟨.nl 1 .done,[],[],[],[5000]⟩ (.op ⟨.nl 1 .done,[],[5000],[],[5000]⟩ (.op ⟨.nl 1 .done,[],[],[],[5000]⟩ (.op ⟨.nl 1 .done,[],[5000],[],[5001]⟩ (.op ⟨.nl 1 .done,[],[],[],[3]⟩ (.op ⟨.nl 1 .done,[],[3],[],[]⟩ (.op ⟨.nl 1 .done,[],[],[],[5000]⟩ (.op ⟨.nl 1 .done,[],[5000],[],[5000]⟩ (.op ⟨.nl 1 .done,[],[],[],[5000]⟩ (.op ⟨.nl 1 .done,[],[5000],[],[]⟩ (.op ⟨.nl 1 .done,[],[],[],[5000]⟩ (.op ⟨.nl 1 .done,[],[5000],[],[5000]⟩ (.op ⟨.nl 1 .done,[],[],[],[5000]⟩ (.op ⟨.nl 1 .done,[],[5000],[],[]⟩ (.op ⟨.nl 1 .done,[],[5],[],[]⟩ (.op ⟨.nl 1 .done,[],[3],[],[]⟩ (.op ⟨.call 3 (.done),[],[],[],[]⟩ (.op ⟨.nl 1 .done,[],[],[],[]⟩ (.op ⟨.nl 1 .done,[],[],[],[]⟩ (.op ⟨.nl 1 .done,[],[],[],[]⟩ (.op ⟨.nl 1 .done,[],[],[],[]⟩ (.op ⟨.nl 1 .done,[],[5000],[],[5000]⟩ (.op ⟨.nl 1 .done,[],[],[],[5000]⟩ (.op ⟨.nl 1 .done,[5000],[],[],[5000,5001]⟩ (.op ⟨.nl 1 .done,[5001],[],[],[5001]⟩ (.tl (.n 1 .done))))))))))))))))))))))))))))))) (.t 2 (.nil))))))))
def Qm0:Shp:=⟨[(0,.p 5000 []),(1,.d J5)],[(5000,.var 54 (.ag (.cons (.d Ya) (.cons (.d Qk) (.cons (.m 5001) (.nil)))))),(5001,.map .i Qj)]⟩
def Qhm:Shp:=⟨[(0,.d Yd)],[(5000,.var 54 (.ag (.cons (.d Ya) (.cons (.d Qk) (.cons (.m 5001) (.nil)))))),(5001,.map .i Qj)]⟩
def Qm1:An:=.t 2 (.two (.two (.reg (.n 1 (.call 0 (.n 1 .done)))) (.two (.t 2 (.nil)) (.nil))) (.two (.t 8 (.two (.gh (.tl .done) .nil) (.nil))) (.two (.dm 12 [23,24,25,26,27,28,29,22,30,31,5,1000000011] [] (.n 12 (.tl (.n 1 .done)))) (.two (.un (.t 9 (.two (.t 3 (.nil)) (.t 9 (.two (.two (.t 1 (.two (.gh (.tl .done) .nil) (.nil))) (.two (.reg (.n 2 (.call 1 (.n 1 .done)))) (.nil))) (.t 3 (.two (.two (.reg (.n 1 (.call 2 (.n 1 .done)))) (.nil)) (.nil)))))))) (.t 1 (.two (.t 3 (.two (.gh (.tl .done) .nil) (.dc 26 [91,92,93,94,95,96,97,98,99,100,101,102,103,104,105,106,107,108,90,109,110,111,112,113,1000000024,1000000025] [5000,3,5,5001] [] (.op ⟨.nl 1 .done,[],[],[],[5000]⟩ (.op ⟨.nl 1 .done,[],[],[],[5000]⟩ (.op ⟨.nl 1 .done,[],[5000],[],[5000]⟩ (.op ⟨.nl 1 .done,[],[],[],[5000]⟩ (.op ⟨.nl 1 .done,[],[5000],[],[5001]⟩ (.op ⟨.nl 1 .done,[],[],[],[3]⟩ (.op ⟨.nl 1 .done,[],[3],[],[]⟩ (.op ⟨.nl 1 .done,[],[],[],[5000]⟩ (.op ⟨.nl 1 .done,[],[5000],[],[5000]⟩ (.op ⟨.nl 1 .done,[],[],[],[5000]⟩ (.op ⟨.nl 1 .done,[],[5000],[],[]⟩ (.op ⟨.nl 1 .done,[],[],[],[5000]⟩ (.op ⟨.nl 1 .done,[],[5000],[],[5000]⟩ (.op ⟨.nl 1 .done,[],[],[],[5000]⟩ (.op ⟨.nl 1 .done,[],[5000],[],[]⟩ (.op ⟨.nl 1 .done,[],[5],[],[]⟩ (.op ⟨.nl 1 .done,[],[3],[],[]⟩ (.op ⟨.call 3 (.done),[],[],[],[]⟩ (.op ⟨.nl 1 .done,[],[],[],[]⟩ (.op ⟨.nl 1 .done,[],[],[],[]⟩ (.op ⟨.nl 1 .done,[],[],[],[]⟩ (.op ⟨.nl 1 .done,[],[],[],[]⟩ (.op ⟨.nl 1 .done,[],[5000],[],[5000]⟩ (.op ⟨.nl 1 .done,[],[],[],[5000]⟩ (.op ⟨.nl 1 .done,[5000],[],[],[5000,5001]⟩ (.op ⟨.nl 1 .done,[5001],[],[],[5001]⟩ (.tl (.n 1 .done))))))))))))))))))))))))))))))) (.t 2 (.nil))))))))
def Qm2:Shp:=⟨[(0,.p 5000 []),(1,.d J5)],[(5000,.var 54 (.ag (.cons (.d Ya) (.cons (.d Qk) (.cons (.m 5001) (.nil)))))),(5001,.map .i Qj)]⟩
def Qhn:Shp:=⟨[(0,.d Yd)],[(5000,.var 54 (.ag (.cons (.d Ya) (.cons (.d Qk) (.cons (.m 5001) (.nil)))))),(5001,.map .i Qj)]⟩
def Qm3:An:=.t 2 (.t 2 (.nil))
def Qm4:Shp:=⟨[(0,.m 5000)],[(5000,.map .i Qj)]⟩
def Qho:Shp:=⟨[(0,.f 129 (.cons (.p 1 []) (.nil)))],[(5000,.map .i Qj),(1,.var 52 (.m 5000))]⟩
def Qm5:An:=.t 1 (.two (.reg (.n 4 (.call 0 (.call 1 (.n 1 .done))))) (.nil))
def Qm6:Shp:=⟨[(0,.p 5000 [])],[(5000,.var 54 (.ag (.cons (.d Ya) (.cons (.d Qk) (.cons (.m 5001) (.nil)))))),(5001,.map .i Qj)]⟩
def Qhp:Shp:=⟨[(0,.d (.sl .i))],[(5001,.map .i Qj)]⟩
def Q0c:An:=.t 4 (.two (.two (.reg (.n 1 (.call 0 (.n 2 (.sp 15 5 [1,2,3,6] [3,6] ⟨[(20,.d .bool)],[]⟩ (.nl 4 (.n 1 .done)) (.nl 2 (.call 0 (.nl 1 (.n 1 .done)))) (.n 7 .done)))))) (.two (.gh (.tl .done) .nil) (.nil))) (.two (.reg (.n 3 (.call 1 (.n 5 .done)))) (.two (.t 2 (.two (.gh (.tl .done) .nil) (.nil))) (.t 3 (.two (.dm 10 [41,42,43,44,45,46,47,48,49,1000000009] [11] (.n 10 (.tl (.n 2 .done)))) (.two (.reg (.n 3 (.call 2 (.n 3 .done)))) (.t 5 (.nil))))))))
def Q0d:Shp:=⟨[(0,.d Wx),(1,.d .i),(2,.d .i)],[]⟩
def Qsw:Shp:=⟨[(0,.ag (.cons (.d .i) (.cons (.d .i) (.cons (.d .i) (.cons (.d .str) (.cons (.d .str) (.cons (.d .i) (.cons (.ag (.cons (.d .i) (.cons (.d .str) (.cons (.d .str) (.cons (.d .i) (.cons (.s 1) (.nil))))))) (.cons (.d .i) (.cons (.d .i) (.nil))))))))))),(1,.d .i),(2,.d .i)],[(1,.row 153 Y4)]⟩
def Q0e:An:=.t 1 (.two (.t 3 (.un (.lp [7,8] [] ⟨[],[]⟩ [(.x 0,⟨[],[]⟩)] (.t 1 (.two (.two (.gh (.tl .done) .nil) (.nil)) (.nil)))))) (.t 1 (.nil)))
def Q0f:Shp:=⟨[(0,.d (.sl Yw)),(1,.f 199 (.cons (.p 5000 []) (.nil)))],[(5000,.var 157 (.p 5001 [])),(5001,.var 162 (.ag (.cons (.ag (.cons (.d .i) (.cons (.d .i) (.cons (.d .i) (.cons (.d .i) (.cons (.ag (.cons (.d .i) (.cons (.d .i) (.cons (.d .i) (.cons (.d .str) (.cons (.d .str) (.cons (.d .i) (.cons (.ag (.cons (.d .i) (.cons (.d .str) (.cons (.d .str) (.cons (.d .i) (.cons (.s 5002) (.nil))))))) (.cons (.d .i) (.cons (.d .i) (.nil))))))))))) (.cons (.d .i) (.cons (.d (.sl X4)) (.cons (.d .i) (.cons (.d .i) (.cons (.d .bool) (.cons (.d Yd) (.nil))))))))))))) (.cons (.d Qk) (.nil))))),(5002,.row 153 Y4)]⟩
def Qsx:Shp:=⟨[(0,.d .i)],[]⟩
def Q0g:An:=.t 2 (.two (.reg (.n 6 (.call 0 (.n 1 .done)))) (.nil))
def Q0h:Shp:=⟨[(0,.p 5000 [])],[(5000,.var 162 (.ag (.cons (.ag (.cons (.d .i) (.cons (.d .i) (.cons (.d .i) (.cons (.d .i) (.cons (.ag (.cons (.d .i) (.cons (.d .i) (.cons (.d .i) (.cons (.d .str) (.cons (.d .str) (.cons (.d .i) (.cons (.ag (.cons (.d .i) (.cons (.d .str) (.cons (.d .str) (.cons (.d .i) (.cons (.s 5001) (.nil))))))) (.cons (.d .i) (.cons (.d .i) (.nil))))))))))) (.cons (.d .i) (.cons (.d (.sl X4)) (.cons (.d .i) (.cons (.d .i) (.cons (.d .bool) (.cons (.d Yd) (.nil))))))))))))) (.cons (.d Qk) (.nil))))),(5001,.row 153 Y4)]⟩
def Qsy:Shp:=⟨[(0,.d .i)],[]⟩
def Q7n:An:=.t 3 (.two (.t 7 (.un (.lp [0,1,4,5,24,25] [18,5000] ⟨[],[]⟩ [(.x 0,⟨[],[]⟩)] (.t 1 (.two (.two (.gh (.tl .done) .nil) (.nil)) (.nil)))))) (.two (.t 3 (.two (.gh (.tl .done) .nil) (.nil))) (.t 1 (.two (.two (.reg (.n 9 (.call 0 (.n 8 .done)))) (.t 2 (.t 8 (.gh (.tl .done) .nil)))) (.t 11 (.two (.two (.reg (.n 1 (.call 1 (.n 1 .done)))) (.t 10 (.two (.gh (.tl .done) .nil) (.nil)))) (.reg (.n 15 .done))))))))
def Q7o:Shp:=⟨[(0,.p 5000 []),(1,.d .i)],[(5000,.var 162 (.d Vn))]⟩
def Q0i:Shp:=⟨[],[(5000,.var 162 (.ag (.cons (.ag (.cons (.d .i) (.cons (.d .i) (.cons (.d .i) (.cons (.d .i) (.cons (.ag (.cons (.d .i) (.cons (.d .i) (.cons (.d .i) (.cons (.d .str) (.cons (.d .str) (.cons (.d .i) (.cons (.ag (.cons (.d .i) (.cons (.d .str) (.cons (.d .str) (.cons (.d .i) (.cons (.s 1) (.nil))))))) (.cons (.d .i) (.cons (.d .i) (.nil))))))))))) (.cons (.d .i) (.cons (.ns) (.cons (.d .i) (.cons (.d .i) (.cons (.d .bool) (.cons (.d Yd) (.nil))))))))))))) (.cons (.d Qk) (.nil))))),(1,.row 153 Y4)]⟩
def Q7p:An:=.t 4 (.two (.reg (.n 2 (.call 0 (.n 1 .done)))) (.two (.t 3 (.two (.two (.reg (.n 3 (.call 1 (.done)))) (.reg (.n 5 .done))) (.gh (.tl .done) .nil))) (.two (.dm 9 [21,22,23,24,25,26,27,28,1000000008] [4] (.n 9 (.tl (.n 1 .done)))) (.nil))))
def Q7q:Shp:=⟨[(0,.d Qk),(1,.d Qj)],[]⟩
def Q0j:Shp:=⟨[(0,.d Qk),(1,.d Qj)],[]⟩
def Qm7:An:=.t 1 (.two (.two (.reg (.n 1 (.call 0 (.n 1 .done)))) (.two (.t 1 (.nil)) (.nil))) (.t 1 (.two (.two (.reg (.n 1 (.call 1 (.n 2 .done)))) (.un (.lp [1,13,14] [] ⟨[(0,.p 5000 []),(5,.s 100002),(15,.d .i)],[(5000,.var 54 (.ag (.cons (.d Ya) (.cons (.d Qk) (.cons (.m 5001) (.nil)))))),(5001,.map .i Qj),(100002,.row 3 .i)]⟩ [(.x 0,⟨[(5,.s 100102)],[(5000,.var 54 (.ag (.cons (.d Ya) (.cons (.d Qk) (.cons (.m 5001) (.nil)))))),(5001,.map .i Qj),(100102,.row 3 .i)]⟩)] (.t 1 (.two (.two (.nil) (.nil)) (.two (.un (.t 3 (.t 8 (.t 9 (.two (.two (.dm 18 [35,36,37,38,39,40,41,42,43,44,45,46,34,47,48,49,50,1000000017] [5000] (.n 11 (.call 2 (.n 6 (.tl (.n 1 .done)))))) (.reg (.n 5 .done))) (.gh (.tl .done) .nil)))))) (.reg (.n 2 .done)))))))) (.t 2 (.nil)))))
def Qm8:Shp:=⟨[(0,.p 5000 []),(1,.d .i)],[(5000,.var 54 (.ag (.cons (.d Ya) (.cons (.d Qk) (.cons (.m 5001) (.nil)))))),(5001,.map .i Qj)]⟩
def Qhq:Shp:=⟨[(0,.s 1)],[(5000,.var 54 (.ag (.cons (.d Ya) (.cons (.d Qk) (.cons (.m 5001) (.nil)))))),(5001,.map .i Qj),(1,.row 3 .i)]⟩
def Q7r:An:=.t 2 (.two (.reg (.n 2 (.call 0 (.n 2 .done)))) (.two (.reg (.n 4 (.call 1 (.n 4 .done)))) (.t 2 (.nil))))
def Q7s:Shp:=⟨[(0,.d Qj)],[]⟩
def Q0k:Shp:=⟨[(0,.ag (.cons (.d .i) (.cons (.d .i) (.cons (.d .i) (.cons (.d .i) (.cons (.ag (.cons (.d .i) (.cons (.d .i) (.cons (.d .i) (.cons (.d .str) (.cons (.d .str) (.cons (.d .i) (.cons (.ag (.cons (.d .i) (.cons (.d .str) (.cons (.d .str) (.cons (.d .i) (.cons (.s 1) (.nil))))))) (.cons (.d .i) (.cons (.d .i) (.nil))))))))))) (.cons (.d .i) (.cons (.s 2) (.cons (.d .i) (.cons (.d .i) (.cons (.d .bool) (.cons (.d Yd) (.nil)))))))))))))],[(1,.row 153 Y4),(2,.row 91 X4)]⟩
def Qm9:An:=.t 1 (.two (.two (.reg (.n 1 (.call 0 (.n 1 .done)))) (.two (.t 1 (.nil)) (.nil))) (.t 1 (.two (.two (.reg (.n 1 (.call 1 (.n 2 .done)))) (.un (.lp [0,10,11] [5001] ⟨[(3,.s 100000),(12,.d .i)],[(100000,.row 39 Qj)]⟩ [(.x 0,⟨[(3,.s 100100)],[(100100,.row 39 Qj)]⟩)] (.t 1 (.two (.two (.nil) (.nil)) (.two (.un (.t 3 (.reg (.n 7 (.call 2 (.fz 12301 (.fz 12302 (.n 3 .done)))))))) (.reg (.n 2 .done)))))))) (.t 2 (.nil)))))
def Qna:Shp:=⟨[(0,.p 5000 [])],[(5000,.var 54 (.ag (.cons (.d Ya) (.cons (.d Qk) (.cons (.m 5001) (.nil)))))),(5001,.map .i Qj)]⟩
def Qhr:Shp:=⟨[(0,.s 1)],[(5001,.map .i Qj),(1,.row 39 Qj)]⟩
def Qnb:An:=.t 1 (.two (.two (.reg (.n 1 (.call 0 (.n 1 .done)))) (.two (.t 1 (.nil)) (.nil))) (.t 1 (.two (.mp (.n 4 .done) [1] [] ⟨[(5,.d .i)],[]⟩ [] (.n 3 .done) (.t 5 (.t 5 (.gh (.tl .done) .nil)))) (.t 2 (.nil)))))
def Qnc:Shp:=⟨[(0,.p 5000 []),(1,.d .i)],[(5000,.var 54 (.ag (.cons (.d Ya) (.cons (.d Qk) (.cons (.m 5001) (.nil)))))),(5001,.map .i Qj)]⟩
def Qhs:Shp:=⟨[(0,.d .i)],[]⟩
def Bh:An:=.t 1 (.two (.reg (.call 0 (.n 1 (.call 1 (.n 1 .done))))) (.two (.t 2 (.two (.nil) (.nil))) (.t 3 (.two (.dc 8 [14,15,16,17,18,19,3,4] [2,11001,11002,11003,11004,11005] [] (.op ⟨.nl 1 .done,[],[],[],[11001]⟩ (.op ⟨.nl 1 .done,[],[2],[],[]⟩ (.op ⟨.call 2 (.done),[11001,11002,11003,11004,11005],[],[],[11001,11005]⟩ (.op ⟨.nl 1 .done,[],[],[],[11001]⟩ (.op ⟨.nl 1 .done,[],[2],[],[]⟩ (.op ⟨.call 3 (.done),[11001,11005],[],[],[11001,11005]⟩ (.op ⟨.nl 1 .done,[],[],[3],[3]⟩ (.op ⟨.nl 1 .done,[],[],[4],[4]⟩ (.tl (.n 2 .done))))))))))) (.two (.reg (.n 2 (.call 4 (.n 2 .done)))) (.two (.reg (.n 2 (.call 4 (.n 2 .done)))) (.two (.reg (.n 1 (.call 5 (.n 1 .done)))) (.two (.reg (.n 9 (.sp 36 5 [1,5,6,7] [2,3,4,5,6,11001,12701] ⟨[(41,.d .bool)],[(11005,.map .i Qj)]⟩ (.nl 1 (.call 6 (.nl 2 (.n 1 .done)))) (.nl 4 (.n 1 .done)) (.n 16 (.sp 57 5 [1,7] [2,3,4,5,6,11001,11005,12701] ⟨[(62,.d .bool)],[]⟩ (.nl 4 (.n 1 .done)) (.nl 4 (.n 1 .done)) (.n 1 (.sp 63 4 [1] [2,3,4,5,6,11001,11005,12701] ⟨[(67,.d .bool)],[]⟩ (.nl 1 (.call 7 (.nl 1 (.n 1 .done)))) (.nl 3 (.n 1 .done)) (.n 1 .done)))))))) (.nil)))))))))
def Bi:Shp:=⟨[],[]⟩
def Az:Shp:=⟨[(0,.d .bool)],[]⟩
def Jbo:An:=.t 2 (.t 1 (.t 5 (.two (.t 1 (.un (.lp [1,2,6] [2,12] ⟨[(7,.d .i)],[(11,.var 54 (.ag (.cons (.ag (.cons (.s 100001) (.cons (.s 100002) (.cons (.s 100003) (.cons (.s 100004) (.cons (.s 100005) (.cons (.s 100006) (.nil)))))))) (.cons (.ag (.cons (.s 100007) (.cons (.s 100008) (.cons (.s 100009) (.nil))))) (.cons (.nm) (.nil)))))),(100001,.row 148 Qz),(100002,.row 131 Jd),(100003,.row 135 Jq),(100004,.row 192 Vj),(100005,.row 3 .i),(100006,.row 142 Jc),(100007,.row 145 Jr),(100008,.row 87 Yw),(100009,.row 105 Yr)]⟩ [(.x 0,⟨[],[(11,.var 54 (.ag (.cons (.ag (.cons (.s 100601) (.cons (.s 100602) (.cons (.s 100603) (.cons (.s 100604) (.cons (.s 100605) (.cons (.s 100606) (.nil)))))))) (.cons (.ag (.cons (.s 100607) (.cons (.s 100608) (.cons (.s 100609) (.nil))))) (.cons (.nm) (.nil)))))),(100601,.row 148 Qz),(100602,.row 131 Jd),(100603,.row 135 Jq),(100604,.row 192 Vj),(100605,.row 3 .i),(100606,.row 142 Jc),(100607,.row 145 Jr),(100608,.row 87 Yw),(100609,.row 105 Yr)]⟩)] (.two (.t 4 (.two (.nil) (.nil))) (.two (.un (.two (.reg (.n 2 (.si 20 0 (.n 3 .done) (.si 20 1 (.n 3 .done) (.tl .done))))) (.ch 20 0 (.two (.reg (.n 2 (.call 0 (.n 3 (.sp 28 6 [7,8] [11,100001,100002,100003,100004,100005,100006,100007,100008,100009] ⟨[(34,.d .bool)],[]⟩ (.nl 5 (.n 1 .done)) (.nl 2 (.call 1 (.nl 2 (.n 1 .done)))) (.n 1 (.sp 35 6 [7,8] [11,100001,100002,100003,100004,100005,100006,100007,100008,100009] ⟨[(41,.d .bool)],[]⟩ (.nl 5 (.n 1 .done)) (.nl 1 (.call 2 (.nl 1 (.call 3 (.nl 1 (.n 1 .done)))))) (.n 1 (.sp 42 5 [7,8] [11,100001,100002,100003,100004,100005,100006,100007,100008,100009] ⟨[(47,.d .bool)],[]⟩ (.nl 4 (.n 1 .done)) (.nl 1 (.call 4 (.nl 2 (.n 1 .done)))) (.n 1 (.sp 48 5 [7,8] [11,100001,100002,100003,100004,100005,100006,100007,100008,100009] ⟨[(53,.d .bool)],[]⟩ (.nl 4 (.n 1 .done)) (.nl 2 (.call 5 (.nl 1 (.n 1 .done)))) (.n 1 (.sp 54 4 [7,8] [11,100001,100002,100003,100004,100005,100006,100007,100008,100009] ⟨[(58,.d .bool)],[]⟩ (.nl 3 (.n 1 .done)) (.nl 1 (.call 6 (.nl 1 (.n 1 .done)))) (.done)))))))))))))) (.two (.gh (.tl .done) .nil) (.nil))) (.two (.reg (.n 2 (.call 12 (.n 3 (.sp 28 6 [7,8] [11,100001,100002,100003,100004,100005,100006,100007,100008,100009] ⟨[(34,.d .bool)],[]⟩ (.nl 5 (.n 1 .done)) (.nl 2 (.call 7 (.nl 2 (.n 1 .done)))) (.n 1 (.sp 35 6 [7,8] [11,100001,100002,100003,100004,100005,100006,100007,100008,100009] ⟨[(41,.d .bool)],[]⟩ (.nl 5 (.n 1 .done)) (.nl 1 (.call 8 (.nl 1 (.call 3 (.nl 1 (.n 1 .done)))))) (.n 1 (.sp 42 5 [7,8] [11,100001,100002,100003,100004,100005,100006,100007,100008,100009] ⟨[(47,.d .bool)],[]⟩ (.nl 4 (.n 1 .done)) (.nl 1 (.call 9 (.nl 2 (.n 1 .done)))) (.n 1 (.sp 48 5 [7,8] [11,100001,100002,100003,100004,100005,100006,100007,100008,100009] ⟨[(53,.d .bool)],[]⟩ (.nl 4 (.n 1 .done)) (.nl 2 (.call 10 (.nl 1 (.n 1 .done)))) (.n 1 (.sp 54 4 [7,8] [11,100001,100002,100003,100004,100005,100006,100007,100008,100009] ⟨[(58,.d .bool)],[]⟩ (.nl 3 (.n 1 .done)) (.nl 1 (.call 11 (.nl 1 (.n 1 .done)))) (.done)))))))))))))) (.two (.gh (.tl .done) .nil) (.nil)))))) (.reg (.n 3 .done))))))) (.two (.reg (.call 13 (.n 1 .done))) (.nil)))))
def Jbp:Shp:=⟨[(0,.d J5),(1,.d .i)],[]⟩
def Q7t:Shp:=⟨[(0,.d .bool)],[]⟩
theorem Ha:Runs Tryz.prog 91:=⟨_,Tryz.func91,by decide,rfl⟩
def Kg:Con:=⟨91,(Gm Qz),(Gm Qz),Yc 72,[]⟩
theorem Hb:Qi Tryz.prog tx.gl Kg:=Ub Qn Qm Tryz.func91 rfl rfl rfl rfl rfl rfl rfl rfl (by kernel_rfl) (y0:=([]:(List Qr))) (by kernel_rfl) (an0:=.reg (.n 1 .done)) (anA:=.two (.reg (.n 1 .done)) .nil) (anC:=.two (.reg (.n 4 .done)) .nil) ⟨by kernel_rfl,by kernel_rfl⟩ (fun xs=>by kernel_rfl) (fun xs=>by kernel_rfl) (fun xs=>by kernel_rfl)
theorem Ei:Runs Tryz.prog 92:=⟨_,Tryz.func92,by decide,rfl⟩
def Kz:Con:=⟨92,(Gm Vj),(Gm Vj),Yc 32,[]⟩
theorem Ej:Qi Tryz.prog tx.gl Kz:=Ub Qn Qm Tryz.func92 rfl rfl rfl rfl rfl rfl rfl rfl (by kernel_rfl) (y0:=([]:(List Vy))) (by kernel_rfl) (an0:=.reg (.n 1 .done)) (anA:=.two (.reg (.n 1 .done)) .nil) (anC:=.two (.reg (.n 4 .done)) .nil) ⟨by kernel_rfl,by kernel_rfl⟩ (fun xs=>by kernel_rfl) (fun xs=>by kernel_rfl) (fun xs=>by kernel_rfl)
theorem Bj:Runs Tryz.prog 93:=⟨_,Tryz.func93,by decide,rfl⟩
def Wi:Con:=⟨93,(Gm (.int .i64)),(Gm (.int .i64)),Yc 8,[]⟩
theorem Bk:Qi Tryz.prog tx.gl Wi:=Ub Qn Qm Tryz.func93 rfl rfl rfl rfl rfl rfl rfl rfl (by kernel_rfl) (y0:=([]:(List Int))) (by kernel_rfl) (an0:=.reg (.n 1 .done)) (anA:=.two (.reg (.n 1 .done)) .nil) (anC:=.two (.reg (.n 4 .done)) .nil) ⟨by kernel_rfl,by kernel_rfl⟩ (fun xs=>by kernel_rfl) (fun xs=>by kernel_rfl) (fun xs=>by kernel_rfl)
theorem Eb:Runs Tryz.prog 145:=⟨_,Tryz.func145,by decide,rfl⟩
def Kq:Con:=⟨145,(Gm K6),(Gm K6),Yc 24,[]⟩
theorem Ec:Qi Tryz.prog tx.gl Kq:=Ub Qn Qm Tryz.func145 rfl rfl rfl rfl rfl rfl rfl rfl (by kernel_rfl) (y0:=([]:(List Zn))) (by kernel_rfl) (an0:=.reg (.n 1 .done)) (anA:=.two (.reg (.n 1 .done)) .nil) (anC:=.two (.reg (.n 4 .done)) .nil) ⟨by kernel_rfl,by kernel_rfl⟩ (fun xs=>by kernel_rfl) (fun xs=>by kernel_rfl) (fun xs=>by kernel_rfl)
theorem Fd:Runs Tryz.prog 141:=⟨_,Tryz.func141,by decide,rfl⟩
def K8:Con:=⟨141,(Gm Wy),(I5 204 Wy),Yc 40,[]⟩
theorem Ff:Qi Tryz.prog tx.gl K8:=Ub Qn Qm Tryz.func141 rfl rfl rfl rfl rfl rfl rfl rfl (by kernel_rfl) (y0:=([]:(List Kp))) (by kernel_rfl) (an0:=.reg (.n 1 .done)) (anA:=.two (.reg (.n 1 .done)) .nil) (anC:=.two (.reg (.n 4 .done)) .nil) ⟨by kernel_rfl,by kernel_rfl⟩ (fun xs=>by kernel_rfl) (fun xs=>by kernel_rfl) (fun xs=>by kernel_rfl)
theorem Fg:Runs Tryz.prog 142:=⟨_,Tryz.func142,by decide,rfl⟩
def K9:Con:=⟨142,(Gm Y5),(I5 151 Y5),Yc 40,[]⟩
theorem Fh:Qi Tryz.prog tx.gl K9:=Ub Qn Qm Tryz.func142 rfl rfl rfl rfl rfl rfl rfl rfl (by kernel_rfl) (y0:=([]:(List Yn))) (by kernel_rfl) (an0:=.reg (.n 1 .done)) (anA:=.two (.reg (.n 1 .done)) .nil) (anC:=.two (.reg (.n 4 .done)) .nil) ⟨by kernel_rfl,by kernel_rfl⟩ (fun xs=>by kernel_rfl) (fun xs=>by kernel_rfl) (fun xs=>by kernel_rfl)
theorem Fi:Runs Tryz.prog 143:=⟨_,Tryz.func143,by decide,rfl⟩
def Xa:Con:=⟨143,(Gm Uf),(I5 31 Uf),Yc 72,[]⟩
theorem Fj:Qi Tryz.prog tx.gl Xa:=Ub Qn Qm Tryz.func143 rfl rfl rfl rfl rfl rfl rfl rfl (by kernel_rfl) (y0:=([]:(List Yz))) (by kernel_rfl) (an0:=.reg (.n 1 .done)) (anA:=.two (.reg (.n 1 .done)) .nil) (anC:=.two (.reg (.n 4 .done)) .nil) ⟨by kernel_rfl,by kernel_rfl⟩ (fun xs=>by kernel_rfl) (fun xs=>by kernel_rfl) (fun xs=>by kernel_rfl)
theorem Gz:Runs Tryz.prog 144:=⟨_,Tryz.func144,by decide,rfl⟩
def Z9:Con:=⟨144,(Gm Xi),(I5 212 Xi),Yc 80,[]⟩
theorem G0:Qi Tryz.prog tx.gl Z9:=Ub Qn Qm Tryz.func144 rfl rfl rfl rfl rfl rfl rfl rfl (by kernel_rfl) (y0:=([]:(List Vx))) (by kernel_rfl) (an0:=.reg (.n 1 .done)) (anA:=.two (.reg (.n 1 .done)) .nil) (anC:=.two (.reg (.n 4 .done)) .nil) ⟨by kernel_rfl,by kernel_rfl⟩ (fun xs=>by kernel_rfl) (fun xs=>by kernel_rfl) (fun xs=>by kernel_rfl)
theorem Ed:Runs Tryz.prog 82:=⟨_,Tryz.func82,by decide,rfl⟩
def Kr:Con:=⟨82,(Gm Y4),(Gm Y4),Yc 24,[]⟩
theorem Ee:Qi Tryz.prog tx.gl Kr:=Ub Qn Qm Tryz.func82 rfl rfl rfl rfl rfl rfl rfl rfl (by kernel_rfl) (y0:=([]:(List Jk))) (by kernel_rfl) (an0:=.reg (.n 1 .done)) (anA:=.two (.reg (.n 1 .done)) .nil) (anC:=.two (.reg (.n 4 .done)) .nil) ⟨by kernel_rfl,by kernel_rfl⟩ (fun xs=>by kernel_rfl) (fun xs=>by kernel_rfl) (fun xs=>by kernel_rfl)
theorem V4:Runs Tryz.prog 82:=⟨_,Tryz.func82,by decide,rfl⟩
def Vd:Con:=⟨82,(Gm Y4),(I5 153 Y4),Yc 24,[]⟩
theorem V5:Qi Tryz.prog tx.gl Vd:=Ub Qn Qm Tryz.func82 rfl rfl rfl rfl rfl rfl rfl rfl (by kernel_rfl) (y0:=([]:(List Jk))) (by kernel_rfl) (an0:=.reg (.n 1 .done)) (anA:=.two (.reg (.n 1 .done)) .nil) (anC:=.two (.reg (.n 4 .done)) .nil) ⟨by kernel_rfl,by kernel_rfl⟩ (fun xs=>by kernel_rfl) (fun xs=>by kernel_rfl) (fun xs=>by kernel_rfl)
theorem Ef:Runs Tryz.prog 94:=⟨_,Tryz.func94,by decide,rfl⟩
def Ks:Con:=⟨94,(Gm Jd),(I5 131 Jd),Yc 128,[]⟩
theorem Eg:Qi Tryz.prog tx.gl Ks:=Ub Qn Qm Tryz.func94 rfl rfl rfl rfl rfl rfl rfl rfl (by kernel_rfl) (y0:=([]:(List Qu))) (by kernel_rfl) (an0:=.reg (.n 1 .done)) (anA:=.two (.reg (.n 1 .done)) .nil) (anC:=.two (.reg (.n 4 .done)) .nil) ⟨by kernel_rfl,by kernel_rfl⟩ (fun xs=>by kernel_rfl) (fun xs=>by kernel_rfl) (fun xs=>by kernel_rfl)
theorem Hc:Runs Tryz.prog 95:=⟨_,Tryz.func95,by decide,rfl⟩
def Kh:Con:=⟨95,(Gm Jq),(I5 135 Jq),Yc 80,[]⟩
theorem Hd:Qi Tryz.prog tx.gl Kh:=Ub Qn Qm Tryz.func95 rfl rfl rfl rfl rfl rfl rfl rfl (by kernel_rfl) (y0:=([]:(List Q4))) (by kernel_rfl) (an0:=.reg (.n 1 .done)) (anA:=.two (.reg (.n 1 .done)) .nil) (anC:=.two (.reg (.n 4 .done)) .nil) ⟨by kernel_rfl,by kernel_rfl⟩ (fun xs=>by kernel_rfl) (fun xs=>by kernel_rfl) (fun xs=>by kernel_rfl)
theorem Gn:Runs Tryz.prog 96:=⟨_,Tryz.func96,by decide,rfl⟩
def Zy:Con:=⟨96,(Gm Jc),(I5 142 Jc),Yc 72,[]⟩
theorem Gp:Qi Tryz.prog tx.gl Zy:=Ub Qn Qm Tryz.func96 rfl rfl rfl rfl rfl rfl rfl rfl (by kernel_rfl) (y0:=([]:(List Qw))) (by kernel_rfl) (an0:=.reg (.n 1 .done)) (anA:=.two (.reg (.n 1 .done)) .nil) (anC:=.two (.reg (.n 4 .done)) .nil) ⟨by kernel_rfl,by kernel_rfl⟩ (fun xs=>by kernel_rfl) (fun xs=>by kernel_rfl) (fun xs=>by kernel_rfl)
theorem Ul:Runs Tryz.prog 72:=⟨_,Tryz.func72,by decide,rfl⟩
def Vh:Con:=⟨72,(Gm Jr),(Gm Jr),Yc 120,[]⟩
theorem Um:Qi Tryz.prog tx.gl Vh:=Ub Qn Qm Tryz.func72 rfl rfl rfl rfl rfl rfl rfl rfl (by kernel_rfl) (y0:=([]:(List Ql))) (by kernel_rfl) (an0:=.reg (.n 1 .done)) (anA:=.two (.reg (.n 1 .done)) .nil) (anC:=.two (.reg (.n 4 .done)) .nil) ⟨by kernel_rfl,by kernel_rfl⟩ (fun xs=>by kernel_rfl) (fun xs=>by kernel_rfl) (fun xs=>by kernel_rfl)
theorem Un:Runs Tryz.prog 73:=⟨_,Tryz.func73,by decide,rfl⟩
def Vi:Con:=⟨73,(Gm Yw),(Gm Yw),Yc 40,[]⟩
theorem Uo:Qi Tryz.prog tx.gl Vi:=Ub Qn Qm Tryz.func73 rfl rfl rfl rfl rfl rfl rfl rfl (by kernel_rfl) (y0:=([]:(List Jj))) (by kernel_rfl) (an0:=.reg (.n 1 .done)) (anA:=.two (.reg (.n 1 .done)) .nil) (anC:=.two (.reg (.n 4 .done)) .nil) ⟨by kernel_rfl,by kernel_rfl⟩ (fun xs=>by kernel_rfl) (fun xs=>by kernel_rfl) (fun xs=>by kernel_rfl)
theorem Uc:Runs Tryz.prog 74:=⟨_,Tryz.func74,by decide,rfl⟩
def Vb:Con:=⟨74,(Gm Yr),(Gm Yr),Yc 40,[]⟩
theorem Ud:Qi Tryz.prog tx.gl Vb:=Ub Qn Qm Tryz.func74 rfl rfl rfl rfl rfl rfl rfl rfl (by kernel_rfl) (y0:=([]:(List Jb))) (by kernel_rfl) (an0:=.reg (.n 1 .done)) (anA:=.two (.reg (.n 1 .done)) .nil) (anC:=.two (.reg (.n 4 .done)) .nil) ⟨by kernel_rfl,by kernel_rfl⟩ (fun xs=>by kernel_rfl) (fun xs=>by kernel_rfl) (fun xs=>by kernel_rfl)
theorem Xk:Runs Tryz.prog 81:=⟨_,Tryz.func81,by decide,rfl⟩
def U7:Con:=⟨81,(Gm X4),(I5 91 X4),Yc 48,[]⟩
theorem Xl:Qi Tryz.prog tx.gl U7:=Ub Qn Qm Tryz.func81 rfl rfl rfl rfl rfl rfl rfl rfl (by kernel_rfl) (y0:=([]:(List J0))) (by kernel_rfl) (an0:=.reg (.n 1 .done)) (anA:=.two (.reg (.n 1 .done)) .nil) (anC:=.two (.reg (.n 4 .done)) .nil) ⟨by kernel_rfl,by kernel_rfl⟩ (fun xs=>by kernel_rfl) (fun xs=>by kernel_rfl) (fun xs=>by kernel_rfl)
theorem Fk:Runs Tryz.prog 78:=⟨_,Tryz.func78,by decide,rfl⟩
def Xb:Con:=⟨78,(inK 129 52 Qj),Quj,fun (xs:List (Int×Qg))=>T9 xs,[5000,5001]⟩
theorem Fl:Qi Tryz.prog tx.gl Xb:=Qdx (fun _=>by kernel_rfl) Tryz.underlying3 (Tryz.sortedKeys129 Ay)
theorem L5:Runs Tryz.prog 36:=⟨_,Tryz.func36,by decide,rfl⟩
def A1 (N:Nat):Con:=⟨36,Q56,Qvu,fun _=>Z36 N,[]⟩
theorem L6 (N:Nat):Qi Tryz.prog tx.gl (A1 N):=Qf (Y:=tx) (N:=N) (K:=[]) (an:=Q55) Qn Qm Qt Tryz.func36 rfl (fun x=>by kernel_rfl)
theorem Q7u:Runs Tryz.prog 10:=⟨_,Tryz.func10,by decide,rfl⟩
def Qjc (N:Nat):Con:=⟨10,Q58,Qvv,fun x1=>Z10 N x1,[]⟩
theorem Q7v (N:Nat):Qi Tryz.prog tx.gl (Qjc N):=Qf (Y:=tx) (N:=N) (K:=[A1 N]) (an:=Q57) Qn Qm (Qd (L6 N) L5 Qt) Tryz.func10 rfl (fun x=>by kernel_rfl)
theorem Q7w:Runs Tryz.prog 11:=⟨_,Tryz.func11,by decide,rfl⟩
def Qjd (N:Nat):Con:=⟨11,Q6a,Qvw,fun x1=>Z11 N x1,[]⟩
theorem Q7x (N:Nat):Qi Tryz.prog tx.gl (Qjd N):=Qf (Y:=tx) (N:=N) (K:=[A1 N]) (an:=Q59) Qn Qm (Qd (L6 N) L5 Qt) Tryz.func11 rfl (fun x=>by kernel_rfl)
theorem Q7y:Runs Tryz.prog 13:=⟨_,Tryz.func13,by decide,rfl⟩
def Qje (N:Nat):Con:=⟨13,Q6c,Qvx,fun _=>Z13 N,[]⟩
theorem Q7z (N:Nat):Qi Tryz.prog tx.gl (Qje N):=Qf (Y:=tx) (N:=N) (K:=[A1 N]) (an:=Q6b) Qn Qm (Qd (L6 N) L5 Qt) Tryz.func13 rfl (fun x=>by kernel_rfl)
theorem Q70:Runs Tryz.prog 42:=⟨_,Tryz.func42,by decide,rfl⟩
def Qjf (N:Nat):Con:=⟨42,Q6e,Qvy,fun (x0,x1)=>Z42 N x0 x1,[]⟩
theorem Q71 (N:Nat):Qi Tryz.prog tx.gl (Qjf N):=Qf (Y:=tx) (N:=N) (K:=[]) (an:=Q6d) Qn Qm Qt Tryz.func42 rfl (fun x=>by kernel_rfl)
theorem Q72:Runs Tryz.prog 12:=⟨_,Tryz.func12,by decide,rfl⟩
def Qjg (N:Nat):Con:=⟨12,Q6g,Qvz,fun (x0,x1)=>Z12 N x0 x1,[]⟩
theorem Q73 (N:Nat):Qi Tryz.prog tx.gl (Qjg N):=Qf (Y:=tx) (N:=N) (K:=[Qjf N]) (an:=Q6f) Qn Qm (Qd (Q71 N) Q70 Qt) Tryz.func12 rfl (fun x=>by kernel_rfl)
theorem Q74:Runs Tryz.prog 14:=⟨_,Tryz.func14,by decide,rfl⟩
def Qjh (N:Nat):Con:=⟨14,Q6i,Qv0,fun _=>Z14 N,[]⟩
theorem Q75 (N:Nat):Qi Tryz.prog tx.gl (Qjh N):=Qf (Y:=tx) (N:=N) (K:=[A1 N]) (an:=Q6h) Qn Qm (Qd (L6 N) L5 Qt) Tryz.func14 rfl (fun x=>by kernel_rfl)
theorem Q76:Runs Tryz.prog 15:=⟨_,Tryz.func15,by decide,rfl⟩
def Qji (N:Nat):Con:=⟨15,Q6k,Qv1,fun x1=>Z15 N x1,[]⟩
theorem Q77 (N:Nat):Qi Tryz.prog tx.gl (Qji N):=Qf (Y:=tx) (N:=N) (K:=[A1 N]) (an:=Q6j) Qn Qm (Qd (L6 N) L5 Qt) Tryz.func15 rfl (fun x=>by kernel_rfl)
theorem Q78:Runs Tryz.prog 16:=⟨_,Tryz.func16,by decide,rfl⟩
def Qjj (N:Nat):Con:=⟨16,Q6m,Qv2,fun _=>Z16 N,[]⟩
theorem Q79 (N:Nat):Qi Tryz.prog tx.gl (Qjj N):=Qf (Y:=tx) (N:=N) (K:=[A1 N]) (an:=Q6l) Qn Qm (Qd (L6 N) L5 Qt) Tryz.func16 rfl (fun x=>by kernel_rfl)
theorem Hm:Runs Tryz.prog 36:=⟨_,Tryz.func36,by decide,rfl⟩
def Xu (N:Nat):Con:=⟨36,Qmc,Qg2,fun (m5001,m5002,m5003,m5004,m5005,m5006,m5007,m5008,m5009)=>D4 N m5001 m5002 m5003 m5004 m5005 m5006 m5007 m5008 m5009,[5000,5001,5002,5003,5004,5005,5006,5007,5008,5009]⟩
theorem Ho (N:Nat):Qi Tryz.prog tx.gl (Xu N):=Qf (Y:=tx) (N:=N) (K:=[]) (an:=Qmb) Qn Qm Qt Tryz.func36 rfl (fun x=>by kernel_rfl)
theorem Qnd:Runs Tryz.prog 11:=⟨_,Tryz.func11,by decide,rfl⟩
def Rj (N:Nat):Con:=⟨11,Qme,Qg3,fun (x1,m5001,m5002,m5003,m5004,m5005,m5006,m5007,m5008,m5009)=>Qqn N x1 m5001 m5002 m5003 m5004 m5005 m5006 m5007 m5008 m5009,[5000,5001,5002,5003,5004,5005,5006,5007,5008,5009]⟩
theorem Qne (N:Nat):Qi Tryz.prog tx.gl (Rj N):=Qf (Y:=tx) (N:=N) (K:=[Xu N]) (an:=Qmd) Qn Qm (Qd (Ho N) Hm Qt) Tryz.func11 rfl (fun x=>by kernel_rfl)
theorem Qnf:Runs Tryz.prog 13:=⟨_,Tryz.func13,by decide,rfl⟩
def Rk (N:Nat):Con:=⟨13,Qmg,Qg4,fun (m5001,m5002,m5003,m5004,m5005,m5006,m5007,m5008,m5009)=>Qqo N m5001 m5002 m5003 m5004 m5005 m5006 m5007 m5008 m5009,[5000,5001,5002,5003,5004,5005,5006,5007,5008,5009]⟩
theorem Qng (N:Nat):Qi Tryz.prog tx.gl (Rk N):=Qf (Y:=tx) (N:=N) (K:=[Xu N]) (an:=Qmf) Qn Qm (Qd (Ho N) Hm Qt) Tryz.func13 rfl (fun x=>by kernel_rfl)
theorem Qnh:Runs Tryz.prog 14:=⟨_,Tryz.func14,by decide,rfl⟩
def Rl (N:Nat):Con:=⟨14,Qmi,Qg5,fun (m5001,m5002,m5003,m5004,m5005,m5006,m5007,m5008,m5009)=>Qqp N m5001 m5002 m5003 m5004 m5005 m5006 m5007 m5008 m5009,[5000,5001,5002,5003,5004,5005,5006,5007,5008,5009]⟩
theorem Qni (N:Nat):Qi Tryz.prog tx.gl (Rl N):=Qf (Y:=tx) (N:=N) (K:=[Xu N]) (an:=Qmh) Qn Qm (Qd (Ho N) Hm Qt) Tryz.func14 rfl (fun x=>by kernel_rfl)
theorem Qnj:Runs Tryz.prog 15:=⟨_,Tryz.func15,by decide,rfl⟩
def Rm (N:Nat):Con:=⟨15,Qmk,Qg6,fun (x1,m5001,m5002,m5003,m5004,m5005,m5006,m5007,m5008,m5009)=>Qqq N x1 m5001 m5002 m5003 m5004 m5005 m5006 m5007 m5008 m5009,[5000,5001,5002,5003,5004,5005,5006,5007,5008,5009]⟩
theorem Qnk (N:Nat):Qi Tryz.prog tx.gl (Rm N):=Qf (Y:=tx) (N:=N) (K:=[Xu N]) (an:=Qmj) Qn Qm (Qd (Ho N) Hm Qt) Tryz.func15 rfl (fun x=>by kernel_rfl)
theorem Qnl:Runs Tryz.prog 16:=⟨_,Tryz.func16,by decide,rfl⟩
def Rn (N:Nat):Con:=⟨16,Qmm,Qg7,fun (m5001,m5002,m5003,m5004,m5005,m5006,m5007,m5008,m5009)=>Qqr N m5001 m5002 m5003 m5004 m5005 m5006 m5007 m5008 m5009,[5000,5001,5002,5003,5004,5005,5006,5007,5008,5009]⟩
theorem Qnm (N:Nat):Qi Tryz.prog tx.gl (Rn N):=Qf (Y:=tx) (N:=N) (K:=[Xu N]) (an:=Qml) Qn Qm (Qd (Ho N) Hm Qt) Tryz.func16 rfl (fun x=>by kernel_rfl)
theorem Qnn:Runs Tryz.prog 10:=⟨_,Tryz.func10,by decide,rfl⟩
def Ro (N:Nat):Con:=⟨10,Qmo,Qg8,fun (x1,m5001,m5002,m5003,m5004,m5005,m5006,m5007,m5008,m5009)=>Qqs N x1 m5001 m5002 m5003 m5004 m5005 m5006 m5007 m5008 m5009,[5000,5001,5002,5003,5004,5005,5006,5007,5008,5009]⟩
theorem Qno (N:Nat):Qi Tryz.prog tx.gl (Ro N):=Qf (Y:=tx) (N:=N) (K:=[Xu N]) (an:=Qmn) Qn Qm (Qd (Ho N) Hm Qt) Tryz.func10 rfl (fun x=>by kernel_rfl)
theorem Q8a:Runs Tryz.prog 45:=⟨_,Tryz.func45,by decide,rfl⟩
def Qjk (N:Nat):Con:=⟨45,Q6o,Qv3,fun _=>Z45 N,[]⟩
theorem Q8b (N:Nat):Qi Tryz.prog tx.gl (Qjk N):=Qf (Y:=tx) (N:=N) (K:=[]) (an:=Q6n) Qn Qm Qt Tryz.func45 rfl (fun x=>by kernel_rfl)
theorem Q8c:Runs Tryz.prog 97:=⟨_,Tryz.func97,by decide,rfl⟩
def Qjl (N:Nat):Con:=⟨97,Q6q,Qv4,fun x0=>Z97 N x0,[]⟩
theorem Q8d (N:Nat):Qi Tryz.prog tx.gl (Qjl N):=Qf (Y:=tx) (N:=N) (K:=[K8,K9,Xa,Z9,Kq,Kr]) (an:=Q6p) Qn Qm (Qd (Ff) Fd (Qd (Fh) Fg (Qd (Fj) Fi (Qd (G0) Gz (Qd (Ec) Eb (Qd (Ee) Ed Qt)))))) Tryz.func97 rfl (fun x=>by kernel_rfl)
theorem Q8e:Runs Tryz.prog 49:=⟨_,Tryz.func49,by decide,rfl⟩
def Qjm (N:Nat):Con:=⟨49,Q6s,Qv5,fun x0=>Z49 N x0,[]⟩
theorem Q8f (N:Nat):Qi Tryz.prog tx.gl (Qjm N):=Qf (Y:=tx) (N:=N) (K:=[Kg,Kz,Wi,Ks,Kh,Zy,Qjl N]) (an:=Q6r) Qn Qm (Qd (Hb) Ha (Qd (Ej) Ei (Qd (Bk) Bj (Qd (Eg) Ef (Qd (Hd) Hc (Qd (Gp) Gn (Qd (Q8d N) Q8c Qt))))))) Tryz.func49 rfl (fun x=>by kernel_rfl)
theorem Q8g:Runs Tryz.prog 43:=⟨_,Tryz.func43,by decide,rfl⟩
def Qjn (N:Nat):Con:=⟨43,Q6u,Qv6,fun x0=>Z43 N x0,[]⟩
theorem Q8h (N:Nat):Qi Tryz.prog tx.gl (Qjn N):=Qf (Y:=tx) (N:=N) (K:=[Vh,Vi,Vb]) (an:=Q6t) Qn Qm (Qd (Um) Ul (Qd (Uo) Un (Qd (Ud) Uc Qt))) Tryz.func43 rfl (fun x=>by kernel_rfl)
theorem Q8i:Runs Tryz.prog 19:=⟨_,Tryz.func19,by decide,rfl⟩
def Qjo (N:Nat):Con:=⟨19,Q6w,Qv7,fun (x0,x1)=>Z19 N x0 x1,[]⟩
theorem Q8j (N:Nat):Qi Tryz.prog tx.gl (Qjo N):=Qf (Y:=tx) (N:=N) (K:=[Qjm N,Qjn N]) (an:=Q6v) Qn Qm (Qd (Q8f N) Q8e (Qd (Q8h N) Q8g Qt)) Tryz.func19 rfl (fun x=>by kernel_rfl)
theorem Qnp:Runs Tryz.prog 36:=⟨_,Tryz.func36,by decide,rfl⟩
def Rp (N:Nat):Con:=⟨36,Qmq,Qg9,fun (m5000_0_0,m5000_0_3,m5000_0_4,m5000_1,m5001,m5002,m5003,m5004)=>Qqt N m5000_0_0 m5000_0_3 m5000_0_4 m5000_1 m5001 m5002 m5003 m5004,[5000,5001,5002,5003,5004]⟩
theorem Qnq (N:Nat):Qi Tryz.prog tx.gl (Rp N):=Qf (Y:=tx) (N:=N) (K:=[]) (an:=Qmp) Qn Qm Qt Tryz.func36 rfl (fun x=>by kernel_rfl)
theorem Q0l:Runs Tryz.prog 166:=⟨_,Tryz.func166,by decide,rfl⟩
def Qd2 (N:Nat):Con:=⟨166,Qv9,Qq1,fun x0=>Q9z N x0,[]⟩
theorem Q0m (N:Nat):Qi Tryz.prog tx.gl (Qd2 N):=Qf (Y:=tx) (N:=N) (K:=[]) (an:=Qv8) Qn Qm Qt Tryz.func166 rfl (fun x=>by kernel_rfl)
theorem Qjp:Runs Tryz.prog 109:=⟨_,Tryz.func109,by decide,rfl⟩
def Rq (N:Nat):Con:=⟨109,Qwb,Qq2,fun x0=>Q5t N x0,[]⟩
theorem Qjq (N:Nat):Qi Tryz.prog tx.gl (Rq N):=Qf (Y:=tx) (N:=N) (K:=[Qd2 N]) (an:=Qwa) Qn Qm (Qd (Q0m N) Q0l Qt) Tryz.func109 rfl (fun x=>by kernel_rfl)
theorem Q0n:Runs Tryz.prog 313:=⟨_,Tryz.func313,by decide,rfl⟩
def Qd3 (N:Nat):Con:=⟨313,Qwd,Qq3,fun (x0,x1)=>Q90 N x0 x1,[]⟩
theorem Q0o (N:Nat):Qi Tryz.prog tx.gl (Qd3 N):=Qf (Y:=tx) (N:=N) (K:=[]) (an:=Qwc) Qn Qm Qt Tryz.func313 rfl (fun x=>by kernel_rfl)
theorem Q0p:Runs Tryz.prog 230:=⟨_,Tryz.func230,by decide,rfl⟩
def Qd4 (N:Nat):Con:=⟨230,Qwf,Qq4,fun (x0,x1)=>Q91 N x0 x1,[]⟩
theorem Q0q (N:Nat):Qi Tryz.prog tx.gl (Qd4 N):=Qf (Y:=tx) (N:=N) (K:=[Qd3 N]) (an:=Qwe) Qn Qm (Qd (Q0o N) Q0n Qt) Tryz.func230 rfl (fun x=>by kernel_rfl)
theorem Q0r:Runs Tryz.prog 229:=⟨_,Tryz.func229,by decide,rfl⟩
def Qd5 (N:Nat):Con:=⟨229,Qwh,Qq5,fun x0=>Q92 N x0,[]⟩
theorem Q0s (N:Nat):Qi Tryz.prog tx.gl (Qd5 N):=Qf (Y:=tx) (N:=N) (K:=[]) (an:=Qwg) Qn Qm Qt Tryz.func229 rfl (fun x=>by kernel_rfl)
theorem Qjr:Runs Tryz.prog 167:=⟨_,Tryz.func167,by decide,rfl⟩
def Rr (N:Nat):Con:=⟨167,Qwj,Qq6,fun (x0,x1)=>Q5u N x0 x1,[]⟩
theorem Qjs (N:Nat):Qi Tryz.prog tx.gl (Rr N):=Qf (Y:=tx) (N:=N) (K:=[Qd4 N,Qd5 N]) (an:=Qwi) Qn Qm (Qd (Q0q N) Q0p (Qd (Q0s N) Q0r Qt)) Tryz.func167 rfl (fun x=>by kernel_rfl)
theorem Q0t:Runs Tryz.prog 234:=⟨_,Tryz.func234,by decide,rfl⟩
def Qd6 (N:Nat):Con:=⟨234,Qwl,Qq7,fun x0=>Q93 N x0,[]⟩
theorem Q0u (N:Nat):Qi Tryz.prog tx.gl (Qd6 N):=Qf (Y:=tx) (N:=N) (K:=[]) (an:=Qwk) Qn Qm Qt Tryz.func234 rfl (fun x=>by kernel_rfl)
theorem Qjt:Runs Tryz.prog 168:=⟨_,Tryz.func168,by decide,rfl⟩
def Rs (N:Nat):Con:=⟨168,Qwn,Qq8,fun (x0,x1)=>Q5v N x0 x1,[]⟩
theorem Qju (N:Nat):Qi Tryz.prog tx.gl (Rs N):=Qf (Y:=tx) (N:=N) (K:=[Qd6 N]) (an:=Qwm) Qn Qm (Qd (Q0u N) Q0t Qt) Tryz.func168 rfl (fun x=>by kernel_rfl)
theorem Qjv:Runs Tryz.prog 110:=⟨_,Tryz.func110,by decide,rfl⟩
def Rt (N:Nat):Con:=⟨110,Qwp,Qq9,fun (x0,x1,x2)=>Q5w N x0 x1 x2,[]⟩
theorem Qjw (N:Nat):Qi Tryz.prog tx.gl (Rt N):=Qf (Y:=tx) (N:=N) (K:=[Rr N,Rs N]) (an:=Qwo) Qn Qm (Qd (Qjs N) Qjr (Qd (Qju N) Qjt Qt)) Tryz.func110 rfl (fun x=>by kernel_rfl)
theorem Q0v:Runs Tryz.prog 235:=⟨_,Tryz.func235,by decide,rfl⟩
def Qd7 (N:Nat):Con:=⟨235,Qwr,Qra,fun _=>Q94 N,[]⟩
theorem Q0w (N:Nat):Qi Tryz.prog tx.gl (Qd7 N):=Qf (Y:=tx) (N:=N) (K:=[]) (an:=Qwq) Qn Qm Qt Tryz.func235 rfl (fun x=>by kernel_rfl)
theorem Q0x:Runs Tryz.prog 236:=⟨_,Tryz.func236,by decide,rfl⟩
def Qd8 (N:Nat):Con:=⟨236,Qwt,Qrb,fun (x0,x1)=>Q95 N x0 x1,[]⟩
theorem Q0y (N:Nat):Qi Tryz.prog tx.gl (Qd8 N):=Qf (Y:=tx) (N:=N) (K:=[]) (an:=Qws) Qn Qm Qt Tryz.func236 rfl (fun x=>by kernel_rfl)
theorem Q0z:Runs Tryz.prog 314:=⟨_,Tryz.func314,by decide,rfl⟩
def Qbm (N:Nat):It:=⟨314,[(.sl Qz),(.int .i64)],Qz,fun (x1,x2)=>Q96 N x1 x2⟩
theorem Qsz (N:Nat):Qqh Tryz.prog tx.gl (Qbm N):=Qug (Y:=tx) (N:=N) (K:=[]) (it:=Qbm N) (an:=Qwu) Qn Qm Qt Tryz.func314 rfl (fun x=>by kernel_rfl)
theorem Q00:Runs Tryz.prog 315:=⟨_,Tryz.func315,by decide,rfl⟩
def Qd9 (N:Nat):Con:=⟨315,Qww,Qrc,fun (x0,x1)=>Q5x N x0 x1,[]⟩
theorem Q01 (N:Nat):Qi Tryz.prog tx.gl (Qd9 N):=Qf (Y:=tx) (N:=N) (K:=[]) (an:=Qwv) Qn Qm Qt Tryz.func315 rfl (fun x=>by kernel_rfl)
theorem Qht:Runs Tryz.prog 237:=⟨_,Tryz.func237,by decide,rfl⟩
def M3 (N:Nat):Con:=⟨237,Qhb,Qdy,fun (x1,m5000_5,m5000_6,m5001,m5002,m5003,m5004,m5005)=>Qi8 N x1 m5000_5 m5000_6 m5001 m5002 m5003 m5004 m5005,[]⟩
theorem Qhu (N:Nat):Qi Tryz.prog tx.gl (M3 N):=Qf (Y:=tx) (N:=N) (K:=[Qd9 N]) (an:=Qha) Qn Qm (Qd (Q01 N) Q00 Qt) Tryz.func237 rfl (fun x=>by kernel_rfl)
theorem Q02:Runs Tryz.prog 238:=⟨_,Tryz.func238,by decide,rfl⟩
def Qea (N:Nat):Con:=⟨238,Qwy,Qrd,fun (m5000_5,m5000_6,m5001,m5002,m5003,m5004,m5005)=>Q97 N m5000_5 m5000_6 m5001 m5002 m5003 m5004 m5005,[5000,5001,5002,5003,5004,5005]⟩
theorem Q03 (N:Nat):Qi Tryz.prog tx.gl (Qea N):=Qf (Y:=tx) (N:=N) (K:=[]) (an:=Qwx) Qn Qm Qt Tryz.func238 rfl (fun x=>by kernel_rfl)
theorem Qbn:Runs Tryz.prog 169:=⟨_,Tryz.func169,by decide,rfl⟩
def I6 (N:Nat):Con:=⟨169,Qw0,Qre,fun (x0,x1)=>Quu N x0 x1,[]⟩
theorem Qbo (N:Nat):Qi Tryz.prog tx.gl (I6 N):=Qqi (Y:=tx) (N:=N) (K:=[Qd7 N,Qd8 N,M3 N,Qea N]) (its:=[Qbm N]) (an:=Qwz) Qn Qm (Qd (Q0w N) Q0v (Qd (Q0y N) Q0x (Qd (Qhu N) Qht (Qd (Q03 N) Q02 Qt)))) (List.forall_mem_cons.2 ⟨⟨Qsz N,Q0z⟩,(List.forall_mem_nil _)⟩) Tryz.func169 rfl (fun x=>by kernel_rfl)
theorem Q04:Runs Tryz.prog 111:=⟨_,Tryz.func111,by decide,rfl⟩
def Qeb (N:Nat):Con:=⟨111,Qw2,Qrf,fun (x0,x1,x2)=>Q98 N x0 x1 x2,[]⟩
theorem Q05 (N:Nat):Qi Tryz.prog tx.gl (Qeb N):=Qf (Y:=tx) (N:=N) (K:=[I6 N]) (an:=Qw1) Qn Qm (Qd (Qbo N) Qbn Qt) Tryz.func111 rfl (fun x=>by kernel_rfl)
theorem Q06:Runs Tryz.prog 240:=⟨_,Tryz.func240,by decide,rfl⟩
def Qec (N:Nat):Con:=⟨240,Qw4,Qrg,fun x0=>Q99 N x0,[]⟩
theorem Q07 (N:Nat):Qi Tryz.prog tx.gl (Qec N):=Qf (Y:=tx) (N:=N) (K:=[]) (an:=Qw3) Qn Qm Qt Tryz.func240 rfl (fun x=>by kernel_rfl)
theorem Q08:Runs Tryz.prog 241:=⟨_,Tryz.func241,by decide,rfl⟩
def Qed (N:Nat):Con:=⟨241,Qw6,Qrh,fun x0=>Jaa N x0,[]⟩
theorem Q09 (N:Nat):Qi Tryz.prog tx.gl (Qed N):=Qf (Y:=tx) (N:=N) (K:=[]) (an:=Qw5) Qn Qm Qt Tryz.func241 rfl (fun x=>by kernel_rfl)
theorem Q1a:Runs Tryz.prog 170:=⟨_,Tryz.func170,by decide,rfl⟩
def Qee (N:Nat):Con:=⟨170,Qw8,Qri,fun x0=>Jab N x0,[]⟩
theorem Q1b (N:Nat):Qi Tryz.prog tx.gl (Qee N):=Qf (Y:=tx) (N:=N) (K:=[Qec N,Qed N]) (an:=Qw7) Qn Qm (Qd (Q07 N) Q06 (Qd (Q09 N) Q08 Qt)) Tryz.func170 rfl (fun x=>by kernel_rfl)
theorem Q1c:Runs Tryz.prog 112:=⟨_,Tryz.func112,by decide,rfl⟩
def Qef (N:Nat):Con:=⟨112,Qxa,Qrj,fun (x0,x1,x2)=>Jac N x0 x1 x2,[]⟩
theorem Q1d (N:Nat):Qi Tryz.prog tx.gl (Qef N):=Qf (Y:=tx) (N:=N) (K:=[Qee N]) (an:=Qw9) Qn Qm (Qd (Q1b N) Q1a Qt) Tryz.func112 rfl (fun x=>by kernel_rfl)
theorem Q1e:Runs Tryz.prog 171:=⟨_,Tryz.func171,by decide,rfl⟩
def Qeg (N:Nat):Con:=⟨171,Qxc,Qrk,fun x0=>Jad N x0,[]⟩
theorem Q1f (N:Nat):Qi Tryz.prog tx.gl (Qeg N):=Qf (Y:=tx) (N:=N) (K:=[]) (an:=Qxb) Qn Qm Qt Tryz.func171 rfl (fun x=>by kernel_rfl)
theorem Q1g:Runs Tryz.prog 172:=⟨_,Tryz.func172,by decide,rfl⟩
def Qeh (N:Nat):Con:=⟨172,Qxe,Qrl,fun (x1,x2,m5000)=>Jae N x1 x2 m5000,[5000]⟩
theorem Q1h (N:Nat):Qi Tryz.prog tx.gl (Qeh N):=Qf (Y:=tx) (N:=N) (K:=[]) (an:=Qxd) Qn Qm Qt Tryz.func172 rfl (fun x=>by kernel_rfl)
theorem Q1i:Runs Tryz.prog 113:=⟨_,Tryz.func113,by decide,rfl⟩
def Qei (N:Nat):Con:=⟨113,Qxg,Qrm,fun (x0,x1)=>Jaf N x0 x1,[]⟩
theorem Q1j (N:Nat):Qi Tryz.prog tx.gl (Qei N):=Qf (Y:=tx) (N:=N) (K:=[Qeg N,Rq N,Qeh N]) (an:=Qxf) Qn Qm (Qd (Q1f N) Q1e (Qd (Qjq N) Qjp (Qd (Q1h N) Q1g Qt))) Tryz.func113 rfl (fun x=>by kernel_rfl)
theorem Q1k:Runs Tryz.prog 246:=⟨_,Tryz.func246,by decide,rfl⟩
def Qej (N:Nat):Con:=⟨246,Qxi,Qrn,fun x0=>Jag N x0,[]⟩
theorem Q1l (N:Nat):Qi Tryz.prog tx.gl (Qej N):=Qf (Y:=tx) (N:=N) (K:=[]) (an:=Qxh) Qn Qm Qt Tryz.func246 rfl (fun x=>by kernel_rfl)
theorem Q1m:Runs Tryz.prog 318:=⟨_,Tryz.func318,by decide,rfl⟩
def Qek (N:Nat):Con:=⟨318,Qxk,Qro,fun (x0,m5000)=>Jah N x0 m5000,[5000]⟩
theorem Q1n (N:Nat):Qi Tryz.prog tx.gl (Qek N):=Qf (Y:=tx) (N:=N) (K:=[]) (an:=Qxj) Qn Qm Qt Tryz.func318 rfl (fun x=>by kernel_rfl)
theorem Q1o:Runs Tryz.prog 247:=⟨_,Tryz.func247,by decide,rfl⟩
def Qel (N:Nat):Con:=⟨247,Qxm,Qrp,fun (x0,m5000)=>Jai N x0 m5000,[5000]⟩
theorem Q1p (N:Nat):Qi Tryz.prog tx.gl (Qel N):=Qf (Y:=tx) (N:=N) (K:=[Qek N]) (an:=Qxl) Qn Qm (Qd (Q1n N) Q1m Qt) Tryz.func247 rfl (fun x=>by kernel_rfl)
theorem Q1q:Runs Tryz.prog 174:=⟨_,Tryz.func174,by decide,rfl⟩
def Qem (N:Nat):Con:=⟨174,Qxo,Qrq,fun x0=>Jaj N x0,[]⟩
theorem Q1r (N:Nat):Qi Tryz.prog tx.gl (Qem N):=Qf (Y:=tx) (N:=N) (K:=[Qej N,Qel N]) (an:=Qxn) Qn Qm (Qd (Q1l N) Q1k (Qd (Q1p N) Q1o Qt)) Tryz.func174 rfl (fun x=>by kernel_rfl)
theorem Q1s:Runs Tryz.prog 320:=⟨_,Tryz.func320,by decide,rfl⟩
def Qen (N:Nat):Con:=⟨320,Qxq,Qrr,fun (x0,x1)=>Jak N x0 x1,[]⟩
theorem Q1t (N:Nat):Qi Tryz.prog tx.gl (Qen N):=Qf (Y:=tx) (N:=N) (K:=[]) (an:=Qxp) Qn Qm Qt Tryz.func320 rfl (fun x=>by kernel_rfl)
theorem Q1u:Runs Tryz.prog 252:=⟨_,Tryz.func252,by decide,rfl⟩
def Qeo (N:Nat):Con:=⟨252,Qxs,Qrs,fun (x0,x1)=>Jal N x0 x1,[]⟩
theorem Q1v (N:Nat):Qi Tryz.prog tx.gl (Qeo N):=Qf (Y:=tx) (N:=N) (K:=[Qen N]) (an:=Qxr) Qn Qm (Qd (Q1t N) Q1s Qt) Tryz.func252 rfl (fun x=>by kernel_rfl)
theorem Q1w:Runs Tryz.prog 253:=⟨_,Tryz.func253,by decide,rfl⟩
def Qep (N:Nat):Con:=⟨253,Qxu,Qrt,fun x0=>Jam N x0,[]⟩
theorem Q1x (N:Nat):Qi Tryz.prog tx.gl (Qep N):=Qf (Y:=tx) (N:=N) (K:=[]) (an:=Qxt) Qn Qm Qt Tryz.func253 rfl (fun x=>by kernel_rfl)
theorem Q1y:Runs Tryz.prog 176:=⟨_,Tryz.func176,by decide,rfl⟩
def Qeq (N:Nat):Con:=⟨176,Qxw,Qru,fun (x0,x1)=>Jan N x0 x1,[]⟩
theorem Q1z (N:Nat):Qi Tryz.prog tx.gl (Qeq N):=Qf (Y:=tx) (N:=N) (K:=[Qeo N,Qep N]) (an:=Qxv) Qn Qm (Qd (Q1v N) Q1u (Qd (Q1x N) Q1w Qt)) Tryz.func176 rfl (fun x=>by kernel_rfl)
theorem Q10:Runs Tryz.prog 319:=⟨_,Tryz.func319,by decide,rfl⟩
def Qer (N:Nat):Con:=⟨319,Qxy,Qrv,fun (x0,m5000,m5001)=>Jao N x0 m5000 m5001,[5000,5001]⟩
theorem Q11 (N:Nat):Qi Tryz.prog tx.gl (Qer N):=Qf (Y:=tx) (N:=N) (K:=[]) (an:=Qxx) Qn Qm Qt Tryz.func319 rfl (fun x=>by kernel_rfl)
theorem Q12:Runs Tryz.prog 251:=⟨_,Tryz.func251,by decide,rfl⟩
def Qes (N:Nat):Con:=⟨251,Qx0,Qrw,fun (x0,m5000,m5001)=>Jap N x0 m5000 m5001,[5000,5001]⟩
theorem Q13 (N:Nat):Qi Tryz.prog tx.gl (Qes N):=Qf (Y:=tx) (N:=N) (K:=[Qer N]) (an:=Qxz) Qn Qm (Qd (Q11 N) Q10 Qt) Tryz.func251 rfl (fun x=>by kernel_rfl)
theorem Q14:Runs Tryz.prog 175:=⟨_,Tryz.func175,by decide,rfl⟩
def Qet (N:Nat):Con:=⟨175,Qx2,Qrx,fun (x0,x1,x2)=>Jaq N x0 x1 x2,[]⟩
theorem Q15 (N:Nat):Qi Tryz.prog tx.gl (Qet N):=Qf (Y:=tx) (N:=N) (K:=[Qes N]) (an:=Qx1) Qn Qm (Qd (Q13 N) Q12 Qt) Tryz.func175 rfl (fun x=>by kernel_rfl)
theorem Q16:Runs Tryz.prog 115:=⟨_,Tryz.func115,by decide,rfl⟩
def Qeu (N:Nat):Con:=⟨115,Qx4,Qry,fun (x0,x1,x2)=>Jar N x0 x1 x2,[]⟩
theorem Q17 (N:Nat):Qi Tryz.prog tx.gl (Qeu N):=Qf (Y:=tx) (N:=N) (K:=[Qem N,Qeq N,Qet N]) (an:=Qx3) Qn Qm (Qd (Q1r N) Q1q (Qd (Q1z N) Q1y (Qd (Q15 N) Q14 Qt))) Tryz.func115 rfl (fun x=>by kernel_rfl)
theorem Q18:Runs Tryz.prog 173:=⟨_,Tryz.func173,by decide,rfl⟩
def Qev (N:Nat):Con:=⟨173,Qx6,Qrz,fun (x0,m5000,m5001,m5002)=>Jas N x0 m5000 m5001 m5002,[5000,5001,5002]⟩
theorem Q19 (N:Nat):Qi Tryz.prog tx.gl (Qev N):=Qf (Y:=tx) (N:=N) (K:=[]) (an:=Qx5) Qn Qm Qt Tryz.func173 rfl (fun x=>by kernel_rfl)
theorem Q2a:Runs Tryz.prog 114:=⟨_,Tryz.func114,by decide,rfl⟩
def Qew (N:Nat):Con:=⟨114,Qx8,Qr0,fun (x0,x1,x2,x3)=>Jat N x0 x1 x2 x3,[]⟩
theorem Q2b (N:Nat):Qi Tryz.prog tx.gl (Qew N):=Qf (Y:=tx) (N:=N) (K:=[Qev N]) (an:=Qx7) Qn Qm (Qd (Q19 N) Q18 Qt) Tryz.func114 rfl (fun x=>by kernel_rfl)
theorem Q8k:Runs Tryz.prog 61:=⟨_,Tryz.func61,by decide,rfl⟩
def Qjx (N:Nat):Con:=⟨61,Q6y,Qx9,fun (x0,x1,x2,x3,x4,x5)=>Z61 N x0 x1 x2 x3 x4 x5,[]⟩
theorem Q8l (N:Nat):Qi Tryz.prog tx.gl (Qjx N):=Qf (Y:=tx) (N:=N) (K:=[Rq N,Rt N,Qeb N,Qef N,Qei N,Qeu N,Qew N,Vd]) (an:=Q6x) Qn Qm (Qd (Qjq N) Qjp (Qd (Qjw N) Qjv (Qd (Q05 N) Q04 (Qd (Q1d N) Q1c (Qd (Q1j N) Q1i (Qd (Q17 N) Q16 (Qd (Q2b N) Q2a (Qd (V5) V4 Qt)))))))) Tryz.func61 rfl (fun x=>by kernel_rfl)
theorem Qjy:Runs Tryz.prog 108:=⟨_,Tryz.func108,by decide,rfl⟩
def Ru (N:Nat):Con:=⟨108,Qyb,Qr1,fun x0=>Q5y N x0,[]⟩
theorem Qjz (N:Nat):Qi Tryz.prog tx.gl (Ru N):=Qf (Y:=tx) (N:=N) (K:=[U7,Vd]) (an:=Qya) Qn Qm (Qd (Xl) Xk (Qd (V5) V4 Qt)) Tryz.func108 rfl (fun x=>by kernel_rfl)
theorem Q8m:Runs Tryz.prog 32:=⟨_,Tryz.func32,by decide,rfl⟩
def Qj0 (N:Nat):Con:=⟨32,Q60,Qyc,fun x0=>Z32 N x0,[]⟩
theorem Q8n (N:Nat):Qi Tryz.prog tx.gl (Qj0 N):=Qf (Y:=tx) (N:=N) (K:=[Vh,Vi,Vb]) (an:=Q6z) Qn Qm (Qd (Um) Ul (Qd (Uo) Un (Qd (Ud) Uc Qt))) Tryz.func32 rfl (fun x=>by kernel_rfl)
theorem Qs0:Runs Tryz.prog 62:=⟨_,Tryz.func62,by decide,rfl⟩
def Qbp (N:Nat):Con:=⟨62,Q62,Qyd,fun (x0,x1)=>Z62 N x0 x1,[]⟩
theorem Qs1 (N:Nat):Qi Tryz.prog tx.gl (Qbp N):=Qf (Y:=tx) (N:=N) (K:=[Ru N,Qj0 N]) (an:=Q61) Qn Qm (Qd (Qjz N) Qjy (Qd (Q8n N) Q8m Qt)) Tryz.func62 rfl (fun x=>by kernel_rfl)
theorem Q2c:Runs Tryz.prog 179:=⟨_,Tryz.func179,by decide,rfl⟩
def Qex (N:Nat):Con:=⟨179,Qyf,Qr2,fun (x0,x1)=>Jau N x0 x1,[]⟩
theorem Q2d (N:Nat):Qi Tryz.prog tx.gl (Qex N):=Qf (Y:=tx) (N:=N) (K:=[]) (an:=Qye) Qn Qm Qt Tryz.func179 rfl (fun x=>by kernel_rfl)
theorem Q2e:Runs Tryz.prog 180:=⟨_,Tryz.func180,by decide,rfl⟩
def Qey (N:Nat):Con:=⟨180,Qyh,Qr3,fun (x0,x1)=>Jav N x0 x1,[]⟩
theorem Q2f (N:Nat):Qi Tryz.prog tx.gl (Qey N):=Qf (Y:=tx) (N:=N) (K:=[]) (an:=Qyg) Qn Qm Qt Tryz.func180 rfl (fun x=>by kernel_rfl)
theorem Q2g:Runs Tryz.prog 359:=⟨_,Tryz.func359,by decide,rfl⟩
def Qez (N:Nat):Con:=⟨359,Qyj,Qr4,fun (x0,x1,m5001)=>Jaw N x0 x1 m5001,[]⟩
theorem Q2h (N:Nat):Qi Tryz.prog tx.gl (Qez N):=Qf (Y:=tx) (N:=N) (K:=[]) (an:=Qyi) Qn Qm Qt Tryz.func359 rfl (fun x=>by kernel_rfl)
theorem Qhv:Runs Tryz.prog 359:=⟨_,Tryz.func359,by decide,rfl⟩
def M4 (N:Nat):Con:=⟨359,Qhd,Qdz,fun (x0,x1,m5001)=>Qi9 N x0 x1 m5001,[5000,5001]⟩
theorem Qhw (N:Nat):Qi Tryz.prog tx.gl (M4 N):=Qf (Y:=tx) (N:=N) (K:=[]) (an:=Qhc) Qn Qm Qt Tryz.func359 rfl (fun x=>by kernel_rfl)
theorem Q2i:Runs Tryz.prog 281:=⟨_,Tryz.func281,by decide,rfl⟩
def Qe0 (N:Nat):Con:=⟨281,Qyl,Qr5,fun x0=>Jax N x0,[]⟩
theorem Q2j (N:Nat):Qi Tryz.prog tx.gl (Qe0 N):=Qf (Y:=tx) (N:=N) (K:=[]) (an:=Qyk) Qn Qm Qt Tryz.func281 rfl (fun x=>by kernel_rfl)
theorem Q2k:Runs Tryz.prog 205:=⟨_,Tryz.func205,by decide,rfl⟩
def Qe1 (N:Nat):Con:=⟨205,Qyn,Qr6,fun x0=>Jay N x0,[]⟩
theorem Q2l (N:Nat):Qi Tryz.prog tx.gl (Qe1 N):=Qf (Y:=tx) (N:=N) (K:=[Qe0 N]) (an:=Qym) Qn Qm (Qd (Q2j N) Q2i Qt) Tryz.func205 rfl (fun x=>by kernel_rfl)
theorem Q2m:Runs Tryz.prog 390:=⟨_,Tryz.func390,by decide,rfl⟩
def Qe2 (N:Nat):Con:=⟨390,Qyp,Qr7,fun (x0,x1,x2)=>Jaz N x0 x1 x2,[]⟩
theorem Q2n (N:Nat):Qi Tryz.prog tx.gl (Qe2 N):=Qf (Y:=tx) (N:=N) (K:=[]) (an:=Qyo) Qn Qm Qt Tryz.func390 rfl (fun x=>by kernel_rfl)
theorem Q2o:Runs Tryz.prog 377:=⟨_,Tryz.func377,by decide,rfl⟩
def Qe3 (N:Nat):Con:=⟨377,Qyr,Qr8,fun (x0,x1,x2,x3)=>Ja0 N x0 x1 x2 x3,[]⟩
theorem Q2p (N:Nat):Qi Tryz.prog tx.gl (Qe3 N):=Qf (Y:=tx) (N:=N) (K:=[Qe2 N]) (an:=Qyq) Qn Qm (Qd (Q2n N) Q2m Qt) Tryz.func377 rfl (fun x=>by kernel_rfl)
theorem Q2q:Runs Tryz.prog 360:=⟨_,Tryz.func360,by decide,rfl⟩
def Qe4 (N:Nat):Con:=⟨360,Qyt,Qr9,fun x0=>Ja1 N x0,[]⟩
theorem Q2r (N:Nat):Qi Tryz.prog tx.gl (Qe4 N):=Qf (Y:=tx) (N:=N) (K:=[Qe1 N,Qe3 N]) (an:=Qys) Qn Qm (Qd (Q2l N) Q2k (Qd (Q2p N) Q2o Qt)) Tryz.func360 rfl (fun x=>by kernel_rfl)
theorem Q2s:Runs Tryz.prog 325:=⟨_,Tryz.func325,by decide,rfl⟩
def Qe5 (N:Nat):Con:=⟨325,Qyv,Qsa,fun (x0,x1)=>Ja2 N x0 x1,[]⟩
theorem Q2t (N:Nat):Qi Tryz.prog tx.gl (Qe5 N):=Qf (Y:=tx) (N:=N) (K:=[Qez N,M4 N,Qe4 N]) (an:=Qyu) Qn Qm (Qd (Q2h N) Q2g (Qd (Qhw N) Qhv (Qd (Q2r N) Q2q Qt))) Tryz.func325 rfl (fun x=>by kernel_rfl)
theorem Q2u:Runs Tryz.prog 259:=⟨_,Tryz.func259,by decide,rfl⟩
def Qe6 (N:Nat):Con:=⟨259,Qyx,Qsb,fun x0=>Ja3 N x0,[]⟩
theorem Q2v (N:Nat):Qi Tryz.prog tx.gl (Qe6 N):=Qf (Y:=tx) (N:=N) (K:=[Qe5 N]) (an:=Qyw) Qn Qm (Qd (Q2t N) Q2s Qt) Tryz.func259 rfl (fun x=>by kernel_rfl)
theorem Q2w:Runs Tryz.prog 181:=⟨_,Tryz.func181,by decide,rfl⟩
def Qe7 (N:Nat):Con:=⟨181,Qyz,Qsc,fun (x0,x1,x2)=>Ja4 N x0 x1 x2,[]⟩
theorem Q2x (N:Nat):Qi Tryz.prog tx.gl (Qe7 N):=Qf (Y:=tx) (N:=N) (K:=[Qe6 N]) (an:=Qyy) Qn Qm (Qd (Q2v N) Q2u Qt) Tryz.func181 rfl (fun x=>by kernel_rfl)
theorem Q2y:Runs Tryz.prog 116:=⟨_,Tryz.func116,by decide,rfl⟩
def Qe8 (N:Nat):Con:=⟨116,Qy1,Qsd,fun (x0,x1,x2,x3,x4)=>Ja5 N x0 x1 x2 x3 x4,[]⟩
theorem Q2z (N:Nat):Qi Tryz.prog tx.gl (Qe8 N):=Qf (Y:=tx) (N:=N) (K:=[Qex N,Qey N,Qe7 N]) (an:=Qy0) Qn Qm (Qd (Q2d N) Q2c (Qd (Q2f N) Q2e (Qd (Q2x N) Q2w Qt))) Tryz.func116 rfl (fun x=>by kernel_rfl)
theorem Q20:Runs Tryz.prog 264:=⟨_,Tryz.func264,by decide,rfl⟩
def Qe9 (N:Nat):Con:=⟨264,Qy3,Qse,fun x0=>Ja6 N x0,[]⟩
theorem Q21 (N:Nat):Qi Tryz.prog tx.gl (Qe9 N):=Qf (Y:=tx) (N:=N) (K:=[]) (an:=Qy2) Qn Qm Qt Tryz.func264 rfl (fun x=>by kernel_rfl)
theorem Q22:Runs Tryz.prog 184:=⟨_,Tryz.func184,by decide,rfl⟩
def Qfa (N:Nat):Con:=⟨184,Qy5,Qsf,fun x0=>Ja7 N x0,[]⟩
theorem Q23 (N:Nat):Qi Tryz.prog tx.gl (Qfa N):=Qf (Y:=tx) (N:=N) (K:=[Qe9 N]) (an:=Qy4) Qn Qm (Qd (Q21 N) Q20 Qt) Tryz.func184 rfl (fun x=>by kernel_rfl)
theorem Q24:Runs Tryz.prog 185:=⟨_,Tryz.func185,by decide,rfl⟩
def Qfb (N:Nat):Con:=⟨185,Qy7,Qsg,fun (x0,x1,x2)=>Ja8 N x0 x1 x2,[]⟩
theorem Q25 (N:Nat):Qi Tryz.prog tx.gl (Qfb N):=Qf (Y:=tx) (N:=N) (K:=[]) (an:=Qy6) Qn Qm Qt Tryz.func185 rfl (fun x=>by kernel_rfl)
theorem Q26:Runs Tryz.prog 117:=⟨_,Tryz.func117,by decide,rfl⟩
def Qfc (N:Nat):Con:=⟨117,Qy9,Qsh,fun (x0,x1,x2,x3)=>Ja9 N x0 x1 x2 x3,[]⟩
theorem Q27 (N:Nat):Qi Tryz.prog tx.gl (Qfc N):=Qf (Y:=tx) (N:=N) (K:=[Qfa N,Qfb N]) (an:=Qy8) Qn Qm (Qd (Q23 N) Q22 (Qd (Q25 N) Q24 Qt)) Tryz.func117 rfl (fun x=>by kernel_rfl)
theorem Qhx:Runs Tryz.prog 110:=⟨_,Tryz.func110,by decide,rfl⟩
def M5 (N:Nat):Con:=⟨110,Qhf,Qd0,fun (x0,x1,x2)=>Qja N x0 x1 x2,[]⟩
theorem Qhy (N:Nat):Qi Tryz.prog tx.gl (M5 N):=Qf (Y:=tx) (N:=N) (K:=[Rr N,Rs N]) (an:=Qhe) Qn Qm (Qd (Qjs N) Qjr (Qd (Qju N) Qjt Qt)) Tryz.func110 rfl (fun x=>by kernel_rfl)
theorem Qbq:Runs Tryz.prog 190:=⟨_,Tryz.func190,by decide,rfl⟩
def I7 (N:Nat):Con:=⟨190,Qzb,Qsi,fun (x0,x1)=>Qgx N x0 x1,[]⟩
theorem Qbr (N:Nat):Qi Tryz.prog tx.gl (I7 N):=Qf (Y:=tx) (N:=N) (K:=[]) (an:=Qza) Qn Qm Qt Tryz.func190 rfl (fun x=>by kernel_rfl)
theorem Q8o:Runs Tryz.prog 69:=⟨_,Tryz.func69,by decide,rfl⟩
def Qj1 (N:Nat):Con:=⟨69,Q64,Qzc,fun x0=>Z69 N x0,[]⟩
theorem Q8p (N:Nat):Qi Tryz.prog tx.gl (Qj1 N):=Qf (Y:=tx) (N:=N) (K:=[]) (an:=Q63) Qn Qm Qt Tryz.func69 rfl (fun x=>by kernel_rfl)
theorem Q28:Runs Tryz.prog 193:=⟨_,Tryz.func193,by decide,rfl⟩
def Qfd (N:Nat):Con:=⟨193,Qze,Qsj,fun (x0,x1,x2)=>Jba N x0 x1 x2,[]⟩
theorem Q29 (N:Nat):Qi Tryz.prog tx.gl (Qfd N):=Qf (Y:=tx) (N:=N) (K:=[]) (an:=Qzd) Qn Qm Qt Tryz.func193 rfl (fun x=>by kernel_rfl)
theorem Q3a:Runs Tryz.prog 119:=⟨_,Tryz.func119,by decide,rfl⟩
def Qfe (N:Nat):Con:=⟨119,Qzg,Qsk,fun (x0,x1,x2,x3,x4,x5,x6,x7)=>Jbb N x0 x1 x2 x3 x4 x5 x6 x7,[]⟩
theorem Q3b (N:Nat):Qi Tryz.prog tx.gl (Qfe N):=Qf (Y:=tx) (N:=N) (K:=[Qj1 N,Qfd N]) (an:=Qzf) Qn Qm (Qd (Q8p N) Q8o (Qd (Q29 N) Q28 Qt)) Tryz.func119 rfl (fun x=>by kernel_rfl)
theorem Q3c:Runs Tryz.prog 120:=⟨_,Tryz.func120,by decide,rfl⟩
def Qff (N:Nat):Con:=⟨120,Qzi,Qsl,fun (x0,x1,x2)=>Jbc N x0 x1 x2,[]⟩
theorem Q3d (N:Nat):Qi Tryz.prog tx.gl (Qff N):=Qf (Y:=tx) (N:=N) (K:=[I6 N]) (an:=Qzh) Qn Qm (Qd (Qbo N) Qbn Qt) Tryz.func120 rfl (fun x=>by kernel_rfl)
theorem Q3e:Runs Tryz.prog 192:=⟨_,Tryz.func192,by decide,rfl⟩
def Qfg (N:Nat):Con:=⟨192,Qzk,Qsm,fun (x0,x1,x2,x3)=>Jbd N x0 x1 x2 x3,[]⟩
theorem Q3f (N:Nat):Qi Tryz.prog tx.gl (Qfg N):=Qf (Y:=tx) (N:=N) (K:=[Qff N]) (an:=Qzj) Qn Qm (Qd (Q3d N) Q3c Qt) Tryz.func192 rfl (fun x=>by kernel_rfl)
theorem Q3g:Runs Tryz.prog 368:=⟨_,Tryz.func368,by decide,rfl⟩
def Qfh (N:Nat):Con:=⟨368,Qzm,Qsn,fun (x0,x1)=>Q51 N x0 x1,[]⟩
theorem Q3h (N:Nat):Qi Tryz.prog tx.gl (Qfh N):=Qf (Y:=tx) (N:=N) (K:=[]) (an:=Qzl) Qn Qm Qt Tryz.func368 rfl (fun x=>by kernel_rfl)
theorem Q3i:Runs Tryz.prog 344:=⟨_,Tryz.func344,by decide,rfl⟩
def Qfi (N:Nat):Con:=⟨344,Qzo,Qso,fun x0=>Jbe N x0,[]⟩
theorem Q3j (N:Nat):Qi Tryz.prog tx.gl (Qfi N):=Qf (Y:=tx) (N:=N) (K:=[Qfh N]) (an:=Qzn) Qn Qm (Qd (Q3h N) Q3g Qt) Tryz.func344 rfl (fun x=>by kernel_rfl)
theorem Q3k:Runs Tryz.prog 345:=⟨_,Tryz.func345,by decide,rfl⟩
def Qfj (N:Nat):Con:=⟨345,Qzq,Qsp,fun (x0,x1)=>Jbf N x0 x1,[]⟩
theorem Q3l (N:Nat):Qi Tryz.prog tx.gl (Qfj N):=Qf (Y:=tx) (N:=N) (K:=[]) (an:=Qzp) Qn Qm Qt Tryz.func345 rfl (fun x=>by kernel_rfl)
theorem Q3m:Runs Tryz.prog 331:=⟨_,Tryz.func331,by decide,rfl⟩
def Qfk (N:Nat):Con:=⟨331,Qzs,Qsq,fun (x0,x1)=>Jbg N x0 x1,[]⟩
theorem Q3n (N:Nat):Qi Tryz.prog tx.gl (Qfk N):=Qf (Y:=tx) (N:=N) (K:=[Qfi N,Qfj N]) (an:=Qzr) Qn Qm (Qd (Q3j N) Q3i (Qd (Q3l N) Q3k Qt)) Tryz.func331 rfl (fun x=>by kernel_rfl)
theorem Q3o:Runs Tryz.prog 270:=⟨_,Tryz.func270,by decide,rfl⟩
def Qfl (N:Nat):Con:=⟨270,Qzu,Qsr,fun (x0,x1)=>Q52 N x0 x1,[]⟩
theorem Q3p (N:Nat):Qi Tryz.prog tx.gl (Qfl N):=Qf (Y:=tx) (N:=N) (K:=[Qfk N]) (an:=Qzt) Qn Qm (Qd (Q3n N) Q3m Qt) Tryz.func270 rfl (fun x=>by kernel_rfl)
theorem Qj2:Runs Tryz.prog 197:=⟨_,Tryz.func197,by decide,rfl⟩
def Rv (N:Nat):Con:=⟨197,Qzw,Qss,fun (x0,x1)=>Q53 N x0 x1,[]⟩
theorem Qj3 (N:Nat):Qi Tryz.prog tx.gl (Rv N):=Qf (Y:=tx) (N:=N) (K:=[I7 N,Qfl N]) (an:=Qzv) Qn Qm (Qd (Qbr N) Qbq (Qd (Q3p N) Q3o Qt)) Tryz.func197 rfl (fun x=>by kernel_rfl)
theorem Q3q:Runs Tryz.prog 267:=⟨_,Tryz.func267,by decide,rfl⟩
def Qfm (N:Nat):Con:=⟨267,Qzy,Qst,fun (x0,m5000,m5001)=>Jbh N x0 m5000 m5001,[5000,5001]⟩
theorem Q3r (N:Nat):Qi Tryz.prog tx.gl (Qfm N):=Qf (Y:=tx) (N:=N) (K:=[Rv N]) (an:=Qzx) Qn Qm (Qd (Qj3 N) Qj2 Qt) Tryz.func267 rfl (fun x=>by kernel_rfl)
theorem Q3s:Runs Tryz.prog 191:=⟨_,Tryz.func191,by decide,rfl⟩
def Qfn (N:Nat):Con:=⟨191,Qz0,Qsu,fun (x0,x1,x2)=>Jbi N x0 x1 x2,[]⟩
theorem Q3t (N:Nat):Qi Tryz.prog tx.gl (Qfn N):=Qf (Y:=tx) (N:=N) (K:=[Qfm N]) (an:=Qzz) Qn Qm (Qd (Q3r N) Q3q Qt) Tryz.func191 rfl (fun x=>by kernel_rfl)
theorem Q3u:Runs Tryz.prog 118:=⟨_,Tryz.func118,by decide,rfl⟩
def Qfo (N:Nat):Con:=⟨118,Qz2,Qsv,fun (x0,x1,x2,x3,x4)=>Jbj N x0 x1 x2 x3 x4,[]⟩
theorem Q3v (N:Nat):Qi Tryz.prog tx.gl (Qfo N):=Qf (Y:=tx) (N:=N) (K:=[I7 N,Rt N,Qfe N,Qfg N,Qfn N]) (an:=Qz1) Qn Qm (Qd (Qbr N) Qbq (Qd (Qjw N) Qjv (Qd (Q3b N) Q3a (Qd (Q3f N) Q3e (Qd (Q3t N) Q3s Qt))))) Tryz.func118 rfl (fun x=>by kernel_rfl)
theorem Qhz:Runs Tryz.prog 120:=⟨_,Tryz.func120,by decide,rfl⟩
def M6 (N:Nat):Con:=⟨120,Qhh,Qd1,fun (x0,x1,x2)=>Qjb N x0 x1 x2,[]⟩
theorem Qh0 (N:Nat):Qi Tryz.prog tx.gl (M6 N):=Qf (Y:=tx) (N:=N) (K:=[I6 N]) (an:=Qhg) Qn Qm (Qd (Qbo N) Qbn Qt) Tryz.func120 rfl (fun x=>by kernel_rfl)
theorem Q8q:Runs Tryz.prog 63:=⟨_,Tryz.func63,by decide,rfl⟩
def Qj4 (N:Nat):Con:=⟨63,Q66,Qz3,fun (x1,x2,x3,m5000)=>Z63 N x1 x2 x3 m5000,[]⟩
theorem Q8r (N:Nat):Qi Tryz.prog tx.gl (Qj4 N):=Qf (Y:=tx) (N:=N) (K:=[Qe8 N,Qfc N,M5 N,Qfo N,M6 N]) (an:=Q65) Qn Qm (Qd (Q2z N) Q2y (Qd (Q27 N) Q26 (Qd (Qhy N) Qhx (Qd (Q3v N) Q3u (Qd (Qh0 N) Qhz Qt))))) Tryz.func63 rfl (fun x=>by kernel_rfl)
theorem Q8s:Runs Tryz.prog 67:=⟨_,Tryz.func67,by decide,rfl⟩
def Qj5 (N:Nat):Con:=⟨67,Q68,Qz4,fun (x1,x2,x3,x4,m5000)=>Z67 N x1 x2 x3 x4 m5000,[]⟩
theorem Q8t (N:Nat):Qi Tryz.prog tx.gl (Qj5 N):=Qf (Y:=tx) (N:=N) (K:=[]) (an:=Q67) Qn Qm Qt Tryz.func67 rfl (fun x=>by kernel_rfl)
theorem Q8u:Runs Tryz.prog 64:=⟨_,Tryz.func64,by decide,rfl⟩
def Qj6 (N:Nat):Con:=⟨64,Q7a,Qz5,fun (x1,x2,m5000)=>Z64 N x1 x2 m5000,[]⟩
theorem Q8v (N:Nat):Qi Tryz.prog tx.gl (Qj6 N):=Qf (Y:=tx) (N:=N) (K:=[Qj5 N]) (an:=Q69) Qn Qm (Qd (Q8t N) Q8s Qt) Tryz.func64 rfl (fun x=>by kernel_rfl)
theorem Qs2:Runs Tryz.prog 29:=⟨_,Tryz.func29,by decide,rfl⟩
def Qbs (N:Nat):Con:=⟨29,Q7c,Qz6,fun (x0,x1,x2)=>Z29 N x0 x1 x2,[]⟩
theorem Qs3 (N:Nat):Qi Tryz.prog tx.gl (Qbs N):=Qf (Y:=tx) (N:=N) (K:=[Qjx N,Qbp N,Qj4 N,Qj6 N]) (an:=Q7b) Qn Qm (Qd (Q8l N) Q8k (Qd (Qs1 N) Qs0 (Qd (Q8r N) Q8q (Qd (Q8v N) Q8u Qt)))) Tryz.func29 rfl (fun x=>by kernel_rfl)
theorem Q8w:Runs Tryz.prog 38:=⟨_,Tryz.func38,by decide,rfl⟩
def Qj7 (N:Nat):Con:=⟨38,Q7e,Qz7,fun (x1,m5000_0_0,m5000_0_3,m5000_0_4,m5000_1,m5001,m5002,m5003,m5004)=>Z38 N x1 m5000_0_0 m5000_0_3 m5000_0_4 m5000_1 m5001 m5002 m5003 m5004,[]⟩
theorem Q8x (N:Nat):Qi Tryz.prog tx.gl (Qj7 N):=Qf (Y:=tx) (N:=N) (K:=[Qbs N]) (an:=Q7d) Qn Qm (Qd (Qs3 N) Qs2 Qt) Tryz.func38 rfl (fun x=>by kernel_rfl)
theorem Qh1:Runs Tryz.prog 37:=⟨_,Tryz.func37,by decide,rfl⟩
def Nz (N:Nat):Con:=⟨37,Q7g,Qz8,fun (x0,x1)=>Z37 N x0 x1,[]⟩
theorem Qh2 (N:Nat):Qi Tryz.prog tx.gl (Nz N):=Qf (Y:=tx) (N:=N) (K:=[]) (an:=Q7f) Qn Qm Qt Tryz.func37 rfl (fun x=>by kernel_rfl)
theorem Q8y:Runs Tryz.prog 68:=⟨_,Tryz.func68,by decide,rfl⟩
def Qj8 (N:Nat):Con:=⟨68,Q7i,Qz9,fun (x0,x1,x2,x3)=>Z68 N x0 x1 x2 x3,[]⟩
theorem Q8z (N:Nat):Qi Tryz.prog tx.gl (Qj8 N):=Qf (Y:=tx) (N:=N) (K:=[]) (an:=Q7h) Qn Qm Qt Tryz.func68 rfl (fun x=>by kernel_rfl)
theorem Qnr:Runs Tryz.prog 32:=⟨_,Tryz.func32,by decide,rfl⟩
def Rw (N:Nat):Con:=⟨32,Qms,Qhi,fun x0=>Qqu N x0,[]⟩
theorem Qns (N:Nat):Qi Tryz.prog tx.gl (Rw N):=Qf (Y:=tx) (N:=N) (K:=[Vh,Vi,Vb]) (an:=Qmr) Qn Qm (Qd (Um) Ul (Qd (Uo) Un (Qd (Ud) Uc Qt))) Tryz.func32 rfl (fun x=>by kernel_rfl)
theorem Q80:Runs Tryz.prog 60:=⟨_,Tryz.func60,by decide,rfl⟩
def Qj9 (N:Nat):Con:=⟨60,Q7k,Q0a,fun (x0,x1,x2,x3)=>Z60 N x0 x1 x2 x3,[]⟩
theorem Q81 (N:Nat):Qi Tryz.prog tx.gl (Qj9 N):=Qf (Y:=tx) (N:=N) (K:=[Rw N,Ru N]) (an:=Q7j) Qn Qm (Qd (Qns N) Qnr (Qd (Qjz N) Qjy Qt)) Tryz.func60 rfl (fun x=>by kernel_rfl)
theorem Qh3:Runs Tryz.prog 30:=⟨_,Tryz.func30,by decide,rfl⟩
def N0 (N:Nat):Con:=⟨30,Q7m,Q0b,fun (x0,x1,x2,x3)=>Z30 N x0 x1 x2 x3,[]⟩
theorem Qh4 (N:Nat):Qi Tryz.prog tx.gl (N0 N):=Qf (Y:=tx) (N:=N) (K:=[Qj8 N,Qj9 N]) (an:=Q7l) Qn Qm (Qd (Q8z N) Q8y (Qd (Q81 N) Q80 Qt)) Tryz.func30 rfl (fun x=>by kernel_rfl)
theorem Qnt:Runs Tryz.prog 10:=⟨_,Tryz.func10,by decide,rfl⟩
def Rx (N:Nat):Con:=⟨10,Qmu,Qhj,fun (x1,m5000_0_0,m5000_0_3,m5000_0_4,m5000_1,m5001,m5002,m5003,m5004)=>Qqv N x1 m5000_0_0 m5000_0_3 m5000_0_4 m5000_1 m5001 m5002 m5003 m5004,[]⟩
theorem Qnu (N:Nat):Qi Tryz.prog tx.gl (Rx N):=Qf (Y:=tx) (N:=N) (K:=[Rp N,Qj7 N,Nz N,N0 N]) (an:=Qmt) Qn Qm (Qd (Qnq N) Qnp (Qd (Q8x N) Q8w (Qd (Qh2 N) Qh1 (Qd (Qh4 N) Qh3 Qt)))) Tryz.func10 rfl (fun x=>by kernel_rfl)
theorem F6:Runs Tryz.prog 36:=⟨_,Tryz.func36,by decide,rfl⟩
def Wz (N:Nat):Con:=⟨36,Qmw,Qhk,fun (m5000_0,m5000_1,m5001)=>L4 N m5000_0 m5000_1 m5001,[5000,5001]⟩
theorem F7 (N:Nat):Qi Tryz.prog tx.gl (Wz N):=Qf (Y:=tx) (N:=N) (K:=[]) (an:=Qmv) Qn Qm Qt Tryz.func36 rfl (fun x=>by kernel_rfl)
theorem Qab:Runs Tryz.prog 38:=⟨_,Tryz.func38,by decide,rfl⟩
def D5 (N:Nat):Con:=⟨38,Qmy,Qhl,fun (x1,m5000_0,m5000_1,m5001)=>Qgz N x1 m5000_0 m5000_1 m5001,[]⟩
theorem Qac (N:Nat):Qi Tryz.prog tx.gl (D5 N):=Qf (Y:=tx) (N:=N) (K:=[Qbs N]) (an:=Qmx) Qn Qm (Qd (Qs3 N) Qs2 Qt) Tryz.func38 rfl (fun x=>by kernel_rfl)
theorem Qnv:Runs Tryz.prog 10:=⟨_,Tryz.func10,by decide,rfl⟩
def Ry (N:Nat):Con:=⟨10,Qm0,Qhm,fun (x1,m5000_0,m5000_1,m5001)=>Qqw N x1 m5000_0 m5000_1 m5001,[]⟩
theorem Qnw (N:Nat):Qi Tryz.prog tx.gl (Ry N):=Qf (Y:=tx) (N:=N) (K:=[Wz N,D5 N,Nz N,N0 N]) (an:=Qmz) Qn Qm (Qd (F7 N) F6 (Qd (Qac N) Qab (Qd (Qh2 N) Qh1 (Qd (Qh4 N) Qh3 Qt)))) Tryz.func10 rfl (fun x=>by kernel_rfl)
theorem Qnx:Runs Tryz.prog 10:=⟨_,Tryz.func10,by decide,rfl⟩
def Rz (N:Nat):Con:=⟨10,Qm2,Qhn,fun (x1,m5000_0,m5000_1,m5001)=>Qg0 N x1 m5000_0 m5000_1 m5001,[]⟩
theorem Qny (N:Nat):Qi Tryz.prog tx.gl (Rz N):=Qf (Y:=tx) (N:=N) (K:=[Wz N,D5 N,Nz N,N0 N]) (an:=Qm1) Qn Qm (Qd (F7 N) F6 (Qd (Qac N) Qab (Qd (Qh2 N) Qh1 (Qd (Qh4 N) Qh3 Qt)))) Tryz.func10 rfl (fun x=>by kernel_rfl)
theorem Qnz:Runs Tryz.prog 79:=⟨_,Tryz.func79,by decide,rfl⟩
def R2 (N:Nat):Con:=⟨79,Qm4,Qho,fun m5000=>Qqx N m5000,[]⟩
theorem Qn0 (N:Nat):Qi Tryz.prog tx.gl (R2 N):=Qf (Y:=tx) (N:=N) (K:=[]) (an:=Qm3) Qn Qm Qt Tryz.func79 rfl (fun x=>by kernel_rfl)
theorem Qad:Runs Tryz.prog 40:=⟨_,Tryz.func40,by decide,rfl⟩
def D6 (N:Nat):Con:=⟨40,Qm6,Qhp,fun (m5000_0,m5000_1,m5001)=>Qg1 N m5000_0 m5000_1 m5001,[5000]⟩
theorem Qae (N:Nat):Qi Tryz.prog tx.gl (D6 N):=Qf (Y:=tx) (N:=N) (K:=[R2 N,Xb]) (an:=Qm5) Qn Qm (Qd (Qn0 N) Qnz (Qd (Fl) Fk Qt)) Tryz.func40 rfl (fun x=>by kernel_rfl)
theorem Q3w:Runs Tryz.prog 122:=⟨_,Tryz.func122,by decide,rfl⟩
def Qfp (N:Nat):Con:=⟨122,Q0d,Qsw,fun (x0,x1,x2)=>Jbk N x0 x1 x2,[]⟩
theorem Q3x (N:Nat):Qi Tryz.prog tx.gl (Qfp N):=Qf (Y:=tx) (N:=N) (K:=[I7 N,Rv N,Vd]) (an:=Q0c) Qn Qm (Qd (Qbr N) Qbq (Qd (Qj3 N) Qj2 (Qd (V5) V4 Qt))) Tryz.func122 rfl (fun x=>by kernel_rfl)
theorem Q3y:Runs Tryz.prog 198:=⟨_,Tryz.func198,by decide,rfl⟩
def Qfq (N:Nat):Con:=⟨198,Q0f,Qsx,fun (x0,m5001_0_0,m5001_0_1,m5001_0_2,m5001_0_3,m5001_0_4_0,m5001_0_4_1,m5001_0_4_2,m5001_0_4_3,m5001_0_4_4,m5001_0_4_5,m5001_0_4_6_0,m5001_0_4_6_1,m5001_0_4_6_2,m5001_0_4_6_3,m5001_0_4_7,m5001_0_4_8,m5001_0_5,m5001_0_6,m5001_0_7,m5001_0_8,m5001_0_9,m5001_0_10,m5001_1,m5002)=>Jbl N x0 m5001_0_0 m5001_0_1 m5001_0_2 m5001_0_3 m5001_0_4_0 m5001_0_4_1 m5001_0_4_2 m5001_0_4_3 m5001_0_4_4 m5001_0_4_5 m5001_0_4_6_0 m5001_0_4_6_1 m5001_0_4_6_2 m5001_0_4_6_3 m5001_0_4_7 m5001_0_4_8 m5001_0_5 m5001_0_6 m5001_0_7 m5001_0_8 m5001_0_9 m5001_0_10 m5001_1 m5002,[5000,5001,5002]⟩
theorem Q3z (N:Nat):Qi Tryz.prog tx.gl (Qfq N):=Qf (Y:=tx) (N:=N) (K:=[]) (an:=Q0e) Qn Qm Qt Tryz.func198 rfl (fun x=>by kernel_rfl)
theorem Q30:Runs Tryz.prog 123:=⟨_,Tryz.func123,by decide,rfl⟩
def Qfr (N:Nat):Con:=⟨123,Q0h,Qsy,fun (m5000_0_0,m5000_0_1,m5000_0_2,m5000_0_3,m5000_0_4_0,m5000_0_4_1,m5000_0_4_2,m5000_0_4_3,m5000_0_4_4,m5000_0_4_5,m5000_0_4_6_0,m5000_0_4_6_1,m5000_0_4_6_2,m5000_0_4_6_3,m5000_0_4_7,m5000_0_4_8,m5000_0_5,m5000_0_6,m5000_0_7,m5000_0_8,m5000_0_9,m5000_0_10,m5000_1,m5001)=>Jbm N m5000_0_0 m5000_0_1 m5000_0_2 m5000_0_3 m5000_0_4_0 m5000_0_4_1 m5000_0_4_2 m5000_0_4_3 m5000_0_4_4 m5000_0_4_5 m5000_0_4_6_0 m5000_0_4_6_1 m5000_0_4_6_2 m5000_0_4_6_3 m5000_0_4_7 m5000_0_4_8 m5000_0_5 m5000_0_6 m5000_0_7 m5000_0_8 m5000_0_9 m5000_0_10 m5000_1 m5001,[5000,5001]⟩
theorem Q31 (N:Nat):Qi Tryz.prog tx.gl (Qfr N):=Qf (Y:=tx) (N:=N) (K:=[Qfq N]) (an:=Q0g) Qn Qm (Qd (Q3z N) Q3y Qt) Tryz.func123 rfl (fun x=>by kernel_rfl)
theorem Q82:Runs Tryz.prog 65:=⟨_,Tryz.func65,by decide,rfl⟩
def Qka (N:Nat):Con:=⟨65,Q7o,Q0i,fun (x1,m5000)=>Z65 N x1 m5000,[]⟩
theorem Q83 (N:Nat):Qi Tryz.prog tx.gl (Qka N):=Qf (Y:=tx) (N:=N) (K:=[Qfp N,Qfr N]) (an:=Q7n) Qn Qm (Qd (Q3x N) Q3w (Qd (Q31 N) Q30 Qt)) Tryz.func65 rfl (fun x=>by kernel_rfl)
theorem Q84:Runs Tryz.prog 41:=⟨_,Tryz.func41,by decide,rfl⟩
def Qkb (N:Nat):Con:=⟨41,Q7q,Q0j,fun (x0,x1)=>Z41 N x0 x1,[]⟩
theorem Q85 (N:Nat):Qi Tryz.prog tx.gl (Qkb N):=Qf (Y:=tx) (N:=N) (K:=[Qbp N,Qka N]) (an:=Q7p) Qn Qm (Qd (Qs1 N) Qs0 (Qd (Q83 N) Q82 Qt)) Tryz.func41 rfl (fun x=>by kernel_rfl)
theorem Qn1:Runs Tryz.prog 11:=⟨_,Tryz.func11,by decide,rfl⟩
def R3 (N:Nat):Con:=⟨11,Qm8,Qhq,fun (x1,m5000_0,m5000_1,m5001)=>Qqy N x1 m5000_0 m5000_1 m5001,[]⟩
theorem Qn2 (N:Nat):Qi Tryz.prog tx.gl (R3 N):=Qf (Y:=tx) (N:=N) (K:=[Wz N,D6 N,Qkb N]) (an:=Qm7) Qn Qm (Qd (F7 N) F6 (Qd (Qae N) Qad (Qd (Q85 N) Q84 Qt))) Tryz.func11 rfl (fun x=>by kernel_rfl)
theorem Q86:Runs Tryz.prog 44:=⟨_,Tryz.func44,by decide,rfl⟩
def Qkc (N:Nat):Con:=⟨44,Q7s,Q0k,fun x0=>Z44 N x0,[]⟩
theorem Q87 (N:Nat):Qi Tryz.prog tx.gl (Qkc N):=Qf (Y:=tx) (N:=N) (K:=[U7,Vd]) (an:=Q7r) Qn Qm (Qd (Xl) Xk (Qd (V5) V4 Qt)) Tryz.func44 rfl (fun x=>by kernel_rfl)
theorem Qn3:Runs Tryz.prog 14:=⟨_,Tryz.func14,by decide,rfl⟩
def R4 (N:Nat):Con:=⟨14,Qna,Qhr,fun (m5000_0,m5000_1,m5001)=>Qqz N m5000_0 m5000_1 m5001,[5000]⟩
theorem Qn4 (N:Nat):Qi Tryz.prog tx.gl (R4 N):=Qf (Y:=tx) (N:=N) (K:=[Wz N,D6 N,Qkc N]) (an:=Qm9) Qn Qm (Qd (F7 N) F6 (Qd (Qae N) Qad (Qd (Q87 N) Q86 Qt))) Tryz.func14 rfl (fun x=>by kernel_rfl)
theorem Qn5:Runs Tryz.prog 15:=⟨_,Tryz.func15,by decide,rfl⟩
def R5 (N:Nat):Con:=⟨15,Qnc,Qhs,fun (x1,m5000_0,m5000_1,m5001)=>Qq0 N x1 m5000_0 m5000_1 m5001,[5000,5001]⟩
theorem Qn6 (N:Nat):Qi Tryz.prog tx.gl (R5 N):=Qf (Y:=tx) (N:=N) (K:=[Wz N]) (an:=Qnb) Qn Qm (Qd (F7 N) F6 Qt) Tryz.func15 rfl (fun x=>by kernel_rfl)
theorem Bl:Runs Tryz.prog 17:=⟨_,Tryz.func17,by decide,rfl⟩
def Wj (N:Nat):Con:=⟨17,Bi,Az,fun _=>Ea N,[]⟩
theorem Bn (N:Nat):Qi Tryz.prog tx.gl (Wj N):=Qf (Y:=tx) (N:=N) (K:=[Qjk N,Qjo N,Rx N,Ry N,Rz N,R3 N,R4 N,R5 N]) (an:=Bh) Qn Qm (Qd (Q8b N) Q8a (Qd (Q8j N) Q8i (Qd (Qnu N) Qnt (Qd (Qnw N) Qnv (Qd (Qny N) Qnx (Qd (Qn2 N) Qn1 (Qd (Qn4 N) Qn3 (Qd (Qn6 N) Qn5 Qt)))))))) Tryz.func17 rfl (fun x=>by kernel_rfl)
def Qs4 (N:Nat):Con:=⟨4,Jbp,Q7t,fun (x0,x1)=>Z4 N x0 x1,[]⟩
theorem Jbq (N:Nat):Qi Tryz.prog tx.gl (Qs4 N):=Qf (Y:=tx) (N:=N) (K:=[Qjc N,Qjd N,Qje N,Qjg N,Qjh N,Qji N,Qjj N,Rj N,Rk N,Rl N,Rm N,Rn N,Ro N,Wj N]) (an:=Jbo) Qn Qm (Qd (Q7v N) Q7u (Qd (Q7x N) Q7w (Qd (Q7z N) Q7y (Qd (Q73 N) Q72 (Qd (Q75 N) Q74 (Qd (Q77 N) Q76 (Qd (Q79 N) Q78 (Qd (Qne N) Qnd (Qd (Qng N) Qnf (Qd (Qni N) Qnh (Qd (Qnk N) Qnj (Qd (Qnm N) Qnl (Qd (Qno N) Qnn (Qd (Bn N) Bl Qt)))))))))))))) Tryz.func4 rfl (fun x=>by kernel_rfl)
end
end Gx
