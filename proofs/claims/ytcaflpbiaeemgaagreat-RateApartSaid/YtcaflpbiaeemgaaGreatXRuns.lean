/- The interpreter gives these functions. -/
import Derived.Test.YtcaflpbiaeemgaaGreatXFns
import Derived.Test.YtcaflpbiaeemgaaGreatProg
import Derived.Test.YtcaflpbiaeemgaaGreatXQ2
import Derived.Test.YtcaflpbiaeemgaaGreatXShelf
set_option linter.unusedVariables false
namespace Gx
open Go Gd Go.Proofs Tryz
def HT.a(r:HT):HT:=.op ⟨.nl 1 .done,[],[],[],[]⟩ r
def HT.b(x:Nat)(r:HT):HT:=.op ⟨.nl 1 .done,[],[],[],[x]⟩ r
def HT.c(x:Nat)(r:HT):HT:=.op ⟨.nl 1 .done,[],[x],[],[]⟩ r
def HT.d(x y:Nat)(r:HT):HT:=.op ⟨.nl 1 .done,[],[x],[],[y]⟩ r
def HT.e(x:Nat)(r:HT):HT:=.op ⟨.nl 1 .done,[],[],[x],[x]⟩ r
def HT.f(x y:Nat)(r:HT):HT:=.op ⟨.nl 1 .done,[x],[],[],[y]⟩ r
def HT.g(a b c d:List Nat)(r:HT):HT:=.op ⟨.nl 1 .done,a,b,c,d⟩ r
def HT.k(n:Nat)(a b c d:List Nat)(r:HT):HT:=.op ⟨.call n .done,a,b,c,d⟩ r
section
variable{α0 α1 α2 α3 α4 α5 α6 α7 α8 α9 α10 α11 α12 α13 α14 α15 α16 α17 α18 α19 α20 α21 α22 α23 α24 α25 α26 α27 α28 α29 α30 α31 α32 α33 α34 α35 β:Type}
def u2(f:α0→α1→β)(p:α0×α1):β:=f p.1 p.2
def u3(f:α0→α1→α2→β)(p:α0×α1×α2):β:=u2 (f p.1) p.2
def u4(f:α0→α1→α2→α3→β)(p:α0×α1×α2×α3):β:=u3 (f p.1) p.2
def u5(f:α0→α1→α2→α3→α4→β)(p:α0×α1×α2×α3×α4):β:=u4 (f p.1) p.2
def u7(f:α0→α1→α2→α3→α4→α5→α6→β)(p:α0×α1×α2×α3×α4×α5×α6):β:=u5 (f p.1 p.2.1) p.2.2
def u8(f:α0→α1→α2→α3→α4→α5→α6→α7→β)(p:α0×α1×α2×α3×α4×α5×α6×α7):β:=u7 (f p.1) p.2
def u9(f:α0→α1→α2→α3→α4→α5→α6→α7→α8→β)(p:α0×α1×α2×α3×α4×α5×α6×α7×α8):β:=u8 (f p.1) p.2
def u20(f:α0→α1→α2→α3→α4→α5→α6→α7→α8→α9→α10→α11→α12→α13→α14→α15→α16→α17→α18→α19→β)(p:α0×α1×α2×α3×α4×α5×α6×α7×α8×α9×α10×α11×α12×α13×α14×α15×α16×α17×α18×α19):β:=u9 (f p.1 p.2.1 p.2.2.1 p.2.2.2.1 p.2.2.2.2.1 p.2.2.2.2.2.1 p.2.2.2.2.2.2.1 p.2.2.2.2.2.2.2.1 p.2.2.2.2.2.2.2.2.1 p.2.2.2.2.2.2.2.2.2.1 p.2.2.2.2.2.2.2.2.2.2.1) p.2.2.2.2.2.2.2.2.2.2.2
def u21(f:α0→α1→α2→α3→α4→α5→α6→α7→α8→α9→α10→α11→α12→α13→α14→α15→α16→α17→α18→α19→α20→β)(p:α0×α1×α2×α3×α4×α5×α6×α7×α8×α9×α10×α11×α12×α13×α14×α15×α16×α17×α18×α19×α20):β:=u20 (f p.1) p.2
def u26(f:α0→α1→α2→α3→α4→α5→α6→α7→α8→α9→α10→α11→α12→α13→α14→α15→α16→α17→α18→α19→α20→α21→α22→α23→α24→α25→β)(p:α0×α1×α2×α3×α4×α5×α6×α7×α8×α9×α10×α11×α12×α13×α14×α15×α16×α17×α18×α19×α20×α21×α22×α23×α24×α25):β:=u21 (f p.1 p.2.1 p.2.2.1 p.2.2.2.1 p.2.2.2.2.1) p.2.2.2.2.2
def u27(f:α0→α1→α2→α3→α4→α5→α6→α7→α8→α9→α10→α11→α12→α13→α14→α15→α16→α17→α18→α19→α20→α21→α22→α23→α24→α25→α26→β)(p:α0×α1×α2×α3×α4×α5×α6×α7×α8×α9×α10×α11×α12×α13×α14×α15×α16×α17×α18×α19×α20×α21×α22×α23×α24×α25×α26):β:=u26 (f p.1) p.2
def u28(f:α0→α1→α2→α3→α4→α5→α6→α7→α8→α9→α10→α11→α12→α13→α14→α15→α16→α17→α18→α19→α20→α21→α22→α23→α24→α25→α26→α27→β)(p:α0×α1×α2×α3×α4×α5×α6×α7×α8×α9×α10×α11×α12×α13×α14×α15×α16×α17×α18×α19×α20×α21×α22×α23×α24×α25×α26×α27):β:=u27 (f p.1) p.2
def u35(f:α0→α1→α2→α3→α4→α5→α6→α7→α8→α9→α10→α11→α12→α13→α14→α15→α16→α17→α18→α19→α20→α21→α22→α23→α24→α25→α26→α27→α28→α29→α30→α31→α32→α33→α34→β)(p:α0×α1×α2×α3×α4×α5×α6×α7×α8×α9×α10×α11×α12×α13×α14×α15×α16×α17×α18×α19×α20×α21×α22×α23×α24×α25×α26×α27×α28×α29×α30×α31×α32×α33×α34):β:=u28 (f p.1 p.2.1 p.2.2.1 p.2.2.2.1 p.2.2.2.2.1 p.2.2.2.2.2.1 p.2.2.2.2.2.2.1) p.2.2.2.2.2.2.2
def u36(f:α0→α1→α2→α3→α4→α5→α6→α7→α8→α9→α10→α11→α12→α13→α14→α15→α16→α17→α18→α19→α20→α21→α22→α23→α24→α25→α26→α27→α28→α29→α30→α31→α32→α33→α34→α35→β)(p:α0×α1×α2×α3×α4×α5×α6×α7×α8×α9×α10×α11×α12×α13×α14×α15×α16×α17×α18×α19×α20×α21×α22×α23×α24×α25×α26×α27×α28×α29×α30×α31×α32×α33×α34×α35):β:=u35 (f p.1) p.2
end
def tab:Tab:=[
 ⟨1,.func ⟨[]⟩ ⟨[]⟩ false,.nilFunc,1,8⟩,
 ⟨2,.int .i64,.int .i64 0,1,8⟩,
 ⟨3,.int .i64,.int .i64 0,1,8⟩,
 ⟨4,.bool,.bool false,1,1⟩,
 ⟨5,.int .u8,.int .u8 0,1,1⟩,
 ⟨6,.int .u8,.int .u8 0,1,1⟩,
 ⟨9,.string,Yw [],1,16⟩,
 ⟨22,.slice 118,.slice none 0 0,1,24⟩,
 ⟨23,.slice 82,.slice none 0 0,1,24⟩,
 ⟨24,.slice 90,.slice none 0 0,1,24⟩,
 ⟨25,.slice 172,.slice none 0 0,1,24⟩,
 ⟨26,.slice 3,.slice none 0 0,1,24⟩,
 ⟨27,.slice 95,.slice none 0 0,1,24⟩,
 ⟨29,.struct ⟨[⟨"Events",22,0,false, "", "",0⟩,⟨"Tariffs",23,1,false, "", "",24⟩,⟨"Products",24,2,false, "", "",48⟩,⟨"Taxes",25,3,false, "", "",72⟩,⟨"Holidays",26,4,false, "", "",96⟩,⟨"Agreements",27,5,false, "", "",120⟩]⟩,.agg ⟨[.slice none 0 0,.slice none 0 0,.slice none 0 0,.slice none 0 0,.slice none 0 0,.slice none 0 0]⟩,6,144⟩,
 ⟨30,.slice 40,.slice none 0 0,1,24⟩,
 ⟨33,.slice 97,.slice none 0 0,1,24⟩,
 ⟨34,.slice 64,.slice none 0 0,1,24⟩,
 ⟨35,.slice 66,.slice none 0 0,1,24⟩,
 ⟨37,.struct ⟨[⟨"Buckets",33,0,false, "", "",0⟩,⟨"Wallets",34,1,false, "", "",24⟩,⟨"Counters",35,2,false, "", "",48⟩]⟩,.agg ⟨[.slice none 0 0,.slice none 0 0,.slice none 0 0]⟩,3,72⟩,
 ⟨40,.struct ⟨[⟨"Id",3,0,false, "", "",0⟩,⟨"Kind",3,1,false, "", "",8⟩,⟨"Account",3,2,false, "", "",16⟩,⟨"Sub",3,3,false, "", "",24⟩,⟨"A",9,4,false, "", "",32⟩,⟨"B",9,5,false, "", "",48⟩,⟨"Start",3,6,false, "", "",64⟩,⟨"Units",3,7,false, "", "",72⟩,⟨"Trunk",3,8,false, "", "",80⟩,⟨"Inbound",4,9,false, "", "",88⟩,⟨"Source",3,10,false, "", "",96⟩,⟨"Serial",3,11,false, "", "",104⟩]⟩,.agg ⟨[.int .i64 0,.int .i64 0,.int .i64 0,.int .i64 0,Yw [],Yw [],.int .i64 0,.int .i64 0,.int .i64 0,.bool false,.int .i64 0,.int .i64 0]⟩,12,112⟩,
 ⟨41,.int .i64,.int .i64 0,1,8⟩,
 ⟨42,.slice 60,.slice none 0 0,1,24⟩,
 ⟨43,.slice 62,.slice none 0 0,1,24⟩,
 ⟨44,.slice 100,.slice none 0 0,1,24⟩,
 ⟨46,.struct ⟨[⟨"Usage",40,0,false, "", "",0⟩,⟨"Err",41,12,false, "", "",112⟩,⟨"Plan",9,13,false, "", "",120⟩,⟨"Version",3,14,false, "", "",136⟩,⟨"Zone",9,15,false, "", "",144⟩,⟨"Takes",42,16,false, "", "",160⟩,⟨"Segments",43,17,false, "", "",184⟩,⟨"Setup",3,18,false, "", "",208⟩,⟨"Gross",3,19,false, "", "",216⟩,⟨"Net",3,20,false, "", "",224⟩,⟨"Given",44,21,false, "", "",232⟩,⟨"Paid",3,22,false, "", "",256⟩,⟨"Owed",3,23,false, "", "",264⟩]⟩,.agg ⟨[.int .i64 0,.int .i64 0,.int .i64 0,.int .i64 0,Yw [],Yw [],.int .i64 0,.int .i64 0,.int .i64 0,.bool false,.int .i64 0,.int .i64 0,.int .i64 0,Yw [],.int .i64 0,Yw [],.slice none 0 0,.slice none 0 0,.int .i64 0,.int .i64 0,.int .i64 0,.slice none 0 0,.int .i64 0,.int .i64 0]⟩,24,272⟩,
 ⟨57,.func ⟨[3]⟩ ⟨[4]⟩ false,.nilFunc,1,8⟩,
 ⟨60,.struct ⟨[⟨"Sub",3,0,false, "", "",0⟩,⟨"Product",9,1,false, "", "",8⟩,⟨"Index",3,2,false, "", "",24⟩,⟨"From",3,3,false, "", "",32⟩,⟨"Units",3,4,false, "", "",40⟩]⟩,.agg ⟨[.int .i64 0,Yw [],.int .i64 0,.int .i64 0,.int .i64 0]⟩,5,48⟩,
 ⟨62,.struct ⟨[⟨"Band",9,0,false, "", "",0⟩,⟨"Start",3,1,false, "", "",16⟩,⟨"Units",3,2,false, "", "",24⟩,⟨"Amount",3,3,false, "", "",32⟩]⟩,.agg ⟨[Yw [],.int .i64 0,.int .i64 0,.int .i64 0]⟩,4,40⟩,
 ⟨64,.struct ⟨[⟨"Account",3,0,false, "", "",0⟩,⟨"Balance",3,1,false, "", "",8⟩,⟨"Floor",3,2,false, "", "",16⟩,⟨"Held",3,3,false, "", "",24⟩,⟨"Until",3,4,false, "", "",32⟩]⟩,.agg ⟨[.int .i64 0,.int .i64 0,.int .i64 0,.int .i64 0,.int .i64 0]⟩,5,40⟩,
 ⟨66,.struct ⟨[⟨"Sub",3,0,false, "", "",0⟩,⟨"Kind",3,1,false, "", "",8⟩,⟨"From",3,2,false, "", "",16⟩,⟨"Units",3,3,false, "", "",24⟩,⟨"Spent",3,4,false, "", "",32⟩]⟩,.agg ⟨[.int .i64 0,.int .i64 0,.int .i64 0,.int .i64 0,.int .i64 0]⟩,5,40⟩,
 ⟨69,.pointer 84,.pointer none,1,8⟩,
 ⟨71,.struct ⟨[⟨"From",3,0,false, "", "",0⟩,⟨"To",3,1,false, "", "",8⟩]⟩,.agg ⟨[.int .i64 0,.int .i64 0]⟩,2,16⟩,
 ⟨72,.slice 9,.slice none 0 0,1,24⟩,
 ⟨74,.struct ⟨[⟨"Period",71,0,false, "", "",0⟩,⟨"Plan",9,2,false, "", "",16⟩,⟨"Products",72,3,false, "", "",32⟩,⟨"Suspended",4,4,false, "", "",56⟩,⟨"Family",4,5,false, "", "",57⟩]⟩,.agg ⟨[.int .i64 0,.int .i64 0,Yw [],.slice none 0 0,.bool false,.bool false]⟩,6,64⟩,
 ⟨76,.struct ⟨[⟨"Id",3,0,false, "", "",0⟩,⟨"Since",3,1,false, "", "",8⟩,⟨"Anchor",3,2,false, "", "",16⟩,⟨"Prepaid",4,3,false, "", "",24⟩,⟨"Closed",4,4,false, "", "",25⟩,⟨"Subs",26,5,false, "", "",32⟩]⟩,.agg ⟨[.int .i64 0,.int .i64 0,.int .i64 0,.bool false,.bool false,.slice none 0 0]⟩,6,56⟩,
 ⟨77,.slice 109,.slice none 0 0,1,24⟩,
 ⟨78,.slice 112,.slice none 0 0,1,24⟩,
 ⟨79,.slice 116,.slice none 0 0,1,24⟩,
 ⟨80,.slice 157,.slice none 0 0,1,24⟩,
 ⟨82,.struct ⟨[⟨"Name",9,0,false, "", "",0⟩,⟨"From",3,1,false, "", "",16⟩,⟨"Split",4,2,false, "", "",24⟩,⟨"Zones",77,3,false, "", "",32⟩,⟨"Bands",78,4,false, "", "",56⟩,⟨"Rates",79,5,false, "", "",80⟩,⟨"Discounts",80,6,false, "", "",104⟩]⟩,.agg ⟨[Yw [],.int .i64 0,.bool false,.slice none 0 0,.slice none 0 0,.slice none 0 0,.slice none 0 0]⟩,7,128⟩,
 ⟨84,.struct ⟨[⟨"book",29,0,false, "", "billing/rate",0⟩,⟨"state",37,6,false, "", "billing/rate",144⟩,⟨"u",40,9,false, "", "billing/rate",216⟩,⟨"spell",74,21,false, "", "billing/rate",328⟩,⟨"account",76,27,false, "", "billing/rate",392⟩,⟨"tariff",82,33,false, "", "billing/rate",448⟩,⟨"free",3,40,false, "", "billing/rate",576⟩,⟨"r",46,41,false, "", "billing/rate",584⟩]⟩,.agg ⟨[.slice none 0 0,.slice none 0 0,.slice none 0 0,.slice none 0 0,.slice none 0 0,.slice none 0 0,.slice none 0 0,.slice none 0 0,.slice none 0 0,.int .i64 0,.int .i64 0,.int .i64 0,.int .i64 0,Yw [],Yw [],.int .i64 0,.int .i64 0,.int .i64 0,.bool false,.int .i64 0,.int .i64 0,.int .i64 0,.int .i64 0,Yw [],.slice none 0 0,.bool false,.bool false,.int .i64 0,.int .i64 0,.int .i64 0,.bool false,.bool false,.slice none 0 0,Yw [],.int .i64 0,.bool false,.slice none 0 0,.slice none 0 0,.slice none 0 0,.slice none 0 0,.int .i64 0,.int .i64 0,.int .i64 0,.int .i64 0,.int .i64 0,Yw [],Yw [],.int .i64 0,.int .i64 0,.int .i64 0,.bool false,.int .i64 0,.int .i64 0,.int .i64 0,Yw [],.int .i64 0,Yw [],.slice none 0 0,.slice none 0 0,.int .i64 0,.int .i64 0,.int .i64 0,.slice none 0 0,.int .i64 0,.int .i64 0]⟩,65,856⟩,
 ⟨85,.func ⟨[]⟩ ⟨[41]⟩ false,.nilFunc,1,8⟩,
 ⟨88,.slice 92,.slice none 0 0,1,24⟩,
 ⟨90,.struct ⟨[⟨"Name",9,0,false, "", "",0⟩,⟨"From",3,1,false, "", "",16⟩,⟨"Fee",3,2,false, "", "",24⟩,⟨"Category",9,3,false, "", "",32⟩,⟨"Prorate",4,4,false, "", "",48⟩,⟨"Bundles",88,5,false, "", "",56⟩]⟩,.agg ⟨[Yw [],.int .i64 0,.int .i64 0,Yw [],.bool false,.slice none 0 0]⟩,6,80⟩,
 ⟨92,.struct ⟨[⟨"Kind",3,0,false, "", "",0⟩,⟨"Zones",72,1,false, "", "",8⟩,⟨"Units",3,2,false, "", "",32⟩,⟨"Rollover",3,3,false, "", "",40⟩,⟨"Priority",3,4,false, "", "",48⟩,⟨"Shared",4,5,false, "", "",56⟩]⟩,.agg ⟨[.int .i64 0,.slice none 0 0,.int .i64 0,.int .i64 0,.int .i64 0,.bool false]⟩,6,64⟩,
 ⟨93,.slice 114,.slice none 0 0,1,24⟩,
 ⟨95,.struct ⟨[⟨"Partner",3,0,false, "", "",0⟩,⟨"Kind",3,1,false, "", "",8⟩,⟨"Inbound",4,2,false, "", "",16⟩,⟨"Valid",71,3,false, "", "",24⟩,⟨"Steps",93,5,false, "", "",40⟩,⟨"Cap",3,6,false, "", "",64⟩]⟩,.agg ⟨[.int .i64 0,.int .i64 0,.bool false,.int .i64 0,.int .i64 0,.slice none 0 0,.int .i64 0]⟩,7,72⟩,
 ⟨97,.struct ⟨[⟨"Account",3,0,false, "", "",0⟩,⟨"Sub",3,1,false, "", "",8⟩,⟨"Product",9,2,false, "", "",16⟩,⟨"Index",3,3,false, "", "",32⟩,⟨"Kind",3,4,false, "", "",40⟩,⟨"Zones",72,5,false, "", "",48⟩,⟨"Valid",71,6,false, "", "",72⟩,⟨"Units",3,8,false, "", "",88⟩,⟨"Left",3,9,false, "", "",96⟩,⟨"Priority",3,10,false, "", "",104⟩,⟨"Shared",4,11,false, "", "",112⟩]⟩,.agg ⟨[.int .i64 0,.int .i64 0,Yw [],.int .i64 0,.int .i64 0,.slice none 0 0,.int .i64 0,.int .i64 0,.int .i64 0,.int .i64 0,.int .i64 0,.bool false]⟩,12,120⟩,
 ⟨100,.struct ⟨[⟨"Name",9,0,false, "", "",0⟩,⟨"Amount",3,1,false, "", "",16⟩]⟩,.agg ⟨[Yw [],.int .i64 0]⟩,2,24⟩,
 ⟨109,.struct ⟨[⟨"Name",9,0,false, "", "",0⟩,⟨"Prefixes",72,1,false, "", "",16⟩]⟩,.agg ⟨[Yw [],.slice none 0 0]⟩,2,40⟩,
 ⟨110,.slice 280,.slice none 0 0,1,24⟩,
 ⟨112,.struct ⟨[⟨"Name",9,0,false, "", "",0⟩,⟨"Slots",110,1,false, "", "",16⟩]⟩,.agg ⟨[Yw [],.slice none 0 0]⟩,2,40⟩,
 ⟨114,.struct ⟨[⟨"Upto",3,0,false, "", "",0⟩,⟨"Quantum",3,1,false, "", "",8⟩,⟨"Price",3,2,false, "", "",16⟩]⟩,.agg ⟨[.int .i64 0,.int .i64 0,.int .i64 0]⟩,3,24⟩,
 ⟨116,.struct ⟨[⟨"Kind",3,0,false, "", "",0⟩,⟨"Zone",9,1,false, "", "",8⟩,⟨"Band",9,2,false, "", "",24⟩,⟨"Setup",3,3,false, "", "",40⟩,⟨"Steps",93,4,false, "", "",48⟩]⟩,.agg ⟨[.int .i64 0,Yw [],Yw [],.int .i64 0,.slice none 0 0]⟩,5,72⟩,
 ⟨118,.struct ⟨[⟨"At",3,0,false, "", "",0⟩,⟨"Kind",3,1,false, "", "",8⟩,⟨"Account",3,2,false, "", "",16⟩,⟨"Sub",3,3,false, "", "",24⟩,⟨"Number",9,4,false, "", "",32⟩,⟨"Name",9,5,false, "", "",48⟩,⟨"Value",3,6,false, "", "",64⟩]⟩,.agg ⟨[.int .i64 0,.int .i64 0,.int .i64 0,.int .i64 0,Yw [],Yw [],.int .i64 0]⟩,7,72⟩,
 ⟨126,.struct ⟨[⟨"Id",3,0,false, "", "",0⟩,⟨"Account",3,1,false, "", "",8⟩,⟨"Since",3,2,false, "", "",16⟩,⟨"Plan",9,3,false, "", "",24⟩,⟨"Numbers",72,4,false, "", "",40⟩,⟨"Products",72,5,false, "", "",64⟩,⟨"Suspended",4,6,false, "", "",88⟩,⟨"Family",4,7,false, "", "",89⟩]⟩,.agg ⟨[.int .i64 0,.int .i64 0,.int .i64 0,Yw [],.slice none 0 0,.slice none 0 0,.bool false,.bool false]⟩,8,96⟩,
 ⟨147,.struct ⟨[⟨"Kind",3,0,false, "", "",0⟩,⟨"Units",3,1,false, "", "",8⟩,⟨"Weekday",3,2,false, "", "",16⟩,⟨"Minute",3,3,false, "", "",24⟩,⟨"Total",3,4,false, "", "",32⟩,⟨"Spent",3,5,false, "", "",40⟩,⟨"Zone",9,6,false, "", "",48⟩,⟨"Band",9,7,false, "", "",64⟩,⟨"Family",4,8,false, "", "",80⟩]⟩,.agg ⟨[.int .i64 0,.int .i64 0,.int .i64 0,.int .i64 0,.int .i64 0,.int .i64 0,Yw [],Yw [],.bool false]⟩,9,88⟩,
 ⟨153,.slice 155,.slice none 0 0,1,24⟩,
 ⟨155,.struct ⟨[⟨"Op",3,0,false, "", "",0⟩,⟨"Num",3,1,false, "", "",8⟩,⟨"Text",9,2,false, "", "",16⟩,⟨"Args",153,3,false, "", "",32⟩]⟩,.agg ⟨[.int .i64 0,.int .i64 0,Yw [],.slice none 0 0]⟩,4,56⟩,
 ⟨157,.struct ⟨[⟨"Name",9,0,false, "", "",0⟩,⟨"When",155,1,false, "", "",16⟩,⟨"Points",3,5,false, "", "",72⟩]⟩,.agg ⟨[Yw [],.int .i64 0,.int .i64 0,Yw [],.slice none 0 0,.int .i64 0]⟩,6,80⟩,
 ⟨162,.slice 76,.slice none 0 0,1,24⟩,
 ⟨163,.slice 126,.slice none 0 0,1,24⟩,
 ⟨165,.struct ⟨[⟨"Accounts",162,0,false, "", "",0⟩,⟨"Subs",163,1,false, "", "",24⟩,⟨"Ended",26,2,false, "", "",48⟩]⟩,.agg ⟨[.slice none 0 0,.slice none 0 0,.slice none 0 0]⟩,3,72⟩,
 ⟨172,.struct ⟨[⟨"Category",9,0,false, "", "",0⟩,⟨"From",3,1,false, "", "",16⟩,⟨"Points",3,2,false, "", "",24⟩]⟩,.agg ⟨[Yw [],.int .i64 0,.int .i64 0]⟩,3,32⟩,
 ⟨178,.slice 74,.slice none 0 0,1,24⟩,
 ⟨182,.struct ⟨[⟨"Accounts",162,0,false, "", "",0⟩,⟨"Subs",163,1,false, "", "",24⟩]⟩,.agg ⟨[.slice none 0 0,.slice none 0 0]⟩,2,48⟩,
 ⟨184,.map 9 9,.map none,1,8⟩,
 ⟨194,.pointer 197,.pointer none,1,8⟩,
 ⟨195,.map 200 4,.map none,1,8⟩,
 ⟨197,.struct ⟨[⟨"list",33,0,false, "", "billing/bundle",0⟩,⟨"has",195,1,false, "", "billing/bundle",24⟩]⟩,.agg ⟨[.slice none 0 0,.map none]⟩,2,32⟩,
 ⟨200,.struct ⟨[⟨"sub",3,0,false, "", "billing/bundle",0⟩,⟨"product",9,1,false, "", "billing/bundle",8⟩,⟨"index",3,2,false, "", "billing/bundle",24⟩,⟨"from",3,3,false, "", "billing/bundle",32⟩]⟩,.agg ⟨[.int .i64 0,Yw [],.int .i64 0,.int .i64 0]⟩,4,40⟩,
 ⟨203,.slice 208,.slice none 0 0,1,24⟩,
 ⟨205,.slice 71,.slice none 0 0,1,24⟩,
 ⟨208,.struct ⟨[⟨"account",3,0,false, "", "billing/bundle",0⟩,⟨"sub",3,1,false, "", "billing/bundle",8⟩,⟨"product",9,2,false, "", "billing/bundle",16⟩,⟨"active",205,3,false, "", "billing/bundle",32⟩]⟩,.agg ⟨[.int .i64 0,.int .i64 0,Yw [],.slice none 0 0]⟩,4,56⟩,
 ⟨209,.slice 212,.slice none 0 0,1,24⟩,
 ⟨212,.struct ⟨[⟨"bucket",97,0,false, "", "billing/bundle",0⟩,⟨"rollover",3,12,false, "", "billing/bundle",120⟩]⟩,.agg ⟨[.int .i64 0,.int .i64 0,Yw [],.int .i64 0,.int .i64 0,.slice none 0 0,.int .i64 0,.int .i64 0,.int .i64 0,.int .i64 0,.int .i64 0,.bool false,.int .i64 0]⟩,13,128⟩,
 ⟨227,.array 2 3,.agg ⟨[.int .i64 0,.int .i64 0]⟩,2,16⟩,
 ⟨230,.map 3 3,.map none,1,8⟩,
 ⟨246,.slice 252,.slice none 0 0,1,24⟩,
 ⟨252,.struct ⟨[⟨"Account",3,0,false, "", "",0⟩,⟨"Sub",3,1,false, "", "",8⟩,⟨"Product",9,2,false, "", "",16⟩,⟨"Active",205,3,false, "", "",32⟩]⟩,.agg ⟨[.int .i64 0,.int .i64 0,Yw [],.slice none 0 0]⟩,4,56⟩,
 ⟨257,.array 5 4,.agg ⟨[.bool false,.bool false,.bool false,.bool false,.bool false]⟩,5,5⟩,
 ⟨263,.slice 266,.slice none 0 0,1,24⟩,
 ⟨266,.struct ⟨[⟨"at",3,0,false, "", "billing/subscribe",0⟩,⟨"s",126,1,false, "", "billing/subscribe",8⟩]⟩,.agg ⟨[.int .i64 0,.int .i64 0,.int .i64 0,.int .i64 0,Yw [],.slice none 0 0,.slice none 0 0,.bool false,.bool false]⟩,9,104⟩,
 ⟨269,.func ⟨[266,266]⟩ ⟨[4]⟩ false,.nilFunc,1,8⟩,
 ⟨270,.func ⟨[266,266]⟩ ⟨[266]⟩ false,.nilFunc,1,8⟩,
 ⟨271,.pointer 341,.pointer none,1,8⟩,
 ⟨280,.struct ⟨[⟨"Days",3,0,false, "", "",0⟩,⟨"From",3,1,false, "", "",8⟩,⟨"To",3,2,false, "", "",16⟩]⟩,.agg ⟨[.int .i64 0,.int .i64 0,.int .i64 0]⟩,3,24⟩,
 ⟨283,.func ⟨[109]⟩ ⟨[4]⟩ false,.nilFunc,1,8⟩,
 ⟨288,.map 3 4,.map none,1,8⟩,
 ⟨289,.map 9 288,.map none,1,8⟩,
 ⟨300,.struct ⟨[⟨"sub",3,0,false, "", "billing/bucket",0⟩,⟨"product",9,1,false, "", "billing/bucket",8⟩,⟨"index",3,2,false, "", "billing/bucket",24⟩,⟨"from",3,3,false, "", "billing/bucket",32⟩]⟩,.agg ⟨[.int .i64 0,Yw [],.int .i64 0,.int .i64 0]⟩,4,40⟩,
 ⟨303,.slice 306,.slice none 0 0,1,24⟩,
 ⟨306,.struct ⟨[⟨"Band",9,0,false, "", "",0⟩,⟨"Period",71,1,false, "", "",16⟩]⟩,.agg ⟨[Yw [],.int .i64 0,.int .i64 0]⟩,3,32⟩,
 ⟨309,.array 3 227,.agg ⟨[.int .i64 0,.int .i64 0,.int .i64 0,.int .i64 0,.int .i64 0,.int .i64 0]⟩,6,48⟩,
 ⟨312,.func ⟨[112]⟩ ⟨[4]⟩ false,.nilFunc,1,8⟩,
 ⟨314,.func ⟨[280]⟩ ⟨[4]⟩ false,.nilFunc,1,8⟩,
 ⟨337,.map 3 76,.map none,1,8⟩,
 ⟨338,.map 3 126,.map none,1,8⟩,
 ⟨339,.map 9 3,.map none,1,8⟩,
 ⟨341,.struct ⟨[⟨"accounts",337,0,false, "", "billing/customer",0⟩,⟨"subs",338,1,false, "", "billing/customer",8⟩,⟨"ever",288,2,false, "", "billing/customer",16⟩,⟨"owners",339,3,false, "", "billing/customer",24⟩,⟨"live",230,4,false, "", "billing/customer",32⟩,⟨"opened",26,5,false, "", "billing/customer",40⟩,⟨"added",26,6,false, "", "billing/customer",64⟩]⟩,.agg ⟨[.map none,.map none,.map none,.map none,.map none,.slice none 0 0,.slice none 0 0]⟩,7,88⟩,
 ⟨343,.map 3 26,.map none,1,8⟩,
 ⟨346,.func ⟨[74]⟩ ⟨[4]⟩ false,.nilFunc,1,8⟩,
 ⟨348,.func ⟨[4,4]⟩ ⟨[4]⟩ false,.nilFunc,1,8⟩,
 ⟨350,.func ⟨[90]⟩ ⟨[4]⟩ false,.nilFunc,1,8⟩,
 ⟨355,.struct ⟨[⟨"Year",3,0,false, "", "",0⟩,⟨"Month",3,1,false, "", "",8⟩,⟨"Day",3,2,false, "", "",16⟩]⟩,.agg ⟨[.int .i64 0,.int .i64 0,.int .i64 0]⟩,3,24⟩,
 ⟨363,.array 4 3,.agg ⟨[.int .i64 0,.int .i64 0,.int .i64 0,.int .i64 0]⟩,4,32⟩,
 ⟨373,.func ⟨[71,71]⟩ ⟨[4]⟩ false,.nilFunc,1,8⟩,
 ⟨374,.func ⟨[71,71]⟩ ⟨[71]⟩ false,.nilFunc,1,8⟩,
 ⟨375,.slice 377,.slice none 0 0,1,24⟩,
 ⟨377,.struct ⟨[⟨"at",3,0,false, "", "billing/interval",0⟩,⟨"list",3,1,false, "", "billing/interval",8⟩,⟨"by",3,2,false, "", "billing/interval",16⟩]⟩,.agg ⟨[.int .i64 0,.int .i64 0,.int .i64 0]⟩,3,24⟩,
 ⟨380,.func ⟨[377,377]⟩ ⟨[3]⟩ false,.nilFunc,1,8⟩,
 ⟨391,.int .u64,.int .u64 0,1,8⟩,
 ⟨396,.array 12 3,.agg ⟨[.int .i64 0,.int .i64 0,.int .i64 0,.int .i64 0,.int .i64 0,.int .i64 0,.int .i64 0,.int .i64 0,.int .i64 0,.int .i64 0,.int .i64 0,.int .i64 0]⟩,12,96⟩]
def tx:TX:=⟨tab,[(1,.ref),(2,(.int .i64)),(3,(.int .i64)),(4,.bool),(5,(.int .u8)),(6,(.int .u8)),(9,.str),(22,(.sl J2)),(23,(.sl J9)),(24,(.sl Ye)),(25,(.sl Ph)),(26,(.sl (.int .i64))),(27,(.sl Zk)),(29,Xd),(30,(.sl J3)),(33,(.sl J4)),(34,(.sl Um)),(35,(.sl Y2)),(37,Zw),(40,J3),(41,(.int .i64)),(42,(.sl Tn)),(43,(.sl F3)),(44,(.sl Qgc)),(46,Qoe),(57,.ref),(60,Tn),(62,F3),(64,Um),(66,Y2),(69,.ref),(71,Je),(72,(.sl .str)),(74,Er),(76,Z6),(77,(.sl Zq)),(78,(.sl Uz)),(79,(.sl Wt)),(80,(.sl V8)),(82,J9),(84,Jqj),(85,.ref),(88,(.sl Xk)),(90,Ye),(92,Xk),(93,(.sl Ke)),(95,Zk),(97,J4),(100,Qgc),(109,Zq),(110,(.sl Ws)),(112,Uz),(114,Ke),(116,Wt),(118,J2),(126,V0),(147,Qaa),(153,(.sl Wu)),(155,Wu),(157,V8),(162,(.sl Z6)),(163,(.sl V0)),(165,U0),(172,Ph),(178,(.sl Er)),(182,Qyz),(184,.ref),(194,.ref),(195,.ref),(197,Q1j),(200,Kf),(203,(.sl Zx)),(205,(.sl Je)),(208,Zx),(209,(.sl B7)),(212,B7),(227,(.arr 2 (.int .i64))),(230,.ref),(246,(.sl Up)),(252,Up),(257,(.arr 5 .bool)),(263,(.sl Ug)),(266,Ug),(269,.ref),(270,.ref),(271,.ref),(280,Ws),(283,.ref),(288,.ref),(289,.ref),(300,Qei),(303,(.sl Qof)),(306,Qof),(309,(.arr 3 (.arr 2 (.int .i64)))),(312,.ref),(314,.ref),(337,.ref),(338,.ref),(339,.ref),(341,Qu4),(343,.ref),(346,.ref),(348,.ref),(350,.ref),(355,Ql2),(363,(.arr 4 (.int .i64))),(373,.ref),(374,.ref),(375,(.sl U1)),(377,U1),(380,.ref),(391,(.int .u64)),(396,(.arr 12 (.int .i64)))],[]⟩
theorem Jlw:Tryz.prog.follows .mixedOrders=true:=by kernel_rfl
theorem Jlx:Jg Tryz.prog tab:=by repeat (first | exact trivial | refine⟨⟨⟨by kernel_rfl,by kernel_rfl⟩,by kernel_rfl⟩,?_⟩)
abbrev KO(c:Con):Prop:=Qne Tryz.prog tx.gl c∧Runs Tryz.prog c.f
abbrev IO(i:It):Prop:=Jp8 Tryz.prog tx.gl i∧Runs Tryz.prog i.f
abbrev V:={c // KO c}
def kcs(N:Nat)(L:List (Nat→V)):List Con:=L.map fun k=>(k N).1
theorem Jc2(N:Nat):∀L:List (Nat→V),Jcl Tryz.prog tx.gl (kcs N L)
 | []=>J78
 | c::L=>J6c (c N).2.1 (c N).2.2 (Jc2 N L)
def Jc3(fn:Func):Bool:=decide (fn.name ≠ "runtime.NumGoroutine")&&!fn.body.isNone
theorem L2{f:FuncId}{fn:Func}(hf:Tryz.prog.funcs[f]?=some fn)(h:Jc3 fn=true):Runs Tryz.prog f:=by
 simp only[Jc3,QQ,decide_eq_true_eq,JP]at h;exact⟨fn,hf,h.1,h.2⟩
theorem kF(N:Nat){c:Con}(L:List (Nat→V))(ps:List (Nat×Pc)){fn:Func}(hf:Tryz.prog.funcs[c.f]?=some fn)(hg:Jc3 fn=true:=by rfl)(h:∀x,c.fn x=Jph tx (kcs N L) N fn (Jut ((kcs N L).map Con.f) ps fn.body) c.ro c.Γ c.Δ x:=by intro x; kernel_rfl):KO c :=
 ⟨Jlr (Y:=tx) (N:=N) Jlx Jlw (Jc2 N L) hf rfl h,L2 hf hg⟩
def ics(L:List {i // IO i}):List It:=L.map (·.1)
theorem J13:∀L:List {i // IO i},∀i∈ics L,Jp8 Tryz.prog tx.gl i∧Runs Tryz.prog i.f
 | [],_,h=>by cases h
 | c::L,i,h=>by
  rcases QX.1 h with rfl | h
  ·exact c.2
  ·exact J13 L i h
theorem kR(N:Nat){c:Con}(L:List (Nat→V))(I:List {i // IO i})(an:AnR){fn:Func}(hf:Tryz.prog.funcs[c.f]?=some fn)(hg:Jc3 fn=true)(h:∀x,c.fn x=Jup tx (kcs N L) N (ics I) fn an c.ro c.Γ c.Δ x):KO c :=
 ⟨Juq (Y:=tx) (N:=N) (an:=an) Jlx Jlw (Jc2 N L) (J13 I) hf rfl h,L2 hf hg⟩
def tx2:TX:=⟨tab,(76,O4)::tx.tys,tx.gl⟩
theorem kF2(N:Nat){c:Con}(L:List (Nat→V))(ps:List (Nat×Pc)){fn:Func}(hf:Tryz.prog.funcs[c.f]?=some fn)(hg:Jc3 fn=true:=by rfl)(h:∀x,c.fn x=Jph tx2 (kcs N L) N fn (Jut ((kcs N L).map Con.f) ps fn.body) c.ro c.Γ c.Δ x:=by intro x; kernel_rfl):KO c :=
 ⟨Jlr (Y:=tx2) (N:=N) Jlx Jlw (Jc2 N L) hf rfl h,L2 hf hg⟩
def Za:Con:=⟨333,⟨[(0,.s 5000),(1,.f 334 (.nil))],[(5000,.row 377 U1)]⟩,[⟨[],[(5000,.row 377 U1)]⟩],Qnh (fun x:Jj=>x.1),[]⟩
theorem Fl:KO Za:=⟨Q38 (c:=Za) (e:=377) (u:=U1) rfl (fun x=>x) (fun y=>y) (ev:=[⟨1,[],.f 334 .nil⟩]) (vx:=[.func (.func 334) #[] #[]]) rfl (fun _=>by kernel_rfl) (fun _=>by kernel_rfl) rfl Jlv (fun _ _=>Jqg) (fun p w=>AnyF.slices_SortFunc_none { Tryz.sortFunc333 with } p 0 _ w) (fun _ _ h blk cap w hH hb _=>Jcz (u:=U1) rfl (fun x:Jj=>x.1) Tryz.sortFunc333 isAgg377 sizeOf377 (enters_of func334 (by kernel_rfl) rfl) Tryz.clo334 h blk cap w hH hb),L2 func333 rfl⟩
def Su:Con:=⟨336,⟨[(0,.s 5000)],[(5000,.row 3 (.int .i64))]⟩,[⟨[],[(5000,.row 3 (.int .i64))]⟩],Q33,[]⟩
theorem Qok:KO Su:=⟨Q38 (c:=Su) (e:=3) (u:=(.int .i64)) rfl (fun x=>x) (fun y=>y) (ev:=[]) (vx:=[]) rfl (fun _=>by kernel_rfl) (fun _=>by kernel_rfl) rfl Jlu (fun _ _=>Jqh) (fun p w=>AnyM.slices_Sort_int_none Tryz.sortInts336 p 0 w) (fun _ _ h blk cap w hH hb _=>Jc0 Tryz.sortInts336 h blk cap w hH hb),L2 func336 rfl⟩
def L3:Con:=⟨337,⟨[(0,.s 5000)],[(5000,.row 3 (.int .i64))]⟩,[⟨[(0,.s 0)],[(0,.row 3 (.int .i64))]⟩],Qeh,[]⟩
theorem Qic:KO L3:=⟨Q39 (c:=L3) (e:=3) (u:=(.int .i64)) rfl (fun x=>x) (fun y=>y) (ev:=[]) (vx:=[]) rfl (fun _=>by kernel_rfl) (fun _=>by kernel_rfl) rfl rfl Jlu (fun _ _=>Q7k) (fun p w=>Any.slices_Compact_int_empty Tryz.compactInts337 p 0 w) (fun _ _ h blk cap w hH hb hc=>Qyy Tryz.compactInts337 h blk cap w hH hb hc),L2 func337 rfl⟩
def Gi:Con:=⟨338,⟨[(0,.s 5000),(1,.f 339 (.nil))],[(5000,.row 3 (.int .i64))]⟩,[⟨[(0,.s 0)],[(0,.row 3 (.int .i64))]⟩],Q34 (fun m=>decide (m≥1440)),[]⟩
theorem Rx:KO Gi:=⟨Q39 (c:=Gi) (e:=3) (u:=(.int .i64)) rfl (fun x=>x) (fun y=>y) (ev:=[⟨1,[],.f 339 .nil⟩]) (vx:=[.func (.func 339) #[] #[]]) rfl (fun _=>by kernel_rfl) (fun _=>by kernel_rfl) rfl rfl Jlv (fun _ _=>Jqi) (fun p w=>Q1i Tryz.deleteFunc338 p w) (fun _ _ h blk cap w hH hb hc=>Jc1 Tryz.deleteFunc338 Tryz.zeroValue3 (enters_of func339 (by kernel_rfl) rfl) Tryz.clo339 h blk cap w hH hb hc),L2 func338 rfl⟩
def zs1:Shp:=sD [.bool]
def zs2:Shp:=sD [Zw]
def zs3:Sk:=.s 1
def zs4:Sk:=.s 2
def zs5:Sk:=.ag (sL [zs3,zs4,.s 3])
def zs6:SkO:=.row 97 J4
def zs7:SkO:=.row 64 Um
def zs8:SkO:=.row 66 Y2
def zs9:List (Nat×SkO):=[(1,zs6),(2,zs7),(3,zs8)]
def Jc4:Shp:=⟨[(0,zs5)],zs9⟩
def Vn:Hn:=.n 1 .done
def Ej:HT:=.tl Vn
def Jz7:HT:=.e 3 Ej
def L4:Sk:=.p 100000 []
def Qg:Sk:=.d .i
def Jz8:List (Nat×Sk):=[(3,L4),(4,Qg)]
def Qsq:Sk:=.s 100001
def Jz9:Sk:=.s 100002
def J6f:Sk:=.s 100003
def J8e:Sk:=.ag (sL [Qsq,Jz9,J6f])
def J8f:List (Nat×SkO):=[(100000,.var 37 J8e),(100001,zs6),(100002,zs7),(100003,zs8)]
def Qa4:Sk:=.p 100100 []
def Juv:List (Nat×Sk):=[(3,Qa4)]
def Qy4:Sk:=.s 100101
def Juw:Sk:=.s 100102
def J0a:Sk:=.s 100103
def J8g:Sk:=.ag (sL [Qy4,Juw,J0a])
def J8h:List (Nat×SkO):=[(100100,.var 37 J8g),(100101,zs6),(100102,zs7),(100103,zs8)]
def J8i:Exs:=[(.x 0,⟨Juv,J8h⟩)]
def Q1p:Hn:=.n 4 .done
def J0b:Shp:=sD [U0,.i]
def Yp:Shp:=sD [.i]
def Fn:Shp:=⟨[(5,Qg)],[]⟩
def Qbn:Shp:=⟨[],[]⟩
def Q7l:Shp:=⟨[(4,Qg)],[]⟩
def Qsr:Exs:=[(.x 0,Qbn),(.r,Q7l)]
def Q7m:Shp:=sD [.sl .str,.str]
def Qdi:List (Nat×Sk):=[(0,zs3)]
def Qu5:SkO:=.row 9 .str
def Jiy:Shp:=⟨Qdi,[(1,Qu5)]⟩
def Jc5:Exs:=[(.x 0,Fn)]
def Q0:Sk:=.d .bool
def Jc6:Shp:=⟨[(18,Q0)],[]⟩
def Ry:Hn:=.nl 6 Vn
def P5:Sk:=.s 100000
def Jux:List (Nat×Sk):=[(5,P5),(6,Qg)]
def Qa5:Sk:=.s 100200
def J0c:List (Nat×Sk):=[(5,Qa5)]
def J6g:Exs:=[(.x 0,⟨J0c,[(100200,Qu5)]⟩)]
def Qdj:Sk:=.s 100100
def J6h:Exs:=[(.n,⟨[(5,Qdj)],[(100100,Qu5)]⟩)]
def J8j:Shp:=sD [V0,J2]
def Yk:Sk:=.d .str
def J6i:Sk:=.d (.sl .str)
def J6j:SkO:=.var 126 (.ag (sL [Qg,Qg,Qg,Yk,J6i,J6i,Q0,Q0]))
def J6k:Shp:=sD [U0,J2]
def Juy:SkO:=.row 76 O4
def Qmf:SkO:=.row 126 V0
def G7:SkO:=.row 3 .i
def J8k:Shp:=⟨[(0,zs5)],[(1,Juy),(2,Qmf),(3,G7)]⟩
def J6l:Sk:=.p 100101 []
def Qdk:Sk:=.p 100200 []
def Qu6:Sk:=.s 100201
def Juz:Sk:=.s 100202
def J6m:Sk:=.s 100203
def J8l:List (Nat×SkO):=[(100200,.var 165 (.ag (sL [Qu6,Juz,J6m]))),(100201,Juy),(100202,Qmf),(100203,G7)]
def Q1q:Hn:=.n 3 .done
def Qu7:HT:=.tl Q1q
def J8m:Exs:=[(.n,⟨[(90,Q0)],[]⟩)]
def Q7n:Hn:=.n 2 .done
def Jc7:HT:=.tl Q7n
def Qss:Shp:=sD [.sl J2,.i]
def J6n:List (Nat×Sk):=[(5,L4),(6,Qg)]
def J8n:List (Nat×SkO):=[(100000,.var 165 J8e),(100001,Juy),(100002,Qmf),(100003,G7)]
def Qu8:Hn:=.n 5 .done
def Qbo:Hn:=.call 0 Vn
def Qid:Exs:=[(.x 0,Qbn),(.r,⟨[(4,Q0)],[]⟩)]
def Jc8:Shp:=sD [.sl J2,.i,.i]
def J8o:Shp:=sD [V0,.bool]
def Jqk:Shp:=⟨[(22,Q0)],[]⟩
def Me:Hn:=.nl 3 Vn
def J6o:Hn:=.call 2 Vn
def J6p:Shp:=⟨[(30,Q0)],[]⟩
def Q1r:Hn:=.nl 5 Vn
def Jc9:SkO:=.row 74 Er
def Qy5:Sk:=.s 100400
def Qst:Sk:=.s 100300
def Ju0:List (Nat×Sk):=[(5,Qst)]
def Qu9:Shp:=⟨[(8,Qg)],[]⟩
def J0d:Exs:=[(.n,Qu9)]
def J0e:Hn:=.call 1 Vn
def J0f:HT:=.tl J0e
def Q7o:Hn:=.nl 1 Vn
def J0g:HT:=.a (.a (.a (.a (.a (.tl Q7o)))))
def J0h:HT:=.a (.a J0g)
def J8p:HT:=.a J0h
def J8q:HT:=.a (.a (.a (.a J8p)))
def J8r:Shp:=sD [Er,.bool]
def Qva:Sk:=.d Je
def Jly:SkO:=.var 74 (.ag (sL [Qva,Yk,.ns,Q0,Q0]))
def P6:Sk:=.p 100300 []
def D6:Sk:=.d Er
def Qa6:Hn:=.nl 8 Vn
def J14:Shp:=sD [.sl J9,.str,.i]
def J15:List (Nat×Sk):=[(8,L4),(9,Q0),(10,Qg)]
def Qy6:Sk:=.d J9
def Ju1:SkO:=.var 82 Qy6
def Jlz:List (Nat×Sk):=[(8,Qdk),(9,Q0)]
def Jl0:Shp:=⟨[(33,Q0)],[]⟩
def Fo:Hn:=.nl 7 Vn
def Jda:SkO:=.row 76 Z6
def Ju2:Shp:=⟨[(0,.ag (sL [zs3,zs4]))],[(1,Jda),(2,Qmf)]⟩
def Q4a:Sk:=.p 100001 []
def Jdb:Sk:=.d (.sl .i)
def J16:SkO:=.var 182 (.ag (sL [.ns,Jz9]))
def Jl1:Sk:=.p 100301 []
def Q4b:Sk:=.s 100302
def Ju3:Shp:=⟨[(44,Q0)],[]⟩
def Qy7:Hn:=.call 2 Q7o
def Ju4:Hn:=.nl 2 Qy7
def Zb:Hn:=.nl 4 Vn
def Ju5:HT:=.a Qu7
def J17:HT:=.a Ju5
def J18:HT:=.a (.a J17)
def Qqo:Sk:=.p 100400 []
def Q4c:Sk:=.s 100401
def Jl2:Sk:=.s 100402
def J19:List (Nat×SkO):=[(100400,.var 182 (.ag (sL [Q4c,Jl2]))),(100401,Jda),(100402,Qmf)]
def Ju6:Sk:=.p 100800 []
def Ju7:Sk:=.s 100801
def Jdc:Sk:=.p 100500 []
def Q4d:Sk:=.s 100501
def Jl3:Sk:=.p 100700 []
def Ju8:List (Nat×Sk):=[(11,Jl3)]
def Q4e:Sk:=.s 100701
def Jdd:Sk:=.p 100600 []
def Jl4:List (Nat×Sk):=[(11,Jdd)]
def Q4f:Sk:=.s 100601
def J2a:Shp:=sD [Z6,.bool]
def Ju9:SkO:=.var 76 (.ag (sL [Qg,Qg,Qg,Q0,Q0,.ns]))
def Jva:List (Nat×Sk):=[(6,Qdk),(7,Q0)]
def Nl:Sk:=.d Z6
def J2b:Exs:=[(.x 0,⟨[(6,Qa4)],[(100100,Ju9)]⟩),(.r,⟨Jva,[(100200,.var 76 Nl)]⟩)]
def P7:Shp:=sD [.str]
def Jl5:Shp:=⟨[(23,Q0)],[]⟩
def D7:Shp:=⟨[(3,Qg)],[]⟩
def Qe2:Exs:=[(.x 0,Qbn),(.r,⟨[(2,Q0)],[]⟩)]
def Jl6:Shp:=⟨[(49,Q0)],[]⟩
def Jvb:Shp:=⟨[(61,Q0)],[]⟩
def Q4g:Shp:=⟨[(19,Q0)],[]⟩
def Sv:Shp:=⟨[(7,Qg)],[]⟩
def J2c:Exs:=[(.x 0,Qbn),(.r,⟨[(6,Q0)],[]⟩)]
def Qj1:Shp:=⟨[(6,Qg)],[]⟩
def Qqp:Hn:=.n 8 .done
def J2d:Shp:=sD [.sl Zq]
def Jde:Shp:=⟨[(2,Qg)],[]⟩
def Qh0:Exs:=[(.x 0,Qbn),(.r,Jde)]
def Jl7:Shp:=⟨[(17,Q0)],[]⟩
def Jvc:Shp:=sD [.sl Zq,.str]
def J2e:Shp:=⟨[(5,Yk),(6,Qg)],[]⟩
def Jl8:Shp:=⟨[(42,Q0)],[]⟩
def Jvd:Shp:=sD [.str,.bool]
def Jl9:Hn:=.call 1 Q7o
def Que:Hn:=.nl 1 Jl9
def Jdf:Shp:=sD [J4]
def Jdg:Shp:=⟨[(0,.ag (sL [Qg,Qg,Yk,Qg,Qg,zs3,Qva,Qg,Qg,Qg,Q0]))],[(1,Qu5)]⟩
def Jdh:Shp:=sD [.sl J4]
def Jma:Shp:=⟨Qdi,[(1,zs6)]⟩
def Jdi:List (Nat×Sk):=[(3,P5),(4,Qg)]
def Jmb:List (Nat×SkO):=[(100000,zs6)]
def Jmc:List (Nat×Sk):=[(3,Qdj)]
def Jve:Exs:=[(.x 0,⟨Jmc,[(100100,zs6)]⟩)]
def Jvf:HT:=.b 1 (.c 1 Qu7)
def Jvg:Sk:=.d J2
def Jvh:SkO:=.var 118 Jvg
def Jdj:Shp:=sD [Um]
def Jdk:Hn:=.call 0 Q7o
def Qy8:Hn:=.nl 2 Jdk
def Jmd:Hn:=.n 15 .done
def Jme:Hn:=.nl 1 Qbo
def Qnn:Hn:=.nl 2 Vn
def Qch:Shp:=sD [Um,.i]
def Jvi:Sk:=.d Um
def Qqq:SkO:=.var 64 Jvi
def J2f:List (Nat×Sk):=[(0,.s 5000),(1,Qg)]
def Jvj:List (Nat×SkO):=[(5000,zs7)]
def J2g:Shp:=sD [.sl J2,Zw,.i,.i]
def Jmf:Shp:=⟨[(25,Q0)],[]⟩
def Jvk:List (Nat×Sk):=[(11,Jdc)]
def Q4h:Shp:=⟨Qdi,[(1,G7)]⟩
def Q4i:List (Nat×SkO):=[(100000,G7)]
def Jdl:Sk:=.s 100600
def Q4j:Sk:=.s 100500
def J2h:Exs:=[(.n,⟨[(5,Q4j)],[(100500,G7)]⟩)]
def Jvl:Shp:=⟨[(29,Q0)],[]⟩
def Jvm:Shp:=⟨[(46,Q0)],[]⟩
def Qh1:Hn:=.nl 11 Vn
def Q4k:SkO:=.tail 9 .str
def Jdm:Sk:=.s 100700
def Jmg:Shp:=⟨[(55,Q0)],[]⟩
def J2i:Shp:=sD [.sl Je]
def P8:SkO:=.row 71 Je
def Qe3:Shp:=⟨Qdi,[(1,P8)]⟩
def Qy9:List (Nat×SkO):=[(100000,P8)]
def Jvn:List (Nat×SkO):=[(100300,P8)]
def Jdn:List (Nat×SkO):=[(100200,P8)]
def J2j:Shp:=sD [.sl J2,.i,.str]
def Jdo:List (Nat×SkO):=[(100100,P8)]
def Jdp:SkO:=.row 252 Up
def Qza:Shp:=sD [Je]
def Q4l:Shp:=sD [.sl .i,.i]
def Jmh:List (Nat×SkO):=[(100400,G7)]
def Jvo:List (Nat×SkO):=[(100200,G7)]
def J2k:Shp:=sD [Je,.i]
def Jvp:List (Nat×SkO):=[(100500,P8)]
def Jmi:List (Nat×SkO):=[(100400,P8)]
def Jvq:Shp:=⟨[(43,Q0)],[]⟩
def J2l:HT:=.a (.a Jc7)
def J2m:HT:=.a J2l
def Zc:Shp:=sD [.i,.i]
def J2n:Shp:=sD [.i,Je]
def Jvr:Hn:=.nl 1 Jdk
def Jmj:Shp:=sD [Je,Je]
def Jvs:Shp:=sD [Je,.bool]
def Q4m:SkO:=.var 71 Qva
def J2o:Shp:=sD [.sl Ye,.str,.i]
def Jvt:SkO:=.var 90 (.d Ye)
def J2p:Shp:=sD [.sl J4,J4]
def Qzb:Shp:=sD [J4,J4]
def J2q:Shp:=sD [J4,J4,.i]
def Jmk:Hn:=.call 3 Vn
def J2r:Shp:=sD [.sl J2,.sl Ye,Zw,.i,.i]
def Qqr:Sk:=.d (.sl J4)
def Jml:Shp:=⟨[(35,Q0)],[]⟩
def Jmm:Sk:=.s 100702
def Jmn:Sk:=.s 100602
def Quf:Sk:=.s 100301
def Jmo:Sk:=.s 100502
def Q4n:Hn:=.n 11 .done
def J2s:Shp:=sD [J4,.i,.i,.i,.str,.bool,.i]
def Jvu:Shp:=⟨[(50,Q0)],[]⟩
def Jmp:Hn:=.nl 5 .done
def Jvv:Hn:=.nl 1 .done
def J2t:Shp:=sD [.sl J4,.i,.i,.i,.str,.bool,.i,.i]
def Zv:SkO:=.row 60 Tn
def J2u:Shp:=⟨[(0,zs3),(1,zs4),(2,Qg)],[(1,zs6),(2,Zv)]⟩
def J2v:List (Nat×SkO):=[(100000,zs6),(100001,Zv)]
def J2w:List (Nat×SkO):=[(100300,zs6),(100301,Zv)]
def J2x:List (Nat×SkO):=[(100200,zs6),(100201,Zv)]
def Jdq:Hn:=.nl 9 Vn
def J2y:Shp:=sD [Zw,J3,.str,.bool]
def J2z:Shp:=⟨[(0,zs5),(1,.s 4),(2,Qg)],[(1,zs6),(2,zs7),(3,zs8),(4,Zv)]⟩
def J20:Shp:=sD [J3,.i]
def Jvw:Shp:=sD [.sl Uz]
def Jvx:Exs:=[(.x 2,Qbn),(.r,Jde)]
def Jvy:Shp:=sD [.sl Uz,.sl .i,.i]
def Qno:Shp:=⟨[(9,Qg)],[]⟩
def J21:Exs:=[(.x 0,Qbn),(.r,⟨[(6,Yk)],[]⟩)]
def J22:Shp:=sD [.sl Uz,.sl .i,Je]
def Qqs:SkO:=.row 306 Qof
def J23:Exs:=[(.x 0,⟨[(7,Jdm)],[(100700,Qqs)]⟩)]
def J24:Exs:=[(.x 2,⟨[(7,Jdl)],[(100600,Qqs)]⟩)]
def J25:Exs:=[(.n,⟨[(7,Q4j)],[(100500,Qqs)]⟩)]
def Jmq:Shp:=⟨[(11,Qg)],[]⟩
def Jmr:Shp:=sD [J9,.sl .i,J3,.i]
def Qug:Hn:=.nl 2 Jl9
def Zd:SkO:=.row 62 F3
def Jms:List (Nat×SkO):=[(100200,Zd)]
def J26:Shp:=sD [J9,.i,.str,.str]
def J27:List (Nat×Sk):=[(8,L4),(10,Qg)]
def Jmt:SkO:=.var 116 (.ag (sL [Qg,Yk,Yk,Qg,.ns]))
def J28:Shp:=sD [.sl Ke]
def J29:Shp:=⟨[(3,Qg),(4,Qg)],[]⟩
def Jmu:List (Nat×Sk):=[(0,zs3),(1,Qg),(2,Qg)]
def Q4o:HT:=.a Ej
def Jvz:HT:=.a (.a (.a Q4o))
def J3a:HT:=.k 3 [] [] [] [] Jvz
def J3b:Exs:=[(.n,⟨[(14,Qg)],[]⟩)]
def Jmv:Shp:=sD [Qoe]
def J3c:Shp:=sD [Y2,Y2]
def J3d:Shp:=sD [.sl Y2,.i,.i,.i]
def Q4p:Shp:=sD [Y2]
def Q4q:SkO:=.var 66 (.d Y2)
def J3e:Exs:=[(.x 0,⟨[(8,Qa4)],[(100100,Q4q)]⟩),(.r,⟨[(8,Qdk)],[(100200,Q4q)]⟩)]
def J3f:Shp:=sD [J3,.str,.str,Y2,.bool]
def Jv0:SkO:=.var 147 (.d Qaa)
def Qzc:Shp:=sD [Wu]
def Jmw:Hn:=.n 7 .done
def J3g:Exs:=[(.n,Qbn),(.r,Q7l)]
def Jv1:Shp:=sD [Wu,.i]
def J3h:Shp:=⟨[(7,P5),(8,Qg)],Q4i⟩
def Jv2:Shp:=⟨[(4,Qg),(5,Qg)],[]⟩
def Qnp:Shp:=sD [Wu,Qaa]
def J3i:Shp:=sD [.str,Qaa]
def Qh2:Shp:=sD [.i,.bool]
def Jmx:HT:=.b 2 (.c 2 (.a (.a (.c 3 (.k 2 [] [] [] [] Jvz)))))
def J3j:HT:=.b 2 (.c 2 (.a (.a (.c 3 J3a))))
def J3k:Exs:=[(.n,⟨[(12,Qg)],[]⟩)]
def Jmy:Hn:=.call 0 Q7n
def Jv3:Exs:=[(.n,⟨[(4,Q0)],[]⟩)]
def J3l:HT:=.b 2 (.c 2 (.a (.a (.c 3 (.tl Jmy)))))
def J3m:HT:=.a (.a (.a (.a (.a (.tl (.nl 1 Q7n))))))
def Q4r:Shp:=sD [.i,.i,.i]
def J3n:Shp:=⟨[(8,Qg),(9,Qg),(10,Qg)],[]⟩
def Jmz:Shp:=⟨[(8,Qg),(9,Qg)],[]⟩
def Q4s:Hn:=.n 10 .done
def J3o:Exs:=[(.n,⟨[(10,Qg)],[]⟩)]
def J3p:Shp:=sD [.sl V8,Qaa,.i]
def Ut:SkO:=.row 100 Qgc
def Qqt:Hn:=.n 6 .done
def J3q:Shp:=sD [Zw,.i,.i,.bool]
def J3r:Shp:=⟨[(0,zs5),(1,Qg),(2,Qg)],zs9⟩
def J3s:Shp:=sD [.sl Y2]
def J3t:HT:=.a (.a (.a (.a (.a (.a (.tl Me))))))
def J3u:HT:=.a (.a (.a J3t))
def J3v:HT:=.a (.a (.a (.a (.a J3u))))
def Jv4:HT:=.a (.a (.a (.a (.a J3v))))
def J3w:HT:=.a (.a (.a (.so 36 (.a (.a (.a (.a (.a (.c 4 (.tl (.call 2 Qnn)))))))) J3t)))
def J3x:Shp:=sD [.sl Y2,Y2]
def J3y:Shp:=⟨[(0,zs3),(1,Qg)],[(1,zs8)]⟩
def Jm0:Hn:=.call 4 Vn
def Jm1:Shp:=sD [Xd,Zw,J3]
def J3z:Sk:=.d (.sl Y2)
def Jdr:Sk:=.ag (sL [Qqr,.d (.sl Um),J3z])
def Zn:Sk:=.d J3
def Q4t:Sk:=.ag (sL [Zn,Qg,Yk,Qg,Yk,zs3,zs4,Qg,Qg,Qg,.s 3,Qg,Qg])
def J30:Shp:=⟨[(0,Jdr),(1,Q4t)],[(1,.tail 60 Tn),(2,.tail 62 F3),(3,Ut)]⟩
def Jv5:HT:=.f 6 6 Ej
def Jv6:HT:=.c 4 (.c 8 Jv5)
def J31:HT:=.g [] [4] [] [24601,24602,24603] (.g [] [8] [] [24604,26301] (.g [6] [24601,24602,24603] [] [6,24601,24602,24603] Ej))
def Jv7:Exs:=[(.x 2,Qbn),(.r,⟨[(4,Q0)],[]⟩)]
def Jv8:Exs:=[(.x 4,Qbn),(.r,⟨[(4,Q0)],[]⟩)]
def J32:Exs:=[(.x 6,Qbn),(.r,⟨[(4,Q0)],[]⟩)]
def Jv9:Shp:=⟨[(13,Q0)],[]⟩
def Jm2:Hn:=.nl 4 (.n 3 Q7o)
def J33:Hn:=.nl 2 (.call 3 Q7o)
def J34:HT:=.a (.a (.a (.a (.tl Jdk))))
def J35:HT:=.a (.a (.a (.a (.a (.tl Qnn)))))
def J36:HT:=.a J35
def J37:HT:=.a J36
def Jm3:Hn:=.nl 3 Jl9
def Jds:Shp:=⟨[(41,Q0)],[]⟩
def J38:Exs:=[(.x 0,Qbn),(.r,⟨[(2,Qg),(3,Qg)],[]⟩)]
def J39:Shp:=sD [Ye]
def Jm4:Hn:=.nl 13 .done
def Jwa:Shp:=sD [.int .u8]
def J4a:Shp:=sD [J9,.str]
def Jdt:Shp:=sD [J9]
def J4b:Shp:=sD [Xd,.sl J3]
def Jwb:List (Nat×Sk):=[(5,P5),(10,Qg)]
def Jm5:SkO:=.var 126 (.ag (sL [Qg,Qg,Qg,Yk,.ns,.ns,Q0,Q0]))
def Quh:SkO:=.row 266 Ug
def Jwc:Sk:=.d V0
def Jwd:SkO:=.var 126 Jwc
def Jwe:Sk:=.p 100201 []
def J4c:Shp:=sD [Ug,Ug]
def J4d:List (Nat×Sk):=[(7,P5),(13,Qg)]
def Jdu:SkO:=.map .i Z6
def Qui:SkO:=.map .i .bool
def Qh3:SkO:=.map .i .i
def J4e:Sk:=.d (.sl J2)
def Qci:SkO:=.var 3 Qg
def Fp:Sk:=.p 5000 []
def Jm6:Sk:=.m 5001
def Q4u:Sk:=.m 5002
def Jm7:Sk:=.m 5003
def Jm8:Sk:=.m 5004
def Jm9:Sk:=.m 5005
def Qqu:Sk:=.s 5006
def Qzd:Sk:=.s 5007
def Jwf:List (Nat×SkO):=[(5000,.var 341 (.ag (sL [Jm6,Q4u,Jm7,Jm8,Jm9,Qqu,Qzd]))),(5001,Jdu),(5002,.map .i V0),(5003,Qui),(5004,.map .str .i),(5005,Qh3),(5006,G7),(5007,G7)]
def Jwg:List (Nat×SkO):=[(5004,.map .str .i)]
def Qh4:List (Nat×Sk):=[(0,Fp)]
def J4f:Hn:=.fz 5006 (.dt 5000 .done)
def Jwh:SkO:=.mapC .i (.sl 3 .i)
def J4g:List (Nat×Sk):=[(6,L4),(15,Qg)]
def By:Sk:=.d Xd
def Sw:Sk:=.d Zw
def Qze:Sk:=.s 5001
def Qcj:Sk:=.s 5002
def Qe4:Sk:=.s 5003
def Qh5:Sk:=.s 5004
def Quj:Sk:=.s 5005
def J4h:Sk:=.ag (sL [Zn,Qg,Yk,Qg,Yk,Qzd,.s 5008,Qg,Qg,Qg,.s 5009,Qg,Qg])
def Nm:SkO:=.row 109 Zq
def Ef:SkO:=.row 112 Uz
def As:SkO:=.row 116 Wt
def D8:SkO:=.row 157 V8
def Qqv:List (Nat×Sk):=[(0,Qg)]
def Jdv:Sk:=.ag (sL [Yk,Qg,Q0,zs3,zs4,.s 3,.s 4])
def J4i:Sk:=.ag (sL [Zn,Qg,Yk,Qg,Yk,.s 5,.s 6,Qg,Qg,Qg,.s 7,Qg,Qg])
def J4j:SkO:=.var 84 (.ag (sL [By,Sw,Zn,.ag (sL [Qva,Yk,J6i,Q0,Q0]),.ag (sL [Qg,Qg,Qg,Q0,Q0,Jdb]),Jdv,Qg,J4i]))
def Jwi:HT:=.tl .done
def Sx:Sk:=.p 5001 []
def Quk:Sk:=sL [Fp]
def Qul:SkO:=.var 41 Qg
def J4k:Shp:=sD [.sl Ws]
def Jna:SkO:=.row 114 Ke
def Jnb:SkO:=.row 155 Wu
def Jwj:List (Nat×SkO):=[(1,Nm),(2,Ef),(3,As),(4,D8)]
def J4l:List (Nat×SkO):=[(100000,.var 82 (.ag (sL [Yk,Qg,Q0,Qsq,.ns,.ns,.ns]))),(100001,Nm)]
def J4m:Exs:=[(.x 0,⟨Juv,[(100100,.var 82 (.ag (sL [Yk,Qg,Q0,Qy4,.ns,.ns,.ns]))),(100101,Nm)]⟩)]
def J4n:List (Nat×SkO):=[(100200,.var 82 (.ag (sL [Yk,Qg,Q0,Qu6,Juz,.ns,.ns]))),(100201,Nm),(100202,Ef)]
def J4o:Exs:=[(.x 2,⟨[(3,P6)],[(100300,.var 82 (.ag (sL [Yk,Qg,Q0,Quf,Q4b,.ns,.ns]))),(100301,Nm),(100302,Ef)]⟩)]
def J4p:List (Nat×SkO):=[(100400,.var 82 (.ag (sL [Yk,Qg,Q0,Q4c,Jl2,.s 100403,.ns]))),(100401,Nm),(100402,Ef),(100403,As)]
def J4q:Exs:=[(.x 4,⟨[(3,Jdc)],[(100500,.var 82 (.ag (sL [Yk,Qg,Q0,Q4d,Jmo,.s 100503,.ns]))),(100501,Nm),(100502,Ef),(100503,As)]⟩)]
def Jwk:Sk:=.s 100603
def J4r:List (Nat×SkO):=[(100600,.var 82 (.ag (sL [Yk,Qg,Q0,Q4f,Jmn,Jwk,.s 100604]))),(100601,Nm),(100602,Ef),(100603,As),(100604,D8)]
def Jwl:Sk:=.s 100703
def J4s:Exs:=[(.x 6,⟨[(3,Jl3)],[(100700,.var 82 (.ag (sL [Yk,Qg,Q0,Q4e,Jmm,Jwl,.s 100704]))),(100701,Nm),(100702,Ef),(100703,As),(100704,D8)]⟩)]
def J4t:List (Nat×SkO):=[(5000,.var 109 (.d Zq))]
def Qum:Sk:=.d (.sl Zq)
def J4u:Shp:=⟨[(0,Qum),(1,.f 196 Quk)],J4t⟩
def Q4v:SkO:=.map .str .str
def Jnc:Sk:=.m 100000
def Jnd:Sk:=.m 100100
def J4v:An:=.two (.reg Q7n) .nil
def Jwm:Sk:=.ag (sL [Zn,Qg,Yk,Qg,Yk,Quj,Qqu,Qg,Qg,Qg,Qzd,Qg,Qg])
def J4w:Sk:=.ag (sL [Zn,Qg,Yk,Qg,Yk,.s 4,.s 5,Qg,Qg,Qg,.s 6,Qg,Qg])
def Jwn:SkO:=.var 84 (.ag (sL [By,Sw,Zn,D6,Nl,.ag (sL [Yk,Qg,Q0,Qum,zs3,zs4,.s 3]),Qg,J4w]))
def J4x:Shp:=⟨[(0,.m 1)],[(1,Qh3)]⟩
def Jwo:Hn:=.n 2 (.call 4 .done)
def Jdw:SkO:=.var 9 Yk
def Jne:Sk:=.d (.sl Je)
def J4y:Exs:=[(.x 0,⟨[(7,Qa5)],Jdn⟩)]
def J4z:Exs:=[(.n,⟨[(7,Qdj)],Jdo⟩)]
def Jnf:SkO:=.row 208 Zx
def Q4w:SkO:=.mapC .str (.mp .i .bool)
def Jng:SkO:=.var 355 (.d Ql2)
def Qun:SkO:=.row 377 U1
def J40:Shp:=⟨[(0,Jne),(1,Qg),(2,Fp)],[(5000,.var 375 Qze),(5001,Qun)]⟩
def J41:Shp:=⟨[],[(5000,.var 375 zs3),(1,Qun)]⟩
def Jnh:SkO:=.var 227 (.d (.arr 2 .i))
def J42:List (Nat×SkO):=[(5000,Jdw),(5001,Qci)]
def Qqw:SkO:=.row 90 Ye
def Q4x:SkO:=.row 92 Xk
def Jni:SkO:=.row 212 B7
def Qh6:SkO:=.map Kf .bool
def J43:HT:=.k 0 [] [] [] [] Ej
def J44:List (Nat×SkO):=[(5000,.var 112 (.d Uz))]
def J45:Sk:=.d (.sl Uz)
def J46:Shp:=⟨[(0,J45),(1,.f 226 Quk)],J44⟩
def J47:List (Nat×SkO):=[(5000,Qci),(5001,Qci)]
def J48:Shp:=⟨[(0,.d (.sl Ws)),(1,.f 228 (sL [Fp,Sx]))],J47⟩
def Jwp:List (Nat×SkO):=[(5000,Jna)]
def J49:SkO:=.var 84 (.ag (sL [By,zs5,Zn,D6,Nl,Qy6,Qg,J4w]))
def Jwq:Shp:=⟨Qh4,[(5000,.var 84 (.ag (sL [By,Sw,Zn,D6,Nl,Qy6,Qg,.ag (sL [Zn,Qg,Yk,Qg,Yk,Qze,Qcj,Qg,Qg,Qg,Qe4,Qg,Qg])]))),(5001,Zv),(5002,Zd),(5003,Ut)]⟩
def J5a:Shp:=⟨[(0,Qg),(1,Fp),(2,Sx)],[(5000,.var 155 (.d Wu)),(5001,Jv0)]⟩
def Jwr:SkO:=.var 84 (.ag (sL [By,Sw,Zn,D6,Nl,Qy6,Qg,Q4t]))
def J5b:Shp:=⟨Qh4,[(5000,.var 69 Sx),(5001,.var 84 (.ag (sL [By,Sw,Zn,D6,Nl,Qy6,Qg,.ag (sL [Zn,Qg,Yk,Qg,Yk,Qcj,Qe4,Qg,Qg,Qg,Qh5,Qg,Qg])]))),(5002,Zv),(5003,Zd),(5004,Ut)]⟩
def J5c:Shp:=⟨Qqv,[(5001,Jwr),(1,Zv),(2,Zd),(3,Ut)]⟩
def J5d:List (Nat×SkO):=[(5000,.var 69 Sx),(5001,.var 84 (.ag (sL [By,Sw,Zn,D6,Nl,Qy6,Qg,.ag (sL [Zn,Qg,Yk,Qg,Yk,Qcj,Qe4,Qg,Qg,Qg,Qh5,Qg,Qg])]))),(5002,Zv),(5003,Zd),(5004,Ut),(5005,Qul)]
def J5e:Shp:=⟨[],[(5001,Jwr),(5005,Qul),(1,Zv),(2,Zd),(3,Ut)]⟩
def J5f:List (Nat×SkO):=[(1,Zv),(2,Zd),(3,Ut)]
def Jnj:SkO:=.row 40 J3
def Qzf:SkO:=.row 118 J2
def Qzg:SkO:=.row 82 J9
def Qzh:SkO:=.row 172 Ph
def Jws:SkO:=.row 95 Zk
def Jwt:HT:=.b 2 (.c 2 J18)
variable(N:Nat)
def Qie:V:=⟨⟨37,(sD [J3]),[zs1],Av N,[]⟩,kF N [] [] func37⟩
def P9:V:=⟨⟨11,zs2,[Jc4],Vc N,[]⟩,kF N [] [(3,.an (.dc 10 [6,7,8,9,10,11,12,13,14,3] [1] [] (.e 6 (.b 1 (.c 1 (.g [6] [] [9] [9] (.e 10 (.b 1 (.c 1 (.g [10] [] [13] [13] (.g [] [] [] [9,13] Jz7))))))))))),(8,.lp [1,2] [1,2] ⟨Jz8,J8f⟩ J8i),(21,.rg (.n 3 (.fz 30 Q1p)))] func11⟩
def Xb:V:=⟨⟨173,J0b,[Yp],u2 (V1 N),[]⟩,kF N [] [(6,.lp [1,2] [2] Fn Qsr)] func173⟩
def Uu:V:=⟨⟨136,J0b,[Yp],u2 (Vl N),[]⟩,kF N [] [(6,.lp [1,2] [2] Fn Qsr)] func136⟩
def Qmg:V:=⟨⟨271,Q7m,[Jiy],u2 (Ht N),[]⟩,kF N [] [(6,.lp [0,1] [] Fn Jc5),(9,.rg (.n 5 (.sp 11 7 [5] [] Jc6 Ry Ry .done)))] func271⟩
def Qgx:V:=⟨⟨272,Q7m,[Jiy],u2 (Xl N),[]⟩,kF N [] [(8,.lp [0,1] [] ⟨Jux,[(100000,Qu5)]⟩ J6g),(16,.jn [6] [] J6h)] func272⟩
def Qgy:V:=⟨⟨174,J8j,[(sD [V0])],u2 (Et N),[]⟩,kF N [Qmg,Qgx] [(3,.jn [4] [3,4] [(.n,⟨[(2,L4)],[(100000,J6j)]⟩)])] func174⟩
def Ra:V:=⟨⟨86,J6k,[J8k],u2 (Vd N),[]⟩,kF2 N [Xb,Uu,Qgy] [(3,.an (.dc 14 [7,8,9,10,11,12,13,14,15,16,17,18,19,5] [2] [] (.e 7 (.b 2 (.c 2 (.g [7] [] [10] [10] (.e 11 (.b 2 (.c 2 (.g [11] [] [14] [14] (.e 15 (.b 2 (.c 2 (.g [15] [] [18] [18] (.g [] [] [] [10,14,18] (.e 5 Ej)))))))))))))))),(5,.jn [] [2,3] [(.n,⟨[(4,Qa4),(5,J6l)],[(100100,.var 165 (.ag (sL [.ns,.ns,.ns]))),(100101,.var 165 (.ag (sL [Juw,J0a,.s 100104]))),(100102,Juy),(100103,Qmf),(100104,G7)]⟩),(.r,⟨[(4,Qdk)],J8l⟩)]),(15,.an (.dc 6 [66,67,68,69,70,71] [5] [2,3] (.b 5 (.d 5 10 (.c 2 (.b 3 (.c 3 (.k 0 [] [] [] [] Qu7)))))))),(21,.jn [2,3,4,5] [4,5,10,14,18] J8m),(33,.an (.dc 10 [26,27,28,29,30,31,32,33,34,35] [5,14] [3] (.b 5 (.d 5 14 (.a (.b 5 (.d 5 14 (.a (.d 14 14 (.c 14 (.c 3 (.k 2 [] [] [] [] Jc7))))))))))))] func86⟩
def Sy:V:=⟨⟨135,Qss,[J8k],u2 (Zr N),[]⟩,kF N [Ra] [(8,.lp [0,1,4] [4] ⟨J6n,J8n⟩ [(.x 0,⟨[(5,Qdk)],J8l⟩)]),(16,.jn [6] [] [(.n,⟨[(5,Qa4)],[(100100,.var 165 J8g),(100101,Juy),(100102,Qmf),(100103,G7)]⟩)]),(20,.an (.dr 5 Qu8 Qbo))] func135⟩
def Xp:V:=⟨⟨137,J0b,[zs1],u2 (U2 N),[]⟩,kF N [] [(6,.lp [1,2] [2] Fn Qid)] func137⟩
def Qa7:V:=⟨⟨68,Jc8,[J8o],u3 (F4 N),[]⟩,kF N [Sy,Uu,Xp] [(8,.rg (.n 3 (.sp 18 4 [1,6,8,9] [6,8,11201,11202,11203] Jqk Me (.nl 2 J6o) .done)))] func68⟩
def Qdl:V:=⟨⟨305,(sD [.sl .str,.sl .str]),[zs1],u2 (Gp N),[]⟩,kF N [] [(14,.lp [0,1] [] Fn Qid),(24,.an (.dr 9 (.n 9 .done) .done))] func305⟩
def Qj2:V:=⟨⟨235,(sD [Er,Er]),[zs1],u2 (Ci N),[]⟩,kF N [Qdl] [(3,.rg (.n 20 (.sp 24 6 [2,3] [2,3] J6p (.nl 4 Qbo) Q1r Vn)))] func235⟩
def Nn:V:=⟨⟨134,Qss,[⟨Qdi,[(1,Jc9)]⟩],u2 (We N),[]⟩,kF N [Qa7,Qj2] [(8,.lp [0,1] [] ⟨Jux,[(100000,Jc9)]⟩ [(.x 0,⟨[(5,Qy5)],[(100400,Jc9)]⟩)]),(16,.jn [6] [] [(.n,⟨Ju0,[(100300,Jc9)]⟩)]),(20,.jn [5,6,7] [100000] J0d),(38,.jn [5,6,8,11,12] [9,11,100000] [(.n,⟨[(83,Q0)],[]⟩)]),(38,.an (.dc 18 [64,65,66,67,68,69,70,71,72,73,74,75,76,77,78,79,80,81] [] [100000,11] (.a (.a (.a (.so 66 (.b 100000 (.a (.d 100000 100000 (.b 100000 (.b 100000 (.c 100000 (.a (.a (.a (.a (.so 76 (.b 100000 (.a (.d 100000 100000 (.c 100000 (.c 11 J0f))))) J0g))))))))))) (.a (.a (.a J8q)))))))))] func134⟩
def Qqx:V:=⟨⟨67,Jc8,[J8r],u3 (Ro N),[]⟩,kF N [Nn] [(8,.lp [2,8] [11201] ⟨[(6,L4),(9,Qg)],[(100000,Jly)]⟩ [(.x 0,⟨[(6,Qdk)],[(100200,Jly)]⟩),(.r,⟨[(6,P6),(7,Q0)],[(100300,.var 74 D6)]⟩)]),(18,.rg (.n 9 (.sp 27 9 [6,9] [100000] ⟨[(36,Q0)],[]⟩ Qa6 Qa6 .done)))] func67⟩
def Qqy:V:=⟨⟨69,J14,[(sD [J9,.bool])],u3 (Rp N),[]⟩,kF N [] [(8,.lp [0,1,2,6] [6] ⟨J15,[(100000,Ju1)]⟩ [(.x 0,⟨[(8,P6),(9,Q0)],[(100300,Ju1)]⟩)]),(16,.jn [10] [] [(.n,⟨Jlz,[(100200,Ju1)]⟩)]),(18,.rg (.n 8 (.sp 25 8 [8,9,10] [100000] Jl0 Fo Fo .done)))] func69⟩
def Qj3:V:=⟨⟨138,Qss,[Ju2],u2 (Cj N),[]⟩,kF N [Sy,Uu,Xp,Xb] [(10,.gh (.fz 11501 (.fz 11502 (.fz 11503 .done)))),(10,.lp [4] [4] ⟨[(5,L4),(6,Q4a),(7,Qg)],[(100000,.var 165 (.ag (sL [.d (.sl O4),.d (.sl V0),Jdb]))),(100001,J16),(100002,Qmf)]⟩ [(.x 0,⟨[(5,P6),(6,Jl1)],[(100300,.var 165 (.d U0)),(100301,.var 182 (.ag (sL [.ns,Q4b]))),(100302,Qmf)]⟩)]),(18,.jn [5,7] [100000] [(.n,⟨[(6,Qdk)],[(100200,.var 182 (.ag (sL [.ns,Qu6]))),(100201,Qmf)]⟩)]),(22,.rg (.n 3 (.sp 39 5 [5,6,7,8] [100001,100002] Ju3 Ju4 Zb .done))),(24,.an (.dc 8 [45,46,47,48,49,50,51,52] [100001] [100000] (.b 100001 (.d 100001 100002 (.b 100000 (.c 100000 J18)))))),(31,.lp [4,5] [4,100300] ⟨[(6,Qqo),(9,Qg)],J19⟩ [(.x 2,⟨[(6,.p 100900 [])],[(100900,.var 182 (.ag (sL [.s 100901,.s 100902]))),(100901,Jda),(100902,Qmf)]⟩)]),(39,.jn [9] [] [(.n,⟨[(6,Ju6)],[(100800,.var 182 (.ag (sL [Ju7,.s 100802]))),(100801,Jda),(100802,Qmf)]⟩)]),(54,.lp [6,9] [100400,100401,100402] ⟨[(11,Jdc),(12,Qg)],[(100500,.var 76 (.ag (sL [Qg,Qg,Qg,Q0,Q0,Q4d]))),(100501,G7)]⟩ [(.x 4,⟨Ju8,[(100700,.var 76 (.ag (sL [Qg,Qg,Qg,Q0,Q0,Q4e]))),(100701,G7)]⟩)]),(62,.jn [12] [] [(.n,⟨Jl4,[(100600,.var 76 (.ag (sL [Qg,Qg,Qg,Q0,Q0,Q4f]))),(100601,G7)]⟩)]),(66,.an (.dc 9 [93,94,95,96,97,98,99,100,101] [100500] [100400,100402] (.b 100500 (.d 100500 100501 (.b 100400 (.d 100400 100402 (.a (.d 100402 100402 (.b 100402 (.c 100402 Ju5)))))))))),(69,.rg (.n 3 (.fz 100701 Q1p)))] func138⟩
def Qgz:V:=⟨⟨70,Jc8,[J2a],u3 (Eu N),[]⟩,kF N [Qj3] [(8,.lp [1,8] [8,11201,11202] ⟨[(6,L4),(9,Qg)],[(100000,Ju9)]⟩ J2b)] func70⟩
def S4:V:=⟨⟨258,P7,[zs1],Hu N,[]⟩,kF N [] [(4,.rg (.n 9 (.sp 14 4 [0] [] Jc6 Me Me (.n 1 (.sp 19 4 [0] [] Jl5 Me Me .done))))),(14,.lp [0] [] D7 Qe2),(24,.an (.dr 22 (.n 5 (.sp 34 5 [3] [] ⟨[(39,Q0)],[]⟩ Zb Zb (.n 5 (.sp 44 5 [3,39] [] Jl6 Zb Zb Q7n)))) .done)),(26,.rg (.n 7 (.sp 56 5 [3] [] Jvb Zb Zb .done)))] func258⟩
def Fq:V:=⟨⟨140,P7,[zs1],Kq N,[]⟩,kF N [] [(6,.lp [0] [] D7 Qe2),(16,.rg (.n 5 (.sp 14 5 [3] [] Q4g Zb Zb .done)))] func140⟩
def Qg0:V:=⟨⟨306,(sD [.sl Zq,.i,.i]),[zs1],u3 (Ev N),[]⟩,kF N [] [(6,.lp [0,1,2] [] Sv J2c),(18,.lp [7] [] Qu9 [(.x 2,Qbn),(.r,⟨[(6,Q0)],[]⟩)]),(34,.an (.dr 17 (.n 17 .done) .done))] func306⟩
def Qmh:V:=⟨⟨236,(sD [.sl Zq,.i]),[Yp],u2 (Is N),[]⟩,kF N [S4,Fq,Qg0] [(16,.lp [0,1,5] [5] Qj1 Qsr),(26,.an (.dr 8 Qqp .done)),(53,.lp [0,1,5] [5] Sv [(.x 2,Qbn),(.r,Q7l)])] func236⟩
def Rb:V:=⟨⟨139,J2d,[Yp],Gq N,[]⟩,kF N [Qmh] [(14,.lp [0] [] D7 Qh0)] func139⟩
def Qdm:V:=⟨⟨237,(sD [.str,.str]),[zs1],u2 (Gr N),[]⟩,kF N [] [(3,.rg (.n 6 (.sp 10 7 [0,1] [] Jl7 Ry Ry Vn)))] func237⟩
def Qg1:V:=⟨⟨141,Jvc,[P7],u2 (Ew N),[]⟩,kF N [Qdm] [(8,.lp [0,1] [] ⟨[(5,Yk),(6,Qg),(7,Qg)],[]⟩ [(.x 0,⟨[(5,Yk)],[]⟩)]),(20,.lp [7] [] ⟨[(5,Yk),(6,Qg),(8,Qg)],[]⟩ [(.x 2,J2e)]),(28,.jn [8] [] [(.n,J2e)]),(32,.rg (.n 5 (.sp 38 4 [5,6,8,9] [] Jl8 (.nl 2 Qbo) Me .done)))] func141⟩
def S5:V:=⟨⟨71,Jvc,[Jvd],u2 (Hv N),[]⟩,kF N [Rb,Fq,Qg1] [(4,.rg (.n 1 (.call 0 (.n 2 (.sp 10 4 [0,1] [] ⟨[(14,Q0)],[]⟩ Me Que .done)))))] func71⟩
def S6:V:=⟨⟨307,Jdf,[Jdg],Hw N,[]⟩,kF N [] [] func307⟩
def No:V:=⟨⟨238,Jdh,[Jma],Wf N,[]⟩,kF N [S6] [(8,.lp [0] [] ⟨Jdi,Jmb⟩ Jve),(17,.rg (.n 5 (.call 0 (.fz 11601 Q1q))))] func238⟩
def Zg:V:=⟨⟨142,zs2,[Jc4],Vg N,[]⟩,kF N [No] [(3,.an (.dc 10 [3,4,5,6,7,8,9,10,11,12] [1] [] (.b 1 (.c 1 (.k 0 [] [] [10501] [10501] (.e 6 (.b 1 (.c 1 (.g [6] [] [9] [9] (.e 10 Jvf))))))))))] func142⟩
def L5:V:=⟨⟨143,Yp,[zs1],Xm N,[]⟩,kF N [] [] func143⟩
def Np:V:=⟨⟨148,Qss,[(sD [J2,.bool])],u2 (Wg N),[]⟩,kF N [] [(6,.lp [0,1] [] ⟨[(4,L4),(6,Qg)],[(100000,Jvh)]⟩ [(.x 0,⟨[(4,Qdk)],[(100200,Jvh)]⟩),(.r,⟨[(4,P6),(5,Q0)],[(100300,Jvh)]⟩)]),(16,.rg (.n 7 (.sp 19 8 [4,6] [100000] ⟨[(27,Q0)],[]⟩ Fo Fo .done)))] func148⟩
def Qg2:V:=⟨⟨144,Jc8,[zs1],u3 (Ey N),[]⟩,kF N [Np] [] func144⟩
def Zo:V:=⟨⟨308,Yp,[zs1],Yi N,[]⟩,kF N [] [] func308⟩
def Xq:V:=⟨⟨264,Jdj,[Yp],U3 N,[]⟩,kF N [Zo] [(4,.rg (.n 9 (.sp 11 5 [1] [1] ⟨[(16,Q0)],[]⟩ Zb Qy8 (.n 1 (.sp 17 5 [1] [1] Jqk Zb Qy8 (.n 6 (.sp 28 5 [1] [1] Jl0 Zb Qy8 Jmd)))))))] func264⟩
def Rc:V:=⟨⟨265,Yp,[zs1],Gs N,[]⟩,kF N [Zo] [(3,.rg (.n 3 (.sp 5 3 [0] [] ⟨[(8,Q0)],[]⟩ Jme Qnn Vn)))] func265⟩
def Qif:V:=⟨⟨239,Qch,[Qch],u2 (Aw N),[]⟩,kF N [Xq,Rc,Zo] [(14,.rg (.n 1 (.call 1 (.n 2 (.sp 16 7 [1,2,4] [2,4] Jl5 Ry (.nl 4 Qy7) .done)))))] func239⟩
def Qj4:V:=⟨⟨240,Qch,[Qch],u2 (Ck N),[]⟩,kF N [Xq,Zo] [] func240⟩
def Qj5:V:=⟨⟨147,(sD [Um,J2]),[Jdj],u2 (Cl N),[]⟩,kF N [Qif,Qj4] [(5,.jn [2,4] [2,3,4] [(.n,⟨J6n,[(100000,Qqq)]⟩)])] func147⟩
def D9:V:=⟨⟨145,⟨J2f,Jvj⟩,[Yp],u2 (Uq N),[5000]⟩,kF N [] [(6,.lp [0,1] [] Fn Qsr)] func145⟩
def Qg3:V:=⟨⟨146,⟨[(0,.s 5000),(1,Jvi)],Jvj⟩,[⟨Qdi,[(5000,.tail 64 Um),(1,zs7)]⟩],u2 (Ez N),[]⟩,kF N [] [(6,.lp [0,3] [3,5000] Fn Jc5),(9,.an (.dr 14 (.n 5 (.sp 11 9 [5] [] ⟨[(20,Q0)],[]⟩ Qa6 Qa6 .done)) .done)),(16,.rg (.n 3 (.fz 5000 Q1q)))] func146⟩
def Qg4:V:=⟨⟨72,J2g,[Jc4],u4 (E0 N),[]⟩,kF N [Zg,L5,Qg2,D9,Qg3,Qj5] [(6,.rg (.n 1 (.call 1 (.n 2 (.sp 19 6 [0,2,3,8,9] [5,8,9,11501,11502,11503] Jmf Q1r (.nl 3 Qy7) .done))))),(13,.jn [0,2,3,8] [5,8] [(.n,⟨[(9,Qa4)],J8h⟩)]),(28,.lp [0,2,3,8,9,10,12] [5,8,100100,100101,100102,100103] ⟨[(11,Qdk),(13,Qg)],[(100200,Qqq)]⟩ [(.x 0,⟨Jl4,[(100600,Qqq)]⟩)]),(36,.jn [13] [] [(.n,⟨Jvk,[(100500,Qqq)]⟩)]),(38,.rg (.n 8 (.sp 62 8 [11,13] [100200] ⟨[(70,Q0)],[]⟩ Fo Fo (.n 1 (.sp 71 8 [11,13] [100200] ⟨[(79,Q0)],[]⟩ Fo Fo .done))))),(40,.an (.dr 5 Qu8 (.call 5 Vn)))] func72⟩
def Qmi:V:=⟨⟨241,Qss,[Q4h],u2 (Iw N),[]⟩,kF N [] [(8,.lp [0,1] [] ⟨Jux,Q4i⟩ [(.x 0,⟨[(5,Jdl)],[(100600,G7)]⟩)]),(16,.jn [6] [] J2h),(19,.rg (.n 7 (.sp 21 8 [5,6] [100000] Jvl Fo Fo .done))),(27,.lp [5,6] [100000] Sv [(.x 2,Sv)]),(30,.an (.dr 15 (.n 3 (.sp 34 12 [7] [] Jvm Qh1 Qh1 .done)) .done)),(37,.rg (.n 3 (.fz 100000 Q1q)))] func241⟩
def Qa8:V:=⟨⟨309,Q7m,[zs1],u2 (F5 N),[]⟩,kF N [] [(6,.lp [0,1] [] Fn Qid)] func309⟩
def Qe5:V:=⟨⟨242,Qss,[⟨Qdi,[(1,Q4k)]⟩],u2 (Hm N),[]⟩,kF N [Qa8] [(8,.lp [0,1] [] ⟨Jux,[(100000,Q4k)]⟩ [(.x 0,⟨[(5,Jdm)],[(100700,Q4k)]⟩)]),(16,.jn [6] [] [(.n,⟨[(5,Jdl)],[(100600,Q4k)]⟩)]),(19,.rg (.n 7 (.sp 21 8 [5,6] [100000] Jvl Fo Fo (.n 1 (.sp 30 8 [5,6] [100000] ⟨[(38,Q0)],[]⟩ Fo (.nl 6 Qbo) .done))))),(27,.lp [5,6] [100000] Sv [(.x 2,Sv)]),(30,.an (.dr 15 (.n 3 (.sp 43 12 [7] [] Jmg Qh1 Qh1 .done)) .done))] func242⟩
def Di:V:=⟨⟨270,Q7m,[zs1],u2 (U4 N),[]⟩,kF N [] [(6,.lp [0,1] [] Fn Qid)] func270⟩
def Qig:V:=⟨⟨310,J2i,[Qe3],Ax N,[]⟩,kF N [] [(8,.lp [0] [] ⟨Jdi,Qy9⟩ [(.x 0,⟨[(3,Qst)],Jvn⟩)]),(16,.jn [4] [] [(.n,⟨[(3,Qa5)],Jdn⟩)]),(20,.an (.dr 15 (.n 3 (.sp 17 12 [3,4,5] [100000] Jvl Qh1 Qh1 .done)) .done))] func310⟩
def Qih:V:=⟨⟨243,J2j,[Qe3],u3 (Ay N),[]⟩,kF N [Nn,Di,Qig] [(10,.lp [2,7] [11201] ⟨[(8,P5),(9,Qg)],Qy9⟩ [(.x 0,⟨[(8,Qa5)],Jdn⟩)]),(18,.jn [9] [] [(.n,⟨[(8,Qdj)],Jdo⟩)])] func243⟩
def Qe6:V:=⟨⟨149,Qss,[⟨Qdi,[(1,Jdp)]⟩],u2 (Ho N),[]⟩,kF N [Qmi,Qe5,Qih] [(10,.lp [0,1,6] [11201] ⟨[(5,P5),(7,Qg)],[(100000,Jdp)]⟩ [(.x 0,⟨Ju0,[(100300,Jdp)]⟩)]),(24,.lp [7,8] [12401] ⟨[(5,Qdj),(9,Qg)],[(100100,Jdp)]⟩ [(.x 2,⟨J0c,[(100200,Jdp)]⟩)]),(33,.an (.dc 22 [31,32,33,34,35,36,37,38,39,40,41,42,43,44,45,46,47,48,49,50,51,52] [] [11201] (.b 100100 (.a (.b 11201 (.a (.d 11201 11201 (.c 11201 (.a (.a (.a (.a (.a (.b 11201 (.a (.d 11201 11201 (.c 11201 (.a (.a (.a (.a (.k 2 [] [] [15001] [15001] (.b 15001 (.op ⟨.fz 15001 (.nl 1 .done),[15001],[],[],[15001]⟩ Jc7))))))))))))))))))))))))] func149⟩
def Xr:V:=⟨⟨91,Qza,[zs1],U5 N,[]⟩,kF N [] [] func91⟩
def Qol:V:=⟨⟨353,Q4l,[Q4h],u2 (F6 N),[]⟩,kF N [] [(10,.lp [0,1] [] ⟨[(5,P5),(6,Q0),(7,Qg)],Q4i⟩ [(.x 0,⟨[(5,Qy5),(6,Q0)],Jmh⟩)]),(18,.jn [7] [] [(.n,⟨[(5,Qst),(6,Q0)],[(100300,G7)]⟩)]),(20,.jn [7] [] [(.n,⟨[(5,Qa5),(6,Q0)],Jvo⟩)]),(21,.rg (.n 3 (.sp 16 7 [5,6,7] [100000] Jl5 Ry Ry .done))),(34,.jn [] [] J2h)] func353⟩
def Qii:V:=⟨⟨323,(sD [.sl .i,.sl Je]),[(sD [.sl .i])],u2 (Wh N),[]⟩,kF N [Xr,Qol] [(6,.lp [1] [] ⟨[(0,Jdb),(5,Qg)],[]⟩ [(.x 0,⟨[(0,Jdb)],[]⟩)]),(14,.jn [5] [] [(.n,⟨[(0,Jdb)],[]⟩)]),(18,.an (.dc 12 [17,18,19,20,21,22,23,24,25,26,27,28] [] [] (.a (.a (.a (.a (.a (.a (.k 1 [] [] [12301] [12301] (.a (.a (.a (.a (.a J0f))))))))))))))] func323⟩
def Ia:V:=⟨⟨314,J2k,[zs1],u2 (Kx N),[]⟩,kF N [Xr] [] func314⟩
def Qqz:V:=⟨⟨324,(sD [.sl Je,.i]),[zs1],u2 (B8 N),[]⟩,kF N [Ia] [(6,.lp [0,1] [] Fn Qid)] func324⟩
def Qij:V:=⟨⟨278,(sD [.sl Je,.sl Je,.bool,.bool]),[Qe3],u4 (Az N),[]⟩,kF N [Qii,Qqz] [(10,.lp [0,1,2,3,9] [] ⟨[(10,P5),(11,Qg)],Qy9⟩ [(.x 0,⟨[(10,Q4j)],Jvp⟩)]),(18,.jn [11] [] [(.n,⟨[(10,Qy5)],Jmi⟩)]),(21,.rg (.n 5 (.call 1 (.n 2 (.sp 31 13 [10,11] [100000] Ju3 (.nl 12 Vn) (.nl 3 (.sp 34 9 [10,11,31] [] Jvq (.nl 5 (.call 1 (.nl 3 .done))) (.nl 9 .done) Vn)) .done))))),(28,.an (.dr 15 (.n 3 (.sp 49 12 [10,11,12] [100000] Jvb Qh1 Qh1 .done)) .done)),(31,.an (.dc 12 [72,73,74,75,76,77,78,79,80,81,82,83] [] [] (.b 100000 (.a (.a (.a (.a (.a (.a (.a (.a J2m)))))))))))] func278⟩
def Nq:V:=⟨⟨179,(sD [.sl Je,.sl Je]),[Qe3],u2 (Wi N),[]⟩,kF N [Qij] [] func179⟩
def Qj6:V:=⟨⟨255,Qza,[zs1],Cm N,[]⟩,kF N [] [] func255⟩
def Qmj:V:=⟨⟨318,Yp,[zs1],I1 N,[]⟩,kF N [] [] func318⟩
def Qik:V:=⟨⟨256,Zc,[Yp],u2 (A1 N),[]⟩,kF N [Qmj] [] func256⟩
def Nr:V:=⟨⟨158,J2n,[Qe3],u2 (Wj N),[]⟩,kF N [Qj6,Qik] [(4,.rg (.n 7 (.sp 16 4 [0,3] [3] ⟨[(20,Q0)],[]⟩ Me Jvr .done))),(18,.lp [0,3] [3] ⟨[(5,Qdj),(6,Qg),(7,Qg),(8,Qg)],Jdo⟩ [(.x 0,⟨[(5,Qy5)],Jmi⟩)]),(30,.jn [5,6,8] [100100] [(.n,⟨[(7,Qg),(9,Qg)],[]⟩)]),(38,.jn [7,8,9] [] [(.n,⟨Ju0,Jvn⟩)])] func158⟩
def Qil:V:=⟨⟨150,(sD [.sl Up,.i,.i]),[Qe3],u3 (A3 N),[]⟩,kF N [Nq,Nr] [(8,.lp [0,1,2] [] ⟨[(7,P5),(8,Qg)],Qy9⟩ [(.x 0,⟨[(7,Qdj)],Jdo⟩)]),(27,.lp [1,7] [13101,100100] ⟨[(9,Qa5),(10,Qg)],Jdn⟩ [(.x 2,⟨[(9,Jdm)],[(100700,P8)]⟩)]),(41,.lp [10,11] [14301] ⟨[(9,Qst),(12,Qg)],Jvn⟩ [(.x 4,⟨[(9,Jdl)],[(100600,P8)]⟩)]),(49,.jn [12] [] [(.n,⟨[(9,Q4j)],Jvp⟩)]),(51,.an (.dr 18 (.n 4 (.sp 53 14 [9,12] [100300] ⟨[(67,Q0)],[]⟩ (.nl 13 Vn) (.nl 13 Vn) .done)) .done))] func150⟩
def Bz:V:=⟨⟨93,Jmj,[Jvs],u2 (Z7 N),[]⟩,kF N [Nq] [] func93⟩
def Qj7:V:=⟨⟨244,(sD [.sl Je,Je]),[Jvs],u2 (Cn N),[]⟩,kF N [Bz] [(6,.lp [0,3] [3] ⟨[(4,L4),(6,Qg)],[(100000,Q4m)]⟩ [(.x 0,⟨[(4,Qa4)],[(100100,Q4m)]⟩),(.r,⟨[(4,Qdk),(5,Q0)],[(100200,Q4m)]⟩)]),(16,.an (.dc 11 [16,17,18,19,20,21,15,22,23,7,1000000010] [] [3] (.a (.a (.a (.a (.c 3 (.k 0 [] [] [] [] (.a (.a (.a (.e 7 (.f 7 7 Ej)))))))))))))] func244⟩
def Qq0:V:=⟨⟨245,J2o,[(sD [Ye,.bool])],u3 (Rq N),[]⟩,kF N [] [(8,.lp [0,1,2,6] [6] ⟨J15,[(100000,Jvt)]⟩ [(.x 0,⟨[(8,P6),(9,Q0)],[(100300,Jvt)]⟩)]),(16,.jn [10] [] [(.n,⟨Jlz,[(100200,Jvt)]⟩)]),(18,.rg (.n 8 (.sp 25 8 [8,9,10] [100000] Jl0 Fo Fo .done)))] func245⟩
def Qg5:V:=⟨⟨151,(sD [.sl Ye,Up,Je]),[⟨[(0,zs3),(1,.d (.sl Xk))],[(1,zs6)]⟩],u3 (E1 N),[]⟩,kF N [Qj7,Qq0] [(28,.lp [4,8,10] [4,5,8,10] ⟨[(12,P5),(13,Qg)],Jmb⟩ [(.x 0,⟨[(12,Qdj)],[(100100,zs6)]⟩)]),(39,.an (.dc 25 [47,48,49,50,51,52,53,54,55,56,57,58,59,60,61,62,63,64,65,66,67,68,69,70,71] [14] [4,8] (.b 100000 (.b 4 (.c 4 (.b 4 (.c 4 (.b 4 (.c 4 (.a (.b 14 (.c 14 (.e 57 (.b 14 (.c 14 (.g [57] [] [60] [60] (.c 8 (.b 14 (.c 14 (.b 14 (.c 14 (.b 14 (.c 14 (.b 14 (.c 14 (.b 60 (.op ⟨.fz 60 (.nl 1 .done),[60],[],[],[60]⟩ Jc7))))))))))))))))))))))))))),(42,.an (.dr 5 Qu8 .done))] func151⟩
def Qmk:V:=⟨⟨311,(sD [.sl J4,Tn]),[Yp],u2 (I6 N),[]⟩,kF N [] [(6,.lp [0,3] [3] Fn Qsr)] func311⟩
def Qim:V:=⟨⟨246,J2p,[zs1],u2 (A4 N),[]⟩,kF N [Qmk] [] func246⟩
def Ib:V:=⟨⟨247,Qzb,[zs1],u2 (Ky N),[]⟩,kF N [] [] func247⟩
def Qj8:V:=⟨⟨249,J2q,[Jdg],u3 (Co N),[]⟩,kF N [S6,Ib] [(5,.jn [6] [3,4,6] [(.n,⟨[(7,L4)],[(100000,.var 97 (.ag (sL [Qg,Qg,Yk,Qg,Qg,Qsq,Qva,Qg,Qg,Qg,Q0]))),(100001,Qu5)]⟩)])] func249⟩
def Qg6:V:=⟨⟨312,Qzb,[zs1],u2 (E2 N),[]⟩,kF N [] [] func312⟩
def Qml:V:=⟨⟨248,J2p,[Jma],u2 (Hx N),[]⟩,kF N [Qg6] [(6,.lp [0,3] [3] Fn Jc5),(9,.jn [5] [] [(.n,Jc6)]),(9,.an (.dc 10 [7,8,9,10,11,12,13,14,15,16] [] [3] (.a (.a (.a (.a (.a (.so 11 (.a (.a (.a (.a (.c 3 (.tl Qbo)))))) J0g))))))))] func248⟩
def Qin:V:=⟨⟨152,(sD [.sl J4,J4,.i]),[Jdh],u3 (A5 N),[]⟩,kF N [Qim,Ib,Qj8,Qml] [(14,.lp [0,2,4] [4] Sv [(.x 0,Qbn),(.r,⟨[(6,Qa5)],[(100200,zs6)]⟩)]),(24,.an (.dr 5 Qu8 (.call 1 .done))),(27,.an (.dc 8 [24,25,26,27,28,29,30,31] [] [4] (.a (.a (.a (.a (.a (.c 4 (.a (.k 2 [] [] [13101] [13101] (.tl Jmk)))))))))))] func152⟩
def Qg7:V:=⟨⟨73,J2r,[⟨[(0,.ag (sL [Qqr,zs3,zs4]))],[(1,zs7),(2,zs8)]⟩],u5 (E3 N),[]⟩,kF N [Zg,Np,L5,Qe6,Qil,Qg5,Qin] [(8,.rg (.n 3 (.sp 31 4 [0,1,3,4,10,11,12] [7,10,11,12,12201,12202,12203] Jml Me (.nl 1 Qy7) .done))),(22,.gh (.fz 12201 .done)),(22,.lp [1,4,10,14,15] [7,10,12,13901,14401] ⟨[(11,Qa4),(16,Qg)],[(100100,.var 37 (.ag (sL [Qqr,Qy4,Juw]))),(100101,zs7),(100102,zs8)]⟩ [(.x 0,⟨Ju8,[(100700,.var 37 (.ag (sL [Qqr,Q4e,Jmm]))),(100701,zs7),(100702,zs8)]⟩)]),(34,.lp [16] [] ⟨[(11,Qdk),(17,Qg)],[(100200,.var 37 (.ag (sL [Qqr,Qu6,Juz]))),(100201,zs7),(100202,zs8)]⟩ [(.x 2,⟨Jl4,[(100600,.var 37 (.ag (sL [Qqr,Q4f,Jmn]))),(100601,zs7),(100602,zs8)]⟩)]),(44,.an (.dc 14 [58,59,60,61,62,63,64,65,66,67,57,68,69,18] [] [14401] (.a (.a (.a (.a (.a (.b 14401 (.a (.d 14401 14401 (.c 14401 (.k 5 [] [] [16701] [16701] (.b 16701 (.b 16701 (.a (.b 16701 Ej)))))))))))))))),(48,.lp [17,18,19] [16701] ⟨[(11,P6),(20,Qg)],[(100300,.var 37 (.ag (sL [Qqr,Quf,Q4b]))),(100301,zs7),(100302,zs8)]⟩ [(.x 4,⟨Jvk,[(100500,.var 37 (.ag (sL [Qqr,Q4d,Jmo]))),(100501,zs7),(100502,zs8)]⟩)]),(56,.jn [20] [] [(.n,⟨[(11,Qqo)],[(100400,.var 37 (.ag (sL [Qqr,Q4c,Jl2]))),(100401,zs7),(100402,zs8)]⟩)]),(60,.an (.dr 11 Q4n (.call 6 Q7n)))] func73⟩
def Qio:V:=⟨⟨313,Qzb,[zs1],u2 (A6 N),[]⟩,kF N [] [] func313⟩
def Qip:V:=⟨⟨250,Jdh,[Q4h],A7 N,[]⟩,kF N [Qio] [(8,.lp [0] [] ⟨Jdi,Q4i⟩ [(.x 0,⟨[(3,Qy5)],Jmh⟩)]),(21,.lp [3,4] [100000] Fn [(.x 2,Fn)]),(24,.jn [5] [] [(.n,⟨[(31,Q0)],[]⟩)]),(24,.an (.dc 15 [15,16,17,18,19,20,21,22,23,24,25,26,27,28,29] [] [100000] (.a (.a (.a (.so 17 (.a (.a (.a (.a (.a (.b 100000 (.a (.a (.d 100000 100000 (.c 100000 (.a (.a (.tl Qbo))))))))))))) J8q)))))),(31,.rg (.n 3 (.fz 100000 Q1q)))] func250⟩
def Qiq:V:=⟨⟨251,J2s,[zs1],u7 (A8 N),[]⟩,kF N [Ia,Qa8] [(5,.rg (.n 13 (.sp 45 5 [4,6,7] [7] Jvu (.nl 3 Qbo) Zb (.n 1 (.sp 51 11 [4,7] [7] ⟨[(62,Q0)],[]⟩ (.nl 5 (.sp 56 5 [4,7,51] [] Jvb Jmp (.nl 3 (.call 1 Jvv)) Vn)) (.nl 10 Vn) Vn)))))] func251⟩
def Qmm:V:=⟨⟨153,J2t,[J2u],u8 (La N),[]⟩,kF N [No,Qip,Qiq] [(14,.lp [1,2,3,4,5,6,22] [13101] ⟨[(19,P5),(20,Qg),(21,Qsq),(23,Qg)],J2v⟩ [(.x 0,⟨[(19,Qst),(20,Qg),(21,Quf)],J2w⟩)]),(22,.jn [23] [] [(.n,⟨[(19,Qa5),(20,Qg),(21,Qu6)],J2x⟩)]),(27,.rg (.n 3 (.sp 47 10 [19,20,21,23,24] [24,100000,100001] ⟨[(57,Q0)],[]⟩ Jdq (.nl 7 Qy7) .done)))] func153⟩
def Qj9:V:=⟨⟨74,J2y,[J2z],u4 (Cp N),[]⟩,kF N [Zg,Qmm] [] func74⟩
def Qir:V:=⟨⟨252,J20,[zs1],u2 (A9 N),[]⟩,kF N [] [] func252⟩
def Qka:V:=⟨⟨259,(sD [.sl Ws,.bool]),[Yp],u2 (Cq N),[]⟩,kF N [] [(38,.lp [0] [] Fn Qsr)] func259⟩
def Xs:V:=⟨⟨160,Jvw,[Yp],U6 N,[]⟩,kF N [S4,Qka] [(22,.lp [0] [] D7 Qh0),(43,.lp [3] [] Q7l Jvx),(53,.an (.dr 11 Q4n .done))] func160⟩
def Qg8:V:=⟨⟨319,Yp,[Yp],E4 N,[]⟩,kF N [] [] func319⟩
def Qom:V:=⟨⟨260,Q4l,[Yp],u2 (N6 N),[]⟩,kF N [Qg8] [(6,.lp [0,1] [] Fn Qsr)] func260⟩
def Rd:V:=⟨⟨161,Jvy,[P7],u3 (Gt N),[]⟩,kF N [Qom] [(8,.lp [0,7,8] [] Qno J21),(20,.lp [9] [] ⟨[(10,Qg)],[]⟩ [(.x 2,Qbn),(.r,⟨[(6,Yk)],[]⟩)])] func161⟩
def Qck:V:=⟨⟨80,Jvy,[P7],u3 (B9 N),[]⟩,kF N [Xs,Rd] [] func80⟩
def Qg9:V:=⟨⟨315,Jvw,[Q4h],E5 N,[]⟩,kF N [] [(8,.lp [0] [] ⟨Jdi,Q4i⟩ [(.x 0,⟨[(3,.s 100800)],[(100800,G7)]⟩)]),(16,.jn [4] [] [(.n,⟨[(3,Jdm)],[(100700,G7)]⟩)]),(23,.lp [3,4] [100000] ⟨[(5,Q0),(6,Qg)],[]⟩ [(.x 2,⟨[(5,Q0)],[]⟩)]),(35,.lp [6] [] ⟨[(5,Q0),(7,Qg)],[]⟩ [(.x 4,⟨[(5,Q0)],[]⟩)]),(44,.rg (.n 2 (.sp 31 12 [7] [] Jvq Qh1 Qh1 (.n 1 (.sp 44 12 [7] [] ⟨[(56,Q0)],[]⟩ Qh1 Qh1 Vn)))))] func315⟩
def Qon:V:=⟨⟨253,J22,[⟨Qdi,[(1,Qqs)]⟩],u3 (N7 N),[]⟩,kF N [Xs,Xr,Qg9,Rd] [(4,.rg (.n 1 (.call 0 (.n 2 (.sp 19 4 [0,1,5] [5] Jl5 Me Que Qqp))))),(18,.lp [0,1,5,8] [5,13301] ⟨[(7,Qdj),(9,Qg)],[(100100,Qqs)]⟩ J23),(30,.lp [9] [] ⟨[(7,Qa5),(10,Qg)],[(100200,Qqs)]⟩ J24),(38,.jn [10] [] J25),(42,.jn [7,10] [100200] [(.n,Jmq)]),(48,.an (.dr 21 (.n 21 .done) .done)),(58,.rg (.n 3 (.sp 90 9 [7,10,12,13,14,15] [100200] ⟨[(99,Q0)],[]⟩ Qa6 Qa6 .done)))] func253⟩
def Qoo:V:=⟨⟨154,Jmr,[(sD [.sl F3])],u4 (N8 N),[]⟩,kF N [Qir,Xs,Qck,Qon] [(4,.rg (.n 2 (.call 0 (.n 2 (.sp 17 5 [1,3,4,6] [4,6] Jqk Zb Qug .done))))),(13,.jn [1,3,4,6] [4,6] [(.n,Qno)]),(23,.an (.dc 10 [39,40,41,42,43,44,45,46,47,48] [4,6] [] (.b 4 (.c 4 (.a (.a (.k 2 [] [] [] [] (.a (.b 6 (.c 6 J17)))))))))),(34,.lp [10] [4,6,16101] ⟨[(11,Qa5),(12,Qg)],Jms⟩ [(.x 0,⟨[(11,Qst)],[(100300,Zd)]⟩)]),(43,.an (.dc 27 [68,69,70,71,72,73,74,75,76,77,78,79,80,81,82,83,84,85,86,87,88,89,90,91,92,93,94] [] [16101] (.b 100200 (.b 16101 (.a (.d 16101 16101 (.b 16101 (.c 16101 (.b 16101 (.a (.d 16101 16101 (.b 16101 (.b 16101 (.c 16101 (.b 16101 (.a (.d 16101 16101 (.b 16101 (.b 16101 (.c 16101 (.b 16101 (.a (.d 16101 16101 (.b 16101 (.b 16101 (.c 16101 J2m))))))))))))))))))))))))))] func154⟩
def Qmn:V:=⟨⟨156,(sD [J9,J3]),[P7],u2 (Lb N),[]⟩,kF N [S5] [] func156⟩
def Qmo:V:=⟨⟨155,J26,[(sD [Wt,.bool])],u4 (Lc N),[]⟩,kF N [] [(6,.lp [1,2,3,4] [4] ⟨J27,[(100000,Jmt)]⟩ [(.x 0,⟨[(8,Qa4)],[(100100,Jmt)]⟩),(.r,⟨Jlz,[(100200,.var 116 (.d Wt))]⟩)])] func155⟩
def Xt:V:=⟨⟨92,J28,[Yp],U7 N,[]⟩,kF N [] [(24,.lp [0] [] J29 Qh0)] func92⟩
def Qis:V:=⟨⟨317,(sD [Ke,.i,.i]),[Yp],u3 (Ba N),[]⟩,kF N [] [(3,.jn [1] [3] [(.n,Jde)])] func317⟩
def Qmp:V:=⟨⟨316,(sD [Ke,.i]),[Yp],u2 (Ld N),[]⟩,kF N [] [(5,.jn [2] [2] [(.n,Fn)]),(12,.rg (.n 4 (.sp 20 6 [2,5] [2] ⟨[(26,Q0)],[]⟩ Q1r Q1r .done)))] func316⟩
def Qkb:V:=⟨⟨254,(sD [.sl Ke,.i]),[Zc],u2 (Gu N),[]⟩,kF N [Xt,Qis,Qmp] [(24,.lp [0,1] [] ⟨[(6,Qg),(7,Qg),(8,Qg)],[]⟩ [(.x 0,Qj1)]),(34,.an (.dc 13 [24,25,26,27,28,29,30,31,32,33,34,35,36] [] [] (.a (.a (.a (.a (.a (.a (.a (.a (.a (.a (.a (.k 1 [] [] [] [] (.k 2 [] [] [] [] Qu7)))))))))))))))] func254⟩
def Qha:V:=⟨⟨157,(sD [.sl Ke,.i,.i]),[Zc],u3 (E6 N),[]⟩,kF N [Xt,Qkb] [] func157⟩
def Qkc:V:=⟨⟨75,Jmr,[⟨Jmu,[(1,Zd)]⟩],u4 (Cr N),[]⟩,kF N [Qoo,Qmn,Qmo,Qha] [(12,.lp [4,6,11] [4,6] ⟨[(12,P5),(13,Qg),(14,Qg),(15,Qg),(16,Qg)],[(100000,Zd)]⟩ [(.x 0,⟨[(12,Qa5),(14,Qg),(15,Qg)],Jms⟩),(.r,⟨[(8,.ns),(9,Qg),(10,Qg)],[]⟩)]),(22,.an (.dc 17 [34,35,36,37,38,39,40,41,42,43,44,45,33,46,47,17,1000000016] [] [4,6] (.c 4 (.b 6 (.c 6 (.c 4 (.c 6 (.k 1 [] [] [] [] (.a (.a (.a (.a (.a (.k 2 [] [] [] [] (.a (.a (.a (.e 17 (.f 17 17 Ej))))))))))))))))))),(32,.an (.dc 13 [51,52,53,54,55,56,57,58,59,50,60,61,19] [17] [] (.b 17 (.c 17 (.a (.a (.a (.a (.a (.a J3a)))))))))),(42,.jn [12,13,15,16,19] [17,100000] J3b)] func75⟩
def Qkd:V:=⟨⟨76,Jmv,[Yp],Cs N,[]⟩,kF N [] [(8,.lp [1] [1] J29 [(.x 0,D7)])] func76⟩
def Qke:V:=⟨⟨77,Zc,[Qza],u2 (Ct N),[]⟩,kF N [Nr] [] func77⟩
def Qmq:V:=⟨⟨257,Zc,[Yp],u2 (Xn N),[]⟩,kF N [] [] func257⟩
def Fr:V:=⟨⟨159,J3c,[Yp],u2 (Vx N),[]⟩,kF N [Qmq] [] func159⟩
def Qa9:V:=⟨⟨78,J3d,[Q4p],u4 (F7 N),[]⟩,kF N [Fr] [(8,.lp [0,9] [9] ⟨J27,[(100000,Q4q)]⟩ J3e),(18,.an (.dr 5 Qu8 Qbo))] func78⟩
def Qop:V:=⟨⟨79,J3f,[(sD [Qaa])],u5 (N9 N),[]⟩,kF N [] [(5,.jn [10] [5,8,10] [(.n,⟨[(11,L4)],[(100000,Jv0)]⟩)])] func79⟩
def Qkf:V:=⟨⟨365,Yp,[Yp],Kr N,[]⟩,kF N [] [] func365⟩
def Qoq:V:=⟨⟨390,Q7m,[zs1],u2 (Kg N),[]⟩,kF N [] [(6,.lp [0,1] [] Fn Qid)] func390⟩
def B0:V:=⟨⟨366,P7,[Yp],Vh N,[]⟩,kF N [Qoq] [] func366⟩
def Qor:V:=⟨⟨348,Qzc,[Yp],F8 N,[]⟩,kF N [Qkf,B0] [(4,.an (.dc 6 [3,4,5,6,7,8] [1] [] (.b 1 (.c 1 (.k 0 [] [] [] [] (.b 1 (.c 1 Q4o))))))),(28,.rg (.n 4 (.sp 35 5 [1] [1] ⟨[(40,Q0)],[]⟩ Qug Zb .done)))] func348⟩
def Qit:V:=⟨⟨349,(sD [Wu,.sl .i]),[Yp],u2 (Yc N),[]⟩,kF N [B0] [(41,.an (.dr 7 Jmw .done)),(48,.jn [] [2] J3g),(52,.jn [1,30] [] [(.n,Jml)]),(66,.jn [1,30] [] [(.n,Jl8)]),(80,.jn [1] [] [(.n,Jl6)])] func349⟩
def Ns(N n:Nat):Con:=⟨320,Jv1,[Zc],fun(x0,x1)=>Jl N n x0 x1,[]⟩
theorem Re(N:Nat):∀n,KO (Ns N n)
 | 0=>⟨F2 fun _=>rfl,L2 func320 rfl⟩
 | n+1=>have ih:=Re N n; kF N [Qor,fun _=>⟨_,ih⟩,Qit] [(26,.lp [1,2] [2] J3h [(.x 0,⟨[(7,Qdj)],[(100100,G7)]⟩),(.r,Jv2)])] func320
def Qq1:V:=⟨Ns N N,Re N N⟩
def Bi:V:=⟨⟨261,Qzc,[Zc],Uh N,[]⟩,kF N [Qq1] [] func261⟩
def Qmr:V:=⟨⟨350,Qnp,[P7],u2 (Xo N),[]⟩,kF N [] [] func350⟩
def Qe7:V:=⟨⟨351,Zc,[zs1],u2 (Ur N),[]⟩,kF N [] [] func351⟩
def Qdn:V:=⟨⟨368,J3i,[Yp],u2 (Le N),[]⟩,kF N [] [] func368⟩
def Qiu:V:=⟨⟨367,Qh2,[Qh2],u2 (Se N),[]⟩,kF N [] [] func367⟩
def Qos:V:=⟨⟨369,Zc,[Qh2],u2 (Oa N),[]⟩,kF N [] [] func369⟩
def Qms:V:=⟨⟨391,Yp,[Yp],Hy N,[]⟩,kF N [] [] func391⟩
def Qe8:V:=⟨⟨370,Zc,[Qh2],u2 (Us N),[]⟩,kF N [Qms] [(4,.rg (.n 3 (.sp 8 7 [0,1] [] ⟨[(15,Q0)],[]⟩ (.nl 1 (.call 0 (.nl 1 (.call 0 Qnn)))) Ry .done)))] func370⟩
def At(N n:Nat):Con:=⟨352,Qnp,[Qh2],fun(x0,x1)=>Vo N n x0 x1,[]⟩
theorem B1(N:Nat):∀n,KO (At N n)
 | 0=>⟨F2 fun _=>rfl,L2 func352 rfl⟩
 | n+1=>have ih:=B1 N n; kF N [Qdn,Qiu,fun _=>⟨_,ih⟩,Qos,Qe8] [(19,.an (.dc 10 [26,27,28,29,30,31,25,32,33,6] [2,3] [] Jmx)),(21,.an (.dc 10 [35,36,37,38,39,40,34,41,42,8] [2,3] [] Jmx))] func352
def Qiv:V:=⟨At N N,B1 N N⟩
def Qbp:V:=⟨⟨321,Qnp,[zs1],u2 (Zt N),[]⟩,kF N [Bi,Qmr,Qe7,Qiv] [(11,.jn [2] [2,3] [(.n,Sv)]),(12,.an (.dc 11 [23,24,25,26,27,28,29,30,31,32,33] [] [2,3] (.b 2 (.c 2 (.a (.a (.c 3 (.k 1 [] [] [] [] (.b 2 (.c 2 (.a (.a (.c 3 J0f))))))))))))),(21,.an (.dc 10 [41,42,43,44,45,46,40,47,48,8] [2,3] [] J3j)),(23,.an (.dc 10 [50,51,52,53,54,55,49,56,57,10] [2,3] [] J3j)),(35,.jn [2,8,10] [2,3] J3k),(41,.jn [2] [2,3] J3k)] func321⟩
def Eg(N n:Nat):Con:=⟨262,Qnp,[zs1],fun(x0,x1)=>Jh N n x0 x1,[]⟩
theorem Fs(N:Nat):∀n,KO (Eg N n)
 | 0=>⟨F2 fun _=>rfl,L2 func262 rfl⟩
 | n+1=>have ih:=Fs N n; kF N [fun _=>⟨_,ih⟩,Qbp] [(16,.an (.dr 5 Qu8 Jmy)),(22,.jn [] [2,3] Jv3),(22,.an (.dc 12 [22,23,24,25,26,27,28,29,30,31,32,33] [] [2,3] (.b 2 (.c 2 (.a (.a (.c 3 (.k 0 [] [] [] [] (.a (.so 28 J3l J3m)))))))))),(28,.jn [] [2,3] Jv3),(28,.an (.dc 12 [38,39,40,41,42,43,44,45,46,47,48,49] [] [2,3] (.b 2 (.c 2 (.a (.a (.c 3 (.k 0 [] [] [] [] (.a (.so 44 J3m J3l))))))))))] func262
def Qe9:V:=⟨Eg N N,Fs N N⟩
def Qkg:V:=⟨⟨162,Qnp,[zs1],u2 (Ks N),[]⟩,kF N [Bi,Qe9] [(5,.rg (.n 7 (.sp 18 4 [2,3] [2,3] Jqk (.nl 2 J0e) Me Vn)))] func162⟩
def Qiw:V:=⟨⟨322,Q4r,[Zc],u3 (Bc N),[]⟩,kF N [] [(8,.lp [0,1,2] [] J3n [(.x 0,Jmz)]),(16,.jn [10] [] [(.n,Jmz)]),(20,.jn [8,10] [] [(.n,Qno)]),(26,.an (.dr 10 Q4s .done))] func322⟩
def B2(N n:Nat):Con:=⟨263,Q4r,[Zc],fun(x0,x1,x2)=>Ys N n x0 x1 x2,[]⟩
theorem Ic(N:Nat):∀n,KO (B2 N n)
 | 0=>⟨F2 fun _=>rfl,L2 func263 rfl⟩
 | n+1=>have ih:=Ic N n; kF N [Zo,fun _=>⟨_,ih⟩,Qiw] [(23,.jn [] [] J3o)] func263
def Qkh:V:=⟨B2 N N,Ic N N⟩
def Qhb:V:=⟨⟨163,Zc,[Zc],u2 (E7 N),[]⟩,kF N [Qkh] [] func163⟩
def Qki:V:=⟨⟨81,J3p,[⟨Jmu,[(1,Ut)]⟩],u3 (Cu N),[]⟩,kF N [Qkg,Qhb] [(18,.lp [0,4] [4] ⟨[(9,P5),(10,Qg),(11,Qg)],[(100000,Ut)]⟩ [(.x 0,⟨[(9,Qst),(10,Qg)],[(100300,Ut)]⟩),(.r,⟨[(6,.ns),(7,Qg),(8,Qg)],[]⟩)]),(26,.jn [11] [] [(.n,⟨[(9,Qdj),(10,Qg)],[(100100,Ut)]⟩),(.r,⟨[(6,.ns),(7,Qg),(8,Qg)],[]⟩)]),(29,.an (.dr 6 Qqt Qbo))] func81⟩
def S7:V:=⟨⟨164,Jdj,[Yp],Hz N,[]⟩,kF N [Xq] [] func164⟩
def Qkj:V:=⟨⟨165,Qch,[Qch],u2 (Cv N),[]⟩,kF N [Xq,Rc,S7] [] func165⟩
def Qot:V:=⟨⟨82,J3q,[J3r],u4 (Oc N),[]⟩,kF N [Zg,D9,S7,Qkj] [] func82⟩
def Rf:V:=⟨⟨167,Q4p,[zs1],Gw N,[]⟩,kF N [] [] func167⟩
def Nt:V:=⟨⟨168,Q4p,[zs1],Z4 N,[]⟩,kF N [] [] func168⟩
def Qkk:V:=⟨⟨166,J3s,[zs1],Cw N,[]⟩,kF N [Rf,Nt,Fr] [(6,.lp [0] [] D7 Qe2),(18,.jn [3] [4] [(.n,Jvm)]),(18,.an (.dc 28 [15,16,17,18,19,20,21,22,23,24,25,26,27,28,29,30,31,32,33,34,35,36,37,38,39,40,41,42] [] [4] (.c 4 (.k 0 [] [] [] [] (.a (.a (.so 18 (.a (.a (.a (.a (.a Jv4))))) (.c 4 (.k 1 [] [] [] [] (.a (.a (.a (.so 23 Jv4 (.b 4 (.c 4 (.a (.a (.so 27 (.b 4 (.c 4 (.a (.a (.a (.a (.so 33 J3u J3w))))))) (.a (.a (.a (.a (.a (.a J3w))))))))))))))))))))))))] func166⟩
def Qou:V:=⟨⟨83,J3x,[J3y],u2 (Od N),[]⟩,kF N [Qkk,Rf,Nt,Qa9,Fr] [(4,.rg (.n 1 (.call 0 (.n 2 (.sp 13 4 [0,3] [3] Jl7 Me Que .done))))),(38,.lp [0,6] [3,6] ⟨[(7,Qdj),(8,Qg)],[(100100,zs8)]⟩ [(.x 0,⟨[(7,Qst)],[(100300,zs8)]⟩)]),(46,.jn [8] [] [(.n,⟨[(7,Qa5)],[(100200,zs8)]⟩)]),(48,.an (.dr 5 Qu8 Jm0)),(54,.jn [0,6] [3,6] [(.n,⟨[(7,Qy5)],[(100400,zs8)]⟩)]),(63,.lp [0,6] [3,6] ⟨[(7,Q4j),(9,Qg)],[(100500,zs8)]⟩ [(.x 2,⟨[(7,Jdm)],[(100700,zs8)]⟩)]),(71,.jn [9] [] [(.n,⟨[(7,Jdl)],[(100600,zs8)]⟩)]),(73,.an (.dr 5 Qu8 Jm0))] func83⟩
def Qix:V:=⟨⟨38,Jm1,[J30],u3 (Bd N),[]⟩,kF N [Qqx,Qa7,Qqy,Qgz,S5,Qg4,Qg7,Qj9,Qkc,Qkd,Qke,Qa9,Qck,Qop,Qki,Qot,Qou] [(15,.an (.dc 3 [73,74,1000000002] [4,8,6] [] Jv6)),(25,.an (.dc 3 [78,79,1000000002] [4,8,6] [] Jv6)),(37,.an (.dc 3 [93,94,1000000002] [4,8,6] [] Jv6)),(77,.an (.dc 3 [176,177,1000000002] [4,8,6,24601,24602,24603] [] J31)),(89,.an (.dc 3 [185,186,1000000002] [4,8,6,24601,24602,24603] [] J31)),(97,.an (.dc 15 [201,202,203,204,205,206,207,208,209,210,211,212,213,214,28] [5,8,13,3,27,9] [] (.c 5 (.b 8 (.c 8 (.b 13 (.c 13 (.b 3 (.c 3 (.b 5 (.c 5 (.k 12 [] [] [] [] (.c 27 (.b 9 (.c 9 (.k 13 [] [] [] [] (.e 28 Ej))))))))))))))))),(111,.gh (.dt 20 (.dt 4 .done))),(111,.an (.dc 3 [234,235,1000000002] [4,8,6,24601,24602] [] (.g [] [4] [] [24601,24602] (.g [] [8] [] [24604,26301,32101] (.g [6] [24601,24602] [] [6,24601,24602] Ej))))),(129,.an (.dc 3 [274,275,1000000002] [4,8,6,34401,34402,36701] [] (.g [] [4] [] [34401,34402,36701] (.g [] [8] [] [24604,26301,32101] (.g [6] [34401,34402,36701] [] [6,34401,34402,36701] Ej)))))] func38⟩
def Qov:V:=⟨⟨12,Jm1,[J30],u3 (Ww N),[]⟩,kF N [Qie,P9,Qix] [(9,.an (.dc 4 [21,22,23,1000000003] [4,8,6] [] (.c 4 (.k 1 [] [] [12203,12202,12201] [12201,12202,12203] (.c 8 (.g [6] [12201,12202,12203] [] [6,12201,12202,12203] Ej)))))),(13,.an (.dc 11 [25,26,27,28,29,24,30,31,9,10,1000000010] [3,4,5] [] (.c 3 (.c 4 (.k 1 [] [] [12703,12702,12701] [12701,12702,12703] (.c 5 (.k 2 [12701,12702,12703] [] [12903,12902,12901] [12701,12702,12703,12901,12902,12903] (.g [] [] [] [12901,12902,12903] (.a (.g [] [] [] [12901,12902,12903] (.e 9 (.e 10 (.f 9 9 Ej))))))))))))),(21,.an (.dc 4 [38,39,40,1000000003] [4,8,6] [] (.c 4 (.k 1 [] [] [13903,13902,13901] [13901,13902,13903] (.c 8 (.g [6] [13901,13902,13903] [] [6,13901,13902,13903] Ej)))))),(25,.an (.dc 3 [41,42,1000000002] [9,10,6] [] (.c 9 (.g [] [10] [] [12901,12902,12903] Jv5))))] func12⟩
def B3(N n:Nat):Con:=⟨84,Jv1,[Yp],fun(x0,x1)=>Yt N n x0 x1,[]⟩
theorem Id(N:Nat):∀n,KO (B3 N n)
 | 0=>⟨F2 fun _=>rfl,L2 func84 rfl⟩
 | n+1=>have ih:=Id N n; kF N [fun _=>⟨_,ih⟩] [(16,.lp [1,2] [2] ⟨[(5,Qg),(6,Qg)],[]⟩ Jc5)] func84
def Qkl:V:=⟨B3 N N,Id N N⟩
def Qkm:V:=⟨⟨40,(sD [J9,.i]),[zs1],u2 (Cy N),[]⟩,kF N [Qkl] [(14,.lp [1,2] [2] Fn Qid),(35,.lp [1,2] [2] Qj1 Jv7),(56,.lp [1,2] [2] Sv Jv8),(77,.lp [1,2] [2] Qu9 J32)] func40⟩
def S8:V:=⟨⟨170,Yp,[(sD [.arr 5 .bool])],H0 N,[]⟩,kF N [] [(25,.jn [2,3] [2] [(.n,Jv9)]),(35,.jn [2,3] [2] [(.n,Jl7)]),(49,.jn [2] [2] [(.n,Jqk)])] func170⟩
def Qq2:V:=⟨⟨266,Yp,[zs1],Ca N,[]⟩,kF N [] [] func266⟩
def Wk:V:=⟨⟨90,P7,[zs1],Ui N,[]⟩,kF N [] [(4,.rg (.n 9 (.sp 12 4 [0] [] ⟨[(16,Q0)],[]⟩ Me Me (.n 1 (.sp 17 4 [0] [] ⟨[(21,Q0)],[]⟩ Me Me .done))))),(14,.lp [0] [] D7 Qe2),(24,.rg (.n 5 (.sp 32 5 [3] [] ⟨[(37,Q0)],[]⟩ Zb Zb (.n 1 (.sp 38 11 [3] [] Jl6 (.nl 5 (.sp 43 5 [3,38] [] ⟨[(48,Q0)],[]⟩ Jmp Jmp Vn)) (.nl 10 Vn) (.n 1 (.sp 50 5 [3] [] Jmg Zb Zb .done)))))))] func90⟩
def Qkn:V:=⟨⟨267,(sD [J2]),[zs1],Cz N,[]⟩,kF N [] [] func267⟩
def Qmt:V:=⟨⟨169,(sD [J2,.i]),[Yp],u2 (Zu N),[]⟩,kF N [S8,Qq2,Wk,Fq,Qkn] [(30,.rg (.n 9 (.sp 37 9 [2,5] [2,5] Jvm Qa6 Jm2 (.n 1 (.sp 47 9 [2,5] [2,5] ⟨[(56,Q0)],[]⟩ Qa6 Jm2 (.n 1 (.sp 57 9 [2,5] [2,5] ⟨[(66,Q0)],[]⟩ Qa6 Jm2 (.n 1 (.sp 67 9 [2,5] [2,5] ⟨[(76,Q0)],[]⟩ Qa6 Jm2 .done))))))))),(38,.rg (.n 3 (.sp 79 5 [2,5] [2,5] ⟨[(84,Q0)],[]⟩ Qug Zb (.n 1 (.sp 85 9 [2,5] [2,5] ⟨[(94,Q0)],[]⟩ Qa6 (.nl 3 (.sp 88 5 [2,5,85] [] ⟨[(93,Q0)],[]⟩ (.nl 2 (.call 1 (.nl 2 .done))) Jmp Vn)) .done))))),(46,.rg (.n 3 (.sp 97 5 [2,5] [2,5] ⟨[(102,Q0)],[]⟩ Ju4 Zb Jmd))),(54,.rg (.n 3 (.sp 120 5 [2,5] [2,5] ⟨[(125,Q0)],[]⟩ J33 Zb .done))),(62,.rg (.n 3 (.sp 128 4 [2] [2,5] ⟨[(132,Q0)],[]⟩ (.nl 1 (.call 4 Q7o)) Me .done)))] func169⟩
def Qmu:V:=⟨⟨268,J0b,[zs1],u2 (Lg N),[]⟩,kF N [Xp] [(6,.lp [1,2] [2] Fn Qid),(16,.jn [5] [] [(.n,⟨[(31,Q0)],[]⟩)]),(16,.an (.dc 16 [13,14,15,16,17,18,19,20,21,22,23,24,25,26,27,28] [] [2] (.b 2 (.c 2 (.a (.a (.a (.a (.a (.a (.a (.so 21 (.c 2 (.b 2 (.c 2 J34))) J37))))))))))))] func268⟩
def Qdo:V:=⟨⟨171,J6k,[Yp],u2 (Gy N),[]⟩,kF N [Xb,Uu,Qmu] [(38,.rg (.n 4 (.sp 26 6 [2,3,5] [2,3] ⟨[(32,Q0)],[]⟩ Jm3 Q1r .done))),(46,.rg (.n 4 (.sp 36 5 [2,3,5] [2,3] Jds (.nl 3 J6o) Zb (.n 1 (.sp 42 13 [2,3,5] [2,3] Jmg (.nl 12 Vn) (.nl 4 (.sp 46 8 [2,5,42] [] ⟨[(54,Q0)],[]⟩ (.nl 8 .done) (.nl 8 .done) Vn)) .done)))))] func171⟩
def Qko:V:=⟨⟨269,(sD [U0,.str]),[zs1],u2 (C0 N),[]⟩,kF N [Di] [(6,.lp [1,2] [2] Fn Qid)] func269⟩
def Qkp:V:=⟨⟨172,J6k,[Yp],u2 (C1 N),[]⟩,kF N [Uu,Xp,Qko,Di] [(23,.jn [] [2,3,6] J3g),(67,.jn [3,6,23] [] [(.n,⟨[(53,Q0)],[]⟩)]),(81,.jn [3,6] [] [(.n,⟨[(62,Q0)],[]⟩)])] func172⟩
def Qkq:V:=⟨⟨85,(sD [U0,J2,.i]),[Yp],u3 (Kt N),[]⟩,kF N [Qmt,S8,Qdo,Qkp] [] func85⟩
def Qkr:V:=⟨⟨41,(sD [.sl J2]),[Zc],Vf N,[]⟩,kF N [Qkq,Ra] [(18,.lp [0] [] ⟨[(4,L4),(5,Qg),(6,Qg)],J8n⟩ J38),(28,.an (.dr 6 Qqt Qbo)),(38,.an (.dr 5 Qu8 J0e))] func41⟩
def Qks:V:=⟨⟨273,(sD [.sl .str]),[Yp],C2 N,[]⟩,kF N [Wk] [(14,.lp [0] [] D7 Qh0),(35,.lp [0] [] Q7l Jvx),(45,.an (.dr 10 Q4s .done))] func273⟩
def Qiy:V:=⟨⟨175,(sD [Xk]),[Yp],Be N,[]⟩,kF N [Qks] [] func175⟩
def Qow:V:=⟨⟨87,J39,[Yp],Oe N,[]⟩,kF N [Wk,Qiy] [(46,.lp [1] [1] D7 Qh0)] func87⟩
def Qkt:V:=⟨⟨42,(sD [.sl Ye]),[Yp],C3 N,[]⟩,kF N [Qow] [(14,.lp [0] [] D7 Qh0),(34,.an (.dr 44 (.n 3 (.sp 24 41 [3] [] ⟨[(65,Q0)],[]⟩ (.nl 13 (.sp 37 27 [3,24] [] ⟨[(64,Q0)],[]⟩ (.nl 27 .done) (.nl 13 (.sp 50 13 [3,24,37] [] ⟨[(63,Q0)],[]⟩ Jm4 Jm4 Jvv)) Vn)) (.nl 40 Vn) .done)) .done))] func42⟩
def Qku:V:=⟨⟨274,Jwa,[zs1],Gz N,[]⟩,kF N [] [] func274⟩
def Qkv:V:=⟨⟨275,Jwa,[zs1],C4 N,[]⟩,kF N [] [] func275⟩
def S9:V:=⟨⟨176,P7,[zs1],H1 N,[]⟩,kF N [Qku,Qkv] [(4,.rg (.n 9 (.sp 12 5 [0] [] Jl7 Zb Qy8 .done))),(14,.lp [0] [] D7 Qe2),(24,.rg (.n 3 (.call 0 (.n 2 (.sp 29 6 [3] [] Jml Jm3 Q1r (.n 1 (.sp 36 5 [3] [] Jds Zb Zb .done)))))))] func176⟩
def Qmv:V:=⟨⟨276,J4a,[zs1],u2 (Lh N),[]⟩,kF N [] [(6,.lp [1,2] [2] Fn Qid)] func276⟩
def Qmw:V:=⟨⟨277,J4a,[zs1],u2 (Li N),[]⟩,kF N [] [(6,.lp [1,2] [2] Fn Qid)] func277⟩
def Qkw:V:=⟨⟨177,Jdt,[Yp],C5 N,[]⟩,kF N [Qmv,Qmw,Xt] [(14,.lp [1] [1] D7 Qh0),(35,.rg (.n 3 (.call 0 (.n 2 (.sp 35 6 [3,4] [4] Jds Q1r Jm3 .done)))))] func177⟩
def Qdp:V:=⟨⟨178,Jdt,[Yp],G0 N,[]⟩,kF N [S9,Bi] [(14,.lp [1] [1] D7 Qh0),(37,.lp [3,4] [4] Fn Jvx),(47,.an (.dr 9 (.n 9 .done) .done))] func178⟩
def Qiz:V:=⟨⟨88,Jdt,[Yp],Bf N,[]⟩,kF N [S9,Rb,Xs,Qkw,Qdp] [(21,.jn [1] [1] [(.n,D7)]),(27,.jn [1] [1] [(.n,D7)]),(33,.jn [] [1] [(.n,D7)])] func88⟩
def Qkx:V:=⟨⟨89,(sD [J9,J9]),[Yp],u2 (C6 N),[]⟩,kF N [] [] func89⟩
def Qky:V:=⟨⟨43,(sD [.sl J9]),[Yp],C7 N,[]⟩,kF N [Qiz,Qkx] [(14,.lp [0] [] D7 Qh0),(34,.jn [3] [] [(.n,⟨[(36,Q0)],[]⟩)]),(34,.an (.dc 12 [22,23,24,25,26,27,28,29,30,31,32,33] [] [] (.a (.a (.a (.so 24 (.a (.a (.a (.a (.a (.a (.a (.a (.a (.tl Jl9)))))))))) (.a (.a J37))))))))] func43⟩
def Qkz:V:=⟨⟨44,(sD [.sl Ph]),[zs1],C8 N,[]⟩,kF N [Wk] [(6,.lp [0] [] D7 Qe2),(26,.an (.dr 35 (.n 3 (.sp 41 32 [3,4] [4] ⟨[(73,Q0)],[]⟩ (.nl 10 (.sp 51 21 [3,4,41] [] ⟨[(72,Q0)],[]⟩ (.nl 21 .done) (.nl 10 (.sp 61 10 [3,4,41,51] [] ⟨[(71,Q0)],[]⟩ (.nl 10 .done) (.nl 10 .done) Jvv)) Vn)) (.nl 31 Vn) .done)) .done))] func44⟩
def Qbq:V:=⟨⟨45,(sD [.sl Zk]),[zs1],Wx N,[]⟩,kF N [Xr,Xt,Bz] [(6,.lp [0] [] D7 Qe2),(19,.rg (.n 19 (.sp 37 5 [3,4] [4] Jl8 Zb Qy8 (.n 1 (.sp 43 5 [3,4] [4] ⟨[(48,Q0)],[]⟩ Zb Qug Q4s))))),(28,.lp [3,4] [4] Fn [(.x 2,Qbn),(.r,⟨[(2,Q0)],[]⟩)])] func45⟩
def Qk0:V:=⟨⟨17,(sD [Xd,.i]),[zs1],u2 (U8 N),[]⟩,kF N [Qkm,Qkr,Qkt,Qky,Qkz,Qbq] [(14,.lp [1,2] [2] Fn Qid),(35,.lp [1,2] [2] Qj1 Jv7),(56,.lp [1,2] [2] Sv Jv8),(77,.lp [2] [2] Qu9 J32),(87,.an (.dr 32 (.n 7 (.sp 111 7 [8] [] ⟨[(118,Q0)],[]⟩ Ry Ry (.n 1 (.sp 119 17 [8] [] ⟨[(136,Q0)],[]⟩ (.nl 16 Vn) (.nl 3 (.sp 122 13 [8,119] [] ⟨[(135,Q0)],[]⟩ Jm4 Jm4 Vn)) .done)))) .done)),(97,.rg (.n 3 (.sp 145 5 [2] [2] ⟨[(150,Q0)],[]⟩ Ju4 Zb (.n 1 (.sp 151 5 [2] [2] ⟨[(156,Q0)],[]⟩ J33 Zb (.n 1 (.sp 157 4 [2] [2] ⟨[(161,Q0)],[]⟩ (.nl 2 Jm0) Me (.n 1 (.sp 162 4 [2] [2] ⟨[(166,Q0)],[]⟩ (.nl 2 (.call 5 Vn)) Me Vn)))))))))] func17⟩
def Qi0:V:=⟨⟨18,(sD [J3]),[zs1],Bg N,[]⟩,kF N [] [] func18⟩
def Qmx:V:=⟨⟨19,Yp,[zs1],Lj N,[]⟩,kF N [] [] func19⟩
def Qmy:V:=⟨⟨6,J4b,[zs1],u2 (Lk N),[]⟩,kF N [Qk0,Qi0,Qmx] [(4,.rg (.n 4 (.sp 9 4 [1,2] [2] Jv9 Me Jvr .done))),(14,.lp [1] [2] Fn Qid),(24,.rg (.n 4 (.call 1 (.n 2 (.sp 26 8 [5] [] ⟨[(34,Q0)],[]⟩ Fo (.nl 5 Qy7) (.n 1 (.sp 35 8 [5] [] Jvq Fo Fo (.n 1 (.sp 44 8 [5] [] ⟨[(52,Q0)],[]⟩ Fo Fo .done)))))))))] func6⟩
def Qhc:V:=⟨⟨20,(sD []),[(sD [Xd])],fun _=>Fa N,[]⟩,kF N [] [] func20⟩
def Q7p:V:=⟨⟨23,zs2,[Jc4],Qag N,[]⟩,kF N [] [(3,.an (.dc 8 [6,7,8,9,10,11,12,3] [1] [] (.b 1 (.c 1 (.e 8 (.b 1 (.c 1 (.e 11 (.g [] [] [] [8,11] Jz7))))))))),(8,.lp [2,14,15] [1,2] ⟨[(3,L4),(16,Qg)],J8f⟩ J8i),(21,.rg (.n 3 (.fz 22 Q1p)))] func23⟩
def Qsu:V:=⟨⟨325,Q7m,[Jiy],u2 (Qah N),[]⟩,kF N [] [(6,.lp [0,1] [] Fn Jc5),(9,.rg (.n 5 (.sp 11 7 [5] [] Jc6 Ry Ry .done)))] func325⟩
def Qmz:V:=⟨⟨326,Q7m,[Jiy],u2 (Ll N),[]⟩,kF N [] [(8,.lp [1,8,9] [] ⟨Jwb,[(100000,Qu5)]⟩ J6g),(16,.jn [10] [] J6h)] func326⟩
def Qsv:V:=⟨⟨279,J8j,[(sD [V0])],u2 (Qai N),[]⟩,kF N [Qsu,Qmz] [(3,.jn [] [3] [(.n,⟨[(2,P6),(4,Jl1)],[(100300,J6j),(100301,Jm5)]⟩),(.r,⟨[(4,Qdk)],[(100200,Jm5)]⟩)]),(31,.jn [2,3,4,6] [2,4] [(.n,Jl8)]),(39,.jn [2,3,4] [2,4] [(.n,Jl6)])] func279⟩
def Qm0:V:=⟨⟨181,Qss,[⟨Qdi,[(1,Quh)]⟩],u2 (Lm N),[]⟩,kF N [Qsv] [(10,.lp [1,10,11] [] ⟨[(5,P5),(6,Q4a),(12,Qg)],[(100000,Quh),(100001,Jwd)]⟩ [(.x 0,⟨Ju0,[(100300,Quh)]⟩)]),(18,.jn [12] [] [(.n,⟨[(5,Qa5),(6,Jwe)],[(100200,Quh),(100201,Jwd)]⟩)]),(32,.an (.dr 13 (.n 3 (.sp 31 10 [5,6,8,9,12] [8,100000,100001] Jds Jdq Jdq .done)) .done))] func181⟩
def Qq3:V:=⟨⟨183,(sD [V0,V0]),[zs1],u2 (Rs N),[]⟩,kF N [] [(14,.lp [3,43,44] [2,3] ⟨[(45,Qg)],[]⟩ Qid)] func183⟩
def Qk1:V:=⟨⟨182,J4c,[zs1],u2 (C9 N),[]⟩,kF N [Qq3] [] func182⟩
def Qk2:V:=⟨⟨184,J4c,[(sD [Ug])],u2 (Da N),[]⟩,kF N [] [] func184⟩
def B4:V:=⟨⟨180,⟨[(0,.d (.sl Ug)),(1,.f 182 .nil),(2,.f 184 .nil)],[]⟩,[⟨Qdi,[(1,Quh)]⟩],V4 N,[]⟩,kF N [Qk1,Qk2] [(8,.lp [1,2,11,12] [] ⟨J4d,[(100000,Quh)]⟩ [(.x 0,⟨[(7,Qa5)],[(100200,Quh)]⟩)]),(16,.jn [13] [] [(.n,⟨[(7,Qdj)],[(100100,Quh)]⟩)]),(22,.an (.dc 10 [19,20,21,22,23,24,25,26,27,28] [100000,9] [] (.a (.a (.a (.so 21 (.a (.b 100000 (.a (.a (.d 100000 100000 (.c 100000 (.c 9 (.tl Qbo)))))))) J0h)))))),(24,.an (.dc 11 [31,32,33,34,35,36,37,38,39,40,41] [100000,9] [] (.b 100000 (.a (.a (.a (.b 100000 (.a (.a (.d 100000 100000 (.c 100000 (.c 9 (.k 1 [] [] [] [] Jc7)))))))))))))] func180⟩
def Qba:V:=⟨⟨94,Qss,[⟨Qdi,[(1,Jc9)]⟩],u2 (F9 N),[]⟩,kF N [Qm0,B4] [(10,.lp [5,14,15] [11201,11301] ⟨[(6,P5),(16,Qg)],[(100000,Jc9)]⟩ [(.x 0,⟨[(6,Qst)],[(100300,Jc9)]⟩)]),(18,.jn [16] [] [(.n,⟨[(6,Qa5)],[(100200,Jc9)]⟩)]),(30,.jn [6,8,16] [8,100000] [(.n,⟨[(9,Qa4)],[(100100,Q4m)]⟩)]),(35,.an (.dc 17 [40,41,42,43,44,45,46,47,48,49,50,51,52,53,54,55,56] [100100,8] [] (.b 100000 (.c 100100 (.b 8 (.b 8 (.c 8 (.b 8 (.b 8 (.c 8 (.e 48 (.b 8 (.b 8 (.c 8 (.b 8 (.b 8 (.c 8 (.b 48 (.op ⟨.fz 48 (.nl 1 .done),[48],[],[],[48]⟩ Jc7)))))))))))))))))))] func94⟩
def W8:V:=⟨⟨185,Qza,[zs1],Zm N,[]⟩,kF N [] [] func185⟩
def Ta:V:=⟨⟨95,J2k,[zs1],u2 (H2 N),[]⟩,kF N [W8] [] func95⟩
def Qzi:V:=⟨⟨50,Jc8,[J8r],u3 (Ln N),[]⟩,kF N [Qba,Ta] [(6,.lp [2,12,13] [11201] ⟨[(6,L4),(14,Qg)],[(100000,Jly)]⟩ [(.x 0,⟨[(6,Qa4)],[(100100,Jly)]⟩),(.r,⟨Jva,[(100200,.var 74 D6)]⟩)])] func50⟩
def Qsw:V:=⟨⟨186,(sD []),[⟨[(0,.p 1 [])],[(1,.var 341 (.ag (sL [.m 2,.m 3,.m 4,.m 5,.m 6,.ns,.ns]))),(2,Jdu),(3,.map .i V0),(4,Qui),(5,.map .str .i),(6,Qh3)]⟩],fun _=>Qak N,[]⟩,kF N [] [] func186⟩
def Qvb:V:=⟨⟨187,Qss,[⟨[(0,.f 280 (sL [.p 1 [],.p 2 []]))],[(1,.var 22 J4e),(2,Qci)]⟩],u2 (Qcz N),[]⟩,kF N [] [] func187⟩
def Qox:AnY:=(.two (.reg (.n 3 .done)) (.un (.lp [2,6,7] [] ⟨[(8,.d .i)],[]⟩ [(.x 0,⟨[],[]⟩),(.r,⟨[],[]⟩)] (.two (.reg (.n 1 .done)) (.two (.two .nil .nil) (.two (.un (.two (.reg (.n 4 .done)) (.two (.yr (.h 5 (.n 5 .done) (.so 16 (.mv (.h 1 (.nl 1 .done) (.yl (.h 2 (.nl 1 (.n 1 .done)) .done)))) (.h 5 (.nl 4 (.n 1 .done)) .done)))) (.two .nil .nil)))) (.reg (.n 2 .done))))))))
def Qbb(N:Nat):It:=⟨280,[(.sl J2),(.int .i64)],J2,fun(x1,x2)=>Rt N x1 x2⟩
theorem Qm1(N:Nat):IO (Qbb N):=⟨Jz6 (Y:=tx) (N:=N) (it:=Qbb N) (an:=Qox) Jlx Jlw (Jc2 N []) func280 rfl (fun x=>by kernel_rfl),L2 func280 rfl⟩
def Qk3:V:=⟨⟨281,Q4l,[Q4h],u2 (G1 N),[]⟩,kF N [] [(6,.lp [0,1] [] Fn Jc5),(9,.rg (.n 5 (.sp 11 7 [5] [] Jc6 Ry Ry .done)))] func281⟩
def Qfa:V:=⟨⟨327,Q7m,[Jiy],u2 (K4 N),[]⟩,kF N [] [(6,.lp [0,1] [] Fn Jc5),(9,.rg (.n 5 (.sp 11 7 [5] [] Jc6 Ry Ry .done)))] func327⟩
def Qq4:V:=⟨⟨328,Q7m,[Jiy],u2 (Cb N),[]⟩,kF N [] [(8,.lp [1,8,9] [] ⟨Jwb,[(100000,Qu5)]⟩ J6g),(16,.jn [10] [] J6h)] func328⟩
def Qdq:V:=⟨⟨282,⟨[(0,Fp),(1,Jwc),(2,Jvg)],Jwf⟩,[⟨[(0,Jwc)],Jwg⟩],u9 (G2 N),[5000,5001,5002,5003,5005,5006,5007]⟩,kF N [Qfa,Qq4] [(3,.jn [6] [5,6] [(.n,⟨[(4,Q4a)],[(5004,.map .str .i),(100001,J6j)]⟩)]),(10,.an (.dr 8 Qqp Vn)),(16,.an (.dr 6 Qqt Vn))] func282⟩
def Qbr:V:=⟨⟨188,⟨[(0,Fp),(1,Jvg)],Jwf⟩,[⟨[],[(5000,.var 341 (.ag (sL [Jm6,Q4u,Jm7,Jm8,Jm9,zs3,zs4]))),(5001,Jdu),(5002,.map .i V0),(5003,Qui),(5004,.map .str .i),(5005,Qh3),(1,G7),(2,G7)]⟩],u8 (Wy N),[]⟩,kF N [Qk3,Qdq] [(9,.jn [3] [3] [(.n,⟨Qh4,[(5000,.var 341 (.ag (sL [Jm6,Q4u,Jm7,Jm8,Jm9,.s 100006,.s 100007]))),(5001,Jdu),(5002,.map .i V0),(5003,Qui),(5004,.map .str .i),(5005,Qh3),(100006,G7),(100007,G7)]⟩)]),(10,.an (.dc 12 [38,39,40,41,42,43,44,37,45,46,4,1000000011] [5000,5001] [3] (.b 5000 (.d 5000 5000 (.b 5000 (.d 5000 5001 (.b 3 (.c 3 (.c 5001 (.a (.a (.a (.e 4 (.f 4 4 Ej)))))))))))))),(14,.gh J4f),(14,.an (.dc 8 [49,50,51,52,53,54,55,56] [5000] [3] (.b 5000 (.b 5000 (.d 5000 5000 (.b 5000 (.c 5000 (.b 3 (.c 3 (.k 0 [] [] [15601] [15601] Qu7)))))))))),(16,.an (.dr 16 (.n 16 .done) Vn)),(21,.an (.dc 8 [77,78,79,80,81,82,83,6] [5000,3,5001] [] (.b 5000 (.d 5000 5000 (.b 5000 (.d 5000 5001 (.b 3 (.c 3 (.c 5001 (.e 6 Ej)))))))))),(24,.an (.dr 7 Jmw Vn)),(29,.jn [3] [3] [(.n,⟨Qh4,[(5000,.var 341 (.ag (sL [Jm6,Q4u,Jm7,Jm8,Jm9,.s 100106,.s 100107]))),(5001,Jdu),(5002,.map .i V0),(5003,Qui),(5004,.map .str .i),(5005,Qh3),(100106,G7),(100107,G7)]⟩)]),(30,.an (.dr 8 Qqp .done)),(32,.gh (.fz 5007 (.dt 5000 .done))),(32,.an (.dc 8 [102,103,104,105,106,107,108,109] [5000] [3] (.b 5000 (.b 5000 (.d 5000 5000 (.b 5000 (.c 5000 (.b 3 (.c 3 (.k 0 [] [] [20901] [20901] Qu7)))))))))),(35,.an (.dr 6 Qqt Vn)),(37,.an (.dr 8 Qqp Vn)),(38,.an (.dr 15 Jmd Vn)),(43,.an (.dc 8 [143,144,145,146,147,148,149,7] [5000,3,5002] [] (.b 5000 (.d 5000 5000 (.b 5000 (.d 5000 5002 (.b 3 (.c 3 (.c 5002 (.e 7 Ej)))))))))),(48,.lp [0,3,7,151,152] [3,7,5000,5001,5002,5003,5005,5006,5007] ⟨[(153,Qg)],Jwg⟩ [(.x 1,⟨[],Jwg⟩)]),(62,.an (.dr 8 Qqp Vn)),(63,.an (.dr 6 Qqt Vn)),(65,.jn [0,3] [3,5000,5001,5002,5003,5004,5005,5006,5007] [(.n,⟨[(177,Q0)],[]⟩)]),(73,.an (.dc 12 [15,16,17,18,19,20,21,14,22,23,10,1000000011] [5000,3,5002] [] (.b 5000 (.d 5000 5000 (.b 5000 (.d 5000 5002 (.b 3 (.c 3 (.c 5002 (.a (.a (.a (.e 10 (.f 10 10 Ej)))))))))))))),(77,.an (.dc 10 [25,26,27,28,29,30,31,32,33,34] [5000,3,10,5004,5001,5002,5003,5005,5006,5007] [] (.b 5000 (.d 5000 5000 (.b 5000 (.d 5000 5002 (.b 3 (.c 3 (.b 5000 (.c 10 (.c 3 (.k 1 [5004] [5000,5001,5002,5003,5005,5006,5007] [] [5004] Ej))))))))))))] func188⟩
def Qbc:V:=⟨⟨189,⟨Qh4,Jwf⟩,[Ju2],u7 (Xz N),[5000,5001,5002,5003,5004,5005,5006,5007]⟩,kF N [] [(5,.rg (.br Vn)),(10,.lp [0,2,16,17] [2] ⟨[(3,L4),(4,.m 100001),(18,Qg)],[(100000,J16),(100001,Jwh),(100002,Qmf)]⟩ [(.x 0,⟨[(3,Qdk),(4,.m 100201)],[(100200,.var 182 (.ag (sL [.ns,Juz]))),(100201,Jwh),(100202,Qmf)]⟩)]),(18,.jn [18] [] [(.n,⟨[(3,Qa4),(4,.m 100101)],[(100100,.var 182 (.ag (sL [.ns,Juw]))),(100101,Jwh),(100102,Qmf)]⟩)]),(30,.gh (.op (.v 7 [.f 1 1]) 100001 700000 .done)),(30,.an (.dc 10 [33,34,35,36,37,38,39,40,41,42] [7,100001,700000] [] (.b 100001 (.b 7 (.c 7 (.b 100001 (.b 7 (.c 7 (.op ⟨.br .done,[],[100001,700000],[],[700000]⟩ (.a (.a (.g [700000] [] [42] [42] (.tl (.br .done)))))))))))))),(37,.gh (.fm 100201 .done)),(37,.lp [0,2,4,53,54] [2,100201] ⟨[(3,P6),(55,Qg)],[(100300,.var 182 (.ag (sL [Quf,Q4b]))),(100301,Jda),(100302,Qmf)]⟩ [(.x 2,⟨[(3,Qqo)],J19⟩)])] func189⟩
def Qq5:AnR:=(.pre (.reg (.n 1 .done)) (.pre (.reg (.call 0 (.n 2 .done))) (.inn (.pre (.reg (.n 2 (.call 1 .done))) (.un (.rf 0 [4,5] [4,5] ⟨[],[(10701,.var 341 (.ag (sL [.m 100001,.m 100002,.m 100003,.m 100004,.m 100005,.s 100006,.s 100007]))),(100001,.map .i Z6),(100002,.map .i V0),(100003,.map .i .bool),(100004,.map .str .i),(100005,.map .i .i),(100006,.row 3 .i),(100007,.row 3 .i)]⟩ (.reg (.n 2 .done)) (.un (.reg (.n 2 (.call 2 .done))))))) (.two (.reg (.n 1 (.call 3 (.n 1 .done)))) .nil))))
def Qfb:V:=⟨⟨96,Qss,[Ju2],u2 (Lo N),[]⟩,kR N [Qsw,Qvb,Qbr,Qbc] [⟨_,Qm1 N⟩] Qq5 func96 rfl fun x=>by kernel_rfl⟩
def Qzj:V:=⟨⟨51,Jc8,[J8o],u3 (Lp N),[]⟩,kF N [Qfb] [(6,.lp [1,13,14] [11201,11202] ⟨J4g,[(100000,Jm5)]⟩ [(.x 0,⟨[(6,Qa4)],[(100100,Jm5)]⟩),(.r,⟨Jva,[(100200,Jwd)]⟩)])] func51⟩
def Qoy:V:=⟨⟨52,Jc8,[J2a],u3 (Wz N),[]⟩,kF N [Qfb] [(6,.lp [1,13,14] [11201,11202] ⟨J4g,[(100000,Ju9)]⟩ J2b)] func52⟩
def Qm2:V:=⟨⟨26,⟨Qh4,[(5000,.var 84 (.ag (sL [By,Sw,Zn,.ag (sL [Qva,Yk,Qze,Q0,Q0]),.ag (sL [Qg,Qg,Qg,Q0,Q0,Qcj]),.ag (sL [Yk,Qg,Q0,Qe4,Qh5,Quj,Qqu]),Qg,J4h]))),(5001,Qu5),(5002,G7),(5003,Nm),(5004,Ef),(5005,As),(5006,D8),(5007,Zv),(5008,Zd),(5009,Ut)]⟩,[⟨Qqv,[(5000,J4j),(1,Nm),(2,Ef),(3,As),(4,D8),(5,Zv),(6,Zd),(7,Ut)]⟩],u35 (H6 N),[]⟩,kF N [Qzi,Qzj,Qoy] [(3,.an (.dc 21 [8,9,10,11,12,13,14,15,16,17,18,19,20,21,22,23,7,24,25,3,1000000020] [5000] [] (.b 5000 (.d 5000 5000 (.b 5000 (.b 5000 (.c 5000 (.b 5000 (.d 5000 5000 (.b 5000 (.b 5000 (.c 5000 (.b 5000 (.d 5000 5000 (.b 5000 (.b 5000 (.c 5000 (.k 0 [] [] [] [] (.a (.a (.a (.e 3 (.f 3 3 Ej))))))))))))))))))))))),(13,.an (.dc 21 [29,30,31,32,33,34,35,36,37,38,39,40,41,42,43,44,28,45,46,5,1000000020] [5000] [] (.b 5000 (.d 5000 5000 (.b 5000 (.b 5000 (.c 5000 (.b 5000 (.d 5000 5000 (.b 5000 (.b 5000 (.c 5000 (.b 5000 (.d 5000 5000 (.b 5000 (.b 5000 (.c 5000 (.k 1 [] [] [] [] (.a (.a (.a (.e 5 (.f 5 5 Ej))))))))))))))))))))))),(16,.an (.dr 8 Qqp .done)),(33,.an (.dc 20 [62,63,64,65,66,67,68,69,70,71,72,73,74,75,61,76,77,78,79,1000000019] [5000,5] [] (.b 5000 (.b 5000 (.d 5000 5000 (.b 5000 (.b 5000 (.c 5000 (.b 5 (.c 5 (.b 5000 (.d 5000 5000 (.b 5000 (.b 5000 (.c 5000 (.k 2 [] [] [] [] (.a (.a (.a (.d 5000 5000 (.b 5000 (.g [5000] [] [] [5000,5003,5004,5005,5006,5007,5008,5009] Jwi))))))))))))))))))))))] func26⟩
def Q7q:V:=⟨⟨25,⟨Qh4,[(5000,.var 69 Sx),(5001,.var 84 (.ag (sL [By,Sw,Zn,.ag (sL [Qva,Yk,Qcj,Q0,Q0]),.ag (sL [Qg,Qg,Qg,Q0,Q0,Qe4]),.ag (sL [Yk,Qg,Q0,Qh5,Quj,Qqu,Qzd]),Qg,.ag (sL [Zn,Qg,Yk,Qg,Yk,.s 5008,.s 5009,Qg,Qg,Qg,.s 5010,Qg,Qg])]))),(5002,Qu5),(5003,G7),(5004,Nm),(5005,Ef),(5006,As),(5007,D8),(5008,Zv),(5009,Zd),(5010,Ut)]⟩,[⟨Qqv,[(5001,.var 84 (.ag (sL [By,Sw,Zn,D6,Nl,Jdv,Qg,J4i]))),(1,Nm),(2,Ef),(3,As),(4,D8),(5,Zv),(6,Zd),(7,Ut)]⟩],u35 (Qgd N),[5000]⟩,kF N [Qm2] [] func25⟩
def Q7r:V:=⟨⟨24,⟨[(0,.f 25 Quk),(1,.p 5011 [])],[(5000,.var 69 Sx),(5001,.var 84 (.ag (sL [By,Sw,Zn,.ag (sL [Qva,Yk,Qcj,Q0,Q0]),.ag (sL [Qg,Qg,Qg,Q0,Q0,Qe4]),.ag (sL [Yk,Qg,Q0,Qh5,Quj,Qqu,Qzd]),Qg,.ag (sL [Zn,Qg,Yk,Qg,Yk,.s 5008,.s 5009,Qg,Qg,Qg,.s 5010,Qg,Qg])]))),(5002,Qu5),(5003,G7),(5004,Nm),(5005,Ef),(5006,As),(5007,D8),(5008,Zv),(5009,Zd),(5010,Ut),(5011,Qul)]⟩,[⟨[],[(5001,J4j),(5011,Qul),(1,Nm),(2,Ef),(3,As),(4,D8),(5,Zv),(6,Zd),(7,Ut)]⟩],u36 (Qge N),[5000]⟩,kF N [Q7q] [(3,.rg (.n 1 Qbo))] func24⟩
def Qhd:V:=⟨⟨190,(sD [.sl .str]),[Jiy],Fc N,[]⟩,kF N [] [] func190⟩
def Qdr:V:=⟨⟨191,J4k,[⟨Qdi,[(1,.row 280 Ws)]⟩],G3 N,[]⟩,kF N [] [] func191⟩
def Qds:V:=⟨⟨192,J28,[⟨Qdi,[(1,Jna)]⟩],G4 N,[]⟩,kF N [] [] func192⟩
def Qcl(N n:Nat):Con:=⟨193,Qzc,[Qzc],fun x0=>X4 N n x0,[]⟩
theorem Qfc(N:Nat):∀n,KO (Qcl N n)
 | 0=>⟨F2 fun _=>rfl,L2 func193 rfl⟩
 | n+1=>have ih:=Qfc N n; kF N [fun _=>⟨_,ih⟩] [(8,.lp [1,2,7,8] [1,2] ⟨[(3,P5),(9,Qg)],[(100000,Jnb)]⟩ [(.x 0,⟨Jmc,[(100100,Jnb)]⟩)])] func193
def Q1s:V:=⟨Qcl N N,Qfc N N⟩
def Qzk:V:=⟨⟨97,Jdt,[⟨[(0,Jdv)],Jwj⟩],Qgf N,[]⟩,kF N [Qhd,Qdr,Qds,Q1s] [(10,.lp [1,2,18,19] [1,2] ⟨[(3,L4),(20,Qg)],J4l⟩ J4m),(21,.an (.dc 9 [24,25,26,27,28,29,30,31,32] [100000,5] [] (.b 100000 (.d 100000 100001 (.b 5 (.c 5 (.b 5 (.c 5 (.k 0 [] [] [13001] [13001] (.b 13001 (.op ⟨.fz 13001 (.nl 1 .done),[13001],[],[],[13001]⟩ Qu7))))))))))),(27,.lp [1,2,37,38] [1,2] ⟨[(3,Qdk),(39,Qg)],J4n⟩ J4o),(38,.an (.dc 9 [43,44,45,46,47,48,49,50,51] [100200,7] [] (.b 100200 (.d 100200 100202 (.b 7 (.c 7 (.b 7 (.c 7 (.k 1 [] [] [14901] [14901] (.b 14901 (.op ⟨.fz 14901 (.nl 1 .done),[14901],[],[],[14901]⟩ Qu7))))))))))),(44,.lp [1,2,56,57] [1,2] ⟨[(3,Qqo),(58,Qg)],J4p⟩ J4q),(57,.rg (.n 3 (.fz 16401 Q1p))),(63,.lp [2,74,75] [1,2] ⟨[(3,Jdd),(76,Qg)],J4r⟩ J4s)] func97⟩
def Jdx:V:=⟨⟨53,J14,[⟨[(0,Jdv),(1,Q0)],Jwj⟩],u3 (Qej N),[]⟩,kF N [Qzk] [(8,.lp [0,1,2,6,11,12] [6] ⟨[(8,Qg),(13,Qg)],[]⟩ [(.x 0,Qu9)]),(16,.jn [13] [] J0d)] func53⟩
def Q7s:V:=⟨⟨194,P7,[zs1],Qog N,[]⟩,kF N [] [(6,.lp [0,6] [] Sv Qe2)] func194⟩
def Qvc:V:=⟨⟨196,⟨[(0,.d Zq),(1,Fp)],J4t⟩,[zs1],u2 (Qc0 N),[5000]⟩,kF N [] [] func196⟩
def Tf:V:=⟨⟨283,J4u,[Yp],u2 (K8 N),[5000]⟩,kF N [Qvc] [(6,.lp [0,1,7] [] Qu9 Qsr),(18,.rg (.n 5 (.call 0 .done)))] func283⟩
def Ot:V:=⟨⟨195,J4u,[zs1],u2 (Zy N),[5000]⟩,kF N [Tf] [] func195⟩
def Qzl:V:=⟨⟨197,Jwa,[zs1],Qgg N,[]⟩,kF N [] [] func197⟩
def Qk4:V:=⟨⟨99,P7,[zs1],Lq N,[]⟩,kF N [Qzl] [(6,.lp [0,5] [] Qj1 Qe2)] func99⟩
def Q1t:V:=⟨⟨98,J2d,[⟨[(0,.m 1),(1,Qg)],[(1,Q4v)]⟩,⟨[(0,.nm),(1,Qg)],[]⟩],Qju N,[]⟩,kF N [Q7s,Ot,Qk4] [(16,.lp [0,15,16] [] ⟨[(4,Jnc),(17,Qg)],[(100000,Q4v)]⟩ [(.x 0,⟨[(4,.m 100400)],[(100400,Q4v)]⟩),(.r,⟨[(2,.nm),(3,Qg)],[]⟩)]),(57,.lp [6,17,44,45] [6] ⟨[(4,Jnd),(46,Qg)],[(100100,Q4v)]⟩ [(.x 3,⟨[(4,.m 100200)],[(100200,Q4v)]⟩),(.r,⟨[(2,.nm),(3,Qg)],[]⟩)])] func98⟩
def Qvd:V:=⟨⟨100,⟨[(0,.m 5000),(1,Yk),(2,Qg)],[(5000,Q4v)]⟩,[Jvd],u3 (Qc1 N),[5000]⟩,kF N [] [(4,.lp [0,1] [] Jde [(.x 0,Qbn),(.r,⟨[(6,Yk),(7,Q0)],[]⟩)])] func100⟩
def Qq6:V:=⟨⟨54,Jvc,[Jvd],u2 (Of N),[]⟩,kF N [Q1t,Qk4,Qvd] [(4,.an (.cn 6 (.two (.two (.reg (.n 3 (.sp 15 4 [1,6] [] Q4g Me Que .done))) (.two J4v (.gh (.tl .done) .nil))) .nil) (.two (.two (.reg (.n 3 (.sp 15 4 [1,6] [11001] Q4g Me Que .done))) (.two J4v .nil)) (.two (.reg (.n 4 (.call 2 Q1p))) .nil))))] func54⟩
def Qoz:V:=⟨⟨28,⟨Qh4,[(5000,.var 84 (.ag (sL [By,Sw,Zn,D6,Nl,.ag (sL [Yk,Qg,Q0,Qze,Qcj,Qe4,Qh5]),Qg,Jwm]))),(5001,Nm),(5002,Ef),(5003,As),(5004,D8),(5005,Zv),(5006,Zd),(5007,Ut)]⟩,[⟨Qqv,[(5000,Jwn),(1,Ef),(2,As),(3,D8),(4,Zv),(5,Zd),(6,Ut)]⟩],u26 (Aa N),[]⟩,kF N [Jdx,Qq6] [(3,.an (.dc 21 [6,7,8,9,10,11,12,13,14,15,16,17,18,19,20,21,5,22,23,3,1000000020] [5000] [] (.b 5000 (.d 5000 5000 (.b 5000 (.b 5000 (.c 5000 (.b 5000 (.d 5000 5000 (.b 5000 (.b 5000 (.c 5000 (.b 5000 (.d 5000 5000 (.b 5000 (.b 5000 (.c 5000 (.k 0 [] [] [12104,12103,12102,12101] [12101,12102,12103,12104] (.g [] [] [] [12101,12102,12103,12104] (.g [] [] [] [12101,12102,12103,12104] (.a (.e 3 (.g [3] [12101,12102,12103,12104] [] [3,12101,12102,12103,12104] Ej))))))))))))))))))))))),(15,.an (.dc 10 [30,31,32,33,34,35,36,37,38,1000000009] [3,5000] [] (.b 5000 (.b 5000 (.b 3 (.c 3 (.b 3 (.c 3 (.d 5000 5000 (.b 5000 (.b 5000 (.g [5000] [] [] [5000,5005,5006,5007,12101,12102,12103,12104] (.tl Q1p))))))))))))),(17,.gh (.fz 12101 (.dt 5000 (.dt 3 .done)))),(17,.an (.dc 16 [43,44,45,46,47,48,49,50,51,42,52,53,54,55,56,1000000015] [3,5000] [] (.b 5000 (.b 3 (.c 3 (.b 5000 (.d 5000 5000 (.b 5000 (.b 5000 (.c 5000 (.k 1 [] [] [] [] (.a (.a (.a (.d 5000 5000 (.b 5000 (.b 5000 (.g [5000] [] [] [5000,5005,5006,5007,12102,12103,12104] Jwi))))))))))))))))))] func28⟩
def Q7t:V:=⟨⟨27,⟨Qh4,[(5000,.var 69 Sx),(5001,.var 84 (.ag (sL [By,Sw,Zn,D6,Nl,.ag (sL [Yk,Qg,Q0,Qcj,Qe4,Qh5,Quj]),Qg,.ag (sL [Zn,Qg,Yk,Qg,Yk,Qqu,Qzd,Qg,Qg,Qg,.s 5008,Qg,Qg])]))),(5002,Nm),(5003,Ef),(5004,As),(5005,D8),(5006,Zv),(5007,Zd),(5008,Ut)]⟩,[⟨Qqv,[(5001,Jwn),(1,Ef),(2,As),(3,D8),(4,Zv),(5,Zd),(6,Ut)]⟩],u26 (Qgh N),[5000]⟩,kF N [Qoz] [] func27⟩
def Qve:V:=⟨⟨24,⟨[(0,.f 27 Quk),(1,.p 5009 [])],[(5000,.var 69 Sx),(5001,.var 84 (.ag (sL [By,Sw,Zn,D6,Nl,.ag (sL [Yk,Qg,Q0,Qcj,Qe4,Qh5,Quj]),Qg,.ag (sL [Zn,Qg,Yk,Qg,Yk,Qqu,Qzd,Qg,Qg,Qg,.s 5008,Qg,Qg])]))),(5002,Nm),(5003,Ef),(5004,As),(5005,D8),(5006,Zv),(5007,Zd),(5008,Ut),(5009,Qul)]⟩,[⟨[],[(5001,Jwn),(5009,Qul),(1,Ef),(2,As),(3,D8),(4,Zv),(5,Zd),(6,Ut)]⟩],u27 (X5 N),[5000]⟩,kF N [Q7t] [(3,.rg (.n 1 Qbo))] func24⟩
def Qq7:V:=⟨⟨198,Jdh,[Jma],Ru N,[]⟩,kF N [] [(8,.lp [6,7] [] ⟨[(3,P5),(8,Qg)],Jmb⟩ Jve),(21,.rg (.n 2 (.fz 14 Q1q)))] func198⟩
def Rz:V:=⟨⟨101,zs2,[Jc4],Bu N,[]⟩,kF N [Qq7] [(3,.an (.dc 8 [3,4,5,6,7,8,9,10] [1] [] (.b 1 (.c 1 (.k 0 [] [] [10501] [10501] (.b 1 (.c 1 (.e 8 Jvf))))))))] func101⟩
def Qsx:V:=⟨⟨102,Jc8,[zs1],u3 (Qao N),[]⟩,kF N [] [(6,.lp [1,2,9,10] [] Jmq J2c)] func102⟩
def Qsy:V:=⟨⟨127,(sD [.sl Um]),[J4x],Qap N,[]⟩,kF N [] [(8,.lp [9,10] [] ⟨[(3,Jnc),(11,Qg)],[(100000,Qh3)]⟩ [(.x 0,⟨[(3,.m 100200)],[(100200,Qh3)]⟩)]),(16,.jn [11] [] [(.n,⟨[(3,Jnd)],[(100100,Qh3)]⟩)])] func127⟩
def Qzm:V:=⟨⟨103,(sD [.sl Um,.i]),[⟨[(0,zs3),(1,Qg)],[(1,zs7)]⟩],u2 (Qgi N),[]⟩,kF N [Qsy] [(16,.lp [0,1] [11201] Qu9 [(.x 0,Qu9)]),(19,.rg (.n 5 (.sp 25 8 [8] [] Jl0 Fo Fo .done)))] func103⟩
def Wl:V:=⟨⟨201,Q4r,[zs1],u3 (Y3 N),[]⟩,kF N [] [] func201⟩
def L6:V:=⟨⟨202,Yp,[zs1],Ab N,[]⟩,kF N [] [] func202⟩
def L7:V:=⟨⟨199,Jdj,[Yp],Ac N,[]⟩,kF N [Wl,L6] [(5,.rg (.n 2 (.call 0 (.n 2 (.sp 8 5 [1] [1] Jv9 Zb Qug (.n 1 (.sp 14 5 [1] [1] Q4g Zb Qy8 Vn))))))),(11,.rg (.n 2 (.call 0 (.n 2 (.sp 25 5 [1] [1] J6p Zb Qy8 Vn)))))] func199⟩
def R0:V:=⟨⟨200,Qch,[Qch],u2 (V9 N),[]⟩,kF N [] [] func200⟩
def Qvf:V:=⟨⟨105,Qch,[Qch],u2 (Qc2 N),[]⟩,kF N [L7,R0,Wl,L6] [(14,.rg (.n 1 (.call 2 (.n 2 (.sp 19 7 [1,2,4] [2,4] ⟨[(26,Q0)],[]⟩ Ry (.nl 4 (.call 3 Q7o)) .done)))))] func105⟩
def Qm3:V:=⟨⟨104,⟨[(0,Jvi),(1,Qg),(2,Fp)],[(5000,Qqq)]⟩,[⟨[],[(5000,Qqq)]⟩],u3 (H7 N),[]⟩,kF N [] [] func104⟩
def Qzn:V:=⟨⟨106,Qch,[Qch],u2 (Qgj N),[]⟩,kF N [L7,R0,Wl] [] func106⟩
def Qq8:V:=⟨⟨55,J2g,[Jc4],u4 (Hd N),[]⟩,kF N [Rz,Qsx,Qzm,Qvf,Qm3,Qzn] [(6,.rg (.n 7 (.sp 24 6 [0,2,3,8,9] [5,8,9,11701,11702,11703] J6p Q1r Jm3 .done))),(22,.lp [2,3,8,9,10,11,44,45] [5,8,9,11701,11702,11703,13601] ⟨[(12,Qa4),(13,.f 104 (sL [Qa4])),(46,Qg)],[(100100,Qqq)]⟩ [(.x 0,⟨[(12,Qqo)],[(100400,Qqq)]⟩)]),(30,.jn [46] [] [(.n,⟨[(12,P6),(13,.f 104 (sL [P6]))],[(100300,Qqq)]⟩)]),(35,.an (.dr 20 (.n 5 (.sp 54 9 [12,13,15,46] [15,100100] ⟨[(63,Q0)],[]⟩ Qa6 Qa6 Qqt)) .done)),(45,.rg (.n 4 (.call 3 Jwo))),(49,.rg (.n 4 (.call 5 Jwo)))] func55⟩
def Qbd:V:=⟨⟨107,Jdf,[Jdg],Lr N,[]⟩,kF N [] [] func107⟩
def Quo:V:=⟨⟨108,Jdf,[(sD [Kf])],Qel N,[]⟩,kF N [] [] func108⟩
def Qvg:V:=⟨⟨109,Qss,[Yp],u2 (Qc3 N),[]⟩,kF N [] [(6,.lp [1,7,8] [] Qno Qsr)] func109⟩
def Qk5:V:=⟨⟨285,⟨[(0,D6),(1,Fp)],[(5000,Jdw)]⟩,[zs1],u2 (Db N),[5000]⟩,kF N [] [(6,.lp [1,7,8] [2] Qno [(.x 0,Qbn),(.r,⟨[(3,Q0)],[]⟩)])] func285⟩
def Qk6:V:=⟨⟨330,Jmj,[zs1],u2 (Dc N),[]⟩,kF N [] [] func330⟩
def Qk7:V:=⟨⟨331,Jmj,[Qza],u2 (Dd N),[]⟩,kF N [] [] func331⟩
def Rg:V:=⟨⟨329,⟨[(0,Jne),(1,.f 330 .nil),(2,.f 331 .nil)],[]⟩,[Qe3],Z8 N,[]⟩,kF N [Qk6,Qk7] [(8,.lp [1,2,11,12] [] ⟨J4d,Qy9⟩ J4y),(16,.jn [13] [] J4z),(22,.an (.dc 10 [19,20,21,22,23,24,25,26,27,28] [100000,9] [] (.a (.a (.a (.so 21 (.a (.b 100000 (.a (.a (.d 100000 100000 (.c 100000 (.c 9 (.tl Qbo)))))))) J0h)))))),(24,.an (.dc 11 [31,32,33,34,35,36,37,38,39,40,41] [100000,9] [] (.b 100000 (.a (.a (.a (.b 100000 (.a (.a (.d 100000 100000 (.c 100000 (.c 9 (.k 1 [] [] [] [] Jc7)))))))))))))] func329⟩
def Qo0:V:=⟨⟨284,⟨[(0,J4e),(1,Qg),(2,.f 285 Quk)],[(5000,Jdw)]⟩,[Qe3],u3 (Og N),[5000]⟩,kF N [Qba,Qk5,Rg] [(8,.lp [2,12,13] [11201] ⟨[(7,P5),(14,Qg)],Qy9⟩ J4y),(16,.jn [14] [] J4z),(20,.rg (.n 2 (.call 1 .done)))] func284⟩
def Qo1:V:=⟨⟨203,J2j,[Qe3],u3 (Oh N),[]⟩,kF N [Qo0] [] func203⟩
def Qvh:V:=⟨⟨204,(sD [Zx,Zx]),[zs1],u2 (Qc4 N),[]⟩,kF N [] [] func204⟩
def Qq9:V:=⟨⟨110,Qss,[⟨Qdi,[(1,Jnf)]⟩],u2 (Rv N),[]⟩,kF N [Qo1,Qvh] [(5,.rg (.br Vn)),(12,.lp [0,1,15,16] [] ⟨[(5,Jnc),(6,.m 100001),(7,Jz9),(17,Qg)],[(100000,Qui),(100001,Q4w),(100002,Jnf)]⟩ [(.x 0,⟨[(7,.s 101100)],[(101100,Jnf)]⟩)]),(20,.jn [17] [] [(.n,⟨[(5,.m 101000),(6,.m 101001),(7,.s 101002)],[(101000,Qui),(101001,Q4w),(101002,Jnf)]⟩)]),(24,.jn [6,7,9,17] [9,100001,100002] [(.n,⟨[(5,Jnd)],[(100100,Qui)]⟩)]),(31,.jn [5,7,9,17] [9,100002,100100] [(.n,⟨[(6,.m 100300),(51,Q0)],[(100300,Q4w)]⟩)]),(31,.gh (.op (.v 9 [.f 5 5]) 100001 700000 .done)),(31,.rg (.n 11 (.sp 43 8 [5,6,7,9,17] [100001,700000] ⟨[(51,Q0)],[]⟩ Fo (.nl 3 (.br (.nl 2 (.br Vn)))) (.cl 100001 .done)))),(36,.jn [5,7,9,17] [9,100002,100100] [(.n,⟨[(6,.m 100500)],[(100500,Q4w)]⟩)]),(37,.jn [5,7,9,17] [] [(.n,⟨[(6,.m 100400),(56,Q0)],[(100400,Q4w)]⟩)]),(37,.gh (.op (.v 9 [.f 5 5]) 100300 700001 .done)),(37,.rg (.n 3 (.br (.n 1 (.cl 100300 .done))))),(39,.rg (.n 4 (.br .done))),(42,.jn [5,7,9,17] [9,100002,100100] [(.n,⟨[(6,.m 100600)],[(100600,Q4w)]⟩)]),(42,.gh (.op (.v 9 [.f 5 5]) 100500 700002 .done)),(42,.rg (.n 3 (.br (.n 3 (.cl 100500 .done))))),(44,.an (.dc 13 [67,68,69,70,71,72,73,74,75,76,77,78,10] [9] [] (.a (.b 9 (.c 9 (.b 9 (.c 9 (.a (.b 9 (.c 9 (.b 9 (.c 9 (.k 0 [] [] [17701] [17701] (.b 17701 (.e 10 Ej))))))))))))))),(49,.gh (.fz 17701 .done)),(49,.lp [5,6,7,10,17] [9,10,17701,100002,100100,100600] Jmq [(.x 2,Jmq)]),(52,.jn [11] [] J8m),(52,.an (.dc 10 [79,80,81,82,83,84,85,86,87,88] [] [100002,10] (.a (.b 100002 (.c 100002 (.a (.a (.so 83 (.b 100002 (.a (.d 100002 100002 (.c 100002 (.d 10 17701 J0f))))) J0g)))))))),(59,.rg (.n 2 (.fz 100002 Q1q)))] func110⟩
def Ft:V:=⟨⟨206,Jmj,[Jvs],u2 (Ku N),[]⟩,kF N [W8] [(6,.rg (.n 1 (.call 0 (.n 2 (.sp 21 4 [3,4,6] [2,3,4,6] Jmf Me Jvr Jmw)))))] func206⟩
def Qcm:V:=⟨⟨341,Yp,[Yp],Xe N,[]⟩,kF N [] [(7,.jn [] [] [(.n,Q7l)])] func341⟩
def Qvi:V:=⟨⟨359,Yp,[zs1],Qc5 N,[]⟩,kF N [] [] func359⟩
def R2:V:=⟨⟨342,Zc,[Yp],u2 (X6 N),[]⟩,kF N [Qvi] [(6,.rg (.n 3 (.sp 9 3 [0,1,5] [5] ⟨[(12,Q0)],[]⟩ Jme Qnn .done)))] func342⟩
def Qvj:V:=⟨⟨296,Yp,[(sD [Ql2])],Qc6 N,[]⟩,kF N [Qcm,R2] [(14,.lp [0,2] [2] ⟨[(3,L4)],[(100000,Jng)]⟩ [(.x 0,⟨Juv,[(100100,Jng)]⟩)]),(27,.lp [2] [2] ⟨[(0,Qg),(3,Qdk)],[(100200,Jng)]⟩ [(.x 2,⟨[(0,Qg),(3,P6)],[(100300,Jng)]⟩)])] func296⟩
def Qfd:V:=⟨⟨223,Zc,[Yp],u2 (Fd N),[]⟩,kF N [Qvj] [(7,.jn [] [5] [(.n,Qj1)])] func223⟩
def Qra:V:=⟨⟨358,Zc,[Yp],u2 (Rw N),[]⟩,kF N [R2] [] func358⟩
def Qzo:V:=⟨⟨340,(sD [Ql2]),[Zc],Qgk N,[]⟩,kF N [Qra,Qcm,R2] [(4,.jn [1] [1] [(.n,Jc6)]),(4,.an (.dc 11 [6,7,8,9,10,11,12,13,14,15,16] [] [1] (.b 1 (.c 1 (.a (.a (.so 9 J0h (.b 1 (.c 1 (.b 1 (.c 1 (.b 1 (.c 1 (.k 0 [] [] [] [] (.tl Q7o))))))))))))))),(11,.an (.dc 5 [19,20,21,22,23] [1] [] (.b 1 (.c 1 (.k 1 [] [] [] [] Jvf))))),(16,.lp [1] [1] Jv2 [(.x 0,Q7l)])] func340⟩
def Qsz:V:=⟨⟨295,Zc,[Yp],u2 (Ls N),[]⟩,kF N [Qzo] [] func295⟩
def Tb:V:=⟨⟨222,Zc,[Qza],u2 (H8 N),[]⟩,kF N [Qsz] [(5,.jn [4] [4] [(.n,⟨[(5,L4)],[(100000,Q4m)]⟩)])] func222⟩
def Qcn:V:=⟨⟨207,J2n,[Qe3],u2 (Cc N),[]⟩,kF N [Qfd,Tb] [(16,.lp [0,3] [3] ⟨Jux,Qy9⟩ [(.x 0,⟨[(5,Qdj)],Jdo⟩)])] func207⟩
def Qk8:V:=⟨⟨205,⟨[(0,Qva),(1,Fp),(2,Sx),(3,.p 5003 [])],[(5000,Qci),(5001,.var 205 Qcj),(5002,P8),(5003,Qci)]⟩,[⟨[],[(5001,.var 205 zs3),(1,P8)]⟩],u4 (Df N),[5000,5003]⟩,kF N [Ft,Qcn] [(7,.an (.dc 4 [16,17,18,19] [5001,5] [5003] (.d 5001 5002 (.c 5003 (.c 5 (.k 1 [] [] [11901] [11901] Jc7))))))] func205⟩
def Qk9:V:=⟨⟨332,J40,[J41],u3 (Dg N),[]⟩,kF N [W8] [(3,.lp [1,7,8] [] ⟨[(2,Fp),(9,Qg)],[(5000,.var 375 Qsq),(100001,Qun)]⟩ [(.x 0,⟨[],[(5000,.var 375 Qu6),(100201,Qun)]⟩)]),(11,.jn [9] [] [(.n,⟨[(2,Fp)],[(5000,.var 375 Qy4),(100101,Qun)]⟩)])] func332⟩
def Qfe:V:=⟨⟨332,J40,[J41],u3 (Hp N),[]⟩,kF N [W8] [(3,.lp [1,7,8] [] ⟨[(2,Fp),(9,Qg)],[(5000,.var 375 Qsq),(100001,Qun)]⟩ [(.x 0,⟨[],[(5000,.var 375 Qu6),(100201,Qun)]⟩)]),(11,.jn [9] [] [(.n,⟨[(2,Fp)],[(5000,.var 375 Qy4),(100101,Qun)]⟩)])] func332⟩
def Qo2:V:=⟨⟨287,(sD [.bool,.bool]),[zs1],u2 (Oi N),[]⟩,kF N [] [] func287⟩
def Qo3:V:=⟨⟨286,⟨[(0,Jne),(1,Jne),(2,.f 287 .nil)],[]⟩,[Qe3],u2 (Oj N),[]⟩,kF N [Qk9,Qfe,fun _=>⟨_,Fl⟩,Qo2] [(7,.rg (.n 2 (.call 0 .done))),(9,.rg (.n 2 (.call 1 .done))),(22,.lp [2,7,24,25] [7,12101] ⟨[(9,P5),(10,Q4a),(11,Q0),(26,Qg)],[(100000,P8),(100001,Jnh)]⟩ [(.x 0,⟨[(9,Qy5)],Jmi⟩)]),(30,.jn [26] [] [(.n,⟨[(9,Qst),(10,Jl1),(11,Q0)],[(100300,P8),(100301,Jnh)]⟩)]),(34,.an (.dr 8 Qqp Vn)),(37,.an (.dr 16 (.n 6 (.sp 44 10 [9,10,11,12,13,26] [13,100000,100001] ⟨[(54,Q0)],[]⟩ Jdq Jdq .done)) .done)),(42,.rg (.n 7 Jmk)),(44,.jn [10,14,26] [13,100001] [(.n,⟨[(9,Qa5)],Jdn⟩)])] func286⟩
def Qs0:V:=⟨⟨208,J2i,[Qe3],Qau N,[]⟩,kF N [Qo3] [] func208⟩
def Qvk:V:=⟨⟨111,(sD [.sl Zx,.i,.i]),[Qe3],u3 (Qc7 N),[]⟩,kF N [Qk8,Qs0,Qcn] [(10,.lp [17,18] [] ⟨[(4,L4),(7,Q4a),(8,.f 205 (sL [.p 100002 [],Q4a,L4])),(19,Qg)],[(100000,Qci),(100001,.var 205 J6f),(100002,Qci),(100003,P8)]⟩ [(.x 0,⟨[(4,P6),(7,Jl1)],[(100300,Qci),(100301,.var 205 Q4b),(100302,P8)]⟩)]),(24,.lp [19,24,25] [10] ⟨[(4,Qa4),(7,J6l),(8,.f 205 (sL [.p 100102 [],J6l,Qa4])),(26,Qg)],[(100100,Qci),(100101,.var 205 J0a),(100102,Qci),(100103,P8)]⟩ [(.x 2,⟨[(4,Qdk),(7,Jwe),(8,.f 205 (sL [.p 100202 [],Jwe,Qdk]))],[(100200,Qci),(100201,.var 205 J6m),(100202,Qci),(100203,P8)]⟩)]),(35,.rg (.n 2 (.call 0 .done))),(44,.lp [4,36,37] [13601,100300,100301,100302] ⟨[(13,Qy5),(38,Qg)],Jmi⟩ [(.x 4,⟨[(13,Q4j)],Jvp⟩)])] func111⟩
def Qzp:V:=⟨⟨289,⟨[(0,.d Ye),(1,Fp),(2,Sx)],J42⟩,[zs1],u3 (Qgl N),[5000,5001]⟩,kF N [] [] func289⟩
def R3:V:=⟨⟨288,⟨[(0,.d (.sl Ye)),(1,.f 289 (sL [Fp,Sx]))],J42⟩,[⟨Qdi,[(1,Qqw)]⟩],u3 (Kv N),[5000,5001]⟩,kF N [Qzp] [(8,.lp [1,8,9] [] ⟨Jwb,[(100000,Qqw)]⟩ [(.x 0,⟨J0c,[(100200,Qqw)]⟩)]),(16,.jn [10] [] [(.n,⟨[(5,Qdj)],[(100100,Qqw)]⟩)]),(20,.rg (.n 2 (.call 0 .done)))] func288⟩
def Qvl:V:=⟨⟨290,J39,[⟨[(0,.ag (sL [Yk,Qg,Qg,Yk,Q0,zs3]))],[(1,Q4x)]⟩],Qc8 N,[]⟩,kF N [] [(8,.lp [1,2,7,8] [1,2] ⟨[(3,P5),(9,Qg)],[(100000,Q4x)]⟩ [(.x 0,⟨Jmc,[(100100,Q4x)]⟩)]),(21,.rg (.n 2 (.fz 15 Q1q)))] func290⟩
def Q7u:V:=⟨⟨209,J2o,[⟨[(0,.ag (sL [Yk,Qg,Qg,Yk,Q0,zs3])),(1,Q0)],[(1,Q4x)]⟩],u3 (Qoh N),[]⟩,kF N [R3,Qvl] [] func209⟩
def Qhe:V:=⟨⟨112,(sD [Zx,.sl Ye,Je]),[⟨Qdi,[(1,Jni)]⟩],u3 (Ff N),[]⟩,kF N [Ft,Q7u] [(6,.lp [1,3,5,18,19] [3,5] ⟨[(20,Qg)],[]⟩ [(.x 0,Qbn),(.r,⟨[(6,Qy5)],[(100400,Jni)]⟩)]),(33,.lp [9,42,43] [8,9,11,13801] ⟨[(13,Qdj),(44,Qg)],[(100100,Jni)]⟩ [(.x 2,⟨[(13,Qa5)],[(100200,Jni)]⟩)])] func112⟩
def Qco:V:=⟨⟨210,Qzb,[zs1],u2 (Cd N),[]⟩,kF N [] [] func210⟩
def Qzq:V:=⟨⟨211,J2q,[Jdg],u3 (Qgm N),[]⟩,kF N [Qbd,Qco] [(5,.jn [6] [3,4,6] [(.n,⟨[(7,L4)],[(100000,.var 97 (.ag (sL [Qg,Qg,Yk,Qg,Qg,Qsq,Qva,Qg,Qg,Qg,Q0]))),(100001,Qu5)]⟩)])] func211⟩
def Qvm:V:=⟨⟨212,Qzb,[zs1],u2 (Qc9 N),[]⟩,kF N [] [] func212⟩
def Qo4:V:=⟨⟨113,⟨[(0,Fp),(1,.d B7)],[(5000,.var 197 (.ag (sL [Qze,Q4u]))),(5001,zs6),(5002,Qh6)]⟩,[⟨[],[(5000,.var 197 (.ag (sL [zs3,Q4u]))),(5002,Qh6),(1,zs6)]⟩],u3 (Ol N),[]⟩,kF N [Quo,Qbd,Qco,Qzq,Qvm] [(4,.an (.dc 7 [9,10,11,12,13,14,15] [5000,3] [] (.b 5000 (.d 5000 5000 (.b 5000 (.d 5000 5002 (.b 3 (.c 3 J43)))))))),(14,.gh (.fz 11901 .done)),(14,.lp [0,3,23,24] [3,5000,5001,5002] ⟨[(4,L4),(25,Qg)],[(100000,.var 97 (.ag (sL [Qg,Qg,Yk,Qg,Qg,Qsq,Qva,Qg,Qg,Qg,Q0]))),(100001,Q4k)]⟩ [(.x 0,⟨[(4,Qa4)],[(100100,.var 97 (.ag (sL [Qg,Qg,Yk,Qg,Qg,Qy4,Qva,Qg,Qg,Qg,Q0]))),(100101,Q4k)]⟩)]),(37,.lp [0,4] [3,5000,5001,5002,100100,100101] Sv [(.x 2,Sv)]),(40,.jn [7] [] [(.n,Jmg)]),(40,.an (.dc 16 [38,39,40,41,42,43,44,45,46,47,48,49,50,51,52,53] [] [5000,5001,100100] (.a (.b 5000 (.d 5000 5000 (.b 5000 (.d 5000 5001 (.c 5001 (.a (.a (.so 45 (.b 5000 (.d 5000 5000 (.b 5000 (.d 5000 5001 (.a (.d 5001 5001 (.c 5001 (.d 100100 100101 (.tl Jm0))))))))) J8p))))))))))),(47,.rg (.n 5 (.fz 5001 Q1q))),(52,.gh (.dt 100100 .done)),(52,.an (.dc 6 [80,81,82,83,84,85] [5000,100100] [] (.b 5000 (.d 5000 5000 (.b 5000 (.d 5000 5002 (.c 100100 J43)))))))] func113⟩
def Qs1:V:=⟨⟨56,J2r,[Jc4],u5 (Fg N),[]⟩,kF N [Qbd,Quo,Qvg,Qq9,Qvk,Qhe,Qo4] [(8,.lp [0,1,3,4,7,10,27,28] [7,10] ⟨[(11,L4),(29,Qg)],[(100000,.var 197 (.ag (sL [Qsq,.m 100002]))),(100001,zs6),(100002,Qh6)]⟩ [(.x 0,⟨[(11,Qa4)],[(100100,.var 197 (.ag (sL [Qy4,.m 100102]))),(100101,zs6),(100102,Qh6)]⟩)]),(20,.an (.dc 9 [33,34,35,36,37,38,39,40,41] [100000,13,100001] [] (.b 100000 (.b 100000 (.d 100000 100000 (.b 100000 (.d 100000 100001 (.c 13 (.k 0 [] [] [13901] [13901] (.op ⟨.fz 13901 (.nl 1 .done),[13901],[],[],[13901]⟩ (.g [100001] [] [41] [41] Qu7))))))))))),(21,.an (.dc 6 [44,45,46,47,48,49] [100000,13] [] (.b 100000 (.d 100000 100000 (.b 100000 (.d 100000 100002 (.c 13 (.k 1 [] [] [] [] Ej)))))))),(24,.an (.dc 8 [51,52,53,54,55,56,57,14] [7] [] (.b 7 (.c 7 (.e 53 (.b 7 (.c 7 (.e 56 (.g [] [] [] [53,56] (.e 14 Ej)))))))))),(28,.jn [10,14] [7,10,14,53,56] [(.n,⟨[(11,.p 100900 [])],[(100900,.var 197 (.ag (sL [.s 100901,.m 100902]))),(100901,zs6),(100902,Qh6)]⟩)]),(36,.lp [1,4,10,14,16,77,78] [17301,17701] ⟨[(11,Qdk),(79,Qg)],[(100200,.var 197 (.ag (sL [Qu6,.m 100202]))),(100201,zs6),(100202,Qh6)]⟩ [(.x 2,⟨[(11,Ju6)],[(100800,.var 197 (.ag (sL [Ju7,.m 100802]))),(100801,zs6),(100802,Qh6)]⟩)]),(50,.lp [18,79,83,84] [18] ⟨[(11,P6),(85,Qg)],[(100300,.var 197 (.ag (sL [Quf,.m 100302]))),(100301,zs6),(100302,Qh6)]⟩ [(.x 4,⟨Ju8,[(100700,.var 197 (.ag (sL [Q4e,.m 100702]))),(100701,zs6),(100702,Qh6)]⟩)]),(64,.lp [85,92,93] [20,19201] ⟨[(11,Qqo),(94,Qg)],[(100400,.var 197 (.ag (sL [Q4c,.m 100402]))),(100401,zs6),(100402,Qh6)]⟩ [(.x 6,⟨Jl4,[(100600,.var 197 (.ag (sL [Q4f,.m 100602]))),(100601,zs6),(100602,Qh6)]⟩)]),(72,.jn [94] [] [(.n,⟨Jvk,[(100500,.var 197 (.ag (sL [Q4d,.m 100502]))),(100501,zs6),(100502,Qh6)]⟩)])] func56⟩
def Qzr:V:=⟨⟨291,Jdf,[Jdg],Qgn N,[]⟩,kF N [] [] func291⟩
def Qvn:V:=⟨⟨213,Jdh,[Jma],Qda N,[]⟩,kF N [Qzr] [(8,.lp [6,7] [] ⟨[(3,P5),(8,Qg)],Jmb⟩ Jve),(19,.rg (.n 2 (.call 0 (.fz 11401 Q1q))))] func213⟩
def Qs2:V:=⟨⟨335,Zc,[Yp],u2 (W5 N),[]⟩,kF N [] [] func335⟩
def Qs3:V:=⟨⟨292,Qzb,[zs1],u2 (Qav N),[]⟩,kF N [Qs2] [] func292⟩
def Tc(N n:Nat):Con:=⟨214,(sD [.sl J4,.i,.i]),[(sD [.sl .i])],fun(x0,x1,x2)=>Zz N n x0 x1 x2,[]⟩
theorem Qbe(N:Nat):∀n,KO (Tc N n)
 | 0=>⟨F2 fun _=>rfl,L2 func214 rfl⟩
 | n+1=>have ih:=Qbe N n; kF N [fun _=>⟨_,ih⟩,Qs3] [(12,.lp [2] [] J3h [(.x 0,⟨[(7,Qdj)],[(100100,G7)]⟩)]),(37,.lp [0,10,11] [] ⟨[(12,Qa5),(13,Qg),(14,Qg)],Jvo⟩ [(.x 2,⟨[(12,Qy5)],Jmh⟩)]),(46,.jn [12,13,14] [100200] [(.n,⟨[(85,Q0)],[]⟩)]),(46,.an (.dc 24 [58,59,60,61,62,63,64,65,66,67,68,69,70,71,72,73,74,75,76,77,78,79,80,81] [] [] (.a (.a (.a (.a (.a (.so 62 Jv4 (.a (.a (.a (.a (.a (.so 67 (.a (.a (.a (.a (.a (.a (.a (.a (.a (.a (.a (.a (.a (.a (.tl (.call 1 Qnn)))))))))))))))) J3v))))))))))))))] func214
def Qvo:V:=⟨Tc N N,Qbe N N⟩
def Qvp:V:=⟨⟨215,J2s,[zs1],u7 (Qdb N),[]⟩,kF N [Ta] [(4,.rg (.n 10 (.sp 26 6 [1,2,4,5,6,7] [7] ⟨[(32,Q0)],[]⟩ Q1r (.nl 3 Jdk) .done))),(22,.lp [4,7,53,54] [7] ⟨[(55,Qg)],[]⟩ [(.x 0,Qbn),(.r,⟨[(14,Q0)],[]⟩)])] func215⟩
def Jdy:V:=⟨⟨216,Jdf,[(sD [Qei])],Qso N,[]⟩,kF N [] [] func216⟩
def Q1u:V:=⟨⟨114,J2t,[J2u],u8 (Qjw N),[]⟩,kF N [Qvn,Qvo,Qvp,Jdy] [(12,.lp [0,1,2,3,4,5,6,32,33] [] ⟨[(7,Qg),(19,P5),(20,Qsq),(34,Qg)],J2v⟩ [(.x 0,⟨[(7,Qg),(19,Qst),(20,Quf)],J2w⟩)]),(20,.jn [34] [] [(.n,⟨[(7,Qg),(19,Qa5),(20,Qu6)],J2x⟩),(.x 0,⟨[(7,Qg),(19,Qdj),(20,Qy4)],[(100100,zs6),(100101,Zv)]⟩)])] func114⟩
def Qvq:V:=⟨⟨57,J2y,[J2z],u4 (Bw N),[]⟩,kF N [Rz,Q1u] [] func57⟩
def Qs4:V:=⟨⟨30,⟨Qh4,[(5000,.var 84 (.ag (sL [By,Sw,Zn,D6,Nl,.ag (sL [Yk,Qg,Q0,Qum,Qze,Qcj,Qe4]),Qg,.ag (sL [Zn,Qg,Yk,Qg,Yk,Qh5,Quj,Qg,Qg,Qg,Qqu,Qg,Qg])]))),(5001,Ef),(5002,As),(5003,D8),(5004,Zv),(5005,Zd),(5006,Ut)]⟩,[⟨[],[(5000,.var 84 (.ag (sL [By,zs5,Zn,D6,Nl,.ag (sL [Yk,Qg,Q0,Qum,.s 4,.s 5,.s 6]),Qg,.ag (sL [Zn,Qg,Yk,Qg,Yk,.s 7,.s 8,Qg,Qg,Qg,.s 9,Qg,Qg])]))),(1,zs6),(2,zs7),(3,zs8),(4,Ef),(5,As),(6,D8),(7,Zv),(8,Zd),(9,Ut)]⟩],u26 (Lt N),[5004]⟩,kF N [Qq8,Qs1,Qvq] [(1,.an (.dc 21 [5,6,7,8,9,10,11,12,13,14,15,16,17,18,19,20,21,22,23,24,2] [5000] [] (.b 5000 (.d 5000 5000 (.b 5000 (.b 5000 (.c 5000 (.b 5000 (.d 5000 5000 (.b 5000 (.c 5000 (.b 5000 (.d 5000 5000 (.b 5000 (.b 5000 (.c 5000 (.b 5000 (.d 5000 5000 (.b 5000 (.b 5000 (.c 5000 (.k 0 [] [] [12403,12402,12401] [12401,12402,12403] (.e 2 Ej))))))))))))))))))))))),(3,.an (.dr 21 (.n 21 .done) J0e)),(5,.gh (.fz 14601 (.dt 2 (.fz 14602 (.dt 2 (.fz 14603 (.dt 2 .done))))))),(5,.an (.dc 22 [48,49,50,51,52,53,54,55,56,57,58,59,60,61,62,63,47,64,65,66,1000000020,3] [2,5000] [] (.c 2 (.b 5000 (.d 5000 5000 (.b 5000 (.c 5000 (.b 5000 (.d 5000 5000 (.b 5000 (.b 5000 (.c 5000 (.b 5000 (.d 5000 5000 (.b 5000 (.b 5000 (.c 5000 (.k 2 [] [] [16304,16303,16302,16301] [16301,16302,16303,16304] (.g [] [] [] [16301,16302,16303,16304] (.g [] [] [] [16301,16302,16303] (.b 16304 (.a (.g [2] [16301,16302,16303] [] [2,16301,16302,16303] (.b 16304 Ej))))))))))))))))))))))))] func30⟩
def Qs5:V:=⟨⟨217,J20,[zs1],u2 (Qaw N),[]⟩,kF N [] [] func217⟩
def Q7v:V:=⟨⟨224,P7,[zs1],Qoi N,[]⟩,kF N [] [(6,.lp [0,6] [] Sv Qe2)] func224⟩
def Qvr:V:=⟨⟨226,⟨[(0,.d Uz),(1,Fp)],J44⟩,[zs1],u2 (Qdc N),[5000]⟩,kF N [] [] func226⟩
def Tg:V:=⟨⟨297,J46,[Yp],u2 (K9 N),[5000]⟩,kF N [Qvr] [(6,.lp [0,1,7] [] Qu9 Qsr),(18,.rg (.n 5 (.call 0 .done)))] func297⟩
def Ou:V:=⟨⟨225,J46,[zs1],u2 (Z0 N),[5000]⟩,kF N [Tg] [] func225⟩
def Q1v:V:=⟨⟨227,J4k,[Yp],Qjy N,[]⟩,kF N [] [(22,.lp [11,12] [] ⟨[(13,Qg)],[]⟩ Qh0)] func227⟩
def Qdt:V:=⟨⟨120,Jvw,[Yp],P0 N,[]⟩,kF N [Q7v,Ou,Q1v] [(22,.lp [0,12,13] [] ⟨[(14,Qg)],[]⟩ Qh0),(30,.jn [14] [] [(.n,Qbn),(.r,Jde)])] func120⟩
def Qo5:V:=⟨⟨299,Q4l,[Yp],u2 (On N),[]⟩,kF N [] [(6,.lp [0,1,7] [] Qu9 Qsr)] func299⟩
def Qi1:V:=⟨⟨230,Q4l,[zs1],u2 (Bh N),[]⟩,kF N [Qo5] [] func230⟩
def Qbf:V:=⟨⟨126,Yp,[Yp],Ad N,[]⟩,kF N [] [] func126⟩
def Qup:V:=⟨⟨122,Q4l,[Yp],u2 (Ql3 N),[]⟩,kF N [Qi1,Qbf] [] func122⟩
def Qzs:V:=⟨⟨228,⟨[(0,.d Ws),(1,Fp),(2,Sx)],J47⟩,[zs1],u3 (Qgo N),[5000,5001]⟩,kF N [] [] func228⟩
def Th:V:=⟨⟨298,J48,[Yp],u3 (Xa N),[5000,5001]⟩,kF N [Qzs] [(6,.lp [0,1,7] [] Qu9 Qsr),(18,.rg (.n 5 (.call 0 .done)))] func298⟩
def Ov:V:=⟨⟨229,J48,[zs1],u3 (Z3 N),[5000,5001]⟩,kF N [Th] [] func229⟩
def Qrb:V:=⟨⟨121,(sD [.sl Uz,.i,.i]),[P7],u3 (Qgp N),[]⟩,kF N [Ov] [(8,.lp [0,7,11,12] [4,5] ⟨[(13,Qg)],[]⟩ J21)] func121⟩
def Qzt:V:=⟨⟨61,Jvy,[P7],u3 (Qew N),[]⟩,kF N [Qdt,Qup,Qrb] [] func61⟩
def Qzu:V:=⟨⟨293,(sD [.sl Uz,.i]),[Q4h],u2 (Qgq N),[]⟩,kF N [fun _=>⟨_,Qok⟩,fun _=>⟨_,Qic⟩,fun _=>⟨_,Rx⟩] [(3,.rg (.br Vn)),(8,.lp [1,11,12] [] ⟨[(5,P5),(13,Qg)],Q4i⟩ [(.x 0,⟨[(5,Qy5)],Jmh⟩)]),(22,.lp [13,18,19] [7] ⟨[(5,Qdj),(20,Qg)],[(100100,G7)]⟩ [(.x 2,⟨Ju0,[(100300,G7)]⟩)]),(30,.jn [20] [] [(.n,⟨J0c,Jvo⟩)]),(36,.rg (.n 5 (.br Q7n)))] func293⟩
def Jdz:V:=⟨⟨218,J22,[⟨Qdi,[(1,Qqs)]⟩],u3 (Qsp N),[]⟩,kF N [Qdt,W8,Qup,Qzu,Ft,Qrb] [(4,.rg (.n 1 (.call 0 (.n 2 (.sp 21 4 [0,1,5] [5] Jmf Me Que Qqp))))),(16,.lp [0,1,5] [5] ⟨[(7,Qdj),(8,Qg)],[(100100,Qqs)]⟩ J23),(32,.lp [8,9,10,51,52] [15001] ⟨[(7,Qa5),(53,Qg)],[(100200,Qqs)]⟩ J24),(40,.jn [53] [] J25),(46,.jn [7,12,53] [100200] [(.n,⟨[(13,P6)],[(100300,Q4m)]⟩)]),(60,.an (.dc 7 [90,91,92,93,94,95,16] [14] [] (.a (.a (.a (.k 5 [] [] [] [] (.c 14 (.a (.e 16 Ej))))))))),(64,.an (.dr 12 (.n 3 (.sp 101 9 [7,14,16,17,53] [14,16,100200,100300] ⟨[(110,Q0)],[]⟩ Qa6 Qa6 .done)) .done))] func218⟩
def Qs6:V:=⟨⟨219,⟨[(0,.d Wt),(1,Fp),(2,Sx),(3,.p 5002 [])],[(5000,Qci),(5001,Jdw),(5002,Jdw)]⟩,[zs1],u4 (Qax N),[5000,5001,5002]⟩,kF N [] [] func219⟩
def Qzv:V:=⟨⟨116,J26,[⟨[(0,.ag (sL [Qg,Yk,Yk,Qg,zs3])),(1,Q0)],[(1,Jna)]⟩],u4 (Qgr N),[]⟩,kF N [Qs6] [(8,.lp [10,15,16] [4,5,6,7] ⟨[(8,L4),(17,Qg)],[(100000,Jmt)]⟩ [(.x 0,⟨[(8,Qa4)],[(100100,Jmt)]⟩),(.r,⟨Jlz,[(100200,.var 116 (.ag (sL [Qg,Yk,Yk,Qg,Qu6]))),(100201,Jna)]⟩)]),(20,.rg (.n 2 (.call 0 .done)))] func116⟩
def Qff:V:=⟨⟨294,(sD [.i,.sl .i]),[zs1],u2 (Kw N),[]⟩,kF N [] [(6,.lp [0,7,8] [] Qno Qid)] func294⟩
def Qo6:V:=⟨⟨220,⟨[(0,.s 5000)],Jwp⟩,[Yp],Oo N,[5000]⟩,kF N [Qff] [(24,.lp [0,12,13] [] ⟨[(3,Qg),(14,Qg)],[]⟩ Qh0),(37,.rg (.n 5 (.call 0 (.n 7 (.sp 31 6 [3,4,5,14] [5] ⟨[(37,Q0)],[]⟩ Q1r (.nl 3 Jdk) .done)))))] func220⟩
def Qrc:V:=⟨⟨221,⟨J2f,Jwp⟩,[Qh2],u2 (Ce N),[5000]⟩,kF N [] [(8,.lp [1,12,13] [] ⟨[(6,Qg),(7,Qg),(14,Qg)],[]⟩ [(.x 0,Qj1),(.r,⟨[(4,Qg),(5,Q0)],[]⟩)]),(22,.jn [6,7,9,14] [9] J3o),(37,.an (.dr 7 Jmw .done))] func221⟩
def Qm4:V:=⟨⟨117,⟨[(0,.s 5000),(1,Qg),(2,Qg)],Jwp⟩,[Zc],u3 (Lv N),[5000]⟩,kF N [Qo6,Qrc] [] func117⟩
def Qs7:V:=⟨⟨115,Jmr,[⟨Qdi,[(1,Zd)]⟩],u4 (Qaz N),[]⟩,kF N [Qs5,Qdt,Qzt,Jdz] [(4,.rg (.n 2 (.call 0 (.n 2 (.sp 17 5 [1,3,4,6] [4,6] Jqk Zb Qug .done))))),(13,.jn [1,3,4,6] [4,6] [(.n,Qno)]),(23,.an (.dc 10 [39,40,41,42,43,44,45,46,47,48] [4,6] [] (.b 4 (.c 4 (.a (.a (.k 2 [] [] [] [] (.a (.b 6 (.c 6 (.a (.a (.tl (.n 1 (.br Vn))))))))))))))),(32,.lp [61,62] [4,6,16101] ⟨[(10,Qa5),(63,Qg)],Jms⟩ [(.x 0,⟨[(10,Qst)],[(100300,Zd)]⟩)]),(43,.rg (.n 14 (.br Q7n)))] func115⟩
def Qvs:V:=⟨⟨58,Jmr,[⟨Jmu,[(1,Zd)]⟩],u4 (Bx N),[]⟩,kF N [Qq6,Qs7,Qzv,Qm4] [(15,.lp [4,6,11,37] [4,6] ⟨[(13,P5),(14,Qg),(15,Qg),(16,Qg),(17,Qg),(38,Qg)],[(100000,Zd)]⟩ [(.x 0,⟨[(13,Qa5),(14,Qg),(15,Qg),(17,Qg)],Jms⟩)]),(27,.an (.dc 15 [42,43,44,45,46,47,48,49,50,51,41,52,53,19,1000000014] [100000] [4,6] (.c 4 (.b 6 (.c 6 (.a (.b 100000 (.a (.d 100000 100000 (.b 100000 (.c 100000 (.k 2 [] [] [15101] [15101] (.b 15101 (.b 15101 (.a (.e 19 (.g [19] [15101] [] [19,15101] Ej))))))))))))))))),(37,.jn [13,15,16,17,18,19,38] [19,15101,100000] J3b),(43,.an (.dc 13 [61,62,63,64,65,66,67,68,69,60,70,71,21] [19,100000,15101] [] (.b 19 (.d 19 15101 (.a (.b 100000 (.a (.d 100000 100000 (.b 100000 (.c 100000 (.k 3 [] [15101] [] [] Jvz))))))))))),(59,.jn [13,14] [4,6,100200] [(.n,⟨[(17,Qg)],[]⟩)])] func58⟩
def Qs8:V:=⟨⟨31,⟨Qh4,[(5000,.var 84 (.ag (sL [By,.ag (sL [Qze,Qcj,Qe4]),Zn,D6,Nl,.ag (sL [Yk,Qg,Q0,Qum,Qh5,Quj,Qqu]),Qg,J4h]))),(5001,zs6),(5002,zs7),(5003,zs8),(5004,Ef),(5005,As),(5006,D8),(5007,Zv),(5008,Zd),(5009,Ut)]⟩,[⟨Qqv,[(5000,J49),(1,zs6),(2,zs7),(3,zs8),(4,Zv),(5,Zd),(6,Ut)]⟩],u28 (Lw N),[]⟩,kF N [Qvs] [(3,.gh (.fz 5004 (.dt 5000 (.fz 5005 (.dt 5000 J4f))))),(3,.an (.dc 24 [10,11,12,13,14,15,16,17,18,19,20,21,22,23,24,25,26,27,9,28,29,30,3,4] [5000] [] (.b 5000 (.d 5000 5000 (.b 5000 (.c 5000 (.b 5000 (.d 5000 5000 (.b 5000 (.b 5000 (.c 5000 (.b 5000 (.d 5000 5000 (.b 5000 (.c 5000 (.b 5000 (.d 5000 5000 (.b 5000 (.c 5000 (.k 0 [] [] [12701] [12701] (.b 12701 (.b 12701 (.a (.a (.b 12701 Q4o))))))))))))))))))))))))),(18,.lp [0,3,4,35,36] [5000,5001,5002,5003,5004,5005,5006,5007,5008,5009,12701] ⟨[(6,Qg),(37,Qg)],[]⟩ [(.x 0,Qj1)]),(26,.jn [37] [] [(.n,Qj1)])] func31⟩
def Q7w:V:=⟨⟨29,⟨Qh4,[(5000,.var 69 Sx),(5001,.var 84 (.ag (sL [By,Sw,Zn,D6,Nl,.ag (sL [Yk,Qg,Q0,Qum,Qcj,Qe4,Qh5]),Qg,Jwm]))),(5002,Ef),(5003,As),(5004,D8),(5005,Zv),(5006,Zd),(5007,Ut)]⟩,[⟨Qqv,[(5001,J49),(1,zs6),(2,zs7),(3,zs8),(4,Zv),(5,Zd),(6,Ut)]⟩],u26 (Qgs N),[5000,5005]⟩,kF N [Qs4,Qs8] [] func29⟩
def Qvt:V:=⟨⟨24,⟨[(0,.f 29 Quk),(1,.p 5008 [])],[(5000,.var 69 Sx),(5001,.var 84 (.ag (sL [By,Sw,Zn,D6,Nl,.ag (sL [Yk,Qg,Q0,Qum,Qcj,Qe4,Qh5]),Qg,Jwm]))),(5002,Ef),(5003,As),(5004,D8),(5005,Zv),(5006,Zd),(5007,Ut),(5008,Qul)]⟩,[⟨[],[(5001,.var 84 (.ag (sL [By,Jdr,Zn,D6,Nl,.ag (sL [Yk,Qg,Q0,Qum,J45,.d (.sl Wt),.d (.sl V8)]),Qg,Q4t]))),(5008,Qul),(1,Zv),(2,Zd),(3,Ut)]⟩],u27 (Kc N),[5000]⟩,kF N [Q7w] [(3,.rg (.n 1 Qbo))] func24⟩
def Qs9:V:=⟨⟨119,Zc,[Qza],u2 (Fh N),[]⟩,kF N [Qfd,Tb] [] func119⟩
def Qfg:V:=⟨⟨60,Jwq,[Yp],u20 (W6 N),[5000,5001,5002,5003]⟩,kF N [Qs9] [(3,.an (.dr 10 Q4s Jmy))] func60⟩
def L8:V:=⟨⟨118,J3c,[Yp],u2 (Un N),[]⟩,kF N [] [(6,.lp [22] [2,3] ⟨[(23,Qg)],[]⟩ Qsr)] func118⟩
def Q1w:V:=⟨⟨59,J3d,[Q4p],u4 (P1 N),[]⟩,kF N [L8] [(8,.lp [9,16,17] [9] ⟨[(8,L4),(18,Qg)],[(100000,Q4q)]⟩ J3e)] func59⟩
def Qzw:V:=⟨⟨63,J3f,[(sD [Qaa])],u5 (Ae N),[]⟩,kF N [Qbf] [(17,.an (.dr 9 (.n 9 .done) Vn))] func63⟩
def Qo7:V:=⟨⟨343,Yp,[Yp],Yy N,[]⟩,kF N [] [] func343⟩
def Qm5:V:=⟨⟨344,P7,[Yp],Yf N,[]⟩,kF N [] [(7,.jn [3] [] Jv3),(33,.jn [3] [] [(.n,⟨[(11,Q0)],[]⟩)])] func344⟩
def Qo8:V:=⟨⟨345,(sD [.i,.arr 2 .i]),[Zc],u2 (V2 N),[]⟩,kF N [] [(3,.an (.dr 6 Qqt .done)),(7,.jn [] [3] [(.n,⟨[(8,Qg),(9,Q0)],[]⟩)]),(15,.jn [6,7,8,14] [] [(.n,Jmf)]),(23,.jn [6,7,8,14] [] [(.n,⟨[(34,Q0)],[]⟩)]),(31,.jn [6,7,8] [] [(.n,Ju3)])] func345⟩
def Qbg(N n:Nat):Con:=⟨300,Jv1,[Zc],fun(x0,x1)=>Q3 N n x0 x1,[]⟩
theorem Qcp(N:Nat):∀n,KO (Qbg N n)
 | 0=>⟨F2 fun _=>rfl,L2 func300 rfl⟩
 | n+1=>have ih:=Qcp N n; kF N [Qo7,Qff,Qm5,fun _=>⟨_,ih⟩,Qo8] [(12,.an (.dc 6 [14,15,16,17,18,19] [2] [] (.b 2 (.c 2 (.k 0 [] [] [] [] (.b 2 (.c 2 Q4o))))))),(73,.lp [1,2,46,47] [2] ⟨[(7,L4),(48,Qg)],[(100000,Jnh)]⟩ [(.x 1,⟨[(7,Qa4)],[(100100,Jnh)]⟩),(.r,Jv2)])] func300
def Qzx:V:=⟨Qbg N N,Qcp N N⟩
def Qla:V:=⟨⟨231,Qzc,[Zc],Zf N,[]⟩,kF N [Qzx] [] func231⟩
def Bj(N n:Nat):Con:=⟨232,Qnp,[zs1],fun(x0,x1)=>Jp N n x0 x1,[]⟩
theorem Qvu(N n:Nat)(ih:KO (Bj N n)):KO ⟨301,J5a,[zs1],fun(x0,ca,ce)=>Vu N (Jp N n) x0 ca ce,[5000,5001]⟩:=kF N [fun _=>⟨_,ih⟩] [(3,.an (.dr 6 Qqt Qbo))] func301
def Jd0:V:=⟨⟨346,Qnp,[P7],u2 (Hj N),[]⟩,kF N [] [] func346⟩
def Q1x:V:=⟨⟨360,Yp,[Qh2],Gh N,[]⟩,kF N [] [] func360⟩
def Qta:V:=⟨⟨361,J3i,[Yp],u2 (Qa0 N),[]⟩,kF N [] [] func361⟩
def L9(N n:Nat):Con:=⟨347,Qnp,[Qh2],fun(x0,x1)=>Ua N n x0 x1,[]⟩
theorem Qtb(N n:Nat)(ih:KO (L9 N n)):KO ⟨362,J5a,[Qh2],fun(x0,ca,ce)=>X7 N (Ua N n) x0 ca ce,[5000,5001]⟩:=kF N [fun _=>⟨_,ih⟩] [(3,.an (.dc 9 [6,7,8,9,10,11,12,13,14] [] [5000,5001] (.b 5000 (.c 5000 (.a (.a (.a (.c 5001 (.k 0 [] [] [] [] J2l)))))))))] func362
def Jiz:V:=⟨⟨363,Zc,[Qh2],u2 (Qqn N),[]⟩,kF N [] [] func363⟩
def Qzy:V:=⟨⟨364,Zc,[Qh2],u2 (G5 N),[]⟩,kF N [] [] func364⟩
theorem Qfh(N:Nat):∀n,KO (L9 N n)
 | 0=>⟨F2 fun _=>rfl,L2 func347 rfl⟩
 | n+1=>have ih:=Qfh N n; kF N [Q1x,Qta,fun _=>⟨_,Qtb N n ih⟩,Jiz,Qzy] [(22,.rg (.n 1 (.call 2 Qu8))),(24,.rg (.n 1 (.call 2 Qu8))),(40,.jn [2,7] [2,3] [(.n,Qno),(.x 1,Qno),(.x 4,Qno)])] func347
def Q1y:V:=⟨L9 N N,Qfh N N⟩
def Qzz:V:=⟨⟨302,Qnp,[Qh2],u2 (Af N),[]⟩,kF N [Qla,Jd0,Q1y] [(9,.an (.dc 11 [24,25,26,27,28,29,30,31,32,33,34] [2,3] [] (.b 2 (.c 2 (.a (.a (.c 3 (.k 1 [] [] [] [] (.b 2 (.c 2 (.a (.a (.c 3 (.tl (.call 1 Q7n))))))))))))))),(30,.an (.dc 10 [45,46,47,48,49,50,44,51,52,10] [2,3] [] Jmx)),(32,.an (.dc 10 [54,55,56,57,58,59,53,60,61,12] [2,3] [] Jmx))] func302⟩
theorem Qbh(N:Nat):∀n,KO (Bj N n)
 | 0=>⟨F2 fun _=>rfl,L2 func232 rfl⟩
 | n+1=>have ih:=Qbh N n; kF N [fun _=>⟨_,Qvu N n ih⟩,Qzz] [(18,.rg (.n 1 Jmy)),(24,.rg (.n 1 (.call 0 (.n 1 (.sp 24 3 [5] [2,3] ⟨[(27,Q0)],[]⟩ Jme Qnn Vn))))),(30,.rg (.n 1 (.call 0 (.n 1 (.sp 32 3 [5] [2,3] Jml Qnn Jme Vn)))))] func232
def Qvv:V:=⟨Bj N N,Qbh N N⟩
def Q7x:V:=⟨⟨124,Qnp,[zs1],u2 (Qa1 N),[]⟩,kF N [Qla,Qvv] [] func124⟩
def Qo9:V:=⟨⟨123,⟨[(0,.d V8),(1,Fp)],[(5000,Jv0)]⟩,[zs1],u2 (Oq N),[5000]⟩,kF N [Q7x] [] func123⟩
def Qvw:V:=⟨⟨303,Q4r,[Zc],u3 (Qde N),[]⟩,kF N [] [(8,.lp [0,1,2] [] J3n [(.x 0,Jmz),(.r,⟨[(6,Qg),(7,Qg)],[]⟩)]),(20,.jn [10] [] [(.n,Jmz)])] func303⟩
def Qtc:V:=⟨⟨304,Yp,[Zc],Qa2 N,[]⟩,kF N [L6] [] func304⟩
def Qz0:V:=⟨⟨233,Q4r,[Zc],u3 (Qgt N),[]⟩,kF N [L6,Qvw,Qtc] [(13,.jn [0] [] J0d),(19,.jn [] [] J0d)] func233⟩
def Qtd:V:=⟨⟨125,Zc,[Zc],u2 (Qa3 N),[]⟩,kF N [Qz0] [] func125⟩
def Qte:V:=⟨⟨62,J3p,[⟨Jmu,[(1,Ut)]⟩],u3 (Fi N),[]⟩,kF N [Qo9,Qtd] [(20,.lp [9,24,25] [4] ⟨[(10,P5),(11,Qg),(26,Qg)],[(100000,Ut)]⟩ [(.x 0,⟨[(10,Qst),(11,Qg)],[(100300,Ut)]⟩),(.r,⟨[(6,.ns),(7,Qg),(8,Qg)],[]⟩)]),(28,.jn [26] [] [(.n,⟨[(10,Qdj),(11,Qg)],[(100100,Ut)]⟩),(.r,⟨[(6,.ns),(7,Qg),(8,Qg)],[]⟩)]),(33,.rg (.n 2 Qbo))] func62⟩
def Qlb:V:=⟨⟨33,Jwq,[⟨Qqv,[(5000,Jwr),(1,Zv),(2,Zd),(3,Ut)]⟩],u20 (G6 N),[]⟩,kF N [Qfg,Q1w,Qzt,Qzw,Qte] [(3,.an (.dc 19 [8,9,10,11,12,13,14,15,16,17,18,19,20,21,22,23,24,25,3] [5000,5001,5002,5003] [] (.b 5000 (.d 5000 5000 (.b 5000 (.b 5000 (.c 5000 (.b 5000 (.d 5000 5000 (.b 5000 (.b 5000 (.c 5000 (.b 5000 (.d 5000 5000 (.b 5000 (.b 5000 (.c 5000 (.b 5000 (.k 0 [] [5000,5001,5002,5003] [] [] (.k 1 [] [] [] [] Jz7)))))))))))))))))))),(5,.an (.dr 15 Jmd J6o)),(7,.an (.dc 34 [43,44,45,46,47,48,49,50,51,52,53,54,55,56,57,58,59,60,61,62,63,64,65,66,67,68,69,70,42,71,72,73,5,6] [5000,3] [] (.b 5000 (.d 5000 5000 (.b 5000 (.b 5000 (.c 5000 (.b 5000 (.d 5000 5000 (.b 5000 (.c 5000 (.b 5000 (.d 5000 5000 (.b 5000 (.b 5000 (.c 5000 (.a (.c 3 (.b 5000 (.d 5000 5000 (.b 5000 (.b 5000 (.c 5000 (.k 3 [] [] [] [] (.b 5000 (.d 5000 5000 (.b 5000 (.b 5000 (.c 5000 (.k 4 [] [] [17001] [17001] (.b 17001 (.b 17001 (.a (.a (.b 17001 Q4o)))))))))))))))))))))))))))))))))))] func33⟩
def Q7y:V:=⟨⟨32,J5b,[J5c],u20 (Qgu N),[5000]⟩,kF N [Qlb] [] func32⟩
def Qvx:V:=⟨⟨24,⟨[(0,.f 32 Quk),(1,.p 5005 [])],J5d⟩,[J5e],u21 (Ub N),[5000]⟩,kF N [Q7y] [(3,.rg (.n 1 Qbo))] func24⟩
def Qnq:V:=⟨⟨128,Jdj,[Yp],Qcg N,[]⟩,kF N [L7] [] func128⟩
def Qz1:V:=⟨⟨129,Qch,[Qch],u2 (Qgv N),[]⟩,kF N [L7,R0,Wl,Qnq] [] func129⟩
def Qm6:V:=⟨⟨127,⟨[(0,.s 5000)],Jvj⟩,[J4x],Ly N,[5000]⟩,kF N [] [(8,.lp [9,10] [] ⟨[(3,Jnc),(11,Qg)],[(100000,Qh3)]⟩ [(.x 0,⟨[(3,.m 100200)],[(100200,Qh3)]⟩)]),(16,.jn [11] [] [(.n,⟨[(3,Jnd)],[(100100,Qh3)]⟩)])] func127⟩
def Q1z:V:=⟨⟨64,J3q,[J3r],u4 (P3 N),[]⟩,kF N [Rz,Qm6,Qnq,Qz1] [] func64⟩
def Qvy:V:=⟨⟨234,Yp,[zs1],Qdf N,[]⟩,kF N [] [(6,.lp [0,5] [] Qj1 Qe2)] func234⟩
def Td:V:=⟨⟨131,Q4p,[zs1],Ea N,[]⟩,kF N [Qvy] [(3,.rg (.n 9 (.sp 11 4 [1] [1] ⟨[(15,Q0)],[]⟩ (.nl 2 Qbo) Me Q4n)))] func131⟩
def Qfi:V:=⟨⟨132,Q4p,[zs1],Fj N,[]⟩,kF N [] [] func132⟩
def Qvz:V:=⟨⟨130,J3s,[zs1],Qdg N,[]⟩,kF N [Td,Qfi,L8] [(6,.lp [0,5,6] [] Sv Qe2),(19,.rg (.n 1 (.call 0 (.n 2 (.sp 15 4 [3,4,7] [4] Q4g Me Que Q4s))))),(26,.jn [7] [4] [(.n,Jds)]),(26,.an (.dc 9 [30,31,32,33,34,35,36,37,38] [] [4] (.a (.a (.a (.so 32 (.a (.a (.a (.a (.a (.c 4 (.tl Qy7))))))) J36))))))] func130⟩
def Qv0:V:=⟨⟨133,⟨[(0,Fp),(1,Sx)],[(5000,.var 35 J3z),(5001,Q4q)]⟩,[Zc],u2 (Qdh N),[5000,5001]⟩,kF N [L8] [(6,.lp [0,1,6,7] [] Qu9 J38),(35,.an (.dr 6 Qqt .done))] func133⟩
def Q10:V:=⟨⟨65,J3x,[J3y],u2 (P4 N),[]⟩,kF N [Qvz,Td,Qfi,Qv0] [(4,.rg (.n 1 (.call 0 (.n 2 (.sp 14 4 [2,3] [2,3] Jc6 Me Que .done))))),(21,.rg (.n 1 (.call 3 Qu8))),(25,.jn [2,7,8] [2,3] [(.n,⟨[(9,Qa4)],[(100100,Q4q)]⟩)]),(29,.an (.dr 9 (.n 9 .done) Vn)),(30,.an (.dr 9 (.n 9 .done) Vn)),(43,.jn [2,8] [2,3,100100] [(.n,⟨[(10,Qa5)],[(100200,zs8)]⟩)])] func65⟩
def Qz2:V:=⟨⟨35,Jwq,[⟨Qqv,[(5000,.var 84 (.ag (sL [By,Jdr,Zn,D6,Nl,Qy6,Qg,Q4t]))),(1,Zv),(2,Zd),(3,Ut)]⟩],u20 (Te N),[]⟩,kF N [Q1z,Qfg,Q10] [(3,.an (.dc 27 [9,10,11,12,13,14,15,16,17,18,19,20,21,22,23,24,25,26,27,28,8,29,30,31,3,1000000025,4] [5000] [] (.b 5000 (.d 5000 5000 (.b 5000 (.c 5000 (.b 5000 (.d 5000 5000 (.b 5000 (.b 5000 (.c 5000 (.b 5000 (.d 5000 5000 (.b 5000 (.b 5000 (.c 5000 (.b 5000 (.d 5000 5000 (.b 5000 (.b 5000 (.c 5000 (.k 0 [] [] [12803,12802,12801] [12801,12802,12803] (.g [] [] [] [12801,12802,12803] (.g [] [] [] [12801,12802,12803] (.a (.a (.e 3 (.g [3] [12801,12802,12803] [] [3,12801,12802,12803] Q4o)))))))))))))))))))))))))))),(5,.gh (.fz 12803 (.dt 3 .done))),(5,.an (.dc 30 [33,34,35,36,37,38,39,40,41,42,43,44,45,46,47,48,49,50,51,52,53,54,55,56,57,58,32,59,60,6] [3,5000,5001,5002,5003] [] (.b 3 (.c 3 (.b 5000 (.d 5000 5000 (.b 5000 (.b 5000 (.c 5000 (.b 5000 (.d 5000 5000 (.b 5000 (.b 5000 (.c 5000 (.b 5000 (.k 1 [] [5000,5001,5002,5003] [] [] (.b 5000 (.d 5000 5000 (.b 5000 (.b 5000 (.c 5000 (.b 5000 (.d 5000 5000 (.b 5000 (.b 5000 (.c 5000 (.a (.k 2 [] [] [15801] [15801] (.b 15801 (.b 15801 (.a (.b 15801 Ej))))))))))))))))))))))))))))))))] func35⟩
def Q7z:V:=⟨⟨34,J5b,[J5c],u20 (Qgw N),[5000]⟩,kF N [Qz2] [] func34⟩
def Qv1:V:=⟨⟨24,⟨[(0,.f 34 Quk),(1,.p 5005 [])],J5d⟩,[J5e],u21 (Vq N),[5000]⟩,kF N [Q7z] [(3,.rg (.n 1 Qbo))] func24⟩
def Qpa:V:=⟨⟨9,Jm1,[⟨[(0,Jdr),(1,Q4t)],J5f⟩],u3 (Lz N),[]⟩,kF N [Q7p,Q7r,Qve,Qvt,Qvx,Qv1] [(7,.an (.dc 5 [18,19,20,21,1000000004] [4,5,6] [] (.c 4 (.k 0 [] [] [11903,11902,11901] [11901,11902,11903] (.c 5 (.a (.g [6] [11901,11902,11903] [] [6,11901,11902,11903] Ej))))))),(17,.rg (.n 2 (.call 1 .done))),(19,.rg (.n 2 (.call 2 .done))),(21,.rg (.n 2 (.call 3 .done))),(23,.rg Jwo),(25,.rg (.n 2 (.call 5 .done))),(31,.an (.dc 6 [47,48,49,50,51,1000000005] [4,5,9,6] [] (.c 4 (.k 0 [] [] [14803,14802,14801] [14801,14802,14803] (.c 5 (.c 9 (.a (.g [6] [14801,14802,14803] [] [6,14801,14802,14803] Ej)))))))),(35,.an (.dc 9 [52,53,54,55,56,57,58,59,1000000008] [8,28,6] [] (.d 8 28 (.d 28 28 (.b 28 (.c 28 (.d 8 28 (.d 28 28 (.b 28 (.g [] [28] [] [14401,14402,14403] Jv5))))))))))] func9⟩
def Q70:V:=⟨⟨15,Jm1,[⟨[(0,Q4t)],J5f⟩],u3 (Qy1 N),[]⟩,kF N [Qpa] [] func15⟩
def Q71:V:=⟨⟨46,Jmv,[zs1],Qy2 N,[]⟩,kF N [] [] func46⟩
def Q11:V:=⟨⟨47,Q4r,[zs1],u3 (D5 N),[]⟩,kF N [] [] func47⟩
def Q72:V:=⟨⟨48,Jmv,[Zc],Qy3 N,[]⟩,kF N [] [(8,.lp [1,5,11,12] [1] ⟨[(4,Qg),(13,Qg)],[]⟩ [(.x 0,Q7l)]),(25,.lp [4,23,24] [1] ⟨[(5,Qg),(25,Qg)],[]⟩ [(.x 2,Fn)])] func48⟩
def Q73:V:=⟨⟨21,Jmv,[zs1],Qoj N,[]⟩,kF N [Q71,Q11,Q72] [(12,.rg (.n 17 (.sp 45 5 [1] [1] Jvu Zb Qug .done))),(24,.lp [1,3,4,54,55] [1] ⟨[(56,Qg)],[]⟩ Qe2),(47,.lp [1,4,66,67] [1] ⟨[(3,Qg),(68,Qg)],[]⟩ [(.x 2,D7),(.r,⟨[(2,Q0)],[]⟩)]),(60,.rg (.n 2 (.call 1 (.n 2 (.sp 76 5 [3,8,68] [8] ⟨[(81,Q0)],[]⟩ Zb Qug .done))))),(80,.lp [1,3,101,102] [1] ⟨[(4,Qg),(103,Qg)],[]⟩ [(.x 4,Q7l),(.r,⟨[(2,Q0)],[]⟩)])] func21⟩
def Qlc:V:=⟨⟨7,(sD []),[zs1],fun _=>U9 N,[]⟩,kF N [Qhc,Qpa,Q70,Q73] [(5,.an (.dc 10 [7,8,9,10,6,11,12,2,3,1000000009] [1] [] (.k 0 [] [] [] [] (.a (.c 1 (.k 1 [] [] [11003,11002,11001] [11001,11002,11003] (.g [] [] [] [11001,11002,11003] (.a (.g [] [] [] [11001,11002,11003] (.e 2 (.e 3 (.f 2 2 Ej)))))))))))),(9,.an (.dc 5 [14,15,16,17,4] [2,1] [] (.k 0 [] [] [] [] (.c 2 (.c 1 (.k 2 [] [] [11703,11702,11701] [11701,11702,11703] (.e 4 Ej))))))),(19,.rg (.n 4 (.sp 43 7 [2,3,4] [1,2,3,4,11001,11002,11003,11701,11702,11703] Jvu Ry Ry (.n 1 (.sp 51 7 [2,3,4] [1,2,3,4,11001,11002,11003,11701,11702,11703] ⟨[(58,Q0)],[]⟩ Ry Ry (.n 21 (.sp 79 7 [2,3,4] [1,2,3,4,11001,11002,11003,11701,11702,11703] ⟨[(86,Q0)],[]⟩ Ry Ry (.n 1 (.sp 87 7 [2,3,4] [1,2,3,4,11001,11002,11003,11701,11702,11703] ⟨[(94,Q0)],[]⟩ Ry Ry (.n 6 (.fz 11001 (.fz 11002 (.fz 11003 (.sp 100 3 [3,4] [1,2,3,4,11001,11002,11003,11701,11702,11703] ⟨[(103,Q0)],[]⟩ (.nl 1 Jmk) Qnn (.n 1 (.fz 11701 (.fz 11702 (.fz 11703 (.sp 104 3 [4] [1,2,3,4,11001,11002,11003,11701,11702,11703] ⟨[(107,Q0)],[]⟩ (.nl 1 Jmk) Qnn Vn)))))))))))))))))))] func7⟩
def Qm7:V:=⟨⟨49,(sD [J3,J3]),[zs1],u2 (L0 N),[]⟩,kF N [] [] func49⟩
def Qpb:V:=⟨⟨22,(sD [.sl J3,J3]),[⟨Qdi,[(1,Jnj)]⟩],u2 (Or N),[]⟩,kF N [Qm7] [(6,.lp [0,3] [3] Fn Jc5),(9,.jn [5] [] [(.n,Q4g)]),(9,.an (.dc 10 [7,8,9,10,11,12,13,14,15,16] [] [3] (.a (.a (.a (.a (.a (.so 11 (.c 3 J34) J35))))))))] func22⟩
def Qld:V:=⟨⟨8,(sD [.sl J3]),[⟨Qdi,[(1,Jnj)]⟩],Dh N,[]⟩,kF N [Qpb] [(8,.lp [0] [] ⟨Jdi,[(100000,Jnj)]⟩ [(.x 0,⟨Jmc,[(100100,Jnj)]⟩)])] func8⟩
def Hg(N n:Nat):Con:=⟨66,Qzc,[Qzc],fun x0=>Yj N n x0,[]⟩
theorem Eh(N:Nat):∀n,KO (Hg N n)
 | 0=>⟨F2 fun _=>rfl,L2 func66 rfl⟩
 | n+1=>have ih:=Eh N n; kF N [fun _=>⟨_,ih⟩] [(8,.lp [1,2] [1,2] ⟨Jz8,[(100000,.var 155 (.ag (sL [Qg,Qg,Yk,Qsq]))),(100001,Jnb)]⟩ [(.x 0,⟨Juv,[(100100,.var 155 (.ag (sL [Qg,Qg,Yk,Qy4]))),(100101,Jnb)]⟩)]),(17,.an (.dc 9 [19,20,21,22,23,24,25,26,27] [100000] [1] (.b 100000 (.d 100000 100001 (.b 1 (.c 1 (.a (.a (.a (.k 0 [] [] [] [] Ju5))))))))))] func66
def Qdu:V:=⟨Hg N N,Eh N N⟩
def Qbi:V:=⟨⟨36,Jdt,[⟨[(0,Jdv)],Jwj⟩],X8 N,[]⟩,kF N [Qdu] [(8,.lp [1,2] [1,2] ⟨Jz8,J4l⟩ J4m),(17,.an (.dc 18 [24,25,26,27,28,29,30,31,32,33,34,35,36,37,38,39,40,41] [100000] [1] (.b 100000 (.d 100000 100001 (.b 1 (.c 1 (.a (.a (.a (.a (.e 32 (.b 1 (.c 1 (.a (.a (.a (.a (.g [32] [] [39] [39] (.b 39 (.op ⟨.fz 39 (.nl 1 .done),[39],[],[],[39]⟩ Qu7)))))))))))))))))))),(23,.lp [1,2] [1,2] ⟨[(3,Qdk),(5,Qg)],J4n⟩ J4o),(32,.an (.dc 18 [51,52,53,54,55,56,57,58,59,60,61,62,63,64,65,66,67,68] [100200] [1] (.b 100200 (.d 100200 100202 (.b 1 (.c 1 (.a (.a (.a (.a (.e 59 (.b 1 (.c 1 (.a (.a (.a (.a (.g [59] [] [66] [66] (.b 66 (.op ⟨.fz 66 (.nl 1 .done),[66],[],[],[66]⟩ Qu7)))))))))))))))))))),(38,.lp [1,2] [1,2] ⟨[(3,Qqo),(6,Qg)],J4p⟩ J4q),(51,.rg (.n 3 (.fz 86 Q1p))),(57,.lp [1,2] [1,2] ⟨[(3,Jdd),(8,Qg)],J4r⟩ J4s)] func36⟩
def Qdv:V:=⟨⟨10,(sD [Xd]),[⟨[(0,.ag (sL [zs3,zs4,.s 3,.s 4,.s 5,.s 6]))],[(1,Qzf),(2,Qzg),(3,Qqw),(4,Qzh),(5,G7),(6,Jws)]⟩],Z9 N,[]⟩,kF N [Qbi] [(3,.an (.dc 14 [11,12,13,14,15,16,17,18,19,20,21,22,23,3] [1] [] (.e 11 (.b 1 (.c 1 (.g [11] [] [14] [14] (.e 15 (.b 1 (.c 1 (.g [15] [] [18] [18] (.e 19 (.b 1 (.c 1 (.g [19] [] [22] [22] (.g [] [] [] [14,18,22] Jz7))))))))))))))),(8,.lp [1,2] [1,2] ⟨Jz8,[(100000,.var 29 (.ag (sL [Qsq,Jz9,.ns,J6f,.s 100004,.ns]))),(100001,Qzf),(100002,Qzg),(100003,Qzh),(100004,G7)]⟩ [(.x 0,⟨Juv,[(100100,.var 29 (.ag (sL [Qy4,Juw,.ns,J0a,.s 100104,.ns]))),(100101,Qzf),(100102,Qzg),(100103,Qzh),(100104,G7)]⟩)]),(17,.an (.dc 9 [31,32,33,34,35,36,37,38,39] [100000] [1] (.b 100000 (.d 100000 100002 (.b 1 (.c 1 (.a (.a (.a (.k 0 [] [] [13804,13803,13802,13801] [13801,13802,13803,13804] (.op ⟨.fz 13801 (.fz 13802 (.fz 13803 (.fz 13804 (.nl 1 .done)))),[13801,13802,13803,13804],[],[],[13801,13802,13803,13804]⟩ Qu7))))))))))),(23,.lp [1,2] [1,2] ⟨[(3,Qdk),(5,Qg)],[(100200,.var 29 (.ag (sL [Qu6,Juz,J6m,.s 100204,.s 100205,.ns]))),(100201,Qzf),(100202,Qzg),(100203,Qqw),(100204,Qzh),(100205,G7)]⟩ [(.x 2,⟨[(3,Jdc)],[(100500,.var 29 (.ag (sL [Q4d,Jmo,.s 100503,.s 100504,.s 100505,.ns]))),(100501,Qzf),(100502,Qzg),(100503,Qqw),(100504,Qzh),(100505,G7)]⟩)]),(40,.lp [3,5] [100200,100201,100202,100203,100204,100205] ⟨[(6,P6),(7,Qg)],[(100300,.var 90 (.ag (sL [Yk,Qg,Qg,Yk,Q0,Quf]))),(100301,Q4x)]⟩ [(.x 4,⟨[(6,Qqo)],[(100400,.var 90 (.ag (sL [Yk,Qg,Qg,Yk,Q0,Q4c]))),(100401,Q4x)]⟩)]),(53,.rg (.n 3 (.fz 78 Q1p))),(55,.rg (.n 3 (.fz 100401 Q1p))),(61,.lp [1,2] [1,2] ⟨[(3,Jdd),(9,Qg)],[(100600,.var 29 (.ag (sL [Q4f,Jmn,Jwk,.s 100604,.s 100605,.s 100606]))),(100601,Qzf),(100602,Qzg),(100603,Qqw),(100604,Qzh),(100605,G7),(100606,Jws)]⟩ [(.x 6,⟨[(3,Jl3)],[(100700,.var 29 (.ag (sL [Q4e,Jmm,Jwl,.s 100704,.s 100705,.s 100706]))),(100701,Qzf),(100702,Qzg),(100703,Qqw),(100704,Qzh),(100705,G7),(100706,Jws)]⟩)]),(74,.rg (.n 3 (.fz 107 Q1p)))] func10⟩
def Qbs:V:=⟨⟨39,Qzb,[zs1],u2 (W7 N),[]⟩,kF N [] [(14,.lp [2,3] [2,3] Fn Qid),(24,.an (.dr 11 Q4n .done))] func39⟩
def Qdw:V:=⟨⟨13,(sD [Zw,Zw]),[zs1],u2 (Uj N),[]⟩,kF N [Qbs] [(14,.lp [2,3] [2,3] Fn Qid),(24,.an (.dr 10 Q4s Qbo)),(35,.lp [2,3] [2,3] Qj1 Jv7),(45,.an (.dr 11 Q4n .done)),(56,.lp [2,3] [2,3] Sv Jv8),(66,.an (.dr 11 Q4n .done))] func13⟩
def Qhf:V:=⟨⟨16,(sD [Zw,J3]),[Jc4],u2 (V3 N),[]⟩,kF N [] [(8,.lp [2,3,4] [2,3,4] ⟨J6n,[(100000,.var 37 (.ag (sL [Qsq,.ns,.ns]))),(100001,zs6)]⟩ [(.x 0,⟨[(5,Qdk)],[(100200,.var 37 (.ag (sL [Qu6,.ns,.ns]))),(100201,zs6)]⟩)]),(16,.jn [6] [] [(.n,⟨[(5,Qa4)],[(100100,.var 37 (.ag (sL [Qy4,.ns,.ns]))),(100101,zs6)]⟩)]),(18,.an (.dr 9 (.n 9 .done) .done)),(20,.an (.dc 8 [26,27,28,29,30,31,32,33] [100000] [2] (.b 100000 (.d 100000 100001 Jwt)))),(27,.lp [2,3,4] [2,3,4] ⟨[(5,P6),(7,Qg)],[(100300,.var 37 (.ag (sL [Quf,Q4b,.ns]))),(100301,zs6),(100302,zs7)]⟩ [(.x 2,⟨[(5,Jdc)],[(100500,.var 37 (.ag (sL [Q4d,Jmo,.ns]))),(100501,zs6),(100502,zs7)]⟩)]),(35,.jn [7] [] [(.n,⟨[(5,Qqo)],[(100400,.var 37 (.ag (sL [Q4c,Jl2,.ns]))),(100401,zs6),(100402,zs7)]⟩)]),(37,.an (.dr 9 (.n 9 .done) .done)),(39,.an (.dc 8 [52,53,54,55,56,57,58,59] [100300] [2] (.b 100300 (.d 100300 100302 Jwt)))),(46,.lp [2,3,4] [2,3,4] ⟨[(5,Jdd),(8,Qg)],[(100600,.var 37 (.ag (sL [Q4f,Jmn,Jwk]))),(100601,zs6),(100602,zs7),(100603,zs8)]⟩ [(.x 4,⟨[(5,Ju6)],[(100800,.var 37 (.ag (sL [Ju7,.s 100802,.s 100803]))),(100801,zs6),(100802,zs7),(100803,zs8)]⟩)]),(54,.jn [8] [] [(.n,⟨[(5,Jl3)],[(100700,.var 37 (.ag (sL [Q4e,Jmm,Jwl]))),(100701,zs6),(100702,zs7),(100703,zs8)]⟩)]),(56,.an (.dr 9 (.n 9 .done) .done)),(58,.an (.dc 8 [78,79,80,81,82,83,84,85] [100600] [2] (.b 100600 (.d 100600 100603 Jwt))))] func16⟩
def B5:V:=⟨⟨5,J4b,[zs1],u2 (Ka N),[]⟩,kF N [Qmy,Qlc,Qld,Qdv,P9,Qpa,Qhf,Qdw,Qov] [(18,.lp [2,6] [2,11701] ⟨[(5,L4),(7,Qg)],[(100000,.var 37 Jdr)]⟩ Qid),(28,.an (.dc 15 [25,26,27,28,29,30,31,32,33,24,34,35,8,9,1000000014] [100000] [2,11701] (.c 2 (.k 3 [] [] [12606,12605,12604,12603,12602,12601] [12601,12602,12603,12604,12605,12606] (.c 100000 (.k 4 [] [] [12803,12802,12801] [12801,12802,12803] (.b 11701 (.a (.d 11701 11701 (.c 11701 (.k 5 [12601,12602,12603,12604,12605,12606,12801,12802,12803] [] [13303,13302,13301] [12601,12602,12603,12604,12605,12606,12801,12802,12803,13301,13302,13303] (.g [] [] [] [13301,13302,13303] (.a (.g [] [] [] [13301,13302,13303] (.e 8 (.e 9 (.f 8 8 Ej))))))))))))))))),(31,.an (.dc 11 [36,37,38,39,40,41,42,43,44,45,46] [8,100000] [11701] (.c 8 (.b 11701 (.a (.d 11701 11701 (.c 11701 (.k 6 [] [] [14103,14102,14101] [14101,14102,14103] (.c 100000 (.b 11701 (.a (.d 11701 11701 (.c 11701 (.tl (.call 6 (.call 7 Vn)))))))))))))))),(37,.an (.dc 11 [51,52,53,54,55,56,57,50,58,59,1000000010] [100000] [2,11701] (.c 2 (.c 100000 (.b 11701 (.a (.d 11701 11701 (.c 11701 (.k 8 [] [] [15703,15702,15701] [15701,15702,15703] (.g [] [] [] [15701,15702,15703] (.a (.g [] [] [] [15701,15702,15703] (.f 100000 100000 Jwi)))))))))))))] func5⟩
end Gx
