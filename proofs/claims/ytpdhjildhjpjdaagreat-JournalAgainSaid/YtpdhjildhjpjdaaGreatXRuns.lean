/- The interpreter gives these functions. -/
import Derived.Test.YtpdhjildhjpjdaaGreatXFns
import Derived.Test.YtpdhjildhjpjdaaGreatProg
import Derived.Test.YtpdhjildhjpjdaaGreatXRo
import Derived.Test.YtpdhjildhjpjdaaGreatXShelf
namespace Gx
open Go Gd Go.Proofs Tryz
set_option linter.unusedVariables false
def HT.a(r:HT):HT:=.op ⟨.nl 1 .done,[],[],[],[]⟩ r
def HT.b(x:Nat)(r:HT):HT:=.op ⟨.nl 1 .done,[],[],[],[x]⟩ r
def HT.c(x:Nat)(r:HT):HT:=.op ⟨.nl 1 .done,[],[x],[],[]⟩ r
def HT.d(x y:Nat)(r:HT):HT:=.op ⟨.nl 1 .done,[],[x],[],[y]⟩ r
def HT.e(x:Nat)(r:HT):HT:=.op ⟨.nl 1 .done,[],[],[x],[x]⟩ r
def HT.f(x y:Nat)(r:HT):HT:=.op ⟨.nl 1 .done,[x],[],[],[y]⟩ r
def HT.g(a b c d:List Nat)(r:HT):HT:=.op ⟨.nl 1 .done,a,b,c,d⟩ r
def HT.k(n:Nat)(a b c d:List Nat)(r:HT):HT:=.op ⟨.call n .done,a,b,c,d⟩ r
def u2{α0 α1 β:Type}(f:α0→α1→β)(p:α0×α1):β:=f p.1 p.2
def u3{α0 α1 α2 β:Type}(f:α0→α1→α2→β)(p:α0×α1×α2):β:=f p.1 p.2.1 p.2.2
def u4{α0 α1 α2 α3 β:Type}(f:α0→α1→α2→α3→β)(p:α0×α1×α2×α3):β:=f p.1 p.2.1 p.2.2.1 p.2.2.2
def u5{α0 α1 α2 α3 α4 β:Type}(f:α0→α1→α2→α3→α4→β)(p:α0×α1×α2×α3×α4):β:=f p.1 p.2.1 p.2.2.1 p.2.2.2.1 p.2.2.2.2
def u6{α0 α1 α2 α3 α4 α5 β:Type}(f:α0→α1→α2→α3→α4→α5→β)(p:α0×α1×α2×α3×α4×α5):β:=f p.1 p.2.1 p.2.2.1 p.2.2.2.1 p.2.2.2.2.1 p.2.2.2.2.2
def u7{α0 α1 α2 α3 α4 α5 α6 β:Type}(f:α0→α1→α2→α3→α4→α5→α6→β)(p:α0×α1×α2×α3×α4×α5×α6):β:=f p.1 p.2.1 p.2.2.1 p.2.2.2.1 p.2.2.2.2.1 p.2.2.2.2.2.1 p.2.2.2.2.2.2
def u8{α0 α1 α2 α3 α4 α5 α6 α7 β:Type}(f:α0→α1→α2→α3→α4→α5→α6→α7→β)(p:α0×α1×α2×α3×α4×α5×α6×α7):β:=f p.1 p.2.1 p.2.2.1 p.2.2.2.1 p.2.2.2.2.1 p.2.2.2.2.2.1 p.2.2.2.2.2.2.1 p.2.2.2.2.2.2.2
def u9{α0 α1 α2 α3 α4 α5 α6 α7 α8 β:Type}(f:α0→α1→α2→α3→α4→α5→α6→α7→α8→β)(p:α0×α1×α2×α3×α4×α5×α6×α7×α8):β:=f p.1 p.2.1 p.2.2.1 p.2.2.2.1 p.2.2.2.2.1 p.2.2.2.2.2.1 p.2.2.2.2.2.2.1 p.2.2.2.2.2.2.2.1 p.2.2.2.2.2.2.2.2
def u14{α0 α1 α2 α3 α4 α5 α6 α7 α8 α9 α10 α11 α12 α13 β:Type}(f:α0→α1→α2→α3→α4→α5→α6→α7→α8→α9→α10→α11→α12→α13→β)(p:α0×α1×α2×α3×α4×α5×α6×α7×α8×α9×α10×α11×α12×α13):β:=f p.1 p.2.1 p.2.2.1 p.2.2.2.1 p.2.2.2.2.1 p.2.2.2.2.2.1 p.2.2.2.2.2.2.1 p.2.2.2.2.2.2.2.1 p.2.2.2.2.2.2.2.2.1 p.2.2.2.2.2.2.2.2.2.1 p.2.2.2.2.2.2.2.2.2.2.1 p.2.2.2.2.2.2.2.2.2.2.2.1 p.2.2.2.2.2.2.2.2.2.2.2.2.1 p.2.2.2.2.2.2.2.2.2.2.2.2.2
def u15{α0 α1 α2 α3 α4 α5 α6 α7 α8 α9 α10 α11 α12 α13 α14 β:Type}(f:α0→α1→α2→α3→α4→α5→α6→α7→α8→α9→α10→α11→α12→α13→α14→β)(p:α0×α1×α2×α3×α4×α5×α6×α7×α8×α9×α10×α11×α12×α13×α14):β:=f p.1 p.2.1 p.2.2.1 p.2.2.2.1 p.2.2.2.2.1 p.2.2.2.2.2.1 p.2.2.2.2.2.2.1 p.2.2.2.2.2.2.2.1 p.2.2.2.2.2.2.2.2.1 p.2.2.2.2.2.2.2.2.2.1 p.2.2.2.2.2.2.2.2.2.2.1 p.2.2.2.2.2.2.2.2.2.2.2.1 p.2.2.2.2.2.2.2.2.2.2.2.2.1 p.2.2.2.2.2.2.2.2.2.2.2.2.2.1 p.2.2.2.2.2.2.2.2.2.2.2.2.2.2
def u16{α0 α1 α2 α3 α4 α5 α6 α7 α8 α9 α10 α11 α12 α13 α14 α15 β:Type}(f:α0→α1→α2→α3→α4→α5→α6→α7→α8→α9→α10→α11→α12→α13→α14→α15→β)(p:α0×α1×α2×α3×α4×α5×α6×α7×α8×α9×α10×α11×α12×α13×α14×α15):β:=f p.1 p.2.1 p.2.2.1 p.2.2.2.1 p.2.2.2.2.1 p.2.2.2.2.2.1 p.2.2.2.2.2.2.1 p.2.2.2.2.2.2.2.1 p.2.2.2.2.2.2.2.2.1 p.2.2.2.2.2.2.2.2.2.1 p.2.2.2.2.2.2.2.2.2.2.1 p.2.2.2.2.2.2.2.2.2.2.2.1 p.2.2.2.2.2.2.2.2.2.2.2.2.1 p.2.2.2.2.2.2.2.2.2.2.2.2.2.1 p.2.2.2.2.2.2.2.2.2.2.2.2.2.2.1 p.2.2.2.2.2.2.2.2.2.2.2.2.2.2.2
def u18{α0 α1 α2 α3 α4 α5 α6 α7 α8 α9 α10 α11 α12 α13 α14 α15 α16 α17 β:Type}(f:α0→α1→α2→α3→α4→α5→α6→α7→α8→α9→α10→α11→α12→α13→α14→α15→α16→α17→β)(p:α0×α1×α2×α3×α4×α5×α6×α7×α8×α9×α10×α11×α12×α13×α14×α15×α16×α17):β:=f p.1 p.2.1 p.2.2.1 p.2.2.2.1 p.2.2.2.2.1 p.2.2.2.2.2.1 p.2.2.2.2.2.2.1 p.2.2.2.2.2.2.2.1 p.2.2.2.2.2.2.2.2.1 p.2.2.2.2.2.2.2.2.2.1 p.2.2.2.2.2.2.2.2.2.2.1 p.2.2.2.2.2.2.2.2.2.2.2.1 p.2.2.2.2.2.2.2.2.2.2.2.2.1 p.2.2.2.2.2.2.2.2.2.2.2.2.2.1 p.2.2.2.2.2.2.2.2.2.2.2.2.2.2.1 p.2.2.2.2.2.2.2.2.2.2.2.2.2.2.2.1 p.2.2.2.2.2.2.2.2.2.2.2.2.2.2.2.2.1 p.2.2.2.2.2.2.2.2.2.2.2.2.2.2.2.2.2
def u26{α0 α1 α2 α3 α4 α5 α6 α7 α8 α9 α10 α11 α12 α13 α14 α15 α16 α17 α18 α19 α20 α21 α22 α23 α24 α25 β:Type}(f:α0→α1→α2→α3→α4→α5→α6→α7→α8→α9→α10→α11→α12→α13→α14→α15→α16→α17→α18→α19→α20→α21→α22→α23→α24→α25→β)(p:α0×α1×α2×α3×α4×α5×α6×α7×α8×α9×α10×α11×α12×α13×α14×α15×α16×α17×α18×α19×α20×α21×α22×α23×α24×α25):β:=f p.1 p.2.1 p.2.2.1 p.2.2.2.1 p.2.2.2.2.1 p.2.2.2.2.2.1 p.2.2.2.2.2.2.1 p.2.2.2.2.2.2.2.1 p.2.2.2.2.2.2.2.2.1 p.2.2.2.2.2.2.2.2.2.1 p.2.2.2.2.2.2.2.2.2.2.1 p.2.2.2.2.2.2.2.2.2.2.2.1 p.2.2.2.2.2.2.2.2.2.2.2.2.1 p.2.2.2.2.2.2.2.2.2.2.2.2.2.1 p.2.2.2.2.2.2.2.2.2.2.2.2.2.2.1 p.2.2.2.2.2.2.2.2.2.2.2.2.2.2.2.1 p.2.2.2.2.2.2.2.2.2.2.2.2.2.2.2.2.1 p.2.2.2.2.2.2.2.2.2.2.2.2.2.2.2.2.2.1 p.2.2.2.2.2.2.2.2.2.2.2.2.2.2.2.2.2.2.1 p.2.2.2.2.2.2.2.2.2.2.2.2.2.2.2.2.2.2.2.1 p.2.2.2.2.2.2.2.2.2.2.2.2.2.2.2.2.2.2.2.2.1 p.2.2.2.2.2.2.2.2.2.2.2.2.2.2.2.2.2.2.2.2.2.1 p.2.2.2.2.2.2.2.2.2.2.2.2.2.2.2.2.2.2.2.2.2.2.1 p.2.2.2.2.2.2.2.2.2.2.2.2.2.2.2.2.2.2.2.2.2.2.2.1 p.2.2.2.2.2.2.2.2.2.2.2.2.2.2.2.2.2.2.2.2.2.2.2.2.1 p.2.2.2.2.2.2.2.2.2.2.2.2.2.2.2.2.2.2.2.2.2.2.2.2.2
def u27{α0 α1 α2 α3 α4 α5 α6 α7 α8 α9 α10 α11 α12 α13 α14 α15 α16 α17 α18 α19 α20 α21 α22 α23 α24 α25 α26 β:Type}(f:α0→α1→α2→α3→α4→α5→α6→α7→α8→α9→α10→α11→α12→α13→α14→α15→α16→α17→α18→α19→α20→α21→α22→α23→α24→α25→α26→β)(p:α0×α1×α2×α3×α4×α5×α6×α7×α8×α9×α10×α11×α12×α13×α14×α15×α16×α17×α18×α19×α20×α21×α22×α23×α24×α25×α26):β:=f p.1 p.2.1 p.2.2.1 p.2.2.2.1 p.2.2.2.2.1 p.2.2.2.2.2.1 p.2.2.2.2.2.2.1 p.2.2.2.2.2.2.2.1 p.2.2.2.2.2.2.2.2.1 p.2.2.2.2.2.2.2.2.2.1 p.2.2.2.2.2.2.2.2.2.2.1 p.2.2.2.2.2.2.2.2.2.2.2.1 p.2.2.2.2.2.2.2.2.2.2.2.2.1 p.2.2.2.2.2.2.2.2.2.2.2.2.2.1 p.2.2.2.2.2.2.2.2.2.2.2.2.2.2.1 p.2.2.2.2.2.2.2.2.2.2.2.2.2.2.2.1 p.2.2.2.2.2.2.2.2.2.2.2.2.2.2.2.2.1 p.2.2.2.2.2.2.2.2.2.2.2.2.2.2.2.2.2.1 p.2.2.2.2.2.2.2.2.2.2.2.2.2.2.2.2.2.2.1 p.2.2.2.2.2.2.2.2.2.2.2.2.2.2.2.2.2.2.2.1 p.2.2.2.2.2.2.2.2.2.2.2.2.2.2.2.2.2.2.2.2.1 p.2.2.2.2.2.2.2.2.2.2.2.2.2.2.2.2.2.2.2.2.2.1 p.2.2.2.2.2.2.2.2.2.2.2.2.2.2.2.2.2.2.2.2.2.2.1 p.2.2.2.2.2.2.2.2.2.2.2.2.2.2.2.2.2.2.2.2.2.2.2.1 p.2.2.2.2.2.2.2.2.2.2.2.2.2.2.2.2.2.2.2.2.2.2.2.2.1 p.2.2.2.2.2.2.2.2.2.2.2.2.2.2.2.2.2.2.2.2.2.2.2.2.2.1 p.2.2.2.2.2.2.2.2.2.2.2.2.2.2.2.2.2.2.2.2.2.2.2.2.2.2
def u29{α0 α1 α2 α3 α4 α5 α6 α7 α8 α9 α10 α11 α12 α13 α14 α15 α16 α17 α18 α19 α20 α21 α22 α23 α24 α25 α26 α27 α28 β:Type}(f:α0→α1→α2→α3→α4→α5→α6→α7→α8→α9→α10→α11→α12→α13→α14→α15→α16→α17→α18→α19→α20→α21→α22→α23→α24→α25→α26→α27→α28→β)(p:α0×α1×α2×α3×α4×α5×α6×α7×α8×α9×α10×α11×α12×α13×α14×α15×α16×α17×α18×α19×α20×α21×α22×α23×α24×α25×α26×α27×α28):β:=f p.1 p.2.1 p.2.2.1 p.2.2.2.1 p.2.2.2.2.1 p.2.2.2.2.2.1 p.2.2.2.2.2.2.1 p.2.2.2.2.2.2.2.1 p.2.2.2.2.2.2.2.2.1 p.2.2.2.2.2.2.2.2.2.1 p.2.2.2.2.2.2.2.2.2.2.1 p.2.2.2.2.2.2.2.2.2.2.2.1 p.2.2.2.2.2.2.2.2.2.2.2.2.1 p.2.2.2.2.2.2.2.2.2.2.2.2.2.1 p.2.2.2.2.2.2.2.2.2.2.2.2.2.2.1 p.2.2.2.2.2.2.2.2.2.2.2.2.2.2.2.1 p.2.2.2.2.2.2.2.2.2.2.2.2.2.2.2.2.1 p.2.2.2.2.2.2.2.2.2.2.2.2.2.2.2.2.2.1 p.2.2.2.2.2.2.2.2.2.2.2.2.2.2.2.2.2.2.1 p.2.2.2.2.2.2.2.2.2.2.2.2.2.2.2.2.2.2.2.1 p.2.2.2.2.2.2.2.2.2.2.2.2.2.2.2.2.2.2.2.2.1 p.2.2.2.2.2.2.2.2.2.2.2.2.2.2.2.2.2.2.2.2.2.1 p.2.2.2.2.2.2.2.2.2.2.2.2.2.2.2.2.2.2.2.2.2.2.1 p.2.2.2.2.2.2.2.2.2.2.2.2.2.2.2.2.2.2.2.2.2.2.2.1 p.2.2.2.2.2.2.2.2.2.2.2.2.2.2.2.2.2.2.2.2.2.2.2.2.1 p.2.2.2.2.2.2.2.2.2.2.2.2.2.2.2.2.2.2.2.2.2.2.2.2.2.1 p.2.2.2.2.2.2.2.2.2.2.2.2.2.2.2.2.2.2.2.2.2.2.2.2.2.2.1 p.2.2.2.2.2.2.2.2.2.2.2.2.2.2.2.2.2.2.2.2.2.2.2.2.2.2.2.1 p.2.2.2.2.2.2.2.2.2.2.2.2.2.2.2.2.2.2.2.2.2.2.2.2.2.2.2.2
def tab:Tab:=[
 ⟨1,.func ⟨[]⟩ ⟨[]⟩ false,.nilFunc,1,8⟩,
 ⟨2,.int .i64,.int .i64 0,1,8⟩,
 ⟨3,.int .i64,.int .i64 0,1,8⟩,
 ⟨4,.bool,.bool false,1,1⟩,
 ⟨5,.int .u8,.int .u8 0,1,1⟩,
 ⟨6,.int .u8,.int .u8 0,1,1⟩,
 ⟨9,.string,Yl [],1,16⟩,
 ⟨22,.slice 135,.slice none 0 0,1,24⟩,
 ⟨23,.slice 146,.slice none 0 0,1,24⟩,
 ⟨24,.slice 133,.slice none 0 0,1,24⟩,
 ⟨25,.slice 150,.slice none 0 0,1,24⟩,
 ⟨26,.slice 3,.slice none 0 0,1,24⟩,
 ⟨27,.slice 156,.slice none 0 0,1,24⟩,
 ⟨29,.struct ⟨[⟨"Events",22,0,false, "", "",0⟩,⟨"Tariffs",23,1,false, "", "",24⟩,⟨"Products",24,2,false, "", "",48⟩,⟨"Taxes",25,3,false, "", "",72⟩,⟨"Holidays",26,4,false, "", "",96⟩,⟨"Agreements",27,5,false, "", "",120⟩]⟩,.agg ⟨[.slice none 0 0,.slice none 0 0,.slice none 0 0,.slice none 0 0,.slice none 0 0,.slice none 0 0]⟩,6,144⟩,
 ⟨30,.slice 129,.slice none 0 0,1,24⟩,
 ⟨31,.slice 101,.slice none 0 0,1,24⟩,
 ⟨32,.slice 103,.slice none 0 0,1,24⟩,
 ⟨34,.struct ⟨[⟨"Buckets",30,0,false, "", "",0⟩,⟨"Wallets",31,1,false, "", "",24⟩,⟨"Counters",32,2,false, "", "",48⟩]⟩,.agg ⟨[.slice none 0 0,.slice none 0 0,.slice none 0 0]⟩,3,72⟩,
 ⟨35,.slice 45,.slice none 0 0,1,24⟩,
 ⟨37,.struct ⟨[⟨"Book",29,0,false, "", "",0⟩,⟨"State",34,6,false, "", "",144⟩,⟨"Ops",35,9,false, "", "",216⟩]⟩,.agg ⟨[.slice none 0 0,.slice none 0 0,.slice none 0 0,.slice none 0 0,.slice none 0 0,.slice none 0 0,.slice none 0 0,.slice none 0 0,.slice none 0 0,.slice none 0 0]⟩,10,240⟩,
 ⟨40,.pointer 91,.pointer none,1,8⟩,
 ⟨43,.struct ⟨[⟨"Session",3,0,false, "", "",0⟩,⟨"Seq",3,1,false, "", "",8⟩,⟨"Kind",3,2,false, "", "",16⟩,⟨"At",3,3,false, "", "",24⟩,⟨"Sub",3,4,false, "", "",32⟩,⟨"Usage",3,5,false, "", "",40⟩,⟨"B",9,6,false, "", "",48⟩,⟨"Used",3,7,false, "", "",64⟩,⟨"Ask",3,8,false, "", "",72⟩]⟩,.agg ⟨[.int .i64 0,.int .i64 0,.int .i64 0,.int .i64 0,.int .i64 0,.int .i64 0,Yl [],.int .i64 0,.int .i64 0]⟩,9,80⟩,
 ⟨45,.struct ⟨[⟨"Request",43,0,false, "", "",0⟩,⟨"Expire",4,9,false, "", "",80⟩]⟩,.agg ⟨[.int .i64 0,.int .i64 0,.int .i64 0,.int .i64 0,.int .i64 0,.int .i64 0,Yl [],.int .i64 0,.int .i64 0,.bool false]⟩,10,88⟩,
 ⟨48,.int .i64,.int .i64 0,1,8⟩,
 ⟨50,.struct ⟨[⟨"Session",3,0,false, "", "",0⟩,⟨"Seq",3,1,false, "", "",8⟩,⟨"Granted",3,2,false, "", "",16⟩,⟨"Until",3,3,false, "", "",24⟩,⟨"Err",48,4,false, "", "",32⟩]⟩,.agg ⟨[.int .i64 0,.int .i64 0,.int .i64 0,.int .i64 0,.int .i64 0]⟩,5,40⟩,
 ⟨55,.slice 81,.slice none 0 0,1,24⟩,
 ⟨60,.slice 43,.slice none 0 0,1,24⟩,
 ⟨62,.struct ⟨[⟨"Book",29,0,false, "", "",0⟩,⟨"State",34,6,false, "", "",144⟩,⟨"Requests",60,9,false, "", "",216⟩]⟩,.agg ⟨[.slice none 0 0,.slice none 0 0,.slice none 0 0,.slice none 0 0,.slice none 0 0,.slice none 0 0,.slice none 0 0,.slice none 0 0,.slice none 0 0,.slice none 0 0]⟩,10,240⟩,
 ⟨64,.pointer 109,.pointer none,1,8⟩,
 ⟨71,.slice 5,.slice none 0 0,1,24⟩,
 ⟨74,.slice 141,.slice none 0 0,1,24⟩,
 ⟨76,.struct ⟨[⟨"Kind",3,0,false, "", "",0⟩,⟨"Zone",9,1,false, "", "",8⟩,⟨"Band",9,2,false, "", "",24⟩,⟨"Setup",3,3,false, "", "",40⟩,⟨"Steps",74,4,false, "", "",48⟩]⟩,.agg ⟨[.int .i64 0,Yl [],Yl [],.int .i64 0,.slice none 0 0]⟩,5,72⟩,
 ⟨78,.struct ⟨[⟨"Account",3,0,false, "", "",0⟩,⟨"Sub",3,1,false, "", "",8⟩,⟨"Kind",3,2,false, "", "",16⟩,⟨"Zone",9,3,false, "", "",24⟩,⟨"Plan",9,4,false, "", "",40⟩,⟨"Version",3,5,false, "", "",56⟩,⟨"Rate",76,6,false, "", "",64⟩,⟨"Free",3,11,false, "", "",136⟩,⟨"Paid",3,12,false, "", "",144⟩]⟩,.agg ⟨[.int .i64 0,.int .i64 0,.int .i64 0,Yl [],Yl [],.int .i64 0,.int .i64 0,Yl [],Yl [],.int .i64 0,.slice none 0 0,.int .i64 0,.int .i64 0]⟩,13,152⟩,
 ⟨79,.slice 185,.slice none 0 0,1,24⟩,
 ⟨81,.struct ⟨[⟨"Id",3,0,false, "", "",0⟩,⟨"Seq",3,1,false, "", "",8⟩,⟨"Start",3,2,false, "", "",16⟩,⟨"Until",3,3,false, "", "",24⟩,⟨"Meter",78,4,false, "", "",32⟩,⟨"Granted",3,17,false, "", "",184⟩,⟨"Takes",79,18,false, "", "",192⟩,⟨"Held",3,19,false, "", "",216⟩,⟨"Spent",3,20,false, "", "",224⟩,⟨"Closed",4,21,false, "", "",232⟩,⟨"Last",50,22,false, "", "",240⟩]⟩,.agg ⟨[.int .i64 0,.int .i64 0,.int .i64 0,.int .i64 0,.int .i64 0,.int .i64 0,.int .i64 0,Yl [],Yl [],.int .i64 0,.int .i64 0,Yl [],Yl [],.int .i64 0,.slice none 0 0,.int .i64 0,.int .i64 0,.int .i64 0,.slice none 0 0,.int .i64 0,.int .i64 0,.bool false,.int .i64 0,.int .i64 0,.int .i64 0,.int .i64 0,.int .i64 0]⟩,27,280⟩,
 ⟨89,.map 3 81,.map none,1,8⟩,
 ⟨91,.struct ⟨[⟨"book",29,0,false, "", "billing/online",0⟩,⟨"state",34,6,false, "", "billing/online",144⟩,⟨"sessions",89,9,false, "", "billing/online",216⟩]⟩,.agg ⟨[.slice none 0 0,.slice none 0 0,.slice none 0 0,.slice none 0 0,.slice none 0 0,.slice none 0 0,.slice none 0 0,.slice none 0 0,.slice none 0 0,.map none]⟩,10,224⟩,
 ⟨101,.struct ⟨[⟨"Account",3,0,false, "", "",0⟩,⟨"Balance",3,1,false, "", "",8⟩,⟨"Floor",3,2,false, "", "",16⟩,⟨"Held",3,3,false, "", "",24⟩,⟨"Until",3,4,false, "", "",32⟩]⟩,.agg ⟨[.int .i64 0,.int .i64 0,.int .i64 0,.int .i64 0,.int .i64 0]⟩,5,40⟩,
 ⟨103,.struct ⟨[⟨"Sub",3,0,false, "", "",0⟩,⟨"Kind",3,1,false, "", "",8⟩,⟨"From",3,2,false, "", "",16⟩,⟨"Units",3,3,false, "", "",24⟩,⟨"Spent",3,4,false, "", "",32⟩]⟩,.agg ⟨[.int .i64 0,.int .i64 0,.int .i64 0,.int .i64 0,.int .i64 0]⟩,5,40⟩,
 ⟨107,.map 3 3,.map none,1,8⟩,
 ⟨109,.struct ⟨[⟨"bytes",71,0,false, "", "billing/journal",0⟩,⟨"safe",3,1,false, "", "billing/journal",24⟩,⟨"ends",107,2,false, "", "billing/journal",32⟩]⟩,.agg ⟨[.slice none 0 0,.int .i64 0,.map none]⟩,3,40⟩,
 ⟨112,.slice 71,.slice none 0 0,1,24⟩,
 ⟨125,.slice 9,.slice none 0 0,1,24⟩,
 ⟨127,.struct ⟨[⟨"From",3,0,false, "", "",0⟩,⟨"To",3,1,false, "", "",8⟩]⟩,.agg ⟨[.int .i64 0,.int .i64 0]⟩,2,16⟩,
 ⟨129,.struct ⟨[⟨"Account",3,0,false, "", "",0⟩,⟨"Sub",3,1,false, "", "",8⟩,⟨"Product",9,2,false, "", "",16⟩,⟨"Index",3,3,false, "", "",32⟩,⟨"Kind",3,4,false, "", "",40⟩,⟨"Zones",125,5,false, "", "",48⟩,⟨"Valid",127,6,false, "", "",72⟩,⟨"Units",3,8,false, "", "",88⟩,⟨"Left",3,9,false, "", "",96⟩,⟨"Priority",3,10,false, "", "",104⟩,⟨"Shared",4,11,false, "", "",112⟩]⟩,.agg ⟨[.int .i64 0,.int .i64 0,Yl [],.int .i64 0,.int .i64 0,.slice none 0 0,.int .i64 0,.int .i64 0,.int .i64 0,.int .i64 0,.int .i64 0,.bool false]⟩,12,120⟩,
 ⟨131,.slice 160,.slice none 0 0,1,24⟩,
 ⟨133,.struct ⟨[⟨"Name",9,0,false, "", "",0⟩,⟨"From",3,1,false, "", "",16⟩,⟨"Fee",3,2,false, "", "",24⟩,⟨"Category",9,3,false, "", "",32⟩,⟨"Prorate",4,4,false, "", "",48⟩,⟨"Bundles",131,5,false, "", "",56⟩]⟩,.agg ⟨[Yl [],.int .i64 0,.int .i64 0,Yl [],.bool false,.slice none 0 0]⟩,6,80⟩,
 ⟨135,.struct ⟨[⟨"At",3,0,false, "", "",0⟩,⟨"Kind",3,1,false, "", "",8⟩,⟨"Account",3,2,false, "", "",16⟩,⟨"Sub",3,3,false, "", "",24⟩,⟨"Number",9,4,false, "", "",32⟩,⟨"Name",9,5,false, "", "",48⟩,⟨"Value",3,6,false, "", "",64⟩]⟩,.agg ⟨[.int .i64 0,.int .i64 0,.int .i64 0,.int .i64 0,Yl [],Yl [],.int .i64 0]⟩,7,72⟩,
 ⟨136,.slice 221,.slice none 0 0,1,24⟩,
 ⟨138,.struct ⟨[⟨"Name",9,0,false, "", "",0⟩,⟨"Slots",136,1,false, "", "",16⟩]⟩,.agg ⟨[Yl [],.slice none 0 0]⟩,2,40⟩,
 ⟨139,.slice 138,.slice none 0 0,1,24⟩,
 ⟨141,.struct ⟨[⟨"Upto",3,0,false, "", "",0⟩,⟨"Quantum",3,1,false, "", "",8⟩,⟨"Price",3,2,false, "", "",16⟩]⟩,.agg ⟨[.int .i64 0,.int .i64 0,.int .i64 0]⟩,3,24⟩,
 ⟨142,.slice 76,.slice none 0 0,1,24⟩,
 ⟨143,.slice 210,.slice none 0 0,1,24⟩,
 ⟨144,.slice 218,.slice none 0 0,1,24⟩,
 ⟨146,.struct ⟨[⟨"Name",9,0,false, "", "",0⟩,⟨"From",3,1,false, "", "",16⟩,⟨"Split",4,2,false, "", "",24⟩,⟨"Zones",143,3,false, "", "",32⟩,⟨"Bands",139,4,false, "", "",56⟩,⟨"Rates",142,5,false, "", "",80⟩,⟨"Discounts",144,6,false, "", "",104⟩]⟩,.agg ⟨[Yl [],.int .i64 0,.bool false,.slice none 0 0,.slice none 0 0,.slice none 0 0,.slice none 0 0]⟩,7,128⟩,
 ⟨150,.struct ⟨[⟨"Category",9,0,false, "", "",0⟩,⟨"From",3,1,false, "", "",16⟩,⟨"Points",3,2,false, "", "",24⟩]⟩,.agg ⟨[Yl [],.int .i64 0,.int .i64 0]⟩,3,32⟩,
 ⟨156,.struct ⟨[⟨"Partner",3,0,false, "", "",0⟩,⟨"Kind",3,1,false, "", "",8⟩,⟨"Inbound",4,2,false, "", "",16⟩,⟨"Valid",127,3,false, "", "",24⟩,⟨"Steps",74,5,false, "", "",40⟩,⟨"Cap",3,6,false, "", "",64⟩]⟩,.agg ⟨[.int .i64 0,.int .i64 0,.bool false,.int .i64 0,.int .i64 0,.slice none 0 0,.int .i64 0]⟩,7,72⟩,
 ⟨160,.struct ⟨[⟨"Kind",3,0,false, "", "",0⟩,⟨"Zones",125,1,false, "", "",8⟩,⟨"Units",3,2,false, "", "",32⟩,⟨"Rollover",3,3,false, "", "",40⟩,⟨"Priority",3,4,false, "", "",48⟩,⟨"Shared",4,5,false, "", "",56⟩]⟩,.agg ⟨[.int .i64 0,.slice none 0 0,.int .i64 0,.int .i64 0,.int .i64 0,.bool false]⟩,6,64⟩,
 ⟨168,.func ⟨[207]⟩ ⟨[]⟩ false,.nilFunc,1,8⟩,
 ⟨170,.pointer 173,.pointer none,1,8⟩,
 ⟨173,.struct ⟨[⟨"Session",81,0,true, "", "",0⟩,⟨"state",34,27,false, "", "billing/session",280⟩]⟩,.agg ⟨[.int .i64 0,.int .i64 0,.int .i64 0,.int .i64 0,.int .i64 0,.int .i64 0,.int .i64 0,Yl [],Yl [],.int .i64 0,.int .i64 0,Yl [],Yl [],.int .i64 0,.slice none 0 0,.int .i64 0,.int .i64 0,.int .i64 0,.slice none 0 0,.int .i64 0,.int .i64 0,.bool false,.int .i64 0,.int .i64 0,.int .i64 0,.int .i64 0,.int .i64 0,.slice none 0 0,.slice none 0 0,.slice none 0 0]⟩,30,352⟩,
 ⟨185,.struct ⟨[⟨"Sub",3,0,false, "", "",0⟩,⟨"Product",9,1,false, "", "",8⟩,⟨"Index",3,2,false, "", "",24⟩,⟨"From",3,3,false, "", "",32⟩,⟨"Units",3,4,false, "", "",40⟩]⟩,.agg ⟨[.int .i64 0,Yl [],.int .i64 0,.int .i64 0,.int .i64 0]⟩,5,48⟩,
 ⟨193,.struct ⟨[⟨"rest",71,0,false, "", "billing/journal",0⟩,⟨"bad",48,1,false, "", "billing/journal",24⟩]⟩,.agg ⟨[.slice none 0 0,.int .i64 0]⟩,2,32⟩,
 ⟨195,.slice 243,.slice none 0 0,1,24⟩,
 ⟨196,.slice 260,.slice none 0 0,1,24⟩,
 ⟨198,.struct ⟨[⟨"Accounts",195,0,false, "", "",0⟩,⟨"Subs",196,1,false, "", "",24⟩,⟨"Ended",26,2,false, "", "",48⟩]⟩,.agg ⟨[.slice none 0 0,.slice none 0 0,.slice none 0 0]⟩,3,72⟩,
 ⟨210,.struct ⟨[⟨"Name",9,0,false, "", "",0⟩,⟨"Prefixes",125,1,false, "", "",16⟩]⟩,.agg ⟨[Yl [],.slice none 0 0]⟩,2,40⟩,
 ⟨214,.slice 216,.slice none 0 0,1,24⟩,
 ⟨216,.struct ⟨[⟨"Op",3,0,false, "", "",0⟩,⟨"Num",3,1,false, "", "",8⟩,⟨"Text",9,2,false, "", "",16⟩,⟨"Args",214,3,false, "", "",32⟩]⟩,.agg ⟨[.int .i64 0,.int .i64 0,Yl [],.slice none 0 0]⟩,4,56⟩,
 ⟨218,.struct ⟨[⟨"Name",9,0,false, "", "",0⟩,⟨"When",216,1,false, "", "",16⟩,⟨"Points",3,5,false, "", "",72⟩]⟩,.agg ⟨[Yl [],.int .i64 0,.int .i64 0,Yl [],.slice none 0 0,.int .i64 0]⟩,6,80⟩,
 ⟨221,.struct ⟨[⟨"Days",3,0,false, "", "",0⟩,⟨"From",3,1,false, "", "",8⟩,⟨"To",3,2,false, "", "",16⟩]⟩,.agg ⟨[.int .i64 0,.int .i64 0,.int .i64 0]⟩,3,24⟩,
 ⟨235,.struct ⟨[⟨"Period",127,0,false, "", "",0⟩,⟨"Plan",9,2,false, "", "",16⟩,⟨"Products",125,3,false, "", "",32⟩,⟨"Suspended",4,4,false, "", "",56⟩,⟨"Family",4,5,false, "", "",57⟩]⟩,.agg ⟨[.int .i64 0,.int .i64 0,Yl [],.slice none 0 0,.bool false,.bool false]⟩,6,64⟩,
 ⟨243,.struct ⟨[⟨"Id",3,0,false, "", "",0⟩,⟨"Since",3,1,false, "", "",8⟩,⟨"Anchor",3,2,false, "", "",16⟩,⟨"Prepaid",4,3,false, "", "",24⟩,⟨"Closed",4,4,false, "", "",25⟩,⟨"Subs",26,5,false, "", "",32⟩]⟩,.agg ⟨[.int .i64 0,.int .i64 0,.int .i64 0,.bool false,.bool false,.slice none 0 0]⟩,6,56⟩,
 ⟨246,.int .u32,.int .u32 0,1,4⟩,
 ⟨255,.array 5 4,.agg ⟨[.bool false,.bool false,.bool false,.bool false,.bool false]⟩,5,5⟩,
 ⟨260,.struct ⟨[⟨"Id",3,0,false, "", "",0⟩,⟨"Account",3,1,false, "", "",8⟩,⟨"Since",3,2,false, "", "",16⟩,⟨"Plan",9,3,false, "", "",24⟩,⟨"Numbers",125,4,false, "", "",40⟩,⟨"Products",125,5,false, "", "",64⟩,⟨"Suspended",4,6,false, "", "",88⟩,⟨"Family",4,7,false, "", "",89⟩]⟩,.agg ⟨[.int .i64 0,.int .i64 0,.int .i64 0,Yl [],.slice none 0 0,.slice none 0 0,.bool false,.bool false]⟩,8,96⟩,
 ⟨271,.struct ⟨[⟨"sub",3,0,false, "", "billing/bucket",0⟩,⟨"product",9,1,false, "", "billing/bucket",8⟩,⟨"index",3,2,false, "", "billing/bucket",24⟩,⟨"from",3,3,false, "", "billing/bucket",32⟩]⟩,.agg ⟨[.int .i64 0,Yl [],.int .i64 0,.int .i64 0]⟩,4,40⟩,
 ⟨276,.struct ⟨[⟨"Meter",78,0,true, "", "",0⟩]⟩,.agg ⟨[.int .i64 0,.int .i64 0,.int .i64 0,Yl [],Yl [],.int .i64 0,.int .i64 0,Yl [],Yl [],.int .i64 0,.slice none 0 0,.int .i64 0,.int .i64 0]⟩,13,152⟩,
 ⟨279,.func ⟨[101]⟩ ⟨[4]⟩ false,.nilFunc,1,8⟩,
 ⟨290,.pointer 293,.pointer none,1,8⟩,
 ⟨291,.map 296 4,.map none,1,8⟩,
 ⟨293,.struct ⟨[⟨"list",30,0,false, "", "billing/bundle",0⟩,⟨"has",291,1,false, "", "billing/bundle",24⟩]⟩,.agg ⟨[.slice none 0 0,.map none]⟩,2,32⟩,
 ⟨296,.struct ⟨[⟨"sub",3,0,false, "", "billing/bundle",0⟩,⟨"product",9,1,false, "", "billing/bundle",8⟩,⟨"index",3,2,false, "", "billing/bundle",24⟩,⟨"from",3,3,false, "", "billing/bundle",32⟩]⟩,.agg ⟨[.int .i64 0,Yl [],.int .i64 0,.int .i64 0]⟩,4,40⟩,
 ⟨299,.slice 304,.slice none 0 0,1,24⟩,
 ⟨301,.slice 127,.slice none 0 0,1,24⟩,
 ⟨304,.struct ⟨[⟨"account",3,0,false, "", "billing/bundle",0⟩,⟨"sub",3,1,false, "", "billing/bundle",8⟩,⟨"product",9,2,false, "", "billing/bundle",16⟩,⟨"active",301,3,false, "", "billing/bundle",32⟩]⟩,.agg ⟨[.int .i64 0,.int .i64 0,Yl [],.slice none 0 0]⟩,4,56⟩,
 ⟨305,.slice 308,.slice none 0 0,1,24⟩,
 ⟨308,.struct ⟨[⟨"bucket",129,0,false, "", "billing/bundle",0⟩,⟨"rollover",3,12,false, "", "billing/bundle",120⟩]⟩,.agg ⟨[.int .i64 0,.int .i64 0,Yl [],.int .i64 0,.int .i64 0,.slice none 0 0,.int .i64 0,.int .i64 0,.int .i64 0,.int .i64 0,.int .i64 0,.bool false,.int .i64 0]⟩,13,128⟩,
 ⟨315,.slice 235,.slice none 0 0,1,24⟩,
 ⟨323,.struct ⟨[⟨"Accounts",195,0,false, "", "",0⟩,⟨"Subs",196,1,false, "", "",24⟩]⟩,.agg ⟨[.slice none 0 0,.slice none 0 0]⟩,2,48⟩,
 ⟨326,.int .u64,.int .u64 0,1,8⟩,
 ⟨350,.map 9 9,.map none,1,8⟩,
 ⟨357,.map 3 4,.map none,1,8⟩,
 ⟨358,.map 9 357,.map none,1,8⟩,
 ⟨370,.slice 373,.slice none 0 0,1,24⟩,
 ⟨373,.struct ⟨[⟨"at",3,0,false, "", "billing/subscribe",0⟩,⟨"s",260,1,false, "", "billing/subscribe",8⟩]⟩,.agg ⟨[.int .i64 0,.int .i64 0,.int .i64 0,.int .i64 0,Yl [],.slice none 0 0,.slice none 0 0,.bool false,.bool false]⟩,9,104⟩,
 ⟨376,.func ⟨[373,373]⟩ ⟨[4]⟩ false,.nilFunc,1,8⟩,
 ⟨377,.func ⟨[373,373]⟩ ⟨[373]⟩ false,.nilFunc,1,8⟩,
 ⟨379,.pointer 414,.pointer none,1,8⟩,
 ⟨395,.func ⟨[210]⟩ ⟨[4]⟩ false,.nilFunc,1,8⟩,
 ⟨397,.func ⟨[138]⟩ ⟨[4]⟩ false,.nilFunc,1,8⟩,
 ⟨399,.func ⟨[221]⟩ ⟨[4]⟩ false,.nilFunc,1,8⟩,
 ⟨403,.func ⟨[235]⟩ ⟨[4]⟩ false,.nilFunc,1,8⟩,
 ⟨406,.func ⟨[4,4]⟩ ⟨[4]⟩ false,.nilFunc,1,8⟩,
 ⟨408,.func ⟨[133]⟩ ⟨[4]⟩ false,.nilFunc,1,8⟩,
 ⟨410,.map 3 243,.map none,1,8⟩,
 ⟨411,.map 3 260,.map none,1,8⟩,
 ⟨412,.map 9 3,.map none,1,8⟩,
 ⟨414,.struct ⟨[⟨"accounts",410,0,false, "", "billing/customer",0⟩,⟨"subs",411,1,false, "", "billing/customer",8⟩,⟨"ever",357,2,false, "", "billing/customer",16⟩,⟨"owners",412,3,false, "", "billing/customer",24⟩,⟨"live",107,4,false, "", "billing/customer",32⟩,⟨"opened",26,5,false, "", "billing/customer",40⟩,⟨"added",26,6,false, "", "billing/customer",64⟩]⟩,.agg ⟨[.map none,.map none,.map none,.map none,.map none,.slice none 0 0,.slice none 0 0]⟩,7,88⟩,
 ⟨416,.map 3 26,.map none,1,8⟩,
 ⟨426,.func ⟨[127,127]⟩ ⟨[4]⟩ false,.nilFunc,1,8⟩,
 ⟨427,.func ⟨[127,127]⟩ ⟨[127]⟩ false,.nilFunc,1,8⟩,
 ⟨429,.struct ⟨[⟨"Year",3,0,false, "", "",0⟩,⟨"Month",3,1,false, "", "",8⟩,⟨"Day",3,2,false, "", "",16⟩]⟩,.agg ⟨[.int .i64 0,.int .i64 0,.int .i64 0]⟩,3,24⟩,
 ⟨431,.slice 433,.slice none 0 0,1,24⟩,
 ⟨433,.struct ⟨[⟨"at",3,0,false, "", "billing/interval",0⟩,⟨"list",3,1,false, "", "billing/interval",8⟩,⟨"by",3,2,false, "", "billing/interval",16⟩]⟩,.agg ⟨[.int .i64 0,.int .i64 0,.int .i64 0]⟩,3,24⟩,
 ⟨436,.func ⟨[433,433]⟩ ⟨[3]⟩ false,.nilFunc,1,8⟩,
 ⟨437,.array 2 3,.agg ⟨[.int .i64 0,.int .i64 0]⟩,2,16⟩,
 ⟨442,.array 12 3,.agg ⟨[.int .i64 0,.int .i64 0,.int .i64 0,.int .i64 0,.int .i64 0,.int .i64 0,.int .i64 0,.int .i64 0,.int .i64 0,.int .i64 0,.int .i64 0,.int .i64 0]⟩,12,96⟩]
def tx:TX:=⟨tab,[(1,.ref),(2,(.int .i64)),(3,(.int .i64)),(4,.bool),(5,(.int .u8)),(6,(.int .u8)),(9,.str),(22,(.sl Jp)),(23,(.sl Yj)),(24,(.sl J4)),(25,(.sl Hk)),(26,(.sl (.int .i64))),(27,(.sl Vd)),(29,Uu),(30,(.sl Q9)),(31,(.sl J6)),(32,(.sl Um)),(34,J2),(35,(.sl Dp)),(37,Qj9),(40,.ref),(43,J7),(45,Dp),(48,(.int .i64)),(50,Se),(55,(.sl Ye)),(60,(.sl J7)),(62,Uc),(64,.ref),(71,(.sl (.int .u8))),(74,(.sl Vl)),(76,Xu),(78,Hl),(79,(.sl Xw)),(81,Ye),(89,.ref),(91,Qtx),(101,J6),(103,Um),(107,.ref),(109,Q0p),(112,(.sl (.sl (.int .u8)))),(125,(.sl .str)),(127,J5),(129,Q9),(131,(.sl Zk)),(133,J4),(135,Jp),(136,(.sl Zn)),(138,Ub),(139,(.sl Ub)),(141,Vl),(142,(.sl Xu)),(143,(.sl V3)),(144,(.sl Ul)),(146,Yj),(150,Hk),(156,Vd),(160,Zk),(168,.ref),(170,.ref),(173,Qqd),(185,Xw),(193,Qd8),(195,(.sl Zc)),(196,(.sl Vw)),(198,Zz),(210,V3),(214,(.sl Xv)),(216,Xv),(218,Ul),(221,Zn),(235,Dq),(243,Zc),(246,(.int .u32)),(255,(.arr 5 .bool)),(260,Vw),(271,Qbd),(276,Ig),(279,.ref),(290,.ref),(291,.ref),(293,Qv3),(296,Zo),(299,(.sl Uy)),(301,(.sl J5)),(304,Uy),(305,(.sl Fi)),(308,Fi),(315,(.sl Dq)),(323,Qtz),(326,(.int .u64)),(350,.ref),(357,.ref),(358,.ref),(370,(.sl Vx)),(373,Vx),(376,.ref),(377,.ref),(379,.ref),(395,.ref),(397,.ref),(399,.ref),(403,.ref),(406,.ref),(408,.ref),(410,.ref),(411,.ref),(412,.ref),(414,Qqe),(416,.ref),(426,.ref),(427,.ref),(429,Qh1),(431,(.sl Ud)),(433,Ud),(436,.ref),(437,(.arr 2 (.int .i64))),(442,(.arr 12 (.int .i64)))],[]⟩
theorem G8:Tryz.prog.follows .mixedOrders=true:=by kernel_rfl
theorem G9:Qy Tryz.prog tab:=by repeat (first | exact trivial | refine⟨⟨⟨by kernel_rfl,by kernel_rfl⟩,by kernel_rfl⟩,?_⟩)
abbrev KO(c:Con):Prop:=Qa3 Tryz.prog tx.gl c∧Runs Tryz.prog c.f
abbrev IO(i:It):Prop:=Jgk Tryz.prog tx.gl i∧Runs Tryz.prog i.f
abbrev V:={c // KO c}
def kcs(N:Nat)(L:List (Nat→V)):List Con:=L.map fun k=>(k N).1
theorem Jcs(N:Nat):∀L:List (Nat→V),Q4r Tryz.prog tx.gl (kcs N L)
 | []=>Jw0
 | c::L=>Juq (c N).2.1 (c N).2.2 (Jcs N L)
def Jct(fn:Func):Bool:=decide (fn.name ≠ "runtime.NumGoroutine")&&!fn.body.isNone
theorem Kj{f:FuncId}{fn:Func}(hf:Tryz.prog.funcs[f]?=some fn)(h:Jct fn=true):Runs Tryz.prog f:=by
 simp only[Jct,QQ,decide_eq_true_eq,XQ]at h
 exact⟨fn,hf,h.1,h.2⟩
theorem kF(N:Nat){c:Con}(L:List (Nat→V))(ps:List (Nat×Pc)){fn:Func}(hf:Tryz.prog.funcs[c.f]?=some fn)(hg:Jct fn=true:=by rfl)(h:∀x,c.fn x=Jjt tx (kcs N L) N fn (Jut ((kcs N L).map Con.f) ps fn.body) c.ro c.Γ c.Δ x:=by intro x; kernel_rfl):KO c :=
 ⟨Jpm (Y:=tx) (N:=N) G9 G8 (Jcs N L) hf rfl h,Kj hf hg⟩
def ics(L:List {i // IO i}):List It:=L.map (·.1)
theorem Jrp:∀L:List {i // IO i},∀i∈ics L,Jgk Tryz.prog tx.gl i∧Runs Tryz.prog i.f
 | [],_,h=>by cases h
 | c::L,i,h=>by
  rcases QX.1 h with rfl | h
  ·exact c.2
  ·exact Jrp L i h
theorem kR(N:Nat){c:Con}(L:List (Nat→V))(I:List {i // IO i})(an:AnR){fn:Func}(hf:Tryz.prog.funcs[c.f]?=some fn)(hg:Jct fn=true)(h:∀x,c.fn x=Jkl tx (kcs N L) N (ics I) fn an c.ro c.Γ c.Δ x):KO c :=
 ⟨Jkm (Y:=tx) (N:=N) (an:=an) G9 G8 (Jcs N L) (Jrp I) hf rfl h,Kj hf hg⟩
def Pw:Con:=⟨59,(Qbb Jp),[(Bp 135 Jp)],Ju 72,[]⟩
theorem Rl:KO Pw:=⟨Vv G9 G8 func59 rfl rfl rfl rfl rfl rfl rfl rfl (by kernel_rfl) (y0:=([]:List Ql)) (by kernel_rfl) (an0:=.reg (.n 1 .done)) (anA:=.two (.reg (.n 1 .done)) .nil) (anC:=.two (.reg (.n 4 .done)) .nil) ⟨by kernel_rfl,by kernel_rfl⟩ (fun xs=>by kernel_rfl) (fun xs=>by kernel_rfl) (fun xs=>by kernel_rfl),Kj func59 rfl⟩
def T7:Con:=⟨60,(Qbb Hk),[(Bp 150 Hk)],Ju 32,[]⟩
theorem Qbu:KO T7:=⟨Vv G9 G8 func60 rfl rfl rfl rfl rfl rfl rfl rfl (by kernel_rfl) (y0:=([]:List Qc1)) (by kernel_rfl) (an0:=.reg (.n 1 .done)) (anA:=.two (.reg (.n 1 .done)) .nil) (anC:=.two (.reg (.n 4 .done)) .nil) ⟨by kernel_rfl,by kernel_rfl⟩ (fun xs=>by kernel_rfl) (fun xs=>by kernel_rfl) (fun xs=>by kernel_rfl),Kj func60 rfl⟩
def Qf6:Con:=⟨61,(Qbb (.int .i64)),[(Bp 3 (.int .i64))],Ju 8,[]⟩
theorem Qh9:KO Qf6:=⟨Vv G9 G8 func61 rfl rfl rfl rfl rfl rfl rfl rfl (by kernel_rfl) (y0:=([]:List Int)) (by kernel_rfl) (an0:=.reg (.n 1 .done)) (anA:=.two (.reg (.n 1 .done)) .nil) (anC:=.two (.reg (.n 4 .done)) .nil) ⟨by kernel_rfl,by kernel_rfl⟩ (fun xs=>by kernel_rfl) (fun xs=>by kernel_rfl) (fun xs=>by kernel_rfl),Kj func61 rfl⟩
def Ns:Con:=⟨62,(Qbb Yj),[(Bp 146 Yj)],Ju 128,[]⟩
theorem Px:KO Ns:=⟨Vv G9 G8 func62 rfl rfl rfl rfl rfl rfl rfl rfl (by kernel_rfl) (y0:=([]:List Q3)) (by kernel_rfl) (an0:=.reg (.n 1 .done)) (anA:=.two (.reg (.n 1 .done)) .nil) (anC:=.two (.reg (.n 4 .done)) .nil) ⟨by kernel_rfl,by kernel_rfl⟩ (fun xs=>by kernel_rfl) (fun xs=>by kernel_rfl) (fun xs=>by kernel_rfl),Kj func62 rfl⟩
def Ma:Con:=⟨63,(Qbb J4),[(Bp 133 J4)],Ju 80,[]⟩
theorem Nt:KO Ma:=⟨Vv G9 G8 func63 rfl rfl rfl rfl rfl rfl rfl rfl (by kernel_rfl) (y0:=([]:List Qo)) (by kernel_rfl) (an0:=.reg (.n 1 .done)) (anA:=.two (.reg (.n 1 .done)) .nil) (anC:=.two (.reg (.n 4 .done)) .nil) ⟨by kernel_rfl,by kernel_rfl⟩ (fun xs=>by kernel_rfl) (fun xs=>by kernel_rfl) (fun xs=>by kernel_rfl),Kj func63 rfl⟩
def D6:Con:=⟨64,(Qbb Vd),[(Bp 156 Vd)],Ju 72,[]⟩
theorem Lk:KO D6:=⟨Vv G9 G8 func64 rfl rfl rfl rfl rfl rfl rfl rfl (by kernel_rfl) (y0:=([]:List Jh)) (by kernel_rfl) (an0:=.reg (.n 1 .done)) (anA:=.two (.reg (.n 1 .done)) .nil) (anC:=.two (.reg (.n 4 .done)) .nil) ⟨by kernel_rfl,by kernel_rfl⟩ (fun xs=>by kernel_rfl) (fun xs=>by kernel_rfl) (fun xs=>by kernel_rfl),Kj func64 rfl⟩
def Rm:Con:=⟨105,(Qbb V3),[(Bp 210 V3)],Ju 40,[]⟩
theorem T8:KO Rm:=⟨Vv G9 G8 func105 rfl rfl rfl rfl rfl rfl rfl rfl (by kernel_rfl) (y0:=([]:List Q2)) (by kernel_rfl) (an0:=.reg (.n 1 .done)) (anA:=.two (.reg (.n 1 .done)) .nil) (anC:=.two (.reg (.n 4 .done)) .nil) ⟨by kernel_rfl,by kernel_rfl⟩ (fun xs=>by kernel_rfl) (fun xs=>by kernel_rfl) (fun xs=>by kernel_rfl),Kj func105 rfl⟩
def Rn:Con:=⟨106,(Qbb Ub),[(Bp 138 Ub)],Ju 40,[]⟩
theorem T9:KO Rn:=⟨Vv G9 G8 func106 rfl rfl rfl rfl rfl rfl rfl rfl (by kernel_rfl) (y0:=([]:List Jg)) (by kernel_rfl) (an0:=.reg (.n 1 .done)) (anA:=.two (.reg (.n 1 .done)) .nil) (anC:=.two (.reg (.n 4 .done)) .nil) ⟨by kernel_rfl,by kernel_rfl⟩ (fun xs=>by kernel_rfl) (fun xs=>by kernel_rfl) (fun xs=>by kernel_rfl),Kj func106 rfl⟩
def Ro:Con:=⟨107,(Qbb Xu),[(Bp 76 Xu)],Ju 72,[]⟩
theorem Qaa:KO Ro:=⟨Vv G9 G8 func107 rfl rfl rfl rfl rfl rfl rfl rfl (by kernel_rfl) (y0:=([]:List Y5)) (by kernel_rfl) (an0:=.reg (.n 1 .done)) (anA:=.two (.reg (.n 1 .done)) .nil) (anC:=.two (.reg (.n 4 .done)) .nil) ⟨by kernel_rfl,by kernel_rfl⟩ (fun xs=>by kernel_rfl) (fun xs=>by kernel_rfl) (fun xs=>by kernel_rfl),Kj func107 rfl⟩
def Ll:Con:=⟨108,(Qbb Ul),[(Bp 218 Ul)],Ju 80,[]⟩
theorem Mc:KO Ll:=⟨Vv G9 G8 func108 rfl rfl rfl rfl rfl rfl rfl rfl (by kernel_rfl) (y0:=([]:List Jl)) (by kernel_rfl) (an0:=.reg (.n 1 .done)) (anA:=.two (.reg (.n 1 .done)) .nil) (anC:=.two (.reg (.n 4 .done)) .nil) ⟨by kernel_rfl,by kernel_rfl⟩ (fun xs=>by kernel_rfl) (fun xs=>by kernel_rfl) (fun xs=>by kernel_rfl),Kj func108 rfl⟩
def Qbv:Con:=⟨67,(Qbb .str),[(Bp 9 .str)],Ju 16,[]⟩
theorem Zi:KO Qbv:=⟨Vv G9 G8 func67 rfl rfl rfl rfl rfl rfl rfl rfl (by kernel_rfl) (y0:=([]:List Str)) (by kernel_rfl) (an0:=.reg (.n 1 .done)) (anA:=.two (.reg (.n 1 .done)) .nil) (anC:=.two (.reg (.n 4 .done)) .nil) ⟨by kernel_rfl,by kernel_rfl⟩ (fun xs=>by kernel_rfl) (fun xs=>by kernel_rfl) (fun xs=>by kernel_rfl),Kj func67 rfl⟩
def Rp:Con:=⟨109,(Qbb Zn),[(Bp 221 Zn)],Ju 24,[]⟩
theorem Qab:KO Rp:=⟨Vv G9 G8 func109 rfl rfl rfl rfl rfl rfl rfl rfl (by kernel_rfl) (y0:=([]:List Wq)) (by kernel_rfl) (an0:=.reg (.n 1 .done)) (anA:=.two (.reg (.n 1 .done)) .nil) (anC:=.two (.reg (.n 4 .done)) .nil) ⟨by kernel_rfl,by kernel_rfl⟩ (fun xs=>by kernel_rfl) (fun xs=>by kernel_rfl) (fun xs=>by kernel_rfl),Kj func109 rfl⟩
def Rq:Con:=⟨68,(Qbb Vl),[(Bp 141 Vl)],Ju 24,[]⟩
theorem Vf:KO Rq:=⟨Vv G9 G8 func68 rfl rfl rfl rfl rfl rfl rfl rfl (by kernel_rfl) (y0:=([]:List Qw)) (by kernel_rfl) (an0:=.reg (.n 1 .done)) (anA:=.two (.reg (.n 1 .done)) .nil) (anC:=.two (.reg (.n 4 .done)) .nil) ⟨by kernel_rfl,by kernel_rfl⟩ (fun xs=>by kernel_rfl) (fun xs=>by kernel_rfl) (fun xs=>by kernel_rfl),Kj func68 rfl⟩
def Rr:Con:=⟨148,(Qbb Xv),[(Bp 216 Xv)],Ju 56,[]⟩
theorem Qac:KO Rr:=⟨Vv G9 G8 func148 rfl rfl rfl rfl rfl rfl rfl rfl (by kernel_rfl) (y0:=([]:List Ja)) (by kernel_rfl) (an0:=.reg (.n 1 .done)) (anA:=.two (.reg (.n 1 .done)) .nil) (anC:=.two (.reg (.n 4 .done)) .nil) ⟨by kernel_rfl,by kernel_rfl⟩ (fun xs=>by kernel_rfl) (fun xs=>by kernel_rfl) (fun xs=>by kernel_rfl),Kj func148 rfl⟩
def Nu:Con:=⟨66,(Qbb Zk),[(Bp 160 Zk)],Ju 64,[]⟩
theorem Py:KO Nu:=⟨Vv G9 G8 func66 rfl rfl rfl rfl rfl rfl rfl rfl (by kernel_rfl) (y0:=([]:List Yk)) (by kernel_rfl) (an0:=.reg (.n 1 .done)) (anA:=.two (.reg (.n 1 .done)) .nil) (anC:=.two (.reg (.n 4 .done)) .nil) ⟨by kernel_rfl,by kernel_rfl⟩ (fun xs=>by kernel_rfl) (fun xs=>by kernel_rfl) (fun xs=>by kernel_rfl),Kj func66 rfl⟩
def Nv:Con:=⟨69,(Qbb Q9),[(Bp 129 Q9)],Ju 120,[]⟩
theorem Hz:KO Nv:=⟨Vv G9 G8 func69 rfl rfl rfl rfl rfl rfl rfl rfl (by kernel_rfl) (y0:=([]:List Qa)) (by kernel_rfl) (an0:=.reg (.n 1 .done)) (anA:=.two (.reg (.n 1 .done)) .nil) (anC:=.two (.reg (.n 4 .done)) .nil) ⟨by kernel_rfl,by kernel_rfl⟩ (fun xs=>by kernel_rfl) (fun xs=>by kernel_rfl) (fun xs=>by kernel_rfl),Kj func69 rfl⟩
def Nw:Con:=⟨70,(Qbb J6),[(Bp 101 J6)],Ju 40,[]⟩
theorem H0:KO Nw:=⟨Vv G9 G8 func70 rfl rfl rfl rfl rfl rfl rfl rfl (by kernel_rfl) (y0:=([]:List Qc)) (by kernel_rfl) (an0:=.reg (.n 1 .done)) (anA:=.two (.reg (.n 1 .done)) .nil) (anC:=.two (.reg (.n 4 .done)) .nil) ⟨by kernel_rfl,by kernel_rfl⟩ (fun xs=>by kernel_rfl) (fun xs=>by kernel_rfl) (fun xs=>by kernel_rfl),Kj func70 rfl⟩
def Md:Con:=⟨71,(Qbb Um),[(Bp 103 Um)],Ju 40,[]⟩
theorem Ha:KO Md:=⟨Vv G9 G8 func71 rfl rfl rfl rfl rfl rfl rfl rfl (by kernel_rfl) (y0:=([]:List Qe)) (by kernel_rfl) (an0:=.reg (.n 1 .done)) (anA:=.two (.reg (.n 1 .done)) .nil) (anC:=.two (.reg (.n 4 .done)) .nil) ⟨by kernel_rfl,by kernel_rfl⟩ (fun xs=>by kernel_rfl) (fun xs=>by kernel_rfl) (fun xs=>by kernel_rfl),Kj func71 rfl⟩
def Rs:Con:=⟨86,(Qbb Xw),[(Bp 185 Xw)],Ju 48,[]⟩
theorem E8:KO Rs:=⟨Vv G9 G8 func86 rfl rfl rfl rfl rfl rfl rfl rfl (by kernel_rfl) (y0:=([]:List Qn)) (by kernel_rfl) (an0:=.reg (.n 1 .done)) (anA:=.two (.reg (.n 1 .done)) .nil) (anC:=.two (.reg (.n 4 .done)) .nil) ⟨by kernel_rfl,by kernel_rfl⟩ (fun xs=>by kernel_rfl) (fun xs=>by kernel_rfl) (fun xs=>by kernel_rfl),Kj func86 rfl⟩
def Hb:Con:=⟨68,(Jkq 141 Vl),[(Jrm 141 Vl)],fun(xs:List Qw)=>Qj8 24 xs,[]⟩
theorem Pz:KO Hb:=⟨Qx1 G9 G8 (c:=Hb) func68 (fA:=fun(xs:List Qw)=>some (xs,([]:List Qw))) rfl rfl rfl rfl rfl rfl rfl rfl (by kernel_rfl) (by kernel_rfl) (an0:=.reg (.n 1 .done)) (anA:=.two (.reg (.n 1 .done)) .nil) (anC:=.two (.reg (.n 4 .done)) .nil) (fun _=>⟨by kernel_rfl,by kernel_rfl⟩) (g:=Qfj tx.gl) (fun _=>by kernel_rfl) (e:=141) (u:=Vl) (fx:=fun(xs:List Qw)=>xs) (fun _=>by kernel_rfl) (fun xs h=>by rw[show xs=([]:List Qw)from h]; kernel_rfl) (fun _=>by kernel_rfl) (fun _=>by kernel_rfl) (fun _=>by kernel_rfl),Kj func68 rfl⟩
def Uj:Con:=⟨314,⟨[(0,.s 5000),(1,.f 315 (.nil))],[(5000,.row 433 Ud)]⟩,[⟨[],[(5000,.row 433 Ud)]⟩],Qi9 (fun x:Q8=>x.1),[]⟩
theorem H1:KO Uj:=⟨Jgt (c:=Uj) (e:=433) (u:=Ud) rfl (fun x=>x) (fun y=>y) (ev:=[⟨1,[],.f 315 .nil⟩]) (vx:=[.func (.func 315) #[] #[]]) rfl (fun _=>by kernel_rfl) (fun _=>by kernel_rfl) rfl Jpq (fun _ _=>Jgw) (fun p w=>AnyF.slices_SortFunc_none { Tryz.sortFunc314 with } p 0 _ w) (fun _ _ h blk cap w hH hb _=>Q46 (u:=Ud) rfl (fun x:Q8=>x.1) Tryz.sortFunc314 isAgg433 sizeOf433 (enters_of func315 (by kernel_rfl) rfl) Tryz.clo315 h blk cap w hH hb),Kj func314 rfl⟩
def Rt:Con:=⟨72,(inK 113 89 Ye),[Jpp],fun(xs:List (Int×Qb))=>Qi7 xs,[5000,5001]⟩
theorem E9:KO Rt:=⟨Q44 (fun _=>by kernel_rfl) Tryz.underlying3 (Tryz.sortedKeys113 Qc0),Kj func72 rfl⟩
def A5:Con:=⟨50,(Jkq 5 (.int .u8)),[(Jrm 5 (.int .u8))],fun(xs:List Int)=>Qj8 1 xs,[]⟩
theorem Qdj:KO A5:=⟨Qx1 G9 G8 (c:=A5) func50 (fA:=fun(xs:List Int)=>some (xs,([]:List Int))) rfl rfl rfl rfl rfl rfl rfl rfl (by kernel_rfl) (by kernel_rfl) (an0:=.reg (.n 1 .done)) (anA:=.two (.reg (.n 1 .done)) .nil) (anC:=.two (.reg (.n 4 .done)) .nil) (fun _=>⟨by kernel_rfl,by kernel_rfl⟩) (g:=Qfj tx.gl) (fun _=>by kernel_rfl) (e:=5) (u:=(.int .u8)) (fx:=fun(xs:List Int)=>xs) (fun _=>by kernel_rfl) (fun xs h=>by rw[show xs=([]:List Int)from h]; kernel_rfl) (fun _=>by kernel_rfl) (fun _=>by kernel_rfl) (fun _=>by kernel_rfl),Kj func50 rfl⟩
def zs1:Shp:=sD [.bool]
def zs2:Sk:=.d .i
def zs3:Shp:=⟨[(9,zs2)],[]⟩
def zs4:Sk:=.d .bool
def zs5:Hn:=.n 1 .done
def zs6:Hn:=.nl 7 zs5
def zs7:Shp:=sD [.i]
def zs8:Shp:=⟨[(13,zs4)],[]⟩
def zs9:Shp:=⟨[(17,zs4)],[]⟩
def Juu:Shp:=⟨[(22,zs4)],[]⟩
def Qt1:Shp:=sD [.str]
def Qf7:Hn:=.nl 3 zs5
def P0:Shp:=⟨[(3,zs2)],[]⟩
def Qma:Exs:=[(.x 0,⟨[],[]⟩),(.r,⟨[(2,zs4)],[]⟩)]
def Juv:Shp:=⟨[(37,zs4)],[]⟩
def He:Hn:=.nl 4 zs5
def Jpr:Shp:=⟨[(49,zs4)],[]⟩
def Juw:Hn:=.nl 5 .done
def Jux:Shp:=⟨[(55,zs4)],[]⟩
def Jkw:Shp:=⟨[(19,zs4)],[]⟩
def Q97:Hn:=.nl 8 zs5
def Qt2:Hn:=.nl 1 zs5
def Jps:Hn:=.nl 4 (.n 3 Qt2)
def Jkx:Hn:=.call 1 Qt2
def Jky:Hn:=.nl 2 Jkx
def Juy:Hn:=.nl 2 (.call 2 Qt2)
def zs27:Hn:=.n 15 .done
def Jw6:Hn:=.nl 2 (.call 3 Qt2)
def Jpt:Shp:=sD [Zz,.i]
def Me:Shp:=⟨[(5,zs2)],[]⟩
def Q47:Shp:=⟨[(4,zs2)],[]⟩
def Qoc:Exs:=[(.x 0,⟨[],[]⟩),(.r,Q47)]
def Qkh:Exs:=[(.x 0,⟨[],[]⟩),(.r,⟨[(4,zs4)],[]⟩)]
def Jkz:Hn:=.call 0 Qt2
def Jk0:Hn:=.nl 2 zs5
def Jw7:HT:=.a (.a (.a (.a (.a (.a (.a (.tl Jk0)))))))
def Juz:Shp:=sD [Zz,Jp]
def Jpu:Hn:=.nl 3 Jkx
def Q0q:Hn:=.nl 5 zs5
def Jpv:Shp:=⟨[(41,zs4)],[]⟩
def Jpw:Hn:=.call 2 zs5
def Q48:Shp:=sD [.sl .str,.str]
def Jw8:Exs:=[(.n,⟨[],[]⟩),(.r,Q47)]
def Nx:Sk:=.s 1
def Qf8:List (Nat×Sk):=[(0,Nx)]
def Q49:SkO:=.row 9 .str
def Q98:Shp:=⟨Qf8,[(1,Q49)]⟩
def Q99:Shp:=⟨[(18,zs4)],[]⟩
def Qqf:Hn:=.nl 6 zs5
def Qdk:Sk:=.s 100000
def Qt3:Sk:=.s 100200
def Ju0:Exs:=[(.x 0,⟨[(5,Qt3)],[(100200,Q49)]⟩)]
def Qmb:Sk:=.s 100100
def Ju1:Exs:=[(.n,⟨[(5,Qmb)],[(100100,Q49)]⟩)]
def Jw9:Shp:=sD [Vw,Jp]
def Qia:Sk:=.p 100000 []
def V1:Sk:=.d .str
def Ju2:SkO:=.var 260 (.ag (sL [zs2,zs2,zs2,V1,.d (.sl .str),.d (.sl .str),zs4,zs4]))
def Qib:Sk:=.s 2
def Q5a:Sk:=.s 3
def Ju3:List (Nat×Sk):=[(0,.ag (sL [Nx,Qib,Q5a]))]
def Jaa:SkO:=.row 243 Zc
def Qv4:SkO:=.row 260 Vw
def Qbw:SkO:=.row 3 .i
def Bb:HT:=.tl zs5
def Qf9:Sk:=.p 100100 []
def Ju4:Sk:=.p 100101 []
def Ju5:Sk:=.s 100102
def Qt4:Sk:=.p 100200 []
def Q5b:Sk:=.s 100201
def Ju6:Sk:=.s 100202
def Qv5:Hn:=.n 3 .done
def Qic:HT:=.tl Qv5
def Jxa:Exs:=[(.n,⟨[(90,zs4)],[]⟩)]
def Jab:Hn:=.n 2 .done
def Jac:HT:=.tl Jab
def Qid:Shp:=sD [.i,.i]
def Qt5:Sk:=.s 100001
def Jpx:Sk:=.s 100002
def Jpy:Sk:=.s 100003
def Jad:Hn:=.n 6 .done
def Q5c:Hn:=.call 0 zs5
def Jk1:Hn:=.call 1 zs5
def Qqg:Exs:=[(.x 0,⟨[],[]⟩),(.r,⟨[(2,zs2)],[]⟩)]
def Ju7:Exs:=[(.x 2,⟨[],[]⟩),(.r,⟨[(2,zs2)],[]⟩)]
def Jxb:Shp:=sD [J4]
def Ju8:Shp:=⟨[(63,zs4)],[]⟩
def Jpz:Hn:=.nl 13 .done
def Ju9:Shp:=sD [.int .u8]
def Jae:Hn:=.nl 2 Jkz
def Jaf:Shp:=⟨[(7,zs2)],[]⟩
def Jxc:Exs:=[(.x 0,⟨[],[]⟩),(.r,⟨[(6,zs4)],[]⟩)]
def Qqh:Shp:=⟨[(8,zs2)],[]⟩
def Jk2:Shp:=⟨[(6,zs2)],[]⟩
def Qqi:Hn:=.n 8 .done
def Jxd:Shp:=sD [.sl V3]
def Jxe:Shp:=sD [.sl Ub]
def Jxf:Shp:=sD [Yj,.str]
def Jva:Shp:=sD [.sl Vl]
def Q5d:Shp:=sD [Yj]
def Qx4:Shp:=sD [Xv]
def Jcu:HT:=.a Bb
def Qt6:Hn:=.n 7 .done
def Jrq:Exs:=[(.n,⟨[(42,zs4)],[]⟩)]
def Jrr:Shp:=⟨[(7,Qdk),(8,zs2)],[(100000,Qbw)]⟩
def Jrs:Shp:=⟨[(4,zs2),(5,zs2)],[]⟩
def Jrt:HT:=.a (.a Jw7)
def Jcv:Shp:=sD [.sl Q9]
def Q5e:Shp:=sD [J2]
def Q5f:Shp:=sD [Q9,Q9]
def Jk3:Shp:=⟨[(30,zs4)],[]⟩
def Jru:HT:=.a (.a (.a (.a (.a (.tl Qt2)))))
def Q5g:HT:=.a (.a Jru)
def Jrv:Shp:=sD [.sl J6]
def Jcw:Shp:=sD [J5]
def Q5h:Shp:=sD [Q9]
def Jk4:Shp:=sD [J6]
def Jcx:SkO:=.row 216 Xv
def Jk5:HT:=.k 1 [] [] [] [] Jac
def Qga:SkO:=.row 210 V3
def Qmc:SkO:=.row 138 Ub
def Qt7:SkO:=.row 76 Xu
def Q5i:SkO:=.row 218 Ul
def Jrw:List (Nat×SkO):=[(1,Qga),(2,Qmc),(3,Qt7),(4,Q5i)]
def Jrx:Shp:=⟨[(0,.ag (sL [V1,zs2,zs4,Nx,Qib,Q5a,.s 4]))],Jrw⟩
def Jry:SkO:=.row 135 Jp
def Jcy:SkO:=.row 146 Yj
def Qpq:SkO:=.row 133 J4
def Jcz:SkO:=.row 156 Vd
def Jrz:HT:=.b 1 (.tl (.n 5 .done))
def Qx5:Sk:=.s 100300
def Qx6:SkO:=.row 160 Zk
def Q5j:Sk:=.s 100400
def Uk:SkO:=.row 129 Q9
def Yy:SkO:=.row 101 J6
def Lm:SkO:=.row 103 Um
def Q5k:Shp:=⟨Ju3,[(1,Uk),(2,Yy),(3,Lm)]⟩
def Jc0:List (Nat×Sk):=[(0,.p 1 [])]
def Fa:SkO:=.map .i Ye
def Jr0:Shp:=sD [J7,.i]
def Jr1:Shp:=sD [Ye]
def Jr2:Sk:=.ag (sL [zs2,V1,V1,zs2,Nx])
def Jk6:Sk:=.ag (sL [zs2,zs2,zs2,V1,V1,zs2,Jr2,zs2,zs2])
def Kk:Sk:=.d Se
def Qt8:SkO:=.row 141 Vl
def Zl:SkO:=.row 185 Xw
def Jr3:Shp:=⟨[(0,.ag (sL [zs2,zs2,zs2,zs2,Jk6,zs2,Qib,zs2,zs2,zs4,Kk]))],[(1,Qt8),(2,Zl)]⟩
def Jk7:List (Nat×Sk):=[(5,Qdk),(10,zs2)]
def Qmd:Sk:=.p 100300 []
def Jk8:Sk:=.p 100301 []
def Jc1:SkO:=.var 260 (.ag (sL [zs2,zs2,zs2,V1,.ns,.ns,zs4,zs4]))
def Qx7:Shp:=sD [.sl Jp,.i]
def Qpr:SkO:=.row 373 Vx
def Q5l:Sk:=.p 100001 []
def Jk9:Sk:=.d Vw
def Jla:SkO:=.var 260 Jk9
def Jlb:Sk:=.p 100201 []
def Jc2:Hn:=.nl 9 zs5
def Jr4:Shp:=sD [Vx,Vx]
def Jr5:List (Nat×Sk):=[(7,Qdk),(13,zs2)]
def Jc3:SkO:=.row 235 Dq
def Jr6:List (Nat×Sk):=[(6,Qdk),(16,zs2)]
def Qps:Sk:=.d J5
def Jc4:Shp:=sD [.sl Jp,.i,.i]
def Jr7:SkO:=.var 235 (.ag (sL [Qps,V1,.ns,zs4,zs4]))
def Jlc:List (Nat×Sk):=[(6,Qt4),(7,zs4)]
def Q5m:SkO:=.map .i Zc
def Qpt:SkO:=.map .i .bool
def Na:SkO:=.map .i .i
def Jld:Sk:=.d (.sl Jp)
def P1:SkO:=.var 3 zs2
def Jc5:Shp:=sD [.sl .i,.i]
def Xl:Sk:=.p 5000 []
def Qt9:Sk:=.m 5001
def Qel:Sk:=.m 5002
def Jc6:Sk:=.m 5003
def Jc7:Sk:=.m 5004
def Jc8:Sk:=.m 5005
def Jle:List (Nat×SkO):=[(5000,.var 414 (.ag (sL [Qt9,Qel,Jc6,Jc7,Jc8,.s 5006,.s 5007]))),(5001,Q5m),(5002,.map .i Vw),(5003,Qpt),(5004,.map .str .i),(5005,Na),(5006,Qbw),(5007,Qbw)]
def Jlf:List (Nat×SkO):=[(5004,.map .str .i)]
def Fb:List (Nat×Sk):=[(0,Xl)]
def Qbx:Hn:=.dt 5000 .done
def Jr8:Shp:=⟨[(0,.ag (sL [Nx,Qib]))],[(1,Jaa),(2,Qv4)]⟩
def Jlg:SkO:=.mapC .i (.sl 3 .i)
def Qua:Sk:=.s 100301
def Q5n:Sk:=.s 100302
def Jc9:Sk:=.p 100400 []
def Q5o:Sk:=.s 100401
def Jda:Sk:=.s 100402
def Jr9:List (Nat×Sk):=[(6,Qia),(15,zs2)]
def Jsa:Shp:=sD [.sl Zn]
def Jdb:List (Nat×SkO):=[(1,Qt8)]
def Qx8:List (Nat×Sk):=[(3,Qmb)]
def Qme:Sk:=.s 100101
def Jlh:Sk:=.s 100501
def Jli:Sk:=.s 100502
def Jlj:Hn:=.n 4 .done
def Jlk:Exs:=[(.x 0,Qqh)]
def Jsb:List (Nat×SkO):=[(5000,.var 210 (.d V3))]
def Jll:Sk:=sL [Xl]
def Jsc:Shp:=⟨[(0,.d (.sl V3)),(1,.f 276 Jll)],Jsb⟩
def Qx9:SkO:=.map .str .str
def Jlm:Sk:=.m 100000
def Jln:Sk:=.m 100100
def Jsd:An:=.two (.reg Jab) .nil
def Jse:List (Nat×SkO):=[(5000,.var 138 (.d Ub))]
def Jsf:Shp:=⟨[(0,.d (.sl Ub)),(1,.f 279 Jll)],Jse⟩
def Jlo:Shp:=⟨[(13,zs2)],[]⟩
def Qgb:Sk:=.p 5001 []
def Jsg:List (Nat×SkO):=[(5000,P1),(5001,P1)]
def Jsh:Shp:=⟨[(0,.d (.sl Zn)),(1,.f 281 (sL [Xl,Qgb]))],Jsg⟩
def Q5p:SkO:=.var 9 V1
def Jsi:SkO:=.var 76 (.ag (sL [zs2,V1,V1,zs2,.ns]))
def Jlp:Shp:=⟨[(0,.ag (sL [zs2,zs2,V1,zs2,zs2,Nx,Qps,zs2,zs2,zs2,zs4]))],[(1,Q49)]⟩
def Jlq:Shp:=sD [J5,J5]
def Jdc:Sk:=.d (.sl J5)
def Ln:SkO:=.row 127 J5
def Qub:Shp:=⟨Qf8,[(1,Ln)]⟩
def Jlr:List (Nat×SkO):=[(100000,Ln)]
def Jsj:Exs:=[(.x 0,⟨[(7,Qt3)],[(100200,Ln)]⟩)]
def Jsk:Exs:=[(.n,⟨[(7,Qmb)],[(100100,Ln)]⟩)]
def Jdd:SkO:=.row 304 Uy
def Qya:SkO:=.mapC .str (.mp .i .bool)
def Jls:Shp:=⟨[(11,zs2)],[]⟩
def Jde:SkO:=.var 429 (.d Qh1)
def Jsl:HT:=.b 1 (.c 1 Qic)
def Qyb:Sk:=.s 5002
def Qpu:Sk:=.s 5001
def Qpv:SkO:=.row 433 Ud
def Jsm:Shp:=⟨[(0,Jdc),(1,zs2),(2,Xl)],[(5000,.var 431 Qpu),(5001,Qpv)]⟩
def Jsn:Shp:=⟨[],[(5000,.var 431 Nx),(1,Qpv)]⟩
def Jso:SkO:=.var 437 (.d (.arr 2 .i))
def Jsp:List (Nat×SkO):=[(5000,Q5p),(5001,P1)]
def Jsq:Sk:=.d (.sl J4)
def Jdf:SkO:=.row 308 Fi
def Qem:SkO:=.map Zo .bool
def Jsr:HT:=.k 0 [] [] [] [] Bb
def Jlt:Sk:=.m 100002
def Jlu:Sk:=.m 100102
def Jdg:List (Nat×Sk):=[(0,Nx),(1,zs2)]
def Q5q:Shp:=sD [.i,.i,.i]
def Qmf:Shp:=sD [J6,.i]
def Q5r:SkO:=.var 101 (.d J6)
def Jss:Hn:=.n 2 (.call 4 .done)
def Jst:HT:=.a (.a (.a (.a (.a (.a (.a (.a (.a (.a (.a (.a (.a (.a (.tl Qf7))))))))))))))
def Jlv:Hn:=.nl 3 Jkz
def Jsu:SkO:=.var 243 (.ag (sL [zs2,zs2,zs2,zs4,zs4,.ns]))
def Jsv:Shp:=sD [.sl Vl,.i]
def Jsw:Exs:=[(.n,⟨[(10,zs2)],[]⟩)]
def Jsx:Shp:=sD [Ig,.i]
def Nb:Sk:=.d Uu
def Wk:Sk:=.d (.sl Q9)
def Qyc:Sk:=.s 5000
def C8:Sk:=.d (.sl Um)
def Jdh:Sk:=.ag (sL [Wk,Qyc,C8])
def Qen:Sk:=.d Hl
def Jlw:List (Nat×Sk):=[(0,.d J6),(1,Xl)]
def Jsy:Sk:=.ag (sL [zs2,zs2,zs2,zs2,Qen,zs2,Qyb,zs2,zs2,zs4,Kk])
def Q5s:Sk:=.s 5003
def Jlx:List (Nat×Sk):=[(0,Qyc),(1,.f 158 (sL [Qgb]))]
def Jsz:Sk:=.ag (sL [zs2,zs2,zs2,zs2,Qen,zs2,Q5s,zs2,zs2,zs4,Kk])
def Js0:Sk:=.ag (sL [Wk,Qyb,C8])
def Qyd:List (Nat×SkO):=[(5000,.var 173 (.ag (sL [.ag (sL [zs2,zs2,zs2,zs2,Qen,zs2,Qpu,zs2,zs2,zs4,Kk]),Js0]))),(5001,Zl),(5002,Yy)]
def Qgc:List (Nat×Sk):=[(0,zs2)]
def Quc:List (Nat×Sk):=[(0,Xl),(1,zs2)]
def Jly:Sk:=.ag (sL [zs2,zs2,zs2,zs2,Qen,zs2,Nx,zs2,zs2,zs4,Kk])
def Jlz:Sk:=.ag (sL [Wk,Qib,C8])
def Js1:List (Nat×SkO):=[(5000,.var 173 (.ag (sL [Jly,Jlz]))),(1,Zl),(2,Yy)]
def Q5t:HT:=.tl Jlj
def Js2:List (Nat×Sk):=[(0,Xl),(1,Nb),(2,zs2),(3,zs2)]
def Js3:List (Nat×SkO):=[(5000,.var 173 (.ag (sL [.ag (sL [zs2,zs2,zs2,zs2,.ag (sL [zs2,zs2,zs2,V1,V1,zs2,.ag (sL [zs2,V1,V1,zs2,Qpu]),zs2,zs2]),zs2,Qyb,zs2,zs2,zs4,Kk]),.ag (sL [Q5s,.s 5004,.s 5005])]))),(5001,Qt8),(5002,Zl),(5003,Uk),(5004,Yy),(5005,Lm)]
def Q5u:Sk:=.ag (sL [zs2,zs2,zs2,V1,V1,zs2,.ag (sL [zs2,V1,V1,zs2,.d (.sl Vl)]),zs2,zs2])
def Js4:HT:=.d 5000 5000 (.b 5000 (.b 5000 (.g [5000] [23702] [] [5000,14802,23701,23702] (.tl .done))))
def Jl0:List (Nat×Sk):=[(0,Xl),(1,.d J7),(2,zs2),(3,zs2),(4,zs2)]
def Qye:Sk:=.ag (sL [Wk,Nx,C8])
def Js5:Sk:=.ag (sL [zs2,zs2,zs2,zs2,Qen,zs2,Qib,zs2,zs2,zs4,Kk])
def Js6:Shp:=⟨[(0,Qye),(1,Js5),(2,Kk)],[(5000,.var 173 (.ag (sL [Js5,Qye]))),(1,Yy),(2,Zl)]⟩
def Js7:List (Nat×Sk):=[(0,Xl),(1,.d J7),(2,zs2)]
def Jl1:Exs:=[(.n,zs3)]
def Js8:HT:=.a Qic
def Qmg:Sk:=.d Ye
def Q5v:List (Nat×SkO):=[(5000,.var 173 (.ag (sL [Qmg,Qye]))),(1,Yy)]
def Js9:Shp:=⟨[(4,zs2),(5,Qdk),(25,zs2)],[(100000,Zl)]⟩
def Jta:Exs:=[(.x 0,⟨[(4,zs2),(5,Qt3)],[(100200,Zl)]⟩)]
def Jtb:List (Nat×Sk):=[(0,Xl),(11,zs2)]
def Jtc:Sk:=.ag (sL [zs2,zs2,zs2,zs2,Qen,zs2,Jlh,zs2,zs2,zs4,Kk])
def Jtd:Sk:=.ag (sL [Wk,Qpu,C8])
def Q5w:List (Nat×SkO):=[(5000,.var 173 (.ag (sL [Qmg,Jtd]))),(5001,Yy)]
def Jte:Shp:=⟨[(0,Qye),(1,Qmg),(2,Kk)],Q5v⟩
def Jtf:HT:=.f 11 11 Bb
def Jl2:Sk:=.d (.sl Xw)
def Jtg:Shp:=⟨[(0,Qye),(1,.ag (sL [zs2,zs2,zs2,zs2,Q5u,zs2,Jl2,zs2,zs2,zs4,Kk])),(2,Kk)],[(1,Yy)]⟩
def Jl3:Sk:=.ag (sL [Wk,Nx,Qib])
def Jl4:List (Nat×SkO):=[(5000,.var 173 (.ag (sL [Qmg,Jl3]))),(1,Yy),(2,Lm)]
def Jth:SkO:=.tail 129 Q9
def Jl5:List (Nat×SkO):=[(5000,.var 173 (.ag (sL [Qmg,.ag (sL [Wk,Qpu,Qyb])]))),(5001,Yy),(5002,Lm)]
def Jti:Shp:=sD [Uu,J2,Ye,J7]
def Jtj:Sk:=.ag (sL [Wk,Qt5,C8])
def Jtk:Sk:=.ag (sL [Wk,Qme,C8])
def Jtl:HT:=.a Js8
def Jdi:List (Nat×SkO):=[(5000,.var 91 (.ag (sL [Nb,Jtd,Qel]))),(5001,Yy),(5002,Fa)]
def Jdj:Shp:=⟨Fb,Jdi⟩
def Q5x:List (Nat×Sk):=[(0,Xl),(1,.d J7)]
def Jl6:Shp:=⟨[(0,Kk)],[(5000,.var 91 (.ag (sL [Nb,Qye,Qel]))),(5002,Fa),(1,Yy)]⟩
def Jl7:HT:=.f 5 5 Bb
def Jdk:HT:=.f 5002 5002 Bb
def Jtm:List (Nat×Sk):=[(0,.d (.sl .i))]
def Jl8:List (Nat×SkO):=[(5000,.var 91 (.ag (sL [Nb,.d J2,Qt9]))),(5001,Fa)]
def Jl9:Sk:=.ag (sL [Wk,.d (.sl J6),C8])
def Jdl:SkO:=.row 81 Ye
def Jtn:Shp:=⟨[(3,Qdk),(12,zs2)],[(100000,Jdl)]⟩
def Jto:Exs:=[(.x 0,⟨Qx8,[(100100,Jdl)]⟩)]
def Jtp:Shp:=sD [Uc]
def Sw:SkO:=.row 5 (.int .u8)
def Jdm:List (Nat×SkO):=[(5000,.var 109 (.ag (sL [Qpu,zs2,Qel]))),(5001,Sw),(5002,Na)]
def Jdn:Shp:=⟨Fb,Jdm⟩
def Jma:Shp:=sD [.sl (.int .u8),.i]
def Jdo:List (Nat×SkO):=[(1,Sw)]
def Qpw:Shp:=⟨Qf8,Jdo⟩
def Jtq:Shp:=sD [.int .u64]
def Qmh:Shp:=sD [.sl (.int .u8)]
def Jtr:Sk:=.d (.sl (.int .u8))
def Q5y:List (Nat×SkO):=[(5000,.var 109 (.ag (sL [Nx,zs2,Qel]))),(5002,Na),(1,Sw)]
def Jmb:SkO:=.row 71 (.sl (.int .u8))
def Jts:Shp:=⟨Fb,[(5000,.var 193 (.d Qd8))]⟩
def Jtt:List (Nat×SkO):=[(5000,.var 193 (.ag (sL [Jtr,zs2])))]
def P2(N:Nat):V:=⟨⟨29,(sD [.sl Jp,.sl J4,J2,.i]),[zs1],u4 (H9 N),[]⟩,kF N [] [(14,.lp [0,1,3] [6] zs3 [(.x 0,⟨[],[]⟩),(.r,⟨[(8,zs4)],[]⟩)]),(32,.rg (.n 8 (.sp 56 8 [0,3] [6] ⟨[(64,zs4)],[]⟩ zs6 zs6 zs5)))] func29⟩
def Nc(N:Nat):V:=⟨⟨134,zs7,[(sD [.arr 5 .bool])],Gs N,[]⟩,kF N [] [(25,.jn [2,3] [2] [(.n,zs8)]),(35,.jn [2,3] [2] [(.n,zs9)]),(49,.jn [2] [2] [(.n,Juu)])] func134⟩
def Qmi(N:Nat):V:=⟨⟨194,zs7,[zs1],Fj N,[]⟩,kF N [] [] func194⟩
def Ey(N:Nat):V:=⟨⟨140,Qt1,[zs1],Uv N,[]⟩,kF N [] [(4,.rg (.n 9 (.sp 12 4 [0] [] ⟨[(16,zs4)],[]⟩ Qf7 Qf7 (.n 1 (.sp 17 4 [0] [] ⟨[(21,zs4)],[]⟩ Qf7 Qf7 .done))))),(14,.lp [0] [] P0 Qma),(24,.rg (.n 5 (.sp 32 5 [3] [] Juv He He (.n 1 (.sp 38 11 [3] [] Jpr (.nl 5 (.sp 43 5 [3,38] [] ⟨[(48,zs4)],[]⟩ Juw Juw zs5)) (.nl 10 zs5) (.n 1 (.sp 50 5 [3] [] Jux He He .done)))))))] func140⟩
def Lo(N:Nat):V:=⟨⟨195,Qt1,[zs1],Wr N,[]⟩,kF N [] [(6,.lp [0] [] P0 Qma),(16,.rg (.n 5 (.sp 14 5 [3] [] Jkw He He .done)))] func195⟩
def Qgd(N:Nat):V:=⟨⟨196,(sD [Jp]),[zs1],Fs N,[]⟩,kF N [] [] func196⟩
def Qie(N:Nat):V:=⟨⟨133,(sD [Jp,.i]),[zs7],u2 (Bs N),[]⟩,kF N [Nc,Qmi,Ey,Lo,Qgd] [(30,.rg (.n 9 (.sp 37 9 [2,5] [2,5] ⟨[(46,zs4)],[]⟩ Q97 Jps (.n 1 (.sp 47 9 [2,5] [2,5] ⟨[(56,zs4)],[]⟩ Q97 Jps (.n 1 (.sp 57 9 [2,5] [2,5] ⟨[(66,zs4)],[]⟩ Q97 Jps (.n 1 (.sp 67 9 [2,5] [2,5] ⟨[(76,zs4)],[]⟩ Q97 Jps .done))))))))),(38,.rg (.n 3 (.sp 79 5 [2,5] [2,5] ⟨[(84,zs4)],[]⟩ Jky He (.n 1 (.sp 85 9 [2,5] [2,5] ⟨[(94,zs4)],[]⟩ Q97 (.nl 3 (.sp 88 5 [2,5,85] [] ⟨[(93,zs4)],[]⟩ (.nl 2 (.call 1 (.nl 2 .done))) Juw zs5)) .done))))),(46,.rg (.n 3 (.sp 97 5 [2,5] [2,5] ⟨[(102,zs4)],[]⟩ Juy He zs27))),(54,.rg (.n 3 (.sp 120 5 [2,5] [2,5] ⟨[(125,zs4)],[]⟩ Jw6 He .done))),(62,.rg (.n 3 (.sp 128 4 [2] [2,5] ⟨[(132,zs4)],[]⟩ (.nl 1 (.call 4 Qt2)) Qf7 .done)))] func133⟩
def Cd(N:Nat):V:=⟨⟨137,Jpt,[zs7],u2 (K2 N),[]⟩,kF N [] [(6,.lp [1,2] [2] Me Qoc)] func137⟩
def Al(N:Nat):V:=⟨⟨138,Jpt,[zs7],u2 (Xx N),[]⟩,kF N [] [(6,.lp [1,2] [2] Me Qoc)] func138⟩
def Lp(N:Nat):V:=⟨⟨198,Jpt,[zs1],u2 (Ws N),[]⟩,kF N [] [(6,.lp [1,2] [2] Me Qkh)] func198⟩
def Qif(N:Nat):V:=⟨⟨197,Jpt,[zs1],u2 (Bt N),[]⟩,kF N [Lp] [(6,.lp [1,2] [2] Me Qkh),(16,.jn [5] [] [(.n,⟨[(31,zs4)],[]⟩)]),(16,.an (.dc 16 [13,14,15,16,17,18,19,20,21,22,23,24,25,26,27,28] [] [2] (.b 2 (.c 2 (.a (.a (.a (.a (.a (.a (.a (.so 21 (.c 2 (.b 2 (.c 2 (.a (.a (.a (.a (.tl Jkz)))))))) Jw7))))))))))))] func197⟩
def Qad(N:Nat):V:=⟨⟨135,Juz,[zs7],u2 (Wt N),[]⟩,kF N [Cd,Al,Qif] [(38,.rg (.n 4 (.sp 26 6 [2,3,5] [2,3] ⟨[(32,zs4)],[]⟩ Jpu Q0q .done))),(46,.rg (.n 4 (.sp 36 5 [2,3,5] [2,3] Jpv (.nl 3 Jpw) He (.n 1 (.sp 42 13 [2,3,5] [2,3] Jux (.nl 12 zs5) (.nl 4 (.sp 46 8 [2,5,42] [] ⟨[(54,zs4)],[]⟩ (.nl 8 .done) (.nl 8 .done) zs5)) .done)))))] func135⟩
def P3(N:Nat):V:=⟨⟨200,Q48,[zs1],u2 (Zp N),[]⟩,kF N [] [(6,.lp [0,1] [] Me Qkh)] func200⟩
def Qge(N:Nat):V:=⟨⟨199,(sD [Zz,.str]),[zs1],u2 (Ft N),[]⟩,kF N [P3] [(6,.lp [1,2] [2] Me Qkh)] func199⟩
def Qgf(N:Nat):V:=⟨⟨136,Juz,[zs7],u2 (Fu N),[]⟩,kF N [Al,Lp,Qge,P3] [(23,.jn [] [2,3,6] Jw8),(67,.jn [3,6,23] [] [(.n,⟨[(53,zs4)],[]⟩)]),(81,.jn [3,6] [] [(.n,⟨[(62,zs4)],[]⟩)])] func136⟩
def Qgg(N:Nat):V:=⟨⟨94,(sD [Zz,Jp,.i]),[zs7],u3 (Fv N),[]⟩,kF N [Qie,Nc,Qad,Qgf] [] func94⟩
def Qig(N:Nat):V:=⟨⟨201,Q48,[Q98],u2 (Gt N),[]⟩,kF N [] [(6,.lp [0,1] [] Me [(.x 0,Me)]),(9,.rg (.n 5 (.sp 11 7 [5] [] Q99 Qqf Qqf .done)))] func201⟩
def Qdl(N:Nat):V:=⟨⟨202,Q48,[Q98],u2 (K3 N),[]⟩,kF N [] [(8,.lp [0,1] [] ⟨[(5,Qdk),(6,zs2)],[(100000,Q49)]⟩ Ju0),(16,.jn [6] [] Ju1)] func202⟩
def Qdm(N:Nat):V:=⟨⟨139,Jw9,[(sD [Vw])],u2 (Hm N),[]⟩,kF N [Qig,Qdl] [(3,.jn [4] [3,4] [(.n,⟨[(2,Qia)],[(100000,Ju2)]⟩)])] func139⟩
def Qgh(N:Nat):V:=⟨⟨95,Juz,[⟨Ju3,[(1,Jaa),(2,Qv4),(3,Qbw)]⟩],u2 (Fw N),[]⟩,kF N [Cd,Al,Qdm] [(3,.an (.dc 14 [7,8,9,10,11,12,13,14,15,16,17,18,19,5] [2] [] (.e 7 (.b 2 (.c 2 (.g [7] [] [10] [10] (.e 11 (.b 2 (.c 2 (.g [11] [] [14] [14] (.e 15 (.b 2 (.c 2 (.g [15] [] [18] [18] (.g [] [] [] [10,14,18] (.e 5 Bb)))))))))))))))),(5,.jn [] [2,3] [(.n,⟨[(4,Qf9),(5,Ju4)],[(100100,.var 198 (.ag (sL [.ns,.ns,.ns]))),(100101,.var 198 (.ag (sL [Ju5,.s 100103,.s 100104]))),(100102,Jaa),(100103,Qv4),(100104,Qbw)]⟩),(.r,⟨[(4,Qt4)],[(100200,.var 198 (.ag (sL [Q5b,Ju6,.s 100203]))),(100201,Jaa),(100202,Qv4),(100203,Qbw)]⟩)]),(15,.an (.dc 6 [66,67,68,69,70,71] [5] [2,3] (.b 5 (.d 5 10 (.c 2 (.b 3 (.c 3 (.k 0 [] [] [] [] Qic)))))))),(21,.jn [2,3,4,5] [4,5,10,14,18] Jxa),(33,.an (.dc 10 [26,27,28,29,30,31,32,33,34,35] [5,14] [3] (.b 5 (.d 5 14 (.a (.b 5 (.d 5 14 (.a (.d 14 14 (.c 14 (.c 3 (.k 2 [] [] [] [] Jac))))))))))))] func95⟩
def Qgi(N:Nat):V:=⟨⟨51,(sD [.sl Jp]),[Qid],Fx N,[]⟩,kF N [Qgg,Qgh] [(18,.lp [0] [] ⟨[(4,Qia),(5,zs2),(6,zs2)],[(100000,.var 198 (.ag (sL [Qt5,Jpx,Jpy]))),(100001,Jaa),(100002,Qv4),(100003,Qbw)]⟩ [(.x 0,⟨[],[]⟩),(.r,⟨[(2,zs2),(3,zs2)],[]⟩)]),(28,.an (.dr 6 Jad Q5c)),(38,.an (.dr 5 (.n 5 .done) Jk1))] func51⟩
def Qgj(N:Nat):V:=⟨⟨203,(sD [.sl .str]),[zs7],Fy N,[]⟩,kF N [Ey] [(14,.lp [0] [] P0 Qqg),(35,.lp [0] [] Q47 Ju7),(45,.an (.dr 10 (.n 10 .done) .done))] func203⟩
def Qev(N:Nat):V:=⟨⟨141,(sD [Zk]),[zs7],Ep N,[]⟩,kF N [Qgj] [] func141⟩
def Qki(N:Nat):V:=⟨⟨96,Jxb,[zs7],Dr N,[]⟩,kF N [Ey,Qev] [(46,.lp [1] [1] P0 Qqg)] func96⟩
def Qgk(N:Nat):V:=⟨⟨52,(sD [.sl J4]),[zs7],Fz N,[]⟩,kF N [Qki] [(14,.lp [0] [] P0 Qqg),(34,.an (.dr 44 (.n 3 (.sp 24 41 [3] [] ⟨[(65,zs4)],[]⟩ (.nl 13 (.sp 37 27 [3,24] [] ⟨[(64,zs4)],[]⟩ (.nl 27 .done) (.nl 13 (.sp 50 13 [3,24,37] [] Ju8 Jpz Jpz (.nl 1 .done))) zs5)) (.nl 40 zs5) .done)) .done))] func52⟩
def Qgl(N:Nat):V:=⟨⟨204,Ju9,[zs1],Wu N,[]⟩,kF N [] [] func204⟩
def Qgm(N:Nat):V:=⟨⟨205,Ju9,[zs1],F0 N,[]⟩,kF N [] [] func205⟩
def Nd(N:Nat):V:=⟨⟨142,Qt1,[zs1],Gu N,[]⟩,kF N [Qgl,Qgm] [(4,.rg (.n 9 (.sp 12 5 [0] [] zs9 He Jae .done))),(14,.lp [0] [] P0 Qma),(24,.rg (.n 3 (.call 0 (.n 2 (.sp 29 6 [3] [] ⟨[(35,zs4)],[]⟩ Jpu Q0q (.n 1 (.sp 36 5 [3] [] Jpv He He .done)))))))] func142⟩
def Nf(N:Nat):V:=⟨⟨207,Qt1,[zs1],Gv N,[]⟩,kF N [] [(4,.rg (.n 9 (.sp 14 4 [0] [] Q99 Qf7 Qf7 (.n 1 (.sp 19 4 [0] [] ⟨[(23,zs4)],[]⟩ Qf7 Qf7 .done))))),(14,.lp [0] [] P0 Qma),(24,.an (.dr 22 (.n 5 (.sp 34 5 [3] [] ⟨[(39,zs4)],[]⟩ He He (.n 5 (.sp 44 5 [3,39] [] Jpr He He Jab)))) .done)),(26,.rg (.n 7 (.sp 56 5 [3] [] ⟨[(61,zs4)],[]⟩ He He .done)))] func207⟩
def Qdn(N:Nat):V:=⟨⟨261,(sD [.sl V3,.i,.i]),[zs1],u3 (Ho N),[]⟩,kF N [] [(6,.lp [0,1,2] [] Jaf Jxc),(18,.lp [7] [] Qqh [(.x 2,⟨[],[]⟩),(.r,⟨[(6,zs4)],[]⟩)]),(34,.an (.dr 17 (.n 17 .done) .done))] func261⟩
def Qih(N:Nat):V:=⟨⟨206,(sD [.sl V3,.i]),[zs7],u2 (Bu N),[]⟩,kF N [Nf,Lo,Qdn] [(16,.lp [0,1,5] [5] Jk2 Qoc),(26,.an (.dr 8 Qqi .done)),(53,.lp [0,1,5] [5] Jaf [(.x 2,⟨[],[]⟩),(.r,Q47)])] func206⟩
def Qgn(N:Nat):V:=⟨⟨143,Jxd,[zs7],F2 N,[]⟩,kF N [Qih] [(14,.lp [0] [] P0 Qqg)] func143⟩
def Qgo(N:Nat):V:=⟨⟨208,(sD [.sl Zn,.bool]),[zs7],u2 (F3 N),[]⟩,kF N [] [(38,.lp [0] [] Me Qoc)] func208⟩
def Qgp(N:Nat):V:=⟨⟨144,Jxe,[zs7],F4 N,[]⟩,kF N [Nf,Qgo] [(22,.lp [0] [] P0 Qqg),(43,.lp [3] [] Q47 Ju7),(53,.an (.dr 11 (.n 11 .done) .done))] func144⟩
def Qii(N:Nat):V:=⟨⟨209,Jxf,[zs1],u2 (Bv N),[]⟩,kF N [] [(6,.lp [1,2] [2] Me Qkh)] func209⟩
def Qij(N:Nat):V:=⟨⟨210,Jxf,[zs1],u2 (Bw N),[]⟩,kF N [] [(6,.lp [1,2] [2] Me Qkh)] func210⟩
def Qgq(N:Nat):V:=⟨⟨211,Jva,[zs7],F5 N,[]⟩,kF N [] [(24,.lp [0] [] ⟨[(3,zs2),(4,zs2)],[]⟩ Qqg)] func211⟩
def Qgr(N:Nat):V:=⟨⟨145,Q5d,[zs7],F6 N,[]⟩,kF N [Qii,Qij,Qgq] [(14,.lp [1] [1] P0 Qqg),(35,.rg (.n 3 (.call 0 (.n 2 (.sp 35 6 [3,4] [4] Jpv Q0q Jpu .done)))))] func145⟩
def Qgs(N:Nat):V:=⟨⟨320,zs7,[zs7],F7 N,[]⟩,kF N [] [] func320⟩
def Qkj(N:Nat):V:=⟨⟨327,Q48,[zs1],u2 (Ea N),[]⟩,kF N [] [(6,.lp [0,1] [] Me Qkh)] func327⟩
def Fc(N:Nat):V:=⟨⟨321,Qt1,[zs7],Zd N,[]⟩,kF N [Qkj] [] func321⟩
def Qkk(N:Nat):V:=⟨⟨299,Qx4,[zs7],Ds N,[]⟩,kF N [Qgs,Fc] [(4,.an (.dc 6 [3,4,5,6,7,8] [1] [] (.b 1 (.c 1 (.k 0 [] [] [] [] (.b 1 (.c 1 Jcu))))))),(28,.rg (.n 4 (.sp 35 5 [1] [1] ⟨[(40,zs4)],[]⟩ Jky He .done)))] func299⟩
def Qew(N:Nat):V:=⟨⟨300,(sD [Xv,.sl .i]),[zs7],u2 (Er N),[]⟩,kF N [Fc] [(41,.an (.dr 7 Qt6 .done)),(48,.jn [] [2] Jw8),(52,.jn [1,30] [] [(.n,⟨[(35,zs4)],[]⟩)]),(66,.jn [1,30] [] Jrq),(80,.jn [1] [] [(.n,Jpr)])] func300⟩
def C9(N n:Nat):Con:=⟨262,(sD [Xv,.i]),[Qid],fun(x0,x1)=>Vy N n x0 x1,[]⟩
theorem Lq(N:Nat):∀n,KO (C9 N n)
 | 0=>⟨Qhz fun _=>rfl,Kj func262 rfl⟩
 | n+1=>have ih:=Lq N n; kF N [Qkk,fun _=>⟨_,ih⟩,Qew] [(26,.lp [1,2] [2] Jrr [(.x 0,⟨[(7,Qmb)],[(100100,Qbw)]⟩),(.r,Jrs)])] func262
def Qmj(N:Nat):V:=⟨C9 N N,Lq N N⟩
def Qik(N:Nat):V:=⟨⟨212,Qx4,[Qid],Bx N,[]⟩,kF N [Qmj] [] func212⟩
def Qae(N:Nat):V:=⟨⟨146,Q5d,[zs7],Wv N,[]⟩,kF N [Nd,Qik] [(14,.lp [1] [1] P0 Qqg),(37,.lp [3,4] [4] Me Ju7),(47,.an (.dr 9 (.n 9 .done) .done))] func146⟩
def Qex(N:Nat):V:=⟨⟨97,Q5d,[zs7],Es N,[]⟩,kF N [Nd,Qgn,Qgp,Qgr,Qae] [(21,.jn [1] [1] [(.n,P0)]),(27,.jn [1] [1] [(.n,P0)]),(33,.jn [] [1] [(.n,P0)])] func97⟩
def Qgt(N:Nat):V:=⟨⟨98,(sD [Yj,Yj]),[zs7],u2 (F8 N),[]⟩,kF N [] [] func98⟩
def Qgu(N:Nat):V:=⟨⟨53,(sD [.sl Yj]),[zs7],F9 N,[]⟩,kF N [Qex,Qgt] [(14,.lp [0] [] P0 Qqg),(34,.jn [3] [] [(.n,⟨[(36,zs4)],[]⟩)]),(34,.an (.dc 12 [22,23,24,25,26,27,28,29,30,31,32,33] [] [] (.a (.a (.a (.so 24 (.a (.a (.a (.a (.a (.a (.a (.a (.a (.tl Jkx)))))))))) Jrt))))))] func53⟩
def Qgv(N:Nat):V:=⟨⟨27,(sD [Uu]),[zs1],Aa N,[]⟩,kF N [P2,Qgi,Qgk,Qgu] [(14,.lp [1] [1] P0 Qma),(24,.an (.dr 32 (.n 7 (.sp 38 7 [3] [] ⟨[(45,zs4)],[]⟩ Qqf Qqf (.n 1 (.sp 46 17 [3] [] Ju8 (.nl 16 zs5) (.nl 3 (.sp 49 13 [3,46] [] ⟨[(62,zs4)],[]⟩ Jpz Jpz zs5)) .done)))) .done)),(34,.rg (.n 3 (.sp 72 5 [1] [1] ⟨[(77,zs4)],[]⟩ Juy He (.n 1 (.sp 78 5 [1] [1] ⟨[(83,zs4)],[]⟩ Jw6 He zs5)))))] func27⟩
def Qkl(N:Nat):V:=⟨⟨99,Jcv,[zs1],Dt N,[]⟩,kF N [] [(14,.lp [0] [] P0 Qma)] func99⟩
def Qkm(N:Nat):V:=⟨⟨54,Q5e,[zs1],Du N,[]⟩,kF N [Qkl] [] func54⟩
def Qdo(N:Nat):V:=⟨⟨100,Q5f,[zs1],u2 (Hp N),[]⟩,kF N [] [] func100⟩
def Qil(N:Nat):V:=⟨⟨147,(sD [.sl Q9,Xw]),[zs7],u2 (By N),[]⟩,kF N [] [(6,.lp [0,3] [3] Me Qoc)] func147⟩
def Qey(N:Nat):V:=⟨⟨101,(sD [.sl Q9,Q9]),[zs1],u2 (Et N),[]⟩,kF N [Qil] [] func101⟩
def Qdp(N:Nat):V:=⟨⟨55,Jcv,[zs1],Hq N,[]⟩,kF N [Qdo,Qey] [(6,.lp [0] [] P0 Qma),(16,.jn [3] [] [(.n,Jk3)]),(16,.an (.dc 19 [10,11,12,13,14,15,16,17,18,19,20,21,22,23,24,25,26,27,28] [] [] (.a (.a (.a (.a (.a (.a (.a (.a (.a (.k 0 [] [] [] [] (.a (.a (.so 21 Q5g (.a (.a (.a (.a (.a (.a (.a (.tl Jk1)))))))))))))))))))))))] func55⟩
def Qaf(N:Nat):V:=⟨⟨56,Jrv,[zs1],Ww N,[]⟩,kF N [] [(6,.lp [0] [] P0 Qma),(16,.an (.dr 12 (.n 12 .done) .done))] func56⟩
def Qim(N:Nat):V:=⟨⟨102,Qt1,[zs1],Gw N,[]⟩,kF N [] [(4,.rg (.n 9 (.sp 13 4 [0] [] zs9 Qf7 Qf7 (.n 1 (.sp 18 4 [0] [] Juu Qf7 Qf7 .done))))),(14,.lp [0] [] P0 Qma)] func102⟩
def Qgw(N:Nat):V:=⟨⟨103,Jcw,[zs1],Ab N,[]⟩,kF N [] [] func103⟩
def Qgx(N:Nat):V:=⟨⟨57,Q5h,[zs7],Ac N,[]⟩,kF N [Qim,Qgw] [(39,.lp [1] [1] P0 [(.x 1,⟨[],[]⟩),(.r,⟨[(2,zs2)],[]⟩)])] func57⟩
def Qgy(N:Nat):V:=⟨⟨104,zs7,[zs1],Z0 N,[]⟩,kF N [] [] func104⟩
def Qgz(N:Nat):V:=⟨⟨58,Jk4,[zs7],Ad N,[]⟩,kF N [Qgy] [(4,.rg (.n 9 (.sp 11 5 [1] [1] ⟨[(16,zs4)],[]⟩ He Jae (.n 1 (.sp 17 5 [1] [1] Juu He Jae (.n 6 (.sp 28 5 [1] [1] ⟨[(33,zs4)],[]⟩ He Jae zs27)))))))] func58⟩
def Qkn(N:Nat):V:=⟨⟨28,Q5e,[zs1],Dv N,[]⟩,kF N [Qkm,Qdp,Qaf,Qgx,Qgz] [(4,.rg (.n 1 (.call 0 (.n 2 (.sp 8 5 [1] [1] zs8 He Jky (.n 1 (.sp 14 5 [1] [1] Jkw He Juy .done))))))),(14,.lp [1] [1] P0 Qma),(35,.lp [1] [1] Q47 [(.x 2,⟨[],[]⟩),(.r,⟨[(2,zs4)],[]⟩)])] func28⟩
def Da(N n:Nat):Con:=⟨110,Qx4,[Qx4],fun x0=>Vz N n x0,[]⟩
theorem Lr(N:Nat):∀n,KO (Da N n)
 | 0=>⟨Qhz fun _=>rfl,Kj func110 rfl⟩
 | n+1=>have ih:=Lr N n; kF N [fun _=>⟨_,Qac⟩,fun _=>⟨_,ih⟩] [(8,.lp [1,2,10] [1,2] ⟨[(11,zs2)],[(10600,Jcx)]⟩ [(.x 0,⟨[],[(10600,Jcx)]⟩)]),(19,.an (.dc 9 [14,15,16,17,18,19,20,21,22] [10600] [1] (.b 1 (.d 1 10600 (.a (.b 1 (.d 1 10600 (.a (.d 10600 10600 (.c 10600 Jk5))))))))))] func110
def Qmk(N:Nat):V:=⟨Da N N,Lr N N⟩
def Qin(N:Nat):V:=⟨⟨65,Q5d,[Jrx],Bz N,[]⟩,kF N [fun _=>⟨_,T8⟩,fun _=>⟨_,T9⟩,fun _=>⟨_,Qaa⟩,fun _=>⟨_,Mc⟩,fun _=>⟨_,Zi⟩,fun _=>⟨_,Qab⟩,fun _=>⟨_,Vf⟩,Qmk] [(3,.an (.dc 13 [7,8,9,10,11,12,13,14,15,16,17,18,19] [1] [] (.b 1 (.c 1 (.k 0 [] [] [10900] [10900] (.b 1 (.c 1 (.k 1 [] [] [11200] [11200] (.b 1 (.c 1 (.k 2 [] [] [11500] [11500] (.b 1 (.c 1 (.k 3 [] [] [11800] [11800] (.b 1 (.tl Qt6)))))))))))))))),(8,.lp [1,2,25] [1,2,11200,11500,11800] ⟨[(26,zs2)],[(10900,Qga)]⟩ [(.x 0,⟨[],[(10900,Qga)]⟩)]),(19,.an (.dc 10 [29,30,31,32,33,34,35,36,37,38] [10900] [1] (.b 1 (.d 1 10900 (.a (.b 1 (.d 1 10900 (.a (.d 10900 10900 (.b 10900 (.c 10900 (.k 4 [] [] [13800] [13800] (.tl (.n 2 (.fz 13800 zs5))))))))))))))),(25,.lp [1,2,44] [1,2,10900,11500,11800] ⟨[(45,zs2)],[(11200,Qmc)]⟩ [(.x 2,⟨[],[(11200,Qmc)]⟩)]),(36,.an (.dc 10 [48,49,50,51,52,53,54,55,56,57] [11200] [1] (.b 1 (.d 1 11200 (.a (.b 1 (.d 1 11200 (.a (.d 11200 11200 (.b 11200 (.c 11200 (.k 5 [] [] [15700] [15700] (.tl (.n 2 (.fz 15700 zs5))))))))))))))),(42,.lp [1,2,63] [1,2,10900,11200,11800] ⟨[(64,zs2)],[(11500,Qt7)]⟩ [(.x 4,⟨[],[(11500,Qt7)]⟩)]),(53,.an (.dc 10 [67,68,69,70,71,72,73,74,75,76] [11500] [1] (.b 1 (.d 1 11500 (.a (.b 1 (.d 1 11500 (.a (.d 11500 11500 (.b 11500 (.c 11500 (.k 6 [] [] [17600] [17600] (.tl (.n 2 (.fz 17600 zs5))))))))))))))),(59,.lp [1,2,82] [1,2,10900,11200,11500] ⟨[(83,zs2)],[(11800,Q5i)]⟩ [(.x 6,⟨[],[(11800,Q5i)]⟩)]),(70,.an (.dc 10 [86,87,88,89,90,91,92,93,94,95] [11800] [1] (.b 1 (.d 1 11800 (.a (.b 1 (.d 1 11800 (.a (.d 11800 11800 (.b 11800 (.c 11800 (.k 7 [] [] [] [] Qic))))))))))))] func65⟩
def Qml(N:Nat):V:=⟨⟨32,(sD [Uu]),[⟨[(0,.ag (sL [Nx,Qib,Q5a,.s 4,.s 5,.s 6]))],[(1,Jry),(2,Jcy),(3,Qpq),(4,.row 150 Hk),(5,Qbw),(6,Jcz)]⟩],L3 N,[]⟩,kF N [fun _=>⟨_,Rl⟩,fun _=>⟨_,Qbu⟩,fun _=>⟨_,Qh9⟩,fun _=>⟨_,Px⟩,fun _=>⟨_,Nt⟩,fun _=>⟨_,Lk⟩,Qin,fun _=>⟨_,Py⟩,fun _=>⟨_,Zi⟩,fun _=>⟨_,Vf⟩] [(3,.an (.dc 10 [8,9,10,11,12,13,14,15,16,17] [1] [] (.b 1 (.c 1 (.k 0 [] [] [11000] [11000] (.b 1 (.c 1 (.k 1 [] [] [11300] [11300] (.b 1 (.c 1 (.k 2 [] [] [11600] [11600] Jrz))))))))))),(5,.an (.dc 10 [20,21,22,23,24,25,26,27,28,29] [1] [] (.b 1 (.c 1 (.k 3 [] [] [12200] [12200] (.b 1 (.c 1 (.k 4 [] [] [12500] [12500] (.b 1 (.c 1 (.k 5 [] [] [12800] [12800] Jrz))))))))))),(10,.lp [1,2,34] [1,2,11000,11300,11600,12500,12800] ⟨[(35,zs2)],[(12200,Jcy)]⟩ [(.x 0,⟨[],[(12200,Jcy)]⟩)]),(21,.an (.dc 9 [38,39,40,41,42,43,44,45,46] [12200] [1] (.b 1 (.d 1 12200 (.a (.b 1 (.d 1 12200 (.a (.d 12200 12200 (.c 12200 (.k 6 [] [] [14604,14603,14602,14601] [14601,14602,14603,14604] (.tl (.n 1 (.fz 14601 (.fz 14602 (.fz 14603 (.fz 14604 zs5))))))))))))))))),(27,.lp [1,2,51] [1,2,11000,11300,11600,12200,12800] ⟨[(52,zs2)],[(12500,Qpq)]⟩ [(.x 2,⟨[],[(12500,Qpq)]⟩)]),(44,.lp [4,52,63] [12500] ⟨[(5,Qx5),(64,zs2)],[(100300,Qx6)]⟩ [(.x 4,⟨[(5,Q5j)],[(100400,Qx6)]⟩)]),(55,.rg (.n 7 (.call 8 (.n 2 (.fz 17400 zs5))))),(57,.rg (.n 6 (.fz 100400 zs5))),(63,.lp [1,2,87] [1,2,11000,11300,11600,12200,12500] ⟨[(88,zs2)],[(12800,Jcz)]⟩ [(.x 6,⟨[],[(12800,Jcz)]⟩)]),(74,.an (.dc 10 [91,92,93,94,95,96,97,98,99,100] [12800] [1] (.b 1 (.d 1 12800 (.a (.b 1 (.d 1 12800 (.a (.d 12800 12800 (.b 12800 (.c 12800 (.k 9 [] [] [20000] [20000] (.tl (.n 2 (.fz 20000 zs5)))))))))))))))] func32⟩
def P4(N:Nat):V:=⟨⟨33,Q5e,[Q5k],Eb N,[]⟩,kF N [fun _=>⟨_,Hz⟩,fun _=>⟨_,H0⟩,fun _=>⟨_,Ha⟩,fun _=>⟨_,Zi⟩] [(3,.an (.dc 11 [5,6,7,8,9,10,11,12,13,14,3] [1] [] (.b 1 (.c 1 (.k 0 [] [] [10700] [10700] (.b 1 (.c 1 (.k 1 [] [] [11000] [11000] (.b 1 (.c 1 (.k 2 [] [] [11300] [11300] (.g [] [] [] [10700,11000,11300] (.e 3 Bb))))))))))))),(8,.lp [2,3,17] [1,2,3,11000,11300] ⟨[(18,zs2)],[(10700,Uk)]⟩ [(.x 0,⟨[],[(10700,Uk)]⟩)]),(19,.an (.dc 10 [21,22,23,24,25,26,27,28,29,30] [10700] [3] (.b 3 (.d 3 10700 (.a (.b 3 (.d 3 10700 (.a (.d 10700 10700 (.b 10700 (.c 10700 (.k 3 [] [] [13000] [13000] (.tl (.n 2 (.fz 13000 zs5)))))))))))))))] func33⟩
def Q0r(N:Nat):V:=⟨⟨9,(sD [Uu,J2]),[⟨Jc0,[(1,.var 91 (.ag (sL [.ag (sL [Qib,Q5a,.s 4,.s 5,.s 6,.s 7]),.ag (sL [.s 8,.s 9,.s 10]),.m 11]))),(2,Jry),(3,Jcy),(4,Qpq),(5,.row 150 Hk),(6,Qbw),(7,Jcz),(8,Uk),(9,Yy),(10,Lm),(11,Fa)]⟩],u2 (Qka N),[]⟩,kF N [Qml,P4] [(3,.an (.dc 5 [5,6,7,8,9] [2,3] [] (.c 2 (.k 0 [] [] [10606,10605,10604,10603,10602,10601] [10601,10602,10603,10604,10605,10606] (.c 3 (.k 1 [] [] [10803,10802,10801] [10801,10802,10803] (.e 9 Qic)))))))] func9⟩
def Qby(N:Nat):V:=⟨⟨37,Jr0,[(sD [Se])],u2 (Us N),[]⟩,kF N [] [] func37⟩
def Ng(N:Nat):V:=⟨⟨115,Q5e,[Q5k],Gy N,[]⟩,kF N [fun _=>⟨_,Hz⟩,fun _=>⟨_,H0⟩,fun _=>⟨_,Ha⟩,fun _=>⟨_,Zi⟩] [(3,.an (.dc 11 [5,6,7,8,9,10,11,12,13,14,3] [1] [] (.b 1 (.c 1 (.k 0 [] [] [10700] [10700] (.b 1 (.c 1 (.k 1 [] [] [11000] [11000] (.b 1 (.c 1 (.k 2 [] [] [11300] [11300] (.g [] [] [] [10700,11000,11300] (.e 3 Bb))))))))))))),(8,.lp [2,3,17] [1,2,3,11000,11300] ⟨[(18,zs2)],[(10700,Uk)]⟩ [(.x 0,⟨[],[(10700,Uk)]⟩)]),(19,.an (.dc 10 [21,22,23,24,25,26,27,28,29,30] [10700] [3] (.b 3 (.d 3 10700 (.a (.b 3 (.d 3 10700 (.a (.d 10700 10700 (.b 10700 (.c 10700 (.k 3 [] [] [13000] [13000] (.tl (.n 2 (.fz 13000 zs5)))))))))))))))] func115⟩
def Db(N:Nat):V:=⟨⟨114,Jr1,[Jr3],Xo N,[]⟩,kF N [fun _=>⟨_,E8⟩,fun _=>⟨_,Vf⟩] [] func114⟩
def Ce(N:Nat):V:=⟨⟨78,(sD [J2,Ye,J7,.i]),[⟨[(0,.ag (sL [Nx,Qib,Q5a])),(1,.ag (sL [zs2,zs2,zs2,zs2,.ag (sL [zs2,zs2,zs2,V1,V1,zs2,.ag (sL [zs2,V1,V1,zs2,.s 4]),zs2,zs2]),zs2,.s 5,zs2,zs2,zs4,Kk])),(2,Kk)],[(1,Uk),(2,Yy),(3,Lm),(4,Qt8),(5,Zl)]⟩],u4 (Uz N),[]⟩,kF N [Ng,Db] [(3,.an (.dc 12 [11,12,13,14,15,16,17,18,19,20,1000000010,1000000011] [4,5,6,8,9] [] (.c 4 (.k 0 [] [] [11203,11202,11201] [11201,11202,11203] (.c 5 (.k 1 [] [] [11402,11401] [11401,11402] (.b 6 (.c 6 (.b 6 (.c 6 (.a (.a (.g [8] [11201,11202,11203] [] [8,11201,11202,11203] (.g [9] [11401,11402] [] [9,11401,11402] Bb))))))))))))))] func78⟩
def Qud(N:Nat):V:=⟨⟨227,Ju9,[zs1],Qc2 N,[]⟩,kF N [] [] func227⟩
def P5(N:Nat):V:=⟨⟨162,Qt1,[zs1],Ec N,[]⟩,kF N [Qud] [(6,.lp [0,5] [] Jk2 Qma)] func162⟩
def Qod(N:Nat):V:=⟨⟨316,Q48,[Q98],u2 (O8 N),[]⟩,kF N [] [(6,.lp [0,1] [] Me [(.x 0,Me)]),(9,.rg (.n 5 (.sp 11 7 [5] [] Q99 Qqf Qqf .done)))] func316⟩
def Qio(N:Nat):V:=⟨⟨317,Q48,[Q98],u2 (B0 N),[]⟩,kF N [] [(8,.lp [1,8,9] [] ⟨Jk7,[(100000,Q49)]⟩ Ju0),(16,.jn [10] [] Ju1)] func317⟩
def Qoe(N:Nat):V:=⟨⟨294,Jw9,[(sD [Vw])],u2 (O9 N),[]⟩,kF N [Qod,Qio] [(3,.jn [] [3] [(.n,⟨[(2,Qmd),(4,Jk8)],[(100300,Ju2),(100301,Jc1)]⟩),(.r,⟨[(4,Qt4)],[(100200,Jc1)]⟩)]),(31,.jn [2,3,4,6] [2,4] Jrq),(39,.jn [2,3,4] [2,4] [(.n,Jpr)])] func294⟩
def Qip(N:Nat):V:=⟨⟨248,Qx7,[⟨Qf8,[(1,Qpr)]⟩],u2 (B1 N),[]⟩,kF N [Qoe] [(10,.lp [1,10,11] [] ⟨[(5,Qdk),(6,Q5l),(12,zs2)],[(100000,Qpr),(100001,Jla)]⟩ [(.x 0,⟨[(5,Qx5)],[(100300,Qpr)]⟩)]),(18,.jn [12] [] [(.n,⟨[(5,Qt3),(6,Jlb)],[(100200,Qpr),(100201,Jla)]⟩)]),(32,.an (.dr 13 (.n 3 (.sp 31 10 [5,6,8,9,12] [8,100000,100001] Jpv Jc2 Jc2 .done)) .done))] func248⟩
def Qmm(N:Nat):V:=⟨⟨250,(sD [Vw,Vw]),[zs1],u2 (L4 N),[]⟩,kF N [] [(14,.lp [3,43,44] [2,3] ⟨[(45,zs2)],[]⟩ Qkh)] func250⟩
def Qg0(N:Nat):V:=⟨⟨249,Jr4,[zs1],u2 (Ae N),[]⟩,kF N [Qmm] [] func249⟩
def Qg1(N:Nat):V:=⟨⟨251,Jr4,[(sD [Vx])],u2 (Af N),[]⟩,kF N [] [] func251⟩
def Fd(N:Nat):V:=⟨⟨247,⟨[(0,.d (.sl Vx)),(1,.f 249 .nil),(2,.f 251 .nil)],[]⟩,[⟨Qf8,[(1,Qpr)]⟩],Vp N,[]⟩,kF N [Qg0,Qg1] [(8,.lp [1,2,11,12] [] ⟨Jr5,[(100000,Qpr)]⟩ [(.x 0,⟨[(7,Qt3)],[(100200,Qpr)]⟩)]),(16,.jn [13] [] [(.n,⟨[(7,Qmb)],[(100100,Qpr)]⟩)]),(22,.an (.dc 10 [19,20,21,22,23,24,25,26,27,28] [100000,9] [] (.a (.a (.a (.so 21 (.a (.b 100000 (.a (.a (.d 100000 100000 (.c 100000 (.c 9 (.tl Q5c)))))))) Q5g)))))),(24,.an (.dc 11 [31,32,33,34,35,36,37,38,39,40,41] [100000,9] [] (.b 100000 (.a (.a (.a (.b 100000 (.a (.a (.d 100000 100000 (.c 100000 (.c 9 Jk5))))))))))))] func247⟩
def P6(N:Nat):V:=⟨⟨181,Qx7,[⟨Qf8,[(1,Jc3)]⟩],u2 (Ed N),[]⟩,kF N [Qip,Fd] [(10,.lp [5,14,15] [11201,11301] ⟨Jr6,[(100000,Jc3)]⟩ [(.x 0,⟨[(6,Qx5)],[(100300,Jc3)]⟩)]),(18,.jn [16] [] [(.n,⟨[(6,Qt3)],[(100200,Jc3)]⟩)]),(30,.jn [6,8,16] [8,100000] [(.n,⟨[(9,Qf9)],[(100100,.var 127 Qps)]⟩)]),(35,.an (.dc 17 [40,41,42,43,44,45,46,47,48,49,50,51,52,53,54,55,56] [100100,8] [] (.b 100000 (.c 100100 (.b 8 (.b 8 (.c 8 (.b 8 (.b 8 (.c 8 (.e 48 (.b 8 (.b 8 (.c 8 (.b 8 (.b 8 (.c 8 (.b 48 (.op ⟨.fz 48 (.nl 1 .done),[48],[],[],[48]⟩ Jac)))))))))))))))))))] func181⟩
def Eg(N:Nat):V:=⟨⟨252,Jcw,[zs1],Z3 N,[]⟩,kF N [] [] func252⟩
def Nh(N:Nat):V:=⟨⟨182,(sD [J5,.i]),[zs1],u2 (Gz N),[]⟩,kF N [Eg] [] func182⟩
def Cf(N:Nat):V:=⟨⟨123,Jc4,[(sD [Dq,.bool])],u3 (Ee N),[]⟩,kF N [P6,Nh] [(6,.lp [2,12,13] [11201] ⟨[(6,Qia),(14,zs2)],[(100000,Jr7)]⟩ [(.x 0,⟨[(6,Qf9)],[(100100,Jr7)]⟩),(.r,⟨Jlc,[(100200,.var 235 (.d Dq))]⟩)])] func123⟩
def Qof(N:Nat):V:=⟨⟨256,(sD []),[⟨Jc0,[(1,.var 414 (.ag (sL [.m 2,.m 3,.m 4,.m 5,.m 6,.ns,.ns]))),(2,Q5m),(3,.map .i Vw),(4,Qpt),(5,.map .str .i),(6,Na)]⟩],fun _=>Pb N,[]⟩,kF N [] [] func256⟩
def Qqj(N:Nat):V:=⟨⟨257,Qx7,[⟨[(0,.f 296 (sL [.p 1 [],.p 2 []]))],[(1,.var 22 Jld),(2,P1)]⟩],u2 (To N),[]⟩,kF N [] [] func257⟩
def Qko:AnY:=(.two (.reg (.n 3 .done)) (.un (.lp [2,6,7] [] ⟨[(8,.d .i)],[]⟩ [(.x 0,⟨[],[]⟩),(.r,⟨[],[]⟩)] (.two (.reg (.n 1 .done)) (.two (.two .nil .nil) (.two (.un (.two (.reg (.n 4 .done)) (.two (.yr (.h 5 (.n 5 .done) (.so 16 (.mv (.h 1 (.nl 1 .done) (.yl (.h 2 (.nl 1 (.n 1 .done)) .done)))) (.h 5 (.nl 4 (.n 1 .done)) .done)))) (.two .nil .nil)))) (.reg (.n 2 .done))))))))
def P7(N:Nat):It:=⟨296,[(.sl Jp),(.int .i64)],Jp,fun(x1,x2)=>L5 N x1 x2⟩
theorem Qiq(N:Nat):IO (P7 N):=⟨Jpn (Y:=tx) (N:=N) (it:=P7 N) (an:=Qko) G9 G8 (Jcs N []) func296 rfl (fun x=>by kernel_rfl),Kj func296 rfl⟩
def Qg2(N:Nat):V:=⟨⟨297,Jc5,[⟨Qf8,[(1,Qbw)]⟩],u2 (Wx N),[]⟩,kF N [] [(6,.lp [0,1] [] Me [(.x 0,Me)]),(9,.rg (.n 5 (.sp 11 7 [5] [] Q99 Qqf Qqf .done)))] func297⟩
def Qbz(N:Nat):V:=⟨⟨318,Q48,[Q98],u2 (Kc N),[]⟩,kF N [] [(6,.lp [0,1] [] Me [(.x 0,Me)]),(9,.rg (.n 5 (.sp 11 7 [5] [] Q99 Qqf Qqf .done)))] func318⟩
def Qmn(N:Nat):V:=⟨⟨319,Q48,[Q98],u2 (Fk N),[]⟩,kF N [] [(8,.lp [1,8,9] [] ⟨Jk7,[(100000,Q49)]⟩ Ju0),(16,.jn [10] [] Ju1)] func319⟩
def Qag(N:Nat):V:=⟨⟨298,⟨[(0,Xl),(1,Jk9),(2,.d Jp)],Jle⟩,[⟨[(0,Jk9)],Jlf⟩],u9 (Wy N),[5000,5001,5002,5003,5005,5006,5007]⟩,kF N [Qbz,Qmn] [(3,.jn [6] [5,6] [(.n,⟨[(4,Q5l)],[(5004,.map .str .i),(100001,Ju2)]⟩)]),(10,.an (.dr 8 Qqi zs5)),(16,.an (.dr 6 Jad zs5))] func298⟩
def Ru(N:Nat):V:=⟨⟨258,⟨[(0,Xl),(1,.d Jp)],Jle⟩,[⟨[],[(5000,.var 414 (.ag (sL [Qt9,Qel,Jc6,Jc7,Jc8,Nx,Qib]))),(5001,Q5m),(5002,.map .i Vw),(5003,Qpt),(5004,.map .str .i),(5005,Na),(1,Qbw),(2,Qbw)]⟩],u8 (Xy N),[]⟩,kF N [Qg2,Qag] [(9,.jn [3] [3] [(.n,⟨Fb,[(5000,.var 414 (.ag (sL [Qt9,Qel,Jc6,Jc7,Jc8,.s 100006,.s 100007]))),(5001,Q5m),(5002,.map .i Vw),(5003,Qpt),(5004,.map .str .i),(5005,Na),(100006,Qbw),(100007,Qbw)]⟩)]),(10,.an (.dc 12 [38,39,40,41,42,43,44,37,45,46,4,1000000011] [5000,5001] [3] (.b 5000 (.d 5000 5000 (.b 5000 (.d 5000 5001 (.b 3 (.c 3 (.c 5001 (.a (.a (.a (.e 4 (.f 4 4 Bb)))))))))))))),(14,.gh (.fz 5006 Qbx)),(14,.an (.dc 8 [49,50,51,52,53,54,55,56] [5000] [3] (.b 5000 (.b 5000 (.d 5000 5000 (.b 5000 (.c 5000 (.b 3 (.c 3 (.k 0 [] [] [15601] [15601] Qic)))))))))),(16,.an (.dr 16 (.n 16 .done) zs5)),(21,.an (.dc 8 [77,78,79,80,81,82,83,6] [5000,3,5001] [] (.b 5000 (.d 5000 5000 (.b 5000 (.d 5000 5001 (.b 3 (.c 3 (.c 5001 (.e 6 Bb)))))))))),(24,.an (.dr 7 Qt6 zs5)),(29,.jn [3] [3] [(.n,⟨Fb,[(5000,.var 414 (.ag (sL [Qt9,Qel,Jc6,Jc7,Jc8,.s 100106,.s 100107]))),(5001,Q5m),(5002,.map .i Vw),(5003,Qpt),(5004,.map .str .i),(5005,Na),(100106,Qbw),(100107,Qbw)]⟩)]),(30,.an (.dr 8 Qqi .done)),(32,.gh (.fz 5007 Qbx)),(32,.an (.dc 8 [102,103,104,105,106,107,108,109] [5000] [3] (.b 5000 (.b 5000 (.d 5000 5000 (.b 5000 (.c 5000 (.b 3 (.c 3 (.k 0 [] [] [20901] [20901] Qic)))))))))),(35,.an (.dr 6 Jad zs5)),(37,.an (.dr 8 Qqi zs5)),(38,.an (.dr 15 zs27 zs5)),(43,.an (.dc 8 [143,144,145,146,147,148,149,7] [5000,3,5002] [] (.b 5000 (.d 5000 5000 (.b 5000 (.d 5000 5002 (.b 3 (.c 3 (.c 5002 (.e 7 Bb)))))))))),(48,.lp [0,3,7,151,152] [3,7,5000,5001,5002,5003,5005,5006,5007] ⟨[(153,zs2)],Jlf⟩ [(.x 1,⟨[],Jlf⟩)]),(62,.an (.dr 8 Qqi zs5)),(63,.an (.dr 6 Jad zs5)),(65,.jn [0,3] [3,5000,5001,5002,5003,5004,5005,5006,5007] [(.n,⟨[(177,zs4)],[]⟩)]),(73,.an (.dc 12 [15,16,17,18,19,20,21,14,22,23,10,1000000011] [5000,3,5002] [] (.b 5000 (.d 5000 5000 (.b 5000 (.d 5000 5002 (.b 3 (.c 3 (.c 5002 (.a (.a (.a (.e 10 (.f 10 10 Bb)))))))))))))),(77,.an (.dc 10 [25,26,27,28,29,30,31,32,33,34] [5000,3,10,5004,5001,5002,5003,5005,5006,5007] [] (.b 5000 (.d 5000 5000 (.b 5000 (.d 5000 5002 (.b 3 (.c 3 (.b 5000 (.c 10 (.c 3 (.k 1 [5004] [5000,5001,5002,5003,5005,5006,5007] [] [5004] Bb))))))))))))] func258⟩
def P8(N:Nat):V:=⟨⟨259,⟨Fb,Jle⟩,[Jr8],u7 (Xc N),[5000,5001,5002,5003,5004,5005,5006,5007]⟩,kF N [] [(5,.rg (.br zs5)),(10,.lp [0,2,16,17] [2] ⟨[(3,Qia),(4,.m 100001),(18,zs2)],[(100000,.var 323 (.ag (sL [.ns,Jpx]))),(100001,Jlg),(100002,Qv4)]⟩ [(.x 0,⟨[(3,Qt4),(4,.m 100201)],[(100200,.var 323 (.ag (sL [.ns,Ju6]))),(100201,Jlg),(100202,Qv4)]⟩)]),(18,.jn [18] [] [(.n,⟨[(3,Qf9),(4,.m 100101)],[(100100,.var 323 (.ag (sL [.ns,Ju5]))),(100101,Jlg),(100102,Qv4)]⟩)]),(30,.gh (.op (.v 7 [.f 1 1]) 100001 700000 .done)),(30,.an (.dc 10 [33,34,35,36,37,38,39,40,41,42] [7,100001,700000] [] (.b 100001 (.b 7 (.c 7 (.b 100001 (.b 7 (.c 7 (.op ⟨.br .done,[],[100001,700000],[],[700000]⟩ (.a (.a (.g [700000] [] [42] [42] (.tl (.br .done)))))))))))))),(37,.gh (.fm 100201 .done)),(37,.lp [0,2,4,53,54] [2,100201] ⟨[(3,Qmd),(55,zs2)],[(100300,.var 323 (.ag (sL [Qua,Q5n]))),(100301,Jaa),(100302,Qv4)]⟩ [(.x 2,⟨[(3,Jc9)],[(100400,.var 323 (.ag (sL [Q5o,Jda]))),(100401,Jaa),(100402,Qv4)]⟩)])] func259⟩
def Qmo:AnR:=(.pre (.reg (.n 1 .done)) (.pre (.reg (.call 0 (.n 2 .done))) (.inn (.pre (.reg (.n 2 (.call 1 .done))) (.un (.rf 0 [4,5] [4,5] ⟨[],[(10701,.var 414 (.ag (sL [.m 100001,.m 100002,.m 100003,.m 100004,.m 100005,.s 100006,.s 100007]))),(100001,.map .i Zc),(100002,.map .i Vw),(100003,.map .i .bool),(100004,.map .str .i),(100005,.map .i .i),(100006,.row 3 .i),(100007,.row 3 .i)]⟩ (.reg (.n 2 .done)) (.un (.reg (.n 2 (.call 2 .done))))))) (.two (.reg (.n 1 (.call 3 (.n 1 .done)))) .nil))))
def Qb0(N:Nat):V:=⟨⟨187,Qx7,[Jr8],u2 (B2 N),[]⟩,kR N [Qof,Qqj,Ru,P8] [⟨_,Qiq N⟩] Qmo func187 rfl fun x=>by kernel_rfl⟩
def Que(N:Nat):V:=⟨⟨163,Jc4,[(sD [Vw,.bool])],u3 (Qc3 N),[]⟩,kF N [Qb0] [(6,.lp [1,13,14] [11201,11202] ⟨Jr9,[(100000,Jc1)]⟩ [(.x 0,⟨[(6,Qf9)],[(100100,Jc1)]⟩),(.r,⟨Jlc,[(100200,Jla)]⟩)])] func163⟩
def Qdq(N:Nat):V:=⟨⟨270,(sD [.sl .str]),[Q98],Hs N,[]⟩,kF N [] [] func270⟩
def Qah(N:Nat):V:=⟨⟨271,Jsa,[⟨Qf8,[(1,.row 221 Zn)]⟩],Wz N,[]⟩,kF N [] [] func271⟩
def Qai(N:Nat):V:=⟨⟨272,Jva,[⟨Qf8,Jdb⟩],W0 N,[]⟩,kF N [] [] func272⟩
def Sx(N n:Nat):Con:=⟨273,Qx4,[Qx4],fun x0=>Xd N n x0,[]⟩
theorem Qb1(N:Nat):∀n,KO (Sx N n)
 | 0=>⟨Qhz fun _=>rfl,Kj func273 rfl⟩
 | n+1=>have ih:=Qb1 N n; kF N [fun _=>⟨_,ih⟩] [(8,.lp [1,2,7,8] [1,2] ⟨[(3,Qdk),(9,zs2)],[(100000,Jcx)]⟩ [(.x 0,⟨Qx8,[(100100,Jcx)]⟩)])] func273
def Qv6(N:Nat):V:=⟨Sx N N,Qb1 N N⟩
def Quf(N:Nat):V:=⟨⟨228,Q5d,[Jrx],Qc4 N,[]⟩,kF N [Qdq,Qah,Qai,Qv6] [(10,.lp [1,2,18,19] [1,2] ⟨[(3,Qia),(20,zs2)],[(100000,.var 146 (.ag (sL [V1,zs2,zs4,Qt5,.ns,.ns,.ns]))),(100001,Qga)]⟩ [(.x 0,⟨[(3,Qf9)],[(100100,.var 146 (.ag (sL [V1,zs2,zs4,Qme,.ns,.ns,.ns]))),(100101,Qga)]⟩)]),(21,.an (.dc 9 [24,25,26,27,28,29,30,31,32] [100000,5] [] (.b 100000 (.d 100000 100001 (.b 5 (.c 5 (.b 5 (.c 5 (.k 0 [] [] [13001] [13001] (.b 13001 (.op ⟨.fz 13001 (.nl 1 .done),[13001],[],[],[13001]⟩ Qic))))))))))),(27,.lp [1,2,37,38] [1,2] ⟨[(3,Qt4),(39,zs2)],[(100200,.var 146 (.ag (sL [V1,zs2,zs4,Q5b,Ju6,.ns,.ns]))),(100201,Qga),(100202,Qmc)]⟩ [(.x 2,⟨[(3,Qmd)],[(100300,.var 146 (.ag (sL [V1,zs2,zs4,Qua,Q5n,.ns,.ns]))),(100301,Qga),(100302,Qmc)]⟩)]),(38,.an (.dc 9 [43,44,45,46,47,48,49,50,51] [100200,7] [] (.b 100200 (.d 100200 100202 (.b 7 (.c 7 (.b 7 (.c 7 (.k 1 [] [] [14901] [14901] (.b 14901 (.op ⟨.fz 14901 (.nl 1 .done),[14901],[],[],[14901]⟩ Qic))))))))))),(44,.lp [1,2,56,57] [1,2] ⟨[(3,Jc9),(58,zs2)],[(100400,.var 146 (.ag (sL [V1,zs2,zs4,Q5o,Jda,.s 100403,.ns]))),(100401,Qga),(100402,Qmc),(100403,Qt7)]⟩ [(.x 4,⟨[(3,.p 100500 [])],[(100500,.var 146 (.ag (sL [V1,zs2,zs4,Jlh,Jli,.s 100503,.ns]))),(100501,Qga),(100502,Qmc),(100503,Qt7)]⟩)]),(57,.rg (.n 3 (.fz 16401 Jlj))),(63,.lp [2,74,75] [1,2] ⟨[(3,.p 100600 []),(76,zs2)],[(100600,.var 146 (.ag (sL [V1,zs2,zs4,.s 100601,.s 100602,.s 100603,.s 100604]))),(100601,Qga),(100602,Qmc),(100603,Qt7),(100604,Q5i)]⟩ [(.x 6,⟨[(3,.p 100700 [])],[(100700,.var 146 (.ag (sL [V1,zs2,zs4,.s 100701,.s 100702,.s 100703,.s 100704]))),(100701,Qga),(100702,Qmc),(100703,Qt7),(100704,Q5i)]⟩)])] func228⟩
def Q5z(N:Nat):V:=⟨⟨164,(sD [.sl Yj,.str,.i]),[⟨[(0,.ag (sL [V1,zs2,zs4,Nx,Qib,Q5a,.s 4])),(1,zs4)],Jrw⟩],u3 (Qoa N),[]⟩,kF N [Quf] [(8,.lp [0,1,2,6,11,12] [6] ⟨[(8,zs2),(13,zs2)],[]⟩ Jlk),(16,.jn [13] [] [(.n,Qqh)])] func164⟩
def Q0s(N:Nat):V:=⟨⟨274,Qt1,[zs1],Qkb N,[]⟩,kF N [] [(6,.lp [0,6] [] Jaf Qma)] func274⟩
def Qqk(N:Nat):V:=⟨⟨276,⟨[(0,.d V3),(1,Xl)],Jsb⟩,[zs1],u2 (Tp N),[5000]⟩,kF N [] [] func276⟩
def Ny(N:Nat):V:=⟨⟨304,Jsc,[zs7],u2 (Ko N),[5000]⟩,kF N [Qqk] [(6,.lp [0,1,7] [] Qqh Qoc),(18,.rg (.n 5 (.call 0 .done)))] func304⟩
def D7(N:Nat):V:=⟨⟨275,Jsc,[zs1],u2 (U0 N),[5000]⟩,kF N [Ny] [] func275⟩
def Qv7(N:Nat):V:=⟨⟨229,Jxd,[⟨[(0,.m 1),(1,zs2)],[(1,Qx9)]⟩,⟨[(0,.nm),(1,zs2)],[]⟩],Qfw N,[]⟩,kF N [Q0s,D7,P5] [(16,.lp [0,15,16] [] ⟨[(4,Jlm),(17,zs2)],[(100000,Qx9)]⟩ [(.x 0,⟨[(4,.m 100400)],[(100400,Qx9)]⟩),(.r,⟨[(2,.nm),(3,zs2)],[]⟩)]),(57,.lp [6,17,44,45] [6] ⟨[(4,Jln),(46,zs2)],[(100100,Qx9)]⟩ [(.x 3,⟨[(4,.m 100200)],[(100200,Qx9)]⟩),(.r,⟨[(2,.nm),(3,zs2)],[]⟩)])] func229⟩
def Qql(N:Nat):V:=⟨⟨230,⟨[(0,.m 5000),(1,V1),(2,zs2)],[(5000,Qx9)]⟩,[(sD [.str,.bool])],u3 (Tq N),[5000]⟩,kF N [] [(4,.lp [0,1] [] ⟨[(2,zs2)],[]⟩ [(.x 0,⟨[],[]⟩),(.r,⟨[(6,V1),(7,zs4)],[]⟩)])] func230⟩
def Q0t(N:Nat):V:=⟨⟨165,(sD [.sl V3,.str]),[(sD [.str,.bool])],u2 (Qkc N),[]⟩,kF N [Qv7,P5,Qql] [(4,.an (.cn 6 (.two (.two (.reg (.n 3 (.sp 15 4 [1,6] [] Jkw Qf7 (.nl 1 Jkx) .done))) (.two Jsd (.gh (.tl .done) .nil))) .nil) (.two (.two (.reg (.n 3 (.sp 15 4 [1,6] [11001] Jkw Qf7 (.nl 1 Jkx) .done))) (.two Jsd .nil)) (.two (.reg (.n 4 (.call 2 Jlj))) .nil))))] func165⟩
def Q0u(N:Nat):V:=⟨⟨277,Qt1,[zs1],Qkd N,[]⟩,kF N [] [(6,.lp [0,6] [] Jaf Qma)] func277⟩
def Qqm(N:Nat):V:=⟨⟨279,⟨[(0,.d Ub),(1,Xl)],Jse⟩,[zs1],u2 (Tr N),[5000]⟩,kF N [] [] func279⟩
def Nz(N:Nat):V:=⟨⟨305,Jsf,[zs7],u2 (Kp N),[5000]⟩,kF N [Qqm] [(6,.lp [0,1,7] [] Qqh Qoc),(18,.rg (.n 5 (.call 0 .done)))] func305⟩
def D8(N:Nat):V:=⟨⟨278,Jsf,[zs1],u2 (U1 N),[5000]⟩,kF N [Nz] [] func278⟩
def Qv8(N:Nat):V:=⟨⟨280,Jsa,[zs7],Qfy N,[]⟩,kF N [] [(22,.lp [11,12] [] Jlo Qqg)] func280⟩
def Qv9(N:Nat):V:=⟨⟨232,Jxe,[zs7],Qf0 N,[]⟩,kF N [Q0u,D8,Qv8] [(22,.lp [0,12,13] [] ⟨[(14,zs2)],[]⟩ Qqg),(30,.jn [14] [] [(.n,⟨[],[]⟩),(.r,⟨[(2,zs2)],[]⟩)])] func232⟩
def Qkp(N:Nat):V:=⟨⟨307,Jc5,[zs7],u2 (Dw N),[]⟩,kF N [] [(6,.lp [0,1,7] [] Qqh Qoc)] func307⟩
def Qez(N:Nat):V:=⟨⟨283,Jc5,[zs1],u2 (Eu N),[]⟩,kF N [Qkp] [] func283⟩
def Qkq(N:Nat):V:=⟨⟨284,zs7,[zs7],Dy N,[]⟩,kF N [] [] func284⟩
def Q50(N:Nat):V:=⟨⟨234,Jc5,[zs7],u2 (Qob N),[]⟩,kF N [Qez,Qkq] [] func234⟩
def Qug(N:Nat):V:=⟨⟨281,⟨[(0,.d Zn),(1,Xl),(2,Qgb)],Jsg⟩,[zs1],u3 (Qc5 N),[5000,5001]⟩,kF N [] [] func281⟩
def N0(N:Nat):V:=⟨⟨306,Jsh,[zs7],u3 (Kq N),[5000,5001]⟩,kF N [Qug] [(6,.lp [0,1,7] [] Qqh Qoc),(18,.rg (.n 5 (.call 0 .done)))] func306⟩
def D9(N:Nat):V:=⟨⟨282,Jsh,[zs1],u3 (U2 N),[5000,5001]⟩,kF N [N0] [] func282⟩
def Q0v(N:Nat):V:=⟨⟨233,(sD [.sl Ub,.i,.i]),[Qt1],u3 (Qke N),[]⟩,kF N [D9] [(8,.lp [0,7,11,12] [4,5] Jlo [(.x 0,⟨[],[]⟩),(.r,⟨[(6,V1)],[]⟩)])] func233⟩
def Jag(N:Nat):V:=⟨⟨167,(sD [.sl Ub,.sl .i,.i]),[Qt1],u3 (Qt0 N),[]⟩,kF N [Qv9,Q50,Q0v] [] func167⟩
def Qog(N:Nat):V:=⟨⟨231,⟨[(0,.d Xu),(1,Xl),(2,Qgb),(3,.p 5002 [])],[(5000,P1),(5001,Q5p),(5002,Q5p)]⟩,[zs1],u4 (Pf N),[5000,5001,5002]⟩,kF N [] [] func231⟩
def Quh(N:Nat):V:=⟨⟨166,(sD [Yj,.i,.str,.str]),[⟨[(0,Jr2),(1,zs4)],Jdb⟩],u4 (Qc6 N),[]⟩,kF N [Qog] [(8,.lp [10,15,16] [4,5,6,7] ⟨[(8,Qia),(17,zs2)],[(100000,Jsi)]⟩ [(.x 0,⟨[(8,Qf9)],[(100100,Jsi)]⟩),(.r,⟨[(8,Qt4),(9,zs4)],[(100200,.var 76 (.ag (sL [zs2,V1,V1,zs2,Q5b]))),(100201,Qt8)]⟩)]),(20,.rg (.n 2 (.call 0 .done)))] func166⟩
def Q0w(N:Nat):V:=⟨⟨120,(sD [Uu,J2,.i,.i,.str,.i]),[⟨[(0,Jk6),(1,zs2)],Jdb⟩],u6 (Qkf N),[]⟩,kF N [P5,Cf,Que,Q5z,Q0t,Jag,Quh,fun _=>⟨_,Pz⟩] [(57,.gh (.fz 19402 (.dt 19 (.fz 19403 (.dt 19 (.fz 19404 (.dt 19 .done))))))),(57,.an (.dc 15 [108,109,110,111,112,113,114,115,116,117,107,118,119,23,1000000014] [19,6] [] (.c 19 (.a (.a (.b 19 (.c 19 (.b 6 (.c 6 (.a (.k 5 [] [] [] [] (.k 6 [] [] [21701] [21701] (.b 21701 (.b 21701 (.a (.e 23 (.g [23] [21701] [] [23,21701] Bb)))))))))))))))))] func120⟩
def Mf(N:Nat):V:=⟨⟨74,(sD [J2,Ye]),[⟨Jc0,[(1,.var 173 (.ag (sL [.ag (sL [zs2,zs2,zs2,zs2,.ag (sL [zs2,zs2,zs2,V1,V1,zs2,.ag (sL [zs2,V1,V1,zs2,Qib]),zs2,zs2]),zs2,Q5a,zs2,zs2,zs4,Kk]),.ag (sL [.s 4,.s 5,.s 6])]))),(2,Qt8),(3,Zl),(4,Uk),(5,Yy),(6,Lm)]⟩],u2 (E4 N),[]⟩,kF N [Db,Ng] [(3,.an (.dc 3 [5,6,7] [3,2] [] (.c 3 (.k 0 [] [] [10602,10601] [10601,10602] (.c 2 (.tl (.call 1 Qv5)))))))] func74⟩
def P9(N:Nat):V:=⟨⟨168,Q5h,[Jlp],B3 N,[]⟩,kF N [] [] func168⟩
def Qpx(N:Nat):V:=⟨⟨169,Q5h,[(sD [Zo])],Qbf N,[]⟩,kF N [] [] func169⟩
def Qqn(N:Nat):V:=⟨⟨170,Qx7,[zs7],u2 (Tt N),[]⟩,kF N [] [(6,.lp [1,7,8] [] zs3 Qoc)] func170⟩
def Qg3(N:Nat):V:=⟨⟨286,⟨[(0,.d Dq),(1,Xl)],[(5000,Q5p)]⟩,[zs1],u2 (Ag N),[5000]⟩,kF N [] [(6,.lp [1,7,8] [2] zs3 [(.x 0,⟨[],[]⟩),(.r,⟨[(3,zs4)],[]⟩)])] func286⟩
def Qg4(N:Nat):V:=⟨⟨309,Jlq,[zs1],u2 (Ah N),[]⟩,kF N [] [] func309⟩
def Qg5(N:Nat):V:=⟨⟨310,Jlq,[Jcw],u2 (Ai N),[]⟩,kF N [] [] func310⟩
def Ls(N:Nat):V:=⟨⟨308,⟨[(0,Jdc),(1,.f 309 .nil),(2,.f 310 .nil)],[]⟩,[Qub],Ze N,[]⟩,kF N [Qg4,Qg5] [(8,.lp [1,2,11,12] [] ⟨Jr5,Jlr⟩ Jsj),(16,.jn [13] [] Jsk),(22,.an (.dc 10 [19,20,21,22,23,24,25,26,27,28] [100000,9] [] (.a (.a (.a (.so 21 (.a (.b 100000 (.a (.a (.d 100000 100000 (.c 100000 (.c 9 (.tl Q5c)))))))) Q5g)))))),(24,.an (.dc 11 [31,32,33,34,35,36,37,38,39,40,41] [100000,9] [] (.b 100000 (.a (.a (.a (.b 100000 (.a (.a (.d 100000 100000 (.c 100000 (.c 9 Jk5))))))))))))] func308⟩
def Qkr(N:Nat):V:=⟨⟨285,⟨[(0,Jld),(1,zs2),(2,.f 286 Jll)],[(5000,Q5p)]⟩,[Qub],u3 (Dz N),[5000]⟩,kF N [P6,Qg3,Ls] [(8,.lp [2,12,13] [11201] ⟨[(7,Qdk),(14,zs2)],Jlr⟩ Jsj),(16,.jn [14] [] Jsk),(20,.rg (.n 2 (.call 1 .done)))] func285⟩
def Qks(N:Nat):V:=⟨⟨235,(sD [.sl Jp,.i,.str]),[Qub],u3 (D1 N),[]⟩,kF N [Qkr] [] func235⟩
def Qqo(N:Nat):V:=⟨⟨236,(sD [Uy,Uy]),[zs1],u2 (Tu N),[]⟩,kF N [] [] func236⟩
def Qmp(N:Nat):V:=⟨⟨171,Qx7,[⟨Qf8,[(1,Jdd)]⟩],u2 (L6 N),[]⟩,kF N [Qks,Qqo] [(5,.rg (.br zs5)),(12,.lp [0,1,15,16] [] ⟨[(5,Jlm),(6,.m 100001),(7,Jpx),(17,zs2)],[(100000,Qpt),(100001,Qya),(100002,Jdd)]⟩ [(.x 0,⟨[(7,.s 101100)],[(101100,Jdd)]⟩)]),(20,.jn [17] [] [(.n,⟨[(5,.m 101000),(6,.m 101001),(7,.s 101002)],[(101000,Qpt),(101001,Qya),(101002,Jdd)]⟩)]),(24,.jn [6,7,9,17] [9,100001,100002] [(.n,⟨[(5,Jln)],[(100100,Qpt)]⟩)]),(31,.jn [5,7,9,17] [9,100002,100100] [(.n,⟨[(6,.m 100300),(51,zs4)],[(100300,Qya)]⟩)]),(31,.gh (.op (.v 9 [.f 5 5]) 100001 700000 .done)),(31,.rg (.n 11 (.sp 43 8 [5,6,7,9,17] [100001,700000] ⟨[(51,zs4)],[]⟩ zs6 (.nl 3 (.br (.nl 2 (.br zs5)))) (.cl 100001 .done)))),(36,.jn [5,7,9,17] [9,100002,100100] [(.n,⟨[(6,.m 100500)],[(100500,Qya)]⟩)]),(37,.jn [5,7,9,17] [] [(.n,⟨[(6,.m 100400),(56,zs4)],[(100400,Qya)]⟩)]),(37,.gh (.op (.v 9 [.f 5 5]) 100300 700001 .done)),(37,.rg (.n 3 (.br (.n 1 (.cl 100300 .done))))),(39,.rg (.n 4 (.br .done))),(42,.jn [5,7,9,17] [9,100002,100100] [(.n,⟨[(6,.m 100600)],[(100600,Qya)]⟩)]),(42,.gh (.op (.v 9 [.f 5 5]) 100500 700002 .done)),(42,.rg (.n 3 (.br (.n 3 (.cl 100500 .done))))),(44,.an (.dc 13 [67,68,69,70,71,72,73,74,75,76,77,78,10] [9] [] (.a (.b 9 (.c 9 (.b 9 (.c 9 (.a (.b 9 (.c 9 (.b 9 (.c 9 (.k 0 [] [] [17701] [17701] (.b 17701 (.e 10 Bb))))))))))))))),(49,.gh (.fz 17701 .done)),(49,.lp [5,6,7,10,17] [9,10,17701,100002,100100,100600] Jls [(.x 2,Jls)]),(52,.jn [11] [] Jxa),(52,.an (.dc 10 [79,80,81,82,83,84,85,86,87,88] [] [100002,10] (.a (.b 100002 (.c 100002 (.a (.a (.so 83 (.b 100002 (.a (.d 100002 100002 (.c 100002 (.d 10 17701 (.tl Jk1)))))) Jru)))))))),(59,.rg (.n 2 (.fz 100002 Qv5)))] func171⟩
def Lt(N:Nat):V:=⟨⟨238,Jlq,[(sD [J5,.bool])],u2 (W5 N),[]⟩,kF N [Eg] [(6,.rg (.n 1 (.call 0 (.n 2 (.sp 21 4 [3,4,6] [2,3,4,6] ⟨[(25,zs4)],[]⟩ Qf7 (.nl 1 Jkz) Qt6)))))] func238⟩
def Sy(N:Nat):V:=⟨⟨323,zs7,[zs7],Ku N,[]⟩,kF N [] [(7,.jn [] [] [(.n,Q47)])] func323⟩
def Qqp(N:Nat):V:=⟨⟨328,zs7,[zs1],Tv N,[]⟩,kF N [] [] func328⟩
def Mg(N:Nat):V:=⟨⟨324,Qid,[zs7],u2 (Xe N),[]⟩,kF N [Qqp] [(6,.rg (.n 3 (.sp 9 3 [0,1,5] [5] ⟨[(12,zs4)],[]⟩ (.nl 1 Q5c) Jk0 .done)))] func324⟩
def Qqq(N:Nat):V:=⟨⟨311,zs7,[(sD [Qh1])],Tw N,[]⟩,kF N [Sy,Mg] [(14,.lp [0,2] [2] ⟨[(3,Qia)],[(100000,Jde)]⟩ [(.x 0,⟨[(3,Qf9)],[(100100,Jde)]⟩)]),(27,.lp [2] [2] ⟨[(0,zs2),(3,Qt4)],[(100200,Jde)]⟩ [(.x 2,⟨[(0,zs2),(3,Qmd)],[(100300,Jde)]⟩)])] func311⟩
def Qoh(N:Nat):V:=⟨⟨287,Qid,[zs7],u2 (Ht N),[]⟩,kF N [Qqq] [(7,.jn [] [5] [(.n,Jk2)])] func287⟩
def Qmq(N:Nat):V:=⟨⟨329,Qid,[zs7],u2 (L7 N),[]⟩,kF N [Mg] [] func329⟩
def Qui(N:Nat):V:=⟨⟨325,(sD [Qh1]),[Qid],Qc7 N,[]⟩,kF N [Qmq,Sy,Mg] [(4,.jn [1] [1] [(.n,Q99)]),(4,.an (.dc 11 [6,7,8,9,10,11,12,13,14,15,16] [] [1] (.b 1 (.c 1 (.a (.a (.so 9 Q5g (.b 1 (.c 1 (.b 1 (.c 1 (.b 1 (.c 1 (.k 0 [] [] [] [] (.tl Qt2))))))))))))))),(11,.an (.dc 5 [19,20,21,22,23] [1] [] (.b 1 (.c 1 (.k 1 [] [] [] [] Jsl))))),(16,.lp [1] [1] Jrs [(.x 0,Q47)])] func325⟩
def Qoi(N:Nat):V:=⟨⟨312,Qid,[zs7],u2 (Hu N),[]⟩,kF N [Qui] [] func312⟩
def Qoj(N:Nat):V:=⟨⟨288,Qid,[Jcw],u2 (Pi N),[]⟩,kF N [Qoi] [(5,.jn [4] [4] [(.n,⟨[(5,Qia)],[(100000,.var 127 Qps)]⟩)])] func288⟩
def S4(N:Nat):V:=⟨⟨239,(sD [.i,J5]),[Qub],u2 (Gf N),[]⟩,kF N [Qoh,Qoj] [(16,.lp [0,3] [3] ⟨[(5,Qdk),(6,zs2)],Jlr⟩ [(.x 0,⟨[(5,Qmb)],[(100100,Ln)]⟩)])] func239⟩
def Qg6(N:Nat):V:=⟨⟨237,⟨[(0,Qps),(1,Xl),(2,Qgb),(3,.p 5003 [])],[(5000,P1),(5001,.var 301 Qyb),(5002,Ln),(5003,P1)]⟩,[⟨[],[(5001,.var 301 Nx),(1,Ln)]⟩],u4 (Aj N),[5000,5003]⟩,kF N [Lt,S4] [(7,.an (.dc 4 [16,17,18,19] [5001,5] [5003] (.d 5001 5002 (.c 5003 (.c 5 (.k 1 [] [] [11901] [11901] Jac))))))] func237⟩
def Qg7(N:Nat):V:=⟨⟨313,Jsm,[Jsn],u3 (Ak N),[]⟩,kF N [Eg] [(3,.lp [1,7,8] [] ⟨[(2,Xl),(9,zs2)],[(5000,.var 431 Qt5),(100001,Qpv)]⟩ [(.x 0,⟨[],[(5000,.var 431 Q5b),(100201,Qpv)]⟩)]),(11,.jn [9] [] [(.n,⟨[(2,Xl)],[(5000,.var 431 Qme),(100101,Qpv)]⟩)])] func313⟩
def Qb2(N:Nat):V:=⟨⟨313,Jsm,[Jsn],u3 (Gm N),[]⟩,kF N [Eg] [(3,.lp [1,7,8] [] ⟨[(2,Xl),(9,zs2)],[(5000,.var 431 Qt5),(100001,Qpv)]⟩ [(.x 0,⟨[],[(5000,.var 431 Q5b),(100201,Qpv)]⟩)]),(11,.jn [9] [] [(.n,⟨[(2,Xl)],[(5000,.var 431 Qme),(100101,Qpv)]⟩)])] func313⟩
def Qkt(N:Nat):V:=⟨⟨290,(sD [.bool,.bool]),[zs1],u2 (D2 N),[]⟩,kF N [] [] func290⟩
def Qku(N:Nat):V:=⟨⟨289,⟨[(0,Jdc),(1,Jdc),(2,.f 290 .nil)],[]⟩,[Qub],u2 (D3 N),[]⟩,kF N [Qg7,Qb2,fun _=>⟨_,H1⟩,Qkt] [(7,.rg (.n 2 (.call 0 .done))),(9,.rg (.n 2 (.call 1 .done))),(22,.lp [2,7,24,25] [7,12101] ⟨[(9,Qdk),(10,Q5l),(11,zs4),(26,zs2)],[(100000,Ln),(100001,Jso)]⟩ [(.x 0,⟨[(9,Q5j)],[(100400,Ln)]⟩)]),(30,.jn [26] [] [(.n,⟨[(9,Qx5),(10,Jk8),(11,zs4)],[(100300,Ln),(100301,Jso)]⟩)]),(34,.an (.dr 8 Qqi zs5)),(37,.an (.dr 16 (.n 6 (.sp 44 10 [9,10,11,12,13,26] [13,100000,100001] ⟨[(54,zs4)],[]⟩ Jc2 Jc2 .done)) .done)),(42,.rg (.n 7 (.call 3 zs5))),(44,.jn [10,14,26] [13,100001] [(.n,⟨[(9,Qt3)],[(100200,Ln)]⟩)])] func289⟩
def Qok(N:Nat):V:=⟨⟨240,(sD [.sl J5]),[Qub],Pk N,[]⟩,kF N [Qku] [] func240⟩
def Qqr(N:Nat):V:=⟨⟨172,(sD [.sl Uy,.i,.i]),[Qub],u3 (Tx N),[]⟩,kF N [Qg6,Qok,S4] [(10,.lp [17,18] [] ⟨[(4,Qia),(7,Q5l),(8,.f 237 (sL [.p 100002 [],Q5l,Qia])),(19,zs2)],[(100000,P1),(100001,.var 301 Jpy),(100002,P1),(100003,Ln)]⟩ [(.x 0,⟨[(4,Qmd),(7,Jk8)],[(100300,P1),(100301,.var 301 Q5n),(100302,Ln)]⟩)]),(24,.lp [19,24,25] [10] ⟨[(4,Qf9),(7,Ju4),(8,.f 237 (sL [.p 100102 [],Ju4,Qf9])),(26,zs2)],[(100100,P1),(100101,.var 301 (.s 100103)),(100102,P1),(100103,Ln)]⟩ [(.x 2,⟨[(4,Qt4),(7,Jlb),(8,.f 237 (sL [.p 100202 [],Jlb,Qt4]))],[(100200,P1),(100201,.var 301 (.s 100203)),(100202,P1),(100203,Ln)]⟩)]),(35,.rg (.n 2 (.call 0 .done))),(44,.lp [4,36,37] [13601,100300,100301,100302] ⟨[(13,Q5j),(38,zs2)],[(100400,Ln)]⟩ [(.x 4,⟨[(13,.s 100500)],[(100500,Ln)]⟩)])] func172⟩
def Quj(N:Nat):V:=⟨⟨292,⟨[(0,.d J4),(1,Xl),(2,Qgb)],Jsp⟩,[zs1],u3 (Qc8 N),[5000,5001]⟩,kF N [] [] func292⟩
def Mh(N:Nat):V:=⟨⟨291,⟨[(0,Jsq),(1,.f 292 (sL [Xl,Qgb]))],Jsp⟩,[⟨Qf8,[(1,Qpq)]⟩],u3 (Z4 N),[5000,5001]⟩,kF N [Quj] [(8,.lp [1,8,9] [] ⟨Jk7,[(100000,Qpq)]⟩ [(.x 0,⟨[(5,Qt3)],[(100200,Qpq)]⟩)]),(16,.jn [10] [] [(.n,⟨[(5,Qmb)],[(100100,Qpq)]⟩)]),(20,.rg (.n 2 (.call 0 .done)))] func291⟩
def Qqs(N:Nat):V:=⟨⟨293,Jxb,[⟨[(0,.ag (sL [V1,zs2,zs2,V1,zs4,Nx]))],[(1,Qx6)]⟩],Tz N,[]⟩,kF N [] [(8,.lp [1,2,7,8] [1,2] ⟨[(3,Qdk),(9,zs2)],[(100000,Qx6)]⟩ [(.x 0,⟨Qx8,[(100100,Qx6)]⟩)]),(21,.rg (.n 2 (.fz 15 Qv5)))] func293⟩
def Q0x(N:Nat):V:=⟨⟨241,(sD [.sl J4,.str,.i]),[⟨[(0,.ag (sL [V1,zs2,zs2,V1,zs4,Nx])),(1,zs4)],[(1,Qx6)]⟩],u3 (Qkg N),[]⟩,kF N [Mh,Qqs] [] func241⟩
def Qdr(N:Nat):V:=⟨⟨173,(sD [Uy,.sl J4,J5]),[⟨Qf8,[(1,Jdf)]⟩],u3 (Hv N),[]⟩,kF N [Lt,Q0x] [(6,.lp [1,3,5,18,19] [3,5] ⟨[(20,zs2)],[]⟩ [(.x 0,⟨[],[]⟩),(.r,⟨[(6,Q5j)],[(100400,Jdf)]⟩)]),(33,.lp [9,42,43] [8,9,11,13801] ⟨[(13,Qmb),(44,zs2)],[(100100,Jdf)]⟩ [(.x 2,⟨[(13,Qt3)],[(100200,Jdf)]⟩)])] func173⟩
def S5(N:Nat):V:=⟨⟨242,Q5f,[zs1],u2 (Fl N),[]⟩,kF N [] [] func242⟩
def Quk(N:Nat):V:=⟨⟨243,(sD [Q9,Q9,.i]),[Jlp],u3 (Qc9 N),[]⟩,kF N [P9,S5] [(5,.jn [6] [3,4,6] [(.n,⟨[(7,Qia)],[(100000,.var 129 (.ag (sL [zs2,zs2,V1,zs2,zs2,Qt5,Qps,zs2,zs2,zs2,zs4]))),(100001,Q49)]⟩)])] func243⟩
def Qqt(N:Nat):V:=⟨⟨244,Q5f,[zs1],u2 (T0 N),[]⟩,kF N [] [] func244⟩
def Qkv(N:Nat):V:=⟨⟨174,⟨[(0,Xl),(1,.d Fi)],[(5000,.var 293 (.ag (sL [Qpu,Qel]))),(5001,Uk),(5002,Qem)]⟩,[⟨[],[(5000,.var 293 (.ag (sL [Nx,Qel]))),(5002,Qem),(1,Uk)]⟩],u3 (D4 N),[]⟩,kF N [Qpx,P9,S5,Quk,Qqt] [(4,.an (.dc 7 [9,10,11,12,13,14,15] [5000,3] [] (.b 5000 (.d 5000 5000 (.b 5000 (.d 5000 5002 (.b 3 (.c 3 Jsr)))))))),(14,.gh (.fz 11901 .done)),(14,.lp [0,3,23,24] [3,5000,5001,5002] ⟨[(4,Qia),(25,zs2)],[(100000,.var 129 (.ag (sL [zs2,zs2,V1,zs2,zs2,Qt5,Qps,zs2,zs2,zs2,zs4]))),(100001,.tail 9 .str)]⟩ [(.x 0,⟨[(4,Qf9)],[(100100,.var 129 (.ag (sL [zs2,zs2,V1,zs2,zs2,Qme,Qps,zs2,zs2,zs2,zs4]))),(100101,.tail 9 .str)]⟩)]),(37,.lp [0,4] [3,5000,5001,5002,100100,100101] Jaf [(.x 2,Jaf)]),(40,.jn [7] [] [(.n,Jux)]),(40,.an (.dc 16 [38,39,40,41,42,43,44,45,46,47,48,49,50,51,52,53] [] [5000,5001,100100] (.a (.b 5000 (.d 5000 5000 (.b 5000 (.d 5000 5001 (.c 5001 (.a (.a (.so 45 (.b 5000 (.d 5000 5000 (.b 5000 (.d 5000 5001 (.a (.d 5001 5001 (.c 5001 (.d 100100 100101 (.tl (.call 4 zs5)))))))))) (.a Q5g)))))))))))),(47,.rg (.n 5 (.fz 5001 Qv5))),(52,.gh (.dt 100100 .done)),(52,.an (.dc 6 [80,81,82,83,84,85] [5000,100100] [] (.b 5000 (.d 5000 5000 (.b 5000 (.d 5000 5002 (.c 100100 Jsr)))))))] func174⟩
def Qb3(N:Nat):V:=⟨⟨121,(sD [.sl Jp,.sl J4,J2,.i,.i]),[Q5k],u5 (B4 N),[]⟩,kF N [P9,Qpx,Qqn,Qmp,Qqr,Qdr,Qkv] [(8,.lp [0,1,3,4,7,10,27,28] [7,10] ⟨[(11,Qia),(29,zs2)],[(100000,.var 293 (.ag (sL [Qt5,Jlt]))),(100001,Uk),(100002,Qem)]⟩ [(.x 0,⟨[(11,Qf9)],[(100100,.var 293 (.ag (sL [Qme,Jlu]))),(100101,Uk),(100102,Qem)]⟩)]),(20,.an (.dc 9 [33,34,35,36,37,38,39,40,41] [100000,13,100001] [] (.b 100000 (.b 100000 (.d 100000 100000 (.b 100000 (.d 100000 100001 (.c 13 (.k 0 [] [] [13901] [13901] (.op ⟨.fz 13901 (.nl 1 .done),[13901],[],[],[13901]⟩ (.g [100001] [] [41] [41] Qic))))))))))),(21,.an (.dc 6 [44,45,46,47,48,49] [100000,13] [] (.b 100000 (.d 100000 100000 (.b 100000 (.d 100000 100002 (.c 13 (.k 1 [] [] [] [] Bb)))))))),(24,.an (.dc 8 [51,52,53,54,55,56,57,14] [7] [] (.b 7 (.c 7 (.e 53 (.b 7 (.c 7 (.e 56 (.g [] [] [] [53,56] (.e 14 Bb)))))))))),(28,.jn [10,14] [7,10,14,53,56] [(.n,⟨[(11,.p 100900 [])],[(100900,.var 293 (.ag (sL [.s 100901,.m 100902]))),(100901,Uk),(100902,Qem)]⟩)]),(36,.lp [1,4,10,14,16,77,78] [17301,17701] ⟨[(11,Qt4),(79,zs2)],[(100200,.var 293 (.ag (sL [Q5b,.m 100202]))),(100201,Uk),(100202,Qem)]⟩ [(.x 2,⟨[(11,.p 100800 [])],[(100800,.var 293 (.ag (sL [.s 100801,.m 100802]))),(100801,Uk),(100802,Qem)]⟩)]),(50,.lp [18,79,83,84] [18] ⟨[(11,Qmd),(85,zs2)],[(100300,.var 293 (.ag (sL [Qua,.m 100302]))),(100301,Uk),(100302,Qem)]⟩ [(.x 4,⟨[(11,.p 100700 [])],[(100700,.var 293 (.ag (sL [.s 100701,.m 100702]))),(100701,Uk),(100702,Qem)]⟩)]),(64,.lp [85,92,93] [20,19201] ⟨[(11,Jc9),(94,zs2)],[(100400,.var 293 (.ag (sL [Q5o,.m 100402]))),(100401,Uk),(100402,Qem)]⟩ [(.x 6,⟨[(11,.p 100600 [])],[(100600,.var 293 (.ag (sL [.s 100601,.m 100602]))),(100601,Uk),(100602,Qem)]⟩)]),(72,.jn [94] [] [(.n,⟨[(11,.p 100500 [])],[(100500,.var 293 (.ag (sL [Jlh,.m 100502]))),(100501,Uk),(100502,Qem)]⟩)])] func121⟩
def Qmr(N:Nat):V:=⟨⟨245,Jcv,[⟨Qf8,[(1,Uk)]⟩],L8 N,[]⟩,kF N [] [(8,.lp [6,7] [] ⟨[(3,Qdk),(8,zs2)],[(100000,Uk)]⟩ [(.x 0,⟨Qx8,[(100100,Uk)]⟩)]),(21,.rg (.n 2 (.fz 14 Qv5)))] func245⟩
def Qqu(N:Nat):V:=⟨⟨175,Q5e,[Q5k],T1 N,[]⟩,kF N [Qmr] [(3,.an (.dc 8 [3,4,5,6,7,8,9,10] [1] [] (.b 1 (.c 1 (.k 0 [] [] [10501] [10501] (.b 1 (.c 1 (.e 8 Jsl))))))))] func175⟩
def Qol(N:Nat):V:=⟨⟨176,Jc4,[zs1],u3 (Pm N),[]⟩,kF N [] [(6,.lp [1,2,9,10] [] Jls Jxc)] func176⟩
def Qom(N:Nat):V:=⟨⟨246,Jrv,[⟨[(0,.m 1)],[(1,Na)]⟩],Pn N,[]⟩,kF N [] [(8,.lp [9,10] [] ⟨[(3,Jlm),(11,zs2)],[(100000,Na)]⟩ [(.x 0,⟨[(3,.m 100200)],[(100200,Na)]⟩)]),(16,.jn [11] [] [(.n,⟨[(3,Jln)],[(100100,Na)]⟩)])] func246⟩
def Qul(N:Nat):V:=⟨⟨177,(sD [.sl J6,.i]),[⟨Jdg,[(1,Yy)]⟩],u2 (Qda N),[]⟩,kF N [Qom] [(16,.lp [0,1] [11201] Qqh Jlk),(19,.rg (.n 5 (.sp 25 8 [8] [] ⟨[(33,zs4)],[]⟩ zs6 zs6 .done)))] func177⟩
def U8(N:Nat):V:=⟨⟨161,Q5q,[zs1],u3 (Yg N),[]⟩,kF N [] [] func161⟩
def Qg8(N:Nat):V:=⟨⟨226,zs7,[zs1],Nl N,[]⟩,kF N [] [] func226⟩
def Wb(N:Nat):V:=⟨⟨159,Jk4,[zs7],K4 N,[]⟩,kF N [U8,Qg8] [(5,.rg (.n 2 (.call 0 (.n 2 (.sp 8 5 [1] [1] zs8 He Jky (.n 1 (.sp 14 5 [1] [1] Jkw He Jae zs5))))))),(11,.rg (.n 2 (.call 0 (.n 2 (.sp 25 5 [1] [1] Jk3 He Jae zs5)))))] func159⟩
def Fo(N:Nat):V:=⟨⟨160,Qmf,[Qmf],u2 (Yr N),[]⟩,kF N [] [] func160⟩
def Qqv(N:Nat):V:=⟨⟨179,Qmf,[Qmf],u2 (T2 N),[]⟩,kF N [Wb,Fo,U8,Qg8] [(14,.rg (.n 1 (.call 2 (.n 2 (.sp 19 7 [1,2,4] [2,4] ⟨[(26,zs4)],[]⟩ Qqf (.nl 4 (.call 3 Qt2)) .done)))))] func179⟩
def Qir(N:Nat):V:=⟨⟨178,⟨[(0,.d J6),(1,zs2),(2,Xl)],[(5000,Q5r)]⟩,[⟨[],[(5000,Q5r)]⟩],u3 (G3 N),[]⟩,kF N [] [] func178⟩
def Qum(N:Nat):V:=⟨⟨180,Qmf,[Qmf],u2 (Qdb N),[]⟩,kF N [Wb,Fo,U8] [] func180⟩
def S6(N:Nat):V:=⟨⟨122,(sD [.sl Jp,J2,.i,.i]),[Q5k],u4 (Fn N),[]⟩,kF N [Qqu,Qol,Qul,Qqv,Qir,Qum] [(6,.rg (.n 7 (.sp 24 6 [0,2,3,8,9] [5,8,9,11701,11702,11703] Jk3 Q0q Jpu .done))),(22,.lp [2,3,8,9,10,11,44,45] [5,8,9,11701,11702,11703,13601] ⟨[(12,Qf9),(13,.f 178 (sL [Qf9])),(46,zs2)],[(100100,Q5r)]⟩ [(.x 0,⟨[(12,Jc9)],[(100400,Q5r)]⟩)]),(30,.jn [46] [] [(.n,⟨[(12,Qmd),(13,.f 178 (sL [Qmd]))],[(100300,Q5r)]⟩)]),(35,.an (.dr 20 (.n 5 (.sp 54 9 [12,13,15,46] [15,100100] Ju8 Q97 Q97 Jad)) .done)),(45,.rg (.n 4 (.call 3 Jss))),(49,.rg (.n 4 (.call 5 Jss)))] func122⟩
def Ra(N:Nat):V:=⟨⟨155,Qid,[zs1],u2 (K5 N),[]⟩,kF N [] [] func155⟩
def Qun(N:Nat):V:=⟨⟨224,Q5h,[Jlp],Qdc N,[]⟩,kF N [] [] func224⟩
def Qeo(N:Nat):V:=⟨⟨152,Jcv,[⟨Qf8,[(1,Uk)]⟩],Ih N,[]⟩,kF N [Qun] [(8,.lp [6,7] [] ⟨[(3,Qdk),(8,zs2)],[(100000,Uk)]⟩ [(.x 0,⟨Qx8,[(100100,Uk)]⟩)]),(19,.rg (.n 2 (.call 0 (.fz 11401 Qv5))))] func152⟩
def Qon(N:Nat):V:=⟨⟨295,Qid,[zs7],u2 (X4 N),[]⟩,kF N [] [] func295⟩
def Qoo(N:Nat):V:=⟨⟨255,Q5f,[zs1],u2 (Pp N),[]⟩,kF N [Qon] [] func255⟩
def Ni(N n:Nat):Con:=⟨185,(sD [.sl Q9,.i,.i]),[(sD [.sl .i])],fun(x0,x1,x2)=>U3 N n x0 x1 x2,[]⟩
theorem Rb(N:Nat):∀n,KO (Ni N n)
 | 0=>⟨Qhz fun _=>rfl,Kj func185 rfl⟩
 | n+1=>have ih:=Rb N n; kF N [fun _=>⟨_,ih⟩,Qoo] [(12,.lp [2] [] Jrr [(.x 0,⟨[(7,Qmb)],[(100100,Qbw)]⟩)]),(37,.lp [0,10,11] [] ⟨[(12,Qt3),(13,zs2),(14,zs2)],[(100200,Qbw)]⟩ [(.x 2,⟨[(12,Q5j)],[(100400,Qbw)]⟩)]),(46,.jn [12,13,14] [100200] [(.n,⟨[(85,zs4)],[]⟩)]),(46,.an (.dc 24 [58,59,60,61,62,63,64,65,66,67,68,69,70,71,72,73,74,75,76,77,78,79,80,81] [] [] (.a (.a (.a (.a (.a (.so 62 (.a (.a (.a (.a (.a Jst))))) (.a (.a (.a (.a (.a (.so 67 (.a (.a (.a (.a (.a (.a (.a (.a (.a (.a (.a (.a (.a (.a (.tl (.call 1 Jk0)))))))))))))))) Jst))))))))))))))] func185
def Qqw(N:Nat):V:=⟨Ni N N,Rb N N⟩
def Qqx(N:Nat):V:=⟨⟨186,(sD [Q9,.i,.i,.i,.str,.bool,.i]),[zs1],u7 (T3 N),[]⟩,kF N [Nh] [(4,.rg (.n 10 (.sp 26 6 [1,2,4,5,6,7] [7] ⟨[(32,zs4)],[]⟩ Q0q Jlv .done))),(22,.lp [4,7,53,54] [7] ⟨[(55,zs2)],[]⟩ [(.x 0,⟨[],[]⟩),(.r,⟨[(14,zs4)],[]⟩)])] func186⟩
def Qpy(N:Nat):V:=⟨⟨153,Q5h,[(sD [Qbd])],Qh2 N,[]⟩,kF N [] [] func153⟩
def Qaj(N:Nat):V:=⟨⟨125,(sD [.sl Q9,.i,.i,.i,.str,.bool,.i,.i]),[⟨[(0,Nx),(1,Qib),(2,zs2)],[(1,Uk),(2,Zl)]⟩],u8 (Ld N),[]⟩,kF N [Qeo,Qqw,Qqx,Qpy] [(12,.lp [0,1,2,3,4,5,6,32,33] [] ⟨[(7,zs2),(19,Qdk),(20,Qt5),(34,zs2)],[(100000,Uk),(100001,Zl)]⟩ [(.x 0,⟨[(7,zs2),(19,Qx5),(20,Qua)],[(100300,Uk),(100301,Zl)]⟩)]),(20,.jn [34] [] [(.n,⟨[(7,zs2),(19,Qt3),(20,Q5b)],[(100200,Uk),(100201,Zl)]⟩),(.x 0,⟨[(7,zs2),(19,Qmb),(20,Qme)],[(100100,Uk),(100101,Zl)]⟩)])] func125⟩
def Am(N:Nat):V:=⟨⟨126,Jc4,[(sD [Zc,.bool])],u3 (X5 N),[]⟩,kF N [Qb0] [(6,.lp [1,13,14] [11201,11202] ⟨Jr9,[(100000,Jsu)]⟩ [(.x 0,⟨[(6,Qf9)],[(100100,Jsu)]⟩),(.r,⟨Jlc,[(100200,.var 243 (.d Zc))]⟩)])] func126⟩
def Qjf(N:Nat):V:=⟨⟨254,Jk4,[zs7],So N,[]⟩,kF N [Wb] [] func254⟩
def Qop(N:Nat):V:=⟨⟨322,(sD [.i,.sl .i]),[zs1],u2 (B5 N),[]⟩,kF N [] [(6,.lp [0,7,8] [] zs3 Qkh)] func322⟩
def Qqy(N:Nat):V:=⟨⟨302,Jva,[zs7],T4 N,[]⟩,kF N [Qop] [(24,.lp [0,12,13] [] ⟨[(3,zs2),(14,zs2)],[]⟩ Qqg),(37,.rg (.n 5 (.call 0 (.n 7 (.sp 31 6 [3,4,5,14] [5] Juv Q0q Jlv .done)))))] func302⟩
def Qms(N:Nat):V:=⟨⟨303,Jsv,[(sD [.i,.bool])],u2 (L9 N),[]⟩,kF N [] [(8,.lp [1,12,13] [] ⟨[(6,zs2),(7,zs2),(14,zs2)],[]⟩ [(.x 0,Jk2),(.r,⟨[(4,zs2),(5,zs4)],[]⟩)]),(22,.jn [6,7,9,14] [9] Jsw),(37,.an (.dr 7 Qt6 .done))] func303⟩
def Quo(N:Nat):V:=⟨⟨269,Jsv,[Qid],u2 (Qdd N),[]⟩,kF N [Qqy,Qms] [] func269⟩
def Qg9(N:Nat):V:=⟨⟨225,Jsx,[Qid],u2 (W6 N),[]⟩,kF N [Quo] [] func225⟩
def Ez(N:Nat):V:=⟨⟨156,Jsx,[Qid],u2 (K6 N),[]⟩,kF N [Ra,Qg9] [(4,.rg (.n 1 (.call 0 (.n 2 (.sp 12 6 [1,2] [2] Q99 Q0q Jlv (.n 9 (.sp 27 7 [1,2] [2] ⟨[(34,zs4)],[]⟩ Qqf (.nl 4 Jkz) .done)))))))] func156⟩
def Qe0(N:Nat):V:=⟨⟨253,⟨[(0,zs2),(1,Xl),(2,Qgb)],[(5000,.var 276 (.d Ig)),(5001,P1)]⟩,[zs1],u3 (Ev N),[5000,5001]⟩,kF N [Ez] [] func253⟩
def Qis(N:Nat):V:=⟨⟨183,(sD [Ig,.i,.i]),[zs7],u3 (B6 N),[]⟩,kF N [Qe0] [(16,.lp [7] [3,5] ⟨[(8,zs2),(9,zs2)],[]⟩ Jlk),(27,.rg (.n 2 (.call 0 .done)))] func183⟩
def Qmt(N:Nat):V:=⟨⟨188,(sD [Hl,.i]),[Qid],u2 (Qde N),[]⟩,kF N [Ez] [] func188⟩
def Qjg(N:Nat):V:=⟨⟨189,Qmf,[Qmf],u2 (Sq N),[]⟩,kF N [Wb,Fo,U8,Qjf] [] func189⟩
def Qoq(N:Nat):V:=⟨⟨184,⟨[(0,Nb),(1,Jdh),(2,Qen),(3,zs2)],[(5000,Yy)]⟩,[zs7],u6 (Pr N),[5000]⟩,kF N [Am,Wb,Qjf] [(16,.lp [6,30,31] [4,5,6,9] ⟨[(32,zs2)],[]⟩ [(.x 0,⟨[],[]⟩),(.r,Qqh)]),(39,.an (.dc 5 [44,45,46,47,48] [12] [] (.c 12 (.k 2 [] [] [] [] (.b 12 (.c 12 (.a Jac)))))))] func184⟩
def Qb4(N:Nat):V:=⟨⟨124,⟨[(0,Nb),(1,Jdh),(2,Qen),(3,zs2),(4,zs2)],[(5000,Yy)]⟩,[Qid],u7 (B7 N),[5000]⟩,kF N [Ra,Cf,Qaj,Qoq,Qis] [(13,.jn [3,4,5,6,7] [5,6,7] [(.n,⟨[(12,zs2)],[]⟩)]),(29,.an (.dc 12 [74,75,76,77,78,79,80,81,82,83,84,85] [7,5,6] [5000] (.a (.c 7 (.a (.a (.a (.a (.c 5 (.d 6 5000 (.c 7 (.a (.k 3 [] [5000] [] [] (.k 4 [] [] [] [] Jac))))))))))))))] func124⟩
def Mi(N:Nat):V:=⟨⟨158,⟨Jlw,[(5000,.var 170 Qgb),(5001,.var 173 (.ag (sL [Jsy,.ag (sL [Wk,Q5s,C8])]))),(5002,Zl),(5003,Yy)]⟩,[zs1],u15 (Z5 N),[5000,5001,5002,5003]⟩,kF N [] [(3,.an (.dr 10 (.n 10 .done) .done))] func158⟩
def K7(N:Nat):V:=⟨⟨157,⟨Jlx,[(5000,Yy),(5001,.var 170 (.p 5002 [])),(5002,.var 173 (.ag (sL [Jsz,Jdh]))),(5003,Zl)]⟩,[zs7],u14 (Y6 N),[5000,5001,5002,5003]⟩,kF N [Mi] [(6,.lp [0,1,7] [] Qqh Qoc),(18,.rg (.n 5 (.call 0 .done)))] func157⟩
def Rc(N:Nat):V:=⟨⟨118,⟨Fb,Qyd⟩,[⟨Qgc,[(5002,Yy)]⟩],u14 (Xf N),[5000,5001]⟩,kF N [K7] [] func118⟩
def N1(N:Nat):V:=⟨⟨127,⟨Quc,Qyd⟩,[⟨[],Js1⟩],u15 (Kr N),[]⟩,kF N [Qmt,Rc,Qjg] [(15,.an (.dc 11 [46,47,48,49,50,51,52,53,54,55,1000000010] [5000,7,5002] [] (.b 5000 (.d 5000 5000 (.b 5000 (.b 5000 (.d 5000 5002 (.a (.b 5000 (.c 7 (.a (.d 5002 5002 (.f 5002 5002 Q5t)))))))))))))] func127⟩
def Qds(N:Nat):V:=⟨⟨82,⟨Js2,Js3⟩,[⟨Qgc,[(5000,.var 173 (.ag (sL [.ag (sL [zs2,zs2,zs2,zs2,Q5u,zs2,Nx,zs2,zs2,zs4,Kk]),Jlz]))),(1,Zl),(2,Yy)]⟩],u29 (Hw N),[]⟩,kF N [Qb3,S6,Cf,Qb4,Qaj,Am,N1] [(3,.gh (.fz 5003 (.dt 5000 (.fz 5004 (.dt 5000 (.fz 5005 Qbx)))))),(3,.an (.dc 17 [15,16,17,18,19,20,21,22,23,24,25,26,27,28,29,30,31] [5,5000] [] (.b 5000 (.b 5 (.c 5 (.b 5 (.c 5 (.b 5000 (.d 5000 5000 (.b 5000 (.c 5000 (.b 5000 (.d 5000 5000 (.b 5000 (.b 5000 (.b 5000 (.c 5000 (.a (.k 0 [] [] [13103,13102,13101] [13101,13102,13103] Qic))))))))))))))))))),(5,.gh (.fz 13101 (.dt 5000 (.fz 13102 (.dt 5000 (.fz 13103 Qbx)))))),(5,.an (.dc 15 [34,35,36,37,38,39,40,41,42,43,44,45,46,47,48] [5,5000] [] (.b 5000 (.b 5 (.c 5 (.b 5000 (.d 5000 5000 (.b 5000 (.c 5000 (.b 5000 (.d 5000 5000 (.b 5000 (.b 5000 (.b 5000 (.c 5000 (.a (.k 1 [] [] [14803,14802,14801] [14801,14802,14803] Qic))))))))))))))))),(9,.an (.dc 15 [59,60,61,62,63,64,65,66,67,68,58,69,70,9,1000000014] [5,5000] [] (.b 5 (.c 5 (.b 5000 (.d 5000 5000 (.b 5000 (.b 5000 (.b 5000 (.c 5000 (.a (.k 2 [] [] [] [] (.a (.a (.a (.e 9 (.f 9 9 Bb))))))))))))))))),(26,.gh (.fz 14801 (.dt 5000 (.fz 14803 (.dt 5000 (.fz 5001 Qbx)))))),(26,.an (.dc 17 [78,79,80,81,82,83,84,85,86,87,88,89,90,77,91,92,11] [5,5000,14802] [] (.c 5 (.b 5000 (.d 5000 5000 (.b 5000 (.d 5000 14802 (.b 5000 (.d 5000 5000 (.b 5000 (.b 5000 (.c 5000 (.a (.a (.k 3 [] [14802] [] [] (.a (.a (.a Jcu)))))))))))))))))),(44,.jn [2,5,11,12] [5,9,5001,5003,5004,5005,13101,13102,13103,14801,14803] [(.n,⟨Fb,[(5000,.var 173 (.ag (sL [.ag (sL [zs2,zs2,zs2,zs2,Qen,zs2,Qt5,zs2,zs2,zs4,Kk]),.ag (sL [Wk,Jpx,C8])]))),(100001,Zl),(100002,Yy)]⟩)]),(47,.an (.dc 48 [102,103,104,105,106,107,108,109,110,111,112,113,114,115,116,117,118,119,120,121,122,123,124,125,126,127,128,129,130,131,132,133,134,135,136,137,101,138,139,140,141,142,143,1000000043,144,145,146,1000000047] [5000] [9] (.b 5000 (.b 5000 (.b 5000 (.d 5000 5000 (.b 5000 (.b 5000 (.c 5000 (.b 5000 (.d 5000 5000 (.b 5000 (.b 5000 (.b 5000 (.c 5000 (.b 5000 (.d 5000 5000 (.b 5000 (.b 5000 (.b 5000 (.c 5000 (.b 5000 (.d 5000 5000 (.b 5000 (.b 5000 (.b 5000 (.c 5000 (.b 5000 (.d 5000 5000 (.b 5000 (.b 5000 (.b 5000 (.c 5000 (.b 9 (.c 9 (.a (.a (.k 4 [] [] [23702,23701] [23701,23702] (.g [] [] [] [23701,23702] (.b 23701 (.b 23702 (.a (.d 5000 5000 (.b 5000 (.b 5000 (.g [5000] [23701] [] [5000,5002,14802,23701] Js4)))))))))))))))))))))))))))))))))))))))))))))),(50,.jn [11,12] [5,9,5001,5003,5004,5005,13101,13102,13103,14801,14803] [(.n,⟨Fb,[(5000,.var 173 (.ag (sL [.ag (sL [zs2,zs2,zs2,zs2,Qen,zs2,Qme,zs2,zs2,zs4,Kk]),.ag (sL [Wk,Ju5,C8])]))),(100101,Zl),(100102,Yy)]⟩)]),(51,.an (.dc 15 [148,149,150,151,152,153,154,155,156,157,147,158,159,13,1000000014] [5000] [5] (.b 5 (.c 5 (.b 5000 (.d 5000 5000 (.b 5000 (.b 5000 (.b 5000 (.c 5000 (.a (.k 5 [] [] [] [] (.a (.a (.a (.e 13 (.f 13 13 Bb)))))))))))))))))] func82⟩
def Qe1(N:Nat):V:=⟨⟨80,⟨Jl0,Qyd⟩,[Js6],u18 (Ew N),[]⟩,kF N [] [(5,.an (.dc 9 [22,23,24,25,26,27,28,29,1000000008] [6,13,5000] [] (.b 5000 (.b 5000 (.b 6 (.c 6 (.c 13 (.d 5000 5000 (.b 5000 (.b 5000 (.g [5000] [] [] [5000,5001,5002] Q5t))))))))))),(7,.an (.dc 11 [33,34,35,36,37,38,39,40,41,1000000009,1000000010] [5000,13,10,5002,11,5001] [] (.b 5000 (.d 5000 5000 (.b 5000 (.d 5000 5002 (.b 5000 (.d 5000 5000 (.b 5000 (.d 5000 5001 (.c 13 (.g [10] [5002] [] [10,5002] (.g [11] [5001] [] [11,5001] Bb)))))))))))))] func80⟩
def Rv(N:Nat):V:=⟨⟨81,⟨Js7,Qyd⟩,[Js6],u16 (X6 N),[]⟩,kF N [Qe1] [(5,.jn [0,2,4,6,7,8] [4,6,7,8,5000,5001,5002] Jl1),(11,.an (.dc 13 [21,22,23,24,25,26,27,28,29,30,31,32,33] [4,5000,5001,5002] [] (.b 5000 (.c 4 (.b 5000 (.d 5000 5000 (.b 5000 (.b 5000 (.c 5000 (.a (.a (.k 0 [5000,5001,5002] [] [13002,13001] [5000,13001,13002] (.b 13001 (.b 13002 Js8))))))))))))))] func81⟩
def Qwa(N:Nat):V:=⟨⟨154,Q5q,[zs1],u3 (Qf2 N),[]⟩,kF N [] [] func154⟩
def Qjh(N:Nat):V:=⟨⟨116,(sD [.sl Q9,.sl Xw]),[⟨Jdg,[(1,Uk)]⟩],u2 (Ss N),[]⟩,kF N [Qeo,Qpy,Qwa] [(8,.lp [14,15] [] ⟨Jr6,[(100000,Uk)]⟩ [(.x 0,⟨[(6,Qx5)],[(100300,Uk)]⟩),(.r,⟨[(4,.ns),(5,zs2)],[]⟩)]),(33,.lp [6,8,16,23,24] [8,100000] ⟨[(9,zs2),(25,zs2)],[]⟩ [(.x 2,zs3)]),(45,.an (.dc 11 [30,31,32,33,34,35,36,37,38,39,40] [11] [8] (.c 11 (.k 1 [] [] [] [] (.b 8 (.c 8 (.b 8 (.c 8 (.b 8 (.c 8 (.b 8 (.c 8 Jcu)))))))))))),(62,.an (.dr 12 (.n 12 .done) Jpw)),(68,.an (.dr 10 (.n 10 .done) zs5))] func116⟩
def Qha(N:Nat):V:=⟨⟨117,(sD [Hl,.i,.i]),[⟨[(0,Jk6),(1,zs2),(2,zs2)],Jdb⟩],u3 (Nm N),[]⟩,kF N [Ra,Ez,fun _=>⟨_,Vf⟩] [(4,.rg (.n 1 (.call 0 (.n 2 (.sp 15 5 [1,2,3,6] [3,6] ⟨[(20,zs4)],[]⟩ He Jae Qt6))))),(23,.an (.dc 10 [41,42,43,44,45,46,47,48,49,1000000009] [3,11] [] (.b 3 (.c 3 (.a (.a (.b 3 (.c 3 (.a (.a (.b 11 (.f 11 11 Jac))))))))))))] func117⟩
def Rd(N:Nat):V:=⟨⟨118,⟨Fb,Qyd⟩,[⟨Qgc,Js1⟩],u14 (Xg N),[]⟩,kF N [K7] [] func118⟩
def Qep(N:Nat):V:=⟨⟨119,(sD [J6,.i,.i]),[Qmf],u3 (Ii N),[]⟩,kF N [Wb,Fo,U8] [] func119⟩
def Qb5(N:Nat):V:=⟨⟨75,⟨Quc,Qyd⟩,[⟨[],Q5v⟩],u15 (Gn N),[]⟩,kF N [Qjh,Qha,Rd,Qep] [(6,.lp [0,1,23,24] [5000,5001,5002] Js9 Jta),(14,.jn [25] [] [(.n,⟨[(4,zs2),(5,Qmb)],[(100100,Zl)]⟩)]),(30,.jn [1,4] [] [(.n,⟨Fb,[(5000,.var 173 (.ag (sL [.ag (sL [zs2,zs2,zs2,zs2,Qen,zs2,Qua,zs2,zs2,zs4,Kk]),.ag (sL [Wk,Q5n,C8])]))),(100301,Zl),(100302,Yy)]⟩)]),(44,.jn [] [] [(.n,⟨Jtb,[(5000,.var 173 (.ag (sL [.ag (sL [zs2,zs2,zs2,zs2,Q5u,zs2,Q5o,zs2,zs2,zs4,Kk]),.ag (sL [Wk,Jda,C8])]))),(100401,Zl),(100402,Yy)]⟩)]),(54,.jn [] [] [(.n,⟨Fb,[(5000,.var 173 (.ag (sL [Jtc,.ag (sL [Wk,Jli,C8])]))),(100501,Zl),(100502,Yy)]⟩)]),(60,.an (.dc 20 [117,118,119,120,121,122,123,124,125,126,127,128,129,130,131,116,132,133,16,1000000019] [5000,20502] [] (.b 5000 (.d 5000 5000 (.b 5000 (.b 5000 (.d 5000 20502 (.a (.d 20502 20502 (.c 20502 (.b 5000 (.d 5000 5000 (.b 5000 (.b 5000 (.c 5000 (.a (.k 3 [] [] [] [] (.a (.a (.a (.e 16 (.f 16 16 Bb)))))))))))))))))))))),(64,.an (.dr 8 Qqi zs5))] func75⟩
def Qdt(N:Nat):V:=⟨⟨79,⟨Quc,Q5w⟩,[⟨[],Q5v⟩],u5 (Hx N),[]⟩,kF N [] [] func79⟩
def Ff(N:Nat):V:=⟨⟨80,⟨Jl0,Q5w⟩,[Jte],u8 (Zf N),[]⟩,kF N [] [(5,.an (.dc 9 [22,23,24,25,26,27,28,29,1000000008] [6,13,5000] [] (.b 5000 (.b 5000 (.b 6 (.c 6 (.c 13 (.d 5000 5000 (.b 5000 (.b 5000 (.g [5000] [] [] [5000,5001] Q5t))))))))))),(7,.an (.dc 11 [33,34,35,36,37,38,39,40,41,1000000009,1000000010] [5000,13,10,5001,11] [] (.b 5000 (.d 5000 5000 (.b 5000 (.d 5000 5001 (.b 5000 (.d 5000 5000 (.b 5000 (.c 5000 (.c 13 (.g [10] [5001] [] [10,5001] Jtf))))))))))))] func80⟩
def Qqz(N:Nat):V:=⟨⟨76,(sD [Uu,J2,J7]),[Jtg],u3 (T5 N),[]⟩,kF N [Ce,Q0w,Mf,Qds,Rv,Qb5,Qdt,Ff] [(5,.jn [3,4,5,6,7,8] [3,4,5,6,7,8] Jl1),(13,.jn [3,4,5,6,7,8] [3,4,5,6,7,8] Jsw),(63,.an (.dr 8 Qqi .done)),(66,.jn [4,5,6,7,8] [3,4,5,6,7,8,11,17501,19501,20201,20202] [(.n,Jlo)])] func76⟩
def Qeq(N:Nat):V:=⟨⟨77,(sD [Ye,J7,.i,.i]),[zs7],u4 (Ij N),[]⟩,kF N [] [] func77⟩
def Mj(N:Nat):V:=⟨⟨158,⟨Jlw,[(5000,.var 170 Qgb),(5001,.var 173 (.ag (sL [Jsy,.ag (sL [Wk,Q5s,.s 5004])]))),(5002,Zl),(5003,Yy),(5004,Lm)]⟩,[zs1],u15 (Z6 N),[5000,5001,5002,5003,5004]⟩,kF N [] [(3,.an (.dr 10 (.n 10 .done) .done))] func158⟩
def Cg(N:Nat):V:=⟨⟨157,⟨Jlx,[(5000,Yy),(5001,.var 170 (.p 5002 [])),(5002,.var 173 (.ag (sL [Jsz,.ag (sL [Wk,Qyc,.s 5004])]))),(5003,Zl),(5004,Lm)]⟩,[⟨Qgc,[(5000,Yy),(5002,.var 173 (.ag (sL [Jly,.ag (sL [Wk,Qyc,Qib])]))),(1,Zl),(2,Lm)]⟩],u14 (Ue N),[5001]⟩,kF N [Mj] [(6,.lp [0,1,7] [5000,5002,5003,5004] Qqh Qoc),(18,.rg (.n 5 (.call 0 .done)))] func157⟩
def Re(N:Nat):V:=⟨⟨118,⟨Fb,[(5000,.var 173 (.ag (sL [.ag (sL [zs2,zs2,zs2,zs2,Q5u,zs2,Qpu,zs2,zs2,zs4,Kk]),.ag (sL [Wk,Qyb,Q5s])]))),(5001,Zl),(5002,Yy),(5003,Lm)]⟩,[⟨Qgc,[(5000,.var 173 (.ag (sL [Jly,.ag (sL [Wk,Qib,Q5a])]))),(1,Zl),(2,Yy),(3,Lm)]⟩],u26 (Xh N),[]⟩,kF N [Cg] [] func118⟩
def H2(N:Nat):V:=⟨⟨75,⟨Quc,Js3⟩,[⟨[],Jl4⟩],u27 (Un N),[]⟩,kF N [Qjh,Qha,Re,Qep] [(6,.lp [0,1,23,24] [5000,5001,5002,5003,5004,5005] Js9 Jta),(14,.jn [25] [] [(.n,⟨[(4,zs2),(5,Qmb)],[(100100,Zl)]⟩)]),(30,.jn [1,4] [] [(.n,⟨Fb,[(5000,.var 173 (.ag (sL [.ag (sL [zs2,zs2,zs2,zs2,.ag (sL [zs2,zs2,zs2,V1,V1,zs2,.ag (sL [zs2,V1,V1,zs2,Qua]),zs2,zs2]),zs2,Q5n,zs2,zs2,zs4,Kk]),.ag (sL [.s 100303,.s 100304,.s 100305])]))),(100301,Qt8),(100302,Zl),(100303,Jth),(100304,Yy),(100305,Lm)]⟩)]),(44,.jn [] [] [(.n,⟨Jtb,[(5000,.var 173 (.ag (sL [.ag (sL [zs2,zs2,zs2,zs2,.ag (sL [zs2,zs2,zs2,V1,V1,zs2,.ag (sL [zs2,V1,V1,zs2,Q5o]),zs2,zs2]),zs2,Jda,zs2,zs2,zs4,Kk]),.ag (sL [.s 100403,.s 100404,.s 100405])]))),(100401,.tail 141 Vl),(100402,Zl),(100403,Jth),(100404,Yy),(100405,Lm)]⟩)]),(54,.jn [] [100401,100403] [(.n,⟨Fb,[(5000,.var 173 (.ag (sL [Jtc,.ag (sL [Wk,Jli,.s 100503])]))),(100501,Zl),(100502,Yy),(100503,Lm)]⟩)]),(60,.an (.dc 20 [117,118,119,120,121,122,123,124,125,126,127,128,129,130,131,116,132,133,16,1000000019] [5000,20502] [] (.b 5000 (.d 5000 5000 (.b 5000 (.b 5000 (.d 5000 20502 (.a (.d 20502 20502 (.c 20502 (.b 5000 (.d 5000 5000 (.b 5000 (.b 5000 (.c 5000 (.a (.k 3 [] [] [] [] (.a (.a (.a (.e 16 (.f 16 16 Bb)))))))))))))))))))))),(64,.an (.dr 8 Qqi zs5))] func75⟩
def Rw(N:Nat):V:=⟨⟨79,⟨Quc,Jl5⟩,[⟨[],Jl4⟩],u5 (X7 N),[]⟩,kF N [] [] func79⟩
def Qak(N:Nat):V:=⟨⟨80,⟨Jl0,Jl5⟩,[⟨[(0,Jl3),(1,Qmg),(2,Kk)],Jl4⟩],u8 (W7 N),[]⟩,kF N [] [(5,.an (.dc 9 [22,23,24,25,26,27,28,29,1000000008] [6,13,5000] [] (.b 5000 (.b 5000 (.b 6 (.c 6 (.c 13 (.d 5000 5000 (.b 5000 (.b 5000 (.g [5000] [] [] [5000,5001,5002] Q5t))))))))))),(7,.an (.dc 11 [33,34,35,36,37,38,39,40,41,1000000009,1000000010] [5000,13,10,5001,5002,11] [] (.b 5000 (.d 5000 5000 (.b 5000 (.g [] [5000] [] [5001,5002] (.b 5000 (.d 5000 5000 (.b 5000 (.c 5000 (.c 13 (.g [10] [5001,5002] [] [10,5001,5002] Jtf))))))))))))] func80⟩
def Qhb(N:Nat):V:=⟨⟨39,Jti,[⟨[(0,Jl3),(1,.ag (sL [zs2,zs2,zs2,zs2,Q5u,zs2,Jl2,zs2,zs2,zs4,Kk])),(2,Kk)],[(1,Yy),(2,Lm)]⟩],u4 (Nn N),[]⟩,kF N [Qeq,Ce,Mf,H2,Rw,Qak] [] func39⟩
def Mk(N:Nat):V:=⟨⟨158,⟨Jlw,[(5000,.var 170 Qgb),(5001,.var 173 (.ag (sL [Qmg,Js0]))),(5002,Yy)]⟩,[zs1],u5 (Z7 N),[5000,5001,5002]⟩,kF N [] [(3,.an (.dr 10 (.n 10 .done) .done))] func158⟩
def Ch(N:Nat):V:=⟨⟨157,⟨Jlx,[(5000,Yy),(5001,.var 170 (.p 5002 [])),(5002,.var 173 (.ag (sL [Qmg,Jdh])))]⟩,[zs7],u4 (Uf N),[5000,5001,5002]⟩,kF N [Mk] [(6,.lp [0,1,7] [] Qqh Qoc),(18,.rg (.n 5 (.call 0 .done)))] func157⟩
def Rf(N:Nat):V:=⟨⟨118,⟨Fb,Q5w⟩,[⟨Qgc,[(5001,Yy)]⟩],u4 (Xi N),[5000]⟩,kF N [Ch] [] func118⟩
def N2(N:Nat):V:=⟨⟨127,⟨Quc,Q5w⟩,[⟨[],Q5v⟩],u5 (Ks N),[]⟩,kF N [Qmt,Rf,Qjg] [(15,.an (.dc 11 [46,47,48,49,50,51,52,53,54,55,1000000010] [5000,7,5001] [] (.b 5000 (.d 5000 5000 (.b 5000 (.b 5000 (.d 5000 5001 (.a (.b 5000 (.c 7 (.a (.d 5001 5001 (.f 5001 5001 Q5t)))))))))))))] func127⟩
def Rx(N:Nat):V:=⟨⟨82,⟨Js2,Jl5⟩,[⟨Qgc,Q5v⟩],u7 (X8 N),[]⟩,kF N [Qb3,S6,Cf,Qb4,Qaj,Am,N2] [(3,.gh (.fz 5001 (.dt 5000 (.fz 5002 Qbx)))),(3,.an (.dc 17 [15,16,17,18,19,20,21,22,23,24,25,26,27,28,29,30,31] [5,5000] [] (.b 5000 (.b 5 (.c 5 (.b 5 (.c 5 (.b 5000 (.d 5000 5000 (.b 5000 (.c 5000 (.b 5000 (.d 5000 5000 (.b 5000 (.b 5000 (.b 5000 (.c 5000 (.a (.k 0 [] [] [13103,13102,13101] [13101,13102,13103] Qic))))))))))))))))))),(5,.gh (.fz 13101 (.dt 5000 (.fz 13102 (.dt 5000 (.fz 13103 Qbx)))))),(5,.an (.dc 15 [34,35,36,37,38,39,40,41,42,43,44,45,46,47,48] [5,5000] [] (.b 5000 (.b 5 (.c 5 (.b 5000 (.d 5000 5000 (.b 5000 (.c 5000 (.b 5000 (.d 5000 5000 (.b 5000 (.b 5000 (.b 5000 (.c 5000 (.a (.k 1 [] [] [14803,14802,14801] [14801,14802,14803] Qic))))))))))))))))),(9,.an (.dc 15 [59,60,61,62,63,64,65,66,67,68,58,69,70,9,1000000014] [5,5000] [] (.b 5 (.c 5 (.b 5000 (.d 5000 5000 (.b 5000 (.b 5000 (.b 5000 (.c 5000 (.a (.k 2 [] [] [] [] (.a (.a (.a (.e 9 (.f 9 9 Bb))))))))))))))))),(26,.gh (.fz 14801 (.dt 5000 (.fz 14803 Qbx)))),(26,.an (.dc 17 [78,79,80,81,82,83,84,85,86,87,88,89,90,77,91,92,11] [5,5000,14802] [] (.c 5 (.b 5000 (.d 5000 5000 (.b 5000 (.d 5000 14802 (.b 5000 (.d 5000 5000 (.b 5000 (.b 5000 (.c 5000 (.a (.a (.k 3 [] [14802] [] [] (.a (.a (.a Jcu)))))))))))))))))),(44,.jn [2,5,11,12] [5,9,5001,5002,13101,13102,13103,14801,14803] [(.n,⟨Fb,[(5000,.var 173 (.ag (sL [.ag (sL [zs2,zs2,zs2,zs2,Qen,zs2,Jl2,zs2,zs2,zs4,Kk]),Jtj]))),(100001,Yy)]⟩)]),(47,.an (.dc 48 [102,103,104,105,106,107,108,109,110,111,112,113,114,115,116,117,118,119,120,121,122,123,124,125,126,127,128,129,130,131,132,133,134,135,136,137,101,138,139,140,141,142,143,1000000043,144,145,146,1000000047] [5000] [9] (.b 5000 (.b 5000 (.b 5000 (.d 5000 5000 (.b 5000 (.b 5000 (.c 5000 (.b 5000 (.d 5000 5000 (.b 5000 (.b 5000 (.b 5000 (.c 5000 (.b 5000 (.d 5000 5000 (.b 5000 (.b 5000 (.b 5000 (.c 5000 (.b 5000 (.d 5000 5000 (.b 5000 (.b 5000 (.b 5000 (.c 5000 (.b 5000 (.d 5000 5000 (.b 5000 (.b 5000 (.b 5000 (.c 5000 (.b 9 (.c 9 (.a (.a (.k 4 [] [] [23702,23701] [23701,23702] (.g [] [] [] [23701,23702] (.b 23701 (.b 23702 (.a (.d 5000 5000 (.b 5000 (.b 5000 (.g [5000] [23701] [] [5000,14802,23701] Js4)))))))))))))))))))))))))))))))))))))))))))))),(50,.jn [11,12] [5,9,5001,5002,13101,13102,13103,14801,14803] [(.n,⟨Fb,[(5000,.var 173 (.ag (sL [Qmg,Jtk]))),(100101,Yy)]⟩)]),(51,.an (.dc 15 [148,149,150,151,152,153,154,155,156,157,147,158,159,13,1000000014] [5000] [5] (.b 5 (.c 5 (.b 5000 (.d 5000 5000 (.b 5000 (.b 5000 (.b 5000 (.c 5000 (.a (.k 5 [] [] [] [] (.a (.a (.a (.e 13 (.f 13 13 Bb)))))))))))))))))] func82⟩
def Mm(N:Nat):V:=⟨⟨81,⟨Js7,Q5w⟩,[Jte],u6 (Z8 N),[]⟩,kF N [Ff] [(5,.jn [0,2,4,6,7,8] [4,6,7,8,5000,5001] Jl1),(11,.an (.dc 13 [21,22,23,24,25,26,27,28,29,30,31,32,33] [4,5000,5001] [] (.b 5000 (.c 4 (.b 5000 (.d 5000 5000 (.b 5000 (.b 5000 (.c 5000 (.a (.a (.k 0 [5000,5001] [] [13001] [5000,13001] (.b 13001 Jtl)))))))))))))] func81⟩
def Qb6(N:Nat):V:=⟨⟨40,Jti,[Jtg],u4 (B8 N),[]⟩,kF N [Qeq,Ce,Mf,H2,Rx,Mm] [(17,.an (.dc 13 [33,34,35,36,37,38,39,40,41,42,43,44,45] [7,4,12801,13201,13202] [] (.b 12801 (.c 7 (.b 12801 (.c 4 (.b 7 (.c 7 (.b 7 (.c 7 (.k 4 [12801,13201,13202] [] [14101] [12801,14101] (.k 5 [12801,14101] [] [14201] [12801,14201] (.b 14201 Jtl)))))))))))))] func40⟩
def Ux(N:Nat):V:=⟨⟨34,Jdj,[zs1],u5 (Yd N),[5000,5001,5002]⟩,kF N [] [(3,.rg (.n 3 (.nl 5 Jab)))] func34⟩
def Fg(N:Nat):V:=⟨⟨38,⟨Q5x,Jdi⟩,[Jl6],u6 (Zg N),[]⟩,kF N [Qqz] [(3,.an (.dr 7 Qt6 zs5)),(5,.gh (.fz 5001 Qbx)),(5,.an (.dc 19 [16,17,18,19,20,21,22,23,24,25,15,26,27,28,5,6,7,1000000017,1000000018] [5000,3] [] (.b 5000 (.d 5000 5000 (.b 5000 (.c 5000 (.b 5000 (.d 5000 5000 (.b 5000 (.c 5000 (.c 3 (.k 0 [] [] [12501] [12501] (.b 12501 (.b 12501 (.a (.a (.e 5 (.e 6 (.e 7 (.g [5] [12501] [] [5,12501] (.f 6 6 Bb))))))))))))))))))))),(7,.an (.dc 14 [29,30,31,32,33,34,35,36,37,38,39,1000000011,40,41] [5000,3,5,6,12501,5002] [] (.b 5000 (.b 5000 (.d 5000 5000 (.b 5000 (.d 5000 5002 (.b 3 (.c 3 (.d 5 12501 (.c 6 (.d 5000 5000 (.b 5000 (.g [5000] [12501] [] [5000,5002,12501] (.op ⟨.br .done,[5002],[],[40],[40,5002]⟩ (.b 40 (.tl (.br .done)))))))))))))))))),(9,.jn [4,7] [3,4,5,6,7,5000,5001,12501] [(.n,⟨[],[(5002,Fa)]⟩)]),(12,.an (.dr 6 Jad zs5))] func38⟩
def Qe2(N:Nat):V:=⟨⟨12,⟨Q5x,Jdi⟩,[Jl6],u6 (V4 N),[]⟩,kF N [Ux,Qby,Fg,Qhb,Qb6] [(19,.an (.dc 12 [23,24,25,26,27,28,29,22,30,31,5,1000000011] [5000,3,5002] [] (.b 5000 (.d 5000 5000 (.b 5000 (.d 5000 5002 (.b 3 (.c 3 (.c 5002 (.a (.a (.a (.e 5 Jl7))))))))))))),(52,.jn [4] [3,4,5] [(.n,⟨[(7,.p 100002 [])],[(5000,.var 91 (.ag (sL [Nb,.ag (sL [Wk,Jpy,C8]),Qel]))),(5002,Fa),(100002,.var 50 Kk),(100003,Yy)]⟩)]),(55,.gh (.fz 5001 Qbx)),(55,.an (.dc 26 [67,68,69,70,71,72,73,74,75,76,77,78,79,80,81,82,83,84,66,85,86,87,88,89,1000000024,1000000025] [5000,5002] [3,5] (.b 5000 (.b 5000 (.d 5000 5000 (.b 5000 (.d 5000 5002 (.b 3 (.c 3 (.b 5000 (.d 5000 5000 (.b 5000 (.c 5000 (.b 5000 (.d 5000 5000 (.b 5000 (.c 5000 (.c 5 (.c 3 (.k 3 [] [] [18402,18401] [18401,18402] (.g [] [] [] [18401,18402] (.g [] [] [] [18401,18402] (.a (.a (.d 5000 5000 (.b 5000 (.g [5000] [18401,18402] [] [5000,5002,18401,18402] Jdk))))))))))))))))))))))))))),(56,.gh (.fz 5001 Qbx)),(56,.an (.dc 26 [91,92,93,94,95,96,97,98,99,100,101,102,103,104,105,106,107,108,90,109,110,111,112,113,1000000024,1000000025] [5000,5002] [3,5] (.b 5000 (.b 5000 (.d 5000 5000 (.b 5000 (.d 5000 5002 (.b 3 (.c 3 (.b 5000 (.d 5000 5000 (.b 5000 (.c 5000 (.b 5000 (.d 5000 5000 (.b 5000 (.c 5000 (.c 5 (.c 3 (.k 4 [] [] [20801] [20801] (.b 20801 (.b 20801 (.a (.a (.d 5000 5000 (.b 5000 (.g [5000] [20801] [] [5000,5002,20801] Jdk)))))))))))))))))))))))))))] func12⟩
def Qe3(N:Nat):V:=⟨⟨12,⟨Q5x,Jdi⟩,[Jl6],u6 (U6 N),[]⟩,kF N [Ux,Qby,Fg,Qhb,Qb6] [(19,.an (.dc 12 [23,24,25,26,27,28,29,22,30,31,5,1000000011] [5000,3,5002] [] (.b 5000 (.d 5000 5000 (.b 5000 (.d 5000 5002 (.b 3 (.c 3 (.c 5002 (.a (.a (.a (.e 5 Jl7))))))))))))),(52,.jn [4] [3,4,5] [(.n,⟨[(7,.p 100002 [])],[(5000,.var 91 (.ag (sL [Nb,.ag (sL [Wk,Jpy,C8]),Qel]))),(5002,Fa),(100002,.var 50 Kk),(100003,Yy)]⟩)]),(55,.gh (.fz 5001 Qbx)),(55,.an (.dc 26 [67,68,69,70,71,72,73,74,75,76,77,78,79,80,81,82,83,84,66,85,86,87,88,89,1000000024,1000000025] [5000,5002] [3,5] (.b 5000 (.b 5000 (.d 5000 5000 (.b 5000 (.d 5000 5002 (.b 3 (.c 3 (.b 5000 (.d 5000 5000 (.b 5000 (.c 5000 (.b 5000 (.d 5000 5000 (.b 5000 (.c 5000 (.c 5 (.c 3 (.k 3 [] [] [18402,18401] [18401,18402] (.g [] [] [] [18401,18402] (.g [] [] [] [18401,18402] (.a (.a (.d 5000 5000 (.b 5000 (.g [5000] [18401,18402] [] [5000,5002,18401,18402] Jdk))))))))))))))))))))))))))),(56,.gh (.fz 5001 Qbx)),(56,.an (.dc 26 [91,92,93,94,95,96,97,98,99,100,101,102,103,104,105,106,107,108,90,109,110,111,112,113,1000000024,1000000025] [5000,5002] [3,5] (.b 5000 (.b 5000 (.d 5000 5000 (.b 5000 (.d 5000 5002 (.b 3 (.c 3 (.b 5000 (.d 5000 5000 (.b 5000 (.c 5000 (.b 5000 (.d 5000 5000 (.b 5000 (.c 5000 (.c 5 (.c 3 (.k 4 [] [] [20801] [20801] (.b 20801 (.b 20801 (.a (.a (.d 5000 5000 (.b 5000 (.g [5000] [20801] [] [5000,5002,20801] Jdk)))))))))))))))))))))))))))] func12⟩
def A6(N:Nat):V:=⟨⟨73,⟨[(0,.m 5000)],[(5000,Fa)]⟩,[⟨[(0,.f 113 (sL [.p 1 []]))],[(5000,Fa),(1,.var 89 (.m 5000))]⟩],Ke N,[]⟩,kF N [] [] func73⟩
def Qb7(N:Nat):V:=⟨⟨35,Jdj,[⟨Jtm,[(5002,Fa)]⟩],u5 (V7 N),[5000,5001]⟩,kF N [A6,fun _=>⟨_,E9⟩] [] func35⟩
def Qb8(N:Nat):V:=⟨⟨34,⟨Fb,Jl8⟩,[⟨[(0,zs4)],Jl8⟩],u3 (Kf N),[]⟩,kF N [] [(3,.rg (.n 3 (.nl 5 Jab)))] func34⟩
def Rg(N:Nat):V:=⟨⟨35,⟨Fb,Jl8⟩,[⟨Jtm,[(5001,Fa)]⟩],u3 (Xj N),[5000]⟩,kF N [A6,fun _=>⟨_,E9⟩] [] func35⟩
def Lu(N:Nat):V:=⟨⟨43,Jr1,[Jr3],W8 N,[]⟩,kF N [fun _=>⟨_,E8⟩,fun _=>⟨_,Vf⟩] [] func43⟩
def Qal(N:Nat):V:=⟨⟨16,⟨Fb,[(5000,.var 91 (.ag (sL [Nb,Jl9,Qt9]))),(5001,Fa)]⟩,[⟨Qf8,[(5000,.var 91 (.ag (sL [Nb,.d J2,Qt9]))),(5001,Fa),(1,Jdl)]⟩],u5 (J8 N),[]⟩,kF N [Qb8,Rg,Lu] [(16,.lp [0,10,11] [5000,5001] Jtn Jto),(27,.rg (.n 7 (.call 2 (.fz 12301 (.fz 12302 Qv5)))))] func16⟩
def Qdu(N:Nat):V:=⟨⟨83,Q5f,[zs1],u2 (Hy N),[]⟩,kF N [] [(14,.lp [2,3] [2,3] Me Qkh),(24,.an (.dr 11 (.n 11 .done) .done))] func83⟩
def Qit(N:Nat):V:=⟨⟨41,(sD [.sl Q9,.sl Q9]),[zs1],u2 (B9 N),[]⟩,kF N [Qdu] [(14,.lp [0,1] [] Me Qkh),(24,.an (.dr 8 Qqi Q5c))] func41⟩
def Qiu(N:Nat):V:=⟨⟨13,(sD [J2,J2]),[zs1],u2 (G5 N),[]⟩,kF N [Qit] [(14,.lp [2,3] [2,3] Me Qkh),(24,.an (.dr 11 (.n 11 .done) .done)),(35,.lp [2,3] [2,3] Jk2 [(.x 2,⟨[],[]⟩),(.r,⟨[(4,zs4)],[]⟩)]),(45,.an (.dr 11 (.n 11 .done) .done))] func13⟩
def Qiv(N:Nat):V:=⟨⟨84,(sD [Hl,Hl]),[zs1],u2 (G6 N),[]⟩,kF N [] [(11,.an (.dc 7 [62,63,64,65,5,6,1000000006] [2,3] [] (.b 2 (.c 2 (.b 3 (.c 3 (.e 5 (.e 6 Jl7)))))))),(24,.lp [5,6] [2,3,5,6] Jaf Qkh),(34,.an (.dr 11 (.n 11 .done) .done))] func84⟩
def Qam(N:Nat):V:=⟨⟨85,(sD [.sl Xw,.sl Xw]),[zs1],u2 (Zh N),[]⟩,kF N [] [(14,.lp [0,1] [] Me Qkh),(24,.an (.dr 9 (.n 9 .done) .done))] func85⟩
def Qiw(N:Nat):V:=⟨⟨42,(sD [Ye,Ye]),[zs1],u2 (G7 N),[]⟩,kF N [Qiv,Qam] [(3,.rg (.n 27 (.sp 31 6 [2,3] [2,3] Juv (.nl 4 Q5c) Q0q (.n 8 (.sp 45 6 [2,3] [2,3] ⟨[(51,zs4)],[]⟩ (.nl 4 Jk1) Q0q (.n 29 .done))))))] func42⟩
def N3(N:Nat):V:=⟨⟨15,(sD [.sl Ye,.sl Ye]),[zs1],u2 (Y8 N),[]⟩,kF N [Qiw] [(14,.lp [0,1] [] Me Qkh),(24,.an (.dr 8 Qqi Q5c))] func15⟩
def Qkw(N:Nat):V:=⟨⟨19,Jtp,[zs1],X9 N,[]⟩,kF N [Qgv,Qkn,P2] [(4,.rg (.n 2 (.call 0 (.n 2 (.sp 8 5 [1] [1] zs8 He Jky Jad))))),(14,.lp [1] [1] P0 Qma),(24,.jn [3] [] [(.n,⟨[(52,zs4)],[]⟩)]),(24,.an (.dc 23 [27,28,29,30,31,32,33,34,35,36,37,38,39,40,41,42,43,44,45,46,47,48,49] [] [1] (.b 1 (.c 1 (.a (.a (.a (.a (.a (.a (.a (.so 35 (.a (.a (.a (.a (.a Jrt))))) (.b 1 (.b 1 (.c 1 (.b 1 (.b 1 (.c 1 (.b 1 (.c 1 (.b 1 (.c 1 (.a (.a (.a (.a (.tl (.call 2 Qt2))))))))))))))))))))))))))))] func19⟩
def Qji(N:Nat):V:=⟨⟨21,(sD []),[⟨Jc0,[(1,.var 109 (.ag (sL [.ns,zs2,.m 2]))),(2,Na)]⟩],fun _=>Su N,[]⟩,kF N [] [] func21⟩
def Kb(N:Nat):V:=⟨⟨45,Jdn,[zs1],u3 (Ug N),[5000,5001,5002]⟩,kF N [] [(3,.rg (.n 3 (.nl 5 Jab)))] func45⟩
def Qjj(N:Nat):V:=⟨⟨129,Jma,[Qpw],u2 (Lj N),[]⟩,kF N [] [] func129⟩
def Qup(N:Nat):V:=⟨⟨190,zs7,[Jtq],No N,[]⟩,kF N [] [] func190⟩
def Qpz(N:Nat):V:=⟨⟨128,⟨[(0,Qyc),(1,zs2)],[(5000,Sw)]⟩,[Qpw],u2 (Qbr N),[]⟩,kF N [Qup] [(6,.lp [] [] ⟨[(0,Qdk),(5,.d (.int .u64))],[(100000,Sw)]⟩ [(.x 0,⟨[(0,Qmb),(5,.d (.int .u64))],[(100100,Sw)]⟩)])] func128⟩
def S7(N:Nat):V:=⟨⟨87,Jma,[Qpw],u2 (U4 N),[]⟩,kF N [Qjj,Qpz] [] func87⟩
def Qq0(N:Nat):V:=⟨⟨88,(sD [.sl (.int .u8),.str]),[Qpw],u2 (Ik N),[]⟩,kF N [Qjj,Qpz] [] func88⟩
def Ia(N:Nat):V:=⟨⟨44,(sD [J7]),[Qpw],Wa N,[]⟩,kF N [S7,Qq0] [(8,.lp [1,19,20] [1] ⟨[(3,Qdk),(21,zs2)],[(100000,Sw)]⟩ [(.x 0,⟨Qx8,[(100100,Sw)]⟩)]),(24,.gh (.fz 13201 .done)),(24,.an (.dc 6 [33,34,35,36,37,38] [1] [] (.a (.b 1 (.c 1 (.k 0 [] [] [13601] [13601] (.b 1 (.c 1 (.tl Q5c)))))))))] func44⟩
def Qp0(N:Nat):V:=⟨⟨130,Qmh,[(sD [.int .u32])],Qbs N,[]⟩,kF N [] [(8,.lp [6,7] [] ⟨[(3,.d (.int .u32)),(8,zs2)],[]⟩ [(.x 0,⟨[(3,.d (.int .u32))],[]⟩)])] func130⟩
def Qq1(N:Nat):V:=⟨⟨89,⟨[(0,Qyc),(1,Jtr)],[(5000,Sw)]⟩,[Qpw],u2 (T6 N),[]⟩,kF N [Qp0,S7] [] func89⟩
def Qmu(N:Nat):V:=⟨⟨47,Qmh,[⟨Jdg,Jdo⟩],Ps N,[]⟩,kF N [Qq1] [] func47⟩
def Ao(N:Nat):V:=⟨⟨46,Jdn,[⟨[],Q5y⟩],u3 (Zq N),[]⟩,kF N [] [(1,.an (.dc 16 [2,3,4,5,6,7,8,9,10,11,12,13,14,15,16,17] [5000,5002,5001] [] (.b 5000 (.b 5000 (.d 5000 5000 (.b 5000 (.d 5000 5001 (.b 5000 (.d 5000 5000 (.b 5000 (.d 5000 5002 (.b 5000 (.d 5000 5000 (.b 5000 (.d 5000 5002 (.c 5002 (.c 5002 (.g [5001] [] [17] [17] Qic)))))))))))))))))),(2,.an (.dr 13 (.n 13 .done) zs5))] func46⟩
def Qhc(N:Nat):V:=⟨⟨23,⟨Q5x,Jdm⟩,[⟨Qgc,Q5y⟩],u4 (Pt N),[]⟩,kF N [Kb,Ia,Qmu,Ao] [(25,.an (.dr 15 zs27 zs5))] func23⟩
def A7(N:Nat):V:=⟨⟨23,⟨Q5x,Jdm⟩,[⟨Qgc,Q5y⟩],u4 (Yw N),[]⟩,kF N [Kb,Ia,Qmu,Ao] [(25,.an (.dr 15 zs27 zs5))] func23⟩
def Qkx(N:Nat):V:=⟨⟨22,Jdn,[⟨Qgc,Q5y⟩],u3 (Qbt N),[]⟩,kF N [Kb,Ao] [] func22⟩
def Qix(N:Nat):V:=⟨⟨24,⟨Quc,Jdm⟩,[⟨[],Q5y⟩],u4 (Sv N),[]⟩,kF N [Kb] [(7,.an (.dr 19 (.n 19 .done) .done)),(13,.lp [0,4] [34,5000] ⟨[(5,zs2)],[(5002,Na)]⟩ [(.x 0,⟨[],[(5002,Na)]⟩)])] func24⟩
def Nj(N:Nat):V:=⟨⟨26,Jdn,[⟨Qf8,[(5001,Sw),(1,Sw)]⟩],u3 (Y9 N),[5000,5002]⟩,kF N [Kb,fun _=>⟨_,Qdj⟩] [] func26⟩
def Q0y(N:Nat):V:=⟨⟨260,Jtq,[zs7],Qdg N,[]⟩,kF N [] [] func260⟩
def Qmv(N:Nat):V:=⟨⟨191,Qmh,[Q5q],Pu N,[]⟩,kF N [Q0y] [(8,.lp [0] [] ⟨[(5,.d (.int .u64)),(6,zs2)],[]⟩ [(.x 0,⟨[],[]⟩),(.r,⟨[(2,zs2),(3,zs2),(4,zs2)],[]⟩)])] func191⟩
def Qmw(N:Nat):V:=⟨⟨192,Jma,[Qpw],u2 (Pv N),[]⟩,kF N [] [] func192⟩
def Qhd(N:Nat):V:=⟨⟨131,Qmh,[⟨[(0,zs2),(1,Nx),(2,zs2)],Jdo⟩],Ca N,[]⟩,kF N [Qmv,Qmw] [] func131⟩
def Quq(N:Nat):V:=⟨⟨90,Qmh,[Q5q],Ef N,[]⟩,kF N [Qhd,Qp0] [(38,.an (.dr 30 (.n 30 .done) .done))] func90⟩
def Qur(N:Nat):V:=⟨⟨91,(sD [.sl (.int .u8),.i,.i]),[Qpw],u3 (Nq N),[]⟩,kF N [] [] func91⟩
def Q51(N:Nat):V:=⟨⟨48,Qmh,[⟨Jdg,[(1,Jmb)]⟩],Qh3 N,[]⟩,kF N [Quq,Qur] [(8,.lp [0] [] ⟨[(4,Qdk),(5,zs2)],[(100000,Jmb)]⟩ [(.x 0,⟨[(4,Qmb),(5,zs2)],[(100100,Jmb)]⟩)]),(25,.rg (.n 8 (.call 1 (.fz 13101 Qv5))))] func48⟩
def Qb9(N:Nat):V:=⟨⟨92,Jts,[⟨Qgc,Jtt⟩],Qt N,[]⟩,kF N [Qhd] [] func92⟩
def Qus(N:Nat):V:=⟨⟨193,Qmh,[Q5q],Qdh N,[]⟩,kF N [Qmv] [] func193⟩
def Q0z(N:Nat):V:=⟨⟨132,Qmh,[⟨[(0,V1),(1,Nx),(2,zs2)],Jdo⟩],Qdi N,[]⟩,kF N [Qus,Qmw] [(21,.an (.dc 12 [23,24,25,26,27,28,29,30,31,32,33,34] [] [] (.a (.a (.a (.a (.a (.a (.a (.a (.a (.a (.a (.k 1 [] [] [13401] [13401] Qic))))))))))))))] func132⟩
def Qe4(N:Nat):V:=⟨⟨93,Jts,[⟨[(0,V1)],Jtt⟩],U7 N,[]⟩,kF N [Q0z] [] func93⟩
def Qor(N:Nat):V:=⟨⟨49,Qmh,[Jr0],Cc N,[]⟩,kF N [Qb9,Qe4] [(20,.an (.dc 4 [30,31,32,1000000003] [4,2] [] (.a (.b 4 (.c 4 (.f 2 2 Bb))))))] func49⟩
def S8(N:Nat):V:=⟨⟨25,(sD [Uu,J2,.sl (.int .u8)]),[⟨[(0,.p 1 []),(1,zs2)],[(1,.var 91 (.ag (sL [Nb,Jlz,.m 3]))),(2,Yy),(3,Fa)]⟩],u3 (Kv N),[]⟩,kF N [Q0r,Q51,Qor,Qe2] [(10,.lp [24,25] [3,4,12101] ⟨[(8,Qia),(9,zs2),(26,zs2)],[(100000,.var 91 (.ag (sL [.ag (sL [Jld,.d (.sl Yj),Jsq,.d (.sl Hk),.d (.sl .i),.d (.sl Vd)]),Jtj,Jlt]))),(100001,Yy),(100002,Fa)]⟩ [(.x 0,⟨[(8,Qf9),(9,zs2)],[(100100,.var 91 (.ag (sL [Nb,Jtk,Jlu]))),(100101,Yy),(100102,Fa)]⟩)])] func25⟩
def Qhe(N:Nat):V:=⟨⟨20,(sD []),[zs1],fun _=>Ka N,[]⟩,kF N [Qji,Qhc,A7,Qkx,Qix,Nj,S8,Ia] [(13,.rg (.n 2 (.call 1 (.n 2 (.call 2 Jab))))),(17,.rg (.n 2 Jpw)),(25,.rg (.n 2 Jpw)),(27,.rg (.n 27 (.sp 66 5 [1] [11001,11002,13001,13101,13102,13103,13501] ⟨[(71,zs4)],[(13901,Sw)]⟩ (.nl 1 (.call 5 Jk0)) He (.n 1 (.sp 72 5 [] [11001,11002,13001,13101,13102,13103,13501,13901] ⟨[(77,zs4)],[]⟩ (.nl 1 (.call 7 Jk0)) He zs5)))))] func20⟩
def Qan(N:Nat):V:=⟨⟨14,Jdj,[⟨Ju3,[(5001,.tail 101 J6),(1,Uk),(2,Yy),(3,Lm)]⟩],u5 (V0 N),[5000,5002]⟩,kF N [Ux,P4] [] func14⟩
def N4(N:Nat):V:=⟨⟨16,Jdj,[⟨Qf8,[(5002,Fa),(1,Jdl)]⟩],u5 (J3 N),[5000,5001]⟩,kF N [Ux,Qb7,Lu] [(16,.lp [0,10,11] [5002] Jtn Jto),(27,.rg (.n 7 (.call 2 (.fz 12301 (.fz 12302 Qv5)))))] func16⟩
def Hc(N:Nat):V:=⟨⟨6,Jtp,[zs1],V6 N,[]⟩,kF N [Qkw,Qhe,Qji,A7,Nj,S8,N4,Qe3,Qan,Qiu,Qal,N3] [(24,.lp [1] [1] ⟨[(3,Qia),(4,zs2)],[(100000,.var 109 (.ag (sL [Qt5,zs2,Jlt]))),(100001,Sw),(100002,Na)]⟩ [(.x 0,⟨[(3,Qf9)],[(100100,.var 109 (.ag (sL [Qme,zs2,Jlu]))),(100101,Sw),(100102,Na)]⟩)]),(36,.an (.dc 11 [34,35,36,37,38,39,40,33,41,42,5] [1,100101,100100,100102] [] (.b 1 (.c 1 (.b 1 (.c 1 (.b 100100 (.k 4 [100101] [100100,100102] [13901] [13901,100101] (.k 5 [13901] [] [14003,14002,14001] [13901,14001,14002,14003] (.b 14001 (.b 14001 (.a (.b 14001 Bb))))))))))))),(38,.an (.dc 11 [44,45,46,47,48,49,50,43,51,52,7] [1,100101,100100,100102] [] (.b 1 (.c 1 (.b 1 (.c 1 (.b 100100 (.k 4 [100101] [100100,100102] [14901] [14901,100101] (.k 5 [14901] [] [15003,15002,15001] [14901,15001,15002,15003] (.b 15001 (.b 15001 (.a (.b 15001 Bb))))))))))))),(41,.rg (.n 3 (.nl 2 (.n 2 (.nl 3 Qqi))))),(53,.lp [7,9] [1,13901,14901,15001,15002,15003,17201,100100,100101,100102] ⟨[(5,Qt4),(10,zs2)],[(100200,.var 91 (.ag (sL [Nb,.ag (sL [Wk,Q5b,C8]),.m 100202]))),(100201,Yy),(100202,Fa)]⟩ [(.x 2,⟨[(5,Qmd)],[(100300,.var 91 (.ag (sL [Nb,.ag (sL [Wk,Qua,C8]),.m 100302]))),(100301,Yy),(100302,Fa)]⟩),(.r,⟨[(2,zs4)],[]⟩)]),(65,.an (.dc 9 [83,84,85,86,87,88,89,90,91] [11,100200,100201,100202] [] (.b 100200 (.b 11 (.c 11 (.b 11 (.c 11 (.a (.k 7 [100200,100201,100202] [] [18901] [18901,100200,100202] (.b 11 (.c 11 Bb))))))))))),(73,.rg (.n 1 (.call 8 (.n 1 (.call 8 (.call 9 (.n 1 (.fz 17201 (.sp 98 5 [5,7,9] [1,13901,14901,15002,17201,19401,19402,19403,19601,19602,19603,100100,100101,100102,100300,100301,100302] ⟨[(103,zs4)],[(15001,.var 91 (.ag (sL [Nb,Jl9,.m 100501]))),(100501,Fa)]⟩ (.nl 2 (.call 10 (.call 11 zs5))) He (.n 1 (.sp 104 5 [5,9] [1,13901,14901,15001,15002,17201,19401,19402,19403,19601,19602,19603,100100,100101,100102,100301,100501] ⟨[(109,zs4)],[(100300,.var 91 (.ag (sL [Nb,Jl9,.m 100601]))),(100601,Fa)]⟩ (.nl 1 (.call 10 (.nl 1 (.call 11 zs5)))) He (.n 1 (.sp 110 2 [] [1,13901,14901,15001,15002,17201,19401,19402,19403,19601,19602,19603,100100,100101,100102,100300,100301,100501,100601] ⟨[(112,zs4)],[]⟩ Jk1 Qt2 zs5)))))))))))))] func6⟩
end Gx
