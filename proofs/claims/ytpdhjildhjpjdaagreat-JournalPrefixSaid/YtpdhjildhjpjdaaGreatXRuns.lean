/- The interpreter gives these functions. -/
import Derived.Test.YtpdhjildhjpjdaaGreatXFns
import Derived.Test.YtpdhjildhjpjdaaGreatProg
import Derived.Test.YtpdhjildhjpjdaaGreatXRo
import Derived.Test.YtpdhjildhjpjdaaGreatXShelf
namespace Gx
open Go Gd Go.Proofs Tryz
set_option linter.unusedVariables false
def HT.a(r:HT):HT:=.op ⟨.nl 1 .done,[],[],[],[]⟩ r
def HT.b(x:Nat)(r:HT):HT:=.op ⟨.nl 1 .done,[],[],[],[x]⟩ r
def HT.c(x:Nat)(r:HT):HT:=.op ⟨.nl 1 .done,[],[x],[],[]⟩ r
def HT.d(x y:Nat)(r:HT):HT:=.op ⟨.nl 1 .done,[],[x],[],[y]⟩ r
def HT.e(x:Nat)(r:HT):HT:=.op ⟨.nl 1 .done,[],[],[x],[x]⟩ r
def HT.f(x y:Nat)(r:HT):HT:=.op ⟨.nl 1 .done,[x],[],[],[y]⟩ r
def HT.g(a b c d:List Nat)(r:HT):HT:=.op ⟨.nl 1 .done,a,b,c,d⟩ r
def HT.k(n:Nat)(a b c d:List Nat)(r:HT):HT:=.op ⟨.call n .done,a,b,c,d⟩ r
def u2{α0 α1 β:Type}(f:α0→α1→β)(p:α0×α1):β:=f p.1 p.2
def u3{α0 α1 α2 β:Type}(f:α0→α1→α2→β)(p:α0×α1×α2):β:=f p.1 p.2.1 p.2.2
def u4{α0 α1 α2 α3 β:Type}(f:α0→α1→α2→α3→β)(p:α0×α1×α2×α3):β:=f p.1 p.2.1 p.2.2.1 p.2.2.2
def u5{α0 α1 α2 α3 α4 β:Type}(f:α0→α1→α2→α3→α4→β)(p:α0×α1×α2×α3×α4):β:=f p.1 p.2.1 p.2.2.1 p.2.2.2.1 p.2.2.2.2
def u6{α0 α1 α2 α3 α4 α5 β:Type}(f:α0→α1→α2→α3→α4→α5→β)(p:α0×α1×α2×α3×α4×α5):β:=f p.1 p.2.1 p.2.2.1 p.2.2.2.1 p.2.2.2.2.1 p.2.2.2.2.2
def u7{α0 α1 α2 α3 α4 α5 α6 β:Type}(f:α0→α1→α2→α3→α4→α5→α6→β)(p:α0×α1×α2×α3×α4×α5×α6):β:=f p.1 p.2.1 p.2.2.1 p.2.2.2.1 p.2.2.2.2.1 p.2.2.2.2.2.1 p.2.2.2.2.2.2
def u8{α0 α1 α2 α3 α4 α5 α6 α7 β:Type}(f:α0→α1→α2→α3→α4→α5→α6→α7→β)(p:α0×α1×α2×α3×α4×α5×α6×α7):β:=f p.1 p.2.1 p.2.2.1 p.2.2.2.1 p.2.2.2.2.1 p.2.2.2.2.2.1 p.2.2.2.2.2.2.1 p.2.2.2.2.2.2.2
def u9{α0 α1 α2 α3 α4 α5 α6 α7 α8 β:Type}(f:α0→α1→α2→α3→α4→α5→α6→α7→α8→β)(p:α0×α1×α2×α3×α4×α5×α6×α7×α8):β:=f p.1 p.2.1 p.2.2.1 p.2.2.2.1 p.2.2.2.2.1 p.2.2.2.2.2.1 p.2.2.2.2.2.2.1 p.2.2.2.2.2.2.2.1 p.2.2.2.2.2.2.2.2
def u14{α0 α1 α2 α3 α4 α5 α6 α7 α8 α9 α10 α11 α12 α13 β:Type}(f:α0→α1→α2→α3→α4→α5→α6→α7→α8→α9→α10→α11→α12→α13→β)(p:α0×α1×α2×α3×α4×α5×α6×α7×α8×α9×α10×α11×α12×α13):β:=f p.1 p.2.1 p.2.2.1 p.2.2.2.1 p.2.2.2.2.1 p.2.2.2.2.2.1 p.2.2.2.2.2.2.1 p.2.2.2.2.2.2.2.1 p.2.2.2.2.2.2.2.2.1 p.2.2.2.2.2.2.2.2.2.1 p.2.2.2.2.2.2.2.2.2.2.1 p.2.2.2.2.2.2.2.2.2.2.2.1 p.2.2.2.2.2.2.2.2.2.2.2.2.1 p.2.2.2.2.2.2.2.2.2.2.2.2.2
def u15{α0 α1 α2 α3 α4 α5 α6 α7 α8 α9 α10 α11 α12 α13 α14 β:Type}(f:α0→α1→α2→α3→α4→α5→α6→α7→α8→α9→α10→α11→α12→α13→α14→β)(p:α0×α1×α2×α3×α4×α5×α6×α7×α8×α9×α10×α11×α12×α13×α14):β:=f p.1 p.2.1 p.2.2.1 p.2.2.2.1 p.2.2.2.2.1 p.2.2.2.2.2.1 p.2.2.2.2.2.2.1 p.2.2.2.2.2.2.2.1 p.2.2.2.2.2.2.2.2.1 p.2.2.2.2.2.2.2.2.2.1 p.2.2.2.2.2.2.2.2.2.2.1 p.2.2.2.2.2.2.2.2.2.2.2.1 p.2.2.2.2.2.2.2.2.2.2.2.2.1 p.2.2.2.2.2.2.2.2.2.2.2.2.2.1 p.2.2.2.2.2.2.2.2.2.2.2.2.2.2
def u16{α0 α1 α2 α3 α4 α5 α6 α7 α8 α9 α10 α11 α12 α13 α14 α15 β:Type}(f:α0→α1→α2→α3→α4→α5→α6→α7→α8→α9→α10→α11→α12→α13→α14→α15→β)(p:α0×α1×α2×α3×α4×α5×α6×α7×α8×α9×α10×α11×α12×α13×α14×α15):β:=f p.1 p.2.1 p.2.2.1 p.2.2.2.1 p.2.2.2.2.1 p.2.2.2.2.2.1 p.2.2.2.2.2.2.1 p.2.2.2.2.2.2.2.1 p.2.2.2.2.2.2.2.2.1 p.2.2.2.2.2.2.2.2.2.1 p.2.2.2.2.2.2.2.2.2.2.1 p.2.2.2.2.2.2.2.2.2.2.2.1 p.2.2.2.2.2.2.2.2.2.2.2.2.1 p.2.2.2.2.2.2.2.2.2.2.2.2.2.1 p.2.2.2.2.2.2.2.2.2.2.2.2.2.2.1 p.2.2.2.2.2.2.2.2.2.2.2.2.2.2.2
def u18{α0 α1 α2 α3 α4 α5 α6 α7 α8 α9 α10 α11 α12 α13 α14 α15 α16 α17 β:Type}(f:α0→α1→α2→α3→α4→α5→α6→α7→α8→α9→α10→α11→α12→α13→α14→α15→α16→α17→β)(p:α0×α1×α2×α3×α4×α5×α6×α7×α8×α9×α10×α11×α12×α13×α14×α15×α16×α17):β:=f p.1 p.2.1 p.2.2.1 p.2.2.2.1 p.2.2.2.2.1 p.2.2.2.2.2.1 p.2.2.2.2.2.2.1 p.2.2.2.2.2.2.2.1 p.2.2.2.2.2.2.2.2.1 p.2.2.2.2.2.2.2.2.2.1 p.2.2.2.2.2.2.2.2.2.2.1 p.2.2.2.2.2.2.2.2.2.2.2.1 p.2.2.2.2.2.2.2.2.2.2.2.2.1 p.2.2.2.2.2.2.2.2.2.2.2.2.2.1 p.2.2.2.2.2.2.2.2.2.2.2.2.2.2.1 p.2.2.2.2.2.2.2.2.2.2.2.2.2.2.2.1 p.2.2.2.2.2.2.2.2.2.2.2.2.2.2.2.2.1 p.2.2.2.2.2.2.2.2.2.2.2.2.2.2.2.2.2
def u26{α0 α1 α2 α3 α4 α5 α6 α7 α8 α9 α10 α11 α12 α13 α14 α15 α16 α17 α18 α19 α20 α21 α22 α23 α24 α25 β:Type}(f:α0→α1→α2→α3→α4→α5→α6→α7→α8→α9→α10→α11→α12→α13→α14→α15→α16→α17→α18→α19→α20→α21→α22→α23→α24→α25→β)(p:α0×α1×α2×α3×α4×α5×α6×α7×α8×α9×α10×α11×α12×α13×α14×α15×α16×α17×α18×α19×α20×α21×α22×α23×α24×α25):β:=f p.1 p.2.1 p.2.2.1 p.2.2.2.1 p.2.2.2.2.1 p.2.2.2.2.2.1 p.2.2.2.2.2.2.1 p.2.2.2.2.2.2.2.1 p.2.2.2.2.2.2.2.2.1 p.2.2.2.2.2.2.2.2.2.1 p.2.2.2.2.2.2.2.2.2.2.1 p.2.2.2.2.2.2.2.2.2.2.2.1 p.2.2.2.2.2.2.2.2.2.2.2.2.1 p.2.2.2.2.2.2.2.2.2.2.2.2.2.1 p.2.2.2.2.2.2.2.2.2.2.2.2.2.2.1 p.2.2.2.2.2.2.2.2.2.2.2.2.2.2.2.1 p.2.2.2.2.2.2.2.2.2.2.2.2.2.2.2.2.1 p.2.2.2.2.2.2.2.2.2.2.2.2.2.2.2.2.2.1 p.2.2.2.2.2.2.2.2.2.2.2.2.2.2.2.2.2.2.1 p.2.2.2.2.2.2.2.2.2.2.2.2.2.2.2.2.2.2.2.1 p.2.2.2.2.2.2.2.2.2.2.2.2.2.2.2.2.2.2.2.2.1 p.2.2.2.2.2.2.2.2.2.2.2.2.2.2.2.2.2.2.2.2.2.1 p.2.2.2.2.2.2.2.2.2.2.2.2.2.2.2.2.2.2.2.2.2.2.1 p.2.2.2.2.2.2.2.2.2.2.2.2.2.2.2.2.2.2.2.2.2.2.2.1 p.2.2.2.2.2.2.2.2.2.2.2.2.2.2.2.2.2.2.2.2.2.2.2.2.1 p.2.2.2.2.2.2.2.2.2.2.2.2.2.2.2.2.2.2.2.2.2.2.2.2.2
def u27{α0 α1 α2 α3 α4 α5 α6 α7 α8 α9 α10 α11 α12 α13 α14 α15 α16 α17 α18 α19 α20 α21 α22 α23 α24 α25 α26 β:Type}(f:α0→α1→α2→α3→α4→α5→α6→α7→α8→α9→α10→α11→α12→α13→α14→α15→α16→α17→α18→α19→α20→α21→α22→α23→α24→α25→α26→β)(p:α0×α1×α2×α3×α4×α5×α6×α7×α8×α9×α10×α11×α12×α13×α14×α15×α16×α17×α18×α19×α20×α21×α22×α23×α24×α25×α26):β:=f p.1 p.2.1 p.2.2.1 p.2.2.2.1 p.2.2.2.2.1 p.2.2.2.2.2.1 p.2.2.2.2.2.2.1 p.2.2.2.2.2.2.2.1 p.2.2.2.2.2.2.2.2.1 p.2.2.2.2.2.2.2.2.2.1 p.2.2.2.2.2.2.2.2.2.2.1 p.2.2.2.2.2.2.2.2.2.2.2.1 p.2.2.2.2.2.2.2.2.2.2.2.2.1 p.2.2.2.2.2.2.2.2.2.2.2.2.2.1 p.2.2.2.2.2.2.2.2.2.2.2.2.2.2.1 p.2.2.2.2.2.2.2.2.2.2.2.2.2.2.2.1 p.2.2.2.2.2.2.2.2.2.2.2.2.2.2.2.2.1 p.2.2.2.2.2.2.2.2.2.2.2.2.2.2.2.2.2.1 p.2.2.2.2.2.2.2.2.2.2.2.2.2.2.2.2.2.2.1 p.2.2.2.2.2.2.2.2.2.2.2.2.2.2.2.2.2.2.2.1 p.2.2.2.2.2.2.2.2.2.2.2.2.2.2.2.2.2.2.2.2.1 p.2.2.2.2.2.2.2.2.2.2.2.2.2.2.2.2.2.2.2.2.2.1 p.2.2.2.2.2.2.2.2.2.2.2.2.2.2.2.2.2.2.2.2.2.2.1 p.2.2.2.2.2.2.2.2.2.2.2.2.2.2.2.2.2.2.2.2.2.2.2.1 p.2.2.2.2.2.2.2.2.2.2.2.2.2.2.2.2.2.2.2.2.2.2.2.2.1 p.2.2.2.2.2.2.2.2.2.2.2.2.2.2.2.2.2.2.2.2.2.2.2.2.2.1 p.2.2.2.2.2.2.2.2.2.2.2.2.2.2.2.2.2.2.2.2.2.2.2.2.2.2
def u29{α0 α1 α2 α3 α4 α5 α6 α7 α8 α9 α10 α11 α12 α13 α14 α15 α16 α17 α18 α19 α20 α21 α22 α23 α24 α25 α26 α27 α28 β:Type}(f:α0→α1→α2→α3→α4→α5→α6→α7→α8→α9→α10→α11→α12→α13→α14→α15→α16→α17→α18→α19→α20→α21→α22→α23→α24→α25→α26→α27→α28→β)(p:α0×α1×α2×α3×α4×α5×α6×α7×α8×α9×α10×α11×α12×α13×α14×α15×α16×α17×α18×α19×α20×α21×α22×α23×α24×α25×α26×α27×α28):β:=f p.1 p.2.1 p.2.2.1 p.2.2.2.1 p.2.2.2.2.1 p.2.2.2.2.2.1 p.2.2.2.2.2.2.1 p.2.2.2.2.2.2.2.1 p.2.2.2.2.2.2.2.2.1 p.2.2.2.2.2.2.2.2.2.1 p.2.2.2.2.2.2.2.2.2.2.1 p.2.2.2.2.2.2.2.2.2.2.2.1 p.2.2.2.2.2.2.2.2.2.2.2.2.1 p.2.2.2.2.2.2.2.2.2.2.2.2.2.1 p.2.2.2.2.2.2.2.2.2.2.2.2.2.2.1 p.2.2.2.2.2.2.2.2.2.2.2.2.2.2.2.1 p.2.2.2.2.2.2.2.2.2.2.2.2.2.2.2.2.1 p.2.2.2.2.2.2.2.2.2.2.2.2.2.2.2.2.2.1 p.2.2.2.2.2.2.2.2.2.2.2.2.2.2.2.2.2.2.1 p.2.2.2.2.2.2.2.2.2.2.2.2.2.2.2.2.2.2.2.1 p.2.2.2.2.2.2.2.2.2.2.2.2.2.2.2.2.2.2.2.2.1 p.2.2.2.2.2.2.2.2.2.2.2.2.2.2.2.2.2.2.2.2.2.1 p.2.2.2.2.2.2.2.2.2.2.2.2.2.2.2.2.2.2.2.2.2.2.1 p.2.2.2.2.2.2.2.2.2.2.2.2.2.2.2.2.2.2.2.2.2.2.2.1 p.2.2.2.2.2.2.2.2.2.2.2.2.2.2.2.2.2.2.2.2.2.2.2.2.1 p.2.2.2.2.2.2.2.2.2.2.2.2.2.2.2.2.2.2.2.2.2.2.2.2.2.1 p.2.2.2.2.2.2.2.2.2.2.2.2.2.2.2.2.2.2.2.2.2.2.2.2.2.2.1 p.2.2.2.2.2.2.2.2.2.2.2.2.2.2.2.2.2.2.2.2.2.2.2.2.2.2.2.1 p.2.2.2.2.2.2.2.2.2.2.2.2.2.2.2.2.2.2.2.2.2.2.2.2.2.2.2.2
def tab:Tab:=[
 ⟨1,.func ⟨[]⟩ ⟨[]⟩ false,.nilFunc,1,8⟩,
 ⟨2,.int .i64,.int .i64 0,1,8⟩,
 ⟨3,.int .i64,.int .i64 0,1,8⟩,
 ⟨4,.bool,.bool false,1,1⟩,
 ⟨5,.int .u8,.int .u8 0,1,1⟩,
 ⟨6,.int .u8,.int .u8 0,1,1⟩,
 ⟨9,.string,Yk [],1,16⟩,
 ⟨22,.slice 135,.slice none 0 0,1,24⟩,
 ⟨23,.slice 146,.slice none 0 0,1,24⟩,
 ⟨24,.slice 133,.slice none 0 0,1,24⟩,
 ⟨25,.slice 150,.slice none 0 0,1,24⟩,
 ⟨26,.slice 3,.slice none 0 0,1,24⟩,
 ⟨27,.slice 156,.slice none 0 0,1,24⟩,
 ⟨29,.struct ⟨[⟨"Events",22,0,false, "", "",0⟩,⟨"Tariffs",23,1,false, "", "",24⟩,⟨"Products",24,2,false, "", "",48⟩,⟨"Taxes",25,3,false, "", "",72⟩,⟨"Holidays",26,4,false, "", "",96⟩,⟨"Agreements",27,5,false, "", "",120⟩]⟩,.agg ⟨[.slice none 0 0,.slice none 0 0,.slice none 0 0,.slice none 0 0,.slice none 0 0,.slice none 0 0]⟩,6,144⟩,
 ⟨30,.slice 129,.slice none 0 0,1,24⟩,
 ⟨31,.slice 101,.slice none 0 0,1,24⟩,
 ⟨32,.slice 103,.slice none 0 0,1,24⟩,
 ⟨34,.struct ⟨[⟨"Buckets",30,0,false, "", "",0⟩,⟨"Wallets",31,1,false, "", "",24⟩,⟨"Counters",32,2,false, "", "",48⟩]⟩,.agg ⟨[.slice none 0 0,.slice none 0 0,.slice none 0 0]⟩,3,72⟩,
 ⟨35,.slice 45,.slice none 0 0,1,24⟩,
 ⟨37,.struct ⟨[⟨"Book",29,0,false, "", "",0⟩,⟨"State",34,6,false, "", "",144⟩,⟨"Ops",35,9,false, "", "",216⟩]⟩,.agg ⟨[.slice none 0 0,.slice none 0 0,.slice none 0 0,.slice none 0 0,.slice none 0 0,.slice none 0 0,.slice none 0 0,.slice none 0 0,.slice none 0 0,.slice none 0 0]⟩,10,240⟩,
 ⟨40,.pointer 91,.pointer none,1,8⟩,
 ⟨43,.struct ⟨[⟨"Session",3,0,false, "", "",0⟩,⟨"Seq",3,1,false, "", "",8⟩,⟨"Kind",3,2,false, "", "",16⟩,⟨"At",3,3,false, "", "",24⟩,⟨"Sub",3,4,false, "", "",32⟩,⟨"Usage",3,5,false, "", "",40⟩,⟨"B",9,6,false, "", "",48⟩,⟨"Used",3,7,false, "", "",64⟩,⟨"Ask",3,8,false, "", "",72⟩]⟩,.agg ⟨[.int .i64 0,.int .i64 0,.int .i64 0,.int .i64 0,.int .i64 0,.int .i64 0,Yk [],.int .i64 0,.int .i64 0]⟩,9,80⟩,
 ⟨45,.struct ⟨[⟨"Request",43,0,false, "", "",0⟩,⟨"Expire",4,9,false, "", "",80⟩]⟩,.agg ⟨[.int .i64 0,.int .i64 0,.int .i64 0,.int .i64 0,.int .i64 0,.int .i64 0,Yk [],.int .i64 0,.int .i64 0,.bool false]⟩,10,88⟩,
 ⟨48,.int .i64,.int .i64 0,1,8⟩,
 ⟨50,.struct ⟨[⟨"Session",3,0,false, "", "",0⟩,⟨"Seq",3,1,false, "", "",8⟩,⟨"Granted",3,2,false, "", "",16⟩,⟨"Until",3,3,false, "", "",24⟩,⟨"Err",48,4,false, "", "",32⟩]⟩,.agg ⟨[.int .i64 0,.int .i64 0,.int .i64 0,.int .i64 0,.int .i64 0]⟩,5,40⟩,
 ⟨55,.slice 81,.slice none 0 0,1,24⟩,
 ⟨60,.slice 43,.slice none 0 0,1,24⟩,
 ⟨62,.struct ⟨[⟨"Book",29,0,false, "", "",0⟩,⟨"State",34,6,false, "", "",144⟩,⟨"Requests",60,9,false, "", "",216⟩]⟩,.agg ⟨[.slice none 0 0,.slice none 0 0,.slice none 0 0,.slice none 0 0,.slice none 0 0,.slice none 0 0,.slice none 0 0,.slice none 0 0,.slice none 0 0,.slice none 0 0]⟩,10,240⟩,
 ⟨64,.pointer 109,.pointer none,1,8⟩,
 ⟨71,.slice 5,.slice none 0 0,1,24⟩,
 ⟨74,.slice 141,.slice none 0 0,1,24⟩,
 ⟨76,.struct ⟨[⟨"Kind",3,0,false, "", "",0⟩,⟨"Zone",9,1,false, "", "",8⟩,⟨"Band",9,2,false, "", "",24⟩,⟨"Setup",3,3,false, "", "",40⟩,⟨"Steps",74,4,false, "", "",48⟩]⟩,.agg ⟨[.int .i64 0,Yk [],Yk [],.int .i64 0,.slice none 0 0]⟩,5,72⟩,
 ⟨78,.struct ⟨[⟨"Account",3,0,false, "", "",0⟩,⟨"Sub",3,1,false, "", "",8⟩,⟨"Kind",3,2,false, "", "",16⟩,⟨"Zone",9,3,false, "", "",24⟩,⟨"Plan",9,4,false, "", "",40⟩,⟨"Version",3,5,false, "", "",56⟩,⟨"Rate",76,6,false, "", "",64⟩,⟨"Free",3,11,false, "", "",136⟩,⟨"Paid",3,12,false, "", "",144⟩]⟩,.agg ⟨[.int .i64 0,.int .i64 0,.int .i64 0,Yk [],Yk [],.int .i64 0,.int .i64 0,Yk [],Yk [],.int .i64 0,.slice none 0 0,.int .i64 0,.int .i64 0]⟩,13,152⟩,
 ⟨79,.slice 185,.slice none 0 0,1,24⟩,
 ⟨81,.struct ⟨[⟨"Id",3,0,false, "", "",0⟩,⟨"Seq",3,1,false, "", "",8⟩,⟨"Start",3,2,false, "", "",16⟩,⟨"Until",3,3,false, "", "",24⟩,⟨"Meter",78,4,false, "", "",32⟩,⟨"Granted",3,17,false, "", "",184⟩,⟨"Takes",79,18,false, "", "",192⟩,⟨"Held",3,19,false, "", "",216⟩,⟨"Spent",3,20,false, "", "",224⟩,⟨"Closed",4,21,false, "", "",232⟩,⟨"Last",50,22,false, "", "",240⟩]⟩,.agg ⟨[.int .i64 0,.int .i64 0,.int .i64 0,.int .i64 0,.int .i64 0,.int .i64 0,.int .i64 0,Yk [],Yk [],.int .i64 0,.int .i64 0,Yk [],Yk [],.int .i64 0,.slice none 0 0,.int .i64 0,.int .i64 0,.int .i64 0,.slice none 0 0,.int .i64 0,.int .i64 0,.bool false,.int .i64 0,.int .i64 0,.int .i64 0,.int .i64 0,.int .i64 0]⟩,27,280⟩,
 ⟨89,.map 3 81,.map none,1,8⟩,
 ⟨91,.struct ⟨[⟨"book",29,0,false, "", "billing/online",0⟩,⟨"state",34,6,false, "", "billing/online",144⟩,⟨"sessions",89,9,false, "", "billing/online",216⟩]⟩,.agg ⟨[.slice none 0 0,.slice none 0 0,.slice none 0 0,.slice none 0 0,.slice none 0 0,.slice none 0 0,.slice none 0 0,.slice none 0 0,.slice none 0 0,.map none]⟩,10,224⟩,
 ⟨101,.struct ⟨[⟨"Account",3,0,false, "", "",0⟩,⟨"Balance",3,1,false, "", "",8⟩,⟨"Floor",3,2,false, "", "",16⟩,⟨"Held",3,3,false, "", "",24⟩,⟨"Until",3,4,false, "", "",32⟩]⟩,.agg ⟨[.int .i64 0,.int .i64 0,.int .i64 0,.int .i64 0,.int .i64 0]⟩,5,40⟩,
 ⟨103,.struct ⟨[⟨"Sub",3,0,false, "", "",0⟩,⟨"Kind",3,1,false, "", "",8⟩,⟨"From",3,2,false, "", "",16⟩,⟨"Units",3,3,false, "", "",24⟩,⟨"Spent",3,4,false, "", "",32⟩]⟩,.agg ⟨[.int .i64 0,.int .i64 0,.int .i64 0,.int .i64 0,.int .i64 0]⟩,5,40⟩,
 ⟨107,.map 3 3,.map none,1,8⟩,
 ⟨109,.struct ⟨[⟨"bytes",71,0,false, "", "billing/journal",0⟩,⟨"safe",3,1,false, "", "billing/journal",24⟩,⟨"ends",107,2,false, "", "billing/journal",32⟩]⟩,.agg ⟨[.slice none 0 0,.int .i64 0,.map none]⟩,3,40⟩,
 ⟨112,.slice 71,.slice none 0 0,1,24⟩,
 ⟨125,.slice 9,.slice none 0 0,1,24⟩,
 ⟨127,.struct ⟨[⟨"From",3,0,false, "", "",0⟩,⟨"To",3,1,false, "", "",8⟩]⟩,.agg ⟨[.int .i64 0,.int .i64 0]⟩,2,16⟩,
 ⟨129,.struct ⟨[⟨"Account",3,0,false, "", "",0⟩,⟨"Sub",3,1,false, "", "",8⟩,⟨"Product",9,2,false, "", "",16⟩,⟨"Index",3,3,false, "", "",32⟩,⟨"Kind",3,4,false, "", "",40⟩,⟨"Zones",125,5,false, "", "",48⟩,⟨"Valid",127,6,false, "", "",72⟩,⟨"Units",3,8,false, "", "",88⟩,⟨"Left",3,9,false, "", "",96⟩,⟨"Priority",3,10,false, "", "",104⟩,⟨"Shared",4,11,false, "", "",112⟩]⟩,.agg ⟨[.int .i64 0,.int .i64 0,Yk [],.int .i64 0,.int .i64 0,.slice none 0 0,.int .i64 0,.int .i64 0,.int .i64 0,.int .i64 0,.int .i64 0,.bool false]⟩,12,120⟩,
 ⟨131,.slice 160,.slice none 0 0,1,24⟩,
 ⟨133,.struct ⟨[⟨"Name",9,0,false, "", "",0⟩,⟨"From",3,1,false, "", "",16⟩,⟨"Fee",3,2,false, "", "",24⟩,⟨"Category",9,3,false, "", "",32⟩,⟨"Prorate",4,4,false, "", "",48⟩,⟨"Bundles",131,5,false, "", "",56⟩]⟩,.agg ⟨[Yk [],.int .i64 0,.int .i64 0,Yk [],.bool false,.slice none 0 0]⟩,6,80⟩,
 ⟨135,.struct ⟨[⟨"At",3,0,false, "", "",0⟩,⟨"Kind",3,1,false, "", "",8⟩,⟨"Account",3,2,false, "", "",16⟩,⟨"Sub",3,3,false, "", "",24⟩,⟨"Number",9,4,false, "", "",32⟩,⟨"Name",9,5,false, "", "",48⟩,⟨"Value",3,6,false, "", "",64⟩]⟩,.agg ⟨[.int .i64 0,.int .i64 0,.int .i64 0,.int .i64 0,Yk [],Yk [],.int .i64 0]⟩,7,72⟩,
 ⟨136,.slice 221,.slice none 0 0,1,24⟩,
 ⟨138,.struct ⟨[⟨"Name",9,0,false, "", "",0⟩,⟨"Slots",136,1,false, "", "",16⟩]⟩,.agg ⟨[Yk [],.slice none 0 0]⟩,2,40⟩,
 ⟨139,.slice 138,.slice none 0 0,1,24⟩,
 ⟨141,.struct ⟨[⟨"Upto",3,0,false, "", "",0⟩,⟨"Quantum",3,1,false, "", "",8⟩,⟨"Price",3,2,false, "", "",16⟩]⟩,.agg ⟨[.int .i64 0,.int .i64 0,.int .i64 0]⟩,3,24⟩,
 ⟨142,.slice 76,.slice none 0 0,1,24⟩,
 ⟨143,.slice 210,.slice none 0 0,1,24⟩,
 ⟨144,.slice 218,.slice none 0 0,1,24⟩,
 ⟨146,.struct ⟨[⟨"Name",9,0,false, "", "",0⟩,⟨"From",3,1,false, "", "",16⟩,⟨"Split",4,2,false, "", "",24⟩,⟨"Zones",143,3,false, "", "",32⟩,⟨"Bands",139,4,false, "", "",56⟩,⟨"Rates",142,5,false, "", "",80⟩,⟨"Discounts",144,6,false, "", "",104⟩]⟩,.agg ⟨[Yk [],.int .i64 0,.bool false,.slice none 0 0,.slice none 0 0,.slice none 0 0,.slice none 0 0]⟩,7,128⟩,
 ⟨150,.struct ⟨[⟨"Category",9,0,false, "", "",0⟩,⟨"From",3,1,false, "", "",16⟩,⟨"Points",3,2,false, "", "",24⟩]⟩,.agg ⟨[Yk [],.int .i64 0,.int .i64 0]⟩,3,32⟩,
 ⟨156,.struct ⟨[⟨"Partner",3,0,false, "", "",0⟩,⟨"Kind",3,1,false, "", "",8⟩,⟨"Inbound",4,2,false, "", "",16⟩,⟨"Valid",127,3,false, "", "",24⟩,⟨"Steps",74,5,false, "", "",40⟩,⟨"Cap",3,6,false, "", "",64⟩]⟩,.agg ⟨[.int .i64 0,.int .i64 0,.bool false,.int .i64 0,.int .i64 0,.slice none 0 0,.int .i64 0]⟩,7,72⟩,
 ⟨160,.struct ⟨[⟨"Kind",3,0,false, "", "",0⟩,⟨"Zones",125,1,false, "", "",8⟩,⟨"Units",3,2,false, "", "",32⟩,⟨"Rollover",3,3,false, "", "",40⟩,⟨"Priority",3,4,false, "", "",48⟩,⟨"Shared",4,5,false, "", "",56⟩]⟩,.agg ⟨[.int .i64 0,.slice none 0 0,.int .i64 0,.int .i64 0,.int .i64 0,.bool false]⟩,6,64⟩,
 ⟨168,.func ⟨[207]⟩ ⟨[]⟩ false,.nilFunc,1,8⟩,
 ⟨170,.pointer 173,.pointer none,1,8⟩,
 ⟨173,.struct ⟨[⟨"Session",81,0,true, "", "",0⟩,⟨"state",34,27,false, "", "billing/session",280⟩]⟩,.agg ⟨[.int .i64 0,.int .i64 0,.int .i64 0,.int .i64 0,.int .i64 0,.int .i64 0,.int .i64 0,Yk [],Yk [],.int .i64 0,.int .i64 0,Yk [],Yk [],.int .i64 0,.slice none 0 0,.int .i64 0,.int .i64 0,.int .i64 0,.slice none 0 0,.int .i64 0,.int .i64 0,.bool false,.int .i64 0,.int .i64 0,.int .i64 0,.int .i64 0,.int .i64 0,.slice none 0 0,.slice none 0 0,.slice none 0 0]⟩,30,352⟩,
 ⟨185,.struct ⟨[⟨"Sub",3,0,false, "", "",0⟩,⟨"Product",9,1,false, "", "",8⟩,⟨"Index",3,2,false, "", "",24⟩,⟨"From",3,3,false, "", "",32⟩,⟨"Units",3,4,false, "", "",40⟩]⟩,.agg ⟨[.int .i64 0,Yk [],.int .i64 0,.int .i64 0,.int .i64 0]⟩,5,48⟩,
 ⟨193,.struct ⟨[⟨"rest",71,0,false, "", "billing/journal",0⟩,⟨"bad",48,1,false, "", "billing/journal",24⟩]⟩,.agg ⟨[.slice none 0 0,.int .i64 0]⟩,2,32⟩,
 ⟨195,.slice 243,.slice none 0 0,1,24⟩,
 ⟨196,.slice 260,.slice none 0 0,1,24⟩,
 ⟨198,.struct ⟨[⟨"Accounts",195,0,false, "", "",0⟩,⟨"Subs",196,1,false, "", "",24⟩,⟨"Ended",26,2,false, "", "",48⟩]⟩,.agg ⟨[.slice none 0 0,.slice none 0 0,.slice none 0 0]⟩,3,72⟩,
 ⟨210,.struct ⟨[⟨"Name",9,0,false, "", "",0⟩,⟨"Prefixes",125,1,false, "", "",16⟩]⟩,.agg ⟨[Yk [],.slice none 0 0]⟩,2,40⟩,
 ⟨214,.slice 216,.slice none 0 0,1,24⟩,
 ⟨216,.struct ⟨[⟨"Op",3,0,false, "", "",0⟩,⟨"Num",3,1,false, "", "",8⟩,⟨"Text",9,2,false, "", "",16⟩,⟨"Args",214,3,false, "", "",32⟩]⟩,.agg ⟨[.int .i64 0,.int .i64 0,Yk [],.slice none 0 0]⟩,4,56⟩,
 ⟨218,.struct ⟨[⟨"Name",9,0,false, "", "",0⟩,⟨"When",216,1,false, "", "",16⟩,⟨"Points",3,5,false, "", "",72⟩]⟩,.agg ⟨[Yk [],.int .i64 0,.int .i64 0,Yk [],.slice none 0 0,.int .i64 0]⟩,6,80⟩,
 ⟨221,.struct ⟨[⟨"Days",3,0,false, "", "",0⟩,⟨"From",3,1,false, "", "",8⟩,⟨"To",3,2,false, "", "",16⟩]⟩,.agg ⟨[.int .i64 0,.int .i64 0,.int .i64 0]⟩,3,24⟩,
 ⟨235,.struct ⟨[⟨"Period",127,0,false, "", "",0⟩,⟨"Plan",9,2,false, "", "",16⟩,⟨"Products",125,3,false, "", "",32⟩,⟨"Suspended",4,4,false, "", "",56⟩,⟨"Family",4,5,false, "", "",57⟩]⟩,.agg ⟨[.int .i64 0,.int .i64 0,Yk [],.slice none 0 0,.bool false,.bool false]⟩,6,64⟩,
 ⟨243,.struct ⟨[⟨"Id",3,0,false, "", "",0⟩,⟨"Since",3,1,false, "", "",8⟩,⟨"Anchor",3,2,false, "", "",16⟩,⟨"Prepaid",4,3,false, "", "",24⟩,⟨"Closed",4,4,false, "", "",25⟩,⟨"Subs",26,5,false, "", "",32⟩]⟩,.agg ⟨[.int .i64 0,.int .i64 0,.int .i64 0,.bool false,.bool false,.slice none 0 0]⟩,6,56⟩,
 ⟨246,.int .u32,.int .u32 0,1,4⟩,
 ⟨255,.array 5 4,.agg ⟨[.bool false,.bool false,.bool false,.bool false,.bool false]⟩,5,5⟩,
 ⟨260,.struct ⟨[⟨"Id",3,0,false, "", "",0⟩,⟨"Account",3,1,false, "", "",8⟩,⟨"Since",3,2,false, "", "",16⟩,⟨"Plan",9,3,false, "", "",24⟩,⟨"Numbers",125,4,false, "", "",40⟩,⟨"Products",125,5,false, "", "",64⟩,⟨"Suspended",4,6,false, "", "",88⟩,⟨"Family",4,7,false, "", "",89⟩]⟩,.agg ⟨[.int .i64 0,.int .i64 0,.int .i64 0,Yk [],.slice none 0 0,.slice none 0 0,.bool false,.bool false]⟩,8,96⟩,
 ⟨271,.struct ⟨[⟨"sub",3,0,false, "", "billing/bucket",0⟩,⟨"product",9,1,false, "", "billing/bucket",8⟩,⟨"index",3,2,false, "", "billing/bucket",24⟩,⟨"from",3,3,false, "", "billing/bucket",32⟩]⟩,.agg ⟨[.int .i64 0,Yk [],.int .i64 0,.int .i64 0]⟩,4,40⟩,
 ⟨276,.struct ⟨[⟨"Meter",78,0,true, "", "",0⟩]⟩,.agg ⟨[.int .i64 0,.int .i64 0,.int .i64 0,Yk [],Yk [],.int .i64 0,.int .i64 0,Yk [],Yk [],.int .i64 0,.slice none 0 0,.int .i64 0,.int .i64 0]⟩,13,152⟩,
 ⟨279,.func ⟨[101]⟩ ⟨[4]⟩ false,.nilFunc,1,8⟩,
 ⟨290,.pointer 293,.pointer none,1,8⟩,
 ⟨291,.map 296 4,.map none,1,8⟩,
 ⟨293,.struct ⟨[⟨"list",30,0,false, "", "billing/bundle",0⟩,⟨"has",291,1,false, "", "billing/bundle",24⟩]⟩,.agg ⟨[.slice none 0 0,.map none]⟩,2,32⟩,
 ⟨296,.struct ⟨[⟨"sub",3,0,false, "", "billing/bundle",0⟩,⟨"product",9,1,false, "", "billing/bundle",8⟩,⟨"index",3,2,false, "", "billing/bundle",24⟩,⟨"from",3,3,false, "", "billing/bundle",32⟩]⟩,.agg ⟨[.int .i64 0,Yk [],.int .i64 0,.int .i64 0]⟩,4,40⟩,
 ⟨299,.slice 304,.slice none 0 0,1,24⟩,
 ⟨301,.slice 127,.slice none 0 0,1,24⟩,
 ⟨304,.struct ⟨[⟨"account",3,0,false, "", "billing/bundle",0⟩,⟨"sub",3,1,false, "", "billing/bundle",8⟩,⟨"product",9,2,false, "", "billing/bundle",16⟩,⟨"active",301,3,false, "", "billing/bundle",32⟩]⟩,.agg ⟨[.int .i64 0,.int .i64 0,Yk [],.slice none 0 0]⟩,4,56⟩,
 ⟨305,.slice 308,.slice none 0 0,1,24⟩,
 ⟨308,.struct ⟨[⟨"bucket",129,0,false, "", "billing/bundle",0⟩,⟨"rollover",3,12,false, "", "billing/bundle",120⟩]⟩,.agg ⟨[.int .i64 0,.int .i64 0,Yk [],.int .i64 0,.int .i64 0,.slice none 0 0,.int .i64 0,.int .i64 0,.int .i64 0,.int .i64 0,.int .i64 0,.bool false,.int .i64 0]⟩,13,128⟩,
 ⟨315,.slice 235,.slice none 0 0,1,24⟩,
 ⟨323,.struct ⟨[⟨"Accounts",195,0,false, "", "",0⟩,⟨"Subs",196,1,false, "", "",24⟩]⟩,.agg ⟨[.slice none 0 0,.slice none 0 0]⟩,2,48⟩,
 ⟨326,.int .u64,.int .u64 0,1,8⟩,
 ⟨350,.map 9 9,.map none,1,8⟩,
 ⟨357,.map 3 4,.map none,1,8⟩,
 ⟨358,.map 9 357,.map none,1,8⟩,
 ⟨370,.slice 373,.slice none 0 0,1,24⟩,
 ⟨373,.struct ⟨[⟨"at",3,0,false, "", "billing/subscribe",0⟩,⟨"s",260,1,false, "", "billing/subscribe",8⟩]⟩,.agg ⟨[.int .i64 0,.int .i64 0,.int .i64 0,.int .i64 0,Yk [],.slice none 0 0,.slice none 0 0,.bool false,.bool false]⟩,9,104⟩,
 ⟨376,.func ⟨[373,373]⟩ ⟨[4]⟩ false,.nilFunc,1,8⟩,
 ⟨377,.func ⟨[373,373]⟩ ⟨[373]⟩ false,.nilFunc,1,8⟩,
 ⟨379,.pointer 414,.pointer none,1,8⟩,
 ⟨395,.func ⟨[210]⟩ ⟨[4]⟩ false,.nilFunc,1,8⟩,
 ⟨397,.func ⟨[138]⟩ ⟨[4]⟩ false,.nilFunc,1,8⟩,
 ⟨399,.func ⟨[221]⟩ ⟨[4]⟩ false,.nilFunc,1,8⟩,
 ⟨403,.func ⟨[235]⟩ ⟨[4]⟩ false,.nilFunc,1,8⟩,
 ⟨406,.func ⟨[4,4]⟩ ⟨[4]⟩ false,.nilFunc,1,8⟩,
 ⟨408,.func ⟨[133]⟩ ⟨[4]⟩ false,.nilFunc,1,8⟩,
 ⟨410,.map 3 243,.map none,1,8⟩,
 ⟨411,.map 3 260,.map none,1,8⟩,
 ⟨412,.map 9 3,.map none,1,8⟩,
 ⟨414,.struct ⟨[⟨"accounts",410,0,false, "", "billing/customer",0⟩,⟨"subs",411,1,false, "", "billing/customer",8⟩,⟨"ever",357,2,false, "", "billing/customer",16⟩,⟨"owners",412,3,false, "", "billing/customer",24⟩,⟨"live",107,4,false, "", "billing/customer",32⟩,⟨"opened",26,5,false, "", "billing/customer",40⟩,⟨"added",26,6,false, "", "billing/customer",64⟩]⟩,.agg ⟨[.map none,.map none,.map none,.map none,.map none,.slice none 0 0,.slice none 0 0]⟩,7,88⟩,
 ⟨416,.map 3 26,.map none,1,8⟩,
 ⟨426,.func ⟨[127,127]⟩ ⟨[4]⟩ false,.nilFunc,1,8⟩,
 ⟨427,.func ⟨[127,127]⟩ ⟨[127]⟩ false,.nilFunc,1,8⟩,
 ⟨429,.struct ⟨[⟨"Year",3,0,false, "", "",0⟩,⟨"Month",3,1,false, "", "",8⟩,⟨"Day",3,2,false, "", "",16⟩]⟩,.agg ⟨[.int .i64 0,.int .i64 0,.int .i64 0]⟩,3,24⟩,
 ⟨431,.slice 433,.slice none 0 0,1,24⟩,
 ⟨433,.struct ⟨[⟨"at",3,0,false, "", "billing/interval",0⟩,⟨"list",3,1,false, "", "billing/interval",8⟩,⟨"by",3,2,false, "", "billing/interval",16⟩]⟩,.agg ⟨[.int .i64 0,.int .i64 0,.int .i64 0]⟩,3,24⟩,
 ⟨436,.func ⟨[433,433]⟩ ⟨[3]⟩ false,.nilFunc,1,8⟩,
 ⟨437,.array 2 3,.agg ⟨[.int .i64 0,.int .i64 0]⟩,2,16⟩,
 ⟨442,.array 12 3,.agg ⟨[.int .i64 0,.int .i64 0,.int .i64 0,.int .i64 0,.int .i64 0,.int .i64 0,.int .i64 0,.int .i64 0,.int .i64 0,.int .i64 0,.int .i64 0,.int .i64 0]⟩,12,96⟩]
def tx:TX:=⟨tab,[(1,.ref),(2,(.int .i64)),(3,(.int .i64)),(4,.bool),(5,(.int .u8)),(6,(.int .u8)),(9,.str),(22,(.sl Jp)),(23,(.sl Yg)),(24,(.sl J3)),(25,(.sl Hd)),(26,(.sl (.int .i64))),(27,(.sl Y8)),(29,Uq),(30,(.sl Q9)),(31,(.sl J5)),(32,(.sl Ui)),(34,J2),(35,(.sl Dm)),(37,Qj1),(40,.ref),(43,J6),(45,Dm),(48,(.int .i64)),(50,Sc),(55,(.sl Yb)),(60,(.sl J6)),(62,Vd),(64,.ref),(71,(.sl (.int .u8))),(74,(.sl Vh)),(76,Xl),(78,He),(79,(.sl Xn)),(81,Yb),(89,.ref),(91,Qts),(101,J5),(103,Ui),(107,.ref),(109,Q0m),(112,(.sl (.sl (.int .u8)))),(125,(.sl .str)),(127,J4),(129,Q9),(131,(.sl Zd)),(133,J3),(135,Jp),(136,(.sl Zg)),(138,V8),(139,(.sl V8)),(141,Vh),(142,(.sl Xl)),(143,(.sl V4)),(144,(.sl Uh)),(146,Yg),(150,Hd),(156,Y8),(160,Zd),(168,.ref),(170,.ref),(173,Qqb),(185,Xn),(193,Qd5),(195,(.sl U6)),(196,(.sl Vu)),(198,Zr),(210,V4),(214,(.sl Xm)),(216,Xm),(218,Uh),(221,Zg),(235,Dn),(243,U6),(246,(.int .u32)),(255,(.arr 5 .bool)),(260,Vu),(271,Qbf),(276,Id),(279,.ref),(290,.ref),(291,.ref),(293,Qv0),(296,Zh),(299,(.sl Ut)),(301,(.sl J4)),(304,Ut),(305,(.sl Fc)),(308,Fc),(315,(.sl Dn)),(323,Qtu),(326,(.int .u64)),(350,.ref),(357,.ref),(358,.ref),(370,(.sl Vv)),(373,Vv),(376,.ref),(377,.ref),(379,.ref),(395,.ref),(397,.ref),(399,.ref),(403,.ref),(406,.ref),(408,.ref),(410,.ref),(411,.ref),(412,.ref),(414,Qqc),(416,.ref),(426,.ref),(427,.ref),(429,Qhu),(431,(.sl V9)),(433,V9),(436,.ref),(437,(.arr 2 (.int .i64))),(442,(.arr 12 (.int .i64)))],[]⟩
theorem G2:Tryz.prog.follows .mixedOrders=true:=by kernel_rfl
theorem G3:Qy Tryz.prog tab:=by repeat (first | exact trivial | refine⟨⟨⟨by kernel_rfl,by kernel_rfl⟩,by kernel_rfl⟩,?_⟩)
abbrev KO(c:Con):Prop:=Qa5 Tryz.prog tx.gl c∧Runs Tryz.prog c.f
abbrev IO(i:It):Prop:=Jgd Tryz.prog tx.gl i∧Runs Tryz.prog i.f
abbrev V:={c // KO c}
def kcs(N:Nat)(L:List (Nat→V)):List Con:=L.map fun k=>(k N).1
theorem Jcq(N:Nat):∀L:List (Nat→V),Q4p Tryz.prog tx.gl (kcs N L)
 | []=>Jwy
 | c::L=>Juo (c N).2.1 (c N).2.2 (Jcq N L)
def Jcr(fn:Func):Bool:=decide (fn.name ≠ "runtime.NumGoroutine")&&!fn.body.isNone
theorem Ka{f:FuncId}{fn:Func}(hf:Tryz.prog.funcs[f]?=some fn)(h:Jcr fn=true):Runs Tryz.prog f:=by
 simp only[Jcr,QQ,decide_eq_true_eq,XZ]at h
 exact⟨fn,hf,h.1,h.2⟩
theorem kF(N:Nat){c:Con}(L:List (Nat→V))(ps:List (Nat×Pc)){fn:Func}(hf:Tryz.prog.funcs[c.f]?=some fn)(hg:Jcr fn=true:=by rfl)(h:∀x,c.fn x=Jjn tx (kcs N L) N fn (Jur ((kcs N L).map Con.f) ps fn.body) c.ro c.Γ c.Δ x:=by intro x; kernel_rfl):KO c :=
 ⟨Jpl (Y:=tx) (N:=N) G3 G2 (Jcq N L) hf rfl h,Ka hf hg⟩
def ics(L:List {i // IO i}):List It:=L.map (·.1)
theorem Jro:∀L:List {i // IO i},∀i∈ics L,Jgd Tryz.prog tx.gl i∧Runs Tryz.prog i.f
 | [],_,h=>by cases h
 | c::L,i,h=>by
  rcases QX.1 h with rfl | h
  ·exact c.2
  ·exact Jro L i h
theorem kR(N:Nat){c:Con}(L:List (Nat→V))(I:List {i // IO i})(an:AnR){fn:Func}(hf:Tryz.prog.funcs[c.f]?=some fn)(hg:Jcr fn=true)(h:∀x,c.fn x=Jkf tx (kcs N L) N (ics I) fn an c.ro c.Γ c.Δ x):KO c :=
 ⟨Jkg (Y:=tx) (N:=N) (an:=an) G3 G2 (Jcq N L) (Jro I) hf rfl h,Ka hf hg⟩
def Pu:Con:=⟨59,(Qbd Jp),[(Bi 135 Jp)],Jv 72,[]⟩
theorem Rj:KO Pu:=⟨Vt G3 G2 func59 rfl rfl rfl rfl rfl rfl rfl rfl (by kernel_rfl) (y0:=([]:List Ql)) (by kernel_rfl) (an0:=.reg (.n 1 .done)) (anA:=.two (.reg (.n 1 .done)) .nil) (anC:=.two (.reg (.n 4 .done)) .nil) ⟨by kernel_rfl,by kernel_rfl⟩ (fun xs=>by kernel_rfl) (fun xs=>by kernel_rfl) (fun xs=>by kernel_rfl),Ka func59 rfl⟩
def T5:Con:=⟨60,(Qbd Hd),[(Bi 150 Hd)],Jv 32,[]⟩
theorem Qbv:KO T5:=⟨Vt G3 G2 func60 rfl rfl rfl rfl rfl rfl rfl rfl (by kernel_rfl) (y0:=([]:List Ou)) (by kernel_rfl) (an0:=.reg (.n 1 .done)) (anA:=.two (.reg (.n 1 .done)) .nil) (anC:=.two (.reg (.n 4 .done)) .nil) ⟨by kernel_rfl,by kernel_rfl⟩ (fun xs=>by kernel_rfl) (fun xs=>by kernel_rfl) (fun xs=>by kernel_rfl),Ka func60 rfl⟩
def Qf0:Con:=⟨61,(Qbd (.int .i64)),[(Bi 3 (.int .i64))],Jv 8,[]⟩
theorem Qh3:KO Qf0:=⟨Vt G3 G2 func61 rfl rfl rfl rfl rfl rfl rfl rfl (by kernel_rfl) (y0:=([]:List Int)) (by kernel_rfl) (an0:=.reg (.n 1 .done)) (anA:=.two (.reg (.n 1 .done)) .nil) (anC:=.two (.reg (.n 4 .done)) .nil) ⟨by kernel_rfl,by kernel_rfl⟩ (fun xs=>by kernel_rfl) (fun xs=>by kernel_rfl) (fun xs=>by kernel_rfl),Ka func61 rfl⟩
def No:Con:=⟨62,(Qbd Yg),[(Bi 146 Yg)],Jv 128,[]⟩
theorem Pv:KO No:=⟨Vt G3 G2 func62 rfl rfl rfl rfl rfl rfl rfl rfl (by kernel_rfl) (y0:=([]:List Q0)) (by kernel_rfl) (an0:=.reg (.n 1 .done)) (anA:=.two (.reg (.n 1 .done)) .nil) (anC:=.two (.reg (.n 4 .done)) .nil) ⟨by kernel_rfl,by kernel_rfl⟩ (fun xs=>by kernel_rfl) (fun xs=>by kernel_rfl) (fun xs=>by kernel_rfl),Ka func62 rfl⟩
def L8:Con:=⟨63,(Qbd J3),[(Bi 133 J3)],Jv 80,[]⟩
theorem Np:KO L8:=⟨Vt G3 G2 func63 rfl rfl rfl rfl rfl rfl rfl rfl (by kernel_rfl) (y0:=([]:List Qn)) (by kernel_rfl) (an0:=.reg (.n 1 .done)) (anA:=.two (.reg (.n 1 .done)) .nil) (anC:=.two (.reg (.n 4 .done)) .nil) ⟨by kernel_rfl,by kernel_rfl⟩ (fun xs=>by kernel_rfl) (fun xs=>by kernel_rfl) (fun xs=>by kernel_rfl),Ka func63 rfl⟩
def D3:Con:=⟨64,(Qbd Y8),[(Bi 156 Y8)],Jv 72,[]⟩
theorem Lh:KO D3:=⟨Vt G3 G2 func64 rfl rfl rfl rfl rfl rfl rfl rfl (by kernel_rfl) (y0:=([]:List Jb)) (by kernel_rfl) (an0:=.reg (.n 1 .done)) (anA:=.two (.reg (.n 1 .done)) .nil) (anC:=.two (.reg (.n 4 .done)) .nil) ⟨by kernel_rfl,by kernel_rfl⟩ (fun xs=>by kernel_rfl) (fun xs=>by kernel_rfl) (fun xs=>by kernel_rfl),Ka func64 rfl⟩
def Rk:Con:=⟨105,(Qbd V4),[(Bi 210 V4)],Jv 40,[]⟩
theorem T6:KO Rk:=⟨Vt G3 G2 func105 rfl rfl rfl rfl rfl rfl rfl rfl (by kernel_rfl) (y0:=([]:List Q3)) (by kernel_rfl) (an0:=.reg (.n 1 .done)) (anA:=.two (.reg (.n 1 .done)) .nil) (anC:=.two (.reg (.n 4 .done)) .nil) ⟨by kernel_rfl,by kernel_rfl⟩ (fun xs=>by kernel_rfl) (fun xs=>by kernel_rfl) (fun xs=>by kernel_rfl),Ka func105 rfl⟩
def Rl:Con:=⟨106,(Qbd V8),[(Bi 138 V8)],Jv 40,[]⟩
theorem T7:KO Rl:=⟨Vt G3 G2 func106 rfl rfl rfl rfl rfl rfl rfl rfl (by kernel_rfl) (y0:=([]:List Jg)) (by kernel_rfl) (an0:=.reg (.n 1 .done)) (anA:=.two (.reg (.n 1 .done)) .nil) (anC:=.two (.reg (.n 4 .done)) .nil) ⟨by kernel_rfl,by kernel_rfl⟩ (fun xs=>by kernel_rfl) (fun xs=>by kernel_rfl) (fun xs=>by kernel_rfl),Ka func106 rfl⟩
def Rm:Con:=⟨107,(Qbd Xl),[(Bi 76 Xl)],Jv 72,[]⟩
theorem T8:KO Rm:=⟨Vt G3 G2 func107 rfl rfl rfl rfl rfl rfl rfl rfl (by kernel_rfl) (y0:=([]:List Y0)) (by kernel_rfl) (an0:=.reg (.n 1 .done)) (anA:=.two (.reg (.n 1 .done)) .nil) (anC:=.two (.reg (.n 4 .done)) .nil) ⟨by kernel_rfl,by kernel_rfl⟩ (fun xs=>by kernel_rfl) (fun xs=>by kernel_rfl) (fun xs=>by kernel_rfl),Ka func107 rfl⟩
def Li:Con:=⟨108,(Qbd Uh),[(Bi 218 Uh)],Jv 80,[]⟩
theorem L9:KO Li:=⟨Vt G3 G2 func108 rfl rfl rfl rfl rfl rfl rfl rfl (by kernel_rfl) (y0:=([]:List Jk)) (by kernel_rfl) (an0:=.reg (.n 1 .done)) (anA:=.two (.reg (.n 1 .done)) .nil) (anC:=.two (.reg (.n 4 .done)) .nil) ⟨by kernel_rfl,by kernel_rfl⟩ (fun xs=>by kernel_rfl) (fun xs=>by kernel_rfl) (fun xs=>by kernel_rfl),Ka func108 rfl⟩
def Qbw:Con:=⟨67,(Qbd .str),[(Bi 9 .str)],Jv 16,[]⟩
theorem Zb:KO Qbw:=⟨Vt G3 G2 func67 rfl rfl rfl rfl rfl rfl rfl rfl (by kernel_rfl) (y0:=([]:List Str)) (by kernel_rfl) (an0:=.reg (.n 1 .done)) (anA:=.two (.reg (.n 1 .done)) .nil) (anC:=.two (.reg (.n 4 .done)) .nil) ⟨by kernel_rfl,by kernel_rfl⟩ (fun xs=>by kernel_rfl) (fun xs=>by kernel_rfl) (fun xs=>by kernel_rfl),Ka func67 rfl⟩
def Rn:Con:=⟨109,(Qbd Zg),[(Bi 221 Zg)],Jv 24,[]⟩
theorem T9:KO Rn:=⟨Vt G3 G2 func109 rfl rfl rfl rfl rfl rfl rfl rfl (by kernel_rfl) (y0:=([]:List Wg)) (by kernel_rfl) (an0:=.reg (.n 1 .done)) (anA:=.two (.reg (.n 1 .done)) .nil) (anC:=.two (.reg (.n 4 .done)) .nil) ⟨by kernel_rfl,by kernel_rfl⟩ (fun xs=>by kernel_rfl) (fun xs=>by kernel_rfl) (fun xs=>by kernel_rfl),Ka func109 rfl⟩
def Ro:Con:=⟨68,(Qbd Vh),[(Bi 141 Vh)],Jv 24,[]⟩
theorem Y9:KO Ro:=⟨Vt G3 G2 func68 rfl rfl rfl rfl rfl rfl rfl rfl (by kernel_rfl) (y0:=([]:List Qw)) (by kernel_rfl) (an0:=.reg (.n 1 .done)) (anA:=.two (.reg (.n 1 .done)) .nil) (anC:=.two (.reg (.n 4 .done)) .nil) ⟨by kernel_rfl,by kernel_rfl⟩ (fun xs=>by kernel_rfl) (fun xs=>by kernel_rfl) (fun xs=>by kernel_rfl),Ka func68 rfl⟩
def Rp:Con:=⟨148,(Qbd Xm),[(Bi 216 Xm)],Jv 56,[]⟩
theorem Qaa:KO Rp:=⟨Vt G3 G2 func148 rfl rfl rfl rfl rfl rfl rfl rfl (by kernel_rfl) (y0:=([]:List Ja)) (by kernel_rfl) (an0:=.reg (.n 1 .done)) (anA:=.two (.reg (.n 1 .done)) .nil) (anC:=.two (.reg (.n 4 .done)) .nil) ⟨by kernel_rfl,by kernel_rfl⟩ (fun xs=>by kernel_rfl) (fun xs=>by kernel_rfl) (fun xs=>by kernel_rfl),Ka func148 rfl⟩
def Nq:Con:=⟨66,(Qbd Zd),[(Bi 160 Zd)],Jv 64,[]⟩
theorem Pw:KO Nq:=⟨Vt G3 G2 func66 rfl rfl rfl rfl rfl rfl rfl rfl (by kernel_rfl) (y0:=([]:List Yj)) (by kernel_rfl) (an0:=.reg (.n 1 .done)) (anA:=.two (.reg (.n 1 .done)) .nil) (anC:=.two (.reg (.n 4 .done)) .nil) ⟨by kernel_rfl,by kernel_rfl⟩ (fun xs=>by kernel_rfl) (fun xs=>by kernel_rfl) (fun xs=>by kernel_rfl),Ka func66 rfl⟩
def Ns:Con:=⟨69,(Qbd Q9),[(Bi 129 Q9)],Jv 120,[]⟩
theorem Ht:KO Ns:=⟨Vt G3 G2 func69 rfl rfl rfl rfl rfl rfl rfl rfl (by kernel_rfl) (y0:=([]:List Qa)) (by kernel_rfl) (an0:=.reg (.n 1 .done)) (anA:=.two (.reg (.n 1 .done)) .nil) (anC:=.two (.reg (.n 4 .done)) .nil) ⟨by kernel_rfl,by kernel_rfl⟩ (fun xs=>by kernel_rfl) (fun xs=>by kernel_rfl) (fun xs=>by kernel_rfl),Ka func69 rfl⟩
def Nt:Con:=⟨70,(Qbd J5),[(Bi 101 J5)],Jv 40,[]⟩
theorem Hu:KO Nt:=⟨Vt G3 G2 func70 rfl rfl rfl rfl rfl rfl rfl rfl (by kernel_rfl) (y0:=([]:List Qc)) (by kernel_rfl) (an0:=.reg (.n 1 .done)) (anA:=.two (.reg (.n 1 .done)) .nil) (anC:=.two (.reg (.n 4 .done)) .nil) ⟨by kernel_rfl,by kernel_rfl⟩ (fun xs=>by kernel_rfl) (fun xs=>by kernel_rfl) (fun xs=>by kernel_rfl),Ka func70 rfl⟩
def Ma:Con:=⟨71,(Qbd Ui),[(Bi 103 Ui)],Jv 40,[]⟩
theorem G4:KO Ma:=⟨Vt G3 G2 func71 rfl rfl rfl rfl rfl rfl rfl rfl (by kernel_rfl) (y0:=([]:List Qf)) (by kernel_rfl) (an0:=.reg (.n 1 .done)) (anA:=.two (.reg (.n 1 .done)) .nil) (anC:=.two (.reg (.n 4 .done)) .nil) ⟨by kernel_rfl,by kernel_rfl⟩ (fun xs=>by kernel_rfl) (fun xs=>by kernel_rfl) (fun xs=>by kernel_rfl),Ka func71 rfl⟩
def Rq:Con:=⟨86,(Qbd Xn),[(Bi 185 Xn)],Jv 48,[]⟩
theorem E5:KO Rq:=⟨Vt G3 G2 func86 rfl rfl rfl rfl rfl rfl rfl rfl (by kernel_rfl) (y0:=([]:List Qo)) (by kernel_rfl) (an0:=.reg (.n 1 .done)) (anA:=.two (.reg (.n 1 .done)) .nil) (anC:=.two (.reg (.n 4 .done)) .nil) ⟨by kernel_rfl,by kernel_rfl⟩ (fun xs=>by kernel_rfl) (fun xs=>by kernel_rfl) (fun xs=>by kernel_rfl),Ka func86 rfl⟩
def G5:Con:=⟨68,(Jkk 141 Vh),[(Jrl 141 Vh)],fun(xs:List Qw)=>Qj0 24 xs,[]⟩
theorem Px:KO G5:=⟨Qxx G3 G2 (c:=G5) func68 (fA:=fun(xs:List Qw)=>some (xs,([]:List Qw))) rfl rfl rfl rfl rfl rfl rfl rfl (by kernel_rfl) (by kernel_rfl) (an0:=.reg (.n 1 .done)) (anA:=.two (.reg (.n 1 .done)) .nil) (anC:=.two (.reg (.n 4 .done)) .nil) (fun _=>⟨by kernel_rfl,by kernel_rfl⟩) (g:=Qfe tx.gl) (fun _=>by kernel_rfl) (e:=141) (u:=Vh) (fx:=fun(xs:List Qw)=>xs) (fun _=>by kernel_rfl) (fun xs h=>by rw[show xs=([]:List Qw)from h]; kernel_rfl) (fun _=>by kernel_rfl) (fun _=>by kernel_rfl) (fun _=>by kernel_rfl),Ka func68 rfl⟩
def Uf:Con:=⟨314,⟨[(0,.s 5000),(1,.f 315 (.nil))],[(5000,.row 433 V9)]⟩,[⟨[],[(5000,.row 433 V9)]⟩],Qi2 (fun x:Q8=>x.1),[]⟩
theorem Hv:KO Uf:=⟨Jgm (c:=Uf) (e:=433) (u:=V9) rfl (fun x=>x) (fun y=>y) (ev:=[⟨1,[],.f 315 .nil⟩]) (vx:=[.func (.func 315) #[] #[]]) rfl (fun _=>by kernel_rfl) (fun _=>by kernel_rfl) rfl Jpp (fun _ _=>Jgp) (fun p w=>AnyF.slices_SortFunc_none { Tryz.sortFunc314 with } p 0 _ w) (fun _ _ h blk cap w hH hb _=>Q44 (u:=V9) rfl (fun x:Q8=>x.1) Tryz.sortFunc314 isAgg433 sizeOf433 (enters_of func315 (by kernel_rfl) rfl) Tryz.clo315 h blk cap w hH hb),Ka func314 rfl⟩
def Rr:Con:=⟨72,(inK 113 89 Yb),[Jpo],fun(xs:List (Int×Qb))=>Qlw xs,[5000,5001]⟩
theorem Qab:KO Rr:=⟨Q42 (fun _=>by kernel_rfl) Tryz.underlying3 (Tryz.sortedKeys113 Qcy),Ka func72 rfl⟩
def Ay:Con:=⟨50,(Jkk 5 (.int .u8)),[(Jrl 5 (.int .u8))],fun(xs:List Int)=>Qj0 1 xs,[]⟩
theorem Qdi:KO Ay:=⟨Qxx G3 G2 (c:=Ay) func50 (fA:=fun(xs:List Int)=>some (xs,([]:List Int))) rfl rfl rfl rfl rfl rfl rfl rfl (by kernel_rfl) (by kernel_rfl) (an0:=.reg (.n 1 .done)) (anA:=.two (.reg (.n 1 .done)) .nil) (anC:=.two (.reg (.n 4 .done)) .nil) (fun _=>⟨by kernel_rfl,by kernel_rfl⟩) (g:=Qfe tx.gl) (fun _=>by kernel_rfl) (e:=5) (u:=(.int .u8)) (fx:=fun(xs:List Int)=>xs) (fun _=>by kernel_rfl) (fun xs h=>by rw[show xs=([]:List Int)from h]; kernel_rfl) (fun _=>by kernel_rfl) (fun _=>by kernel_rfl) (fun _=>by kernel_rfl),Ka func50 rfl⟩
def zs1:Shp:=sD [.bool]
def zs2:Sk:=.d .i
def zs3:Shp:=⟨[(9,zs2)],[]⟩
def zs4:Sk:=.d .bool
def zs5:Hn:=.n 1 .done
def zs6:Hn:=.nl 7 zs5
def zs7:Shp:=sD [.i]
def zs8:Shp:=⟨[(13,zs4)],[]⟩
def zs9:Shp:=⟨[(17,zs4)],[]⟩
def Jus:Shp:=⟨[(22,zs4)],[]⟩
def Qtw:Shp:=sD [.str]
def Qf1:Hn:=.nl 3 zs5
def Py:Shp:=⟨[(3,zs2)],[]⟩
def Ql0:Exs:=[(.x 0,⟨[],[]⟩),(.r,⟨[(2,zs4)],[]⟩)]
def Jut:Shp:=⟨[(37,zs4)],[]⟩
def G7:Hn:=.nl 4 zs5
def Jpq:Shp:=⟨[(49,zs4)],[]⟩
def Juu:Hn:=.nl 5 .done
def Juv:Shp:=⟨[(55,zs4)],[]⟩
def Jkq:Shp:=⟨[(19,zs4)],[]⟩
def Q45:Hn:=.nl 8 zs5
def Qv1:Hn:=.nl 1 zs5
def Jpr:Hn:=.nl 4 (.n 3 Qv1)
def Jkr:Hn:=.call 1 Qv1
def Jks:Hn:=.nl 2 Jkr
def Juw:Hn:=.nl 2 (.call 2 Qv1)
def zs27:Hn:=.n 15 .done
def Jps:Hn:=.call 3 Qv1
def Jpt:Shp:=sD [Zr,.i]
def Mc:Shp:=⟨[(5,zs2)],[]⟩
def Q46:Shp:=⟨[(4,zs2)],[]⟩
def Qn9:Exs:=[(.x 0,⟨[],[]⟩),(.r,Q46)]
def Qj8:Exs:=[(.x 0,⟨[],[]⟩),(.r,⟨[(4,zs4)],[]⟩)]
def Jkt:Hn:=.call 0 Qv1
def Jgq:Hn:=.nl 2 zs5
def Jw4:HT:=.a (.a (.a (.a (.a (.a (.a (.tl Jgq)))))))
def Jux:Shp:=sD [Zr,Jp]
def Jpu:Hn:=.nl 3 Jkr
def Qv2:Hn:=.nl 5 zs5
def Jpv:Shp:=⟨[(41,zs4)],[]⟩
def Jpw:Hn:=.call 2 zs5
def Q47:Shp:=sD [.sl .str,.str]
def Jw5:Exs:=[(.n,⟨[],[]⟩),(.r,Q46)]
def Nu:Sk:=.s 1
def Qh4:List (Nat×Sk):=[(0,Nu)]
def Q48:SkO:=.row 9 .str
def Q97:Shp:=⟨Qh4,[(1,Q48)]⟩
def Q98:Shp:=⟨[(18,zs4)],[]⟩
def Qqd:Hn:=.nl 6 zs5
def Qdj:Sk:=.s 100000
def Qtx:Sk:=.s 100200
def Juy:Exs:=[(.x 0,⟨[(5,Qtx)],[(100200,Q48)]⟩)]
def Ql1:Sk:=.s 100100
def Juz:Exs:=[(.n,⟨[(5,Ql1)],[(100100,Q48)]⟩)]
def Jw6:Shp:=sD [Vu,Jp]
def Qh5:Sk:=.p 100000 []
def V2:Sk:=.d .str
def Ju0:SkO:=.var 260 (.ag (sL [zs2,zs2,zs2,V2,.d (.sl .str),.d (.sl .str),zs4,zs4]))
def Qh6:Sk:=.s 2
def Q49:Sk:=.s 3
def Ju1:List (Nat×Sk):=[(0,.ag (sL [Nu,Qh6,Q49]))]
def Q99:SkO:=.row 243 U6
def Qv3:SkO:=.row 260 Vu
def Qbx:SkO:=.row 3 .i
def Ci:HT:=.tl zs5
def Qh7:Sk:=.p 100100 []
def Ju2:Sk:=.p 100101 []
def Ju3:Sk:=.s 100102
def Qv4:Sk:=.p 100200 []
def Q5a:Sk:=.s 100201
def Ju4:Sk:=.s 100202
def Q0n:Hn:=.n 3 .done
def Qh8:HT:=.tl Q0n
def Jw7:Exs:=[(.n,⟨[(90,zs4)],[]⟩)]
def Jaa:Hn:=.n 2 .done
def Jab:HT:=.tl Jaa
def Qh9:Shp:=sD [.i,.i]
def Qty:Sk:=.s 100001
def Jpx:Sk:=.s 100002
def Ju5:Sk:=.s 100003
def Jac:Hn:=.n 6 .done
def Q5b:Hn:=.call 0 zs5
def Jku:Hn:=.call 1 zs5
def Qqe:Exs:=[(.x 0,⟨[],[]⟩),(.r,⟨[(2,zs2)],[]⟩)]
def Ju6:Exs:=[(.x 2,⟨[],[]⟩),(.r,⟨[(2,zs2)],[]⟩)]
def Jw8:Shp:=sD [J3]
def Ju7:Shp:=⟨[(63,zs4)],[]⟩
def Jpy:Hn:=.nl 13 .done
def Ju8:Shp:=sD [.int .u8]
def Jad:Hn:=.nl 2 Jkt
def Jae:Shp:=⟨[(7,zs2)],[]⟩
def Jw9:Exs:=[(.x 0,⟨[],[]⟩),(.r,⟨[(6,zs4)],[]⟩)]
def Qqf:Shp:=⟨[(8,zs2)],[]⟩
def Jkv:Shp:=⟨[(6,zs2)],[]⟩
def Qqg:Hn:=.n 8 .done
def Jxa:Shp:=sD [.sl V4]
def Jxb:Shp:=sD [.sl V8]
def Jxc:Shp:=sD [Yg,.str]
def Ju9:Shp:=sD [.sl Vh]
def Q5c:Shp:=sD [Yg]
def Qx0:Shp:=sD [Xm]
def Jcs:HT:=.a Ci
def Qtz:Hn:=.n 7 .done
def Jrp:Exs:=[(.n,⟨[(42,zs4)],[]⟩)]
def Jrq:Shp:=⟨[(7,Qdj),(8,zs2)],[(100000,Qbx)]⟩
def Jrr:Shp:=⟨[(4,zs2),(5,zs2)],[]⟩
def Jrs:HT:=.a (.a Jw4)
def Jct:Shp:=sD [.sl Q9]
def Q5d:Shp:=sD [J2]
def Q5e:Shp:=sD [Q9,Q9]
def Jkw:Shp:=⟨[(30,zs4)],[]⟩
def Jrt:HT:=.a (.a (.a (.a (.a (.tl Qv1)))))
def Q5f:HT:=.a (.a Jrt)
def Jru:Shp:=sD [.sl J5]
def Jcu:Shp:=sD [J4]
def Q5g:Shp:=sD [Q9]
def Jkx:Shp:=sD [J5]
def Jcv:SkO:=.row 216 Xm
def Jky:HT:=.k 1 [] [] [] [] Jab
def Qf2:SkO:=.row 210 V4
def Ql2:SkO:=.row 138 V8
def Qt0:SkO:=.row 76 Xl
def Q5h:SkO:=.row 218 Uh
def Jrv:List (Nat×SkO):=[(1,Qf2),(2,Ql2),(3,Qt0),(4,Q5h)]
def Jrw:Shp:=⟨[(0,.ag (sL [V2,zs2,zs4,Nu,Qh6,Q49,.s 4]))],Jrv⟩
def Jrx:SkO:=.row 135 Jp
def Jcw:SkO:=.row 146 Yg
def Qpo:SkO:=.row 133 J3
def Jcx:SkO:=.row 156 Y8
def Jry:HT:=.b 1 (.tl (.n 5 .done))
def Qx1:Sk:=.s 100300
def Qx2:SkO:=.row 160 Zd
def Q5i:Sk:=.s 100400
def Ug:SkO:=.row 129 Q9
def Yx:SkO:=.row 101 J5
def Lj:SkO:=.row 103 Ui
def Q5j:Shp:=⟨Ju1,[(1,Ug),(2,Yx),(3,Lj)]⟩
def Jcy:List (Nat×Sk):=[(0,.p 1 [])]
def C4:SkO:=.map .i Yb
def Jrz:Shp:=sD [J6,.i]
def Jr0:Shp:=sD [Yb]
def Jr1:Sk:=.ag (sL [zs2,V2,V2,zs2,Nu])
def Jkz:Sk:=.ag (sL [zs2,zs2,zs2,V2,V2,zs2,Jr1,zs2,zs2])
def Kz:Sk:=.d Sc
def Qt1:SkO:=.row 141 Vh
def Ze:SkO:=.row 185 Xn
def Jr2:Shp:=⟨[(0,.ag (sL [zs2,zs2,zs2,zs2,Jkz,zs2,Qh6,zs2,zs2,zs4,Kz]))],[(1,Qt1),(2,Ze)]⟩
def Jk0:List (Nat×Sk):=[(5,Qdj),(10,zs2)]
def Ql3:Sk:=.p 100300 []
def Jk1:Sk:=.p 100301 []
def Jcz:SkO:=.var 260 (.ag (sL [zs2,zs2,zs2,V2,.ns,.ns,zs4,zs4]))
def Qx3:Shp:=sD [.sl Jp,.i]
def Qpp:SkO:=.row 373 Vv
def Q5k:Sk:=.p 100001 []
def Jk2:Sk:=.d Vu
def Jk3:SkO:=.var 260 Jk2
def Jk4:Sk:=.p 100201 []
def Jc0:Hn:=.nl 9 zs5
def Jr3:Shp:=sD [Vv,Vv]
def Jr4:List (Nat×Sk):=[(7,Qdj),(13,zs2)]
def Jc1:SkO:=.row 235 Dn
def Jr5:List (Nat×Sk):=[(6,Qdj),(16,zs2)]
def Qpq:Sk:=.d J4
def Jc2:Shp:=sD [.sl Jp,.i,.i]
def Jr6:SkO:=.var 235 (.ag (sL [Qpq,V2,.ns,zs4,zs4]))
def Jk5:List (Nat×Sk):=[(6,Qv4),(7,zs4)]
def Q5l:SkO:=.map .i U6
def Qpr:SkO:=.map .i .bool
def B7:SkO:=.map .i .i
def Jk6:Sk:=.d (.sl Jp)
def Pz:SkO:=.var 3 zs2
def Jc3:Shp:=sD [.sl .i,.i]
def Xc:Sk:=.p 5000 []
def Qt2:Sk:=.m 5001
def Qf3:Sk:=.m 5002
def Jc4:Sk:=.m 5003
def Jc5:Sk:=.m 5004
def Jc6:Sk:=.m 5005
def Jk7:List (Nat×SkO):=[(5000,.var 414 (.ag (sL [Qt2,Qf3,Jc4,Jc5,Jc6,.s 5006,.s 5007]))),(5001,Q5l),(5002,.map .i Vu),(5003,Qpr),(5004,.map .str .i),(5005,B7),(5006,Qbx),(5007,Qbx)]
def Jk8:List (Nat×SkO):=[(5004,.map .str .i)]
def Eh:List (Nat×Sk):=[(0,Xc)]
def Qf4:Hn:=.dt 5000 .done
def Jr7:Shp:=⟨[(0,.ag (sL [Nu,Qh6]))],[(1,Q99),(2,Qv3)]⟩
def Jk9:SkO:=.mapC .i (.sl 3 .i)
def Qt3:Sk:=.s 100301
def Q5m:Sk:=.s 100302
def Jc7:Sk:=.p 100400 []
def Q5n:Sk:=.s 100401
def Jc8:Sk:=.s 100402
def Jr8:List (Nat×Sk):=[(6,Qh5),(15,zs2)]
def Jr9:Shp:=sD [.sl Zg]
def Jc9:List (Nat×SkO):=[(1,Qt1)]
def Qx4:List (Nat×Sk):=[(3,Ql1)]
def Ql4:Sk:=.s 100101
def Jda:Sk:=.s 100501
def Jla:Sk:=.s 100502
def Jlb:Hn:=.n 4 .done
def Jlc:Sk:=.p 100600 []
def Jld:Sk:=.s 100601
def Jle:Sk:=.p 100700 []
def Jlf:Sk:=.s 100701
def Jlg:Exs:=[(.x 0,Qqf)]
def Jsa:List (Nat×SkO):=[(5000,.var 210 (.d V4))]
def Jlh:Sk:=sL [Xc]
def Jsb:Shp:=⟨[(0,.d (.sl V4)),(1,.f 276 Jlh)],Jsa⟩
def Qx5:SkO:=.map .str .str
def Jli:Sk:=.m 100000
def Jlj:Sk:=.m 100100
def Jsc:An:=.two (.reg Jaa) .nil
def Jsd:List (Nat×SkO):=[(5000,.var 138 (.d V8))]
def Jse:Shp:=⟨[(0,.d (.sl V8)),(1,.f 279 Jlh)],Jsd⟩
def Jlk:Shp:=⟨[(13,zs2)],[]⟩
def Qf5:Sk:=.p 5001 []
def Jsf:List (Nat×SkO):=[(5000,Pz),(5001,Pz)]
def Jsg:Shp:=⟨[(0,.d (.sl Zg)),(1,.f 281 (sL [Xc,Qf5]))],Jsf⟩
def Q5o:SkO:=.var 9 V2
def Jsh:SkO:=.var 76 (.ag (sL [zs2,V2,V2,zs2,.ns]))
def Jll:Shp:=⟨[(0,.ag (sL [zs2,zs2,V2,zs2,zs2,Nu,Qpq,zs2,zs2,zs2,zs4]))],[(1,Q48)]⟩
def Jlm:Shp:=sD [J4,J4]
def Jdb:Sk:=.d (.sl J4)
def Lk:SkO:=.row 127 J4
def Qt4:Shp:=⟨Qh4,[(1,Lk)]⟩
def Jln:List (Nat×SkO):=[(100000,Lk)]
def Jsi:Exs:=[(.x 0,⟨[(7,Qtx)],[(100200,Lk)]⟩)]
def Jsj:Exs:=[(.n,⟨[(7,Ql1)],[(100100,Lk)]⟩)]
def Jdc:SkO:=.row 304 Ut
def Qx6:SkO:=.mapC .str (.mp .i .bool)
def Jlo:Shp:=⟨[(11,zs2)],[]⟩
def Jdd:SkO:=.var 429 (.d Qhu)
def Jsk:HT:=.b 1 (.c 1 Qh8)
def Qx7:Sk:=.s 5002
def Qps:Sk:=.s 5001
def Qpt:SkO:=.row 433 V9
def Jsl:Shp:=⟨[(0,Jdb),(1,zs2),(2,Xc)],[(5000,.var 431 Qps),(5001,Qpt)]⟩
def Jsm:Shp:=⟨[],[(5000,.var 431 Nu),(1,Qpt)]⟩
def Jsn:SkO:=.var 437 (.d (.arr 2 .i))
def Jso:List (Nat×SkO):=[(5000,Q5o),(5001,Pz)]
def Jsp:Sk:=.d (.sl J3)
def Jde:SkO:=.row 308 Fc
def Qei:SkO:=.map Zh .bool
def Jsq:HT:=.k 0 [] [] [] [] Ci
def Jlp:Sk:=.m 100002
def Jlq:Sk:=.m 100102
def Jdf:List (Nat×Sk):=[(0,Nu),(1,zs2)]
def Q5p:Shp:=sD [.i,.i,.i]
def Ql5:Shp:=sD [J5,.i]
def Q5q:SkO:=.var 101 (.d J5)
def Jsr:Hn:=.n 2 (.call 4 .done)
def Jss:HT:=.a (.a (.a (.a (.a (.a (.a (.a (.a (.a (.a (.a (.a (.a (.tl Qf1))))))))))))))
def Jlr:Hn:=.nl 3 Jkt
def Jst:SkO:=.var 243 (.ag (sL [zs2,zs2,zs2,zs4,zs4,.ns]))
def Jsu:Shp:=sD [.sl Vh,.i]
def Jsv:Exs:=[(.n,⟨[(10,zs2)],[]⟩)]
def Jsw:Shp:=sD [Id,.i]
def Ss:Sk:=.d Uq
def W7:Sk:=.d (.sl Q9)
def Qx8:Sk:=.s 5000
def Ll:Sk:=.d (.sl Ui)
def Jdg:Sk:=.ag (sL [W7,Qx8,Ll])
def Qej:Sk:=.d He
def Jls:List (Nat×Sk):=[(0,.d J5),(1,Xc)]
def Jsx:Sk:=.ag (sL [zs2,zs2,zs2,zs2,Qej,zs2,Qx7,zs2,zs2,zs4,Kz])
def Q5r:Sk:=.s 5003
def Jlt:List (Nat×Sk):=[(0,Qx8),(1,.f 158 (sL [Qf5]))]
def Jsy:Sk:=.ag (sL [zs2,zs2,zs2,zs2,Qej,zs2,Q5r,zs2,zs2,zs4,Kz])
def Jsz:Sk:=.ag (sL [W7,Qx7,Ll])
def Qx9:List (Nat×SkO):=[(5000,.var 173 (.ag (sL [.ag (sL [zs2,zs2,zs2,zs2,Qej,zs2,Qps,zs2,zs2,zs4,Kz]),Jsz]))),(5001,Ze),(5002,Yx)]
def Qf6:List (Nat×Sk):=[(0,zs2)]
def Qt5:List (Nat×Sk):=[(0,Xc),(1,zs2)]
def Jlu:Sk:=.ag (sL [zs2,zs2,zs2,zs2,Qej,zs2,Nu,zs2,zs2,zs4,Kz])
def Jlv:Sk:=.ag (sL [W7,Qh6,Ll])
def Js0:List (Nat×SkO):=[(5000,.var 173 (.ag (sL [Jlu,Jlv]))),(1,Ze),(2,Yx)]
def Q5s:HT:=.tl Jlb
def Js1:List (Nat×Sk):=[(0,Xc),(1,Ss),(2,zs2),(3,zs2)]
def Js2:List (Nat×SkO):=[(5000,.var 173 (.ag (sL [.ag (sL [zs2,zs2,zs2,zs2,.ag (sL [zs2,zs2,zs2,V2,V2,zs2,.ag (sL [zs2,V2,V2,zs2,Qps]),zs2,zs2]),zs2,Qx7,zs2,zs2,zs4,Kz]),.ag (sL [Q5r,.s 5004,.s 5005])]))),(5001,Qt1),(5002,Ze),(5003,Ug),(5004,Yx),(5005,Lj)]
def Q5t:Sk:=.ag (sL [zs2,zs2,zs2,V2,V2,zs2,.ag (sL [zs2,V2,V2,zs2,.d (.sl Vh)]),zs2,zs2])
def Js3:HT:=.d 5000 5000 (.b 5000 (.b 5000 (.g [5000] [23702] [] [5000,14802,23701,23702] (.tl .done))))
def Jlw:List (Nat×Sk):=[(0,Xc),(1,.d J6),(2,zs2),(3,zs2),(4,zs2)]
def Qya:Sk:=.ag (sL [W7,Nu,Ll])
def Js4:Sk:=.ag (sL [zs2,zs2,zs2,zs2,Qej,zs2,Qh6,zs2,zs2,zs4,Kz])
def Js5:Shp:=⟨[(0,Qya),(1,Js4),(2,Kz)],[(5000,.var 173 (.ag (sL [Js4,Qya]))),(1,Yx),(2,Ze)]⟩
def Js6:List (Nat×Sk):=[(0,Xc),(1,.d J6),(2,zs2)]
def Jlx:Exs:=[(.n,zs3)]
def Js7:HT:=.a Qh8
def Ql6:Sk:=.d Yb
def Q5u:List (Nat×SkO):=[(5000,.var 173 (.ag (sL [Ql6,Qya]))),(1,Yx)]
def Js8:Shp:=⟨[(4,zs2),(5,Qdj),(25,zs2)],[(100000,Ze)]⟩
def Js9:Exs:=[(.x 0,⟨[(4,zs2),(5,Qtx)],[(100200,Ze)]⟩)]
def Jta:List (Nat×Sk):=[(0,Xc),(11,zs2)]
def Jtb:Sk:=.ag (sL [zs2,zs2,zs2,zs2,Qej,zs2,Jda,zs2,zs2,zs4,Kz])
def Jtc:Sk:=.ag (sL [W7,Qps,Ll])
def Q5v:List (Nat×SkO):=[(5000,.var 173 (.ag (sL [Ql6,Jtc]))),(5001,Yx)]
def Jtd:Shp:=⟨[(0,Qya),(1,Ql6),(2,Kz)],Q5u⟩
def Jte:HT:=.f 11 11 Ci
def Jly:Sk:=.d (.sl Xn)
def Jtf:Shp:=⟨[(0,Qya),(1,.ag (sL [zs2,zs2,zs2,zs2,Q5t,zs2,Jly,zs2,zs2,zs4,Kz])),(2,Kz)],[(1,Yx)]⟩
def Jlz:Sk:=.ag (sL [W7,Nu,Qh6])
def Jl0:List (Nat×SkO):=[(5000,.var 173 (.ag (sL [Ql6,Jlz]))),(1,Yx),(2,Lj)]
def Jtg:SkO:=.tail 129 Q9
def Jl1:List (Nat×SkO):=[(5000,.var 173 (.ag (sL [Ql6,.ag (sL [W7,Qps,Qx7])]))),(5001,Yx),(5002,Lj)]
def Jth:Shp:=sD [Uq,J2,Yb,J6]
def Jti:Sk:=.ag (sL [W7,Qty,Ll])
def Jtj:Sk:=.ag (sL [W7,Ql4,Ll])
def Jtk:HT:=.a Js7
def Jdh:List (Nat×SkO):=[(5000,.var 91 (.ag (sL [Ss,Jtc,Qf3]))),(5001,Yx),(5002,C4)]
def Jdi:List (Nat×Sk):=[(0,Xc),(1,.d J6)]
def Jtl:Shp:=⟨[(0,Kz)],[(5000,.var 91 (.ag (sL [Ss,Qya,Qf3]))),(5002,C4),(1,Yx)]⟩
def Jtm:HT:=.f 5 5 Ci
def Jtn:HT:=.f 5002 5002 Ci
def Jl2:List (Nat×SkO):=[(5000,.var 91 (.ag (sL [Ss,.d J2,Qt2]))),(5001,C4)]
def Jl3:Sk:=.ag (sL [W7,.d (.sl J5),Ll])
def Jl4:SkO:=.row 81 Yb
def Lm:SkO:=.row 5 (.int .u8)
def Jdj:List (Nat×SkO):=[(5000,.var 109 (.ag (sL [Qps,zs2,Qf3]))),(5001,Lm),(5002,B7)]
def Jdk:Shp:=⟨Eh,Jdj⟩
def Jl5:Shp:=sD [.sl (.int .u8),.i]
def Jdl:List (Nat×SkO):=[(1,Lm)]
def Qpu:Shp:=⟨Qh4,Jdl⟩
def Jto:Shp:=sD [.int .u64]
def Ql7:Shp:=sD [.sl (.int .u8)]
def Jtp:Sk:=.d (.sl (.int .u8))
def Q5w:List (Nat×SkO):=[(5000,.var 109 (.ag (sL [Nu,zs2,Qf3]))),(5002,B7),(1,Lm)]
def Jl6:SkO:=.row 71 (.sl (.int .u8))
def Jtq:Shp:=⟨Eh,[(5000,.var 193 (.d Qd5))]⟩
def Jtr:List (Nat×SkO):=[(5000,.var 193 (.ag (sL [Jtp,zs2])))]
def Jts:Sk:=.ag (sL [Jk6,.d (.sl Yg),Jsp,.d (.sl Hd),.d (.sl .i),.d (.sl Y8)])
def Jtt:Hn:=.nl 1 (.call 4 Jgq)
def P0(N:Nat):V:=⟨⟨29,(sD [.sl Jp,.sl J3,J2,.i]),[zs1],u4 (H4 N),[]⟩,kF N [] [(14,.lp [0,1,3] [6] zs3 [(.x 0,⟨[],[]⟩),(.r,⟨[(8,zs4)],[]⟩)]),(32,.rg (.n 8 (.sp 56 8 [0,3] [6] ⟨[(64,zs4)],[]⟩ zs6 zs6 zs5)))] func29⟩
def M8(N:Nat):V:=⟨⟨134,zs7,[(sD [.arr 5 .bool])],Gl N,[]⟩,kF N [] [(25,.jn [2,3] [2] [(.n,zs8)]),(35,.jn [2,3] [2] [(.n,zs9)]),(49,.jn [2] [2] [(.n,Jus)])] func134⟩
def Ql8(N:Nat):V:=⟨⟨194,zs7,[zs1],Fd N,[]⟩,kF N [] [] func194⟩
def Eu(N:Nat):V:=⟨⟨140,Qtw,[zs1],Ur N,[]⟩,kF N [] [(4,.rg (.n 9 (.sp 12 4 [0] [] ⟨[(16,zs4)],[]⟩ Qf1 Qf1 (.n 1 (.sp 17 4 [0] [] ⟨[(21,zs4)],[]⟩ Qf1 Qf1 .done))))),(14,.lp [0] [] Py Ql0),(24,.rg (.n 5 (.sp 32 5 [3] [] Jut G7 G7 (.n 1 (.sp 38 11 [3] [] Jpq (.nl 5 (.sp 43 5 [3,38] [] ⟨[(48,zs4)],[]⟩ Juu Juu zs5)) (.nl 10 zs5) (.n 1 (.sp 50 5 [3] [] Juv G7 G7 .done)))))))] func140⟩
def Ln(N:Nat):V:=⟨⟨195,Qtw,[zs1],Wh N,[]⟩,kF N [] [(6,.lp [0] [] Py Ql0),(16,.rg (.n 5 (.sp 14 5 [3] [] Jkq G7 G7 .done)))] func195⟩
def Qf7(N:Nat):V:=⟨⟨196,(sD [Jp]),[zs1],Fk N,[]⟩,kF N [] [] func196⟩
def Qia(N:Nat):V:=⟨⟨133,(sD [Jp,.i]),[zs7],u2 (Bn N),[]⟩,kF N [M8,Ql8,Eu,Ln,Qf7] [(30,.rg (.n 9 (.sp 37 9 [2,5] [2,5] ⟨[(46,zs4)],[]⟩ Q45 Jpr (.n 1 (.sp 47 9 [2,5] [2,5] ⟨[(56,zs4)],[]⟩ Q45 Jpr (.n 1 (.sp 57 9 [2,5] [2,5] ⟨[(66,zs4)],[]⟩ Q45 Jpr (.n 1 (.sp 67 9 [2,5] [2,5] ⟨[(76,zs4)],[]⟩ Q45 Jpr .done))))))))),(38,.rg (.n 3 (.sp 79 5 [2,5] [2,5] ⟨[(84,zs4)],[]⟩ Jks G7 (.n 1 (.sp 85 9 [2,5] [2,5] ⟨[(94,zs4)],[]⟩ Q45 (.nl 3 (.sp 88 5 [2,5,85] [] ⟨[(93,zs4)],[]⟩ (.nl 2 (.call 1 (.nl 2 .done))) Juu zs5)) .done))))),(46,.rg (.n 3 (.sp 97 5 [2,5] [2,5] ⟨[(102,zs4)],[]⟩ Juw G7 zs27))),(54,.rg (.n 3 (.sp 120 5 [2,5] [2,5] ⟨[(125,zs4)],[]⟩ (.nl 2 Jps) G7 .done))),(62,.rg (.n 3 (.sp 128 4 [2] [2,5] ⟨[(132,zs4)],[]⟩ (.nl 1 (.call 4 Qv1)) Qf1 .done)))] func133⟩
def B8(N:Nat):V:=⟨⟨137,Jpt,[zs7],u2 (Ks N),[]⟩,kF N [] [(6,.lp [1,2] [2] Mc Qn9)] func137⟩
def Af(N:Nat):V:=⟨⟨138,Jpt,[zs7],u2 (Xo N),[]⟩,kF N [] [(6,.lp [1,2] [2] Mc Qn9)] func138⟩
def Lo(N:Nat):V:=⟨⟨198,Jpt,[zs1],u2 (Wi N),[]⟩,kF N [] [(6,.lp [1,2] [2] Mc Qj8)] func198⟩
def Qib(N:Nat):V:=⟨⟨197,Jpt,[zs1],u2 (Bo N),[]⟩,kF N [Lo] [(6,.lp [1,2] [2] Mc Qj8),(16,.jn [5] [] [(.n,⟨[(31,zs4)],[]⟩)]),(16,.an (.dc 16 [13,14,15,16,17,18,19,20,21,22,23,24,25,26,27,28] [] [2] (.b 2 (.c 2 (.a (.a (.a (.a (.a (.a (.a (.so 21 (.c 2 (.b 2 (.c 2 (.a (.a (.a (.a (.tl Jkt)))))))) Jw4))))))))))))] func197⟩
def Qac(N:Nat):V:=⟨⟨135,Jux,[zs7],u2 (Wj N),[]⟩,kF N [B8,Af,Qib] [(38,.rg (.n 4 (.sp 26 6 [2,3,5] [2,3] ⟨[(32,zs4)],[]⟩ Jpu Qv2 .done))),(46,.rg (.n 4 (.sp 36 5 [2,3,5] [2,3] Jpv (.nl 3 Jpw) G7 (.n 1 (.sp 42 13 [2,3,5] [2,3] Juv (.nl 12 zs5) (.nl 4 (.sp 46 8 [2,5,42] [] ⟨[(54,zs4)],[]⟩ (.nl 8 .done) (.nl 8 .done) zs5)) .done)))))] func135⟩
def P1(N:Nat):V:=⟨⟨200,Q47,[zs1],u2 (Zi N),[]⟩,kF N [] [(6,.lp [0,1] [] Mc Qj8)] func200⟩
def Qf8(N:Nat):V:=⟨⟨199,(sD [Zr,.str]),[zs1],u2 (Fl N),[]⟩,kF N [P1] [(6,.lp [1,2] [2] Mc Qj8)] func199⟩
def Qf9(N:Nat):V:=⟨⟨136,Jux,[zs7],u2 (Fn N),[]⟩,kF N [Af,Lo,Qf8,P1] [(23,.jn [] [2,3,6] Jw5),(67,.jn [3,6,23] [] [(.n,⟨[(53,zs4)],[]⟩)]),(81,.jn [3,6] [] [(.n,⟨[(62,zs4)],[]⟩)])] func136⟩
def Qga(N:Nat):V:=⟨⟨94,(sD [Zr,Jp,.i]),[zs7],u3 (Fo N),[]⟩,kF N [Qia,M8,Qac,Qf9] [] func94⟩
def Qic(N:Nat):V:=⟨⟨201,Q47,[Q97],u2 (Gm N),[]⟩,kF N [] [(6,.lp [0,1] [] Mc [(.x 0,Mc)]),(9,.rg (.n 5 (.sp 11 7 [5] [] Q98 Qqd Qqd .done)))] func201⟩
def Qdk(N:Nat):V:=⟨⟨202,Q47,[Q97],u2 (Kt N),[]⟩,kF N [] [(8,.lp [0,1] [] ⟨[(5,Qdj),(6,zs2)],[(100000,Q48)]⟩ Juy),(16,.jn [6] [] Juz)] func202⟩
def Qdl(N:Nat):V:=⟨⟨139,Jw6,[(sD [Vu])],u2 (Hf N),[]⟩,kF N [Qic,Qdk] [(3,.jn [4] [3,4] [(.n,⟨[(2,Qh5)],[(100000,Ju0)]⟩)])] func139⟩
def Qgb(N:Nat):V:=⟨⟨95,Jux,[⟨Ju1,[(1,Q99),(2,Qv3),(3,Qbx)]⟩],u2 (Fp N),[]⟩,kF N [B8,Af,Qdl] [(3,.an (.dc 14 [7,8,9,10,11,12,13,14,15,16,17,18,19,5] [2] [] (.e 7 (.b 2 (.c 2 (.g [7] [] [10] [10] (.e 11 (.b 2 (.c 2 (.g [11] [] [14] [14] (.e 15 (.b 2 (.c 2 (.g [15] [] [18] [18] (.g [] [] [] [10,14,18] (.e 5 Ci)))))))))))))))),(5,.jn [] [2,3] [(.n,⟨[(4,Qh7),(5,Ju2)],[(100100,.var 198 (.ag (sL [.ns,.ns,.ns]))),(100101,.var 198 (.ag (sL [Ju3,.s 100103,.s 100104]))),(100102,Q99),(100103,Qv3),(100104,Qbx)]⟩),(.r,⟨[(4,Qv4)],[(100200,.var 198 (.ag (sL [Q5a,Ju4,.s 100203]))),(100201,Q99),(100202,Qv3),(100203,Qbx)]⟩)]),(15,.an (.dc 6 [66,67,68,69,70,71] [5] [2,3] (.b 5 (.d 5 10 (.c 2 (.b 3 (.c 3 (.k 0 [] [] [] [] Qh8)))))))),(21,.jn [2,3,4,5] [4,5,10,14,18] Jw7),(33,.an (.dc 10 [26,27,28,29,30,31,32,33,34,35] [5,14] [3] (.b 5 (.d 5 14 (.a (.b 5 (.d 5 14 (.a (.d 14 14 (.c 14 (.c 3 (.k 2 [] [] [] [] Jab))))))))))))] func95⟩
def Qgc(N:Nat):V:=⟨⟨51,(sD [.sl Jp]),[Qh9],Fq N,[]⟩,kF N [Qga,Qgb] [(18,.lp [0] [] ⟨[(4,Qh5),(5,zs2),(6,zs2)],[(100000,.var 198 (.ag (sL [Qty,Jpx,Ju5]))),(100001,Q99),(100002,Qv3),(100003,Qbx)]⟩ [(.x 0,⟨[],[]⟩),(.r,⟨[(2,zs2),(3,zs2)],[]⟩)]),(28,.an (.dr 6 Jac Q5b)),(38,.an (.dr 5 (.n 5 .done) Jku))] func51⟩
def Qgd(N:Nat):V:=⟨⟨203,(sD [.sl .str]),[zs7],Fr N,[]⟩,kF N [Eu] [(14,.lp [0] [] Py Qqe),(35,.lp [0] [] Q46 Ju6),(45,.an (.dr 10 (.n 10 .done) .done))] func203⟩
def Qes(N:Nat):V:=⟨⟨141,(sD [Zd]),[zs7],El N,[]⟩,kF N [Qgd] [] func141⟩
def Qj9(N:Nat):V:=⟨⟨96,Jw8,[zs7],Do N,[]⟩,kF N [Eu,Qes] [(46,.lp [1] [1] Py Qqe)] func96⟩
def Qge(N:Nat):V:=⟨⟨52,(sD [.sl J3]),[zs7],Fs N,[]⟩,kF N [Qj9] [(14,.lp [0] [] Py Qqe),(34,.an (.dr 44 (.n 3 (.sp 24 41 [3] [] ⟨[(65,zs4)],[]⟩ (.nl 13 (.sp 37 27 [3,24] [] ⟨[(64,zs4)],[]⟩ (.nl 27 .done) (.nl 13 (.sp 50 13 [3,24,37] [] Ju7 Jpy Jpy (.nl 1 .done))) zs5)) (.nl 40 zs5) .done)) .done))] func52⟩
def Qgf(N:Nat):V:=⟨⟨204,Ju8,[zs1],Wk N,[]⟩,kF N [] [] func204⟩
def Qgg(N:Nat):V:=⟨⟨205,Ju8,[zs1],Ft N,[]⟩,kF N [] [] func205⟩
def M9(N:Nat):V:=⟨⟨142,Qtw,[zs1],Gn N,[]⟩,kF N [Qgf,Qgg] [(4,.rg (.n 9 (.sp 12 5 [0] [] zs9 G7 Jad .done))),(14,.lp [0] [] Py Ql0),(24,.rg (.n 3 (.call 0 (.n 2 (.sp 29 6 [3] [] ⟨[(35,zs4)],[]⟩ Jpu Qv2 (.n 1 (.sp 36 5 [3] [] Jpv G7 G7 .done)))))))] func142⟩
def Na(N:Nat):V:=⟨⟨207,Qtw,[zs1],Gp N,[]⟩,kF N [] [(4,.rg (.n 9 (.sp 14 4 [0] [] Q98 Qf1 Qf1 (.n 1 (.sp 19 4 [0] [] ⟨[(23,zs4)],[]⟩ Qf1 Qf1 .done))))),(14,.lp [0] [] Py Ql0),(24,.an (.dr 22 (.n 5 (.sp 34 5 [3] [] ⟨[(39,zs4)],[]⟩ G7 G7 (.n 5 (.sp 44 5 [3,39] [] Jpq G7 G7 Jaa)))) .done)),(26,.rg (.n 7 (.sp 56 5 [3] [] ⟨[(61,zs4)],[]⟩ G7 G7 .done)))] func207⟩
def Qdm(N:Nat):V:=⟨⟨261,(sD [.sl V4,.i,.i]),[zs1],u3 (Hg N),[]⟩,kF N [] [(6,.lp [0,1,2] [] Jae Jw9),(18,.lp [7] [] Qqf [(.x 2,⟨[],[]⟩),(.r,⟨[(6,zs4)],[]⟩)]),(34,.an (.dr 17 (.n 17 .done) .done))] func261⟩
def Qid(N:Nat):V:=⟨⟨206,(sD [.sl V4,.i]),[zs7],u2 (Bp N),[]⟩,kF N [Na,Ln,Qdm] [(16,.lp [0,1,5] [5] Jkv Qn9),(26,.an (.dr 8 Qqg .done)),(53,.lp [0,1,5] [5] Jae [(.x 2,⟨[],[]⟩),(.r,Q46)])] func206⟩
def Qgh(N:Nat):V:=⟨⟨143,Jxa,[zs7],Fu N,[]⟩,kF N [Qid] [(14,.lp [0] [] Py Qqe)] func143⟩
def Qgi(N:Nat):V:=⟨⟨208,(sD [.sl Zg,.bool]),[zs7],u2 (Fv N),[]⟩,kF N [] [(38,.lp [0] [] Mc Qn9)] func208⟩
def Qgj(N:Nat):V:=⟨⟨144,Jxb,[zs7],Fw N,[]⟩,kF N [Na,Qgi] [(22,.lp [0] [] Py Qqe),(43,.lp [3] [] Q46 Ju6),(53,.an (.dr 11 (.n 11 .done) .done))] func144⟩
def Qie(N:Nat):V:=⟨⟨209,Jxc,[zs1],u2 (Bq N),[]⟩,kF N [] [(6,.lp [1,2] [2] Mc Qj8)] func209⟩
def Qif(N:Nat):V:=⟨⟨210,Jxc,[zs1],u2 (Br N),[]⟩,kF N [] [(6,.lp [1,2] [2] Mc Qj8)] func210⟩
def Qgk(N:Nat):V:=⟨⟨211,Ju9,[zs7],Fx N,[]⟩,kF N [] [(24,.lp [0] [] ⟨[(3,zs2),(4,zs2)],[]⟩ Qqe)] func211⟩
def Qgl(N:Nat):V:=⟨⟨145,Q5c,[zs7],Fy N,[]⟩,kF N [Qie,Qif,Qgk] [(14,.lp [1] [1] Py Qqe),(35,.rg (.n 3 (.call 0 (.n 2 (.sp 35 6 [3,4] [4] Jpv Qv2 Jpu .done)))))] func145⟩
def Qgm(N:Nat):V:=⟨⟨320,zs7,[zs7],Fz N,[]⟩,kF N [] [] func320⟩
def Qka(N:Nat):V:=⟨⟨327,Q47,[zs1],u2 (H5 N),[]⟩,kF N [] [(6,.lp [0,1] [] Mc Qj8)] func327⟩
def E6(N:Nat):V:=⟨⟨321,Qtw,[zs7],U7 N,[]⟩,kF N [Qka] [] func321⟩
def Qkb(N:Nat):V:=⟨⟨299,Qx0,[zs7],Dp N,[]⟩,kF N [Qgm,E6] [(4,.an (.dc 6 [3,4,5,6,7,8] [1] [] (.b 1 (.c 1 (.k 0 [] [] [] [] (.b 1 (.c 1 Jcs))))))),(28,.rg (.n 4 (.sp 35 5 [1] [1] ⟨[(40,zs4)],[]⟩ Jks G7 .done)))] func299⟩
def Qet(N:Nat):V:=⟨⟨300,(sD [Xm,.sl .i]),[zs7],u2 (Em N),[]⟩,kF N [E6] [(41,.an (.dr 7 Qtz .done)),(48,.jn [] [2] Jw5),(52,.jn [1,30] [] [(.n,⟨[(35,zs4)],[]⟩)]),(66,.jn [1,30] [] Jrp),(80,.jn [1] [] [(.n,Jpq)])] func300⟩
def C5(N n:Nat):Con:=⟨262,(sD [Xm,.i]),[Qh9],fun(x0,x1)=>Vw N n x0 x1,[]⟩
theorem Lp(N:Nat):∀n,KO (C5 N n)
 | 0=>⟨Qhs fun _=>rfl,Ka func262 rfl⟩
 | n+1=>have ih:=Lp N n; kF N [Qkb,fun _=>⟨_,ih⟩,Qet] [(26,.lp [1,2] [2] Jrq [(.x 0,⟨[(7,Ql1)],[(100100,Qbx)]⟩),(.r,Jrr)])] func262
def Ql9(N:Nat):V:=⟨C5 N N,Lp N N⟩
def Qig(N:Nat):V:=⟨⟨212,Qx0,[Qh9],Bs N,[]⟩,kF N [Ql9] [] func212⟩
def Qad(N:Nat):V:=⟨⟨146,Q5c,[zs7],Wl N,[]⟩,kF N [M9,Qig] [(14,.lp [1] [1] Py Qqe),(37,.lp [3,4] [4] Mc Ju6),(47,.an (.dr 9 (.n 9 .done) .done))] func146⟩
def Qeu(N:Nat):V:=⟨⟨97,Q5c,[zs7],Eo N,[]⟩,kF N [M9,Qgh,Qgj,Qgl,Qad] [(21,.jn [1] [1] [(.n,Py)]),(27,.jn [1] [1] [(.n,Py)]),(33,.jn [] [1] [(.n,Py)])] func97⟩
def Qgn(N:Nat):V:=⟨⟨98,(sD [Yg,Yg]),[zs7],u2 (F0 N),[]⟩,kF N [] [] func98⟩
def Qgo(N:Nat):V:=⟨⟨53,(sD [.sl Yg]),[zs7],F2 N,[]⟩,kF N [Qeu,Qgn] [(14,.lp [0] [] Py Qqe),(34,.jn [3] [] [(.n,⟨[(36,zs4)],[]⟩)]),(34,.an (.dc 12 [22,23,24,25,26,27,28,29,30,31,32,33] [] [] (.a (.a (.a (.so 24 (.a (.a (.a (.a (.a (.a (.a (.a (.a (.tl Jkr)))))))))) Jrs))))))] func53⟩
def Qgp(N:Nat):V:=⟨⟨27,(sD [Uq]),[zs1],F3 N,[]⟩,kF N [P0,Qgc,Qge,Qgo] [(14,.lp [1] [1] Py Ql0),(24,.an (.dr 32 (.n 7 (.sp 38 7 [3] [] ⟨[(45,zs4)],[]⟩ Qqd Qqd (.n 1 (.sp 46 17 [3] [] Ju7 (.nl 16 zs5) (.nl 3 (.sp 49 13 [3,46] [] ⟨[(62,zs4)],[]⟩ Jpy Jpy zs5)) .done)))) .done)),(34,.rg (.n 3 (.sp 72 5 [1] [1] ⟨[(77,zs4)],[]⟩ Juw G7 (.n 1 (.sp 78 5 [1] [1] ⟨[(83,zs4)],[]⟩ (.nl 2 Jps) G7 zs5)))))] func27⟩
def Qkc(N:Nat):V:=⟨⟨99,Jct,[zs1],Dq N,[]⟩,kF N [] [(14,.lp [0] [] Py Ql0)] func99⟩
def Qkd(N:Nat):V:=⟨⟨54,Q5d,[zs1],Dr N,[]⟩,kF N [Qkc] [] func54⟩
def Qdn(N:Nat):V:=⟨⟨100,Q5e,[zs1],u2 (Hh N),[]⟩,kF N [] [] func100⟩
def Qih(N:Nat):V:=⟨⟨147,(sD [.sl Q9,Xn]),[zs7],u2 (Bt N),[]⟩,kF N [] [(6,.lp [0,3] [3] Mc Qn9)] func147⟩
def Qev(N:Nat):V:=⟨⟨101,(sD [.sl Q9,Q9]),[zs1],u2 (Ep N),[]⟩,kF N [Qih] [] func101⟩
def Qdo(N:Nat):V:=⟨⟨55,Jct,[zs1],Hi N,[]⟩,kF N [Qdn,Qev] [(6,.lp [0] [] Py Ql0),(16,.jn [3] [] [(.n,Jkw)]),(16,.an (.dc 19 [10,11,12,13,14,15,16,17,18,19,20,21,22,23,24,25,26,27,28] [] [] (.a (.a (.a (.a (.a (.a (.a (.a (.a (.k 0 [] [] [] [] (.a (.a (.so 21 Q5f (.a (.a (.a (.a (.a (.a (.a (.tl Jku)))))))))))))))))))))))] func55⟩
def Qae(N:Nat):V:=⟨⟨56,Jru,[zs1],Wm N,[]⟩,kF N [] [(6,.lp [0] [] Py Ql0),(16,.an (.dr 12 (.n 12 .done) .done))] func56⟩
def Qii(N:Nat):V:=⟨⟨102,Qtw,[zs1],Gq N,[]⟩,kF N [] [(4,.rg (.n 9 (.sp 13 4 [0] [] zs9 Qf1 Qf1 (.n 1 (.sp 18 4 [0] [] Jus Qf1 Qf1 .done))))),(14,.lp [0] [] Py Ql0)] func102⟩
def Qgq(N:Nat):V:=⟨⟨103,Jcu,[zs1],F4 N,[]⟩,kF N [] [] func103⟩
def Qgr(N:Nat):V:=⟨⟨57,Q5g,[zs7],F5 N,[]⟩,kF N [Qii,Qgq] [(39,.lp [1] [1] Py [(.x 1,⟨[],[]⟩),(.r,⟨[(2,zs2)],[]⟩)])] func57⟩
def Qgs(N:Nat):V:=⟨⟨104,zs7,[zs1],Zt N,[]⟩,kF N [] [] func104⟩
def Qgt(N:Nat):V:=⟨⟨58,Jkx,[zs7],F6 N,[]⟩,kF N [Qgs] [(4,.rg (.n 9 (.sp 11 5 [1] [1] ⟨[(16,zs4)],[]⟩ G7 Jad (.n 1 (.sp 17 5 [1] [1] Jus G7 Jad (.n 6 (.sp 28 5 [1] [1] ⟨[(33,zs4)],[]⟩ G7 Jad zs27)))))))] func58⟩
def Qke(N:Nat):V:=⟨⟨28,Q5d,[zs1],Ds N,[]⟩,kF N [Qkd,Qdo,Qae,Qgr,Qgt] [(4,.rg (.n 1 (.call 0 (.n 2 (.sp 8 5 [1] [1] zs8 G7 Jks (.n 1 (.sp 14 5 [1] [1] Jkq G7 Juw .done))))))),(14,.lp [1] [1] Py Ql0),(35,.lp [1] [1] Q46 [(.x 2,⟨[],[]⟩),(.r,⟨[(2,zs4)],[]⟩)])] func28⟩
def C6(N n:Nat):Con:=⟨110,Qx0,[Qx0],fun x0=>Vx N n x0,[]⟩
theorem Lq(N:Nat):∀n,KO (C6 N n)
 | 0=>⟨Qhs fun _=>rfl,Ka func110 rfl⟩
 | n+1=>have ih:=Lq N n; kF N [fun _=>⟨_,Qaa⟩,fun _=>⟨_,ih⟩] [(8,.lp [1,2,10] [1,2] ⟨[(11,zs2)],[(10600,Jcv)]⟩ [(.x 0,⟨[],[(10600,Jcv)]⟩)]),(19,.an (.dc 9 [14,15,16,17,18,19,20,21,22] [10600] [1] (.b 1 (.d 1 10600 (.a (.b 1 (.d 1 10600 (.a (.d 10600 10600 (.c 10600 Jky))))))))))] func110
def Qma(N:Nat):V:=⟨C6 N N,Lq N N⟩
def Qij(N:Nat):V:=⟨⟨65,Q5c,[Jrw],Bu N,[]⟩,kF N [fun _=>⟨_,T6⟩,fun _=>⟨_,T7⟩,fun _=>⟨_,T8⟩,fun _=>⟨_,L9⟩,fun _=>⟨_,Zb⟩,fun _=>⟨_,T9⟩,fun _=>⟨_,Y9⟩,Qma] [(3,.an (.dc 13 [7,8,9,10,11,12,13,14,15,16,17,18,19] [1] [] (.b 1 (.c 1 (.k 0 [] [] [10900] [10900] (.b 1 (.c 1 (.k 1 [] [] [11200] [11200] (.b 1 (.c 1 (.k 2 [] [] [11500] [11500] (.b 1 (.c 1 (.k 3 [] [] [11800] [11800] (.b 1 (.tl Qtz)))))))))))))))),(8,.lp [1,2,25] [1,2,11200,11500,11800] ⟨[(26,zs2)],[(10900,Qf2)]⟩ [(.x 0,⟨[],[(10900,Qf2)]⟩)]),(19,.an (.dc 10 [29,30,31,32,33,34,35,36,37,38] [10900] [1] (.b 1 (.d 1 10900 (.a (.b 1 (.d 1 10900 (.a (.d 10900 10900 (.b 10900 (.c 10900 (.k 4 [] [] [13800] [13800] (.tl (.n 2 (.fz 13800 zs5))))))))))))))),(25,.lp [1,2,44] [1,2,10900,11500,11800] ⟨[(45,zs2)],[(11200,Ql2)]⟩ [(.x 2,⟨[],[(11200,Ql2)]⟩)]),(36,.an (.dc 10 [48,49,50,51,52,53,54,55,56,57] [11200] [1] (.b 1 (.d 1 11200 (.a (.b 1 (.d 1 11200 (.a (.d 11200 11200 (.b 11200 (.c 11200 (.k 5 [] [] [15700] [15700] (.tl (.n 2 (.fz 15700 zs5))))))))))))))),(42,.lp [1,2,63] [1,2,10900,11200,11800] ⟨[(64,zs2)],[(11500,Qt0)]⟩ [(.x 4,⟨[],[(11500,Qt0)]⟩)]),(53,.an (.dc 10 [67,68,69,70,71,72,73,74,75,76] [11500] [1] (.b 1 (.d 1 11500 (.a (.b 1 (.d 1 11500 (.a (.d 11500 11500 (.b 11500 (.c 11500 (.k 6 [] [] [17600] [17600] (.tl (.n 2 (.fz 17600 zs5))))))))))))))),(59,.lp [1,2,82] [1,2,10900,11200,11500] ⟨[(83,zs2)],[(11800,Q5h)]⟩ [(.x 6,⟨[],[(11800,Q5h)]⟩)]),(70,.an (.dc 10 [86,87,88,89,90,91,92,93,94,95] [11800] [1] (.b 1 (.d 1 11800 (.a (.b 1 (.d 1 11800 (.a (.d 11800 11800 (.b 11800 (.c 11800 (.k 7 [] [] [] [] Qh8))))))))))))] func65⟩
def Qmb(N:Nat):V:=⟨⟨32,(sD [Uq]),[⟨[(0,.ag (sL [Nu,Qh6,Q49,.s 4,.s 5,.s 6]))],[(1,Jrx),(2,Jcw),(3,Qpo),(4,.row 150 Hd),(5,Qbx),(6,Jcx)]⟩],L1 N,[]⟩,kF N [fun _=>⟨_,Rj⟩,fun _=>⟨_,Qbv⟩,fun _=>⟨_,Qh3⟩,fun _=>⟨_,Pv⟩,fun _=>⟨_,Np⟩,fun _=>⟨_,Lh⟩,Qij,fun _=>⟨_,Pw⟩,fun _=>⟨_,Zb⟩,fun _=>⟨_,Y9⟩] [(3,.an (.dc 10 [8,9,10,11,12,13,14,15,16,17] [1] [] (.b 1 (.c 1 (.k 0 [] [] [11000] [11000] (.b 1 (.c 1 (.k 1 [] [] [11300] [11300] (.b 1 (.c 1 (.k 2 [] [] [11600] [11600] Jry))))))))))),(5,.an (.dc 10 [20,21,22,23,24,25,26,27,28,29] [1] [] (.b 1 (.c 1 (.k 3 [] [] [12200] [12200] (.b 1 (.c 1 (.k 4 [] [] [12500] [12500] (.b 1 (.c 1 (.k 5 [] [] [12800] [12800] Jry))))))))))),(10,.lp [1,2,34] [1,2,11000,11300,11600,12500,12800] ⟨[(35,zs2)],[(12200,Jcw)]⟩ [(.x 0,⟨[],[(12200,Jcw)]⟩)]),(21,.an (.dc 9 [38,39,40,41,42,43,44,45,46] [12200] [1] (.b 1 (.d 1 12200 (.a (.b 1 (.d 1 12200 (.a (.d 12200 12200 (.c 12200 (.k 6 [] [] [14604,14603,14602,14601] [14601,14602,14603,14604] (.tl (.n 1 (.fz 14601 (.fz 14602 (.fz 14603 (.fz 14604 zs5))))))))))))))))),(27,.lp [1,2,51] [1,2,11000,11300,11600,12200,12800] ⟨[(52,zs2)],[(12500,Qpo)]⟩ [(.x 2,⟨[],[(12500,Qpo)]⟩)]),(44,.lp [4,52,63] [12500] ⟨[(5,Qx1),(64,zs2)],[(100300,Qx2)]⟩ [(.x 4,⟨[(5,Q5i)],[(100400,Qx2)]⟩)]),(55,.rg (.n 7 (.call 8 (.n 2 (.fz 17400 zs5))))),(57,.rg (.n 6 (.fz 100400 zs5))),(63,.lp [1,2,87] [1,2,11000,11300,11600,12200,12500] ⟨[(88,zs2)],[(12800,Jcx)]⟩ [(.x 6,⟨[],[(12800,Jcx)]⟩)]),(74,.an (.dc 10 [91,92,93,94,95,96,97,98,99,100] [12800] [1] (.b 1 (.d 1 12800 (.a (.b 1 (.d 1 12800 (.a (.d 12800 12800 (.b 12800 (.c 12800 (.k 9 [] [] [20000] [20000] (.tl (.n 2 (.fz 20000 zs5)))))))))))))))] func32⟩
def P2(N:Nat):V:=⟨⟨33,Q5d,[Q5j],H6 N,[]⟩,kF N [fun _=>⟨_,Ht⟩,fun _=>⟨_,Hu⟩,fun _=>⟨_,G4⟩,fun _=>⟨_,Zb⟩] [(3,.an (.dc 11 [5,6,7,8,9,10,11,12,13,14,3] [1] [] (.b 1 (.c 1 (.k 0 [] [] [10700] [10700] (.b 1 (.c 1 (.k 1 [] [] [11000] [11000] (.b 1 (.c 1 (.k 2 [] [] [11300] [11300] (.g [] [] [] [10700,11000,11300] (.e 3 Ci))))))))))))),(8,.lp [2,3,17] [1,2,3,11000,11300] ⟨[(18,zs2)],[(10700,Ug)]⟩ [(.x 0,⟨[],[(10700,Ug)]⟩)]),(19,.an (.dc 10 [21,22,23,24,25,26,27,28,29,30] [10700] [3] (.b 3 (.d 3 10700 (.a (.b 3 (.d 3 10700 (.a (.d 10700 10700 (.b 10700 (.c 10700 (.k 3 [] [] [13000] [13000] (.tl (.n 2 (.fz 13000 zs5)))))))))))))))] func33⟩
def Qmc(N:Nat):V:=⟨⟨9,(sD [Uq,J2]),[⟨Jcy,[(1,.var 91 (.ag (sL [.ag (sL [Qh6,Q49,.s 4,.s 5,.s 6,.s 7]),.ag (sL [.s 8,.s 9,.s 10]),.m 11]))),(2,Jrx),(3,Jcw),(4,Qpo),(5,.row 150 Hd),(6,Qbx),(7,Jcx),(8,Ug),(9,Yx),(10,Lj),(11,C4)]⟩],u2 (Qcz N),[]⟩,kF N [Qmb,P2] [(3,.an (.dc 5 [5,6,7,8,9] [2,3] [] (.c 2 (.k 0 [] [] [10606,10605,10604,10603,10602,10601] [10601,10602,10603,10604,10605,10606] (.c 3 (.k 1 [] [] [10803,10802,10801] [10801,10802,10803] (.e 9 Qh8)))))))] func9⟩
def Qoa(N:Nat):V:=⟨⟨37,Jrz,[(sD [Sc])],u2 (Hj N),[]⟩,kF N [] [] func37⟩
def Nb(N:Nat):V:=⟨⟨115,Q5d,[Q5j],Gr N,[]⟩,kF N [fun _=>⟨_,Ht⟩,fun _=>⟨_,Hu⟩,fun _=>⟨_,G4⟩,fun _=>⟨_,Zb⟩] [(3,.an (.dc 11 [5,6,7,8,9,10,11,12,13,14,3] [1] [] (.b 1 (.c 1 (.k 0 [] [] [10700] [10700] (.b 1 (.c 1 (.k 1 [] [] [11000] [11000] (.b 1 (.c 1 (.k 2 [] [] [11300] [11300] (.g [] [] [] [10700,11000,11300] (.e 3 Ci))))))))))))),(8,.lp [2,3,17] [1,2,3,11000,11300] ⟨[(18,zs2)],[(10700,Ug)]⟩ [(.x 0,⟨[],[(10700,Ug)]⟩)]),(19,.an (.dc 10 [21,22,23,24,25,26,27,28,29,30] [10700] [3] (.b 3 (.d 3 10700 (.a (.b 3 (.d 3 10700 (.a (.d 10700 10700 (.b 10700 (.c 10700 (.k 3 [] [] [13000] [13000] (.tl (.n 2 (.fz 13000 zs5)))))))))))))))] func115⟩
def C7(N:Nat):V:=⟨⟨114,Jr0,[Jr2],Xf N,[]⟩,kF N [fun _=>⟨_,E5⟩,fun _=>⟨_,Y9⟩] [] func114⟩
def B9(N:Nat):V:=⟨⟨78,(sD [J2,Yb,J6,.i]),[⟨[(0,.ag (sL [Nu,Qh6,Q49])),(1,.ag (sL [zs2,zs2,zs2,zs2,.ag (sL [zs2,zs2,zs2,V2,V2,zs2,.ag (sL [zs2,V2,V2,zs2,.s 4]),zs2,zs2]),zs2,.s 5,zs2,zs2,zs4,Kz])),(2,Kz)],[(1,Ug),(2,Yx),(3,Lj),(4,Qt1),(5,Ze)]⟩],u4 (Uu N),[]⟩,kF N [Nb,C7] [(3,.an (.dc 12 [11,12,13,14,15,16,17,18,19,20,1000000010,1000000011] [4,5,6,8,9] [] (.c 4 (.k 0 [] [] [11203,11202,11201] [11201,11202,11203] (.c 5 (.k 1 [] [] [11402,11401] [11401,11402] (.b 6 (.c 6 (.b 6 (.c 6 (.a (.a (.g [8] [11201,11202,11203] [] [8,11201,11202,11203] (.g [9] [11401,11402] [] [9,11401,11402] Ci))))))))))))))] func78⟩
def Qt6(N:Nat):V:=⟨⟨227,Ju8,[zs1],Qc0 N,[]⟩,kF N [] [] func227⟩
def P3(N:Nat):V:=⟨⟨162,Qtw,[zs1],H7 N,[]⟩,kF N [Qt6] [(6,.lp [0,5] [] Jkv Ql0)] func162⟩
def Qob(N:Nat):V:=⟨⟨316,Q47,[Q97],u2 (O5 N),[]⟩,kF N [] [(6,.lp [0,1] [] Mc [(.x 0,Mc)]),(9,.rg (.n 5 (.sp 11 7 [5] [] Q98 Qqd Qqd .done)))] func316⟩
def Qik(N:Nat):V:=⟨⟨317,Q47,[Q97],u2 (Bv N),[]⟩,kF N [] [(8,.lp [1,8,9] [] ⟨Jk0,[(100000,Q48)]⟩ Juy),(16,.jn [10] [] Juz)] func317⟩
def Qoc(N:Nat):V:=⟨⟨294,Jw6,[(sD [Vu])],u2 (O6 N),[]⟩,kF N [Qob,Qik] [(3,.jn [] [3] [(.n,⟨[(2,Ql3),(4,Jk1)],[(100300,Ju0),(100301,Jcz)]⟩),(.r,⟨[(4,Qv4)],[(100200,Jcz)]⟩)]),(31,.jn [2,3,4,6] [2,4] Jrp),(39,.jn [2,3,4] [2,4] [(.n,Jpq)])] func294⟩
def Qil(N:Nat):V:=⟨⟨248,Qx3,[⟨Qh4,[(1,Qpp)]⟩],u2 (Bw N),[]⟩,kF N [Qoc] [(10,.lp [1,10,11] [] ⟨[(5,Qdj),(6,Q5k),(12,zs2)],[(100000,Qpp),(100001,Jk3)]⟩ [(.x 0,⟨[(5,Qx1)],[(100300,Qpp)]⟩)]),(18,.jn [12] [] [(.n,⟨[(5,Qtx),(6,Jk4)],[(100200,Qpp),(100201,Jk3)]⟩)]),(32,.an (.dr 13 (.n 3 (.sp 31 10 [5,6,8,9,12] [8,100000,100001] Jpv Jc0 Jc0 .done)) .done))] func248⟩
def Qmd(N:Nat):V:=⟨⟨250,(sD [Vu,Vu]),[zs1],u2 (L2 N),[]⟩,kF N [] [(14,.lp [3,43,44] [2,3] ⟨[(45,zs2)],[]⟩ Qj8)] func250⟩
def Qgu(N:Nat):V:=⟨⟨249,Jr3,[zs1],u2 (F7 N),[]⟩,kF N [Qmd] [] func249⟩
def Qgv(N:Nat):V:=⟨⟨251,Jr3,[(sD [Vv])],u2 (F8 N),[]⟩,kF N [] [] func251⟩
def E7(N:Nat):V:=⟨⟨247,⟨[(0,.d (.sl Vv)),(1,.f 249 .nil),(2,.f 251 .nil)],[]⟩,[⟨Qh4,[(1,Qpp)]⟩],Vn N,[]⟩,kF N [Qgu,Qgv] [(8,.lp [1,2,11,12] [] ⟨Jr4,[(100000,Qpp)]⟩ [(.x 0,⟨[(7,Qtx)],[(100200,Qpp)]⟩)]),(16,.jn [13] [] [(.n,⟨[(7,Ql1)],[(100100,Qpp)]⟩)]),(22,.an (.dc 10 [19,20,21,22,23,24,25,26,27,28] [100000,9] [] (.a (.a (.a (.so 21 (.a (.b 100000 (.a (.a (.d 100000 100000 (.c 100000 (.c 9 (.tl Q5b)))))))) Q5f)))))),(24,.an (.dc 11 [31,32,33,34,35,36,37,38,39,40,41] [100000,9] [] (.b 100000 (.a (.a (.a (.b 100000 (.a (.a (.d 100000 100000 (.c 100000 (.c 9 Jky))))))))))))] func247⟩
def P4(N:Nat):V:=⟨⟨181,Qx3,[⟨Qh4,[(1,Jc1)]⟩],u2 (H8 N),[]⟩,kF N [Qil,E7] [(10,.lp [5,14,15] [11201,11301] ⟨Jr5,[(100000,Jc1)]⟩ [(.x 0,⟨[(6,Qx1)],[(100300,Jc1)]⟩)]),(18,.jn [16] [] [(.n,⟨[(6,Qtx)],[(100200,Jc1)]⟩)]),(30,.jn [6,8,16] [8,100000] [(.n,⟨[(9,Qh7)],[(100100,.var 127 Qpq)]⟩)]),(35,.an (.dc 17 [40,41,42,43,44,45,46,47,48,49,50,51,52,53,54,55,56] [100100,8] [] (.b 100000 (.c 100100 (.b 8 (.b 8 (.c 8 (.b 8 (.b 8 (.c 8 (.e 48 (.b 8 (.b 8 (.c 8 (.b 8 (.b 8 (.c 8 (.b 48 (.op ⟨.fz 48 (.nl 1 .done),[48],[],[],[48]⟩ Jab)))))))))))))))))))] func181⟩
def Eb(N:Nat):V:=⟨⟨252,Jcu,[zs1],Zu N,[]⟩,kF N [] [] func252⟩
def Nc(N:Nat):V:=⟨⟨182,(sD [J4,.i]),[zs1],u2 (Gs N),[]⟩,kF N [Eb] [] func182⟩
def Ca(N:Nat):V:=⟨⟨123,Jc2,[(sD [Dn,.bool])],u3 (H9 N),[]⟩,kF N [P4,Nc] [(6,.lp [2,12,13] [11201] ⟨[(6,Qh5),(14,zs2)],[(100000,Jr6)]⟩ [(.x 0,⟨[(6,Qh7)],[(100100,Jr6)]⟩),(.r,⟨Jk5,[(100200,.var 235 (.d Dn))]⟩)])] func123⟩
def Qod(N:Nat):V:=⟨⟨256,(sD []),[⟨Jcy,[(1,.var 414 (.ag (sL [.m 2,.m 3,.m 4,.m 5,.m 6,.ns,.ns]))),(2,Q5l),(3,.map .i Vu),(4,Qpr),(5,.map .str .i),(6,B7)]⟩],fun _=>O8 N,[]⟩,kF N [] [] func256⟩
def Qqh(N:Nat):V:=⟨⟨257,Qx3,[⟨[(0,.f 296 (sL [.p 1 [],.p 2 []]))],[(1,.var 22 Jk6),(2,Pz)]⟩],u2 (Tm N),[]⟩,kF N [] [] func257⟩
def Qkf:AnY:=(.two (.reg (.n 3 .done)) (.un (.lp [2,6,7] [] ⟨[(8,.d .i)],[]⟩ [(.x 0,⟨[],[]⟩),(.r,⟨[],[]⟩)] (.two (.reg (.n 1 .done)) (.two (.two .nil .nil) (.two (.un (.two (.reg (.n 4 .done)) (.two (.yr (.h 5 (.n 5 .done) (.so 16 (.mv (.h 1 (.nl 1 .done) (.yl (.h 2 (.nl 1 (.n 1 .done)) .done)))) (.h 5 (.nl 4 (.n 1 .done)) .done)))) (.two .nil .nil)))) (.reg (.n 2 .done))))))))
def P5(N:Nat):It:=⟨296,[(.sl Jp),(.int .i64)],Jp,fun(x1,x2)=>L3 N x1 x2⟩
theorem Qim(N:Nat):IO (P5 N):=⟨Jpm (Y:=tx) (N:=N) (it:=P5 N) (an:=Qkf) G3 G2 (Jcq N []) func296 rfl (fun x=>by kernel_rfl),Ka func296 rfl⟩
def Qgw(N:Nat):V:=⟨⟨297,Jc3,[⟨Qh4,[(1,Qbx)]⟩],u2 (Wn N),[]⟩,kF N [] [(6,.lp [0,1] [] Mc [(.x 0,Mc)]),(9,.rg (.n 5 (.sp 11 7 [5] [] Q98 Qqd Qqd .done)))] func297⟩
def Qby(N:Nat):V:=⟨⟨318,Q47,[Q97],u2 (Z5 N),[]⟩,kF N [] [(6,.lp [0,1] [] Mc [(.x 0,Mc)]),(9,.rg (.n 5 (.sp 11 7 [5] [] Q98 Qqd Qqd .done)))] func318⟩
def Qme(N:Nat):V:=⟨⟨319,Q47,[Q97],u2 (Ff N),[]⟩,kF N [] [(8,.lp [1,8,9] [] ⟨Jk0,[(100000,Q48)]⟩ Juy),(16,.jn [10] [] Juz)] func319⟩
def Qaf(N:Nat):V:=⟨⟨298,⟨[(0,Xc),(1,Jk2),(2,.d Jp)],Jk7⟩,[⟨[(0,Jk2)],Jk8⟩],u9 (Wo N),[5000,5001,5002,5003,5005,5006,5007]⟩,kF N [Qby,Qme] [(3,.jn [6] [5,6] [(.n,⟨[(4,Q5k)],[(5004,.map .str .i),(100001,Ju0)]⟩)]),(10,.an (.dr 8 Qqg zs5)),(16,.an (.dr 6 Jac zs5))] func298⟩
def Rs(N:Nat):V:=⟨⟨258,⟨[(0,Xc),(1,.d Jp)],Jk7⟩,[⟨[],[(5000,.var 414 (.ag (sL [Qt2,Qf3,Jc4,Jc5,Jc6,Nu,Qh6]))),(5001,Q5l),(5002,.map .i Vu),(5003,Qpr),(5004,.map .str .i),(5005,B7),(1,Qbx),(2,Qbx)]⟩],u8 (Xp N),[]⟩,kF N [Qgw,Qaf] [(9,.jn [3] [3] [(.n,⟨Eh,[(5000,.var 414 (.ag (sL [Qt2,Qf3,Jc4,Jc5,Jc6,.s 100006,.s 100007]))),(5001,Q5l),(5002,.map .i Vu),(5003,Qpr),(5004,.map .str .i),(5005,B7),(100006,Qbx),(100007,Qbx)]⟩)]),(10,.an (.dc 12 [38,39,40,41,42,43,44,37,45,46,4,1000000011] [5000,5001] [3] (.b 5000 (.d 5000 5000 (.b 5000 (.d 5000 5001 (.b 3 (.c 3 (.c 5001 (.a (.a (.a (.e 4 (.f 4 4 Ci)))))))))))))),(14,.gh (.fz 5006 Qf4)),(14,.an (.dc 8 [49,50,51,52,53,54,55,56] [5000] [3] (.b 5000 (.b 5000 (.d 5000 5000 (.b 5000 (.c 5000 (.b 3 (.c 3 (.k 0 [] [] [15601] [15601] Qh8)))))))))),(16,.an (.dr 16 (.n 16 .done) zs5)),(21,.an (.dc 8 [77,78,79,80,81,82,83,6] [5000,3,5001] [] (.b 5000 (.d 5000 5000 (.b 5000 (.d 5000 5001 (.b 3 (.c 3 (.c 5001 (.e 6 Ci)))))))))),(24,.an (.dr 7 Qtz zs5)),(29,.jn [3] [3] [(.n,⟨Eh,[(5000,.var 414 (.ag (sL [Qt2,Qf3,Jc4,Jc5,Jc6,.s 100106,.s 100107]))),(5001,Q5l),(5002,.map .i Vu),(5003,Qpr),(5004,.map .str .i),(5005,B7),(100106,Qbx),(100107,Qbx)]⟩)]),(30,.an (.dr 8 Qqg .done)),(32,.gh (.fz 5007 Qf4)),(32,.an (.dc 8 [102,103,104,105,106,107,108,109] [5000] [3] (.b 5000 (.b 5000 (.d 5000 5000 (.b 5000 (.c 5000 (.b 3 (.c 3 (.k 0 [] [] [20901] [20901] Qh8)))))))))),(35,.an (.dr 6 Jac zs5)),(37,.an (.dr 8 Qqg zs5)),(38,.an (.dr 15 zs27 zs5)),(43,.an (.dc 8 [143,144,145,146,147,148,149,7] [5000,3,5002] [] (.b 5000 (.d 5000 5000 (.b 5000 (.d 5000 5002 (.b 3 (.c 3 (.c 5002 (.e 7 Ci)))))))))),(48,.lp [0,3,7,151,152] [3,7,5000,5001,5002,5003,5005,5006,5007] ⟨[(153,zs2)],Jk8⟩ [(.x 1,⟨[],Jk8⟩)]),(62,.an (.dr 8 Qqg zs5)),(63,.an (.dr 6 Jac zs5)),(65,.jn [0,3] [3,5000,5001,5002,5003,5004,5005,5006,5007] [(.n,⟨[(177,zs4)],[]⟩)]),(73,.an (.dc 12 [15,16,17,18,19,20,21,14,22,23,10,1000000011] [5000,3,5002] [] (.b 5000 (.d 5000 5000 (.b 5000 (.d 5000 5002 (.b 3 (.c 3 (.c 5002 (.a (.a (.a (.e 10 (.f 10 10 Ci)))))))))))))),(77,.an (.dc 10 [25,26,27,28,29,30,31,32,33,34] [5000,3,10,5004,5001,5002,5003,5005,5006,5007] [] (.b 5000 (.d 5000 5000 (.b 5000 (.d 5000 5002 (.b 3 (.c 3 (.b 5000 (.c 10 (.c 3 (.k 1 [5004] [5000,5001,5002,5003,5005,5006,5007] [] [5004] Ci))))))))))))] func258⟩
def P6(N:Nat):V:=⟨⟨259,⟨Eh,Jk7⟩,[Jr7],u7 (K4 N),[5000,5001,5002,5003,5004,5005,5006,5007]⟩,kF N [] [(5,.rg (.br zs5)),(10,.lp [0,2,16,17] [2] ⟨[(3,Qh5),(4,.m 100001),(18,zs2)],[(100000,.var 323 (.ag (sL [.ns,Jpx]))),(100001,Jk9),(100002,Qv3)]⟩ [(.x 0,⟨[(3,Qv4),(4,.m 100201)],[(100200,.var 323 (.ag (sL [.ns,Ju4]))),(100201,Jk9),(100202,Qv3)]⟩)]),(18,.jn [18] [] [(.n,⟨[(3,Qh7),(4,.m 100101)],[(100100,.var 323 (.ag (sL [.ns,Ju3]))),(100101,Jk9),(100102,Qv3)]⟩)]),(30,.gh (.op (.v 7 [.f 1 1]) 100001 700000 .done)),(30,.an (.dc 10 [33,34,35,36,37,38,39,40,41,42] [7,100001,700000] [] (.b 100001 (.b 7 (.c 7 (.b 100001 (.b 7 (.c 7 (.op ⟨.br .done,[],[100001,700000],[],[700000]⟩ (.a (.a (.g [700000] [] [42] [42] (.tl (.br .done)))))))))))))),(37,.gh (.fm 100201 .done)),(37,.lp [0,2,4,53,54] [2,100201] ⟨[(3,Ql3),(55,zs2)],[(100300,.var 323 (.ag (sL [Qt3,Q5m]))),(100301,Q99),(100302,Qv3)]⟩ [(.x 2,⟨[(3,Jc7)],[(100400,.var 323 (.ag (sL [Q5n,Jc8]))),(100401,Q99),(100402,Qv3)]⟩)])] func259⟩
def Qmf:AnR:=(.pre (.reg (.n 1 .done)) (.pre (.reg (.call 0 (.n 2 .done))) (.inn (.pre (.reg (.n 2 (.call 1 .done))) (.un (.rf 0 [4,5] [4,5] ⟨[],[(10701,.var 414 (.ag (sL [.m 100001,.m 100002,.m 100003,.m 100004,.m 100005,.s 100006,.s 100007]))),(100001,.map .i U6),(100002,.map .i Vu),(100003,.map .i .bool),(100004,.map .str .i),(100005,.map .i .i),(100006,.row 3 .i),(100007,.row 3 .i)]⟩ (.reg (.n 2 .done)) (.un (.reg (.n 2 (.call 2 .done))))))) (.two (.reg (.n 1 (.call 3 (.n 1 .done)))) .nil))))
def Qbz(N:Nat):V:=⟨⟨187,Qx3,[Jr7],u2 (Bx N),[]⟩,kR N [Qod,Qqh,Rs,P6] [⟨_,Qim N⟩] Qmf func187 rfl fun x=>by kernel_rfl⟩
def Qt7(N:Nat):V:=⟨⟨163,Jc2,[(sD [Vu,.bool])],u3 (Qc1 N),[]⟩,kF N [Qbz] [(6,.lp [1,13,14] [11201,11202] ⟨Jr8,[(100000,Jcz)]⟩ [(.x 0,⟨[(6,Qh7)],[(100100,Jcz)]⟩),(.r,⟨Jk5,[(100200,Jk3)]⟩)])] func163⟩
def Qdp(N:Nat):V:=⟨⟨270,(sD [.sl .str]),[Q97],Hl N,[]⟩,kF N [] [] func270⟩
def Qag(N:Nat):V:=⟨⟨271,Jr9,[⟨Qh4,[(1,.row 221 Zg)]⟩],Wp N,[]⟩,kF N [] [] func271⟩
def Qah(N:Nat):V:=⟨⟨272,Ju9,[⟨Qh4,Jc9⟩],Wq N,[]⟩,kF N [] [] func272⟩
def Su(N n:Nat):Con:=⟨273,Qx0,[Qx0],fun x0=>K5 N n x0,[]⟩
theorem Qb0(N:Nat):∀n,KO (Su N n)
 | 0=>⟨Qhs fun _=>rfl,Ka func273 rfl⟩
 | n+1=>have ih:=Qb0 N n; kF N [fun _=>⟨_,ih⟩] [(8,.lp [1,2,7,8] [1,2] ⟨[(3,Qdj),(9,zs2)],[(100000,Jcv)]⟩ [(.x 0,⟨Qx4,[(100100,Jcv)]⟩)])] func273
def Qv5(N:Nat):V:=⟨Su N N,Qb0 N N⟩
def Qt8(N:Nat):V:=⟨⟨228,Q5c,[Jrw],Qc2 N,[]⟩,kF N [Qdp,Qag,Qah,Qv5] [(10,.lp [1,2,18,19] [1,2] ⟨[(3,Qh5),(20,zs2)],[(100000,.var 146 (.ag (sL [V2,zs2,zs4,Qty,.ns,.ns,.ns]))),(100001,Qf2)]⟩ [(.x 0,⟨[(3,Qh7)],[(100100,.var 146 (.ag (sL [V2,zs2,zs4,Ql4,.ns,.ns,.ns]))),(100101,Qf2)]⟩)]),(21,.an (.dc 9 [24,25,26,27,28,29,30,31,32] [100000,5] [] (.b 100000 (.d 100000 100001 (.b 5 (.c 5 (.b 5 (.c 5 (.k 0 [] [] [13001] [13001] (.b 13001 (.op ⟨.fz 13001 (.nl 1 .done),[13001],[],[],[13001]⟩ Qh8))))))))))),(27,.lp [1,2,37,38] [1,2] ⟨[(3,Qv4),(39,zs2)],[(100200,.var 146 (.ag (sL [V2,zs2,zs4,Q5a,Ju4,.ns,.ns]))),(100201,Qf2),(100202,Ql2)]⟩ [(.x 2,⟨[(3,Ql3)],[(100300,.var 146 (.ag (sL [V2,zs2,zs4,Qt3,Q5m,.ns,.ns]))),(100301,Qf2),(100302,Ql2)]⟩)]),(38,.an (.dc 9 [43,44,45,46,47,48,49,50,51] [100200,7] [] (.b 100200 (.d 100200 100202 (.b 7 (.c 7 (.b 7 (.c 7 (.k 1 [] [] [14901] [14901] (.b 14901 (.op ⟨.fz 14901 (.nl 1 .done),[14901],[],[],[14901]⟩ Qh8))))))))))),(44,.lp [1,2,56,57] [1,2] ⟨[(3,Jc7),(58,zs2)],[(100400,.var 146 (.ag (sL [V2,zs2,zs4,Q5n,Jc8,.s 100403,.ns]))),(100401,Qf2),(100402,Ql2),(100403,Qt0)]⟩ [(.x 4,⟨[(3,.p 100500 [])],[(100500,.var 146 (.ag (sL [V2,zs2,zs4,Jda,Jla,.s 100503,.ns]))),(100501,Qf2),(100502,Ql2),(100503,Qt0)]⟩)]),(57,.rg (.n 3 (.fz 16401 Jlb))),(63,.lp [2,74,75] [1,2] ⟨[(3,Jlc),(76,zs2)],[(100600,.var 146 (.ag (sL [V2,zs2,zs4,Jld,.s 100602,.s 100603,.s 100604]))),(100601,Qf2),(100602,Ql2),(100603,Qt0),(100604,Q5h)]⟩ [(.x 6,⟨[(3,Jle)],[(100700,.var 146 (.ag (sL [V2,zs2,zs4,Jlf,.s 100702,.s 100703,.s 100704]))),(100701,Qf2),(100702,Ql2),(100703,Qt0),(100704,Q5h)]⟩)])] func228⟩
def Q5x(N:Nat):V:=⟨⟨164,(sD [.sl Yg,.str,.i]),[⟨[(0,.ag (sL [V2,zs2,zs4,Nu,Qh6,Q49,.s 4])),(1,zs4)],Jrv⟩],u3 (Qn7 N),[]⟩,kF N [Qt8] [(8,.lp [0,1,2,6,11,12] [6] ⟨[(8,zs2),(13,zs2)],[]⟩ Jlg),(16,.jn [13] [] [(.n,Qqf)])] func164⟩
def Q0o(N:Nat):V:=⟨⟨274,Qtw,[zs1],Qj2 N,[]⟩,kF N [] [(6,.lp [0,6] [] Jae Ql0)] func274⟩
def Qqi(N:Nat):V:=⟨⟨276,⟨[(0,.d V4),(1,Xc)],Jsa⟩,[zs1],u2 (Tn N),[5000]⟩,kF N [] [] func276⟩
def Nv(N:Nat):V:=⟨⟨304,Jsb,[zs7],u2 (Kf N),[5000]⟩,kF N [Qqi] [(6,.lp [0,1,7] [] Qqf Qn9),(18,.rg (.n 5 (.call 0 .done)))] func304⟩
def D4(N:Nat):V:=⟨⟨275,Jsb,[zs1],u2 (Uv N),[5000]⟩,kF N [Nv] [] func275⟩
def Qv6(N:Nat):V:=⟨⟨229,Jxa,[⟨[(0,.m 1),(1,zs2)],[(1,Qx5)]⟩,⟨[(0,.nm),(1,zs2)],[]⟩],Qfr N,[]⟩,kF N [Q0o,D4,P3] [(16,.lp [0,15,16] [] ⟨[(4,Jli),(17,zs2)],[(100000,Qx5)]⟩ [(.x 0,⟨[(4,.m 100400)],[(100400,Qx5)]⟩),(.r,⟨[(2,.nm),(3,zs2)],[]⟩)]),(57,.lp [6,17,44,45] [6] ⟨[(4,Jlj),(46,zs2)],[(100100,Qx5)]⟩ [(.x 3,⟨[(4,.m 100200)],[(100200,Qx5)]⟩),(.r,⟨[(2,.nm),(3,zs2)],[]⟩)])] func229⟩
def Qqj(N:Nat):V:=⟨⟨230,⟨[(0,.m 5000),(1,V2),(2,zs2)],[(5000,Qx5)]⟩,[(sD [.str,.bool])],u3 (To N),[5000]⟩,kF N [] [(4,.lp [0,1] [] ⟨[(2,zs2)],[]⟩ [(.x 0,⟨[],[]⟩),(.r,⟨[(6,V2),(7,zs4)],[]⟩)])] func230⟩
def Q0p(N:Nat):V:=⟨⟨165,(sD [.sl V4,.str]),[(sD [.str,.bool])],u2 (Qj3 N),[]⟩,kF N [Qv6,P3,Qqj] [(4,.an (.cn 6 (.two (.two (.reg (.n 3 (.sp 15 4 [1,6] [] Jkq Qf1 (.nl 1 Jkr) .done))) (.two Jsc (.gh (.tl .done) .nil))) .nil) (.two (.two (.reg (.n 3 (.sp 15 4 [1,6] [11001] Jkq Qf1 (.nl 1 Jkr) .done))) (.two Jsc .nil)) (.two (.reg (.n 4 (.call 2 Jlb))) .nil))))] func165⟩
def Q0q(N:Nat):V:=⟨⟨277,Qtw,[zs1],Qj4 N,[]⟩,kF N [] [(6,.lp [0,6] [] Jae Ql0)] func277⟩
def Qqk(N:Nat):V:=⟨⟨279,⟨[(0,.d V8),(1,Xc)],Jsd⟩,[zs1],u2 (Tp N),[5000]⟩,kF N [] [] func279⟩
def Nw(N:Nat):V:=⟨⟨305,Jse,[zs7],u2 (Kg N),[5000]⟩,kF N [Qqk] [(6,.lp [0,1,7] [] Qqf Qn9),(18,.rg (.n 5 (.call 0 .done)))] func305⟩
def D5(N:Nat):V:=⟨⟨278,Jse,[zs1],u2 (Uw N),[5000]⟩,kF N [Nw] [] func278⟩
def Qv7(N:Nat):V:=⟨⟨280,Jr9,[zs7],Qft N,[]⟩,kF N [] [(22,.lp [11,12] [] Jlk Qqe)] func280⟩
def Qv8(N:Nat):V:=⟨⟨232,Jxb,[zs7],Qfv N,[]⟩,kF N [Q0q,D5,Qv7] [(22,.lp [0,12,13] [] ⟨[(14,zs2)],[]⟩ Qqe),(30,.jn [14] [] [(.n,⟨[],[]⟩),(.r,⟨[(2,zs2)],[]⟩)])] func232⟩
def Qkg(N:Nat):V:=⟨⟨307,Jc3,[zs7],u2 (Dt N),[]⟩,kF N [] [(6,.lp [0,1,7] [] Qqf Qn9)] func307⟩
def Qew(N:Nat):V:=⟨⟨283,Jc3,[zs1],u2 (Er N),[]⟩,kF N [Qkg] [] func283⟩
def Qkh(N:Nat):V:=⟨⟨284,zs7,[zs7],Du N,[]⟩,kF N [] [] func284⟩
def Q5y(N:Nat):V:=⟨⟨234,Jc3,[zs7],u2 (Qn8 N),[]⟩,kF N [Qew,Qkh] [] func234⟩
def Qt9(N:Nat):V:=⟨⟨281,⟨[(0,.d Zg),(1,Xc),(2,Qf5)],Jsf⟩,[zs1],u3 (Qc3 N),[5000,5001]⟩,kF N [] [] func281⟩
def Nx(N:Nat):V:=⟨⟨306,Jsg,[zs7],u3 (Kh N),[5000,5001]⟩,kF N [Qt9] [(6,.lp [0,1,7] [] Qqf Qn9),(18,.rg (.n 5 (.call 0 .done)))] func306⟩
def D6(N:Nat):V:=⟨⟨282,Jsg,[zs1],u3 (Ux N),[5000,5001]⟩,kF N [Nx] [] func282⟩
def Q0r(N:Nat):V:=⟨⟨233,(sD [.sl V8,.i,.i]),[Qtw],u3 (Qj5 N),[]⟩,kF N [D6] [(8,.lp [0,7,11,12] [4,5] Jlk [(.x 0,⟨[],[]⟩),(.r,⟨[(6,V2)],[]⟩)])] func233⟩
def Jaf(N:Nat):V:=⟨⟨167,(sD [.sl V8,.sl .i,.i]),[Qtw],u3 (Qtv N),[]⟩,kF N [Qv8,Q5y,Q0r] [] func167⟩
def Qoe(N:Nat):V:=⟨⟨231,⟨[(0,.d Xl),(1,Xc),(2,Qf5),(3,.p 5002 [])],[(5000,Pz),(5001,Q5o),(5002,Q5o)]⟩,[zs1],u4 (Pb N),[5000,5001,5002]⟩,kF N [] [] func231⟩
def Qua(N:Nat):V:=⟨⟨166,(sD [Yg,.i,.str,.str]),[⟨[(0,Jr1),(1,zs4)],Jc9⟩],u4 (Qc4 N),[]⟩,kF N [Qoe] [(8,.lp [10,15,16] [4,5,6,7] ⟨[(8,Qh5),(17,zs2)],[(100000,Jsh)]⟩ [(.x 0,⟨[(8,Qh7)],[(100100,Jsh)]⟩),(.r,⟨[(8,Qv4),(9,zs4)],[(100200,.var 76 (.ag (sL [zs2,V2,V2,zs2,Q5a]))),(100201,Qt1)]⟩)]),(20,.rg (.n 2 (.call 0 .done)))] func166⟩
def Q0s(N:Nat):V:=⟨⟨120,(sD [Uq,J2,.i,.i,.str,.i]),[⟨[(0,Jkz),(1,zs2)],Jc9⟩],u6 (Qj6 N),[]⟩,kF N [P3,Ca,Qt7,Q5x,Q0p,Jaf,Qua,fun _=>⟨_,Px⟩] [(57,.gh (.fz 19402 (.dt 19 (.fz 19403 (.dt 19 (.fz 19404 (.dt 19 .done))))))),(57,.an (.dc 15 [108,109,110,111,112,113,114,115,116,117,107,118,119,23,1000000014] [19,6] [] (.c 19 (.a (.a (.b 19 (.c 19 (.b 6 (.c 6 (.a (.k 5 [] [] [] [] (.k 6 [] [] [21701] [21701] (.b 21701 (.b 21701 (.a (.e 23 (.g [23] [21701] [] [23,21701] Ci)))))))))))))))))] func120⟩
def Md(N:Nat):V:=⟨⟨74,(sD [J2,Yb]),[⟨Jcy,[(1,.var 173 (.ag (sL [.ag (sL [zs2,zs2,zs2,zs2,.ag (sL [zs2,zs2,zs2,V2,V2,zs2,.ag (sL [zs2,V2,V2,zs2,Qh6]),zs2,zs2]),zs2,Q49,zs2,zs2,zs4,Kz]),.ag (sL [.s 4,.s 5,.s 6])]))),(2,Qt1),(3,Ze),(4,Ug),(5,Yx),(6,Lj)]⟩],u2 (E1 N),[]⟩,kF N [C7,Nb] [(3,.an (.dc 3 [5,6,7] [3,2] [] (.c 3 (.k 0 [] [] [10602,10601] [10601,10602] (.c 2 (.tl (.call 1 Q0n)))))))] func74⟩
def P7(N:Nat):V:=⟨⟨168,Q5g,[Jll],By N,[]⟩,kF N [] [] func168⟩
def Qpv(N:Nat):V:=⟨⟨169,Q5g,[(sD [Zh])],Qbh N,[]⟩,kF N [] [] func169⟩
def Qql(N:Nat):V:=⟨⟨170,Qx3,[zs7],u2 (Tq N),[]⟩,kF N [] [(6,.lp [1,7,8] [] zs3 Qn9)] func170⟩
def Qgx(N:Nat):V:=⟨⟨286,⟨[(0,.d Dn),(1,Xc)],[(5000,Q5o)]⟩,[zs1],u2 (F9 N),[5000]⟩,kF N [] [(6,.lp [1,7,8] [2] zs3 [(.x 0,⟨[],[]⟩),(.r,⟨[(3,zs4)],[]⟩)])] func286⟩
def Qgy(N:Nat):V:=⟨⟨309,Jlm,[zs1],u2 (Aa N),[]⟩,kF N [] [] func309⟩
def Qgz(N:Nat):V:=⟨⟨310,Jlm,[Jcu],u2 (Ab N),[]⟩,kF N [] [] func310⟩
def Lr(N:Nat):V:=⟨⟨308,⟨[(0,Jdb),(1,.f 309 .nil),(2,.f 310 .nil)],[]⟩,[Qt4],U8 N,[]⟩,kF N [Qgy,Qgz] [(8,.lp [1,2,11,12] [] ⟨Jr4,Jln⟩ Jsi),(16,.jn [13] [] Jsj),(22,.an (.dc 10 [19,20,21,22,23,24,25,26,27,28] [100000,9] [] (.a (.a (.a (.so 21 (.a (.b 100000 (.a (.a (.d 100000 100000 (.c 100000 (.c 9 (.tl Q5b)))))))) Q5f)))))),(24,.an (.dc 11 [31,32,33,34,35,36,37,38,39,40,41] [100000,9] [] (.b 100000 (.a (.a (.a (.b 100000 (.a (.a (.d 100000 100000 (.c 100000 (.c 9 Jky))))))))))))] func308⟩
def Qki(N:Nat):V:=⟨⟨285,⟨[(0,Jk6),(1,zs2),(2,.f 286 Jlh)],[(5000,Q5o)]⟩,[Qt4],u3 (Dv N),[5000]⟩,kF N [P4,Qgx,Lr] [(8,.lp [2,12,13] [11201] ⟨[(7,Qdj),(14,zs2)],Jln⟩ Jsi),(16,.jn [14] [] Jsj),(20,.rg (.n 2 (.call 1 .done)))] func285⟩
def Qkj(N:Nat):V:=⟨⟨235,(sD [.sl Jp,.i,.str]),[Qt4],u3 (Dw N),[]⟩,kF N [Qki] [] func235⟩
def Qqm(N:Nat):V:=⟨⟨236,(sD [Ut,Ut]),[zs1],u2 (Tr N),[]⟩,kF N [] [] func236⟩
def Qmg(N:Nat):V:=⟨⟨171,Qx3,[⟨Qh4,[(1,Jdc)]⟩],u2 (L4 N),[]⟩,kF N [Qkj,Qqm] [(5,.rg (.br zs5)),(12,.lp [0,1,15,16] [] ⟨[(5,Jli),(6,.m 100001),(7,Jpx),(17,zs2)],[(100000,Qpr),(100001,Qx6),(100002,Jdc)]⟩ [(.x 0,⟨[(7,.s 101100)],[(101100,Jdc)]⟩)]),(20,.jn [17] [] [(.n,⟨[(5,.m 101000),(6,.m 101001),(7,.s 101002)],[(101000,Qpr),(101001,Qx6),(101002,Jdc)]⟩)]),(24,.jn [6,7,9,17] [9,100001,100002] [(.n,⟨[(5,Jlj)],[(100100,Qpr)]⟩)]),(31,.jn [5,7,9,17] [9,100002,100100] [(.n,⟨[(6,.m 100300),(51,zs4)],[(100300,Qx6)]⟩)]),(31,.gh (.op (.v 9 [.f 5 5]) 100001 700000 .done)),(31,.rg (.n 11 (.sp 43 8 [5,6,7,9,17] [100001,700000] ⟨[(51,zs4)],[]⟩ zs6 (.nl 3 (.br (.nl 2 (.br zs5)))) (.cl 100001 .done)))),(36,.jn [5,7,9,17] [9,100002,100100] [(.n,⟨[(6,.m 100500)],[(100500,Qx6)]⟩)]),(37,.jn [5,7,9,17] [] [(.n,⟨[(6,.m 100400),(56,zs4)],[(100400,Qx6)]⟩)]),(37,.gh (.op (.v 9 [.f 5 5]) 100300 700001 .done)),(37,.rg (.n 3 (.br (.n 1 (.cl 100300 .done))))),(39,.rg (.n 4 (.br .done))),(42,.jn [5,7,9,17] [9,100002,100100] [(.n,⟨[(6,.m 100600)],[(100600,Qx6)]⟩)]),(42,.gh (.op (.v 9 [.f 5 5]) 100500 700002 .done)),(42,.rg (.n 3 (.br (.n 3 (.cl 100500 .done))))),(44,.an (.dc 13 [67,68,69,70,71,72,73,74,75,76,77,78,10] [9] [] (.a (.b 9 (.c 9 (.b 9 (.c 9 (.a (.b 9 (.c 9 (.b 9 (.c 9 (.k 0 [] [] [17701] [17701] (.b 17701 (.e 10 Ci))))))))))))))),(49,.gh (.fz 17701 .done)),(49,.lp [5,6,7,10,17] [9,10,17701,100002,100100,100600] Jlo [(.x 2,Jlo)]),(52,.jn [11] [] Jw7),(52,.an (.dc 10 [79,80,81,82,83,84,85,86,87,88] [] [100002,10] (.a (.b 100002 (.c 100002 (.a (.a (.so 83 (.b 100002 (.a (.d 100002 100002 (.c 100002 (.d 10 17701 (.tl Jku)))))) Jrt)))))))),(59,.rg (.n 2 (.fz 100002 Q0n)))] func171⟩
def Ls(N:Nat):V:=⟨⟨238,Jlm,[(sD [J4,.bool])],u2 (Wr N),[]⟩,kF N [Eb] [(6,.rg (.n 1 (.call 0 (.n 2 (.sp 21 4 [3,4,6] [2,3,4,6] ⟨[(25,zs4)],[]⟩ Qf1 (.nl 1 Jkt) Qtz)))))] func238⟩
def Sv(N:Nat):V:=⟨⟨323,zs7,[zs7],Kl N,[]⟩,kF N [] [(7,.jn [] [] [(.n,Q46)])] func323⟩
def Qqn(N:Nat):V:=⟨⟨328,zs7,[zs1],Tt N,[]⟩,kF N [] [] func328⟩
def Me(N:Nat):V:=⟨⟨324,Qh9,[zs7],u2 (K6 N),[]⟩,kF N [Qqn] [(6,.rg (.n 3 (.sp 9 3 [0,1,5] [5] ⟨[(12,zs4)],[]⟩ (.nl 1 Q5b) Jgq .done)))] func324⟩
def Qqo(N:Nat):V:=⟨⟨311,zs7,[(sD [Qhu])],Tu N,[]⟩,kF N [Sv,Me] [(14,.lp [0,2] [2] ⟨[(3,Qh5)],[(100000,Jdd)]⟩ [(.x 0,⟨[(3,Qh7)],[(100100,Jdd)]⟩)]),(27,.lp [2] [2] ⟨[(0,zs2),(3,Qv4)],[(100200,Jdd)]⟩ [(.x 2,⟨[(0,zs2),(3,Ql3)],[(100300,Jdd)]⟩)])] func311⟩
def Qof(N:Nat):V:=⟨⟨287,Qh9,[zs7],u2 (Hm N),[]⟩,kF N [Qqo] [(7,.jn [] [5] [(.n,Jkv)])] func287⟩
def Qmh(N:Nat):V:=⟨⟨329,Qh9,[zs7],u2 (L5 N),[]⟩,kF N [Me] [] func329⟩
def Qub(N:Nat):V:=⟨⟨325,(sD [Qhu]),[Qh9],Qc5 N,[]⟩,kF N [Qmh,Sv,Me] [(4,.jn [1] [1] [(.n,Q98)]),(4,.an (.dc 11 [6,7,8,9,10,11,12,13,14,15,16] [] [1] (.b 1 (.c 1 (.a (.a (.so 9 Q5f (.b 1 (.c 1 (.b 1 (.c 1 (.b 1 (.c 1 (.k 0 [] [] [] [] (.tl Qv1))))))))))))))),(11,.an (.dc 5 [19,20,21,22,23] [1] [] (.b 1 (.c 1 (.k 1 [] [] [] [] Jsk))))),(16,.lp [1] [1] Jrr [(.x 0,Q46)])] func325⟩
def Qog(N:Nat):V:=⟨⟨312,Qh9,[zs7],u2 (Ho N),[]⟩,kF N [Qub] [] func312⟩
def Qoh(N:Nat):V:=⟨⟨288,Qh9,[Jcu],u2 (Pf N),[]⟩,kF N [Qog] [(5,.jn [4] [4] [(.n,⟨[(5,Qh5)],[(100000,.var 127 Qpq)]⟩)])] func288⟩
def Sw(N:Nat):V:=⟨⟨239,(sD [.i,J4]),[Qt4],u2 (W0 N),[]⟩,kF N [Qof,Qoh] [(16,.lp [0,3] [3] ⟨[(5,Qdj),(6,zs2)],Jln⟩ [(.x 0,⟨[(5,Ql1)],[(100100,Lk)]⟩)])] func239⟩
def Qg0(N:Nat):V:=⟨⟨237,⟨[(0,Qpq),(1,Xc),(2,Qf5),(3,.p 5003 [])],[(5000,Pz),(5001,.var 301 Qx7),(5002,Lk),(5003,Pz)]⟩,[⟨[],[(5001,.var 301 Nu),(1,Lk)]⟩],u4 (Ac N),[5000,5003]⟩,kF N [Ls,Sw] [(7,.an (.dc 4 [16,17,18,19] [5001,5] [5003] (.d 5001 5002 (.c 5003 (.c 5 (.k 1 [] [] [11901] [11901] Jab))))))] func237⟩
def Qg1(N:Nat):V:=⟨⟨313,Jsl,[Jsm],u3 (Ad N),[]⟩,kF N [Eb] [(3,.lp [1,7,8] [] ⟨[(2,Xc),(9,zs2)],[(5000,.var 431 Qty),(100001,Qpt)]⟩ [(.x 0,⟨[],[(5000,.var 431 Q5a),(100201,Qpt)]⟩)]),(11,.jn [9] [] [(.n,⟨[(2,Xc)],[(5000,.var 431 Ql4),(100101,Qpt)]⟩)])] func313⟩
def Qb1(N:Nat):V:=⟨⟨313,Jsl,[Jsm],u3 (Ge N),[]⟩,kF N [Eb] [(3,.lp [1,7,8] [] ⟨[(2,Xc),(9,zs2)],[(5000,.var 431 Qty),(100001,Qpt)]⟩ [(.x 0,⟨[],[(5000,.var 431 Q5a),(100201,Qpt)]⟩)]),(11,.jn [9] [] [(.n,⟨[(2,Xc)],[(5000,.var 431 Ql4),(100101,Qpt)]⟩)])] func313⟩
def Qkk(N:Nat):V:=⟨⟨290,(sD [.bool,.bool]),[zs1],u2 (Dy N),[]⟩,kF N [] [] func290⟩
def Qkl(N:Nat):V:=⟨⟨289,⟨[(0,Jdb),(1,Jdb),(2,.f 290 .nil)],[]⟩,[Qt4],u2 (Dz N),[]⟩,kF N [Qg1,Qb1,fun _=>⟨_,Hv⟩,Qkk] [(7,.rg (.n 2 (.call 0 .done))),(9,.rg (.n 2 (.call 1 .done))),(22,.lp [2,7,24,25] [7,12101] ⟨[(9,Qdj),(10,Q5k),(11,zs4),(26,zs2)],[(100000,Lk),(100001,Jsn)]⟩ [(.x 0,⟨[(9,Q5i)],[(100400,Lk)]⟩)]),(30,.jn [26] [] [(.n,⟨[(9,Qx1),(10,Jk1),(11,zs4)],[(100300,Lk),(100301,Jsn)]⟩)]),(34,.an (.dr 8 Qqg zs5)),(37,.an (.dr 16 (.n 6 (.sp 44 10 [9,10,11,12,13,26] [13,100000,100001] ⟨[(54,zs4)],[]⟩ Jc0 Jc0 .done)) .done)),(42,.rg (.n 7 (.call 3 zs5))),(44,.jn [10,14,26] [13,100001] [(.n,⟨[(9,Qtx)],[(100200,Lk)]⟩)])] func289⟩
def Qoi(N:Nat):V:=⟨⟨240,(sD [.sl J4]),[Qt4],Ph N,[]⟩,kF N [Qkl] [] func240⟩
def Qqp(N:Nat):V:=⟨⟨172,(sD [.sl Ut,.i,.i]),[Qt4],u3 (Tv N),[]⟩,kF N [Qg0,Qoi,Sw] [(10,.lp [17,18] [] ⟨[(4,Qh5),(7,Q5k),(8,.f 237 (sL [.p 100002 [],Q5k,Qh5])),(19,zs2)],[(100000,Pz),(100001,.var 301 Ju5),(100002,Pz),(100003,Lk)]⟩ [(.x 0,⟨[(4,Ql3),(7,Jk1)],[(100300,Pz),(100301,.var 301 Q5m),(100302,Lk)]⟩)]),(24,.lp [19,24,25] [10] ⟨[(4,Qh7),(7,Ju2),(8,.f 237 (sL [.p 100102 [],Ju2,Qh7])),(26,zs2)],[(100100,Pz),(100101,.var 301 (.s 100103)),(100102,Pz),(100103,Lk)]⟩ [(.x 2,⟨[(4,Qv4),(7,Jk4),(8,.f 237 (sL [.p 100202 [],Jk4,Qv4]))],[(100200,Pz),(100201,.var 301 (.s 100203)),(100202,Pz),(100203,Lk)]⟩)]),(35,.rg (.n 2 (.call 0 .done))),(44,.lp [4,36,37] [13601,100300,100301,100302] ⟨[(13,Q5i),(38,zs2)],[(100400,Lk)]⟩ [(.x 4,⟨[(13,.s 100500)],[(100500,Lk)]⟩)])] func172⟩
def Quc(N:Nat):V:=⟨⟨292,⟨[(0,.d J3),(1,Xc),(2,Qf5)],Jso⟩,[zs1],u3 (Qc6 N),[5000,5001]⟩,kF N [] [] func292⟩
def Mf(N:Nat):V:=⟨⟨291,⟨[(0,Jsp),(1,.f 292 (sL [Xc,Qf5]))],Jso⟩,[⟨Qh4,[(1,Qpo)]⟩],u3 (Zv N),[5000,5001]⟩,kF N [Quc] [(8,.lp [1,8,9] [] ⟨Jk0,[(100000,Qpo)]⟩ [(.x 0,⟨[(5,Qtx)],[(100200,Qpo)]⟩)]),(16,.jn [10] [] [(.n,⟨[(5,Ql1)],[(100100,Qpo)]⟩)]),(20,.rg (.n 2 (.call 0 .done)))] func291⟩
def Qqq(N:Nat):V:=⟨⟨293,Jw8,[⟨[(0,.ag (sL [V2,zs2,zs2,V2,zs4,Nu]))],[(1,Qx2)]⟩],Tw N,[]⟩,kF N [] [(8,.lp [1,2,7,8] [1,2] ⟨[(3,Qdj),(9,zs2)],[(100000,Qx2)]⟩ [(.x 0,⟨Qx4,[(100100,Qx2)]⟩)]),(21,.rg (.n 2 (.fz 15 Q0n)))] func293⟩
def Q0t(N:Nat):V:=⟨⟨241,(sD [.sl J3,.str,.i]),[⟨[(0,.ag (sL [V2,zs2,zs2,V2,zs4,Nu])),(1,zs4)],[(1,Qx2)]⟩],u3 (Qj7 N),[]⟩,kF N [Mf,Qqq] [] func241⟩
def Qdq(N:Nat):V:=⟨⟨173,(sD [Ut,.sl J3,J4]),[⟨Qh4,[(1,Jde)]⟩],u3 (Hp N),[]⟩,kF N [Ls,Q0t] [(6,.lp [1,3,5,18,19] [3,5] ⟨[(20,zs2)],[]⟩ [(.x 0,⟨[],[]⟩),(.r,⟨[(6,Q5i)],[(100400,Jde)]⟩)]),(33,.lp [9,42,43] [8,9,11,13801] ⟨[(13,Ql1),(44,zs2)],[(100100,Jde)]⟩ [(.x 2,⟨[(13,Qtx)],[(100200,Jde)]⟩)])] func173⟩
def Sx(N:Nat):V:=⟨⟨242,Q5e,[zs1],u2 (Fg N),[]⟩,kF N [] [] func242⟩
def Qud(N:Nat):V:=⟨⟨243,(sD [Q9,Q9,.i]),[Jll],u3 (Qc7 N),[]⟩,kF N [P7,Sx] [(5,.jn [6] [3,4,6] [(.n,⟨[(7,Qh5)],[(100000,.var 129 (.ag (sL [zs2,zs2,V2,zs2,zs2,Qty,Qpq,zs2,zs2,zs2,zs4]))),(100001,Q48)]⟩)])] func243⟩
def Qqr(N:Nat):V:=⟨⟨244,Q5e,[zs1],u2 (Tx N),[]⟩,kF N [] [] func244⟩
def Qkm(N:Nat):V:=⟨⟨174,⟨[(0,Xc),(1,.d Fc)],[(5000,.var 293 (.ag (sL [Qps,Qf3]))),(5001,Ug),(5002,Qei)]⟩,[⟨[],[(5000,.var 293 (.ag (sL [Nu,Qf3]))),(5002,Qei),(1,Ug)]⟩],u3 (D1 N),[]⟩,kF N [Qpv,P7,Sx,Qud,Qqr] [(4,.an (.dc 7 [9,10,11,12,13,14,15] [5000,3] [] (.b 5000 (.d 5000 5000 (.b 5000 (.d 5000 5002 (.b 3 (.c 3 Jsq)))))))),(14,.gh (.fz 11901 .done)),(14,.lp [0,3,23,24] [3,5000,5001,5002] ⟨[(4,Qh5),(25,zs2)],[(100000,.var 129 (.ag (sL [zs2,zs2,V2,zs2,zs2,Qty,Qpq,zs2,zs2,zs2,zs4]))),(100001,.tail 9 .str)]⟩ [(.x 0,⟨[(4,Qh7)],[(100100,.var 129 (.ag (sL [zs2,zs2,V2,zs2,zs2,Ql4,Qpq,zs2,zs2,zs2,zs4]))),(100101,.tail 9 .str)]⟩)]),(37,.lp [0,4] [3,5000,5001,5002,100100,100101] Jae [(.x 2,Jae)]),(40,.jn [7] [] [(.n,Juv)]),(40,.an (.dc 16 [38,39,40,41,42,43,44,45,46,47,48,49,50,51,52,53] [] [5000,5001,100100] (.a (.b 5000 (.d 5000 5000 (.b 5000 (.d 5000 5001 (.c 5001 (.a (.a (.so 45 (.b 5000 (.d 5000 5000 (.b 5000 (.d 5000 5001 (.a (.d 5001 5001 (.c 5001 (.d 100100 100101 (.tl (.call 4 zs5)))))))))) (.a Q5f)))))))))))),(47,.rg (.n 5 (.fz 5001 Q0n))),(52,.gh (.dt 100100 .done)),(52,.an (.dc 6 [80,81,82,83,84,85] [5000,100100] [] (.b 5000 (.d 5000 5000 (.b 5000 (.d 5000 5002 (.c 100100 Jsq)))))))] func174⟩
def Qb2(N:Nat):V:=⟨⟨121,(sD [.sl Jp,.sl J3,J2,.i,.i]),[Q5j],u5 (Bz N),[]⟩,kF N [P7,Qpv,Qql,Qmg,Qqp,Qdq,Qkm] [(8,.lp [0,1,3,4,7,10,27,28] [7,10] ⟨[(11,Qh5),(29,zs2)],[(100000,.var 293 (.ag (sL [Qty,Jlp]))),(100001,Ug),(100002,Qei)]⟩ [(.x 0,⟨[(11,Qh7)],[(100100,.var 293 (.ag (sL [Ql4,Jlq]))),(100101,Ug),(100102,Qei)]⟩)]),(20,.an (.dc 9 [33,34,35,36,37,38,39,40,41] [100000,13,100001] [] (.b 100000 (.b 100000 (.d 100000 100000 (.b 100000 (.d 100000 100001 (.c 13 (.k 0 [] [] [13901] [13901] (.op ⟨.fz 13901 (.nl 1 .done),[13901],[],[],[13901]⟩ (.g [100001] [] [41] [41] Qh8))))))))))),(21,.an (.dc 6 [44,45,46,47,48,49] [100000,13] [] (.b 100000 (.d 100000 100000 (.b 100000 (.d 100000 100002 (.c 13 (.k 1 [] [] [] [] Ci)))))))),(24,.an (.dc 8 [51,52,53,54,55,56,57,14] [7] [] (.b 7 (.c 7 (.e 53 (.b 7 (.c 7 (.e 56 (.g [] [] [] [53,56] (.e 14 Ci)))))))))),(28,.jn [10,14] [7,10,14,53,56] [(.n,⟨[(11,.p 100900 [])],[(100900,.var 293 (.ag (sL [.s 100901,.m 100902]))),(100901,Ug),(100902,Qei)]⟩)]),(36,.lp [1,4,10,14,16,77,78] [17301,17701] ⟨[(11,Qv4),(79,zs2)],[(100200,.var 293 (.ag (sL [Q5a,.m 100202]))),(100201,Ug),(100202,Qei)]⟩ [(.x 2,⟨[(11,.p 100800 [])],[(100800,.var 293 (.ag (sL [.s 100801,.m 100802]))),(100801,Ug),(100802,Qei)]⟩)]),(50,.lp [18,79,83,84] [18] ⟨[(11,Ql3),(85,zs2)],[(100300,.var 293 (.ag (sL [Qt3,.m 100302]))),(100301,Ug),(100302,Qei)]⟩ [(.x 4,⟨[(11,Jle)],[(100700,.var 293 (.ag (sL [Jlf,.m 100702]))),(100701,Ug),(100702,Qei)]⟩)]),(64,.lp [85,92,93] [20,19201] ⟨[(11,Jc7),(94,zs2)],[(100400,.var 293 (.ag (sL [Q5n,.m 100402]))),(100401,Ug),(100402,Qei)]⟩ [(.x 6,⟨[(11,Jlc)],[(100600,.var 293 (.ag (sL [Jld,.m 100602]))),(100601,Ug),(100602,Qei)]⟩)]),(72,.jn [94] [] [(.n,⟨[(11,.p 100500 [])],[(100500,.var 293 (.ag (sL [Jda,.m 100502]))),(100501,Ug),(100502,Qei)]⟩)])] func121⟩
def Qmi(N:Nat):V:=⟨⟨245,Jct,[⟨Qh4,[(1,Ug)]⟩],L6 N,[]⟩,kF N [] [(8,.lp [6,7] [] ⟨[(3,Qdj),(8,zs2)],[(100000,Ug)]⟩ [(.x 0,⟨Qx4,[(100100,Ug)]⟩)]),(21,.rg (.n 2 (.fz 14 Q0n)))] func245⟩
def Qqs(N:Nat):V:=⟨⟨175,Q5d,[Q5j],Tz N,[]⟩,kF N [Qmi] [(3,.an (.dc 8 [3,4,5,6,7,8,9,10] [1] [] (.b 1 (.c 1 (.k 0 [] [] [10501] [10501] (.b 1 (.c 1 (.e 8 Jsk))))))))] func175⟩
def Qoj(N:Nat):V:=⟨⟨176,Jc2,[zs1],u3 (Pj N),[]⟩,kF N [] [(6,.lp [1,2,9,10] [] Jlo Jw9)] func176⟩
def Qok(N:Nat):V:=⟨⟨246,Jru,[⟨[(0,.m 1)],[(1,B7)]⟩],Pk N,[]⟩,kF N [] [(8,.lp [9,10] [] ⟨[(3,Jli),(11,zs2)],[(100000,B7)]⟩ [(.x 0,⟨[(3,.m 100200)],[(100200,B7)]⟩)]),(16,.jn [11] [] [(.n,⟨[(3,Jlj)],[(100100,B7)]⟩)])] func246⟩
def Que(N:Nat):V:=⟨⟨177,(sD [.sl J5,.i]),[⟨Jdf,[(1,Yx)]⟩],u2 (Qc8 N),[]⟩,kF N [Qok] [(16,.lp [0,1] [11201] Qqf Jlg),(19,.rg (.n 5 (.sp 25 8 [8] [] ⟨[(33,zs4)],[]⟩ zs6 zs6 .done)))] func177⟩
def U2(N:Nat):V:=⟨⟨161,Q5p,[zs1],u3 (Yd N),[]⟩,kF N [] [] func161⟩
def Qg2(N:Nat):V:=⟨⟨226,zs7,[zs1],Nj N,[]⟩,kF N [] [] func226⟩
def Xy(N:Nat):V:=⟨⟨159,Jkx,[zs7],Ku N,[]⟩,kF N [U2,Qg2] [(5,.rg (.n 2 (.call 0 (.n 2 (.sp 8 5 [1] [1] zs8 G7 Jks (.n 1 (.sp 14 5 [1] [1] Jkq G7 Jad zs5))))))),(11,.rg (.n 2 (.call 0 (.n 2 (.sp 25 5 [1] [1] Jkw G7 Jad zs5)))))] func159⟩
def Fi(N:Nat):V:=⟨⟨160,Ql5,[Ql5],u2 (Yo N),[]⟩,kF N [] [] func160⟩
def Qqt(N:Nat):V:=⟨⟨179,Ql5,[Ql5],u2 (T0 N),[]⟩,kF N [Xy,Fi,U2,Qg2] [(14,.rg (.n 1 (.call 2 (.n 2 (.sp 19 7 [1,2,4] [2,4] ⟨[(26,zs4)],[]⟩ Qqd (.nl 4 Jps) .done)))))] func179⟩
def Qin(N:Nat):V:=⟨⟨178,⟨[(0,.d J5),(1,zs2),(2,Xc)],[(5000,Q5q)]⟩,[⟨[],[(5000,Q5q)]⟩],u3 (Gw N),[]⟩,kF N [] [] func178⟩
def Quf(N:Nat):V:=⟨⟨180,Ql5,[Ql5],u2 (Qc9 N),[]⟩,kF N [Xy,Fi,U2] [] func180⟩
def Sy(N:Nat):V:=⟨⟨122,(sD [.sl Jp,J2,.i,.i]),[Q5j],u4 (Fh N),[]⟩,kF N [Qqs,Qoj,Que,Qqt,Qin,Quf] [(6,.rg (.n 7 (.sp 24 6 [0,2,3,8,9] [5,8,9,11701,11702,11703] Jkw Qv2 Jpu .done))),(22,.lp [2,3,8,9,10,11,44,45] [5,8,9,11701,11702,11703,13601] ⟨[(12,Qh7),(13,.f 178 (sL [Qh7])),(46,zs2)],[(100100,Q5q)]⟩ [(.x 0,⟨[(12,Jc7)],[(100400,Q5q)]⟩)]),(30,.jn [46] [] [(.n,⟨[(12,Ql3),(13,.f 178 (sL [Ql3]))],[(100300,Q5q)]⟩)]),(35,.an (.dr 20 (.n 5 (.sp 54 9 [12,13,15,46] [15,100100] Ju7 Q45 Q45 Jac)) .done)),(45,.rg (.n 4 (.call 3 Jsr))),(49,.rg (.n 4 (.call 5 Jsr)))] func122⟩
def P8(N:Nat):V:=⟨⟨155,Qh9,[zs1],u2 (Kv N),[]⟩,kF N [] [] func155⟩
def Qug(N:Nat):V:=⟨⟨224,Q5g,[Jll],Qda N,[]⟩,kF N [] [] func224⟩
def Qek(N:Nat):V:=⟨⟨152,Jct,[⟨Qh4,[(1,Ug)]⟩],Ie N,[]⟩,kF N [Qug] [(8,.lp [6,7] [] ⟨[(3,Qdj),(8,zs2)],[(100000,Ug)]⟩ [(.x 0,⟨Qx4,[(100100,Ug)]⟩)]),(19,.rg (.n 2 (.call 0 (.fz 11401 Q0n))))] func152⟩
def Qol(N:Nat):V:=⟨⟨295,Qh9,[zs7],u2 (Xr N),[]⟩,kF N [] [] func295⟩
def Qom(N:Nat):V:=⟨⟨255,Q5e,[zs1],u2 (Pm N),[]⟩,kF N [Qol] [] func255⟩
def Nd(N n:Nat):Con:=⟨185,(sD [.sl Q9,.i,.i]),[(sD [.sl .i])],fun(x0,x1,x2)=>Uy N n x0 x1 x2,[]⟩
theorem P9(N:Nat):∀n,KO (Nd N n)
 | 0=>⟨Qhs fun _=>rfl,Ka func185 rfl⟩
 | n+1=>have ih:=P9 N n; kF N [fun _=>⟨_,ih⟩,Qom] [(12,.lp [2] [] Jrq [(.x 0,⟨[(7,Ql1)],[(100100,Qbx)]⟩)]),(37,.lp [0,10,11] [] ⟨[(12,Qtx),(13,zs2),(14,zs2)],[(100200,Qbx)]⟩ [(.x 2,⟨[(12,Q5i)],[(100400,Qbx)]⟩)]),(46,.jn [12,13,14] [100200] [(.n,⟨[(85,zs4)],[]⟩)]),(46,.an (.dc 24 [58,59,60,61,62,63,64,65,66,67,68,69,70,71,72,73,74,75,76,77,78,79,80,81] [] [] (.a (.a (.a (.a (.a (.so 62 (.a (.a (.a (.a (.a Jss))))) (.a (.a (.a (.a (.a (.so 67 (.a (.a (.a (.a (.a (.a (.a (.a (.a (.a (.a (.a (.a (.a (.tl (.call 1 Jgq)))))))))))))))) Jss))))))))))))))] func185
def Qqu(N:Nat):V:=⟨Nd N N,P9 N N⟩
def Qqv(N:Nat):V:=⟨⟨186,(sD [Q9,.i,.i,.i,.str,.bool,.i]),[zs1],u7 (T1 N),[]⟩,kF N [Nc] [(4,.rg (.n 10 (.sp 26 6 [1,2,4,5,6,7] [7] ⟨[(32,zs4)],[]⟩ Qv2 Jlr .done))),(22,.lp [4,7,53,54] [7] ⟨[(55,zs2)],[]⟩ [(.x 0,⟨[],[]⟩),(.r,⟨[(14,zs4)],[]⟩)])] func186⟩
def Qpw(N:Nat):V:=⟨⟨153,Q5g,[(sD [Qbf])],Qhv N,[]⟩,kF N [] [] func153⟩
def Qai(N:Nat):V:=⟨⟨125,(sD [.sl Q9,.i,.i,.i,.str,.bool,.i,.i]),[⟨[(0,Nu),(1,Qh6),(2,zs2)],[(1,Ug),(2,Ze)]⟩],u8 (La N),[]⟩,kF N [Qek,Qqu,Qqv,Qpw] [(12,.lp [0,1,2,3,4,5,6,32,33] [] ⟨[(7,zs2),(19,Qdj),(20,Qty),(34,zs2)],[(100000,Ug),(100001,Ze)]⟩ [(.x 0,⟨[(7,zs2),(19,Qx1),(20,Qt3)],[(100300,Ug),(100301,Ze)]⟩)]),(20,.jn [34] [] [(.n,⟨[(7,zs2),(19,Qtx),(20,Q5a)],[(100200,Ug),(100201,Ze)]⟩),(.x 0,⟨[(7,zs2),(19,Ql1),(20,Ql4)],[(100100,Ug),(100101,Ze)]⟩)])] func125⟩
def Ag(N:Nat):V:=⟨⟨126,Jc2,[(sD [U6,.bool])],u3 (Xs N),[]⟩,kF N [Qbz] [(6,.lp [1,13,14] [11201,11202] ⟨Jr8,[(100000,Jst)]⟩ [(.x 0,⟨[(6,Qh7)],[(100100,Jst)]⟩),(.r,⟨Jk5,[(100200,.var 243 (.d U6))]⟩)])] func126⟩
def Qi8(N:Nat):V:=⟨⟨254,Jkx,[zs7],Sm N,[]⟩,kF N [Xy] [] func254⟩
def Qon(N:Nat):V:=⟨⟨322,(sD [.i,.sl .i]),[zs1],u2 (B0 N),[]⟩,kF N [] [(6,.lp [0,7,8] [] zs3 Qj8)] func322⟩
def Qqw(N:Nat):V:=⟨⟨302,Ju9,[zs7],T2 N,[]⟩,kF N [Qon] [(24,.lp [0,12,13] [] ⟨[(3,zs2),(14,zs2)],[]⟩ Qqe),(37,.rg (.n 5 (.call 0 (.n 7 (.sp 31 6 [3,4,5,14] [5] Jut Qv2 Jlr .done)))))] func302⟩
def Qmj(N:Nat):V:=⟨⟨303,Jsu,[(sD [.i,.bool])],u2 (L7 N),[]⟩,kF N [] [(8,.lp [1,12,13] [] ⟨[(6,zs2),(7,zs2),(14,zs2)],[]⟩ [(.x 0,Jkv),(.r,⟨[(4,zs2),(5,zs4)],[]⟩)]),(22,.jn [6,7,9,14] [9] Jsv),(37,.an (.dr 7 Qtz .done))] func303⟩
def Quh(N:Nat):V:=⟨⟨269,Jsu,[Qh9],u2 (Qdb N),[]⟩,kF N [Qqw,Qmj] [] func269⟩
def Qg3(N:Nat):V:=⟨⟨225,Jsw,[Qh9],u2 (Ws N),[]⟩,kF N [Quh] [] func225⟩
def Ev(N:Nat):V:=⟨⟨156,Jsw,[Qh9],u2 (Kw N),[]⟩,kF N [P8,Qg3] [(4,.rg (.n 1 (.call 0 (.n 2 (.sp 12 6 [1,2] [2] Q98 Qv2 Jlr (.n 9 (.sp 27 7 [1,2] [2] ⟨[(34,zs4)],[]⟩ Qqd (.nl 4 Jkt) .done)))))))] func156⟩
def Qex(N:Nat):V:=⟨⟨253,⟨[(0,zs2),(1,Xc),(2,Qf5)],[(5000,.var 276 (.d Id)),(5001,Pz)]⟩,[zs1],u3 (Es N),[5000,5001]⟩,kF N [Ev] [] func253⟩
def Qio(N:Nat):V:=⟨⟨183,(sD [Id,.i,.i]),[zs7],u3 (B1 N),[]⟩,kF N [Qex] [(16,.lp [7] [3,5] ⟨[(8,zs2),(9,zs2)],[]⟩ Jlg),(27,.rg (.n 2 (.call 0 .done)))] func183⟩
def Qmk(N:Nat):V:=⟨⟨188,(sD [He,.i]),[Qh9],u2 (Qdc N),[]⟩,kF N [Ev] [] func188⟩
def Qi9(N:Nat):V:=⟨⟨189,Ql5,[Ql5],u2 (So N),[]⟩,kF N [Xy,Fi,U2,Qi8] [] func189⟩
def Qoo(N:Nat):V:=⟨⟨184,⟨[(0,Ss),(1,Jdg),(2,Qej),(3,zs2)],[(5000,Yx)]⟩,[zs7],u6 (Po N),[5000]⟩,kF N [Ag,Xy,Qi8] [(16,.lp [6,30,31] [4,5,6,9] ⟨[(32,zs2)],[]⟩ [(.x 0,⟨[],[]⟩),(.r,Qqf)]),(39,.an (.dc 5 [44,45,46,47,48] [12] [] (.c 12 (.k 2 [] [] [] [] (.b 12 (.c 12 (.a Jab)))))))] func184⟩
def Qb3(N:Nat):V:=⟨⟨124,⟨[(0,Ss),(1,Jdg),(2,Qej),(3,zs2),(4,zs2)],[(5000,Yx)]⟩,[Qh9],u7 (B2 N),[5000]⟩,kF N [P8,Ca,Qai,Qoo,Qio] [(13,.jn [3,4,5,6,7] [5,6,7] [(.n,⟨[(12,zs2)],[]⟩)]),(29,.an (.dc 12 [74,75,76,77,78,79,80,81,82,83,84,85] [7,5,6] [5000] (.a (.c 7 (.a (.a (.a (.a (.c 5 (.d 6 5000 (.c 7 (.a (.k 3 [] [5000] [] [] (.k 4 [] [] [] [] Jab))))))))))))))] func124⟩
def Mg(N:Nat):V:=⟨⟨158,⟨Jls,[(5000,.var 170 Qf5),(5001,.var 173 (.ag (sL [Jsx,.ag (sL [W7,Q5r,Ll])]))),(5002,Ze),(5003,Yx)]⟩,[zs1],u15 (Zw N),[5000,5001,5002,5003]⟩,kF N [] [(3,.an (.dr 10 (.n 10 .done) .done))] func158⟩
def K0(N:Nat):V:=⟨⟨157,⟨Jlt,[(5000,Yx),(5001,.var 170 (.p 5002 [])),(5002,.var 173 (.ag (sL [Jsy,Jdg]))),(5003,Ze)]⟩,[zs7],u14 (Y2 N),[5000,5001,5002,5003]⟩,kF N [Mg] [(6,.lp [0,1,7] [] Qqf Qn9),(18,.rg (.n 5 (.call 0 .done)))] func157⟩
def Ra(N:Nat):V:=⟨⟨118,⟨Eh,Qx9⟩,[⟨Qf6,[(5002,Yx)]⟩],u14 (K7 N),[5000,5001]⟩,kF N [K0] [] func118⟩
def Ny(N:Nat):V:=⟨⟨127,⟨Qt5,Qx9⟩,[⟨[],Js0⟩],u15 (Ki N),[]⟩,kF N [Qmk,Ra,Qi9] [(15,.an (.dc 11 [46,47,48,49,50,51,52,53,54,55,1000000010] [5000,7,5002] [] (.b 5000 (.d 5000 5000 (.b 5000 (.b 5000 (.d 5000 5002 (.a (.b 5000 (.c 7 (.a (.d 5002 5002 (.f 5002 5002 Q5s)))))))))))))] func127⟩
def Qdr(N:Nat):V:=⟨⟨82,⟨Js1,Js2⟩,[⟨Qf6,[(5000,.var 173 (.ag (sL [.ag (sL [zs2,zs2,zs2,zs2,Q5t,zs2,Nu,zs2,zs2,zs4,Kz]),Jlv]))),(1,Ze),(2,Yx)]⟩],u29 (Hq N),[]⟩,kF N [Qb2,Sy,Ca,Qb3,Qai,Ag,Ny] [(3,.gh (.fz 5003 (.dt 5000 (.fz 5004 (.dt 5000 (.fz 5005 Qf4)))))),(3,.an (.dc 17 [15,16,17,18,19,20,21,22,23,24,25,26,27,28,29,30,31] [5,5000] [] (.b 5000 (.b 5 (.c 5 (.b 5 (.c 5 (.b 5000 (.d 5000 5000 (.b 5000 (.c 5000 (.b 5000 (.d 5000 5000 (.b 5000 (.b 5000 (.b 5000 (.c 5000 (.a (.k 0 [] [] [13103,13102,13101] [13101,13102,13103] Qh8))))))))))))))))))),(5,.gh (.fz 13101 (.dt 5000 (.fz 13102 (.dt 5000 (.fz 13103 Qf4)))))),(5,.an (.dc 15 [34,35,36,37,38,39,40,41,42,43,44,45,46,47,48] [5,5000] [] (.b 5000 (.b 5 (.c 5 (.b 5000 (.d 5000 5000 (.b 5000 (.c 5000 (.b 5000 (.d 5000 5000 (.b 5000 (.b 5000 (.b 5000 (.c 5000 (.a (.k 1 [] [] [14803,14802,14801] [14801,14802,14803] Qh8))))))))))))))))),(9,.an (.dc 15 [59,60,61,62,63,64,65,66,67,68,58,69,70,9,1000000014] [5,5000] [] (.b 5 (.c 5 (.b 5000 (.d 5000 5000 (.b 5000 (.b 5000 (.b 5000 (.c 5000 (.a (.k 2 [] [] [] [] (.a (.a (.a (.e 9 (.f 9 9 Ci))))))))))))))))),(26,.gh (.fz 14801 (.dt 5000 (.fz 14803 (.dt 5000 (.fz 5001 Qf4)))))),(26,.an (.dc 17 [78,79,80,81,82,83,84,85,86,87,88,89,90,77,91,92,11] [5,5000,14802] [] (.c 5 (.b 5000 (.d 5000 5000 (.b 5000 (.d 5000 14802 (.b 5000 (.d 5000 5000 (.b 5000 (.b 5000 (.c 5000 (.a (.a (.k 3 [] [14802] [] [] (.a (.a (.a Jcs)))))))))))))))))),(44,.jn [2,5,11,12] [5,9,5001,5003,5004,5005,13101,13102,13103,14801,14803] [(.n,⟨Eh,[(5000,.var 173 (.ag (sL [.ag (sL [zs2,zs2,zs2,zs2,Qej,zs2,Qty,zs2,zs2,zs4,Kz]),.ag (sL [W7,Jpx,Ll])]))),(100001,Ze),(100002,Yx)]⟩)]),(47,.an (.dc 48 [102,103,104,105,106,107,108,109,110,111,112,113,114,115,116,117,118,119,120,121,122,123,124,125,126,127,128,129,130,131,132,133,134,135,136,137,101,138,139,140,141,142,143,1000000043,144,145,146,1000000047] [5000] [9] (.b 5000 (.b 5000 (.b 5000 (.d 5000 5000 (.b 5000 (.b 5000 (.c 5000 (.b 5000 (.d 5000 5000 (.b 5000 (.b 5000 (.b 5000 (.c 5000 (.b 5000 (.d 5000 5000 (.b 5000 (.b 5000 (.b 5000 (.c 5000 (.b 5000 (.d 5000 5000 (.b 5000 (.b 5000 (.b 5000 (.c 5000 (.b 5000 (.d 5000 5000 (.b 5000 (.b 5000 (.b 5000 (.c 5000 (.b 9 (.c 9 (.a (.a (.k 4 [] [] [23702,23701] [23701,23702] (.g [] [] [] [23701,23702] (.b 23701 (.b 23702 (.a (.d 5000 5000 (.b 5000 (.b 5000 (.g [5000] [23701] [] [5000,5002,14802,23701] Js3)))))))))))))))))))))))))))))))))))))))))))))),(50,.jn [11,12] [5,9,5001,5003,5004,5005,13101,13102,13103,14801,14803] [(.n,⟨Eh,[(5000,.var 173 (.ag (sL [.ag (sL [zs2,zs2,zs2,zs2,Qej,zs2,Ql4,zs2,zs2,zs4,Kz]),.ag (sL [W7,Ju3,Ll])]))),(100101,Ze),(100102,Yx)]⟩)]),(51,.an (.dc 15 [148,149,150,151,152,153,154,155,156,157,147,158,159,13,1000000014] [5000] [5] (.b 5 (.c 5 (.b 5000 (.d 5000 5000 (.b 5000 (.b 5000 (.b 5000 (.c 5000 (.a (.k 5 [] [] [] [] (.a (.a (.a (.e 13 (.f 13 13 Ci)))))))))))))))))] func82⟩
def Qey(N:Nat):V:=⟨⟨80,⟨Jlw,Qx9⟩,[Js5],u18 (Et N),[]⟩,kF N [] [(5,.an (.dc 9 [22,23,24,25,26,27,28,29,1000000008] [6,13,5000] [] (.b 5000 (.b 5000 (.b 6 (.c 6 (.c 13 (.d 5000 5000 (.b 5000 (.b 5000 (.g [5000] [] [] [5000,5001,5002] Q5s))))))))))),(7,.an (.dc 11 [33,34,35,36,37,38,39,40,41,1000000009,1000000010] [5000,13,10,5002,11,5001] [] (.b 5000 (.d 5000 5000 (.b 5000 (.d 5000 5002 (.b 5000 (.d 5000 5000 (.b 5000 (.d 5000 5001 (.c 13 (.g [10] [5002] [] [10,5002] (.g [11] [5001] [] [11,5001] Ci)))))))))))))] func80⟩
def Rt(N:Nat):V:=⟨⟨81,⟨Js6,Qx9⟩,[Js5],u16 (Xt N),[]⟩,kF N [Qey] [(5,.jn [0,2,4,6,7,8] [4,6,7,8,5000,5001,5002] Jlx),(11,.an (.dc 13 [21,22,23,24,25,26,27,28,29,30,31,32,33] [4,5000,5001,5002] [] (.b 5000 (.c 4 (.b 5000 (.d 5000 5000 (.b 5000 (.b 5000 (.c 5000 (.a (.a (.k 0 [5000,5001,5002] [] [13002,13001] [5000,13001,13002] (.b 13001 (.b 13002 Js7))))))))))))))] func81⟩
def Qv9(N:Nat):V:=⟨⟨154,Q5p,[zs1],u3 (Qfx N),[]⟩,kF N [] [] func154⟩
def Qja(N:Nat):V:=⟨⟨116,(sD [.sl Q9,.sl Xn]),[⟨Jdf,[(1,Ug)]⟩],u2 (Sq N),[]⟩,kF N [Qek,Qpw,Qv9] [(8,.lp [14,15] [] ⟨Jr5,[(100000,Ug)]⟩ [(.x 0,⟨[(6,Qx1)],[(100300,Ug)]⟩),(.r,⟨[(4,.ns),(5,zs2)],[]⟩)]),(33,.lp [6,8,16,23,24] [8,100000] ⟨[(9,zs2),(25,zs2)],[]⟩ [(.x 2,zs3)]),(45,.an (.dc 11 [30,31,32,33,34,35,36,37,38,39,40] [11] [8] (.c 11 (.k 1 [] [] [] [] (.b 8 (.c 8 (.b 8 (.c 8 (.b 8 (.c 8 (.b 8 (.c 8 Jcs)))))))))))),(62,.an (.dr 12 (.n 12 .done) Jpw)),(68,.an (.dr 10 (.n 10 .done) zs5))] func116⟩
def Qg4(N:Nat):V:=⟨⟨117,(sD [He,.i,.i]),[⟨[(0,Jkz),(1,zs2),(2,zs2)],Jc9⟩],u3 (Nk N),[]⟩,kF N [P8,Ev,fun _=>⟨_,Y9⟩] [(4,.rg (.n 1 (.call 0 (.n 2 (.sp 15 5 [1,2,3,6] [3,6] ⟨[(20,zs4)],[]⟩ G7 Jad Qtz))))),(23,.an (.dc 10 [41,42,43,44,45,46,47,48,49,1000000009] [3,11] [] (.b 3 (.c 3 (.a (.a (.b 3 (.c 3 (.a (.a (.b 11 (.f 11 11 Jab))))))))))))] func117⟩
def Rb(N:Nat):V:=⟨⟨118,⟨Eh,Qx9⟩,[⟨Qf6,Js0⟩],u14 (K8 N),[]⟩,kF N [K0] [] func118⟩
def Qel(N:Nat):V:=⟨⟨119,(sD [J5,.i,.i]),[Ql5],u3 (If N),[]⟩,kF N [Xy,Fi,U2] [] func119⟩
def Qb4(N:Nat):V:=⟨⟨75,⟨Qt5,Qx9⟩,[⟨[],Q5u⟩],u15 (Gf N),[]⟩,kF N [Qja,Qg4,Rb,Qel] [(6,.lp [0,1,23,24] [5000,5001,5002] Js8 Js9),(14,.jn [25] [] [(.n,⟨[(4,zs2),(5,Ql1)],[(100100,Ze)]⟩)]),(30,.jn [1,4] [] [(.n,⟨Eh,[(5000,.var 173 (.ag (sL [.ag (sL [zs2,zs2,zs2,zs2,Qej,zs2,Qt3,zs2,zs2,zs4,Kz]),.ag (sL [W7,Q5m,Ll])]))),(100301,Ze),(100302,Yx)]⟩)]),(44,.jn [] [] [(.n,⟨Jta,[(5000,.var 173 (.ag (sL [.ag (sL [zs2,zs2,zs2,zs2,Q5t,zs2,Q5n,zs2,zs2,zs4,Kz]),.ag (sL [W7,Jc8,Ll])]))),(100401,Ze),(100402,Yx)]⟩)]),(54,.jn [] [] [(.n,⟨Eh,[(5000,.var 173 (.ag (sL [Jtb,.ag (sL [W7,Jla,Ll])]))),(100501,Ze),(100502,Yx)]⟩)]),(60,.an (.dc 20 [117,118,119,120,121,122,123,124,125,126,127,128,129,130,131,116,132,133,16,1000000019] [5000,20502] [] (.b 5000 (.d 5000 5000 (.b 5000 (.b 5000 (.d 5000 20502 (.a (.d 20502 20502 (.c 20502 (.b 5000 (.d 5000 5000 (.b 5000 (.b 5000 (.c 5000 (.a (.k 3 [] [] [] [] (.a (.a (.a (.e 16 (.f 16 16 Ci)))))))))))))))))))))),(64,.an (.dr 8 Qqg zs5))] func75⟩
def Qds(N:Nat):V:=⟨⟨79,⟨Qt5,Q5v⟩,[⟨[],Q5u⟩],u5 (Hr N),[]⟩,kF N [] [] func79⟩
def E8(N:Nat):V:=⟨⟨80,⟨Jlw,Q5v⟩,[Jtd],u8 (U9 N),[]⟩,kF N [] [(5,.an (.dc 9 [22,23,24,25,26,27,28,29,1000000008] [6,13,5000] [] (.b 5000 (.b 5000 (.b 6 (.c 6 (.c 13 (.d 5000 5000 (.b 5000 (.b 5000 (.g [5000] [] [] [5000,5001] Q5s))))))))))),(7,.an (.dc 11 [33,34,35,36,37,38,39,40,41,1000000009,1000000010] [5000,13,10,5001,11] [] (.b 5000 (.d 5000 5000 (.b 5000 (.d 5000 5001 (.b 5000 (.d 5000 5000 (.b 5000 (.c 5000 (.c 13 (.g [10] [5001] [] [10,5001] Jte))))))))))))] func80⟩
def Qqx(N:Nat):V:=⟨⟨76,(sD [Uq,J2,J6]),[Jtf],u3 (T3 N),[]⟩,kF N [B9,Q0s,Md,Qdr,Rt,Qb4,Qds,E8] [(5,.jn [3,4,5,6,7,8] [3,4,5,6,7,8] Jlx),(13,.jn [3,4,5,6,7,8] [3,4,5,6,7,8] Jsv),(63,.an (.dr 8 Qqg .done)),(66,.jn [4,5,6,7,8] [3,4,5,6,7,8,11,17501,19501,20201,20202] [(.n,Jlk)])] func76⟩
def Qem(N:Nat):V:=⟨⟨77,(sD [Yb,J6,.i,.i]),[zs7],u4 (Ig N),[]⟩,kF N [] [] func77⟩
def Mh(N:Nat):V:=⟨⟨158,⟨Jls,[(5000,.var 170 Qf5),(5001,.var 173 (.ag (sL [Jsx,.ag (sL [W7,Q5r,.s 5004])]))),(5002,Ze),(5003,Yx),(5004,Lj)]⟩,[zs1],u15 (Zx N),[5000,5001,5002,5003,5004]⟩,kF N [] [(3,.an (.dr 10 (.n 10 .done) .done))] func158⟩
def Cb(N:Nat):V:=⟨⟨157,⟨Jlt,[(5000,Yx),(5001,.var 170 (.p 5002 [])),(5002,.var 173 (.ag (sL [Jsy,.ag (sL [W7,Qx8,.s 5004])]))),(5003,Ze),(5004,Lj)]⟩,[⟨Qf6,[(5000,Yx),(5002,.var 173 (.ag (sL [Jlu,.ag (sL [W7,Qx8,Qh6])]))),(1,Ze),(2,Lj)]⟩],u14 (Ua N),[5001]⟩,kF N [Mh] [(6,.lp [0,1,7] [5000,5002,5003,5004] Qqf Qn9),(18,.rg (.n 5 (.call 0 .done)))] func157⟩
def Rc(N:Nat):V:=⟨⟨118,⟨Eh,[(5000,.var 173 (.ag (sL [.ag (sL [zs2,zs2,zs2,zs2,Q5t,zs2,Qps,zs2,zs2,zs4,Kz]),.ag (sL [W7,Qx7,Q5r])]))),(5001,Ze),(5002,Yx),(5003,Lj)]⟩,[⟨Qf6,[(5000,.var 173 (.ag (sL [Jlu,.ag (sL [W7,Qh6,Q49])]))),(1,Ze),(2,Yx),(3,Lj)]⟩],u26 (K9 N),[]⟩,kF N [Cb] [] func118⟩
def Hw(N:Nat):V:=⟨⟨75,⟨Qt5,Js2⟩,[⟨[],Jl0⟩],u27 (Uj N),[]⟩,kF N [Qja,Qg4,Rc,Qel] [(6,.lp [0,1,23,24] [5000,5001,5002,5003,5004,5005] Js8 Js9),(14,.jn [25] [] [(.n,⟨[(4,zs2),(5,Ql1)],[(100100,Ze)]⟩)]),(30,.jn [1,4] [] [(.n,⟨Eh,[(5000,.var 173 (.ag (sL [.ag (sL [zs2,zs2,zs2,zs2,.ag (sL [zs2,zs2,zs2,V2,V2,zs2,.ag (sL [zs2,V2,V2,zs2,Qt3]),zs2,zs2]),zs2,Q5m,zs2,zs2,zs4,Kz]),.ag (sL [.s 100303,.s 100304,.s 100305])]))),(100301,Qt1),(100302,Ze),(100303,Jtg),(100304,Yx),(100305,Lj)]⟩)]),(44,.jn [] [] [(.n,⟨Jta,[(5000,.var 173 (.ag (sL [.ag (sL [zs2,zs2,zs2,zs2,.ag (sL [zs2,zs2,zs2,V2,V2,zs2,.ag (sL [zs2,V2,V2,zs2,Q5n]),zs2,zs2]),zs2,Jc8,zs2,zs2,zs4,Kz]),.ag (sL [.s 100403,.s 100404,.s 100405])]))),(100401,.tail 141 Vh),(100402,Ze),(100403,Jtg),(100404,Yx),(100405,Lj)]⟩)]),(54,.jn [] [100401,100403] [(.n,⟨Eh,[(5000,.var 173 (.ag (sL [Jtb,.ag (sL [W7,Jla,.s 100503])]))),(100501,Ze),(100502,Yx),(100503,Lj)]⟩)]),(60,.an (.dc 20 [117,118,119,120,121,122,123,124,125,126,127,128,129,130,131,116,132,133,16,1000000019] [5000,20502] [] (.b 5000 (.d 5000 5000 (.b 5000 (.b 5000 (.d 5000 20502 (.a (.d 20502 20502 (.c 20502 (.b 5000 (.d 5000 5000 (.b 5000 (.b 5000 (.c 5000 (.a (.k 3 [] [] [] [] (.a (.a (.a (.e 16 (.f 16 16 Ci)))))))))))))))))))))),(64,.an (.dr 8 Qqg zs5))] func75⟩
def Ru(N:Nat):V:=⟨⟨79,⟨Qt5,Jl1⟩,[⟨[],Jl0⟩],u5 (Xu N),[]⟩,kF N [] [] func79⟩
def Qaj(N:Nat):V:=⟨⟨80,⟨Jlw,Jl1⟩,[⟨[(0,Jlz),(1,Ql6),(2,Kz)],Jl0⟩],u8 (Wt N),[]⟩,kF N [] [(5,.an (.dc 9 [22,23,24,25,26,27,28,29,1000000008] [6,13,5000] [] (.b 5000 (.b 5000 (.b 6 (.c 6 (.c 13 (.d 5000 5000 (.b 5000 (.b 5000 (.g [5000] [] [] [5000,5001,5002] Q5s))))))))))),(7,.an (.dc 11 [33,34,35,36,37,38,39,40,41,1000000009,1000000010] [5000,13,10,5001,5002,11] [] (.b 5000 (.d 5000 5000 (.b 5000 (.g [] [5000] [] [5001,5002] (.b 5000 (.d 5000 5000 (.b 5000 (.c 5000 (.c 13 (.g [10] [5001,5002] [] [10,5001,5002] Jte))))))))))))] func80⟩
def Qui(N:Nat):V:=⟨⟨39,Jth,[⟨[(0,Jlz),(1,.ag (sL [zs2,zs2,zs2,zs2,Q5t,zs2,Jly,zs2,zs2,zs4,Kz])),(2,Kz)],[(1,Yx),(2,Lj)]⟩],u4 (Qdd N),[]⟩,kF N [Qem,B9,Md,Hw,Ru,Qaj] [] func39⟩
def Mi(N:Nat):V:=⟨⟨158,⟨Jls,[(5000,.var 170 Qf5),(5001,.var 173 (.ag (sL [Ql6,Jsz]))),(5002,Yx)]⟩,[zs1],u5 (Zy N),[5000,5001,5002]⟩,kF N [] [(3,.an (.dr 10 (.n 10 .done) .done))] func158⟩
def Cc(N:Nat):V:=⟨⟨157,⟨Jlt,[(5000,Yx),(5001,.var 170 (.p 5002 [])),(5002,.var 173 (.ag (sL [Ql6,Jdg])))]⟩,[zs7],u4 (Ub N),[5000,5001,5002]⟩,kF N [Mi] [(6,.lp [0,1,7] [] Qqf Qn9),(18,.rg (.n 5 (.call 0 .done)))] func157⟩
def Rd(N:Nat):V:=⟨⟨118,⟨Eh,Q5v⟩,[⟨Qf6,[(5001,Yx)]⟩],u4 (Xa N),[5000]⟩,kF N [Cc] [] func118⟩
def Nz(N:Nat):V:=⟨⟨127,⟨Qt5,Q5v⟩,[⟨[],Q5u⟩],u5 (Kj N),[]⟩,kF N [Qmk,Rd,Qi9] [(15,.an (.dc 11 [46,47,48,49,50,51,52,53,54,55,1000000010] [5000,7,5001] [] (.b 5000 (.d 5000 5000 (.b 5000 (.b 5000 (.d 5000 5001 (.a (.b 5000 (.c 7 (.a (.d 5001 5001 (.f 5001 5001 Q5s)))))))))))))] func127⟩
def Rv(N:Nat):V:=⟨⟨82,⟨Js1,Jl1⟩,[⟨Qf6,Q5u⟩],u7 (Xv N),[]⟩,kF N [Qb2,Sy,Ca,Qb3,Qai,Ag,Nz] [(3,.gh (.fz 5001 (.dt 5000 (.fz 5002 Qf4)))),(3,.an (.dc 17 [15,16,17,18,19,20,21,22,23,24,25,26,27,28,29,30,31] [5,5000] [] (.b 5000 (.b 5 (.c 5 (.b 5 (.c 5 (.b 5000 (.d 5000 5000 (.b 5000 (.c 5000 (.b 5000 (.d 5000 5000 (.b 5000 (.b 5000 (.b 5000 (.c 5000 (.a (.k 0 [] [] [13103,13102,13101] [13101,13102,13103] Qh8))))))))))))))))))),(5,.gh (.fz 13101 (.dt 5000 (.fz 13102 (.dt 5000 (.fz 13103 Qf4)))))),(5,.an (.dc 15 [34,35,36,37,38,39,40,41,42,43,44,45,46,47,48] [5,5000] [] (.b 5000 (.b 5 (.c 5 (.b 5000 (.d 5000 5000 (.b 5000 (.c 5000 (.b 5000 (.d 5000 5000 (.b 5000 (.b 5000 (.b 5000 (.c 5000 (.a (.k 1 [] [] [14803,14802,14801] [14801,14802,14803] Qh8))))))))))))))))),(9,.an (.dc 15 [59,60,61,62,63,64,65,66,67,68,58,69,70,9,1000000014] [5,5000] [] (.b 5 (.c 5 (.b 5000 (.d 5000 5000 (.b 5000 (.b 5000 (.b 5000 (.c 5000 (.a (.k 2 [] [] [] [] (.a (.a (.a (.e 9 (.f 9 9 Ci))))))))))))))))),(26,.gh (.fz 14801 (.dt 5000 (.fz 14803 Qf4)))),(26,.an (.dc 17 [78,79,80,81,82,83,84,85,86,87,88,89,90,77,91,92,11] [5,5000,14802] [] (.c 5 (.b 5000 (.d 5000 5000 (.b 5000 (.d 5000 14802 (.b 5000 (.d 5000 5000 (.b 5000 (.b 5000 (.c 5000 (.a (.a (.k 3 [] [14802] [] [] (.a (.a (.a Jcs)))))))))))))))))),(44,.jn [2,5,11,12] [5,9,5001,5002,13101,13102,13103,14801,14803] [(.n,⟨Eh,[(5000,.var 173 (.ag (sL [.ag (sL [zs2,zs2,zs2,zs2,Qej,zs2,Jly,zs2,zs2,zs4,Kz]),Jti]))),(100001,Yx)]⟩)]),(47,.an (.dc 48 [102,103,104,105,106,107,108,109,110,111,112,113,114,115,116,117,118,119,120,121,122,123,124,125,126,127,128,129,130,131,132,133,134,135,136,137,101,138,139,140,141,142,143,1000000043,144,145,146,1000000047] [5000] [9] (.b 5000 (.b 5000 (.b 5000 (.d 5000 5000 (.b 5000 (.b 5000 (.c 5000 (.b 5000 (.d 5000 5000 (.b 5000 (.b 5000 (.b 5000 (.c 5000 (.b 5000 (.d 5000 5000 (.b 5000 (.b 5000 (.b 5000 (.c 5000 (.b 5000 (.d 5000 5000 (.b 5000 (.b 5000 (.b 5000 (.c 5000 (.b 5000 (.d 5000 5000 (.b 5000 (.b 5000 (.b 5000 (.c 5000 (.b 9 (.c 9 (.a (.a (.k 4 [] [] [23702,23701] [23701,23702] (.g [] [] [] [23701,23702] (.b 23701 (.b 23702 (.a (.d 5000 5000 (.b 5000 (.b 5000 (.g [5000] [23701] [] [5000,14802,23701] Js3)))))))))))))))))))))))))))))))))))))))))))))),(50,.jn [11,12] [5,9,5001,5002,13101,13102,13103,14801,14803] [(.n,⟨Eh,[(5000,.var 173 (.ag (sL [Ql6,Jtj]))),(100101,Yx)]⟩)]),(51,.an (.dc 15 [148,149,150,151,152,153,154,155,156,157,147,158,159,13,1000000014] [5000] [5] (.b 5 (.c 5 (.b 5000 (.d 5000 5000 (.b 5000 (.b 5000 (.b 5000 (.c 5000 (.a (.k 5 [] [] [] [] (.a (.a (.a (.e 13 (.f 13 13 Ci)))))))))))))))))] func82⟩
def Mj(N:Nat):V:=⟨⟨81,⟨Js6,Q5v⟩,[Jtd],u6 (Zz N),[]⟩,kF N [E8] [(5,.jn [0,2,4,6,7,8] [4,6,7,8,5000,5001] Jlx),(11,.an (.dc 13 [21,22,23,24,25,26,27,28,29,30,31,32,33] [4,5000,5001] [] (.b 5000 (.c 4 (.b 5000 (.d 5000 5000 (.b 5000 (.b 5000 (.c 5000 (.a (.a (.k 0 [5000,5001] [] [13001] [5000,13001] (.b 13001 Jtk)))))))))))))] func81⟩
def Qop(N:Nat):V:=⟨⟨40,Jth,[Jtf],u4 (Pp N),[]⟩,kF N [Qem,B9,Md,Hw,Rv,Mj] [(17,.an (.dc 13 [33,34,35,36,37,38,39,40,41,42,43,44,45] [7,4,12801,13201,13202] [] (.b 12801 (.c 7 (.b 12801 (.c 4 (.b 7 (.c 7 (.b 7 (.c 7 (.k 4 [12801,13201,13202] [] [14101] [12801,14101] (.k 5 [12801,14101] [] [14201] [12801,14201] (.b 14201 Jtk)))))))))))))] func40⟩
def Az(N:Nat):V:=⟨⟨34,⟨Eh,Jdh⟩,[zs1],u5 (Z6 N),[5000,5001,5002]⟩,kF N [] [(3,.rg (.n 3 (.nl 5 Jaa)))] func34⟩
def Qak(N:Nat):V:=⟨⟨38,⟨Jdi,Jdh⟩,[Jtl],u6 (Wu N),[]⟩,kF N [Qqx] [(3,.an (.dr 7 Qtz zs5)),(5,.gh (.fz 5001 Qf4)),(5,.an (.dc 19 [16,17,18,19,20,21,22,23,24,25,15,26,27,28,5,6,7,1000000017,1000000018] [5000,3] [] (.b 5000 (.d 5000 5000 (.b 5000 (.c 5000 (.b 5000 (.d 5000 5000 (.b 5000 (.c 5000 (.c 3 (.k 0 [] [] [12501] [12501] (.b 12501 (.b 12501 (.a (.a (.e 5 (.e 6 (.e 7 (.g [5] [12501] [] [5,12501] (.f 6 6 Ci))))))))))))))))))))),(7,.an (.dc 14 [29,30,31,32,33,34,35,36,37,38,39,1000000011,40,41] [5000,3,5,6,12501,5002] [] (.b 5000 (.b 5000 (.d 5000 5000 (.b 5000 (.d 5000 5002 (.b 3 (.c 3 (.d 5 12501 (.c 6 (.d 5000 5000 (.b 5000 (.g [5000] [12501] [] [5000,5002,12501] (.op ⟨.br .done,[5002],[],[40],[40,5002]⟩ (.b 40 (.tl (.br .done)))))))))))))))))),(9,.jn [4,7] [3,4,5,6,7,5000,5001,12501] [(.n,⟨[],[(5002,C4)]⟩)]),(12,.an (.dr 6 Jac zs5))] func38⟩
def C8(N:Nat):V:=⟨⟨12,⟨Jdi,Jdh⟩,[Jtl],u6 (Yr N),[]⟩,kF N [Az,Qoa,Qak,Qui,Qop] [(19,.an (.dc 12 [23,24,25,26,27,28,29,22,30,31,5,1000000011] [5000,3,5002] [] (.b 5000 (.d 5000 5000 (.b 5000 (.d 5000 5002 (.b 3 (.c 3 (.c 5002 (.a (.a (.a (.e 5 Jtm))))))))))))),(52,.jn [4] [3,4,5] [(.n,⟨[(7,.p 100002 [])],[(5000,.var 91 (.ag (sL [Ss,.ag (sL [W7,Ju5,Ll]),Qf3]))),(5002,C4),(100002,.var 50 Kz),(100003,Yx)]⟩)]),(55,.gh (.fz 5001 Qf4)),(55,.an (.dc 26 [67,68,69,70,71,72,73,74,75,76,77,78,79,80,81,82,83,84,66,85,86,87,88,89,1000000024,1000000025] [5000,5002] [3,5] (.b 5000 (.b 5000 (.d 5000 5000 (.b 5000 (.d 5000 5002 (.b 3 (.c 3 (.b 5000 (.d 5000 5000 (.b 5000 (.c 5000 (.b 5000 (.d 5000 5000 (.b 5000 (.c 5000 (.c 5 (.c 3 (.k 3 [] [] [18402,18401] [18401,18402] (.g [] [] [] [18401,18402] (.g [] [] [] [18401,18402] (.a (.a (.d 5000 5000 (.b 5000 (.g [5000] [18401,18402] [] [5000,5002,18401,18402] Jtn))))))))))))))))))))))))))),(56,.gh (.fz 5001 Qf4)),(56,.an (.dc 26 [91,92,93,94,95,96,97,98,99,100,101,102,103,104,105,106,107,108,90,109,110,111,112,113,1000000024,1000000025] [5000,5002] [3,5] (.b 5000 (.b 5000 (.d 5000 5000 (.b 5000 (.d 5000 5002 (.b 3 (.c 3 (.b 5000 (.d 5000 5000 (.b 5000 (.c 5000 (.b 5000 (.d 5000 5000 (.b 5000 (.c 5000 (.c 5 (.c 3 (.k 4 [] [] [20801] [20801] (.b 20801 (.b 20801 (.a (.a (.d 5000 5000 (.b 5000 (.g [5000] [20801] [] [5000,5002,20801] Jtn)))))))))))))))))))))))))))] func12⟩
def Qb5(N:Nat):V:=⟨⟨73,⟨[(0,.m 5000)],[(5000,C4)]⟩,[⟨[(0,.f 113 (sL [.p 1 []]))],[(5000,C4),(1,.var 89 (.m 5000))]⟩],Gg N,[]⟩,kF N [] [] func73⟩
def Qb6(N:Nat):V:=⟨⟨34,⟨Eh,Jl2⟩,[⟨[(0,zs4)],Jl2⟩],u3 (Gh N),[]⟩,kF N [] [(3,.rg (.n 3 (.nl 5 Jaa)))] func34⟩
def Re(N:Nat):V:=⟨⟨35,⟨Eh,Jl2⟩,[⟨[(0,.d (.sl .i))],[(5001,C4)]⟩],u3 (Xb N),[5000]⟩,kF N [Qb5,fun _=>⟨_,Qab⟩] [] func35⟩
def Qg5(N:Nat):V:=⟨⟨43,Jr0,[Jr2],Ae N,[]⟩,kF N [fun _=>⟨_,E5⟩,fun _=>⟨_,Y9⟩] [] func43⟩
def Qal(N:Nat):V:=⟨⟨16,⟨Eh,[(5000,.var 91 (.ag (sL [Ss,Jl3,Qt2]))),(5001,C4)]⟩,[⟨Qh4,[(5000,.var 91 (.ag (sL [Ss,.d J2,Qt2]))),(5001,C4),(1,Jl4)]⟩],u5 (Vy N),[]⟩,kF N [Qb6,Re,Qg5] [(16,.lp [0,10,11] [5000,5001] ⟨[(3,Qdj),(12,zs2)],[(100000,Jl4)]⟩ [(.x 0,⟨Qx4,[(100100,Jl4)]⟩)]),(27,.rg (.n 7 (.call 2 (.fz 12301 (.fz 12302 Q0n)))))] func16⟩
def Qdt(N:Nat):V:=⟨⟨83,Q5e,[zs1],u2 (Hs N),[]⟩,kF N [] [(14,.lp [2,3] [2,3] Mc Qj8),(24,.an (.dr 11 (.n 11 .done) .done))] func83⟩
def Qip(N:Nat):V:=⟨⟨41,(sD [.sl Q9,.sl Q9]),[zs1],u2 (B3 N),[]⟩,kF N [Qdt] [(14,.lp [0,1] [] Mc Qj8),(24,.an (.dr 8 Qqg Q5b))] func41⟩
def Qiq(N:Nat):V:=⟨⟨13,(sD [J2,J2]),[zs1],u2 (Gz N),[]⟩,kF N [Qip] [(14,.lp [2,3] [2,3] Mc Qj8),(24,.an (.dr 11 (.n 11 .done) .done)),(35,.lp [2,3] [2,3] Jkv [(.x 2,⟨[],[]⟩),(.r,⟨[(4,zs4)],[]⟩)]),(45,.an (.dr 11 (.n 11 .done) .done))] func13⟩
def Qir(N:Nat):V:=⟨⟨84,(sD [He,He]),[zs1],u2 (G0 N),[]⟩,kF N [] [(11,.an (.dc 7 [62,63,64,65,5,6,1000000006] [2,3] [] (.b 2 (.c 2 (.b 3 (.c 3 (.e 5 (.e 6 Jtm)))))))),(24,.lp [5,6] [2,3,5,6] Jae Qj8),(34,.an (.dr 11 (.n 11 .done) .done))] func84⟩
def Qam(N:Nat):V:=⟨⟨85,(sD [.sl Xn,.sl Xn]),[zs1],u2 (Za N),[]⟩,kF N [] [(14,.lp [0,1] [] Mc Qj8),(24,.an (.dr 9 (.n 9 .done) .done))] func85⟩
def Qis(N:Nat):V:=⟨⟨42,(sD [Yb,Yb]),[zs1],u2 (G1 N),[]⟩,kF N [Qir,Qam] [(3,.rg (.n 27 (.sp 31 6 [2,3] [2,3] Jut (.nl 4 Q5b) Qv2 (.n 8 (.sp 45 6 [2,3] [2,3] ⟨[(51,zs4)],[]⟩ (.nl 4 Jku) Qv2 (.n 29 .done))))))] func42⟩
def N0(N:Nat):V:=⟨⟨15,(sD [.sl Yb,.sl Yb]),[zs1],u2 (V5 N),[]⟩,kF N [Qis] [(14,.lp [0,1] [] Mc Qj8),(24,.an (.dr 8 Qqg Q5b))] func15⟩
def Qkn(N:Nat):V:=⟨⟨19,(sD [Vd]),[zs1],Xw N,[]⟩,kF N [Qgp,Qke,P0] [(4,.rg (.n 2 (.call 0 (.n 2 (.sp 8 5 [1] [1] zs8 G7 Jks Jac))))),(14,.lp [1] [1] Py Ql0),(24,.jn [3] [] [(.n,⟨[(52,zs4)],[]⟩)]),(24,.an (.dc 23 [27,28,29,30,31,32,33,34,35,36,37,38,39,40,41,42,43,44,45,46,47,48,49] [] [1] (.b 1 (.c 1 (.a (.a (.a (.a (.a (.a (.a (.so 35 (.a (.a (.a (.a (.a Jrs))))) (.b 1 (.b 1 (.c 1 (.b 1 (.b 1 (.c 1 (.b 1 (.c 1 (.b 1 (.c 1 (.a (.a (.a (.a (.tl (.call 2 Qv1))))))))))))))))))))))))))))] func19⟩
def Qjb(N:Nat):V:=⟨⟨21,(sD []),[⟨Jcy,[(1,.var 109 (.ag (sL [.ns,zs2,.m 2]))),(2,B7)]⟩],fun _=>Sr N,[]⟩,kF N [] [] func21⟩
def Z4(N:Nat):V:=⟨⟨45,Jdk,[zs1],u3 (Uc N),[5000,5001,5002]⟩,kF N [] [(3,.rg (.n 3 (.nl 5 Jaa)))] func45⟩
def Qjc(N:Nat):V:=⟨⟨129,Jl5,[Qpu],u2 (Lg N),[]⟩,kF N [] [] func129⟩
def Quj(N:Nat):V:=⟨⟨190,zs7,[Jto],Nl N,[]⟩,kF N [] [] func190⟩
def Qpx(N:Nat):V:=⟨⟨128,⟨[(0,Qx8),(1,zs2)],[(5000,Lm)]⟩,[Qpu],u2 (Qbt N),[]⟩,kF N [Quj] [(6,.lp [] [] ⟨[(0,Qdj),(5,.d (.int .u64))],[(100000,Lm)]⟩ [(.x 0,⟨[(0,Ql1),(5,.d (.int .u64))],[(100100,Lm)]⟩)])] func128⟩
def S4(N:Nat):V:=⟨⟨87,Jl5,[Qpu],u2 (Uz N),[]⟩,kF N [Qjc,Qpx] [] func87⟩
def Qqy(N:Nat):V:=⟨⟨88,(sD [.sl (.int .u8),.str]),[Qpu],u2 (Ih N),[]⟩,kF N [Qjc,Qpx] [] func88⟩
def D7(N:Nat):V:=⟨⟨44,(sD [J6]),[Qpu],Xx N,[]⟩,kF N [S4,Qqy] [(8,.lp [1,19,20] [1] ⟨[(3,Qdj),(21,zs2)],[(100000,Lm)]⟩ [(.x 0,⟨Qx4,[(100100,Lm)]⟩)]),(24,.gh (.fz 13201 .done)),(24,.an (.dc 6 [33,34,35,36,37,38] [1] [] (.a (.b 1 (.c 1 (.k 0 [] [] [13601] [13601] (.b 1 (.c 1 (.tl Q5b)))))))))] func44⟩
def Qpy(N:Nat):V:=⟨⟨130,Ql7,[(sD [.int .u32])],Qbu N,[]⟩,kF N [] [(8,.lp [6,7] [] ⟨[(3,.d (.int .u32)),(8,zs2)],[]⟩ [(.x 0,⟨[(3,.d (.int .u32))],[]⟩)])] func130⟩
def Qqz(N:Nat):V:=⟨⟨89,⟨[(0,Qx8),(1,Jtp)],[(5000,Lm)]⟩,[Qpu],u2 (T4 N),[]⟩,kF N [Qpy,S4] [] func89⟩
def Qml(N:Nat):V:=⟨⟨47,Ql7,[⟨Jdf,Jdl⟩],Pq N,[]⟩,kF N [Qqz] [] func47⟩
def Ah(N:Nat):V:=⟨⟨46,Jdk,[⟨[],Q5w⟩],u3 (Zj N),[]⟩,kF N [] [(1,.an (.dc 16 [2,3,4,5,6,7,8,9,10,11,12,13,14,15,16,17] [5000,5002,5001] [] (.b 5000 (.b 5000 (.d 5000 5000 (.b 5000 (.d 5000 5001 (.b 5000 (.d 5000 5000 (.b 5000 (.d 5000 5002 (.b 5000 (.d 5000 5000 (.b 5000 (.d 5000 5002 (.c 5002 (.c 5002 (.g [5001] [] [17] [17] Qh8)))))))))))))))))),(2,.an (.dr 13 (.n 13 .done) zs5))] func46⟩
def Qg6(N:Nat):V:=⟨⟨23,⟨Jdi,Jdj⟩,[⟨Qf6,Q5w⟩],u4 (Pr N),[]⟩,kF N [Z4,D7,Qml,Ah] [(25,.an (.dr 15 zs27 zs5))] func23⟩
def A1(N:Nat):V:=⟨⟨23,⟨Jdi,Jdj⟩,[⟨Qf6,Q5w⟩],u4 (Yu N),[]⟩,kF N [Z4,D7,Qml,Ah] [(25,.an (.dr 15 zs27 zs5))] func23⟩
def Rf(N:Nat):V:=⟨⟨22,Jdk,[⟨Qf6,Q5w⟩],u3 (Vj N),[]⟩,kF N [Z4,Ah] [] func22⟩
def Nf(N:Nat):V:=⟨⟨24,⟨Qt5,Jdj⟩,[⟨[],Q5w⟩],u4 (Ky N),[]⟩,kF N [Z4] [(7,.an (.dr 19 (.n 19 .done) .done)),(13,.lp [0,4] [34,5000] ⟨[(5,zs2)],[(5002,B7)]⟩ [(.x 0,⟨[],[(5002,B7)]⟩)])] func24⟩
def Ng(N:Nat):V:=⟨⟨26,Jdk,[⟨Qh4,[(5001,Lm),(1,Lm)]⟩],u3 (Vz N),[5000,5002]⟩,kF N [Z4,fun _=>⟨_,Qdi⟩] [] func26⟩
def Q0u(N:Nat):V:=⟨⟨260,Jto,[zs7],Qdf N,[]⟩,kF N [] [] func260⟩
def Qmm(N:Nat):V:=⟨⟨191,Ql7,[Q5p],Ps N,[]⟩,kF N [Q0u] [(8,.lp [0] [] ⟨[(5,.d (.int .u64)),(6,zs2)],[]⟩ [(.x 0,⟨[],[]⟩),(.r,⟨[(2,zs2),(3,zs2),(4,zs2)],[]⟩)])] func191⟩
def Qmn(N:Nat):V:=⟨⟨192,Jl5,[Qpu],u2 (Pt N),[]⟩,kF N [] [] func192⟩
def Qg7(N:Nat):V:=⟨⟨131,Ql7,[⟨[(0,zs2),(1,Nu),(2,zs2)],Jdl⟩],B4 N,[]⟩,kF N [Qmm,Qmn] [] func131⟩
def Quk(N:Nat):V:=⟨⟨90,Ql7,[Q5p],Ea N,[]⟩,kF N [Qg7,Qpy] [(38,.an (.dr 30 (.n 30 .done) .done))] func90⟩
def Qul(N:Nat):V:=⟨⟨91,(sD [.sl (.int .u8),.i,.i]),[Qpu],u3 (Nn N),[]⟩,kF N [] [] func91⟩
def Q5z(N:Nat):V:=⟨⟨48,Ql7,[⟨Jdf,[(1,Jl6)]⟩],Qhw N,[]⟩,kF N [Quk,Qul] [(8,.lp [0] [] ⟨[(4,Qdj),(5,zs2)],[(100000,Jl6)]⟩ [(.x 0,⟨[(4,Ql1),(5,zs2)],[(100100,Jl6)]⟩)]),(25,.rg (.n 8 (.call 1 (.fz 13101 Q0n))))] func48⟩
def Qb7(N:Nat):V:=⟨⟨92,Jtq,[⟨Qf6,Jtr⟩],Qt N,[]⟩,kF N [Qg7] [] func92⟩
def Qum(N:Nat):V:=⟨⟨193,Ql7,[Q5p],Qdg N,[]⟩,kF N [Qmm] [] func193⟩
def Q0v(N:Nat):V:=⟨⟨132,Ql7,[⟨[(0,V2),(1,Nu),(2,zs2)],Jdl⟩],Qdh N,[]⟩,kF N [Qum,Qmn] [(21,.an (.dc 12 [23,24,25,26,27,28,29,30,31,32,33,34] [] [] (.a (.a (.a (.a (.a (.a (.a (.a (.a (.a (.a (.k 1 [] [] [13401] [13401] Qh8))))))))))))))] func132⟩
def Qez(N:Nat):V:=⟨⟨93,Jtq,[⟨[(0,V2)],Jtr⟩],U1 N,[]⟩,kF N [Q0v] [] func93⟩
def Qoq(N:Nat):V:=⟨⟨49,Ql7,[Jrz],B6 N,[]⟩,kF N [Qb7,Qez] [(20,.an (.dc 4 [30,31,32,1000000003] [4,2] [] (.a (.b 4 (.c 4 (.f 2 2 Ci))))))] func49⟩
def S5(N:Nat):V:=⟨⟨25,(sD [Uq,J2,.sl (.int .u8)]),[⟨[(0,.p 1 []),(1,zs2)],[(1,.var 91 (.ag (sL [Ss,Jlv,.m 3]))),(2,Yx),(3,C4)]⟩],u3 (W6 N),[]⟩,kF N [Qmc,Q5z,Qoq,C8] [(10,.lp [24,25] [3,4,12101] ⟨[(8,Qh5),(9,zs2),(26,zs2)],[(100000,.var 91 (.ag (sL [Jts,Jti,Jlp]))),(100001,Yx),(100002,C4)]⟩ [(.x 0,⟨[(8,Qh7),(9,zs2)],[(100100,.var 91 (.ag (sL [Ss,Jtj,Jlq]))),(100101,Yx),(100102,C4)]⟩)])] func25⟩
def Qg8(N:Nat):V:=⟨⟨20,(sD []),[zs1],fun _=>Z3 N,[]⟩,kF N [Qjb,Qg6,A1,Rf,Nf,Ng,S5,D7] [(13,.rg (.n 2 (.call 1 (.n 2 (.call 2 Jaa))))),(17,.rg (.n 2 Jpw)),(25,.rg (.n 2 Jpw)),(27,.rg (.n 27 (.sp 66 5 [1] [11001,11002,13001,13101,13102,13103,13501] ⟨[(71,zs4)],[(13901,Lm)]⟩ (.nl 1 (.call 5 Jgq)) G7 (.n 1 (.sp 72 5 [] [11001,11002,13001,13101,13102,13103,13501,13901] ⟨[(77,zs4)],[]⟩ (.nl 1 (.call 7 Jgq)) G7 zs5)))))] func20⟩
def Qan(N:Nat):V:=⟨⟨14,⟨Eh,Jdh⟩,[⟨Ju1,[(5001,.tail 101 J5),(1,Ug),(2,Yx),(3,Lj)]⟩],u5 (V0 N),[5000,5002]⟩,kF N [Az,P2] [] func14⟩
def W8(N:Nat):V:=⟨⟨5,(sD [Vd,.int .u8,.i]),[zs1],u3 (V1 N),[]⟩,kF N [Qkn,Qg8,Qjb,A1,Rf,Nf,Ng,S5,Qmc,C8,Qan,Qiq,Qal,N0] [(26,.lp [2,3,8] [3] ⟨[(7,Qh5),(9,zs2)],[(100000,.var 109 (.ag (sL [Qty,zs2,Jlp]))),(100001,Lm),(100002,B7)]⟩ [(.x 0,⟨[(7,Ql3)],[(100300,.var 109 (.ag (sL [Qt3,zs2,.m 100302]))),(100301,Lm),(100302,B7)]⟩),(.r,⟨[(6,zs4)],[]⟩)]),(36,.rg (.n 4 (.sp 38 5 [7,9] [] ⟨[(43,zs4)],[(100000,.var 109 (.ag (sL [Ql4,zs2,Jlq]))),(100101,Lm),(100102,B7)]⟩ Jtt G7 (.n 1 (.sp 44 9 [7,9] [] ⟨[(53,zs4)],[(100000,.var 109 (.ag (sL [Q5a,zs2,.m 100202]))),(100201,Lm),(100202,B7)]⟩ Q45 (.nl 6 Jps) .done))))),(45,.rg (.n 6 (.sp 59 5 [2,3,7,8] [3] ⟨[(64,zs4)],[(100300,.var 109 (.ag (sL [Jda,zs2,.m 100502]))),(100501,Lm),(100502,B7)]⟩ Jtt G7 .done))),(54,.an (.dc 11 [69,70,71,72,73,74,75,68,76,77,10] [3,16701,100300,100502] [] (.b 3 (.c 3 (.b 3 (.c 3 (.b 100300 (.k 6 [16701] [100300,100502] [17401] [16701,17401] (.k 7 [17401] [] [17503,17502,17501] [17401,17501,17502,17503] (.b 17501 (.b 17501 (.a (.b 17501 Ci))))))))))))),(57,.rg (.n 3 (.nl 3 Qqg))),(77,.lp [3,10,11] [3,16701,17401,17501,17502,17503,100300,100502] ⟨[(12,Jlc),(13,zs2)],[(100600,.var 91 (.ag (sL [Jts,.ag (sL [W7,Jld,Ll]),.m 100602]))),(100601,Yx),(100602,C4)]⟩ [(.x 2,⟨[(12,Jle)],[(100700,.var 91 (.ag (sL [Ss,.ag (sL [W7,Jlf,Ll]),.m 100702]))),(100701,Yx),(100702,C4)]⟩)]),(89,.rg (.n 1 (.call 10 (.n 1 (.call 10 (.call 11 (.n 1 (.sp 116 6 [10,12] [3,16701,17401,17502,21201,21202,21203,21401,21402,21403,100300,100502,100701] ⟨[(122,zs4)],[(17501,.var 91 (.ag (sL [Ss,Jl3,.m 100802]))),(100700,.var 91 (.ag (sL [Ss,Jl3,.m 100803]))),(100802,C4),(100803,C4)]⟩ (.nl 1 (.call 12 (.nl 1 (.call 12 (.call 13 zs5))))) Qv2 (.n 1 (.sp 123 2 [] [3,16701,17401,17501,17502,21201,21202,21203,21401,21402,21403,100300,100502,100700,100701,100802,100803] ⟨[(125,zs4)],[]⟩ Jku Qv1 zs5))))))))))] func5⟩
end Gx
