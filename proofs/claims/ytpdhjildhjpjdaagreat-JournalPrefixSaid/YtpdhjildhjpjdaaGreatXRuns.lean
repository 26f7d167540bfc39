/- The interpreter gives these functions. -/
import Derived.Test.YtpdhjildhjpjdaaGreatXFns
import Derived.Test.YtpdhjildhjpjdaaGreatProg
import Derived.Test.YtpdhjildhjpjdaaGreatXRo
import Derived.Test.YtpdhjildhjpjdaaGreatXShelf
namespace Gx
open Go Gd Go.Proofs Tryz
set_option linter.unusedVariables false
def HT.a(r:HT):HT:=.op ⟨.nl 1 .done,[],[],[],[]⟩ r
def HT.b(x:Nat)(r:HT):HT:=.op ⟨.nl 1 .done,[],[],[],[x]⟩ r
def HT.c(x:Nat)(r:HT):HT:=.op ⟨.nl 1 .done,[],[x],[],[]⟩ r
def HT.d(x y:Nat)(r:HT):HT:=.op ⟨.nl 1 .done,[],[x],[],[y]⟩ r
def HT.e(x:Nat)(r:HT):HT:=.op ⟨.nl 1 .done,[],[],[x],[x]⟩ r
def HT.f(x y:Nat)(r:HT):HT:=.op ⟨.nl 1 .done,[x],[],[],[y]⟩ r
def HT.g(a b c d:List Nat)(r:HT):HT:=.op ⟨.nl 1 .done,a,b,c,d⟩ r
def HT.k(n:Nat)(a b c d:List Nat)(r:HT):HT:=.op ⟨.call n .done,a,b,c,d⟩ r
def u2{α0 α1 β:Type}(f:α0→α1→β)(p:α0×α1):β:=f p.1 p.2
def u3{α0 α1 α2 β:Type}(f:α0→α1→α2→β)(p:α0×α1×α2):β:=f p.1 p.2.1 p.2.2
def u4{α0 α1 α2 α3 β:Type}(f:α0→α1→α2→α3→β)(p:α0×α1×α2×α3):β:=f p.1 p.2.1 p.2.2.1 p.2.2.2
def u5{α0 α1 α2 α3 α4 β:Type}(f:α0→α1→α2→α3→α4→β)(p:α0×α1×α2×α3×α4):β:=f p.1 p.2.1 p.2.2.1 p.2.2.2.1 p.2.2.2.2
def u6{α0 α1 α2 α3 α4 α5 β:Type}(f:α0→α1→α2→α3→α4→α5→β)(p:α0×α1×α2×α3×α4×α5):β:=f p.1 p.2.1 p.2.2.1 p.2.2.2.1 p.2.2.2.2.1 p.2.2.2.2.2
def u7{α0 α1 α2 α3 α4 α5 α6 β:Type}(f:α0→α1→α2→α3→α4→α5→α6→β)(p:α0×α1×α2×α3×α4×α5×α6):β:=f p.1 p.2.1 p.2.2.1 p.2.2.2.1 p.2.2.2.2.1 p.2.2.2.2.2.1 p.2.2.2.2.2.2
def u8{α0 α1 α2 α3 α4 α5 α6 α7 β:Type}(f:α0→α1→α2→α3→α4→α5→α6→α7→β)(p:α0×α1×α2×α3×α4×α5×α6×α7):β:=f p.1 p.2.1 p.2.2.1 p.2.2.2.1 p.2.2.2.2.1 p.2.2.2.2.2.1 p.2.2.2.2.2.2.1 p.2.2.2.2.2.2.2
def u9{α0 α1 α2 α3 α4 α5 α6 α7 α8 β:Type}(f:α0→α1→α2→α3→α4→α5→α6→α7→α8→β)(p:α0×α1×α2×α3×α4×α5×α6×α7×α8):β:=f p.1 p.2.1 p.2.2.1 p.2.2.2.1 p.2.2.2.2.1 p.2.2.2.2.2.1 p.2.2.2.2.2.2.1 p.2.2.2.2.2.2.2.1 p.2.2.2.2.2.2.2.2
def u14{α0 α1 α2 α3 α4 α5 α6 α7 α8 α9 α10 α11 α12 α13 β:Type}(f:α0→α1→α2→α3→α4→α5→α6→α7→α8→α9→α10→α11→α12→α13→β)(p:α0×α1×α2×α3×α4×α5×α6×α7×α8×α9×α10×α11×α12×α13):β:=f p.1 p.2.1 p.2.2.1 p.2.2.2.1 p.2.2.2.2.1 p.2.2.2.2.2.1 p.2.2.2.2.2.2.1 p.2.2.2.2.2.2.2.1 p.2.2.2.2.2.2.2.2.1 p.2.2.2.2.2.2.2.2.2.1 p.2.2.2.2.2.2.2.2.2.2.1 p.2.2.2.2.2.2.2.2.2.2.2.1 p.2.2.2.2.2.2.2.2.2.2.2.2.1 p.2.2.2.2.2.2.2.2.2.2.2.2.2
def u15{α0 α1 α2 α3 α4 α5 α6 α7 α8 α9 α10 α11 α12 α13 α14 β:Type}(f:α0→α1→α2→α3→α4→α5→α6→α7→α8→α9→α10→α11→α12→α13→α14→β)(p:α0×α1×α2×α3×α4×α5×α6×α7×α8×α9×α10×α11×α12×α13×α14):β:=f p.1 p.2.1 p.2.2.1 p.2.2.2.1 p.2.2.2.2.1 p.2.2.2.2.2.1 p.2.2.2.2.2.2.1 p.2.2.2.2.2.2.2.1 p.2.2.2.2.2.2.2.2.1 p.2.2.2.2.2.2.2.2.2.1 p.2.2.2.2.2.2.2.2.2.2.1 p.2.2.2.2.2.2.2.2.2.2.2.1 p.2.2.2.2.2.2.2.2.2.2.2.2.1 p.2.2.2.2.2.2.2.2.2.2.2.2.2.1 p.2.2.2.2.2.2.2.2.2.2.2.2.2.2
def u16{α0 α1 α2 α3 α4 α5 α6 α7 α8 α9 α10 α11 α12 α13 α14 α15 β:Type}(f:α0→α1→α2→α3→α4→α5→α6→α7→α8→α9→α10→α11→α12→α13→α14→α15→β)(p:α0×α1×α2×α3×α4×α5×α6×α7×α8×α9×α10×α11×α12×α13×α14×α15):β:=f p.1 p.2.1 p.2.2.1 p.2.2.2.1 p.2.2.2.2.1 p.2.2.2.2.2.1 p.2.2.2.2.2.2.1 p.2.2.2.2.2.2.2.1 p.2.2.2.2.2.2.2.2.1 p.2.2.2.2.2.2.2.2.2.1 p.2.2.2.2.2.2.2.2.2.2.1 p.2.2.2.2.2.2.2.2.2.2.2.1 p.2.2.2.2.2.2.2.2.2.2.2.2.1 p.2.2.2.2.2.2.2.2.2.2.2.2.2.1 p.2.2.2.2.2.2.2.2.2.2.2.2.2.2.1 p.2.2.2.2.2.2.2.2.2.2.2.2.2.2.2
def u18{α0 α1 α2 α3 α4 α5 α6 α7 α8 α9 α10 α11 α12 α13 α14 α15 α16 α17 β:Type}(f:α0→α1→α2→α3→α4→α5→α6→α7→α8→α9→α10→α11→α12→α13→α14→α15→α16→α17→β)(p:α0×α1×α2×α3×α4×α5×α6×α7×α8×α9×α10×α11×α12×α13×α14×α15×α16×α17):β:=f p.1 p.2.1 p.2.2.1 p.2.2.2.1 p.2.2.2.2.1 p.2.2.2.2.2.1 p.2.2.2.2.2.2.1 p.2.2.2.2.2.2.2.1 p.2.2.2.2.2.2.2.2.1 p.2.2.2.2.2.2.2.2.2.1 p.2.2.2.2.2.2.2.2.2.2.1 p.2.2.2.2.2.2.2.2.2.2.2.1 p.2.2.2.2.2.2.2.2.2.2.2.2.1 p.2.2.2.2.2.2.2.2.2.2.2.2.2.1 p.2.2.2.2.2.2.2.2.2.2.2.2.2.2.1 p.2.2.2.2.2.2.2.2.2.2.2.2.2.2.2.1 p.2.2.2.2.2.2.2.2.2.2.2.2.2.2.2.2.1 p.2.2.2.2.2.2.2.2.2.2.2.2.2.2.2.2.2
def u26{α0 α1 α2 α3 α4 α5 α6 α7 α8 α9 α10 α11 α12 α13 α14 α15 α16 α17 α18 α19 α20 α21 α22 α23 α24 α25 β:Type}(f:α0→α1→α2→α3→α4→α5→α6→α7→α8→α9→α10→α11→α12→α13→α14→α15→α16→α17→α18→α19→α20→α21→α22→α23→α24→α25→β)(p:α0×α1×α2×α3×α4×α5×α6×α7×α8×α9×α10×α11×α12×α13×α14×α15×α16×α17×α18×α19×α20×α21×α22×α23×α24×α25):β:=f p.1 p.2.1 p.2.2.1 p.2.2.2.1 p.2.2.2.2.1 p.2.2.2.2.2.1 p.2.2.2.2.2.2.1 p.2.2.2.2.2.2.2.1 p.2.2.2.2.2.2.2.2.1 p.2.2.2.2.2.2.2.2.2.1 p.2.2.2.2.2.2.2.2.2.2.1 p.2.2.2.2.2.2.2.2.2.2.2.1 p.2.2.2.2.2.2.2.2.2.2.2.2.1 p.2.2.2.2.2.2.2.2.2.2.2.2.2.1 p.2.2.2.2.2.2.2.2.2.2.2.2.2.2.1 p.2.2.2.2.2.2.2.2.2.2.2.2.2.2.2.1 p.2.2.2.2.2.2.2.2.2.2.2.2.2.2.2.2.1 p.2.2.2.2.2.2.2.2.2.2.2.2.2.2.2.2.2.1 p.2.2.2.2.2.2.2.2.2.2.2.2.2.2.2.2.2.2.1 p.2.2.2.2.2.2.2.2.2.2.2.2.2.2.2.2.2.2.2.1 p.2.2.2.2.2.2.2.2.2.2.2.2.2.2.2.2.2.2.2.2.1 p.2.2.2.2.2.2.2.2.2.2.2.2.2.2.2.2.2.2.2.2.2.1 p.2.2.2.2.2.2.2.2.2.2.2.2.2.2.2.2.2.2.2.2.2.2.1 p.2.2.2.2.2.2.2.2.2.2.2.2.2.2.2.2.2.2.2.2.2.2.2.1 p.2.2.2.2.2.2.2.2.2.2.2.2.2.2.2.2.2.2.2.2.2.2.2.2.1 p.2.2.2.2.2.2.2.2.2.2.2.2.2.2.2.2.2.2.2.2.2.2.2.2.2
def u27{α0 α1 α2 α3 α4 α5 α6 α7 α8 α9 α10 α11 α12 α13 α14 α15 α16 α17 α18 α19 α20 α21 α22 α23 α24 α25 α26 β:Type}(f:α0→α1→α2→α3→α4→α5→α6→α7→α8→α9→α10→α11→α12→α13→α14→α15→α16→α17→α18→α19→α20→α21→α22→α23→α24→α25→α26→β)(p:α0×α1×α2×α3×α4×α5×α6×α7×α8×α9×α10×α11×α12×α13×α14×α15×α16×α17×α18×α19×α20×α21×α22×α23×α24×α25×α26):β:=f p.1 p.2.1 p.2.2.1 p.2.2.2.1 p.2.2.2.2.1 p.2.2.2.2.2.1 p.2.2.2.2.2.2.1 p.2.2.2.2.2.2.2.1 p.2.2.2.2.2.2.2.2.1 p.2.2.2.2.2.2.2.2.2.1 p.2.2.2.2.2.2.2.2.2.2.1 p.2.2.2.2.2.2.2.2.2.2.2.1 p.2.2.2.2.2.2.2.2.2.2.2.2.1 p.2.2.2.2.2.2.2.2.2.2.2.2.2.1 p.2.2.2.2.2.2.2.2.2.2.2.2.2.2.1 p.2.2.2.2.2.2.2.2.2.2.2.2.2.2.2.1 p.2.2.2.2.2.2.2.2.2.2.2.2.2.2.2.2.1 p.2.2.2.2.2.2.2.2.2.2.2.2.2.2.2.2.2.1 p.2.2.2.2.2.2.2.2.2.2.2.2.2.2.2.2.2.2.1 p.2.2.2.2.2.2.2.2.2.2.2.2.2.2.2.2.2.2.2.1 p.2.2.2.2.2.2.2.2.2.2.2.2.2.2.2.2.2.2.2.2.1 p.2.2.2.2.2.2.2.2.2.2.2.2.2.2.2.2.2.2.2.2.2.1 p.2.2.2.2.2.2.2.2.2.2.2.2.2.2.2.2.2.2.2.2.2.2.1 p.2.2.2.2.2.2.2.2.2.2.2.2.2.2.2.2.2.2.2.2.2.2.2.1 p.2.2.2.2.2.2.2.2.2.2.2.2.2.2.2.2.2.2.2.2.2.2.2.2.1 p.2.2.2.2.2.2.2.2.2.2.2.2.2.2.2.2.2.2.2.2.2.2.2.2.2.1 p.2.2.2.2.2.2.2.2.2.2.2.2.2.2.2.2.2.2.2.2.2.2.2.2.2.2
def u29{α0 α1 α2 α3 α4 α5 α6 α7 α8 α9 α10 α11 α12 α13 α14 α15 α16 α17 α18 α19 α20 α21 α22 α23 α24 α25 α26 α27 α28 β:Type}(f:α0→α1→α2→α3→α4→α5→α6→α7→α8→α9→α10→α11→α12→α13→α14→α15→α16→α17→α18→α19→α20→α21→α22→α23→α24→α25→α26→α27→α28→β)(p:α0×α1×α2×α3×α4×α5×α6×α7×α8×α9×α10×α11×α12×α13×α14×α15×α16×α17×α18×α19×α20×α21×α22×α23×α24×α25×α26×α27×α28):β:=f p.1 p.2.1 p.2.2.1 p.2.2.2.1 p.2.2.2.2.1 p.2.2.2.2.2.1 p.2.2.2.2.2.2.1 p.2.2.2.2.2.2.2.1 p.2.2.2.2.2.2.2.2.1 p.2.2.2.2.2.2.2.2.2.1 p.2.2.2.2.2.2.2.2.2.2.1 p.2.2.2.2.2.2.2.2.2.2.2.1 p.2.2.2.2.2.2.2.2.2.2.2.2.1 p.2.2.2.2.2.2.2.2.2.2.2.2.2.1 p.2.2.2.2.2.2.2.2.2.2.2.2.2.2.1 p.2.2.2.2.2.2.2.2.2.2.2.2.2.2.2.1 p.2.2.2.2.2.2.2.2.2.2.2.2.2.2.2.2.1 p.2.2.2.2.2.2.2.2.2.2.2.2.2.2.2.2.2.1 p.2.2.2.2.2.2.2.2.2.2.2.2.2.2.2.2.2.2.1 p.2.2.2.2.2.2.2.2.2.2.2.2.2.2.2.2.2.2.2.1 p.2.2.2.2.2.2.2.2.2.2.2.2.2.2.2.2.2.2.2.2.1 p.2.2.2.2.2.2.2.2.2.2.2.2.2.2.2.2.2.2.2.2.2.1 p.2.2.2.2.2.2.2.2.2.2.2.2.2.2.2.2.2.2.2.2.2.2.1 p.2.2.2.2.2.2.2.2.2.2.2.2.2.2.2.2.2.2.2.2.2.2.2.1 p.2.2.2.2.2.2.2.2.2.2.2.2.2.2.2.2.2.2.2.2.2.2.2.2.1 p.2.2.2.2.2.2.2.2.2.2.2.2.2.2.2.2.2.2.2.2.2.2.2.2.2.1 p.2.2.2.2.2.2.2.2.2.2.2.2.2.2.2.2.2.2.2.2.2.2.2.2.2.2.1 p.2.2.2.2.2.2.2.2.2.2.2.2.2.2.2.2.2.2.2.2.2.2.2.2.2.2.2.1 p.2.2.2.2.2.2.2.2.2.2.2.2.2.2.2.2.2.2.2.2.2.2.2.2.2.2.2.2
def tab:Tab:=[
 ⟨1,.func ⟨[]⟩ ⟨[]⟩ false,.nilFunc,1,8⟩,
 ⟨2,.int .i64,.int .i64 0,1,8⟩,
 ⟨3,.int .i64,.int .i64 0,1,8⟩,
 ⟨4,.bool,.bool false,1,1⟩,
 ⟨5,.int .u8,.int .u8 0,1,1⟩,
 ⟨6,.int .u8,.int .u8 0,1,1⟩,
 ⟨9,.string,Ym [],1,16⟩,
 ⟨22,.slice 135,.slice none 0 0,1,24⟩,
 ⟨23,.slice 146,.slice none 0 0,1,24⟩,
 ⟨24,.slice 133,.slice none 0 0,1,24⟩,
 ⟨25,.slice 150,.slice none 0 0,1,24⟩,
 ⟨26,.slice 3,.slice none 0 0,1,24⟩,
 ⟨27,.slice 156,.slice none 0 0,1,24⟩,
 ⟨29,.struct ⟨[⟨"Events",22,0,false, "", "",0⟩,⟨"Tariffs",23,1,false, "", "",24⟩,⟨"Products",24,2,false, "", "",48⟩,⟨"Taxes",25,3,false, "", "",72⟩,⟨"Holidays",26,4,false, "", "",96⟩,⟨"Agreements",27,5,false, "", "",120⟩]⟩,.agg ⟨[.slice none 0 0,.slice none 0 0,.slice none 0 0,.slice none 0 0,.slice none 0 0,.slice none 0 0]⟩,6,144⟩,
 ⟨30,.slice 129,.slice none 0 0,1,24⟩,
 ⟨31,.slice 101,.slice none 0 0,1,24⟩,
 ⟨32,.slice 103,.slice none 0 0,1,24⟩,
 ⟨34,.struct ⟨[⟨"Buckets",30,0,false, "", "",0⟩,⟨"Wallets",31,1,false, "", "",24⟩,⟨"Counters",32,2,false, "", "",48⟩]⟩,.agg ⟨[.slice none 0 0,.slice none 0 0,.slice none 0 0]⟩,3,72⟩,
 ⟨35,.slice 45,.slice none 0 0,1,24⟩,
 ⟨37,.struct ⟨[⟨"Book",29,0,false, "", "",0⟩,⟨"State",34,6,false, "", "",144⟩,⟨"Ops",35,9,false, "", "",216⟩]⟩,.agg ⟨[.slice none 0 0,.slice none 0 0,.slice none 0 0,.slice none 0 0,.slice none 0 0,.slice none 0 0,.slice none 0 0,.slice none 0 0,.slice none 0 0,.slice none 0 0]⟩,10,240⟩,
 ⟨40,.pointer 91,.pointer none,1,8⟩,
 ⟨43,.struct ⟨[⟨"Session",3,0,false, "", "",0⟩,⟨"Seq",3,1,false, "", "",8⟩,⟨"Kind",3,2,false, "", "",16⟩,⟨"At",3,3,false, "", "",24⟩,⟨"Sub",3,4,false, "", "",32⟩,⟨"Usage",3,5,false, "", "",40⟩,⟨"B",9,6,false, "", "",48⟩,⟨"Used",3,7,false, "", "",64⟩,⟨"Ask",3,8,false, "", "",72⟩]⟩,.agg ⟨[.int .i64 0,.int .i64 0,.int .i64 0,.int .i64 0,.int .i64 0,.int .i64 0,Ym [],.int .i64 0,.int .i64 0]⟩,9,80⟩,
 ⟨45,.struct ⟨[⟨"Request",43,0,false, "", "",0⟩,⟨"Expire",4,9,false, "", "",80⟩]⟩,.agg ⟨[.int .i64 0,.int .i64 0,.int .i64 0,.int .i64 0,.int .i64 0,.int .i64 0,Ym [],.int .i64 0,.int .i64 0,.bool false]⟩,10,88⟩,
 ⟨48,.int .i64,.int .i64 0,1,8⟩,
 ⟨50,.struct ⟨[⟨"Session",3,0,false, "", "",0⟩,⟨"Seq",3,1,false, "", "",8⟩,⟨"Granted",3,2,false, "", "",16⟩,⟨"Until",3,3,false, "", "",24⟩,⟨"Err",48,4,false, "", "",32⟩]⟩,.agg ⟨[.int .i64 0,.int .i64 0,.int .i64 0,.int .i64 0,.int .i64 0]⟩,5,40⟩,
 ⟨55,.slice 81,.slice none 0 0,1,24⟩,
 ⟨60,.slice 43,.slice none 0 0,1,24⟩,
 ⟨62,.struct ⟨[⟨"Book",29,0,false, "", "",0⟩,⟨"State",34,6,false, "", "",144⟩,⟨"Requests",60,9,false, "", "",216⟩]⟩,.agg ⟨[.slice none 0 0,.slice none 0 0,.slice none 0 0,.slice none 0 0,.slice none 0 0,.slice none 0 0,.slice none 0 0,.slice none 0 0,.slice none 0 0,.slice none 0 0]⟩,10,240⟩,
 ⟨64,.pointer 109,.pointer none,1,8⟩,
 ⟨71,.slice 5,.slice none 0 0,1,24⟩,
 ⟨74,.slice 141,.slice none 0 0,1,24⟩,
 ⟨76,.struct ⟨[⟨"Kind",3,0,false, "", "",0⟩,⟨"Zone",9,1,false, "", "",8⟩,⟨"Band",9,2,false, "", "",24⟩,⟨"Setup",3,3,false, "", "",40⟩,⟨"Steps",74,4,false, "", "",48⟩]⟩,.agg ⟨[.int .i64 0,Ym [],Ym [],.int .i64 0,.slice none 0 0]⟩,5,72⟩,
 ⟨78,.struct ⟨[⟨"Account",3,0,false, "", "",0⟩,⟨"Sub",3,1,false, "", "",8⟩,⟨"Kind",3,2,false, "", "",16⟩,⟨"Zone",9,3,false, "", "",24⟩,⟨"Plan",9,4,false, "", "",40⟩,⟨"Version",3,5,false, "", "",56⟩,⟨"Rate",76,6,false, "", "",64⟩,⟨"Free",3,11,false, "", "",136⟩,⟨"Paid",3,12,false, "", "",144⟩]⟩,.agg ⟨[.int .i64 0,.int .i64 0,.int .i64 0,Ym [],Ym [],.int .i64 0,.int .i64 0,Ym [],Ym [],.int .i64 0,.slice none 0 0,.int .i64 0,.int .i64 0]⟩,13,152⟩,
 ⟨79,.slice 185,.slice none 0 0,1,24⟩,
 ⟨81,.struct ⟨[⟨"Id",3,0,false, "", "",0⟩,⟨"Seq",3,1,false, "", "",8⟩,⟨"Start",3,2,false, "", "",16⟩,⟨"Until",3,3,false, "", "",24⟩,⟨"Meter",78,4,false, "", "",32⟩,⟨"Granted",3,17,false, "", "",184⟩,⟨"Takes",79,18,false, "", "",192⟩,⟨"Held",3,19,false, "", "",216⟩,⟨"Spent",3,20,false, "", "",224⟩,⟨"Closed",4,21,false, "", "",232⟩,⟨"Last",50,22,false, "", "",240⟩]⟩,.agg ⟨[.int .i64 0,.int .i64 0,.int .i64 0,.int .i64 0,.int .i64 0,.int .i64 0,.int .i64 0,Ym [],Ym [],.int .i64 0,.int .i64 0,Ym [],Ym [],.int .i64 0,.slice none 0 0,.int .i64 0,.int .i64 0,.int .i64 0,.slice none 0 0,.int .i64 0,.int .i64 0,.bool false,.int .i64 0,.int .i64 0,.int .i64 0,.int .i64 0,.int .i64 0]⟩,27,280⟩,
 ⟨89,.map 3 81,.map none,1,8⟩,
 ⟨91,.struct ⟨[⟨"book",29,0,false, "", "billing/online",0⟩,⟨"state",34,6,false, "", "billing/online",144⟩,⟨"sessions",89,9,false, "", "billing/online",216⟩]⟩,.agg ⟨[.slice none 0 0,.slice none 0 0,.slice none 0 0,.slice none 0 0,.slice none 0 0,.slice none 0 0,.slice none 0 0,.slice none 0 0,.slice none 0 0,.map none]⟩,10,224⟩,
 ⟨101,.struct ⟨[⟨"Account",3,0,false, "", "",0⟩,⟨"Balance",3,1,false, "", "",8⟩,⟨"Floor",3,2,false, "", "",16⟩,⟨"Held",3,3,false, "", "",24⟩,⟨"Until",3,4,false, "", "",32⟩]⟩,.agg ⟨[.int .i64 0,.int .i64 0,.int .i64 0,.int .i64 0,.int .i64 0]⟩,5,40⟩,
 ⟨103,.struct ⟨[⟨"Sub",3,0,false, "", "",0⟩,⟨"Kind",3,1,false, "", "",8⟩,⟨"From",3,2,false, "", "",16⟩,⟨"Units",3,3,false, "", "",24⟩,⟨"Spent",3,4,false, "", "",32⟩]⟩,.agg ⟨[.int .i64 0,.int .i64 0,.int .i64 0,.int .i64 0,.int .i64 0]⟩,5,40⟩,
 ⟨107,.map 3 3,.map none,1,8⟩,
 ⟨109,.struct ⟨[⟨"bytes",71,0,false, "", "billing/journal",0⟩,⟨"safe",3,1,false, "", "billing/journal",24⟩,⟨"ends",107,2,false, "", "billing/journal",32⟩]⟩,.agg ⟨[.slice none 0 0,.int .i64 0,.map none]⟩,3,40⟩,
 ⟨112,.slice 71,.slice none 0 0,1,24⟩,
 ⟨125,.slice 9,.slice none 0 0,1,24⟩,
 ⟨127,.struct ⟨[⟨"From",3,0,false, "", "",0⟩,⟨"To",3,1,false, "", "",8⟩]⟩,.agg ⟨[.int .i64 0,.int .i64 0]⟩,2,16⟩,
 ⟨129,.struct ⟨[⟨"Account",3,0,false, "", "",0⟩,⟨"Sub",3,1,false, "", "",8⟩,⟨"Product",9,2,false, "", "",16⟩,⟨"Index",3,3,false, "", "",32⟩,⟨"Kind",3,4,false, "", "",40⟩,⟨"Zones",125,5,false, "", "",48⟩,⟨"Valid",127,6,false, "", "",72⟩,⟨"Units",3,8,false, "", "",88⟩,⟨"Left",3,9,false, "", "",96⟩,⟨"Priority",3,10,false, "", "",104⟩,⟨"Shared",4,11,false, "", "",112⟩]⟩,.agg ⟨[.int .i64 0,.int .i64 0,Ym [],.int .i64 0,.int .i64 0,.slice none 0 0,.int .i64 0,.int .i64 0,.int .i64 0,.int .i64 0,.int .i64 0,.bool false]⟩,12,120⟩,
 ⟨131,.slice 160,.slice none 0 0,1,24⟩,
 ⟨133,.struct ⟨[⟨"Name",9,0,false, "", "",0⟩,⟨"From",3,1,false, "", "",16⟩,⟨"Fee",3,2,false, "", "",24⟩,⟨"Category",9,3,false, "", "",32⟩,⟨"Prorate",4,4,false, "", "",48⟩,⟨"Bundles",131,5,false, "", "",56⟩]⟩,.agg ⟨[Ym [],.int .i64 0,.int .i64 0,Ym [],.bool false,.slice none 0 0]⟩,6,80⟩,
 ⟨135,.struct ⟨[⟨"At",3,0,false, "", "",0⟩,⟨"Kind",3,1,false, "", "",8⟩,⟨"Account",3,2,false, "", "",16⟩,⟨"Sub",3,3,false, "", "",24⟩,⟨"Number",9,4,false, "", "",32⟩,⟨"Name",9,5,false, "", "",48⟩,⟨"Value",3,6,false, "", "",64⟩]⟩,.agg ⟨[.int .i64 0,.int .i64 0,.int .i64 0,.int .i64 0,Ym [],Ym [],.int .i64 0]⟩,7,72⟩,
 ⟨136,.slice 221,.slice none 0 0,1,24⟩,
 ⟨138,.struct ⟨[⟨"Name",9,0,false, "", "",0⟩,⟨"Slots",136,1,false, "", "",16⟩]⟩,.agg ⟨[Ym [],.slice none 0 0]⟩,2,40⟩,
 ⟨139,.slice 138,.slice none 0 0,1,24⟩,
 ⟨141,.struct ⟨[⟨"Upto",3,0,false, "", "",0⟩,⟨"Quantum",3,1,false, "", "",8⟩,⟨"Price",3,2,false, "", "",16⟩]⟩,.agg ⟨[.int .i64 0,.int .i64 0,.int .i64 0]⟩,3,24⟩,
 ⟨142,.slice 76,.slice none 0 0,1,24⟩,
 ⟨143,.slice 210,.slice none 0 0,1,24⟩,
 ⟨144,.slice 218,.slice none 0 0,1,24⟩,
 ⟨146,.struct ⟨[⟨"Name",9,0,false, "", "",0⟩,⟨"From",3,1,false, "", "",16⟩,⟨"Split",4,2,false, "", "",24⟩,⟨"Zones",143,3,false, "", "",32⟩,⟨"Bands",139,4,false, "", "",56⟩,⟨"Rates",142,5,false, "", "",80⟩,⟨"Discounts",144,6,false, "", "",104⟩]⟩,.agg ⟨[Ym [],.int .i64 0,.bool false,.slice none 0 0,.slice none 0 0,.slice none 0 0,.slice none 0 0]⟩,7,128⟩,
 ⟨150,.struct ⟨[⟨"Category",9,0,false, "", "",0⟩,⟨"From",3,1,false, "", "",16⟩,⟨"Points",3,2,false, "", "",24⟩]⟩,.agg ⟨[Ym [],.int .i64 0,.int .i64 0]⟩,3,32⟩,
 ⟨156,.struct ⟨[⟨"Partner",3,0,false, "", "",0⟩,⟨"Kind",3,1,false, "", "",8⟩,⟨"Inbound",4,2,false, "", "",16⟩,⟨"Valid",127,3,false, "", "",24⟩,⟨"Steps",74,5,false, "", "",40⟩,⟨"Cap",3,6,false, "", "",64⟩]⟩,.agg ⟨[.int .i64 0,.int .i64 0,.bool false,.int .i64 0,.int .i64 0,.slice none 0 0,.int .i64 0]⟩,7,72⟩,
 ⟨160,.struct ⟨[⟨"Kind",3,0,false, "", "",0⟩,⟨"Zones",125,1,false, "", "",8⟩,⟨"Units",3,2,false, "", "",32⟩,⟨"Rollover",3,3,false, "", "",40⟩,⟨"Priority",3,4,false, "", "",48⟩,⟨"Shared",4,5,false, "", "",56⟩]⟩,.agg ⟨[.int .i64 0,.slice none 0 0,.int .i64 0,.int .i64 0,.int .i64 0,.bool false]⟩,6,64⟩,
 ⟨168,.func ⟨[207]⟩ ⟨[]⟩ false,.nilFunc,1,8⟩,
 ⟨170,.pointer 173,.pointer none,1,8⟩,
 ⟨173,.struct ⟨[⟨"Session",81,0,true, "", "",0⟩,⟨"state",34,27,false, "", "billing/session",280⟩]⟩,.agg ⟨[.int .i64 0,.int .i64 0,.int .i64 0,.int .i64 0,.int .i64 0,.int .i64 0,.int .i64 0,Ym [],Ym [],.int .i64 0,.int .i64 0,Ym [],Ym [],.int .i64 0,.slice none 0 0,.int .i64 0,.int .i64 0,.int .i64 0,.slice none 0 0,.int .i64 0,.int .i64 0,.bool false,.int .i64 0,.int .i64 0,.int .i64 0,.int .i64 0,.int .i64 0,.slice none 0 0,.slice none 0 0,.slice none 0 0]⟩,30,352⟩,
 ⟨185,.struct ⟨[⟨"Sub",3,0,false, "", "",0⟩,⟨"Product",9,1,false, "", "",8⟩,⟨"Index",3,2,false, "", "",24⟩,⟨"From",3,3,false, "", "",32⟩,⟨"Units",3,4,false, "", "",40⟩]⟩,.agg ⟨[.int .i64 0,Ym [],.int .i64 0,.int .i64 0,.int .i64 0]⟩,5,48⟩,
 ⟨193,.struct ⟨[⟨"rest",71,0,false, "", "billing/journal",0⟩,⟨"bad",48,1,false, "", "billing/journal",24⟩]⟩,.agg ⟨[.slice none 0 0,.int .i64 0]⟩,2,32⟩,
 ⟨195,.slice 243,.slice none 0 0,1,24⟩,
 ⟨196,.slice 260,.slice none 0 0,1,24⟩,
 ⟨198,.struct ⟨[⟨"Accounts",195,0,false, "", "",0⟩,⟨"Subs",196,1,false, "", "",24⟩,⟨"Ended",26,2,false, "", "",48⟩]⟩,.agg ⟨[.slice none 0 0,.slice none 0 0,.slice none 0 0]⟩,3,72⟩,
 ⟨210,.struct ⟨[⟨"Name",9,0,false, "", "",0⟩,⟨"Prefixes",125,1,false, "", "",16⟩]⟩,.agg ⟨[Ym [],.slice none 0 0]⟩,2,40⟩,
 ⟨214,.slice 216,.slice none 0 0,1,24⟩,
 ⟨216,.struct ⟨[⟨"Op",3,0,false, "", "",0⟩,⟨"Num",3,1,false, "", "",8⟩,⟨"Text",9,2,false, "", "",16⟩,⟨"Args",214,3,false, "", "",32⟩]⟩,.agg ⟨[.int .i64 0,.int .i64 0,Ym [],.slice none 0 0]⟩,4,56⟩,
 ⟨218,.struct ⟨[⟨"Name",9,0,false, "", "",0⟩,⟨"When",216,1,false, "", "",16⟩,⟨"Points",3,5,false, "", "",72⟩]⟩,.agg ⟨[Ym [],.int .i64 0,.int .i64 0,Ym [],.slice none 0 0,.int .i64 0]⟩,6,80⟩,
 ⟨221,.struct ⟨[⟨"Days",3,0,false, "", "",0⟩,⟨"From",3,1,false, "", "",8⟩,⟨"To",3,2,false, "", "",16⟩]⟩,.agg ⟨[.int .i64 0,.int .i64 0,.int .i64 0]⟩,3,24⟩,
 ⟨235,.struct ⟨[⟨"Period",127,0,false, "", "",0⟩,⟨"Plan",9,2,false, "", "",16⟩,⟨"Products",125,3,false, "", "",32⟩,⟨"Suspended",4,4,false, "", "",56⟩,⟨"Family",4,5,false, "", "",57⟩]⟩,.agg ⟨[.int .i64 0,.int .i64 0,Ym [],.slice none 0 0,.bool false,.bool false]⟩,6,64⟩,
 ⟨243,.struct ⟨[⟨"Id",3,0,false, "", "",0⟩,⟨"Since",3,1,false, "", "",8⟩,⟨"Anchor",3,2,false, "", "",16⟩,⟨"Prepaid",4,3,false, "", "",24⟩,⟨"Closed",4,4,false, "", "",25⟩,⟨"Subs",26,5,false, "", "",32⟩]⟩,.agg ⟨[.int .i64 0,.int .i64 0,.int .i64 0,.bool false,.bool false,.slice none 0 0]⟩,6,56⟩,
 ⟨246,.int .u32,.int .u32 0,1,4⟩,
 ⟨255,.array 5 4,.agg ⟨[.bool false,.bool false,.bool false,.bool false,.bool false]⟩,5,5⟩,
 ⟨260,.struct ⟨[⟨"Id",3,0,false, "", "",0⟩,⟨"Account",3,1,false, "", "",8⟩,⟨"Since",3,2,false, "", "",16⟩,⟨"Plan",9,3,false, "", "",24⟩,⟨"Numbers",125,4,false, "", "",40⟩,⟨"Products",125,5,false, "", "",64⟩,⟨"Suspended",4,6,false, "", "",88⟩,⟨"Family",4,7,false, "", "",89⟩]⟩,.agg ⟨[.int .i64 0,.int .i64 0,.int .i64 0,Ym [],.slice none 0 0,.slice none 0 0,.bool false,.bool false]⟩,8,96⟩,
 ⟨271,.struct ⟨[⟨"sub",3,0,false, "", "billing/bucket",0⟩,⟨"product",9,1,false, "", "billing/bucket",8⟩,⟨"index",3,2,false, "", "billing/bucket",24⟩,⟨"from",3,3,false, "", "billing/bucket",32⟩]⟩,.agg ⟨[.int .i64 0,Ym [],.int .i64 0,.int .i64 0]⟩,4,40⟩,
 ⟨276,.struct ⟨[⟨"Meter",78,0,true, "", "",0⟩]⟩,.agg ⟨[.int .i64 0,.int .i64 0,.int .i64 0,Ym [],Ym [],.int .i64 0,.int .i64 0,Ym [],Ym [],.int .i64 0,.slice none 0 0,.int .i64 0,.int .i64 0]⟩,13,152⟩,
 ⟨279,.func ⟨[101]⟩ ⟨[4]⟩ false,.nilFunc,1,8⟩,
 ⟨290,.pointer 293,.pointer none,1,8⟩,
 ⟨291,.map 296 4,.map none,1,8⟩,
 ⟨293,.struct ⟨[⟨"list",30,0,false, "", "billing/bundle",0⟩,⟨"has",291,1,false, "", "billing/bundle",24⟩]⟩,.agg ⟨[.slice none 0 0,.map none]⟩,2,32⟩,
 ⟨296,.struct ⟨[⟨"sub",3,0,false, "", "billing/bundle",0⟩,⟨"product",9,1,false, "", "billing/bundle",8⟩,⟨"index",3,2,false, "", "billing/bundle",24⟩,⟨"from",3,3,false, "", "billing/bundle",32⟩]⟩,.agg ⟨[.int .i64 0,Ym [],.int .i64 0,.int .i64 0]⟩,4,40⟩,
 ⟨299,.slice 304,.slice none 0 0,1,24⟩,
 ⟨301,.slice 127,.slice none 0 0,1,24⟩,
 ⟨304,.struct ⟨[⟨"account",3,0,false, "", "billing/bundle",0⟩,⟨"sub",3,1,false, "", "billing/bundle",8⟩,⟨"product",9,2,false, "", "billing/bundle",16⟩,⟨"active",301,3,false, "", "billing/bundle",32⟩]⟩,.agg ⟨[.int .i64 0,.int .i64 0,Ym [],.slice none 0 0]⟩,4,56⟩,
 ⟨305,.slice 308,.slice none 0 0,1,24⟩,
 ⟨308,.struct ⟨[⟨"bucket",129,0,false, "", "billing/bundle",0⟩,⟨"rollover",3,12,false, "", "billing/bundle",120⟩]⟩,.agg ⟨[.int .i64 0,.int .i64 0,Ym [],.int .i64 0,.int .i64 0,.slice none 0 0,.int .i64 0,.int .i64 0,.int .i64 0,.int .i64 0,.int .i64 0,.bool false,.int .i64 0]⟩,13,128⟩,
 ⟨315,.slice 235,.slice none 0 0,1,24⟩,
 ⟨323,.struct ⟨[⟨"Accounts",195,0,false, "", "",0⟩,⟨"Subs",196,1,false, "", "",24⟩]⟩,.agg ⟨[.slice none 0 0,.slice none 0 0]⟩,2,48⟩,
 ⟨326,.int .u64,.int .u64 0,1,8⟩,
 ⟨350,.map 9 9,.map none,1,8⟩,
 ⟨357,.map 3 4,.map none,1,8⟩,
 ⟨358,.map 9 357,.map none,1,8⟩,
 ⟨370,.slice 373,.slice none 0 0,1,24⟩,
 ⟨373,.struct ⟨[⟨"at",3,0,false, "", "billing/subscribe",0⟩,⟨"s",260,1,false, "", "billing/subscribe",8⟩]⟩,.agg ⟨[.int .i64 0,.int .i64 0,.int .i64 0,.int .i64 0,Ym [],.slice none 0 0,.slice none 0 0,.bool false,.bool false]⟩,9,104⟩,
 ⟨376,.func ⟨[373,373]⟩ ⟨[4]⟩ false,.nilFunc,1,8⟩,
 ⟨377,.func ⟨[373,373]⟩ ⟨[373]⟩ false,.nilFunc,1,8⟩,
 ⟨379,.pointer 414,.pointer none,1,8⟩,
 ⟨395,.func ⟨[210]⟩ ⟨[4]⟩ false,.nilFunc,1,8⟩,
 ⟨397,.func ⟨[138]⟩ ⟨[4]⟩ false,.nilFunc,1,8⟩,
 ⟨399,.func ⟨[221]⟩ ⟨[4]⟩ false,.nilFunc,1,8⟩,
 ⟨403,.func ⟨[235]⟩ ⟨[4]⟩ false,.nilFunc,1,8⟩,
 ⟨406,.func ⟨[4,4]⟩ ⟨[4]⟩ false,.nilFunc,1,8⟩,
 ⟨408,.func ⟨[133]⟩ ⟨[4]⟩ false,.nilFunc,1,8⟩,
 ⟨410,.map 3 243,.map none,1,8⟩,
 ⟨411,.map 3 260,.map none,1,8⟩,
 ⟨412,.map 9 3,.map none,1,8⟩,
 ⟨414,.struct ⟨[⟨"accounts",410,0,false, "", "billing/customer",0⟩,⟨"subs",411,1,false, "", "billing/customer",8⟩,⟨"ever",357,2,false, "", "billing/customer",16⟩,⟨"owners",412,3,false, "", "billing/customer",24⟩,⟨"live",107,4,false, "", "billing/customer",32⟩,⟨"opened",26,5,false, "", "billing/customer",40⟩,⟨"added",26,6,false, "", "billing/customer",64⟩]⟩,.agg ⟨[.map none,.map none,.map none,.map none,.map none,.slice none 0 0,.slice none 0 0]⟩,7,88⟩,
 ⟨416,.map 3 26,.map none,1,8⟩,
 ⟨426,.func ⟨[127,127]⟩ ⟨[4]⟩ false,.nilFunc,1,8⟩,
 ⟨427,.func ⟨[127,127]⟩ ⟨[127]⟩ false,.nilFunc,1,8⟩,
 ⟨429,.struct ⟨[⟨"Year",3,0,false, "", "",0⟩,⟨"Month",3,1,false, "", "",8⟩,⟨"Day",3,2,false, "", "",16⟩]⟩,.agg ⟨[.int .i64 0,.int .i64 0,.int .i64 0]⟩,3,24⟩,
 ⟨431,.slice 433,.slice none 0 0,1,24⟩,
 ⟨433,.struct ⟨[⟨"at",3,0,false, "", "billing/interval",0⟩,⟨"list",3,1,false, "", "billing/interval",8⟩,⟨"by",3,2,false, "", "billing/interval",16⟩]⟩,.agg ⟨[.int .i64 0,.int .i64 0,.int .i64 0]⟩,3,24⟩,
 ⟨436,.func ⟨[433,433]⟩ ⟨[3]⟩ false,.nilFunc,1,8⟩,
 ⟨437,.array 2 3,.agg ⟨[.int .i64 0,.int .i64 0]⟩,2,16⟩,
 ⟨442,.array 12 3,.agg ⟨[.int .i64 0,.int .i64 0,.int .i64 0,.int .i64 0,.int .i64 0,.int .i64 0,.int .i64 0,.int .i64 0,.int .i64 0,.int .i64 0,.int .i64 0,.int .i64 0]⟩,12,96⟩]
def tx:TX:=⟨tab,[(1,.ref),(2,(.int .i64)),(3,(.int .i64)),(4,.bool),(5,(.int .u8)),(6,(.int .u8)),(9,.str),(22,(.sl Jq)),(23,(.sl Yg)),(24,(.sl J3)),(25,(.sl Hc)),(26,(.sl (.int .i64))),(27,(.sl Y9)),(29,Uq),(30,(.sl Q8)),(31,(.sl J5)),(32,(.sl Ui)),(34,J2),(35,(.sl Dm)),(37,Qjy),(40,.ref),(43,J6),(45,Dm),(48,(.int .i64)),(50,Sd),(55,(.sl Yb)),(60,(.sl J6)),(62,Vf),(64,.ref),(71,(.sl (.int .u8))),(74,(.sl Vj)),(76,Xl),(78,Hd),(79,(.sl Xn)),(81,Yb),(89,.ref),(91,Qtm),(101,J5),(103,Ui),(107,.ref),(109,Q0g),(112,(.sl (.sl (.int .u8)))),(125,(.sl .str)),(127,J4),(129,Q8),(131,(.sl Zd)),(133,J3),(135,Jq),(136,(.sl Zg)),(138,V9),(139,(.sl V9)),(141,Vj),(142,(.sl Xl)),(143,(.sl V4)),(144,(.sl Uh)),(146,Yg),(150,Hc),(156,Y9),(160,Zd),(168,.ref),(170,.ref),(173,Qp4),(185,Xn),(193,Qd3),(195,(.sl U6)),(196,(.sl Vv)),(198,Zr),(210,V4),(214,(.sl Xm)),(216,Xm),(218,Uh),(221,Zg),(235,Dn),(243,U6),(246,(.int .u32)),(255,(.arr 5 .bool)),(260,Vv),(271,Qbd),(276,Id),(279,.ref),(290,.ref),(291,.ref),(293,Qvu),(296,Zh),(299,(.sl Ut)),(301,(.sl J4)),(304,Ut),(305,(.sl Fb)),(308,Fb),(315,(.sl Dn)),(323,Qto),(326,(.int .u64)),(350,.ref),(357,.ref),(358,.ref),(370,(.sl Vw)),(373,Vw),(376,.ref),(377,.ref),(379,.ref),(395,.ref),(397,.ref),(399,.ref),(403,.ref),(406,.ref),(408,.ref),(410,.ref),(411,.ref),(412,.ref),(414,Qp5),(416,.ref),(426,.ref),(427,.ref),(429,Qhr),(431,(.sl Ua)),(433,Ua),(436,.ref),(437,(.arr 2 (.int .i64))),(442,(.arr 12 (.int .i64)))],[]⟩
theorem G1:Tryz.prog.follows .mixedOrders=true:=by kernel_rfl
theorem G2:Qy Tryz.prog tab:=by repeat (first | exact trivial | refine⟨⟨⟨by kernel_rfl,by kernel_rfl⟩,by kernel_rfl⟩,?_⟩)
abbrev KO(c:Con):Prop:=Qa3 Tryz.prog tx.gl c∧Runs Tryz.prog c.f
abbrev IO(i:It):Prop:=Jf6 Tryz.prog tx.gl i∧Runs Tryz.prog i.f
abbrev V:={c // KO c}
def kcs(N:Nat)(L:List (Nat→V)):List Con:=L.map fun k=>(k N).1
theorem Jci(N:Nat):∀L:List (Nat→V),Q4i Tryz.prog tx.gl (kcs N L)
 | []=>Jv6
 | c::L=>Jui (c N).2.1 (c N).2.2 (Jci N L)
def Jcj(fn:Func):Bool:=decide (fn.name ≠ "runtime.NumGoroutine")&&!fn.body.isNone
theorem Ka{f:FuncId}{fn:Func}(hf:Tryz.prog.funcs[f]?=some fn)(h:Jcj fn=true):Runs Tryz.prog f:=by
 simp only[Jcj,QQ,decide_eq_true_eq,XJ]at h
 exact⟨fn,hf,h.1,h.2⟩
theorem kF(N:Nat){c:Con}(L:List (Nat→V))(ps:List (Nat×Pc)){fn:Func}(hf:Tryz.prog.funcs[c.f]?=some fn)(hg:Jcj fn=true:=by rfl)(h:∀x,c.fn x=Jji tx (kcs N L) N fn (Jul ((kcs N L).map Con.f) ps fn.body) c.ro c.Γ c.Δ x:=by intro x; kernel_rfl):KO c :=
 ⟨Jpe (Y:=tx) (N:=N) G2 G1 (Jci N L) hf rfl h,Ka hf hg⟩
def ics(L:List {i // IO i}):List It:=L.map (·.1)
theorem Jri:∀L:List {i // IO i},∀i∈ics L,Jf6 Tryz.prog tx.gl i∧Runs Tryz.prog i.f
 | [],_,h=>by cases h
 | c::L,i,h=>by
  rcases QX.1 h with rfl | h
  ·exact c.2
  ·exact Jri L i h
theorem kR(N:Nat){c:Con}(L:List (Nat→V))(I:List {i // IO i})(an:AnR){fn:Func}(hf:Tryz.prog.funcs[c.f]?=some fn)(hg:Jcj fn=true)(h:∀x,c.fn x=Jka tx (kcs N L) N (ics I) fn an c.ro c.Γ c.Δ x):KO c :=
 ⟨Jkb (Y:=tx) (N:=N) (an:=an) G2 G1 (Jci N L) (Jri I) hf rfl h,Ka hf hg⟩
def Pv:Con:=⟨59,(Qbb Jq),[(Bi 135 Jq)],Jv 72,[]⟩
theorem Rk:KO Pv:=⟨Vu G2 G1 func59 rfl rfl rfl rfl rfl rfl rfl rfl (by kernel_rfl) (y0:=([]:List Ql)) (by kernel_rfl) (an0:=.reg (.n 1 .done)) (anA:=.two (.reg (.n 1 .done)) .nil) (anC:=.two (.reg (.n 4 .done)) .nil) ⟨by kernel_rfl,by kernel_rfl⟩ (fun xs=>by kernel_rfl) (fun xs=>by kernel_rfl) (fun xs=>by kernel_rfl),Ka func59 rfl⟩
def T5:Con:=⟨60,(Qbb Hc),[(Bi 150 Hc)],Jv 32,[]⟩
theorem Qbt:KO T5:=⟨Vu G2 G1 func60 rfl rfl rfl rfl rfl rfl rfl rfl (by kernel_rfl) (y0:=([]:List Ov)) (by kernel_rfl) (an0:=.reg (.n 1 .done)) (anA:=.two (.reg (.n 1 .done)) .nil) (anC:=.two (.reg (.n 4 .done)) .nil) ⟨by kernel_rfl,by kernel_rfl⟩ (fun xs=>by kernel_rfl) (fun xs=>by kernel_rfl) (fun xs=>by kernel_rfl),Ka func60 rfl⟩
def Qfy:Con:=⟨61,(Qbb (.int .i64)),[(Bi 3 (.int .i64))],Jv 8,[]⟩
theorem Qh0:KO Qfy:=⟨Vu G2 G1 func61 rfl rfl rfl rfl rfl rfl rfl rfl (by kernel_rfl) (y0:=([]:List Int)) (by kernel_rfl) (an0:=.reg (.n 1 .done)) (anA:=.two (.reg (.n 1 .done)) .nil) (anC:=.two (.reg (.n 4 .done)) .nil) ⟨by kernel_rfl,by kernel_rfl⟩ (fun xs=>by kernel_rfl) (fun xs=>by kernel_rfl) (fun xs=>by kernel_rfl),Ka func61 rfl⟩
def No:Con:=⟨62,(Qbb Yg),[(Bi 146 Yg)],Jv 128,[]⟩
theorem Pw:KO No:=⟨Vu G2 G1 func62 rfl rfl rfl rfl rfl rfl rfl rfl (by kernel_rfl) (y0:=([]:List Q0)) (by kernel_rfl) (an0:=.reg (.n 1 .done)) (anA:=.two (.reg (.n 1 .done)) .nil) (anC:=.two (.reg (.n 4 .done)) .nil) ⟨by kernel_rfl,by kernel_rfl⟩ (fun xs=>by kernel_rfl) (fun xs=>by kernel_rfl) (fun xs=>by kernel_rfl),Ka func62 rfl⟩
def L8:Con:=⟨63,(Qbb J3),[(Bi 133 J3)],Jv 80,[]⟩
theorem Np:KO L8:=⟨Vu G2 G1 func63 rfl rfl rfl rfl rfl rfl rfl rfl (by kernel_rfl) (y0:=([]:List Qn)) (by kernel_rfl) (an0:=.reg (.n 1 .done)) (anA:=.two (.reg (.n 1 .done)) .nil) (anC:=.two (.reg (.n 4 .done)) .nil) ⟨by kernel_rfl,by kernel_rfl⟩ (fun xs=>by kernel_rfl) (fun xs=>by kernel_rfl) (fun xs=>by kernel_rfl),Ka func63 rfl⟩
def D3:Con:=⟨64,(Qbb Y9),[(Bi 156 Y9)],Jv 72,[]⟩
theorem Lh:KO D3:=⟨Vu G2 G1 func64 rfl rfl rfl rfl rfl rfl rfl rfl (by kernel_rfl) (y0:=([]:List Ja)) (by kernel_rfl) (an0:=.reg (.n 1 .done)) (anA:=.two (.reg (.n 1 .done)) .nil) (anC:=.two (.reg (.n 4 .done)) .nil) ⟨by kernel_rfl,by kernel_rfl⟩ (fun xs=>by kernel_rfl) (fun xs=>by kernel_rfl) (fun xs=>by kernel_rfl),Ka func64 rfl⟩
def Rl:Con:=⟨105,(Qbb V4),[(Bi 210 V4)],Jv 40,[]⟩
theorem T6:KO Rl:=⟨Vu G2 G1 func105 rfl rfl rfl rfl rfl rfl rfl rfl (by kernel_rfl) (y0:=([]:List Q3)) (by kernel_rfl) (an0:=.reg (.n 1 .done)) (anA:=.two (.reg (.n 1 .done)) .nil) (anC:=.two (.reg (.n 4 .done)) .nil) ⟨by kernel_rfl,by kernel_rfl⟩ (fun xs=>by kernel_rfl) (fun xs=>by kernel_rfl) (fun xs=>by kernel_rfl),Ka func105 rfl⟩
def Rm:Con:=⟨106,(Qbb V9),[(Bi 138 V9)],Jv 40,[]⟩
theorem T7:KO Rm:=⟨Vu G2 G1 func106 rfl rfl rfl rfl rfl rfl rfl rfl (by kernel_rfl) (y0:=([]:List Jf)) (by kernel_rfl) (an0:=.reg (.n 1 .done)) (anA:=.two (.reg (.n 1 .done)) .nil) (anC:=.two (.reg (.n 4 .done)) .nil) ⟨by kernel_rfl,by kernel_rfl⟩ (fun xs=>by kernel_rfl) (fun xs=>by kernel_rfl) (fun xs=>by kernel_rfl),Ka func106 rfl⟩
def Rn:Con:=⟨107,(Qbb Xl),[(Bi 76 Xl)],Jv 72,[]⟩
theorem T8:KO Rn:=⟨Vu G2 G1 func107 rfl rfl rfl rfl rfl rfl rfl rfl (by kernel_rfl) (y0:=([]:List Y2)) (by kernel_rfl) (an0:=.reg (.n 1 .done)) (anA:=.two (.reg (.n 1 .done)) .nil) (anC:=.two (.reg (.n 4 .done)) .nil) ⟨by kernel_rfl,by kernel_rfl⟩ (fun xs=>by kernel_rfl) (fun xs=>by kernel_rfl) (fun xs=>by kernel_rfl),Ka func107 rfl⟩
def Li:Con:=⟨108,(Qbb Uh),[(Bi 218 Uh)],Jv 80,[]⟩
theorem L9:KO Li:=⟨Vu G2 G1 func108 rfl rfl rfl rfl rfl rfl rfl rfl (by kernel_rfl) (y0:=([]:List Jj)) (by kernel_rfl) (an0:=.reg (.n 1 .done)) (anA:=.two (.reg (.n 1 .done)) .nil) (anC:=.two (.reg (.n 4 .done)) .nil) ⟨by kernel_rfl,by kernel_rfl⟩ (fun xs=>by kernel_rfl) (fun xs=>by kernel_rfl) (fun xs=>by kernel_rfl),Ka func108 rfl⟩
def Qbu:Con:=⟨67,(Qbb .str),[(Bi 9 .str)],Jv 16,[]⟩
theorem Zb:KO Qbu:=⟨Vu G2 G1 func67 rfl rfl rfl rfl rfl rfl rfl rfl (by kernel_rfl) (y0:=([]:List Str)) (by kernel_rfl) (an0:=.reg (.n 1 .done)) (anA:=.two (.reg (.n 1 .done)) .nil) (anC:=.two (.reg (.n 4 .done)) .nil) ⟨by kernel_rfl,by kernel_rfl⟩ (fun xs=>by kernel_rfl) (fun xs=>by kernel_rfl) (fun xs=>by kernel_rfl),Ka func67 rfl⟩
def Ro:Con:=⟨109,(Qbb Zg),[(Bi 221 Zg)],Jv 24,[]⟩
theorem T9:KO Ro:=⟨Vu G2 G1 func109 rfl rfl rfl rfl rfl rfl rfl rfl (by kernel_rfl) (y0:=([]:List Wg)) (by kernel_rfl) (an0:=.reg (.n 1 .done)) (anA:=.two (.reg (.n 1 .done)) .nil) (anC:=.two (.reg (.n 4 .done)) .nil) ⟨by kernel_rfl,by kernel_rfl⟩ (fun xs=>by kernel_rfl) (fun xs=>by kernel_rfl) (fun xs=>by kernel_rfl),Ka func109 rfl⟩
def Rp:Con:=⟨68,(Qbb Vj),[(Bi 141 Vj)],Jv 24,[]⟩
theorem Va:KO Rp:=⟨Vu G2 G1 func68 rfl rfl rfl rfl rfl rfl rfl rfl (by kernel_rfl) (y0:=([]:List Qw)) (by kernel_rfl) (an0:=.reg (.n 1 .done)) (anA:=.two (.reg (.n 1 .done)) .nil) (anC:=.two (.reg (.n 4 .done)) .nil) ⟨by kernel_rfl,by kernel_rfl⟩ (fun xs=>by kernel_rfl) (fun xs=>by kernel_rfl) (fun xs=>by kernel_rfl),Ka func68 rfl⟩
def Rq:Con:=⟨148,(Qbb Xm),[(Bi 216 Xm)],Jv 56,[]⟩
theorem Qaa:KO Rq:=⟨Vu G2 G1 func148 rfl rfl rfl rfl rfl rfl rfl rfl (by kernel_rfl) (y0:=([]:List Q9)) (by kernel_rfl) (an0:=.reg (.n 1 .done)) (anA:=.two (.reg (.n 1 .done)) .nil) (anC:=.two (.reg (.n 4 .done)) .nil) ⟨by kernel_rfl,by kernel_rfl⟩ (fun xs=>by kernel_rfl) (fun xs=>by kernel_rfl) (fun xs=>by kernel_rfl),Ka func148 rfl⟩
def Nq:Con:=⟨66,(Qbb Zd),[(Bi 160 Zd)],Jv 64,[]⟩
theorem Px:KO Nq:=⟨Vu G2 G1 func66 rfl rfl rfl rfl rfl rfl rfl rfl (by kernel_rfl) (y0:=([]:List Yj)) (by kernel_rfl) (an0:=.reg (.n 1 .done)) (anA:=.two (.reg (.n 1 .done)) .nil) (anC:=.two (.reg (.n 4 .done)) .nil) ⟨by kernel_rfl,by kernel_rfl⟩ (fun xs=>by kernel_rfl) (fun xs=>by kernel_rfl) (fun xs=>by kernel_rfl),Ka func66 rfl⟩
def Ns:Con:=⟨69,(Qbb Q8),[(Bi 129 Q8)],Jv 120,[]⟩
theorem Hs:KO Ns:=⟨Vu G2 G1 func69 rfl rfl rfl rfl rfl rfl rfl rfl (by kernel_rfl) (y0:=([]:List Qa)) (by kernel_rfl) (an0:=.reg (.n 1 .done)) (anA:=.two (.reg (.n 1 .done)) .nil) (anC:=.two (.reg (.n 4 .done)) .nil) ⟨by kernel_rfl,by kernel_rfl⟩ (fun xs=>by kernel_rfl) (fun xs=>by kernel_rfl) (fun xs=>by kernel_rfl),Ka func69 rfl⟩
def Nt:Con:=⟨70,(Qbb J5),[(Bi 101 J5)],Jv 40,[]⟩
theorem Ht:KO Nt:=⟨Vu G2 G1 func70 rfl rfl rfl rfl rfl rfl rfl rfl (by kernel_rfl) (y0:=([]:List Qc)) (by kernel_rfl) (an0:=.reg (.n 1 .done)) (anA:=.two (.reg (.n 1 .done)) .nil) (anC:=.two (.reg (.n 4 .done)) .nil) ⟨by kernel_rfl,by kernel_rfl⟩ (fun xs=>by kernel_rfl) (fun xs=>by kernel_rfl) (fun xs=>by kernel_rfl),Ka func70 rfl⟩
def Ma:Con:=⟨71,(Qbb Ui),[(Bi 103 Ui)],Jv 40,[]⟩
theorem G3:KO Ma:=⟨Vu G2 G1 func71 rfl rfl rfl rfl rfl rfl rfl rfl (by kernel_rfl) (y0:=([]:List Qe)) (by kernel_rfl) (an0:=.reg (.n 1 .done)) (anA:=.two (.reg (.n 1 .done)) .nil) (anC:=.two (.reg (.n 4 .done)) .nil) ⟨by kernel_rfl,by kernel_rfl⟩ (fun xs=>by kernel_rfl) (fun xs=>by kernel_rfl) (fun xs=>by kernel_rfl),Ka func71 rfl⟩
def Rr:Con:=⟨86,(Qbb Xn),[(Bi 185 Xn)],Jv 48,[]⟩
theorem E4:KO Rr:=⟨Vu G2 G1 func86 rfl rfl rfl rfl rfl rfl rfl rfl (by kernel_rfl) (y0:=([]:List Qo)) (by kernel_rfl) (an0:=.reg (.n 1 .done)) (anA:=.two (.reg (.n 1 .done)) .nil) (anC:=.two (.reg (.n 4 .done)) .nil) ⟨by kernel_rfl,by kernel_rfl⟩ (fun xs=>by kernel_rfl) (fun xs=>by kernel_rfl) (fun xs=>by kernel_rfl),Ka func86 rfl⟩
def G4:Con:=⟨68,(Jke 141 Vj),[(Jrf 141 Vj)],fun(xs:List Qw)=>Qjx 24 xs,[]⟩
theorem Py:KO G4:=⟨Qxs G2 G1 (c:=G4) func68 (fA:=fun(xs:List Qw)=>some (xs,([]:List Qw))) rfl rfl rfl rfl rfl rfl rfl rfl (by kernel_rfl) (by kernel_rfl) (an0:=.reg (.n 1 .done)) (anA:=.two (.reg (.n 1 .done)) .nil) (anC:=.two (.reg (.n 4 .done)) .nil) (fun _=>⟨by kernel_rfl,by kernel_rfl⟩) (g:=Qfc tx.gl) (fun _=>by kernel_rfl) (e:=141) (u:=Vj) (fx:=fun(xs:List Qw)=>xs) (fun _=>by kernel_rfl) (fun xs h=>by rw[show xs=([]:List Qw)from h]; kernel_rfl) (fun _=>by kernel_rfl) (fun _=>by kernel_rfl) (fun _=>by kernel_rfl),Ka func68 rfl⟩
def Uf:Con:=⟨314,⟨[(0,.s 5000),(1,.f 315 (.nil))],[(5000,.row 433 Ua)]⟩,[⟨[],[(5000,.row 433 Ua)]⟩],Qiz (fun x:Q7=>x.1),[]⟩
theorem Hu:KO Uf:=⟨Jgh (c:=Uf) (e:=433) (u:=Ua) rfl (fun x=>x) (fun y=>y) (ev:=[⟨1,[],.f 315 .nil⟩]) (vx:=[.func (.func 315) #[] #[]]) rfl (fun _=>by kernel_rfl) (fun _=>by kernel_rfl) rfl Jpi (fun _ _=>Jgk) (fun p w=>AnyF.slices_SortFunc_none { Tryz.sortFunc314 with } p 0 _ w) (fun _ _ h blk cap w hH hb _=>Q4y (u:=Ua) rfl (fun x:Q7=>x.1) Tryz.sortFunc314 isAgg433 sizeOf433 (enters_of func315 (by kernel_rfl) rfl) Tryz.clo315 h blk cap w hH hb),Ka func314 rfl⟩
def Rs:Con:=⟨72,(inK 113 89 Yb),[Jph],fun(xs:List (Int×Qb))=>Qls xs,[5000,5001]⟩
theorem Qab:KO Rs:=⟨Q4w (fun _=>by kernel_rfl) Tryz.underlying3 (Tryz.sortedKeys113 Qcw),Ka func72 rfl⟩
def Ay:Con:=⟨50,(Jke 5 (.int .u8)),[(Jrf 5 (.int .u8))],fun(xs:List Int)=>Qjx 1 xs,[]⟩
theorem Qdg:KO Ay:=⟨Qxs G2 G1 (c:=Ay) func50 (fA:=fun(xs:List Int)=>some (xs,([]:List Int))) rfl rfl rfl rfl rfl rfl rfl rfl (by kernel_rfl) (by kernel_rfl) (an0:=.reg (.n 1 .done)) (anA:=.two (.reg (.n 1 .done)) .nil) (anC:=.two (.reg (.n 4 .done)) .nil) (fun _=>⟨by kernel_rfl,by kernel_rfl⟩) (g:=Qfc tx.gl) (fun _=>by kernel_rfl) (e:=5) (u:=(.int .u8)) (fx:=fun(xs:List Int)=>xs) (fun _=>by kernel_rfl) (fun xs h=>by rw[show xs=([]:List Int)from h]; kernel_rfl) (fun _=>by kernel_rfl) (fun _=>by kernel_rfl) (fun _=>by kernel_rfl),Ka func50 rfl⟩
def zs1:Shp:=sD [.bool]
def zs2:Sk:=.d .i
def zs3:Shp:=⟨[(9,zs2)],[]⟩
def zs4:Sk:=.d .bool
def zs5:Hn:=.n 1 .done
def zs6:Hn:=.nl 7 zs5
def zs7:Shp:=sD [.i]
def zs8:Shp:=⟨[(13,zs4)],[]⟩
def zs9:Shp:=⟨[(17,zs4)],[]⟩
def Jum:Shp:=⟨[(22,zs4)],[]⟩
def Qtq:Shp:=sD [.str]
def Qfz:Hn:=.nl 3 zs5
def Pz:Shp:=⟨[(3,zs2)],[]⟩
def Qlw:Exs:=[(.x 0,⟨[],[]⟩),(.r,⟨[(2,zs4)],[]⟩)]
def Jun:Shp:=⟨[(37,zs4)],[]⟩
def G6:Hn:=.nl 4 zs5
def Jpj:Shp:=⟨[(49,zs4)],[]⟩
def Juo:Hn:=.nl 5 .done
def Jup:Shp:=⟨[(55,zs4)],[]⟩
def Jkk:Shp:=⟨[(19,zs4)],[]⟩
def Q4z:Hn:=.nl 8 zs5
def Qvv:Hn:=.nl 1 zs5
def Jpk:Hn:=.nl 4 (.n 3 Qvv)
def Jkl:Hn:=.call 1 Qvv
def Jkm:Hn:=.nl 2 Jkl
def Juq:Hn:=.nl 2 (.call 2 Qvv)
def zs27:Hn:=.n 15 .done
def Jpl:Hn:=.call 3 Qvv
def Jpm:Shp:=sD [Zr,.i]
def Mc:Shp:=⟨[(5,zs2)],[]⟩
def Q40:Shp:=⟨[(4,zs2)],[]⟩
def Qn3:Exs:=[(.x 0,⟨[],[]⟩),(.r,Q40)]
def Qj5:Exs:=[(.x 0,⟨[],[]⟩),(.r,⟨[(4,zs4)],[]⟩)]
def Jkn:Hn:=.call 0 Qvv
def Jgl:Hn:=.nl 2 zs5
def Jwb:HT:=.a (.a (.a (.a (.a (.a (.a (.tl Jgl)))))))
def Jur:Shp:=sD [Zr,Jq]
def Jpn:Hn:=.nl 3 Jkl
def Qvw:Hn:=.nl 5 zs5
def Jpo:Shp:=⟨[(41,zs4)],[]⟩
def Jpp:Hn:=.call 2 zs5
def Q41:Shp:=sD [.sl .str,.str]
def Jwc:Exs:=[(.n,⟨[],[]⟩),(.r,Q40)]
def Nu:Sk:=.s 1
def Qh1:List (Nat×Sk):=[(0,Nu)]
def Q42:SkO:=.row 9 .str
def Q91:Shp:=⟨Qh1,[(1,Q42)]⟩
def Q92:Shp:=⟨[(18,zs4)],[]⟩
def Qp6:Hn:=.nl 6 zs5
def Qdh:Sk:=.s 100000
def Qtr:Sk:=.s 100200
def Jus:Exs:=[(.x 0,⟨[(5,Qtr)],[(100200,Q42)]⟩)]
def Qlx:Sk:=.s 100100
def Jut:Exs:=[(.n,⟨[(5,Qlx)],[(100100,Q42)]⟩)]
def Jwd:Shp:=sD [Vv,Jq]
def Qh2:Sk:=.p 100000 []
def V2:Sk:=.d .str
def Juu:SkO:=.var 260 (.ag (sL [zs2,zs2,zs2,V2,.d (.sl .str),.d (.sl .str),zs4,zs4]))
def Qh3:Sk:=.s 2
def Q43:Sk:=.s 3
def Juv:List (Nat×Sk):=[(0,.ag (sL [Nu,Qh3,Q43]))]
def Q93:SkO:=.row 243 U6
def Qvx:SkO:=.row 260 Vv
def Qbv:SkO:=.row 3 .i
def Ci:HT:=.tl zs5
def Qh4:Sk:=.p 100100 []
def Juw:Sk:=.p 100101 []
def Jux:Sk:=.s 100102
def Qvy:Sk:=.p 100200 []
def Q44:Sk:=.s 100201
def Juy:Sk:=.s 100202
def Q0h:Hn:=.n 3 .done
def Qh5:HT:=.tl Q0h
def Jwe:Exs:=[(.n,⟨[(90,zs4)],[]⟩)]
def Q94:Hn:=.n 2 .done
def Q95:HT:=.tl Q94
def Qh6:Shp:=sD [.i,.i]
def Qts:Sk:=.s 100001
def Jpq:Sk:=.s 100002
def Juz:Sk:=.s 100003
def Q96:Hn:=.n 6 .done
def Q45:Hn:=.call 0 zs5
def Jko:Hn:=.call 1 zs5
def Qp7:Exs:=[(.x 0,⟨[],[]⟩),(.r,⟨[(2,zs2)],[]⟩)]
def Ju0:Exs:=[(.x 2,⟨[],[]⟩),(.r,⟨[(2,zs2)],[]⟩)]
def Jwf:Shp:=sD [J3]
def Ju1:Shp:=⟨[(63,zs4)],[]⟩
def Jpr:Hn:=.nl 13 .done
def Ju2:Shp:=sD [.int .u8]
def Q97:Hn:=.nl 2 Jkn
def Q98:Shp:=⟨[(7,zs2)],[]⟩
def Jwg:Exs:=[(.x 0,⟨[],[]⟩),(.r,⟨[(6,zs4)],[]⟩)]
def Qp8:Shp:=⟨[(8,zs2)],[]⟩
def Jkp:Shp:=⟨[(6,zs2)],[]⟩
def Qp9:Hn:=.n 8 .done
def Jwh:Shp:=sD [.sl V4]
def Jwi:Shp:=sD [.sl V9]
def Jwj:Shp:=sD [Yg,.str]
def Ju3:Shp:=sD [.sl Vj]
def Q46:Shp:=sD [Yg]
def Qxv:Shp:=sD [Xm]
def Jck:HT:=.a Ci
def Qtt:Hn:=.n 7 .done
def Jrj:Exs:=[(.n,⟨[(42,zs4)],[]⟩)]
def Jrk:Shp:=⟨[(7,Qdh),(8,zs2)],[(100000,Qbv)]⟩
def Jrl:Shp:=⟨[(4,zs2),(5,zs2)],[]⟩
def Jrm:HT:=.a (.a Jwb)
def Jcl:Shp:=sD [.sl Q8]
def Q47:Shp:=sD [J2]
def Q48:Shp:=sD [Q8,Q8]
def Jkq:Shp:=⟨[(30,zs4)],[]⟩
def Jrn:HT:=.a (.a (.a (.a (.a (.tl Qvv)))))
def Q49:HT:=.a (.a Jrn)
def Jro:Shp:=sD [.sl J5]
def Jcm:Shp:=sD [J4]
def Q5a:Shp:=sD [Q8]
def Jkr:Shp:=sD [J5]
def Jcn:SkO:=.row 216 Xm
def Jks:HT:=.k 1 [] [] [] [] Q95
def Qf0:SkO:=.row 210 V4
def Qly:SkO:=.row 138 V9
def Qtu:SkO:=.row 76 Xl
def Q5b:SkO:=.row 218 Uh
def Jrp:List (Nat×SkO):=[(1,Qf0),(2,Qly),(3,Qtu),(4,Q5b)]
def Jrq:Shp:=⟨[(0,.ag (sL [V2,zs2,zs4,Nu,Qh3,Q43,.s 4]))],Jrp⟩
def Jrr:SkO:=.row 135 Jq
def Jco:SkO:=.row 146 Yg
def Qph:SkO:=.row 133 J3
def Jcp:SkO:=.row 156 Y9
def Jrs:HT:=.b 1 (.tl (.n 5 .done))
def Qxw:Sk:=.s 100300
def Qxx:SkO:=.row 160 Zd
def Q5c:Sk:=.s 100400
def Ug:SkO:=.row 129 Q8
def Yy:SkO:=.row 101 J5
def Lj:SkO:=.row 103 Ui
def Q5d:Shp:=⟨Juv,[(1,Ug),(2,Yy),(3,Lj)]⟩
def Jcq:List (Nat×Sk):=[(0,.p 1 [])]
def C4:SkO:=.map .i Yb
def Jrt:Shp:=sD [J6,.i]
def Jru:Shp:=sD [Yb]
def Jrv:Sk:=.ag (sL [zs2,V2,V2,zs2,Nu])
def Jkt:Sk:=.ag (sL [zs2,zs2,zs2,V2,V2,zs2,Jrv,zs2,zs2])
def Kz:Sk:=.d Sd
def Qtv:SkO:=.row 141 Vj
def Ze:SkO:=.row 185 Xn
def Jrw:Shp:=⟨[(0,.ag (sL [zs2,zs2,zs2,zs2,Jkt,zs2,Qh3,zs2,zs2,zs4,Kz]))],[(1,Qtv),(2,Ze)]⟩
def Jku:List (Nat×Sk):=[(5,Qdh),(10,zs2)]
def Qlz:Sk:=.p 100300 []
def Jkv:Sk:=.p 100301 []
def Jcr:SkO:=.var 260 (.ag (sL [zs2,zs2,zs2,V2,.ns,.ns,zs4,zs4]))
def Qxy:Shp:=sD [.sl Jq,.i]
def Qpi:SkO:=.row 373 Vw
def Q5e:Sk:=.p 100001 []
def Jkw:Sk:=.d Vv
def Jkx:SkO:=.var 260 Jkw
def Jky:Sk:=.p 100201 []
def Jcs:Hn:=.nl 9 zs5
def Jrx:Shp:=sD [Vw,Vw]
def Jry:List (Nat×Sk):=[(7,Qdh),(13,zs2)]
def Jct:SkO:=.row 235 Dn
def Jrz:List (Nat×Sk):=[(6,Qdh),(16,zs2)]
def Qpj:Sk:=.d J4
def Jcu:Shp:=sD [.sl Jq,.i,.i]
def Jr0:SkO:=.var 235 (.ag (sL [Qpj,V2,.ns,zs4,zs4]))
def Jkz:List (Nat×Sk):=[(6,Qvy),(7,zs4)]
def Q5f:SkO:=.map .i U6
def Qpk:SkO:=.map .i .bool
def B7:SkO:=.map .i .i
def Jk0:Sk:=.d (.sl Jq)
def P0:SkO:=.var 3 zs2
def Jcv:Shp:=sD [.sl .i,.i]
def Xc:Sk:=.p 5000 []
def Qtw:Sk:=.m 5001
def Qf1:Sk:=.m 5002
def Jcw:Sk:=.m 5003
def Jcx:Sk:=.m 5004
def Jcy:Sk:=.m 5005
def Jk1:List (Nat×SkO):=[(5000,.var 414 (.ag (sL [Qtw,Qf1,Jcw,Jcx,Jcy,.s 5006,.s 5007]))),(5001,Q5f),(5002,.map .i Vv),(5003,Qpk),(5004,.map .str .i),(5005,B7),(5006,Qbv),(5007,Qbv)]
def Jk2:List (Nat×SkO):=[(5004,.map .str .i)]
def Eg:List (Nat×Sk):=[(0,Xc)]
def Qf2:Hn:=.dt 5000 .done
def Jr1:Shp:=⟨[(0,.ag (sL [Nu,Qh3]))],[(1,Q93),(2,Qvx)]⟩
def Jk3:SkO:=.mapC .i (.sl 3 .i)
def Qtx:Sk:=.s 100301
def Q5g:Sk:=.s 100302
def Jcz:Sk:=.p 100400 []
def Q5h:Sk:=.s 100401
def Jc0:Sk:=.s 100402
def Jr2:List (Nat×Sk):=[(6,Qh2),(15,zs2)]
def Jr3:Shp:=sD [.sl Zg]
def Jc1:List (Nat×SkO):=[(1,Qtv)]
def Qxz:List (Nat×Sk):=[(3,Qlx)]
def Ql0:Sk:=.s 100101
def Jc2:Sk:=.s 100501
def Jk4:Sk:=.s 100502
def Jk5:Hn:=.n 4 .done
def Jk6:Sk:=.p 100600 []
def Jk7:Sk:=.s 100601
def Jk8:Sk:=.p 100700 []
def Jk9:Sk:=.s 100701
def Jla:Exs:=[(.x 0,Qp8)]
def Jr4:List (Nat×SkO):=[(5000,.var 210 (.d V4))]
def Jlb:Sk:=sL [Xc]
def Jr5:Shp:=⟨[(0,.d (.sl V4)),(1,.f 276 Jlb)],Jr4⟩
def Qx0:SkO:=.map .str .str
def Jlc:Sk:=.m 100000
def Jld:Sk:=.m 100100
def Jr6:An:=.two (.reg Q94) .nil
def Jr7:List (Nat×SkO):=[(5000,.var 138 (.d V9))]
def Jr8:Shp:=⟨[(0,.d (.sl V9)),(1,.f 279 Jlb)],Jr7⟩
def Jle:Shp:=⟨[(13,zs2)],[]⟩
def Qf3:Sk:=.p 5001 []
def Jr9:List (Nat×SkO):=[(5000,P0),(5001,P0)]
def Jsa:Shp:=⟨[(0,.d (.sl Zg)),(1,.f 281 (sL [Xc,Qf3]))],Jr9⟩
def Q5i:SkO:=.var 9 V2
def Jsb:SkO:=.var 76 (.ag (sL [zs2,V2,V2,zs2,.ns]))
def Jlf:Shp:=⟨[(0,.ag (sL [zs2,zs2,V2,zs2,zs2,Nu,Qpj,zs2,zs2,zs2,zs4]))],[(1,Q42)]⟩
def Jlg:Shp:=sD [J4,J4]
def Jc3:Sk:=.d (.sl J4)
def Lk:SkO:=.row 127 J4
def Qty:Shp:=⟨Qh1,[(1,Lk)]⟩
def Jlh:List (Nat×SkO):=[(100000,Lk)]
def Jsc:Exs:=[(.x 0,⟨[(7,Qtr)],[(100200,Lk)]⟩)]
def Jsd:Exs:=[(.n,⟨[(7,Qlx)],[(100100,Lk)]⟩)]
def Jc4:SkO:=.row 304 Ut
def Qx1:SkO:=.mapC .str (.mp .i .bool)
def Jli:Shp:=⟨[(11,zs2)],[]⟩
def Jc5:SkO:=.var 429 (.d Qhr)
def Jse:HT:=.b 1 (.c 1 Qh5)
def Qx2:Sk:=.s 5002
def Qpl:Sk:=.s 5001
def Qpm:SkO:=.row 433 Ua
def Jsf:Shp:=⟨[(0,Jc3),(1,zs2),(2,Xc)],[(5000,.var 431 Qpl),(5001,Qpm)]⟩
def Jsg:Shp:=⟨[],[(5000,.var 431 Nu),(1,Qpm)]⟩
def Jsh:SkO:=.var 437 (.d (.arr 2 .i))
def Jsi:List (Nat×SkO):=[(5000,Q5i),(5001,P0)]
def Jsj:Sk:=.d (.sl J3)
def Jc6:SkO:=.row 308 Fb
def Qeg:SkO:=.map Zh .bool
def Jsk:HT:=.k 0 [] [] [] [] Ci
def Jlj:Sk:=.m 100002
def Jlk:Sk:=.m 100102
def Jc7:List (Nat×Sk):=[(0,Nu),(1,zs2)]
def Q5j:Shp:=sD [.i,.i,.i]
def Ql1:Shp:=sD [J5,.i]
def Q5k:SkO:=.var 101 (.d J5)
def Jsl:Hn:=.n 2 (.call 4 .done)
def Jsm:HT:=.a (.a (.a (.a (.a (.a (.a (.a (.a (.a (.a (.a (.a (.a (.tl Qfz))))))))))))))
def Jll:Hn:=.nl 3 Jkn
def Jsn:SkO:=.var 243 (.ag (sL [zs2,zs2,zs2,zs4,zs4,.ns]))
def Jso:Shp:=sD [.sl Vj,.i]
def Jsp:Exs:=[(.n,⟨[(10,zs2)],[]⟩)]
def Jsq:Shp:=sD [Id,.i]
def Su:Sk:=.d Uq
def W7:Sk:=.d (.sl Q8)
def Qx3:Sk:=.s 5000
def Ll:Sk:=.d (.sl Ui)
def Jc8:Sk:=.ag (sL [W7,Qx3,Ll])
def Qeh:Sk:=.d Hd
def Jlm:List (Nat×Sk):=[(0,.d J5),(1,Xc)]
def Jsr:Sk:=.ag (sL [zs2,zs2,zs2,zs2,Qeh,zs2,Qx2,zs2,zs2,zs4,Kz])
def Q5l:Sk:=.s 5003
def Jln:List (Nat×Sk):=[(0,Qx3),(1,.f 158 (sL [Qf3]))]
def Jss:Sk:=.ag (sL [zs2,zs2,zs2,zs2,Qeh,zs2,Q5l,zs2,zs2,zs4,Kz])
def Jst:Sk:=.ag (sL [W7,Qx2,Ll])
def Qx4:List (Nat×SkO):=[(5000,.var 173 (.ag (sL [.ag (sL [zs2,zs2,zs2,zs2,Qeh,zs2,Qpl,zs2,zs2,zs4,Kz]),Jst]))),(5001,Ze),(5002,Yy)]
def Qf4:List (Nat×Sk):=[(0,zs2)]
def Qtz:List (Nat×Sk):=[(0,Xc),(1,zs2)]
def Jlo:Sk:=.ag (sL [zs2,zs2,zs2,zs2,Qeh,zs2,Nu,zs2,zs2,zs4,Kz])
def Jlp:Sk:=.ag (sL [W7,Qh3,Ll])
def Jsu:List (Nat×SkO):=[(5000,.var 173 (.ag (sL [Jlo,Jlp]))),(1,Ze),(2,Yy)]
def Q5m:HT:=.tl Jk5
def Jsv:List (Nat×Sk):=[(0,Xc),(1,Su),(2,zs2),(3,zs2)]
def Jsw:List (Nat×SkO):=[(5000,.var 173 (.ag (sL [.ag (sL [zs2,zs2,zs2,zs2,.ag (sL [zs2,zs2,zs2,V2,V2,zs2,.ag (sL [zs2,V2,V2,zs2,Qpl]),zs2,zs2]),zs2,Qx2,zs2,zs2,zs4,Kz]),.ag (sL [Q5l,.s 5004,.s 5005])]))),(5001,Qtv),(5002,Ze),(5003,Ug),(5004,Yy),(5005,Lj)]
def Q5n:Sk:=.ag (sL [zs2,zs2,zs2,V2,V2,zs2,.ag (sL [zs2,V2,V2,zs2,.d (.sl Vj)]),zs2,zs2])
def Jsx:HT:=.d 5000 5000 (.b 5000 (.b 5000 (.g [5000] [23702] [] [5000,14802,23701,23702] (.tl .done))))
def Jlq:List (Nat×Sk):=[(0,Xc),(1,.d J6),(2,zs2),(3,zs2),(4,zs2)]
def Qx5:Sk:=.ag (sL [W7,Nu,Ll])
def Jsy:Sk:=.ag (sL [zs2,zs2,zs2,zs2,Qeh,zs2,Qh3,zs2,zs2,zs4,Kz])
def Jsz:Shp:=⟨[(0,Qx5),(1,Jsy),(2,Kz)],[(5000,.var 173 (.ag (sL [Jsy,Qx5]))),(1,Yy),(2,Ze)]⟩
def Js0:List (Nat×Sk):=[(0,Xc),(1,.d J6),(2,zs2)]
def Jlr:Exs:=[(.n,zs3)]
def Js1:HT:=.a Qh5
def Ql2:Sk:=.d Yb
def Q5o:List (Nat×SkO):=[(5000,.var 173 (.ag (sL [Ql2,Qx5]))),(1,Yy)]
def Js2:Shp:=⟨[(4,zs2),(5,Qdh),(25,zs2)],[(100000,Ze)]⟩
def Js3:Exs:=[(.x 0,⟨[(4,zs2),(5,Qtr)],[(100200,Ze)]⟩)]
def Js4:List (Nat×Sk):=[(0,Xc),(11,zs2)]
def Js5:Sk:=.ag (sL [zs2,zs2,zs2,zs2,Qeh,zs2,Jc2,zs2,zs2,zs4,Kz])
def Js6:Sk:=.ag (sL [W7,Qpl,Ll])
def Q5p:List (Nat×SkO):=[(5000,.var 173 (.ag (sL [Ql2,Js6]))),(5001,Yy)]
def Js7:Shp:=⟨[(0,Qx5),(1,Ql2),(2,Kz)],Q5o⟩
def Js8:HT:=.f 11 11 Ci
def Jls:Sk:=.d (.sl Xn)
def Js9:Shp:=⟨[(0,Qx5),(1,.ag (sL [zs2,zs2,zs2,zs2,Q5n,zs2,Jls,zs2,zs2,zs4,Kz])),(2,Kz)],[(1,Yy)]⟩
def Jlt:Sk:=.ag (sL [W7,Nu,Qh3])
def Jlu:List (Nat×SkO):=[(5000,.var 173 (.ag (sL [Ql2,Jlt]))),(1,Yy),(2,Lj)]
def Jta:SkO:=.tail 129 Q8
def Jlv:List (Nat×SkO):=[(5000,.var 173 (.ag (sL [Ql2,.ag (sL [W7,Qpl,Qx2])]))),(5001,Yy),(5002,Lj)]
def Jtb:Shp:=sD [Uq,J2,Yb,J6]
def Jtc:Sk:=.ag (sL [W7,Qts,Ll])
def Jtd:Sk:=.ag (sL [W7,Ql0,Ll])
def Jte:HT:=.a Js1
def Jc9:List (Nat×SkO):=[(5000,.var 91 (.ag (sL [Su,Js6,Qf1]))),(5001,Yy),(5002,C4)]
def Jda:List (Nat×Sk):=[(0,Xc),(1,.d J6)]
def Jtf:Shp:=⟨[(0,Kz)],[(5000,.var 91 (.ag (sL [Su,Qx5,Qf1]))),(5002,C4),(1,Yy)]⟩
def Jtg:HT:=.f 5 5 Ci
def Jth:HT:=.f 5002 5002 Ci
def Jlw:List (Nat×SkO):=[(5000,.var 91 (.ag (sL [Su,.d J2,Qtw]))),(5001,C4)]
def Jlx:Sk:=.ag (sL [W7,.d (.sl J5),Ll])
def Jly:SkO:=.row 81 Yb
def Lm:SkO:=.row 5 (.int .u8)
def Jdb:List (Nat×SkO):=[(5000,.var 109 (.ag (sL [Qpl,zs2,Qf1]))),(5001,Lm),(5002,B7)]
def Jdc:Shp:=⟨Eg,Jdb⟩
def Jlz:Shp:=sD [.sl (.int .u8),.i]
def Jdd:List (Nat×SkO):=[(1,Lm)]
def Qpn:Shp:=⟨Qh1,Jdd⟩
def Jti:Shp:=sD [.int .u64]
def Ql3:Shp:=sD [.sl (.int .u8)]
def Jtj:Sk:=.d (.sl (.int .u8))
def Q5q:List (Nat×SkO):=[(5000,.var 109 (.ag (sL [Nu,zs2,Qf1]))),(5002,B7),(1,Lm)]
def Jl0:SkO:=.row 71 (.sl (.int .u8))
def Jtk:Shp:=⟨Eg,[(5000,.var 193 (.d Qd3))]⟩
def Jtl:List (Nat×SkO):=[(5000,.var 193 (.ag (sL [Jtj,zs2])))]
def Jtm:Sk:=.ag (sL [Jk0,.d (.sl Yg),Jsj,.d (.sl Hc),.d (.sl .i),.d (.sl Y9)])
def Jtn:Hn:=.nl 1 (.call 4 Jgl)
def P1(N:Nat):V:=⟨⟨29,(sD [.sl Jq,.sl J3,J2,.i]),[zs1],u4 (H3 N),[]⟩,kF N [] [(14,.lp [0,1,3] [6] zs3 [(.x 0,⟨[],[]⟩),(.r,⟨[(8,zs4)],[]⟩)]),(32,.rg (.n 8 (.sp 56 8 [0,3] [6] ⟨[(64,zs4)],[]⟩ zs6 zs6 zs5)))] func29⟩
def M8(N:Nat):V:=⟨⟨134,zs7,[(sD [.arr 5 .bool])],Gk N,[]⟩,kF N [] [(25,.jn [2,3] [2] [(.n,zs8)]),(35,.jn [2,3] [2] [(.n,zs9)]),(49,.jn [2] [2] [(.n,Jum)])] func134⟩
def Ql4(N:Nat):V:=⟨⟨194,zs7,[zs1],Fc N,[]⟩,kF N [] [] func194⟩
def Et(N:Nat):V:=⟨⟨140,Qtq,[zs1],Ur N,[]⟩,kF N [] [(4,.rg (.n 9 (.sp 12 4 [0] [] ⟨[(16,zs4)],[]⟩ Qfz Qfz (.n 1 (.sp 17 4 [0] [] ⟨[(21,zs4)],[]⟩ Qfz Qfz .done))))),(14,.lp [0] [] Pz Qlw),(24,.rg (.n 5 (.sp 32 5 [3] [] Jun G6 G6 (.n 1 (.sp 38 11 [3] [] Jpj (.nl 5 (.sp 43 5 [3,38] [] ⟨[(48,zs4)],[]⟩ Juo Juo zs5)) (.nl 10 zs5) (.n 1 (.sp 50 5 [3] [] Jup G6 G6 .done)))))))] func140⟩
def Ln(N:Nat):V:=⟨⟨195,Qtq,[zs1],Wh N,[]⟩,kF N [] [(6,.lp [0] [] Pz Qlw),(16,.rg (.n 5 (.sp 14 5 [3] [] Jkk G6 G6 .done)))] func195⟩
def Qf5(N:Nat):V:=⟨⟨196,(sD [Jq]),[zs1],Fj N,[]⟩,kF N [] [] func196⟩
def Qh7(N:Nat):V:=⟨⟨133,(sD [Jq,.i]),[zs7],u2 (Bn N),[]⟩,kF N [M8,Ql4,Et,Ln,Qf5] [(30,.rg (.n 9 (.sp 37 9 [2,5] [2,5] ⟨[(46,zs4)],[]⟩ Q4z Jpk (.n 1 (.sp 47 9 [2,5] [2,5] ⟨[(56,zs4)],[]⟩ Q4z Jpk (.n 1 (.sp 57 9 [2,5] [2,5] ⟨[(66,zs4)],[]⟩ Q4z Jpk (.n 1 (.sp 67 9 [2,5] [2,5] ⟨[(76,zs4)],[]⟩ Q4z Jpk .done))))))))),(38,.rg (.n 3 (.sp 79 5 [2,5] [2,5] ⟨[(84,zs4)],[]⟩ Jkm G6 (.n 1 (.sp 85 9 [2,5] [2,5] ⟨[(94,zs4)],[]⟩ Q4z (.nl 3 (.sp 88 5 [2,5,85] [] ⟨[(93,zs4)],[]⟩ (.nl 2 (.call 1 (.nl 2 .done))) Juo zs5)) .done))))),(46,.rg (.n 3 (.sp 97 5 [2,5] [2,5] ⟨[(102,zs4)],[]⟩ Juq G6 zs27))),(54,.rg (.n 3 (.sp 120 5 [2,5] [2,5] ⟨[(125,zs4)],[]⟩ (.nl 2 Jpl) G6 .done))),(62,.rg (.n 3 (.sp 128 4 [2] [2,5] ⟨[(132,zs4)],[]⟩ (.nl 1 (.call 4 Qvv)) Qfz .done)))] func133⟩
def B8(N:Nat):V:=⟨⟨137,Jpm,[zs7],u2 (Ks N),[]⟩,kF N [] [(6,.lp [1,2] [2] Mc Qn3)] func137⟩
def Ae(N:Nat):V:=⟨⟨138,Jpm,[zs7],u2 (Xo N),[]⟩,kF N [] [(6,.lp [1,2] [2] Mc Qn3)] func138⟩
def Lo(N:Nat):V:=⟨⟨198,Jpm,[zs1],u2 (Wi N),[]⟩,kF N [] [(6,.lp [1,2] [2] Mc Qj5)] func198⟩
def Qh8(N:Nat):V:=⟨⟨197,Jpm,[zs1],u2 (Bo N),[]⟩,kF N [Lo] [(6,.lp [1,2] [2] Mc Qj5),(16,.jn [5] [] [(.n,⟨[(31,zs4)],[]⟩)]),(16,.an (.dc 16 [13,14,15,16,17,18,19,20,21,22,23,24,25,26,27,28] [] [2] (.b 2 (.c 2 (.a (.a (.a (.a (.a (.a (.a (.so 21 (.c 2 (.b 2 (.c 2 (.a (.a (.a (.a (.tl Jkn)))))))) Jwb))))))))))))] func197⟩
def Qac(N:Nat):V:=⟨⟨135,Jur,[zs7],u2 (Wj N),[]⟩,kF N [B8,Ae,Qh8] [(38,.rg (.n 4 (.sp 26 6 [2,3,5] [2,3] ⟨[(32,zs4)],[]⟩ Jpn Qvw .done))),(46,.rg (.n 4 (.sp 36 5 [2,3,5] [2,3] Jpo (.nl 3 Jpp) G6 (.n 1 (.sp 42 13 [2,3,5] [2,3] Jup (.nl 12 zs5) (.nl 4 (.sp 46 8 [2,5,42] [] ⟨[(54,zs4)],[]⟩ (.nl 8 .done) (.nl 8 .done) zs5)) .done)))))] func135⟩
def P2(N:Nat):V:=⟨⟨200,Q41,[zs1],u2 (Zi N),[]⟩,kF N [] [(6,.lp [0,1] [] Mc Qj5)] func200⟩
def Qf6(N:Nat):V:=⟨⟨199,(sD [Zr,.str]),[zs1],u2 (Fk N),[]⟩,kF N [P2] [(6,.lp [1,2] [2] Mc Qj5)] func199⟩
def Qf7(N:Nat):V:=⟨⟨136,Jur,[zs7],u2 (Fl N),[]⟩,kF N [Ae,Lo,Qf6,P2] [(23,.jn [] [2,3,6] Jwc),(67,.jn [3,6,23] [] [(.n,⟨[(53,zs4)],[]⟩)]),(81,.jn [3,6] [] [(.n,⟨[(62,zs4)],[]⟩)])] func136⟩
def Qf8(N:Nat):V:=⟨⟨94,(sD [Zr,Jq,.i]),[zs7],u3 (Fn N),[]⟩,kF N [Qh7,M8,Qac,Qf7] [] func94⟩
def Qh9(N:Nat):V:=⟨⟨201,Q41,[Q91],u2 (Gl N),[]⟩,kF N [] [(6,.lp [0,1] [] Mc [(.x 0,Mc)]),(9,.rg (.n 5 (.sp 11 7 [5] [] Q92 Qp6 Qp6 .done)))] func201⟩
def Qdi(N:Nat):V:=⟨⟨202,Q41,[Q91],u2 (Kt N),[]⟩,kF N [] [(8,.lp [0,1] [] ⟨[(5,Qdh),(6,zs2)],[(100000,Q42)]⟩ Jus),(16,.jn [6] [] Jut)] func202⟩
def Qdj(N:Nat):V:=⟨⟨139,Jwd,[(sD [Vv])],u2 (He N),[]⟩,kF N [Qh9,Qdi] [(3,.jn [4] [3,4] [(.n,⟨[(2,Qh2)],[(100000,Juu)]⟩)])] func139⟩
def Qf9(N:Nat):V:=⟨⟨95,Jur,[⟨Juv,[(1,Q93),(2,Qvx),(3,Qbv)]⟩],u2 (Fo N),[]⟩,kF N [B8,Ae,Qdj] [(3,.an (.dc 14 [7,8,9,10,11,12,13,14,15,16,17,18,19,5] [2] [] (.e 7 (.b 2 (.c 2 (.g [7] [] [10] [10] (.e 11 (.b 2 (.c 2 (.g [11] [] [14] [14] (.e 15 (.b 2 (.c 2 (.g [15] [] [18] [18] (.g [] [] [] [10,14,18] (.e 5 Ci)))))))))))))))),(5,.jn [] [2,3] [(.n,⟨[(4,Qh4),(5,Juw)],[(100100,.var 198 (.ag (sL [.ns,.ns,.ns]))),(100101,.var 198 (.ag (sL [Jux,.s 100103,.s 100104]))),(100102,Q93),(100103,Qvx),(100104,Qbv)]⟩),(.r,⟨[(4,Qvy)],[(100200,.var 198 (.ag (sL [Q44,Juy,.s 100203]))),(100201,Q93),(100202,Qvx),(100203,Qbv)]⟩)]),(15,.an (.dc 6 [66,67,68,69,70,71] [5] [2,3] (.b 5 (.d 5 10 (.c 2 (.b 3 (.c 3 (.k 0 [] [] [] [] Qh5)))))))),(21,.jn [2,3,4,5] [4,5,10,14,18] Jwe),(33,.an (.dc 10 [26,27,28,29,30,31,32,33,34,35] [5,14] [3] (.b 5 (.d 5 14 (.a (.b 5 (.d 5 14 (.a (.d 14 14 (.c 14 (.c 3 (.k 2 [] [] [] [] Q95))))))))))))] func95⟩
def Qga(N:Nat):V:=⟨⟨51,(sD [.sl Jq]),[Qh6],Fp N,[]⟩,kF N [Qf8,Qf9] [(18,.lp [0] [] ⟨[(4,Qh2),(5,zs2),(6,zs2)],[(100000,.var 198 (.ag (sL [Qts,Jpq,Juz]))),(100001,Q93),(100002,Qvx),(100003,Qbv)]⟩ [(.x 0,⟨[],[]⟩),(.r,⟨[(2,zs2),(3,zs2)],[]⟩)]),(28,.an (.dr 6 Q96 Q45)),(38,.an (.dr 5 (.n 5 .done) Jko))] func51⟩
def Qgb(N:Nat):V:=⟨⟨203,(sD [.sl .str]),[zs7],Fq N,[]⟩,kF N [Et] [(14,.lp [0] [] Pz Qp7),(35,.lp [0] [] Q40 Ju0),(45,.an (.dr 10 (.n 10 .done) .done))] func203⟩
def Qeq(N:Nat):V:=⟨⟨141,(sD [Zd]),[zs7],Ek N,[]⟩,kF N [Qgb] [] func141⟩
def Qj6(N:Nat):V:=⟨⟨96,Jwf,[zs7],Do N,[]⟩,kF N [Et,Qeq] [(46,.lp [1] [1] Pz Qp7)] func96⟩
def Qgc(N:Nat):V:=⟨⟨52,(sD [.sl J3]),[zs7],Fr N,[]⟩,kF N [Qj6] [(14,.lp [0] [] Pz Qp7),(34,.an (.dr 44 (.n 3 (.sp 24 41 [3] [] ⟨[(65,zs4)],[]⟩ (.nl 13 (.sp 37 27 [3,24] [] ⟨[(64,zs4)],[]⟩ (.nl 27 .done) (.nl 13 (.sp 50 13 [3,24,37] [] Ju1 Jpr Jpr (.nl 1 .done))) zs5)) (.nl 40 zs5) .done)) .done))] func52⟩
def Qgd(N:Nat):V:=⟨⟨204,Ju2,[zs1],Wk N,[]⟩,kF N [] [] func204⟩
def Qge(N:Nat):V:=⟨⟨205,Ju2,[zs1],Fs N,[]⟩,kF N [] [] func205⟩
def M9(N:Nat):V:=⟨⟨142,Qtq,[zs1],Gm N,[]⟩,kF N [Qgd,Qge] [(4,.rg (.n 9 (.sp 12 5 [0] [] zs9 G6 Q97 .done))),(14,.lp [0] [] Pz Qlw),(24,.rg (.n 3 (.call 0 (.n 2 (.sp 29 6 [3] [] ⟨[(35,zs4)],[]⟩ Jpn Qvw (.n 1 (.sp 36 5 [3] [] Jpo G6 G6 .done)))))))] func142⟩
def Na(N:Nat):V:=⟨⟨207,Qtq,[zs1],Gn N,[]⟩,kF N [] [(4,.rg (.n 9 (.sp 14 4 [0] [] Q92 Qfz Qfz (.n 1 (.sp 19 4 [0] [] ⟨[(23,zs4)],[]⟩ Qfz Qfz .done))))),(14,.lp [0] [] Pz Qlw),(24,.an (.dr 22 (.n 5 (.sp 34 5 [3] [] ⟨[(39,zs4)],[]⟩ G6 G6 (.n 5 (.sp 44 5 [3,39] [] Jpj G6 G6 Q94)))) .done)),(26,.rg (.n 7 (.sp 56 5 [3] [] ⟨[(61,zs4)],[]⟩ G6 G6 .done)))] func207⟩
def Qdk(N:Nat):V:=⟨⟨261,(sD [.sl V4,.i,.i]),[zs1],u3 (Hf N),[]⟩,kF N [] [(6,.lp [0,1,2] [] Q98 Jwg),(18,.lp [7] [] Qp8 [(.x 2,⟨[],[]⟩),(.r,⟨[(6,zs4)],[]⟩)]),(34,.an (.dr 17 (.n 17 .done) .done))] func261⟩
def Qia(N:Nat):V:=⟨⟨206,(sD [.sl V4,.i]),[zs7],u2 (Bp N),[]⟩,kF N [Na,Ln,Qdk] [(16,.lp [0,1,5] [5] Jkp Qn3),(26,.an (.dr 8 Qp9 .done)),(53,.lp [0,1,5] [5] Q98 [(.x 2,⟨[],[]⟩),(.r,Q40)])] func206⟩
def Qgf(N:Nat):V:=⟨⟨143,Jwh,[zs7],Ft N,[]⟩,kF N [Qia] [(14,.lp [0] [] Pz Qp7)] func143⟩
def Qgg(N:Nat):V:=⟨⟨208,(sD [.sl Zg,.bool]),[zs7],u2 (Fu N),[]⟩,kF N [] [(38,.lp [0] [] Mc Qn3)] func208⟩
def Qgh(N:Nat):V:=⟨⟨144,Jwi,[zs7],Fv N,[]⟩,kF N [Na,Qgg] [(22,.lp [0] [] Pz Qp7),(43,.lp [3] [] Q40 Ju0),(53,.an (.dr 11 (.n 11 .done) .done))] func144⟩
def Qib(N:Nat):V:=⟨⟨209,Jwj,[zs1],u2 (Bq N),[]⟩,kF N [] [(6,.lp [1,2] [2] Mc Qj5)] func209⟩
def Qic(N:Nat):V:=⟨⟨210,Jwj,[zs1],u2 (Br N),[]⟩,kF N [] [(6,.lp [1,2] [2] Mc Qj5)] func210⟩
def Qgi(N:Nat):V:=⟨⟨211,Ju3,[zs7],Fw N,[]⟩,kF N [] [(24,.lp [0] [] ⟨[(3,zs2),(4,zs2)],[]⟩ Qp7)] func211⟩
def Qgj(N:Nat):V:=⟨⟨145,Q46,[zs7],Fx N,[]⟩,kF N [Qib,Qic,Qgi] [(14,.lp [1] [1] Pz Qp7),(35,.rg (.n 3 (.call 0 (.n 2 (.sp 35 6 [3,4] [4] Jpo Qvw Jpn .done)))))] func145⟩
def Qgk(N:Nat):V:=⟨⟨320,zs7,[zs7],Fy N,[]⟩,kF N [] [] func320⟩
def Qj7(N:Nat):V:=⟨⟨327,Q41,[zs1],u2 (H4 N),[]⟩,kF N [] [(6,.lp [0,1] [] Mc Qj5)] func327⟩
def E5(N:Nat):V:=⟨⟨321,Qtq,[zs7],U7 N,[]⟩,kF N [Qj7] [] func321⟩
def Qj8(N:Nat):V:=⟨⟨299,Qxv,[zs7],Dp N,[]⟩,kF N [Qgk,E5] [(4,.an (.dc 6 [3,4,5,6,7,8] [1] [] (.b 1 (.c 1 (.k 0 [] [] [] [] (.b 1 (.c 1 Jck))))))),(28,.rg (.n 4 (.sp 35 5 [1] [1] ⟨[(40,zs4)],[]⟩ Jkm G6 .done)))] func299⟩
def Qer(N:Nat):V:=⟨⟨300,(sD [Xm,.sl .i]),[zs7],u2 (El N),[]⟩,kF N [E5] [(41,.an (.dr 7 Qtt .done)),(48,.jn [] [2] Jwc),(52,.jn [1,30] [] [(.n,⟨[(35,zs4)],[]⟩)]),(66,.jn [1,30] [] Jrj),(80,.jn [1] [] [(.n,Jpj)])] func300⟩
def C5(N n:Nat):Con:=⟨262,(sD [Xm,.i]),[Qh6],fun(x0,x1)=>Vx N n x0 x1,[]⟩
theorem Lp(N:Nat):∀n,KO (C5 N n)
 | 0=>⟨Qhp fun _=>rfl,Ka func262 rfl⟩
 | n+1=>have ih:=Lp N n; kF N [Qj8,fun _=>⟨_,ih⟩,Qer] [(26,.lp [1,2] [2] Jrk [(.x 0,⟨[(7,Qlx)],[(100100,Qbv)]⟩),(.r,Jrl)])] func262
def Ql5(N:Nat):V:=⟨C5 N N,Lp N N⟩
def Qid(N:Nat):V:=⟨⟨212,Qxv,[Qh6],Bs N,[]⟩,kF N [Ql5] [] func212⟩
def Qad(N:Nat):V:=⟨⟨146,Q46,[zs7],Wl N,[]⟩,kF N [M9,Qid] [(14,.lp [1] [1] Pz Qp7),(37,.lp [3,4] [4] Mc Ju0),(47,.an (.dr 9 (.n 9 .done) .done))] func146⟩
def Qes(N:Nat):V:=⟨⟨97,Q46,[zs7],Em N,[]⟩,kF N [M9,Qgf,Qgh,Qgj,Qad] [(21,.jn [1] [1] [(.n,Pz)]),(27,.jn [1] [1] [(.n,Pz)]),(33,.jn [] [1] [(.n,Pz)])] func97⟩
def Qgl(N:Nat):V:=⟨⟨98,(sD [Yg,Yg]),[zs7],u2 (Fz N),[]⟩,kF N [] [] func98⟩
def Qgm(N:Nat):V:=⟨⟨53,(sD [.sl Yg]),[zs7],F0 N,[]⟩,kF N [Qes,Qgl] [(14,.lp [0] [] Pz Qp7),(34,.jn [3] [] [(.n,⟨[(36,zs4)],[]⟩)]),(34,.an (.dc 12 [22,23,24,25,26,27,28,29,30,31,32,33] [] [] (.a (.a (.a (.so 24 (.a (.a (.a (.a (.a (.a (.a (.a (.a (.tl Jkl)))))))))) Jrm))))))] func53⟩
def Qgn(N:Nat):V:=⟨⟨27,(sD [Uq]),[zs1],F2 N,[]⟩,kF N [P1,Qga,Qgc,Qgm] [(14,.lp [1] [1] Pz Qlw),(24,.an (.dr 32 (.n 7 (.sp 38 7 [3] [] ⟨[(45,zs4)],[]⟩ Qp6 Qp6 (.n 1 (.sp 46 17 [3] [] Ju1 (.nl 16 zs5) (.nl 3 (.sp 49 13 [3,46] [] ⟨[(62,zs4)],[]⟩ Jpr Jpr zs5)) .done)))) .done)),(34,.rg (.n 3 (.sp 72 5 [1] [1] ⟨[(77,zs4)],[]⟩ Juq G6 (.n 1 (.sp 78 5 [1] [1] ⟨[(83,zs4)],[]⟩ (.nl 2 Jpl) G6 zs5)))))] func27⟩
def Qj9(N:Nat):V:=⟨⟨99,Jcl,[zs1],Dq N,[]⟩,kF N [] [(14,.lp [0] [] Pz Qlw)] func99⟩
def Qka(N:Nat):V:=⟨⟨54,Q47,[zs1],Dr N,[]⟩,kF N [Qj9] [] func54⟩
def Qdl(N:Nat):V:=⟨⟨100,Q48,[zs1],u2 (Hg N),[]⟩,kF N [] [] func100⟩
def Qie(N:Nat):V:=⟨⟨147,(sD [.sl Q8,Xn]),[zs7],u2 (Bt N),[]⟩,kF N [] [(6,.lp [0,3] [3] Mc Qn3)] func147⟩
def Qet(N:Nat):V:=⟨⟨101,(sD [.sl Q8,Q8]),[zs1],u2 (Eo N),[]⟩,kF N [Qie] [] func101⟩
def Qdm(N:Nat):V:=⟨⟨55,Jcl,[zs1],Hh N,[]⟩,kF N [Qdl,Qet] [(6,.lp [0] [] Pz Qlw),(16,.jn [3] [] [(.n,Jkq)]),(16,.an (.dc 19 [10,11,12,13,14,15,16,17,18,19,20,21,22,23,24,25,26,27,28] [] [] (.a (.a (.a (.a (.a (.a (.a (.a (.a (.k 0 [] [] [] [] (.a (.a (.so 21 Q49 (.a (.a (.a (.a (.a (.a (.a (.tl Jko)))))))))))))))))))))))] func55⟩
def Qae(N:Nat):V:=⟨⟨56,Jro,[zs1],Wm N,[]⟩,kF N [] [(6,.lp [0] [] Pz Qlw),(16,.an (.dr 12 (.n 12 .done) .done))] func56⟩
def Qif(N:Nat):V:=⟨⟨102,Qtq,[zs1],Gp N,[]⟩,kF N [] [(4,.rg (.n 9 (.sp 13 4 [0] [] zs9 Qfz Qfz (.n 1 (.sp 18 4 [0] [] Jum Qfz Qfz .done))))),(14,.lp [0] [] Pz Qlw)] func102⟩
def Qgo(N:Nat):V:=⟨⟨103,Jcm,[zs1],F3 N,[]⟩,kF N [] [] func103⟩
def Qgp(N:Nat):V:=⟨⟨57,Q5a,[zs7],F4 N,[]⟩,kF N [Qif,Qgo] [(39,.lp [1] [1] Pz [(.x 1,⟨[],[]⟩),(.r,⟨[(2,zs2)],[]⟩)])] func57⟩
def Qgq(N:Nat):V:=⟨⟨104,zs7,[zs1],Zt N,[]⟩,kF N [] [] func104⟩
def Qgr(N:Nat):V:=⟨⟨58,Jkr,[zs7],F5 N,[]⟩,kF N [Qgq] [(4,.rg (.n 9 (.sp 11 5 [1] [1] ⟨[(16,zs4)],[]⟩ G6 Q97 (.n 1 (.sp 17 5 [1] [1] Jum G6 Q97 (.n 6 (.sp 28 5 [1] [1] ⟨[(33,zs4)],[]⟩ G6 Q97 zs27)))))))] func58⟩
def Qkb(N:Nat):V:=⟨⟨28,Q47,[zs1],Ds N,[]⟩,kF N [Qka,Qdm,Qae,Qgp,Qgr] [(4,.rg (.n 1 (.call 0 (.n 2 (.sp 8 5 [1] [1] zs8 G6 Jkm (.n 1 (.sp 14 5 [1] [1] Jkk G6 Juq .done))))))),(14,.lp [1] [1] Pz Qlw),(35,.lp [1] [1] Q40 [(.x 2,⟨[],[]⟩),(.r,⟨[(2,zs4)],[]⟩)])] func28⟩
def C6(N n:Nat):Con:=⟨110,Qxv,[Qxv],fun x0=>Vy N n x0,[]⟩
theorem Lq(N:Nat):∀n,KO (C6 N n)
 | 0=>⟨Qhp fun _=>rfl,Ka func110 rfl⟩
 | n+1=>have ih:=Lq N n; kF N [fun _=>⟨_,Qaa⟩,fun _=>⟨_,ih⟩] [(8,.lp [1,2,10] [1,2] ⟨[(11,zs2)],[(10600,Jcn)]⟩ [(.x 0,⟨[],[(10600,Jcn)]⟩)]),(19,.an (.dc 9 [14,15,16,17,18,19,20,21,22] [10600] [1] (.b 1 (.d 1 10600 (.a (.b 1 (.d 1 10600 (.a (.d 10600 10600 (.c 10600 Jks))))))))))] func110
def Ql6(N:Nat):V:=⟨C6 N N,Lq N N⟩
def Qig(N:Nat):V:=⟨⟨65,Q46,[Jrq],Bu N,[]⟩,kF N [fun _=>⟨_,T6⟩,fun _=>⟨_,T7⟩,fun _=>⟨_,T8⟩,fun _=>⟨_,L9⟩,fun _=>⟨_,Zb⟩,fun _=>⟨_,T9⟩,fun _=>⟨_,Va⟩,Ql6] [(3,.an (.dc 13 [7,8,9,10,11,12,13,14,15,16,17,18,19] [1] [] (.b 1 (.c 1 (.k 0 [] [] [10900] [10900] (.b 1 (.c 1 (.k 1 [] [] [11200] [11200] (.b 1 (.c 1 (.k 2 [] [] [11500] [11500] (.b 1 (.c 1 (.k 3 [] [] [11800] [11800] (.b 1 (.tl Qtt)))))))))))))))),(8,.lp [1,2,25] [1,2,11200,11500,11800] ⟨[(26,zs2)],[(10900,Qf0)]⟩ [(.x 0,⟨[],[(10900,Qf0)]⟩)]),(19,.an (.dc 10 [29,30,31,32,33,34,35,36,37,38] [10900] [1] (.b 1 (.d 1 10900 (.a (.b 1 (.d 1 10900 (.a (.d 10900 10900 (.b 10900 (.c 10900 (.k 4 [] [] [13800] [13800] (.tl (.n 2 (.fz 13800 zs5))))))))))))))),(25,.lp [1,2,44] [1,2,10900,11500,11800] ⟨[(45,zs2)],[(11200,Qly)]⟩ [(.x 2,⟨[],[(11200,Qly)]⟩)]),(36,.an (.dc 10 [48,49,50,51,52,53,54,55,56,57] [11200] [1] (.b 1 (.d 1 11200 (.a (.b 1 (.d 1 11200 (.a (.d 11200 11200 (.b 11200 (.c 11200 (.k 5 [] [] [15700] [15700] (.tl (.n 2 (.fz 15700 zs5))))))))))))))),(42,.lp [1,2,63] [1,2,10900,11200,11800] ⟨[(64,zs2)],[(11500,Qtu)]⟩ [(.x 4,⟨[],[(11500,Qtu)]⟩)]),(53,.an (.dc 10 [67,68,69,70,71,72,73,74,75,76] [11500] [1] (.b 1 (.d 1 11500 (.a (.b 1 (.d 1 11500 (.a (.d 11500 11500 (.b 11500 (.c 11500 (.k 6 [] [] [17600] [17600] (.tl (.n 2 (.fz 17600 zs5))))))))))))))),(59,.lp [1,2,82] [1,2,10900,11200,11500] ⟨[(83,zs2)],[(11800,Q5b)]⟩ [(.x 6,⟨[],[(11800,Q5b)]⟩)]),(70,.an (.dc 10 [86,87,88,89,90,91,92,93,94,95] [11800] [1] (.b 1 (.d 1 11800 (.a (.b 1 (.d 1 11800 (.a (.d 11800 11800 (.b 11800 (.c 11800 (.k 7 [] [] [] [] Qh5))))))))))))] func65⟩
def Ql7(N:Nat):V:=⟨⟨32,(sD [Uq]),[⟨[(0,.ag (sL [Nu,Qh3,Q43,.s 4,.s 5,.s 6]))],[(1,Jrr),(2,Jco),(3,Qph),(4,.row 150 Hc),(5,Qbv),(6,Jcp)]⟩],L1 N,[]⟩,kF N [fun _=>⟨_,Rk⟩,fun _=>⟨_,Qbt⟩,fun _=>⟨_,Qh0⟩,fun _=>⟨_,Pw⟩,fun _=>⟨_,Np⟩,fun _=>⟨_,Lh⟩,Qig,fun _=>⟨_,Px⟩,fun _=>⟨_,Zb⟩,fun _=>⟨_,Va⟩] [(3,.an (.dc 10 [8,9,10,11,12,13,14,15,16,17] [1] [] (.b 1 (.c 1 (.k 0 [] [] [11000] [11000] (.b 1 (.c 1 (.k 1 [] [] [11300] [11300] (.b 1 (.c 1 (.k 2 [] [] [11600] [11600] Jrs))))))))))),(5,.an (.dc 10 [20,21,22,23,24,25,26,27,28,29] [1] [] (.b 1 (.c 1 (.k 3 [] [] [12200] [12200] (.b 1 (.c 1 (.k 4 [] [] [12500] [12500] (.b 1 (.c 1 (.k 5 [] [] [12800] [12800] Jrs))))))))))),(10,.lp [1,2,34] [1,2,11000,11300,11600,12500,12800] ⟨[(35,zs2)],[(12200,Jco)]⟩ [(.x 0,⟨[],[(12200,Jco)]⟩)]),(21,.an (.dc 9 [38,39,40,41,42,43,44,45,46] [12200] [1] (.b 1 (.d 1 12200 (.a (.b 1 (.d 1 12200 (.a (.d 12200 12200 (.c 12200 (.k 6 [] [] [14604,14603,14602,14601] [14601,14602,14603,14604] (.tl (.n 1 (.fz 14601 (.fz 14602 (.fz 14603 (.fz 14604 zs5))))))))))))))))),(27,.lp [1,2,51] [1,2,11000,11300,11600,12200,12800] ⟨[(52,zs2)],[(12500,Qph)]⟩ [(.x 2,⟨[],[(12500,Qph)]⟩)]),(44,.lp [4,52,63] [12500] ⟨[(5,Qxw),(64,zs2)],[(100300,Qxx)]⟩ [(.x 4,⟨[(5,Q5c)],[(100400,Qxx)]⟩)]),(55,.rg (.n 7 (.call 8 (.n 2 (.fz 17400 zs5))))),(57,.rg (.n 6 (.fz 100400 zs5))),(63,.lp [1,2,87] [1,2,11000,11300,11600,12200,12500] ⟨[(88,zs2)],[(12800,Jcp)]⟩ [(.x 6,⟨[],[(12800,Jcp)]⟩)]),(74,.an (.dc 10 [91,92,93,94,95,96,97,98,99,100] [12800] [1] (.b 1 (.d 1 12800 (.a (.b 1 (.d 1 12800 (.a (.d 12800 12800 (.b 12800 (.c 12800 (.k 9 [] [] [20000] [20000] (.tl (.n 2 (.fz 20000 zs5)))))))))))))))] func32⟩
def P3(N:Nat):V:=⟨⟨33,Q47,[Q5d],H5 N,[]⟩,kF N [fun _=>⟨_,Hs⟩,fun _=>⟨_,Ht⟩,fun _=>⟨_,G3⟩,fun _=>⟨_,Zb⟩] [(3,.an (.dc 11 [5,6,7,8,9,10,11,12,13,14,3] [1] [] (.b 1 (.c 1 (.k 0 [] [] [10700] [10700] (.b 1 (.c 1 (.k 1 [] [] [11000] [11000] (.b 1 (.c 1 (.k 2 [] [] [11300] [11300] (.g [] [] [] [10700,11000,11300] (.e 3 Ci))))))))))))),(8,.lp [2,3,17] [1,2,3,11000,11300] ⟨[(18,zs2)],[(10700,Ug)]⟩ [(.x 0,⟨[],[(10700,Ug)]⟩)]),(19,.an (.dc 10 [21,22,23,24,25,26,27,28,29,30] [10700] [3] (.b 3 (.d 3 10700 (.a (.b 3 (.d 3 10700 (.a (.d 10700 10700 (.b 10700 (.c 10700 (.k 3 [] [] [13000] [13000] (.tl (.n 2 (.fz 13000 zs5)))))))))))))))] func33⟩
def Ql8(N:Nat):V:=⟨⟨9,(sD [Uq,J2]),[⟨Jcq,[(1,.var 91 (.ag (sL [.ag (sL [Qh3,Q43,.s 4,.s 5,.s 6,.s 7]),.ag (sL [.s 8,.s 9,.s 10]),.m 11]))),(2,Jrr),(3,Jco),(4,Qph),(5,.row 150 Hc),(6,Qbv),(7,Jcp),(8,Ug),(9,Yy),(10,Lj),(11,C4)]⟩],u2 (Qcx N),[]⟩,kF N [Ql7,P3] [(3,.an (.dc 5 [5,6,7,8,9] [2,3] [] (.c 2 (.k 0 [] [] [10606,10605,10604,10603,10602,10601] [10601,10602,10603,10604,10605,10606] (.c 3 (.k 1 [] [] [10803,10802,10801] [10801,10802,10803] (.e 9 Qh5)))))))] func9⟩
def Qn4(N:Nat):V:=⟨⟨37,Jrt,[(sD [Sd])],u2 (Hi N),[]⟩,kF N [] [] func37⟩
def Nb(N:Nat):V:=⟨⟨115,Q47,[Q5d],Gq N,[]⟩,kF N [fun _=>⟨_,Hs⟩,fun _=>⟨_,Ht⟩,fun _=>⟨_,G3⟩,fun _=>⟨_,Zb⟩] [(3,.an (.dc 11 [5,6,7,8,9,10,11,12,13,14,3] [1] [] (.b 1 (.c 1 (.k 0 [] [] [10700] [10700] (.b 1 (.c 1 (.k 1 [] [] [11000] [11000] (.b 1 (.c 1 (.k 2 [] [] [11300] [11300] (.g [] [] [] [10700,11000,11300] (.e 3 Ci))))))))))))),(8,.lp [2,3,17] [1,2,3,11000,11300] ⟨[(18,zs2)],[(10700,Ug)]⟩ [(.x 0,⟨[],[(10700,Ug)]⟩)]),(19,.an (.dc 10 [21,22,23,24,25,26,27,28,29,30] [10700] [3] (.b 3 (.d 3 10700 (.a (.b 3 (.d 3 10700 (.a (.d 10700 10700 (.b 10700 (.c 10700 (.k 3 [] [] [13000] [13000] (.tl (.n 2 (.fz 13000 zs5)))))))))))))))] func115⟩
def C7(N:Nat):V:=⟨⟨114,Jru,[Jrw],Xf N,[]⟩,kF N [fun _=>⟨_,E4⟩,fun _=>⟨_,Va⟩] [] func114⟩
def B9(N:Nat):V:=⟨⟨78,(sD [J2,Yb,J6,.i]),[⟨[(0,.ag (sL [Nu,Qh3,Q43])),(1,.ag (sL [zs2,zs2,zs2,zs2,.ag (sL [zs2,zs2,zs2,V2,V2,zs2,.ag (sL [zs2,V2,V2,zs2,.s 4]),zs2,zs2]),zs2,.s 5,zs2,zs2,zs4,Kz])),(2,Kz)],[(1,Ug),(2,Yy),(3,Lj),(4,Qtv),(5,Ze)]⟩],u4 (Uu N),[]⟩,kF N [Nb,C7] [(3,.an (.dc 12 [11,12,13,14,15,16,17,18,19,20,1000000010,1000000011] [4,5,6,8,9] [] (.c 4 (.k 0 [] [] [11203,11202,11201] [11201,11202,11203] (.c 5 (.k 1 [] [] [11402,11401] [11401,11402] (.b 6 (.c 6 (.b 6 (.c 6 (.a (.a (.g [8] [11201,11202,11203] [] [8,11201,11202,11203] (.g [9] [11401,11402] [] [9,11401,11402] Ci))))))))))))))] func78⟩
def Qt0(N:Nat):V:=⟨⟨227,Ju2,[zs1],Qcy N,[]⟩,kF N [] [] func227⟩
def P4(N:Nat):V:=⟨⟨162,Qtq,[zs1],H6 N,[]⟩,kF N [Qt0] [(6,.lp [0,5] [] Jkp Qlw)] func162⟩
def Qn5(N:Nat):V:=⟨⟨316,Q41,[Q91],u2 (O6 N),[]⟩,kF N [] [(6,.lp [0,1] [] Mc [(.x 0,Mc)]),(9,.rg (.n 5 (.sp 11 7 [5] [] Q92 Qp6 Qp6 .done)))] func316⟩
def Qih(N:Nat):V:=⟨⟨317,Q41,[Q91],u2 (Bv N),[]⟩,kF N [] [(8,.lp [1,8,9] [] ⟨Jku,[(100000,Q42)]⟩ Jus),(16,.jn [10] [] Jut)] func317⟩
def Qn6(N:Nat):V:=⟨⟨294,Jwd,[(sD [Vv])],u2 (O7 N),[]⟩,kF N [Qn5,Qih] [(3,.jn [] [3] [(.n,⟨[(2,Qlz),(4,Jkv)],[(100300,Juu),(100301,Jcr)]⟩),(.r,⟨[(4,Qvy)],[(100200,Jcr)]⟩)]),(31,.jn [2,3,4,6] [2,4] Jrj),(39,.jn [2,3,4] [2,4] [(.n,Jpj)])] func294⟩
def Qii(N:Nat):V:=⟨⟨248,Qxy,[⟨Qh1,[(1,Qpi)]⟩],u2 (Bw N),[]⟩,kF N [Qn6] [(10,.lp [1,10,11] [] ⟨[(5,Qdh),(6,Q5e),(12,zs2)],[(100000,Qpi),(100001,Jkx)]⟩ [(.x 0,⟨[(5,Qxw)],[(100300,Qpi)]⟩)]),(18,.jn [12] [] [(.n,⟨[(5,Qtr),(6,Jky)],[(100200,Qpi),(100201,Jkx)]⟩)]),(32,.an (.dr 13 (.n 3 (.sp 31 10 [5,6,8,9,12] [8,100000,100001] Jpo Jcs Jcs .done)) .done))] func248⟩
def Ql9(N:Nat):V:=⟨⟨250,(sD [Vv,Vv]),[zs1],u2 (L2 N),[]⟩,kF N [] [(14,.lp [3,43,44] [2,3] ⟨[(45,zs2)],[]⟩ Qj5)] func250⟩
def Qgs(N:Nat):V:=⟨⟨249,Jrx,[zs1],u2 (F6 N),[]⟩,kF N [Ql9] [] func249⟩
def Qgt(N:Nat):V:=⟨⟨251,Jrx,[(sD [Vw])],u2 (F7 N),[]⟩,kF N [] [] func251⟩
def E6(N:Nat):V:=⟨⟨247,⟨[(0,.d (.sl Vw)),(1,.f 249 .nil),(2,.f 251 .nil)],[]⟩,[⟨Qh1,[(1,Qpi)]⟩],Vo N,[]⟩,kF N [Qgs,Qgt] [(8,.lp [1,2,11,12] [] ⟨Jry,[(100000,Qpi)]⟩ [(.x 0,⟨[(7,Qtr)],[(100200,Qpi)]⟩)]),(16,.jn [13] [] [(.n,⟨[(7,Qlx)],[(100100,Qpi)]⟩)]),(22,.an (.dc 10 [19,20,21,22,23,24,25,26,27,28] [100000,9] [] (.a (.a (.a (.so 21 (.a (.b 100000 (.a (.a (.d 100000 100000 (.c 100000 (.c 9 (.tl Q45)))))))) Q49)))))),(24,.an (.dc 11 [31,32,33,34,35,36,37,38,39,40,41] [100000,9] [] (.b 100000 (.a (.a (.a (.b 100000 (.a (.a (.d 100000 100000 (.c 100000 (.c 9 Jks))))))))))))] func247⟩
def P5(N:Nat):V:=⟨⟨181,Qxy,[⟨Qh1,[(1,Jct)]⟩],u2 (H7 N),[]⟩,kF N [Qii,E6] [(10,.lp [5,14,15] [11201,11301] ⟨Jrz,[(100000,Jct)]⟩ [(.x 0,⟨[(6,Qxw)],[(100300,Jct)]⟩)]),(18,.jn [16] [] [(.n,⟨[(6,Qtr)],[(100200,Jct)]⟩)]),(30,.jn [6,8,16] [8,100000] [(.n,⟨[(9,Qh4)],[(100100,.var 127 Qpj)]⟩)]),(35,.an (.dc 17 [40,41,42,43,44,45,46,47,48,49,50,51,52,53,54,55,56] [100100,8] [] (.b 100000 (.c 100100 (.b 8 (.b 8 (.c 8 (.b 8 (.b 8 (.c 8 (.e 48 (.b 8 (.b 8 (.c 8 (.b 8 (.b 8 (.c 8 (.b 48 (.op ⟨.fz 48 (.nl 1 .done),[48],[],[],[48]⟩ Q95)))))))))))))))))))] func181⟩
def Ea(N:Nat):V:=⟨⟨252,Jcm,[zs1],Zu N,[]⟩,kF N [] [] func252⟩
def Nc(N:Nat):V:=⟨⟨182,(sD [J4,.i]),[zs1],u2 (Gr N),[]⟩,kF N [Ea] [] func182⟩
def Ca(N:Nat):V:=⟨⟨123,Jcu,[(sD [Dn,.bool])],u3 (H8 N),[]⟩,kF N [P5,Nc] [(6,.lp [2,12,13] [11201] ⟨[(6,Qh2),(14,zs2)],[(100000,Jr0)]⟩ [(.x 0,⟨[(6,Qh4)],[(100100,Jr0)]⟩),(.r,⟨Jkz,[(100200,.var 235 (.d Dn))]⟩)])] func123⟩
def Qn7(N:Nat):V:=⟨⟨256,(sD []),[⟨Jcq,[(1,.var 414 (.ag (sL [.m 2,.m 3,.m 4,.m 5,.m 6,.ns,.ns]))),(2,Q5f),(3,.map .i Vv),(4,Qpk),(5,.map .str .i),(6,B7)]⟩],fun _=>O9 N,[]⟩,kF N [] [] func256⟩
def Qqa(N:Nat):V:=⟨⟨257,Qxy,[⟨[(0,.f 296 (sL [.p 1 [],.p 2 []]))],[(1,.var 22 Jk0),(2,P0)]⟩],u2 (Tm N),[]⟩,kF N [] [] func257⟩
def Qkc:AnY:=(.two (.reg (.n 3 .done)) (.un (.lp [2,6,7] [] ⟨[(8,.d .i)],[]⟩ [(.x 0,⟨[],[]⟩),(.r,⟨[],[]⟩)] (.two (.reg (.n 1 .done)) (.two (.two .nil .nil) (.two (.un (.two (.reg (.n 4 .done)) (.two (.yr (.h 5 (.n 5 .done) (.so 16 (.mv (.h 1 (.nl 1 .done) (.yl (.h 2 (.nl 1 (.n 1 .done)) .done)))) (.h 5 (.nl 4 (.n 1 .done)) .done)))) (.two .nil .nil)))) (.reg (.n 2 .done))))))))
def P6(N:Nat):It:=⟨296,[(.sl Jq),(.int .i64)],Jq,fun(x1,x2)=>L3 N x1 x2⟩
theorem Qij(N:Nat):IO (P6 N):=⟨Jpf (Y:=tx) (N:=N) (it:=P6 N) (an:=Qkc) G2 G1 (Jci N []) func296 rfl (fun x=>by kernel_rfl),Ka func296 rfl⟩
def Qgu(N:Nat):V:=⟨⟨297,Jcv,[⟨Qh1,[(1,Qbv)]⟩],u2 (Wn N),[]⟩,kF N [] [(6,.lp [0,1] [] Mc [(.x 0,Mc)]),(9,.rg (.n 5 (.sp 11 7 [5] [] Q92 Qp6 Qp6 .done)))] func297⟩
def Qbw(N:Nat):V:=⟨⟨318,Q41,[Q91],u2 (Z5 N),[]⟩,kF N [] [(6,.lp [0,1] [] Mc [(.x 0,Mc)]),(9,.rg (.n 5 (.sp 11 7 [5] [] Q92 Qp6 Qp6 .done)))] func318⟩
def Qma(N:Nat):V:=⟨⟨319,Q41,[Q91],u2 (Fd N),[]⟩,kF N [] [(8,.lp [1,8,9] [] ⟨Jku,[(100000,Q42)]⟩ Jus),(16,.jn [10] [] Jut)] func319⟩
def Qaf(N:Nat):V:=⟨⟨298,⟨[(0,Xc),(1,Jkw),(2,.d Jq)],Jk1⟩,[⟨[(0,Jkw)],Jk2⟩],u9 (Wo N),[5000,5001,5002,5003,5005,5006,5007]⟩,kF N [Qbw,Qma] [(3,.jn [6] [5,6] [(.n,⟨[(4,Q5e)],[(5004,.map .str .i),(100001,Juu)]⟩)]),(10,.an (.dr 8 Qp9 zs5)),(16,.an (.dr 6 Q96 zs5))] func298⟩
def Rt(N:Nat):V:=⟨⟨258,⟨[(0,Xc),(1,.d Jq)],Jk1⟩,[⟨[],[(5000,.var 414 (.ag (sL [Qtw,Qf1,Jcw,Jcx,Jcy,Nu,Qh3]))),(5001,Q5f),(5002,.map .i Vv),(5003,Qpk),(5004,.map .str .i),(5005,B7),(1,Qbv),(2,Qbv)]⟩],u8 (Xp N),[]⟩,kF N [Qgu,Qaf] [(9,.jn [3] [3] [(.n,⟨Eg,[(5000,.var 414 (.ag (sL [Qtw,Qf1,Jcw,Jcx,Jcy,.s 100006,.s 100007]))),(5001,Q5f),(5002,.map .i Vv),(5003,Qpk),(5004,.map .str .i),(5005,B7),(100006,Qbv),(100007,Qbv)]⟩)]),(10,.an (.dc 12 [38,39,40,41,42,43,44,37,45,46,4,1000000011] [5000,5001] [3] (.b 5000 (.d 5000 5000 (.b 5000 (.d 5000 5001 (.b 3 (.c 3 (.c 5001 (.a (.a (.a (.e 4 (.f 4 4 Ci)))))))))))))),(14,.gh (.fz 5006 Qf2)),(14,.an (.dc 8 [49,50,51,52,53,54,55,56] [5000] [3] (.b 5000 (.b 5000 (.d 5000 5000 (.b 5000 (.c 5000 (.b 3 (.c 3 (.k 0 [] [] [15601] [15601] Qh5)))))))))),(16,.an (.dr 16 (.n 16 .done) zs5)),(21,.an (.dc 8 [77,78,79,80,81,82,83,6] [5000,3,5001] [] (.b 5000 (.d 5000 5000 (.b 5000 (.d 5000 5001 (.b 3 (.c 3 (.c 5001 (.e 6 Ci)))))))))),(24,.an (.dr 7 Qtt zs5)),(29,.jn [3] [3] [(.n,⟨Eg,[(5000,.var 414 (.ag (sL [Qtw,Qf1,Jcw,Jcx,Jcy,.s 100106,.s 100107]))),(5001,Q5f),(5002,.map .i Vv),(5003,Qpk),(5004,.map .str .i),(5005,B7),(100106,Qbv),(100107,Qbv)]⟩)]),(30,.an (.dr 8 Qp9 .done)),(32,.gh (.fz 5007 Qf2)),(32,.an (.dc 8 [102,103,104,105,106,107,108,109] [5000] [3] (.b 5000 (.b 5000 (.d 5000 5000 (.b 5000 (.c 5000 (.b 3 (.c 3 (.k 0 [] [] [20901] [20901] Qh5)))))))))),(35,.an (.dr 6 Q96 zs5)),(37,.an (.dr 8 Qp9 zs5)),(38,.an (.dr 15 zs27 zs5)),(43,.an (.dc 8 [143,144,145,146,147,148,149,7] [5000,3,5002] [] (.b 5000 (.d 5000 5000 (.b 5000 (.d 5000 5002 (.b 3 (.c 3 (.c 5002 (.e 7 Ci)))))))))),(48,.lp [0,3,7,151,152] [3,7,5000,5001,5002,5003,5005,5006,5007] ⟨[(153,zs2)],Jk2⟩ [(.x 1,⟨[],Jk2⟩)]),(62,.an (.dr 8 Qp9 zs5)),(63,.an (.dr 6 Q96 zs5)),(65,.jn [0,3] [3,5000,5001,5002,5003,5004,5005,5006,5007] [(.n,⟨[(177,zs4)],[]⟩)]),(73,.an (.dc 12 [15,16,17,18,19,20,21,14,22,23,10,1000000011] [5000,3,5002] [] (.b 5000 (.d 5000 5000 (.b 5000 (.d 5000 5002 (.b 3 (.c 3 (.c 5002 (.a (.a (.a (.e 10 (.f 10 10 Ci)))))))))))))),(77,.an (.dc 10 [25,26,27,28,29,30,31,32,33,34] [5000,3,10,5004,5001,5002,5003,5005,5006,5007] [] (.b 5000 (.d 5000 5000 (.b 5000 (.d 5000 5002 (.b 3 (.c 3 (.b 5000 (.c 10 (.c 3 (.k 1 [5004] [5000,5001,5002,5003,5005,5006,5007] [] [5004] Ci))))))))))))] func258⟩
def P7(N:Nat):V:=⟨⟨259,⟨Eg,Jk1⟩,[Jr1],u7 (K4 N),[5000,5001,5002,5003,5004,5005,5006,5007]⟩,kF N [] [(5,.rg (.br zs5)),(10,.lp [0,2,16,17] [2] ⟨[(3,Qh2),(4,.m 100001),(18,zs2)],[(100000,.var 323 (.ag (sL [.ns,Jpq]))),(100001,Jk3),(100002,Qvx)]⟩ [(.x 0,⟨[(3,Qvy),(4,.m 100201)],[(100200,.var 323 (.ag (sL [.ns,Juy]))),(100201,Jk3),(100202,Qvx)]⟩)]),(18,.jn [18] [] [(.n,⟨[(3,Qh4),(4,.m 100101)],[(100100,.var 323 (.ag (sL [.ns,Jux]))),(100101,Jk3),(100102,Qvx)]⟩)]),(30,.gh (.op (.v 7 [.f 1 1]) 100001 700000 .done)),(30,.an (.dc 10 [33,34,35,36,37,38,39,40,41,42] [7,100001,700000] [] (.b 100001 (.b 7 (.c 7 (.b 100001 (.b 7 (.c 7 (.op ⟨.br .done,[],[100001,700000],[],[700000]⟩ (.a (.a (.g [700000] [] [42] [42] (.tl (.br .done)))))))))))))),(37,.gh (.fm 100201 .done)),(37,.lp [0,2,4,53,54] [2,100201] ⟨[(3,Qlz),(55,zs2)],[(100300,.var 323 (.ag (sL [Qtx,Q5g]))),(100301,Q93),(100302,Qvx)]⟩ [(.x 2,⟨[(3,Jcz)],[(100400,.var 323 (.ag (sL [Q5h,Jc0]))),(100401,Q93),(100402,Qvx)]⟩)])] func259⟩
def Qmb:AnR:=(.pre (.reg (.n 1 .done)) (.pre (.reg (.call 0 (.n 2 .done))) (.inn (.pre (.reg (.n 2 (.call 1 .done))) (.un (.rf 0 [4,5] [4,5] ⟨[],[(10701,.var 414 (.ag (sL [.m 100001,.m 100002,.m 100003,.m 100004,.m 100005,.s 100006,.s 100007]))),(100001,.map .i U6),(100002,.map .i Vv),(100003,.map .i .bool),(100004,.map .str .i),(100005,.map .i .i),(100006,.row 3 .i),(100007,.row 3 .i)]⟩ (.reg (.n 2 .done)) (.un (.reg (.n 2 (.call 2 .done))))))) (.two (.reg (.n 1 (.call 3 (.n 1 .done)))) .nil))))
def Qbx(N:Nat):V:=⟨⟨187,Qxy,[Jr1],u2 (Bx N),[]⟩,kR N [Qn7,Qqa,Rt,P7] [⟨_,Qij N⟩] Qmb func187 rfl fun x=>by kernel_rfl⟩
def Qt1(N:Nat):V:=⟨⟨163,Jcu,[(sD [Vv,.bool])],u3 (Qcz N),[]⟩,kF N [Qbx] [(6,.lp [1,13,14] [11201,11202] ⟨Jr2,[(100000,Jcr)]⟩ [(.x 0,⟨[(6,Qh4)],[(100100,Jcr)]⟩),(.r,⟨Jkz,[(100200,Jkx)]⟩)])] func163⟩
def Qdn(N:Nat):V:=⟨⟨270,(sD [.sl .str]),[Q91],Hk N,[]⟩,kF N [] [] func270⟩
def Qag(N:Nat):V:=⟨⟨271,Jr3,[⟨Qh1,[(1,.row 221 Zg)]⟩],Wp N,[]⟩,kF N [] [] func271⟩
def Qah(N:Nat):V:=⟨⟨272,Ju3,[⟨Qh1,Jc1⟩],Wq N,[]⟩,kF N [] [] func272⟩
def Sv(N n:Nat):Con:=⟨273,Qxv,[Qxv],fun x0=>K5 N n x0,[]⟩
theorem Qby(N:Nat):∀n,KO (Sv N n)
 | 0=>⟨Qhp fun _=>rfl,Ka func273 rfl⟩
 | n+1=>have ih:=Qby N n; kF N [fun _=>⟨_,ih⟩] [(8,.lp [1,2,7,8] [1,2] ⟨[(3,Qdh),(9,zs2)],[(100000,Jcn)]⟩ [(.x 0,⟨Qxz,[(100100,Jcn)]⟩)])] func273
def Qvz(N:Nat):V:=⟨Sv N N,Qby N N⟩
def Qt2(N:Nat):V:=⟨⟨228,Q46,[Jrq],Qc0 N,[]⟩,kF N [Qdn,Qag,Qah,Qvz] [(10,.lp [1,2,18,19] [1,2] ⟨[(3,Qh2),(20,zs2)],[(100000,.var 146 (.ag (sL [V2,zs2,zs4,Qts,.ns,.ns,.ns]))),(100001,Qf0)]⟩ [(.x 0,⟨[(3,Qh4)],[(100100,.var 146 (.ag (sL [V2,zs2,zs4,Ql0,.ns,.ns,.ns]))),(100101,Qf0)]⟩)]),(21,.an (.dc 9 [24,25,26,27,28,29,30,31,32] [100000,5] [] (.b 100000 (.d 100000 100001 (.b 5 (.c 5 (.b 5 (.c 5 (.k 0 [] [] [13001] [13001] (.b 13001 (.op ⟨.fz 13001 (.nl 1 .done),[13001],[],[],[13001]⟩ Qh5))))))))))),(27,.lp [1,2,37,38] [1,2] ⟨[(3,Qvy),(39,zs2)],[(100200,.var 146 (.ag (sL [V2,zs2,zs4,Q44,Juy,.ns,.ns]))),(100201,Qf0),(100202,Qly)]⟩ [(.x 2,⟨[(3,Qlz)],[(100300,.var 146 (.ag (sL [V2,zs2,zs4,Qtx,Q5g,.ns,.ns]))),(100301,Qf0),(100302,Qly)]⟩)]),(38,.an (.dc 9 [43,44,45,46,47,48,49,50,51] [100200,7] [] (.b 100200 (.d 100200 100202 (.b 7 (.c 7 (.b 7 (.c 7 (.k 1 [] [] [14901] [14901] (.b 14901 (.op ⟨.fz 14901 (.nl 1 .done),[14901],[],[],[14901]⟩ Qh5))))))))))),(44,.lp [1,2,56,57] [1,2] ⟨[(3,Jcz),(58,zs2)],[(100400,.var 146 (.ag (sL [V2,zs2,zs4,Q5h,Jc0,.s 100403,.ns]))),(100401,Qf0),(100402,Qly),(100403,Qtu)]⟩ [(.x 4,⟨[(3,.p 100500 [])],[(100500,.var 146 (.ag (sL [V2,zs2,zs4,Jc2,Jk4,.s 100503,.ns]))),(100501,Qf0),(100502,Qly),(100503,Qtu)]⟩)]),(57,.rg (.n 3 (.fz 16401 Jk5))),(63,.lp [2,74,75] [1,2] ⟨[(3,Jk6),(76,zs2)],[(100600,.var 146 (.ag (sL [V2,zs2,zs4,Jk7,.s 100602,.s 100603,.s 100604]))),(100601,Qf0),(100602,Qly),(100603,Qtu),(100604,Q5b)]⟩ [(.x 6,⟨[(3,Jk8)],[(100700,.var 146 (.ag (sL [V2,zs2,zs4,Jk9,.s 100702,.s 100703,.s 100704]))),(100701,Qf0),(100702,Qly),(100703,Qtu),(100704,Q5b)]⟩)])] func228⟩
def Q5r(N:Nat):V:=⟨⟨164,(sD [.sl Yg,.str,.i]),[⟨[(0,.ag (sL [V2,zs2,zs4,Nu,Qh3,Q43,.s 4])),(1,zs4)],Jrp⟩],u3 (Qn1 N),[]⟩,kF N [Qt2] [(8,.lp [0,1,2,6,11,12] [6] ⟨[(8,zs2),(13,zs2)],[]⟩ Jla),(16,.jn [13] [] [(.n,Qp8)])] func164⟩
def Q0i(N:Nat):V:=⟨⟨274,Qtq,[zs1],Qjz N,[]⟩,kF N [] [(6,.lp [0,6] [] Q98 Qlw)] func274⟩
def Qqb(N:Nat):V:=⟨⟨276,⟨[(0,.d V4),(1,Xc)],Jr4⟩,[zs1],u2 (Tn N),[5000]⟩,kF N [] [] func276⟩
def Nv(N:Nat):V:=⟨⟨304,Jr5,[zs7],u2 (Kf N),[5000]⟩,kF N [Qqb] [(6,.lp [0,1,7] [] Qp8 Qn3),(18,.rg (.n 5 (.call 0 .done)))] func304⟩
def D4(N:Nat):V:=⟨⟨275,Jr5,[zs1],u2 (Uv N),[5000]⟩,kF N [Nv] [] func275⟩
def Qv0(N:Nat):V:=⟨⟨229,Jwh,[⟨[(0,.m 1),(1,zs2)],[(1,Qx0)]⟩,⟨[(0,.nm),(1,zs2)],[]⟩],Qfp N,[]⟩,kF N [Q0i,D4,P4] [(16,.lp [0,15,16] [] ⟨[(4,Jlc),(17,zs2)],[(100000,Qx0)]⟩ [(.x 0,⟨[(4,.m 100400)],[(100400,Qx0)]⟩),(.r,⟨[(2,.nm),(3,zs2)],[]⟩)]),(57,.lp [6,17,44,45] [6] ⟨[(4,Jld),(46,zs2)],[(100100,Qx0)]⟩ [(.x 3,⟨[(4,.m 100200)],[(100200,Qx0)]⟩),(.r,⟨[(2,.nm),(3,zs2)],[]⟩)])] func229⟩
def Qqc(N:Nat):V:=⟨⟨230,⟨[(0,.m 5000),(1,V2),(2,zs2)],[(5000,Qx0)]⟩,[(sD [.str,.bool])],u3 (To N),[5000]⟩,kF N [] [(4,.lp [0,1] [] ⟨[(2,zs2)],[]⟩ [(.x 0,⟨[],[]⟩),(.r,⟨[(6,V2),(7,zs4)],[]⟩)])] func230⟩
def Q0j(N:Nat):V:=⟨⟨165,(sD [.sl V4,.str]),[(sD [.str,.bool])],u2 (Qj0 N),[]⟩,kF N [Qv0,P4,Qqc] [(4,.an (.cn 6 (.two (.two (.reg (.n 3 (.sp 15 4 [1,6] [] Jkk Qfz (.nl 1 Jkl) .done))) (.two Jr6 (.gh (.tl .done) .nil))) .nil) (.two (.two (.reg (.n 3 (.sp 15 4 [1,6] [11001] Jkk Qfz (.nl 1 Jkl) .done))) (.two Jr6 .nil)) (.two (.reg (.n 4 (.call 2 Jk5))) .nil))))] func165⟩
def Q0k(N:Nat):V:=⟨⟨277,Qtq,[zs1],Qj1 N,[]⟩,kF N [] [(6,.lp [0,6] [] Q98 Qlw)] func277⟩
def Qqd(N:Nat):V:=⟨⟨279,⟨[(0,.d V9),(1,Xc)],Jr7⟩,[zs1],u2 (Tp N),[5000]⟩,kF N [] [] func279⟩
def Nw(N:Nat):V:=⟨⟨305,Jr8,[zs7],u2 (Kg N),[5000]⟩,kF N [Qqd] [(6,.lp [0,1,7] [] Qp8 Qn3),(18,.rg (.n 5 (.call 0 .done)))] func305⟩
def D5(N:Nat):V:=⟨⟨278,Jr8,[zs1],u2 (Uw N),[5000]⟩,kF N [Nw] [] func278⟩
def Qv1(N:Nat):V:=⟨⟨280,Jr3,[zs7],Qfr N,[]⟩,kF N [] [(22,.lp [11,12] [] Jle Qp7)] func280⟩
def Qv2(N:Nat):V:=⟨⟨232,Jwi,[zs7],Qft N,[]⟩,kF N [Q0k,D5,Qv1] [(22,.lp [0,12,13] [] ⟨[(14,zs2)],[]⟩ Qp7),(30,.jn [14] [] [(.n,⟨[],[]⟩),(.r,⟨[(2,zs2)],[]⟩)])] func232⟩
def Qkd(N:Nat):V:=⟨⟨307,Jcv,[zs7],u2 (Dt N),[]⟩,kF N [] [(6,.lp [0,1,7] [] Qp8 Qn3)] func307⟩
def Qeu(N:Nat):V:=⟨⟨283,Jcv,[zs1],u2 (Ep N),[]⟩,kF N [Qkd] [] func283⟩
def Qke(N:Nat):V:=⟨⟨284,zs7,[zs7],Du N,[]⟩,kF N [] [] func284⟩
def Q5s(N:Nat):V:=⟨⟨234,Jcv,[zs7],u2 (Qn2 N),[]⟩,kF N [Qeu,Qke] [] func234⟩
def Qt3(N:Nat):V:=⟨⟨281,⟨[(0,.d Zg),(1,Xc),(2,Qf3)],Jr9⟩,[zs1],u3 (Qc1 N),[5000,5001]⟩,kF N [] [] func281⟩
def Nx(N:Nat):V:=⟨⟨306,Jsa,[zs7],u3 (Kh N),[5000,5001]⟩,kF N [Qt3] [(6,.lp [0,1,7] [] Qp8 Qn3),(18,.rg (.n 5 (.call 0 .done)))] func306⟩
def D6(N:Nat):V:=⟨⟨282,Jsa,[zs1],u3 (Ux N),[5000,5001]⟩,kF N [Nx] [] func282⟩
def Q0l(N:Nat):V:=⟨⟨233,(sD [.sl V9,.i,.i]),[Qtq],u3 (Qj2 N),[]⟩,kF N [D6] [(8,.lp [0,7,11,12] [4,5] Jle [(.x 0,⟨[],[]⟩),(.r,⟨[(6,V2)],[]⟩)])] func233⟩
def Q99(N:Nat):V:=⟨⟨167,(sD [.sl V9,.sl .i,.i]),[Qtq],u3 (Qtp N),[]⟩,kF N [Qv2,Q5s,Q0l] [] func167⟩
def Qn8(N:Nat):V:=⟨⟨231,⟨[(0,.d Xl),(1,Xc),(2,Qf3),(3,.p 5002 [])],[(5000,P0),(5001,Q5i),(5002,Q5i)]⟩,[zs1],u4 (Pd N),[5000,5001,5002]⟩,kF N [] [] func231⟩
def Qt4(N:Nat):V:=⟨⟨166,(sD [Yg,.i,.str,.str]),[⟨[(0,Jrv),(1,zs4)],Jc1⟩],u4 (Qc2 N),[]⟩,kF N [Qn8] [(8,.lp [10,15,16] [4,5,6,7] ⟨[(8,Qh2),(17,zs2)],[(100000,Jsb)]⟩ [(.x 0,⟨[(8,Qh4)],[(100100,Jsb)]⟩),(.r,⟨[(8,Qvy),(9,zs4)],[(100200,.var 76 (.ag (sL [zs2,V2,V2,zs2,Q44]))),(100201,Qtv)]⟩)]),(20,.rg (.n 2 (.call 0 .done)))] func166⟩
def Q0m(N:Nat):V:=⟨⟨120,(sD [Uq,J2,.i,.i,.str,.i]),[⟨[(0,Jkt),(1,zs2)],Jc1⟩],u6 (Qj3 N),[]⟩,kF N [P4,Ca,Qt1,Q5r,Q0j,Q99,Qt4,fun _=>⟨_,Py⟩] [(57,.gh (.fz 19402 (.dt 19 (.fz 19403 (.dt 19 (.fz 19404 (.dt 19 .done))))))),(57,.an (.dc 15 [108,109,110,111,112,113,114,115,116,117,107,118,119,23,1000000014] [19,6] [] (.c 19 (.a (.a (.b 19 (.c 19 (.b 6 (.c 6 (.a (.k 5 [] [] [] [] (.k 6 [] [] [21701] [21701] (.b 21701 (.b 21701 (.a (.e 23 (.g [23] [21701] [] [23,21701] Ci)))))))))))))))))] func120⟩
def Md(N:Nat):V:=⟨⟨74,(sD [J2,Yb]),[⟨Jcq,[(1,.var 173 (.ag (sL [.ag (sL [zs2,zs2,zs2,zs2,.ag (sL [zs2,zs2,zs2,V2,V2,zs2,.ag (sL [zs2,V2,V2,zs2,Qh3]),zs2,zs2]),zs2,Q43,zs2,zs2,zs4,Kz]),.ag (sL [.s 4,.s 5,.s 6])]))),(2,Qtv),(3,Ze),(4,Ug),(5,Yy),(6,Lj)]⟩],u2 (E0 N),[]⟩,kF N [C7,Nb] [(3,.an (.dc 3 [5,6,7] [3,2] [] (.c 3 (.k 0 [] [] [10602,10601] [10601,10602] (.c 2 (.tl (.call 1 Q0h)))))))] func74⟩
def P8(N:Nat):V:=⟨⟨168,Q5a,[Jlf],By N,[]⟩,kF N [] [] func168⟩
def Qpo(N:Nat):V:=⟨⟨169,Q5a,[(sD [Zh])],Qbf N,[]⟩,kF N [] [] func169⟩
def Qqe(N:Nat):V:=⟨⟨170,Qxy,[zs7],u2 (Tq N),[]⟩,kF N [] [(6,.lp [1,7,8] [] zs3 Qn3)] func170⟩
def Qgv(N:Nat):V:=⟨⟨286,⟨[(0,.d Dn),(1,Xc)],[(5000,Q5i)]⟩,[zs1],u2 (F8 N),[5000]⟩,kF N [] [(6,.lp [1,7,8] [2] zs3 [(.x 0,⟨[],[]⟩),(.r,⟨[(3,zs4)],[]⟩)])] func286⟩
def Qgw(N:Nat):V:=⟨⟨309,Jlg,[zs1],u2 (F9 N),[]⟩,kF N [] [] func309⟩
def Qgx(N:Nat):V:=⟨⟨310,Jlg,[Jcm],u2 (Aa N),[]⟩,kF N [] [] func310⟩
def Lr(N:Nat):V:=⟨⟨308,⟨[(0,Jc3),(1,.f 309 .nil),(2,.f 310 .nil)],[]⟩,[Qty],U8 N,[]⟩,kF N [Qgw,Qgx] [(8,.lp [1,2,11,12] [] ⟨Jry,Jlh⟩ Jsc),(16,.jn [13] [] Jsd),(22,.an (.dc 10 [19,20,21,22,23,24,25,26,27,28] [100000,9] [] (.a (.a (.a (.so 21 (.a (.b 100000 (.a (.a (.d 100000 100000 (.c 100000 (.c 9 (.tl Q45)))))))) Q49)))))),(24,.an (.dc 11 [31,32,33,34,35,36,37,38,39,40,41] [100000,9] [] (.b 100000 (.a (.a (.a (.b 100000 (.a (.a (.d 100000 100000 (.c 100000 (.c 9 Jks))))))))))))] func308⟩
def Qkf(N:Nat):V:=⟨⟨285,⟨[(0,Jk0),(1,zs2),(2,.f 286 Jlb)],[(5000,Q5i)]⟩,[Qty],u3 (Dv N),[5000]⟩,kF N [P5,Qgv,Lr] [(8,.lp [2,12,13] [11201] ⟨[(7,Qdh),(14,zs2)],Jlh⟩ Jsc),(16,.jn [14] [] Jsd),(20,.rg (.n 2 (.call 1 .done)))] func285⟩
def Qkg(N:Nat):V:=⟨⟨235,(sD [.sl Jq,.i,.str]),[Qty],u3 (Dw N),[]⟩,kF N [Qkf] [] func235⟩
def Qqf(N:Nat):V:=⟨⟨236,(sD [Ut,Ut]),[zs1],u2 (Tr N),[]⟩,kF N [] [] func236⟩
def Qmc(N:Nat):V:=⟨⟨171,Qxy,[⟨Qh1,[(1,Jc4)]⟩],u2 (L4 N),[]⟩,kF N [Qkg,Qqf] [(5,.rg (.br zs5)),(12,.lp [0,1,15,16] [] ⟨[(5,Jlc),(6,.m 100001),(7,Jpq),(17,zs2)],[(100000,Qpk),(100001,Qx1),(100002,Jc4)]⟩ [(.x 0,⟨[(7,.s 101100)],[(101100,Jc4)]⟩)]),(20,.jn [17] [] [(.n,⟨[(5,.m 101000),(6,.m 101001),(7,.s 101002)],[(101000,Qpk),(101001,Qx1),(101002,Jc4)]⟩)]),(24,.jn [6,7,9,17] [9,100001,100002] [(.n,⟨[(5,Jld)],[(100100,Qpk)]⟩)]),(31,.jn [5,7,9,17] [9,100002,100100] [(.n,⟨[(6,.m 100300),(51,zs4)],[(100300,Qx1)]⟩)]),(31,.gh (.op (.v 9 [.f 5 5]) 100001 700000 .done)),(31,.rg (.n 11 (.sp 43 8 [5,6,7,9,17] [100001,700000] ⟨[(51,zs4)],[]⟩ zs6 (.nl 3 (.br (.nl 2 (.br zs5)))) (.cl 100001 .done)))),(36,.jn [5,7,9,17] [9,100002,100100] [(.n,⟨[(6,.m 100500)],[(100500,Qx1)]⟩)]),(37,.jn [5,7,9,17] [] [(.n,⟨[(6,.m 100400),(56,zs4)],[(100400,Qx1)]⟩)]),(37,.gh (.op (.v 9 [.f 5 5]) 100300 700001 .done)),(37,.rg (.n 3 (.br (.n 1 (.cl 100300 .done))))),(39,.rg (.n 4 (.br .done))),(42,.jn [5,7,9,17] [9,100002,100100] [(.n,⟨[(6,.m 100600)],[(100600,Qx1)]⟩)]),(42,.gh (.op (.v 9 [.f 5 5]) 100500 700002 .done)),(42,.rg (.n 3 (.br (.n 3 (.cl 100500 .done))))),(44,.an (.dc 13 [67,68,69,70,71,72,73,74,75,76,77,78,10] [9] [] (.a (.b 9 (.c 9 (.b 9 (.c 9 (.a (.b 9 (.c 9 (.b 9 (.c 9 (.k 0 [] [] [17701] [17701] (.b 17701 (.e 10 Ci))))))))))))))),(49,.gh (.fz 17701 .done)),(49,.lp [5,6,7,10,17] [9,10,17701,100002,100100,100600] Jli [(.x 2,Jli)]),(52,.jn [11] [] Jwe),(52,.an (.dc 10 [79,80,81,82,83,84,85,86,87,88] [] [100002,10] (.a (.b 100002 (.c 100002 (.a (.a (.so 83 (.b 100002 (.a (.d 100002 100002 (.c 100002 (.d 10 17701 (.tl Jko)))))) Jrn)))))))),(59,.rg (.n 2 (.fz 100002 Q0h)))] func171⟩
def Ls(N:Nat):V:=⟨⟨238,Jlg,[(sD [J4,.bool])],u2 (Wr N),[]⟩,kF N [Ea] [(6,.rg (.n 1 (.call 0 (.n 2 (.sp 21 4 [3,4,6] [2,3,4,6] ⟨[(25,zs4)],[]⟩ Qfz (.nl 1 Jkn) Qtt)))))] func238⟩
def Sw(N:Nat):V:=⟨⟨323,zs7,[zs7],Kl N,[]⟩,kF N [] [(7,.jn [] [] [(.n,Q40)])] func323⟩
def Qqg(N:Nat):V:=⟨⟨328,zs7,[zs1],Tt N,[]⟩,kF N [] [] func328⟩
def Me(N:Nat):V:=⟨⟨324,Qh6,[zs7],u2 (K6 N),[]⟩,kF N [Qqg] [(6,.rg (.n 3 (.sp 9 3 [0,1,5] [5] ⟨[(12,zs4)],[]⟩ (.nl 1 Q45) Jgl .done)))] func324⟩
def Qqh(N:Nat):V:=⟨⟨311,zs7,[(sD [Qhr])],Tu N,[]⟩,kF N [Sw,Me] [(14,.lp [0,2] [2] ⟨[(3,Qh2)],[(100000,Jc5)]⟩ [(.x 0,⟨[(3,Qh4)],[(100100,Jc5)]⟩)]),(27,.lp [2] [2] ⟨[(0,zs2),(3,Qvy)],[(100200,Jc5)]⟩ [(.x 2,⟨[(0,zs2),(3,Qlz)],[(100300,Jc5)]⟩)])] func311⟩
def Qn9(N:Nat):V:=⟨⟨287,Qh6,[zs7],u2 (Hl N),[]⟩,kF N [Qqh] [(7,.jn [] [5] [(.n,Jkp)])] func287⟩
def Qmd(N:Nat):V:=⟨⟨329,Qh6,[zs7],u2 (L5 N),[]⟩,kF N [Me] [] func329⟩
def Qt5(N:Nat):V:=⟨⟨325,(sD [Qhr]),[Qh6],Qc3 N,[]⟩,kF N [Qmd,Sw,Me] [(4,.jn [1] [1] [(.n,Q92)]),(4,.an (.dc 11 [6,7,8,9,10,11,12,13,14,15,16] [] [1] (.b 1 (.c 1 (.a (.a (.so 9 Q49 (.b 1 (.c 1 (.b 1 (.c 1 (.b 1 (.c 1 (.k 0 [] [] [] [] (.tl Qvv))))))))))))))),(11,.an (.dc 5 [19,20,21,22,23] [1] [] (.b 1 (.c 1 (.k 1 [] [] [] [] Jse))))),(16,.lp [1] [1] Jrl [(.x 0,Q40)])] func325⟩
def Qoa(N:Nat):V:=⟨⟨312,Qh6,[zs7],u2 (Hm N),[]⟩,kF N [Qt5] [] func312⟩
def Qob(N:Nat):V:=⟨⟨288,Qh6,[Jcm],u2 (Pg N),[]⟩,kF N [Qoa] [(5,.jn [4] [4] [(.n,⟨[(5,Qh2)],[(100000,.var 127 Qpj)]⟩)])] func288⟩
def Sx(N:Nat):V:=⟨⟨239,(sD [.i,J4]),[Qty],u2 (W0 N),[]⟩,kF N [Qn9,Qob] [(16,.lp [0,3] [3] ⟨[(5,Qdh),(6,zs2)],Jlh⟩ [(.x 0,⟨[(5,Qlx)],[(100100,Lk)]⟩)])] func239⟩
def Qgy(N:Nat):V:=⟨⟨237,⟨[(0,Qpj),(1,Xc),(2,Qf3),(3,.p 5003 [])],[(5000,P0),(5001,.var 301 Qx2),(5002,Lk),(5003,P0)]⟩,[⟨[],[(5001,.var 301 Nu),(1,Lk)]⟩],u4 (Ab N),[5000,5003]⟩,kF N [Ls,Sx] [(7,.an (.dc 4 [16,17,18,19] [5001,5] [5003] (.d 5001 5002 (.c 5003 (.c 5 (.k 1 [] [] [11901] [11901] Q95))))))] func237⟩
def Qgz(N:Nat):V:=⟨⟨313,Jsf,[Jsg],u3 (Ac N),[]⟩,kF N [Ea] [(3,.lp [1,7,8] [] ⟨[(2,Xc),(9,zs2)],[(5000,.var 431 Qts),(100001,Qpm)]⟩ [(.x 0,⟨[],[(5000,.var 431 Q44),(100201,Qpm)]⟩)]),(11,.jn [9] [] [(.n,⟨[(2,Xc)],[(5000,.var 431 Ql0),(100101,Qpm)]⟩)])] func313⟩
def Qbz(N:Nat):V:=⟨⟨313,Jsf,[Jsg],u3 (Ge N),[]⟩,kF N [Ea] [(3,.lp [1,7,8] [] ⟨[(2,Xc),(9,zs2)],[(5000,.var 431 Qts),(100001,Qpm)]⟩ [(.x 0,⟨[],[(5000,.var 431 Q44),(100201,Qpm)]⟩)]),(11,.jn [9] [] [(.n,⟨[(2,Xc)],[(5000,.var 431 Ql0),(100101,Qpm)]⟩)])] func313⟩
def Qkh(N:Nat):V:=⟨⟨290,(sD [.bool,.bool]),[zs1],u2 (Dy N),[]⟩,kF N [] [] func290⟩
def Qki(N:Nat):V:=⟨⟨289,⟨[(0,Jc3),(1,Jc3),(2,.f 290 .nil)],[]⟩,[Qty],u2 (Dz N),[]⟩,kF N [Qgz,Qbz,fun _=>⟨_,Hu⟩,Qkh] [(7,.rg (.n 2 (.call 0 .done))),(9,.rg (.n 2 (.call 1 .done))),(22,.lp [2,7,24,25] [7,12101] ⟨[(9,Qdh),(10,Q5e),(11,zs4),(26,zs2)],[(100000,Lk),(100001,Jsh)]⟩ [(.x 0,⟨[(9,Q5c)],[(100400,Lk)]⟩)]),(30,.jn [26] [] [(.n,⟨[(9,Qxw),(10,Jkv),(11,zs4)],[(100300,Lk),(100301,Jsh)]⟩)]),(34,.an (.dr 8 Qp9 zs5)),(37,.an (.dr 16 (.n 6 (.sp 44 10 [9,10,11,12,13,26] [13,100000,100001] ⟨[(54,zs4)],[]⟩ Jcs Jcs .done)) .done)),(42,.rg (.n 7 (.call 3 zs5))),(44,.jn [10,14,26] [13,100001] [(.n,⟨[(9,Qtr)],[(100200,Lk)]⟩)])] func289⟩
def Qoc(N:Nat):V:=⟨⟨240,(sD [.sl J4]),[Qty],Pi N,[]⟩,kF N [Qki] [] func240⟩
def Qqi(N:Nat):V:=⟨⟨172,(sD [.sl Ut,.i,.i]),[Qty],u3 (Tv N),[]⟩,kF N [Qgy,Qoc,Sx] [(10,.lp [17,18] [] ⟨[(4,Qh2),(7,Q5e),(8,.f 237 (sL [.p 100002 [],Q5e,Qh2])),(19,zs2)],[(100000,P0),(100001,.var 301 Juz),(100002,P0),(100003,Lk)]⟩ [(.x 0,⟨[(4,Qlz),(7,Jkv)],[(100300,P0),(100301,.var 301 Q5g),(100302,Lk)]⟩)]),(24,.lp [19,24,25] [10] ⟨[(4,Qh4),(7,Juw),(8,.f 237 (sL [.p 100102 [],Juw,Qh4])),(26,zs2)],[(100100,P0),(100101,.var 301 (.s 100103)),(100102,P0),(100103,Lk)]⟩ [(.x 2,⟨[(4,Qvy),(7,Jky),(8,.f 237 (sL [.p 100202 [],Jky,Qvy]))],[(100200,P0),(100201,.var 301 (.s 100203)),(100202,P0),(100203,Lk)]⟩)]),(35,.rg (.n 2 (.call 0 .done))),(44,.lp [4,36,37] [13601,100300,100301,100302] ⟨[(13,Q5c),(38,zs2)],[(100400,Lk)]⟩ [(.x 4,⟨[(13,.s 100500)],[(100500,Lk)]⟩)])] func172⟩
def Qt6(N:Nat):V:=⟨⟨292,⟨[(0,.d J3),(1,Xc),(2,Qf3)],Jsi⟩,[zs1],u3 (Qc4 N),[5000,5001]⟩,kF N [] [] func292⟩
def Mf(N:Nat):V:=⟨⟨291,⟨[(0,Jsj),(1,.f 292 (sL [Xc,Qf3]))],Jsi⟩,[⟨Qh1,[(1,Qph)]⟩],u3 (Zv N),[5000,5001]⟩,kF N [Qt6] [(8,.lp [1,8,9] [] ⟨Jku,[(100000,Qph)]⟩ [(.x 0,⟨[(5,Qtr)],[(100200,Qph)]⟩)]),(16,.jn [10] [] [(.n,⟨[(5,Qlx)],[(100100,Qph)]⟩)]),(20,.rg (.n 2 (.call 0 .done)))] func291⟩
def Qqj(N:Nat):V:=⟨⟨293,Jwf,[⟨[(0,.ag (sL [V2,zs2,zs2,V2,zs4,Nu]))],[(1,Qxx)]⟩],Tw N,[]⟩,kF N [] [(8,.lp [1,2,7,8] [1,2] ⟨[(3,Qdh),(9,zs2)],[(100000,Qxx)]⟩ [(.x 0,⟨Qxz,[(100100,Qxx)]⟩)]),(21,.rg (.n 2 (.fz 15 Q0h)))] func293⟩
def Q0n(N:Nat):V:=⟨⟨241,(sD [.sl J3,.str,.i]),[⟨[(0,.ag (sL [V2,zs2,zs2,V2,zs4,Nu])),(1,zs4)],[(1,Qxx)]⟩],u3 (Qj4 N),[]⟩,kF N [Mf,Qqj] [] func241⟩
def Qdo(N:Nat):V:=⟨⟨173,(sD [Ut,.sl J3,J4]),[⟨Qh1,[(1,Jc6)]⟩],u3 (Ho N),[]⟩,kF N [Ls,Q0n] [(6,.lp [1,3,5,18,19] [3,5] ⟨[(20,zs2)],[]⟩ [(.x 0,⟨[],[]⟩),(.r,⟨[(6,Q5c)],[(100400,Jc6)]⟩)]),(33,.lp [9,42,43] [8,9,11,13801] ⟨[(13,Qlx),(44,zs2)],[(100100,Jc6)]⟩ [(.x 2,⟨[(13,Qtr)],[(100200,Jc6)]⟩)])] func173⟩
def Sy(N:Nat):V:=⟨⟨242,Q48,[zs1],u2 (Ff N),[]⟩,kF N [] [] func242⟩
def Qt7(N:Nat):V:=⟨⟨243,(sD [Q8,Q8,.i]),[Jlf],u3 (Qc5 N),[]⟩,kF N [P8,Sy] [(5,.jn [6] [3,4,6] [(.n,⟨[(7,Qh2)],[(100000,.var 129 (.ag (sL [zs2,zs2,V2,zs2,zs2,Qts,Qpj,zs2,zs2,zs2,zs4]))),(100001,Q42)]⟩)])] func243⟩
def Qqk(N:Nat):V:=⟨⟨244,Q48,[zs1],u2 (Tx N),[]⟩,kF N [] [] func244⟩
def Qkj(N:Nat):V:=⟨⟨174,⟨[(0,Xc),(1,.d Fb)],[(5000,.var 293 (.ag (sL [Qpl,Qf1]))),(5001,Ug),(5002,Qeg)]⟩,[⟨[],[(5000,.var 293 (.ag (sL [Nu,Qf1]))),(5002,Qeg),(1,Ug)]⟩],u3 (D1 N),[]⟩,kF N [Qpo,P8,Sy,Qt7,Qqk] [(4,.an (.dc 7 [9,10,11,12,13,14,15] [5000,3] [] (.b 5000 (.d 5000 5000 (.b 5000 (.d 5000 5002 (.b 3 (.c 3 Jsk)))))))),(14,.gh (.fz 11901 .done)),(14,.lp [0,3,23,24] [3,5000,5001,5002] ⟨[(4,Qh2),(25,zs2)],[(100000,.var 129 (.ag (sL [zs2,zs2,V2,zs2,zs2,Qts,Qpj,zs2,zs2,zs2,zs4]))),(100001,.tail 9 .str)]⟩ [(.x 0,⟨[(4,Qh4)],[(100100,.var 129 (.ag (sL [zs2,zs2,V2,zs2,zs2,Ql0,Qpj,zs2,zs2,zs2,zs4]))),(100101,.tail 9 .str)]⟩)]),(37,.lp [0,4] [3,5000,5001,5002,100100,100101] Q98 [(.x 2,Q98)]),(40,.jn [7] [] [(.n,Jup)]),(40,.an (.dc 16 [38,39,40,41,42,43,44,45,46,47,48,49,50,51,52,53] [] [5000,5001,100100] (.a (.b 5000 (.d 5000 5000 (.b 5000 (.d 5000 5001 (.c 5001 (.a (.a (.so 45 (.b 5000 (.d 5000 5000 (.b 5000 (.d 5000 5001 (.a (.d 5001 5001 (.c 5001 (.d 100100 100101 (.tl (.call 4 zs5)))))))))) (.a Q49)))))))))))),(47,.rg (.n 5 (.fz 5001 Q0h))),(52,.gh (.dt 100100 .done)),(52,.an (.dc 6 [80,81,82,83,84,85] [5000,100100] [] (.b 5000 (.d 5000 5000 (.b 5000 (.d 5000 5002 (.c 100100 Jsk)))))))] func174⟩
def Qb0(N:Nat):V:=⟨⟨121,(sD [.sl Jq,.sl J3,J2,.i,.i]),[Q5d],u5 (Bz N),[]⟩,kF N [P8,Qpo,Qqe,Qmc,Qqi,Qdo,Qkj] [(8,.lp [0,1,3,4,7,10,27,28] [7,10] ⟨[(11,Qh2),(29,zs2)],[(100000,.var 293 (.ag (sL [Qts,Jlj]))),(100001,Ug),(100002,Qeg)]⟩ [(.x 0,⟨[(11,Qh4)],[(100100,.var 293 (.ag (sL [Ql0,Jlk]))),(100101,Ug),(100102,Qeg)]⟩)]),(20,.an (.dc 9 [33,34,35,36,37,38,39,40,41] [100000,13,100001] [] (.b 100000 (.b 100000 (.d 100000 100000 (.b 100000 (.d 100000 100001 (.c 13 (.k 0 [] [] [13901] [13901] (.op ⟨.fz 13901 (.nl 1 .done),[13901],[],[],[13901]⟩ (.g [100001] [] [41] [41] Qh5))))))))))),(21,.an (.dc 6 [44,45,46,47,48,49] [100000,13] [] (.b 100000 (.d 100000 100000 (.b 100000 (.d 100000 100002 (.c 13 (.k 1 [] [] [] [] Ci)))))))),(24,.an (.dc 8 [51,52,53,54,55,56,57,14] [7] [] (.b 7 (.c 7 (.e 53 (.b 7 (.c 7 (.e 56 (.g [] [] [] [53,56] (.e 14 Ci)))))))))),(28,.jn [10,14] [7,10,14,53,56] [(.n,⟨[(11,.p 100900 [])],[(100900,.var 293 (.ag (sL [.s 100901,.m 100902]))),(100901,Ug),(100902,Qeg)]⟩)]),(36,.lp [1,4,10,14,16,77,78] [17301,17701] ⟨[(11,Qvy),(79,zs2)],[(100200,.var 293 (.ag (sL [Q44,.m 100202]))),(100201,Ug),(100202,Qeg)]⟩ [(.x 2,⟨[(11,.p 100800 [])],[(100800,.var 293 (.ag (sL [.s 100801,.m 100802]))),(100801,Ug),(100802,Qeg)]⟩)]),(50,.lp [18,79,83,84] [18] ⟨[(11,Qlz),(85,zs2)],[(100300,.var 293 (.ag (sL [Qtx,.m 100302]))),(100301,Ug),(100302,Qeg)]⟩ [(.x 4,⟨[(11,Jk8)],[(100700,.var 293 (.ag (sL [Jk9,.m 100702]))),(100701,Ug),(100702,Qeg)]⟩)]),(64,.lp [85,92,93] [20,19201] ⟨[(11,Jcz),(94,zs2)],[(100400,.var 293 (.ag (sL [Q5h,.m 100402]))),(100401,Ug),(100402,Qeg)]⟩ [(.x 6,⟨[(11,Jk6)],[(100600,.var 293 (.ag (sL [Jk7,.m 100602]))),(100601,Ug),(100602,Qeg)]⟩)]),(72,.jn [94] [] [(.n,⟨[(11,.p 100500 [])],[(100500,.var 293 (.ag (sL [Jc2,.m 100502]))),(100501,Ug),(100502,Qeg)]⟩)])] func121⟩
def Qme(N:Nat):V:=⟨⟨245,Jcl,[⟨Qh1,[(1,Ug)]⟩],L6 N,[]⟩,kF N [] [(8,.lp [6,7] [] ⟨[(3,Qdh),(8,zs2)],[(100000,Ug)]⟩ [(.x 0,⟨Qxz,[(100100,Ug)]⟩)]),(21,.rg (.n 2 (.fz 14 Q0h)))] func245⟩
def Qql(N:Nat):V:=⟨⟨175,Q47,[Q5d],Tz N,[]⟩,kF N [Qme] [(3,.an (.dc 8 [3,4,5,6,7,8,9,10] [1] [] (.b 1 (.c 1 (.k 0 [] [] [10501] [10501] (.b 1 (.c 1 (.e 8 Jse))))))))] func175⟩
def Qod(N:Nat):V:=⟨⟨176,Jcu,[zs1],u3 (Pk N),[]⟩,kF N [] [(6,.lp [1,2,9,10] [] Jli Jwg)] func176⟩
def Qoe(N:Nat):V:=⟨⟨246,Jro,[⟨[(0,.m 1)],[(1,B7)]⟩],Pl N,[]⟩,kF N [] [(8,.lp [9,10] [] ⟨[(3,Jlc),(11,zs2)],[(100000,B7)]⟩ [(.x 0,⟨[(3,.m 100200)],[(100200,B7)]⟩)]),(16,.jn [11] [] [(.n,⟨[(3,Jld)],[(100100,B7)]⟩)])] func246⟩
def Qt8(N:Nat):V:=⟨⟨177,(sD [.sl J5,.i]),[⟨Jc7,[(1,Yy)]⟩],u2 (Qc6 N),[]⟩,kF N [Qoe] [(16,.lp [0,1] [11201] Qp8 Jla),(19,.rg (.n 5 (.sp 25 8 [8] [] ⟨[(33,zs4)],[]⟩ zs6 zs6 .done)))] func177⟩
def U2(N:Nat):V:=⟨⟨161,Q5j,[zs1],u3 (Yd N),[]⟩,kF N [] [] func161⟩
def Qg0(N:Nat):V:=⟨⟨226,zs7,[zs1],Nj N,[]⟩,kF N [] [] func226⟩
def Xy(N:Nat):V:=⟨⟨159,Jkr,[zs7],Ku N,[]⟩,kF N [U2,Qg0] [(5,.rg (.n 2 (.call 0 (.n 2 (.sp 8 5 [1] [1] zs8 G6 Jkm (.n 1 (.sp 14 5 [1] [1] Jkk G6 Q97 zs5))))))),(11,.rg (.n 2 (.call 0 (.n 2 (.sp 25 5 [1] [1] Jkq G6 Q97 zs5)))))] func159⟩
def Fh(N:Nat):V:=⟨⟨160,Ql1,[Ql1],u2 (Yp N),[]⟩,kF N [] [] func160⟩
def Qqm(N:Nat):V:=⟨⟨179,Ql1,[Ql1],u2 (T0 N),[]⟩,kF N [Xy,Fh,U2,Qg0] [(14,.rg (.n 1 (.call 2 (.n 2 (.sp 19 7 [1,2,4] [2,4] ⟨[(26,zs4)],[]⟩ Qp6 (.nl 4 Jpl) .done)))))] func179⟩
def Qik(N:Nat):V:=⟨⟨178,⟨[(0,.d J5),(1,zs2),(2,Xc)],[(5000,Q5k)]⟩,[⟨[],[(5000,Q5k)]⟩],u3 (Gv N),[]⟩,kF N [] [] func178⟩
def Qt9(N:Nat):V:=⟨⟨180,Ql1,[Ql1],u2 (Qc7 N),[]⟩,kF N [Xy,Fh,U2] [] func180⟩
def S4(N:Nat):V:=⟨⟨122,(sD [.sl Jq,J2,.i,.i]),[Q5d],u4 (Fg N),[]⟩,kF N [Qql,Qod,Qt8,Qqm,Qik,Qt9] [(6,.rg (.n 7 (.sp 24 6 [0,2,3,8,9] [5,8,9,11701,11702,11703] Jkq Qvw Jpn .done))),(22,.lp [2,3,8,9,10,11,44,45] [5,8,9,11701,11702,11703,13601] ⟨[(12,Qh4),(13,.f 178 (sL [Qh4])),(46,zs2)],[(100100,Q5k)]⟩ [(.x 0,⟨[(12,Jcz)],[(100400,Q5k)]⟩)]),(30,.jn [46] [] [(.n,⟨[(12,Qlz),(13,.f 178 (sL [Qlz]))],[(100300,Q5k)]⟩)]),(35,.an (.dr 20 (.n 5 (.sp 54 9 [12,13,15,46] [15,100100] Ju1 Q4z Q4z Q96)) .done)),(45,.rg (.n 4 (.call 3 Jsl))),(49,.rg (.n 4 (.call 5 Jsl)))] func122⟩
def P9(N:Nat):V:=⟨⟨155,Qh6,[zs1],u2 (Kv N),[]⟩,kF N [] [] func155⟩
def Qua(N:Nat):V:=⟨⟨224,Q5a,[Jlf],Qc8 N,[]⟩,kF N [] [] func224⟩
def Qei(N:Nat):V:=⟨⟨152,Jcl,[⟨Qh1,[(1,Ug)]⟩],Ie N,[]⟩,kF N [Qua] [(8,.lp [6,7] [] ⟨[(3,Qdh),(8,zs2)],[(100000,Ug)]⟩ [(.x 0,⟨Qxz,[(100100,Ug)]⟩)]),(19,.rg (.n 2 (.call 0 (.fz 11401 Q0h))))] func152⟩
def Qof(N:Nat):V:=⟨⟨295,Qh6,[zs7],u2 (Xr N),[]⟩,kF N [] [] func295⟩
def Qog(N:Nat):V:=⟨⟨255,Q48,[zs1],u2 (Pn N),[]⟩,kF N [Qof] [] func255⟩
def Nd(N n:Nat):Con:=⟨185,(sD [.sl Q8,.i,.i]),[(sD [.sl .i])],fun(x0,x1,x2)=>Uy N n x0 x1 x2,[]⟩
theorem Ra(N:Nat):∀n,KO (Nd N n)
 | 0=>⟨Qhp fun _=>rfl,Ka func185 rfl⟩
 | n+1=>have ih:=Ra N n; kF N [fun _=>⟨_,ih⟩,Qog] [(12,.lp [2] [] Jrk [(.x 0,⟨[(7,Qlx)],[(100100,Qbv)]⟩)]),(37,.lp [0,10,11] [] ⟨[(12,Qtr),(13,zs2),(14,zs2)],[(100200,Qbv)]⟩ [(.x 2,⟨[(12,Q5c)],[(100400,Qbv)]⟩)]),(46,.jn [12,13,14] [100200] [(.n,⟨[(85,zs4)],[]⟩)]),(46,.an (.dc 24 [58,59,60,61,62,63,64,65,66,67,68,69,70,71,72,73,74,75,76,77,78,79,80,81] [] [] (.a (.a (.a (.a (.a (.so 62 (.a (.a (.a (.a (.a Jsm))))) (.a (.a (.a (.a (.a (.so 67 (.a (.a (.a (.a (.a (.a (.a (.a (.a (.a (.a (.a (.a (.a (.tl (.call 1 Jgl)))))))))))))))) Jsm))))))))))))))] func185
def Qqn(N:Nat):V:=⟨Nd N N,Ra N N⟩
def Qqo(N:Nat):V:=⟨⟨186,(sD [Q8,.i,.i,.i,.str,.bool,.i]),[zs1],u7 (T1 N),[]⟩,kF N [Nc] [(4,.rg (.n 10 (.sp 26 6 [1,2,4,5,6,7] [7] ⟨[(32,zs4)],[]⟩ Qvw Jll .done))),(22,.lp [4,7,53,54] [7] ⟨[(55,zs2)],[]⟩ [(.x 0,⟨[],[]⟩),(.r,⟨[(14,zs4)],[]⟩)])] func186⟩
def Qpp(N:Nat):V:=⟨⟨153,Q5a,[(sD [Qbd])],Qhs N,[]⟩,kF N [] [] func153⟩
def Qai(N:Nat):V:=⟨⟨125,(sD [.sl Q8,.i,.i,.i,.str,.bool,.i,.i]),[⟨[(0,Nu),(1,Qh3),(2,zs2)],[(1,Ug),(2,Ze)]⟩],u8 (La N),[]⟩,kF N [Qei,Qqn,Qqo,Qpp] [(12,.lp [0,1,2,3,4,5,6,32,33] [] ⟨[(7,zs2),(19,Qdh),(20,Qts),(34,zs2)],[(100000,Ug),(100001,Ze)]⟩ [(.x 0,⟨[(7,zs2),(19,Qxw),(20,Qtx)],[(100300,Ug),(100301,Ze)]⟩)]),(20,.jn [34] [] [(.n,⟨[(7,zs2),(19,Qtr),(20,Q44)],[(100200,Ug),(100201,Ze)]⟩),(.x 0,⟨[(7,zs2),(19,Qlx),(20,Ql0)],[(100100,Ug),(100101,Ze)]⟩)])] func125⟩
def Af(N:Nat):V:=⟨⟨126,Jcu,[(sD [U6,.bool])],u3 (Xs N),[]⟩,kF N [Qbx] [(6,.lp [1,13,14] [11201,11202] ⟨Jr2,[(100000,Jsn)]⟩ [(.x 0,⟨[(6,Qh4)],[(100100,Jsn)]⟩),(.r,⟨Jkz,[(100200,.var 243 (.d U6))]⟩)])] func126⟩
def Qi5(N:Nat):V:=⟨⟨254,Jkr,[zs7],Sn N,[]⟩,kF N [Xy] [] func254⟩
def Qoh(N:Nat):V:=⟨⟨322,(sD [.i,.sl .i]),[zs1],u2 (B0 N),[]⟩,kF N [] [(6,.lp [0,7,8] [] zs3 Qj5)] func322⟩
def Qqp(N:Nat):V:=⟨⟨302,Ju3,[zs7],T2 N,[]⟩,kF N [Qoh] [(24,.lp [0,12,13] [] ⟨[(3,zs2),(14,zs2)],[]⟩ Qp7),(37,.rg (.n 5 (.call 0 (.n 7 (.sp 31 6 [3,4,5,14] [5] Jun Qvw Jll .done)))))] func302⟩
def Qmf(N:Nat):V:=⟨⟨303,Jso,[(sD [.i,.bool])],u2 (L7 N),[]⟩,kF N [] [(8,.lp [1,12,13] [] ⟨[(6,zs2),(7,zs2),(14,zs2)],[]⟩ [(.x 0,Jkp),(.r,⟨[(4,zs2),(5,zs4)],[]⟩)]),(22,.jn [6,7,9,14] [9] Jsp),(37,.an (.dr 7 Qtt .done))] func303⟩
def Qub(N:Nat):V:=⟨⟨269,Jso,[Qh6],u2 (Qc9 N),[]⟩,kF N [Qqp,Qmf] [] func269⟩
def Qg1(N:Nat):V:=⟨⟨225,Jsq,[Qh6],u2 (Ws N),[]⟩,kF N [Qub] [] func225⟩
def Eu(N:Nat):V:=⟨⟨156,Jsq,[Qh6],u2 (Kw N),[]⟩,kF N [P9,Qg1] [(4,.rg (.n 1 (.call 0 (.n 2 (.sp 12 6 [1,2] [2] Q92 Qvw Jll (.n 9 (.sp 27 7 [1,2] [2] ⟨[(34,zs4)],[]⟩ Qp6 (.nl 4 Jkn) .done)))))))] func156⟩
def Qev(N:Nat):V:=⟨⟨253,⟨[(0,zs2),(1,Xc),(2,Qf3)],[(5000,.var 276 (.d Id)),(5001,P0)]⟩,[zs1],u3 (Er N),[5000,5001]⟩,kF N [Eu] [] func253⟩
def Qil(N:Nat):V:=⟨⟨183,(sD [Id,.i,.i]),[zs7],u3 (B1 N),[]⟩,kF N [Qev] [(16,.lp [7] [3,5] ⟨[(8,zs2),(9,zs2)],[]⟩ Jla),(27,.rg (.n 2 (.call 0 .done)))] func183⟩
def Qmg(N:Nat):V:=⟨⟨188,(sD [Hd,.i]),[Qh6],u2 (Qda N),[]⟩,kF N [Eu] [] func188⟩
def Qi6(N:Nat):V:=⟨⟨189,Ql1,[Ql1],u2 (Sp N),[]⟩,kF N [Xy,Fh,U2,Qi5] [] func189⟩
def Qoi(N:Nat):V:=⟨⟨184,⟨[(0,Su),(1,Jc8),(2,Qeh),(3,zs2)],[(5000,Yy)]⟩,[zs7],u6 (Pp N),[5000]⟩,kF N [Af,Xy,Qi5] [(16,.lp [6,30,31] [4,5,6,9] ⟨[(32,zs2)],[]⟩ [(.x 0,⟨[],[]⟩),(.r,Qp8)]),(39,.an (.dc 5 [44,45,46,47,48] [12] [] (.c 12 (.k 2 [] [] [] [] (.b 12 (.c 12 (.a Q95)))))))] func184⟩
def Qb1(N:Nat):V:=⟨⟨124,⟨[(0,Su),(1,Jc8),(2,Qeh),(3,zs2),(4,zs2)],[(5000,Yy)]⟩,[Qh6],u7 (B2 N),[5000]⟩,kF N [P9,Ca,Qai,Qoi,Qil] [(13,.jn [3,4,5,6,7] [5,6,7] [(.n,⟨[(12,zs2)],[]⟩)]),(29,.an (.dc 12 [74,75,76,77,78,79,80,81,82,83,84,85] [7,5,6] [5000] (.a (.c 7 (.a (.a (.a (.a (.c 5 (.d 6 5000 (.c 7 (.a (.k 3 [] [5000] [] [] (.k 4 [] [] [] [] Q95))))))))))))))] func124⟩
def Mg(N:Nat):V:=⟨⟨158,⟨Jlm,[(5000,.var 170 Qf3),(5001,.var 173 (.ag (sL [Jsr,.ag (sL [W7,Q5l,Ll])]))),(5002,Ze),(5003,Yy)]⟩,[zs1],u15 (Zw N),[5000,5001,5002,5003]⟩,kF N [] [(3,.an (.dr 10 (.n 10 .done) .done))] func158⟩
def K0(N:Nat):V:=⟨⟨157,⟨Jln,[(5000,Yy),(5001,.var 170 (.p 5002 [])),(5002,.var 173 (.ag (sL [Jss,Jc8]))),(5003,Ze)]⟩,[zs7],u14 (Y3 N),[5000,5001,5002,5003]⟩,kF N [Mg] [(6,.lp [0,1,7] [] Qp8 Qn3),(18,.rg (.n 5 (.call 0 .done)))] func157⟩
def Rb(N:Nat):V:=⟨⟨118,⟨Eg,Qx4⟩,[⟨Qf4,[(5002,Yy)]⟩],u14 (K7 N),[5000,5001]⟩,kF N [K0] [] func118⟩
def Ny(N:Nat):V:=⟨⟨127,⟨Qtz,Qx4⟩,[⟨[],Jsu⟩],u15 (Ki N),[]⟩,kF N [Qmg,Rb,Qi6] [(15,.an (.dc 11 [46,47,48,49,50,51,52,53,54,55,1000000010] [5000,7,5002] [] (.b 5000 (.d 5000 5000 (.b 5000 (.b 5000 (.d 5000 5002 (.a (.b 5000 (.c 7 (.a (.d 5002 5002 (.f 5002 5002 Q5m)))))))))))))] func127⟩
def Qdp(N:Nat):V:=⟨⟨82,⟨Jsv,Jsw⟩,[⟨Qf4,[(5000,.var 173 (.ag (sL [.ag (sL [zs2,zs2,zs2,zs2,Q5n,zs2,Nu,zs2,zs2,zs4,Kz]),Jlp]))),(1,Ze),(2,Yy)]⟩],u29 (Hp N),[]⟩,kF N [Qb0,S4,Ca,Qb1,Qai,Af,Ny] [(3,.gh (.fz 5003 (.dt 5000 (.fz 5004 (.dt 5000 (.fz 5005 Qf2)))))),(3,.an (.dc 17 [15,16,17,18,19,20,21,22,23,24,25,26,27,28,29,30,31] [5,5000] [] (.b 5000 (.b 5 (.c 5 (.b 5 (.c 5 (.b 5000 (.d 5000 5000 (.b 5000 (.c 5000 (.b 5000 (.d 5000 5000 (.b 5000 (.b 5000 (.b 5000 (.c 5000 (.a (.k 0 [] [] [13103,13102,13101] [13101,13102,13103] Qh5))))))))))))))))))),(5,.gh (.fz 13101 (.dt 5000 (.fz 13102 (.dt 5000 (.fz 13103 Qf2)))))),(5,.an (.dc 15 [34,35,36,37,38,39,40,41,42,43,44,45,46,47,48] [5,5000] [] (.b 5000 (.b 5 (.c 5 (.b 5000 (.d 5000 5000 (.b 5000 (.c 5000 (.b 5000 (.d 5000 5000 (.b 5000 (.b 5000 (.b 5000 (.c 5000 (.a (.k 1 [] [] [14803,14802,14801] [14801,14802,14803] Qh5))))))))))))))))),(9,.an (.dc 15 [59,60,61,62,63,64,65,66,67,68,58,69,70,9,1000000014] [5,5000] [] (.b 5 (.c 5 (.b 5000 (.d 5000 5000 (.b 5000 (.b 5000 (.b 5000 (.c 5000 (.a (.k 2 [] [] [] [] (.a (.a (.a (.e 9 (.f 9 9 Ci))))))))))))))))),(26,.gh (.fz 14801 (.dt 5000 (.fz 14803 (.dt 5000 (.fz 5001 Qf2)))))),(26,.an (.dc 17 [78,79,80,81,82,83,84,85,86,87,88,89,90,77,91,92,11] [5,5000,14802] [] (.c 5 (.b 5000 (.d 5000 5000 (.b 5000 (.d 5000 14802 (.b 5000 (.d 5000 5000 (.b 5000 (.b 5000 (.c 5000 (.a (.a (.k 3 [] [14802] [] [] (.a (.a (.a Jck)))))))))))))))))),(44,.jn [2,5,11,12] [5,9,5001,5003,5004,5005,13101,13102,13103,14801,14803] [(.n,⟨Eg,[(5000,.var 173 (.ag (sL [.ag (sL [zs2,zs2,zs2,zs2,Qeh,zs2,Qts,zs2,zs2,zs4,Kz]),.ag (sL [W7,Jpq,Ll])]))),(100001,Ze),(100002,Yy)]⟩)]),(47,.an (.dc 48 [102,103,104,105,106,107,108,109,110,111,112,113,114,115,116,117,118,119,120,121,122,123,124,125,126,127,128,129,130,131,132,133,134,135,136,137,101,138,139,140,141,142,143,1000000043,144,145,146,1000000047] [5000] [9] (.b 5000 (.b 5000 (.b 5000 (.d 5000 5000 (.b 5000 (.b 5000 (.c 5000 (.b 5000 (.d 5000 5000 (.b 5000 (.b 5000 (.b 5000 (.c 5000 (.b 5000 (.d 5000 5000 (.b 5000 (.b 5000 (.b 5000 (.c 5000 (.b 5000 (.d 5000 5000 (.b 5000 (.b 5000 (.b 5000 (.c 5000 (.b 5000 (.d 5000 5000 (.b 5000 (.b 5000 (.b 5000 (.c 5000 (.b 9 (.c 9 (.a (.a (.k 4 [] [] [23702,23701] [23701,23702] (.g [] [] [] [23701,23702] (.b 23701 (.b 23702 (.a (.d 5000 5000 (.b 5000 (.b 5000 (.g [5000] [23701] [] [5000,5002,14802,23701] Jsx)))))))))))))))))))))))))))))))))))))))))))))),(50,.jn [11,12] [5,9,5001,5003,5004,5005,13101,13102,13103,14801,14803] [(.n,⟨Eg,[(5000,.var 173 (.ag (sL [.ag (sL [zs2,zs2,zs2,zs2,Qeh,zs2,Ql0,zs2,zs2,zs4,Kz]),.ag (sL [W7,Jux,Ll])]))),(100101,Ze),(100102,Yy)]⟩)]),(51,.an (.dc 15 [148,149,150,151,152,153,154,155,156,157,147,158,159,13,1000000014] [5000] [5] (.b 5 (.c 5 (.b 5000 (.d 5000 5000 (.b 5000 (.b 5000 (.b 5000 (.c 5000 (.a (.k 5 [] [] [] [] (.a (.a (.a (.e 13 (.f 13 13 Ci)))))))))))))))))] func82⟩
def Qew(N:Nat):V:=⟨⟨80,⟨Jlq,Qx4⟩,[Jsz],u18 (Es N),[]⟩,kF N [] [(5,.an (.dc 9 [22,23,24,25,26,27,28,29,1000000008] [6,13,5000] [] (.b 5000 (.b 5000 (.b 6 (.c 6 (.c 13 (.d 5000 5000 (.b 5000 (.b 5000 (.g [5000] [] [] [5000,5001,5002] Q5m))))))))))),(7,.an (.dc 11 [33,34,35,36,37,38,39,40,41,1000000009,1000000010] [5000,13,10,5002,11,5001] [] (.b 5000 (.d 5000 5000 (.b 5000 (.d 5000 5002 (.b 5000 (.d 5000 5000 (.b 5000 (.d 5000 5001 (.c 13 (.g [10] [5002] [] [10,5002] (.g [11] [5001] [] [11,5001] Ci)))))))))))))] func80⟩
def Ru(N:Nat):V:=⟨⟨81,⟨Js0,Qx4⟩,[Jsz],u16 (Xt N),[]⟩,kF N [Qew] [(5,.jn [0,2,4,6,7,8] [4,6,7,8,5000,5001,5002] Jlr),(11,.an (.dc 13 [21,22,23,24,25,26,27,28,29,30,31,32,33] [4,5000,5001,5002] [] (.b 5000 (.c 4 (.b 5000 (.d 5000 5000 (.b 5000 (.b 5000 (.c 5000 (.a (.a (.k 0 [5000,5001,5002] [] [13002,13001] [5000,13001,13002] (.b 13001 (.b 13002 Js1))))))))))))))] func81⟩
def Qv3(N:Nat):V:=⟨⟨154,Q5j,[zs1],u3 (Qfv N),[]⟩,kF N [] [] func154⟩
def Qi7(N:Nat):V:=⟨⟨116,(sD [.sl Q8,.sl Xn]),[⟨Jc7,[(1,Ug)]⟩],u2 (Sr N),[]⟩,kF N [Qei,Qpp,Qv3] [(8,.lp [14,15] [] ⟨Jrz,[(100000,Ug)]⟩ [(.x 0,⟨[(6,Qxw)],[(100300,Ug)]⟩),(.r,⟨[(4,.ns),(5,zs2)],[]⟩)]),(33,.lp [6,8,16,23,24] [8,100000] ⟨[(9,zs2),(25,zs2)],[]⟩ [(.x 2,zs3)]),(45,.an (.dc 11 [30,31,32,33,34,35,36,37,38,39,40] [11] [8] (.c 11 (.k 1 [] [] [] [] (.b 8 (.c 8 (.b 8 (.c 8 (.b 8 (.c 8 (.b 8 (.c 8 Jck)))))))))))),(62,.an (.dr 12 (.n 12 .done) Jpp)),(68,.an (.dr 10 (.n 10 .done) zs5))] func116⟩
def Qg2(N:Nat):V:=⟨⟨117,(sD [Hd,.i,.i]),[⟨[(0,Jkt),(1,zs2),(2,zs2)],Jc1⟩],u3 (Nk N),[]⟩,kF N [P9,Eu,fun _=>⟨_,Va⟩] [(4,.rg (.n 1 (.call 0 (.n 2 (.sp 15 5 [1,2,3,6] [3,6] ⟨[(20,zs4)],[]⟩ G6 Q97 Qtt))))),(23,.an (.dc 10 [41,42,43,44,45,46,47,48,49,1000000009] [3,11] [] (.b 3 (.c 3 (.a (.a (.b 3 (.c 3 (.a (.a (.b 11 (.f 11 11 Q95))))))))))))] func117⟩
def Rc(N:Nat):V:=⟨⟨118,⟨Eg,Qx4⟩,[⟨Qf4,Jsu⟩],u14 (K8 N),[]⟩,kF N [K0] [] func118⟩
def Qej(N:Nat):V:=⟨⟨119,(sD [J5,.i,.i]),[Ql1],u3 (If N),[]⟩,kF N [Xy,Fh,U2] [] func119⟩
def Qb2(N:Nat):V:=⟨⟨75,⟨Qtz,Qx4⟩,[⟨[],Q5o⟩],u15 (Gf N),[]⟩,kF N [Qi7,Qg2,Rc,Qej] [(6,.lp [0,1,23,24] [5000,5001,5002] Js2 Js3),(14,.jn [25] [] [(.n,⟨[(4,zs2),(5,Qlx)],[(100100,Ze)]⟩)]),(30,.jn [1,4] [] [(.n,⟨Eg,[(5000,.var 173 (.ag (sL [.ag (sL [zs2,zs2,zs2,zs2,Qeh,zs2,Qtx,zs2,zs2,zs4,Kz]),.ag (sL [W7,Q5g,Ll])]))),(100301,Ze),(100302,Yy)]⟩)]),(44,.jn [] [] [(.n,⟨Js4,[(5000,.var 173 (.ag (sL [.ag (sL [zs2,zs2,zs2,zs2,Q5n,zs2,Q5h,zs2,zs2,zs4,Kz]),.ag (sL [W7,Jc0,Ll])]))),(100401,Ze),(100402,Yy)]⟩)]),(54,.jn [] [] [(.n,⟨Eg,[(5000,.var 173 (.ag (sL [Js5,.ag (sL [W7,Jk4,Ll])]))),(100501,Ze),(100502,Yy)]⟩)]),(60,.an (.dc 20 [117,118,119,120,121,122,123,124,125,126,127,128,129,130,131,116,132,133,16,1000000019] [5000,20502] [] (.b 5000 (.d 5000 5000 (.b 5000 (.b 5000 (.d 5000 20502 (.a (.d 20502 20502 (.c 20502 (.b 5000 (.d 5000 5000 (.b 5000 (.b 5000 (.c 5000 (.a (.k 3 [] [] [] [] (.a (.a (.a (.e 16 (.f 16 16 Ci)))))))))))))))))))))),(64,.an (.dr 8 Qp9 zs5))] func75⟩
def Qdq(N:Nat):V:=⟨⟨79,⟨Qtz,Q5p⟩,[⟨[],Q5o⟩],u5 (Hq N),[]⟩,kF N [] [] func79⟩
def E7(N:Nat):V:=⟨⟨80,⟨Jlq,Q5p⟩,[Js7],u8 (U9 N),[]⟩,kF N [] [(5,.an (.dc 9 [22,23,24,25,26,27,28,29,1000000008] [6,13,5000] [] (.b 5000 (.b 5000 (.b 6 (.c 6 (.c 13 (.d 5000 5000 (.b 5000 (.b 5000 (.g [5000] [] [] [5000,5001] Q5m))))))))))),(7,.an (.dc 11 [33,34,35,36,37,38,39,40,41,1000000009,1000000010] [5000,13,10,5001,11] [] (.b 5000 (.d 5000 5000 (.b 5000 (.d 5000 5001 (.b 5000 (.d 5000 5000 (.b 5000 (.c 5000 (.c 13 (.g [10] [5001] [] [10,5001] Js8))))))))))))] func80⟩
def Qqq(N:Nat):V:=⟨⟨76,(sD [Uq,J2,J6]),[Js9],u3 (T3 N),[]⟩,kF N [B9,Q0m,Md,Qdp,Ru,Qb2,Qdq,E7] [(5,.jn [3,4,5,6,7,8] [3,4,5,6,7,8] Jlr),(13,.jn [3,4,5,6,7,8] [3,4,5,6,7,8] Jsp),(63,.an (.dr 8 Qp9 .done)),(66,.jn [4,5,6,7,8] [3,4,5,6,7,8,11,17501,19501,20201,20202] [(.n,Jle)])] func76⟩
def Qek(N:Nat):V:=⟨⟨77,(sD [Yb,J6,.i,.i]),[zs7],u4 (Ig N),[]⟩,kF N [] [] func77⟩
def Mh(N:Nat):V:=⟨⟨158,⟨Jlm,[(5000,.var 170 Qf3),(5001,.var 173 (.ag (sL [Jsr,.ag (sL [W7,Q5l,.s 5004])]))),(5002,Ze),(5003,Yy),(5004,Lj)]⟩,[zs1],u15 (Zx N),[5000,5001,5002,5003,5004]⟩,kF N [] [(3,.an (.dr 10 (.n 10 .done) .done))] func158⟩
def Cb(N:Nat):V:=⟨⟨157,⟨Jln,[(5000,Yy),(5001,.var 170 (.p 5002 [])),(5002,.var 173 (.ag (sL [Jss,.ag (sL [W7,Qx3,.s 5004])]))),(5003,Ze),(5004,Lj)]⟩,[⟨Qf4,[(5000,Yy),(5002,.var 173 (.ag (sL [Jlo,.ag (sL [W7,Qx3,Qh3])]))),(1,Ze),(2,Lj)]⟩],u14 (Ub N),[5001]⟩,kF N [Mh] [(6,.lp [0,1,7] [5000,5002,5003,5004] Qp8 Qn3),(18,.rg (.n 5 (.call 0 .done)))] func157⟩
def Rd(N:Nat):V:=⟨⟨118,⟨Eg,[(5000,.var 173 (.ag (sL [.ag (sL [zs2,zs2,zs2,zs2,Q5n,zs2,Qpl,zs2,zs2,zs4,Kz]),.ag (sL [W7,Qx2,Q5l])]))),(5001,Ze),(5002,Yy),(5003,Lj)]⟩,[⟨Qf4,[(5000,.var 173 (.ag (sL [Jlo,.ag (sL [W7,Qh3,Q43])]))),(1,Ze),(2,Yy),(3,Lj)]⟩],u26 (K9 N),[]⟩,kF N [Cb] [] func118⟩
def Hv(N:Nat):V:=⟨⟨75,⟨Qtz,Jsw⟩,[⟨[],Jlu⟩],u27 (Uj N),[]⟩,kF N [Qi7,Qg2,Rd,Qej] [(6,.lp [0,1,23,24] [5000,5001,5002,5003,5004,5005] Js2 Js3),(14,.jn [25] [] [(.n,⟨[(4,zs2),(5,Qlx)],[(100100,Ze)]⟩)]),(30,.jn [1,4] [] [(.n,⟨Eg,[(5000,.var 173 (.ag (sL [.ag (sL [zs2,zs2,zs2,zs2,.ag (sL [zs2,zs2,zs2,V2,V2,zs2,.ag (sL [zs2,V2,V2,zs2,Qtx]),zs2,zs2]),zs2,Q5g,zs2,zs2,zs4,Kz]),.ag (sL [.s 100303,.s 100304,.s 100305])]))),(100301,Qtv),(100302,Ze),(100303,Jta),(100304,Yy),(100305,Lj)]⟩)]),(44,.jn [] [] [(.n,⟨Js4,[(5000,.var 173 (.ag (sL [.ag (sL [zs2,zs2,zs2,zs2,.ag (sL [zs2,zs2,zs2,V2,V2,zs2,.ag (sL [zs2,V2,V2,zs2,Q5h]),zs2,zs2]),zs2,Jc0,zs2,zs2,zs4,Kz]),.ag (sL [.s 100403,.s 100404,.s 100405])]))),(100401,.tail 141 Vj),(100402,Ze),(100403,Jta),(100404,Yy),(100405,Lj)]⟩)]),(54,.jn [] [100401,100403] [(.n,⟨Eg,[(5000,.var 173 (.ag (sL [Js5,.ag (sL [W7,Jk4,.s 100503])]))),(100501,Ze),(100502,Yy),(100503,Lj)]⟩)]),(60,.an (.dc 20 [117,118,119,120,121,122,123,124,125,126,127,128,129,130,131,116,132,133,16,1000000019] [5000,20502] [] (.b 5000 (.d 5000 5000 (.b 5000 (.b 5000 (.d 5000 20502 (.a (.d 20502 20502 (.c 20502 (.b 5000 (.d 5000 5000 (.b 5000 (.b 5000 (.c 5000 (.a (.k 3 [] [] [] [] (.a (.a (.a (.e 16 (.f 16 16 Ci)))))))))))))))))))))),(64,.an (.dr 8 Qp9 zs5))] func75⟩
def Rv(N:Nat):V:=⟨⟨79,⟨Qtz,Jlv⟩,[⟨[],Jlu⟩],u5 (Xu N),[]⟩,kF N [] [] func79⟩
def Qaj(N:Nat):V:=⟨⟨80,⟨Jlq,Jlv⟩,[⟨[(0,Jlt),(1,Ql2),(2,Kz)],Jlu⟩],u8 (Wt N),[]⟩,kF N [] [(5,.an (.dc 9 [22,23,24,25,26,27,28,29,1000000008] [6,13,5000] [] (.b 5000 (.b 5000 (.b 6 (.c 6 (.c 13 (.d 5000 5000 (.b 5000 (.b 5000 (.g [5000] [] [] [5000,5001,5002] Q5m))))))))))),(7,.an (.dc 11 [33,34,35,36,37,38,39,40,41,1000000009,1000000010] [5000,13,10,5001,5002,11] [] (.b 5000 (.d 5000 5000 (.b 5000 (.g [] [5000] [] [5001,5002] (.b 5000 (.d 5000 5000 (.b 5000 (.c 5000 (.c 13 (.g [10] [5001,5002] [] [10,5001,5002] Js8))))))))))))] func80⟩
def Quc(N:Nat):V:=⟨⟨39,Jtb,[⟨[(0,Jlt),(1,.ag (sL [zs2,zs2,zs2,zs2,Q5n,zs2,Jls,zs2,zs2,zs4,Kz])),(2,Kz)],[(1,Yy),(2,Lj)]⟩],u4 (Qdb N),[]⟩,kF N [Qek,B9,Md,Hv,Rv,Qaj] [] func39⟩
def Mi(N:Nat):V:=⟨⟨158,⟨Jlm,[(5000,.var 170 Qf3),(5001,.var 173 (.ag (sL [Ql2,Jst]))),(5002,Yy)]⟩,[zs1],u5 (Zy N),[5000,5001,5002]⟩,kF N [] [(3,.an (.dr 10 (.n 10 .done) .done))] func158⟩
def Cc(N:Nat):V:=⟨⟨157,⟨Jln,[(5000,Yy),(5001,.var 170 (.p 5002 [])),(5002,.var 173 (.ag (sL [Ql2,Jc8])))]⟩,[zs7],u4 (Uc N),[5000,5001,5002]⟩,kF N [Mi] [(6,.lp [0,1,7] [] Qp8 Qn3),(18,.rg (.n 5 (.call 0 .done)))] func157⟩
def Re(N:Nat):V:=⟨⟨118,⟨Eg,Q5p⟩,[⟨Qf4,[(5001,Yy)]⟩],u4 (Xa N),[5000]⟩,kF N [Cc] [] func118⟩
def Nz(N:Nat):V:=⟨⟨127,⟨Qtz,Q5p⟩,[⟨[],Q5o⟩],u5 (Kj N),[]⟩,kF N [Qmg,Re,Qi6] [(15,.an (.dc 11 [46,47,48,49,50,51,52,53,54,55,1000000010] [5000,7,5001] [] (.b 5000 (.d 5000 5000 (.b 5000 (.b 5000 (.d 5000 5001 (.a (.b 5000 (.c 7 (.a (.d 5001 5001 (.f 5001 5001 Q5m)))))))))))))] func127⟩
def Rw(N:Nat):V:=⟨⟨82,⟨Jsv,Jlv⟩,[⟨Qf4,Q5o⟩],u7 (Xv N),[]⟩,kF N [Qb0,S4,Ca,Qb1,Qai,Af,Nz] [(3,.gh (.fz 5001 (.dt 5000 (.fz 5002 Qf2)))),(3,.an (.dc 17 [15,16,17,18,19,20,21,22,23,24,25,26,27,28,29,30,31] [5,5000] [] (.b 5000 (.b 5 (.c 5 (.b 5 (.c 5 (.b 5000 (.d 5000 5000 (.b 5000 (.c 5000 (.b 5000 (.d 5000 5000 (.b 5000 (.b 5000 (.b 5000 (.c 5000 (.a (.k 0 [] [] [13103,13102,13101] [13101,13102,13103] Qh5))))))))))))))))))),(5,.gh (.fz 13101 (.dt 5000 (.fz 13102 (.dt 5000 (.fz 13103 Qf2)))))),(5,.an (.dc 15 [34,35,36,37,38,39,40,41,42,43,44,45,46,47,48] [5,5000] [] (.b 5000 (.b 5 (.c 5 (.b 5000 (.d 5000 5000 (.b 5000 (.c 5000 (.b 5000 (.d 5000 5000 (.b 5000 (.b 5000 (.b 5000 (.c 5000 (.a (.k 1 [] [] [14803,14802,14801] [14801,14802,14803] Qh5))))))))))))))))),(9,.an (.dc 15 [59,60,61,62,63,64,65,66,67,68,58,69,70,9,1000000014] [5,5000] [] (.b 5 (.c 5 (.b 5000 (.d 5000 5000 (.b 5000 (.b 5000 (.b 5000 (.c 5000 (.a (.k 2 [] [] [] [] (.a (.a (.a (.e 9 (.f 9 9 Ci))))))))))))))))),(26,.gh (.fz 14801 (.dt 5000 (.fz 14803 Qf2)))),(26,.an (.dc 17 [78,79,80,81,82,83,84,85,86,87,88,89,90,77,91,92,11] [5,5000,14802] [] (.c 5 (.b 5000 (.d 5000 5000 (.b 5000 (.d 5000 14802 (.b 5000 (.d 5000 5000 (.b 5000 (.b 5000 (.c 5000 (.a (.a (.k 3 [] [14802] [] [] (.a (.a (.a Jck)))))))))))))))))),(44,.jn [2,5,11,12] [5,9,5001,5002,13101,13102,13103,14801,14803] [(.n,⟨Eg,[(5000,.var 173 (.ag (sL [.ag (sL [zs2,zs2,zs2,zs2,Qeh,zs2,Jls,zs2,zs2,zs4,Kz]),Jtc]))),(100001,Yy)]⟩)]),(47,.an (.dc 48 [102,103,104,105,106,107,108,109,110,111,112,113,114,115,116,117,118,119,120,121,122,123,124,125,126,127,128,129,130,131,132,133,134,135,136,137,101,138,139,140,141,142,143,1000000043,144,145,146,1000000047] [5000] [9] (.b 5000 (.b 5000 (.b 5000 (.d 5000 5000 (.b 5000 (.b 5000 (.c 5000 (.b 5000 (.d 5000 5000 (.b 5000 (.b 5000 (.b 5000 (.c 5000 (.b 5000 (.d 5000 5000 (.b 5000 (.b 5000 (.b 5000 (.c 5000 (.b 5000 (.d 5000 5000 (.b 5000 (.b 5000 (.b 5000 (.c 5000 (.b 5000 (.d 5000 5000 (.b 5000 (.b 5000 (.b 5000 (.c 5000 (.b 9 (.c 9 (.a (.a (.k 4 [] [] [23702,23701] [23701,23702] (.g [] [] [] [23701,23702] (.b 23701 (.b 23702 (.a (.d 5000 5000 (.b 5000 (.b 5000 (.g [5000] [23701] [] [5000,14802,23701] Jsx)))))))))))))))))))))))))))))))))))))))))))))),(50,.jn [11,12] [5,9,5001,5002,13101,13102,13103,14801,14803] [(.n,⟨Eg,[(5000,.var 173 (.ag (sL [Ql2,Jtd]))),(100101,Yy)]⟩)]),(51,.an (.dc 15 [148,149,150,151,152,153,154,155,156,157,147,158,159,13,1000000014] [5000] [5] (.b 5 (.c 5 (.b 5000 (.d 5000 5000 (.b 5000 (.b 5000 (.b 5000 (.c 5000 (.a (.k 5 [] [] [] [] (.a (.a (.a (.e 13 (.f 13 13 Ci)))))))))))))))))] func82⟩
def Mj(N:Nat):V:=⟨⟨81,⟨Js0,Q5p⟩,[Js7],u6 (Zz N),[]⟩,kF N [E7] [(5,.jn [0,2,4,6,7,8] [4,6,7,8,5000,5001] Jlr),(11,.an (.dc 13 [21,22,23,24,25,26,27,28,29,30,31,32,33] [4,5000,5001] [] (.b 5000 (.c 4 (.b 5000 (.d 5000 5000 (.b 5000 (.b 5000 (.c 5000 (.a (.a (.k 0 [5000,5001] [] [13001] [5000,13001] (.b 13001 Jte)))))))))))))] func81⟩
def Qoj(N:Nat):V:=⟨⟨40,Jtb,[Js9],u4 (Pq N),[]⟩,kF N [Qek,B9,Md,Hv,Rw,Mj] [(17,.an (.dc 13 [33,34,35,36,37,38,39,40,41,42,43,44,45] [7,4,12801,13201,13202] [] (.b 12801 (.c 7 (.b 12801 (.c 4 (.b 7 (.c 7 (.b 7 (.c 7 (.k 4 [12801,13201,13202] [] [14101] [12801,14101] (.k 5 [12801,14101] [] [14201] [12801,14201] (.b 14201 Jte)))))))))))))] func40⟩
def Az(N:Nat):V:=⟨⟨34,⟨Eg,Jc9⟩,[zs1],u5 (V7 N),[5000,5001,5002]⟩,kF N [] [(3,.rg (.n 3 (.nl 5 Q94)))] func34⟩
def Qak(N:Nat):V:=⟨⟨38,⟨Jda,Jc9⟩,[Jtf],u6 (Wu N),[]⟩,kF N [Qqq] [(3,.an (.dr 7 Qtt zs5)),(5,.gh (.fz 5001 Qf2)),(5,.an (.dc 19 [16,17,18,19,20,21,22,23,24,25,15,26,27,28,5,6,7,1000000017,1000000018] [5000,3] [] (.b 5000 (.d 5000 5000 (.b 5000 (.c 5000 (.b 5000 (.d 5000 5000 (.b 5000 (.c 5000 (.c 3 (.k 0 [] [] [12501] [12501] (.b 12501 (.b 12501 (.a (.a (.e 5 (.e 6 (.e 7 (.g [5] [12501] [] [5,12501] (.f 6 6 Ci))))))))))))))))))))),(7,.an (.dc 14 [29,30,31,32,33,34,35,36,37,38,39,1000000011,40,41] [5000,3,5,6,12501,5002] [] (.b 5000 (.b 5000 (.d 5000 5000 (.b 5000 (.d 5000 5002 (.b 3 (.c 3 (.d 5 12501 (.c 6 (.d 5000 5000 (.b 5000 (.g [5000] [12501] [] [5000,5002,12501] (.op ⟨.br .done,[5002],[],[40],[40,5002]⟩ (.b 40 (.tl (.br .done)))))))))))))))))),(9,.jn [4,7] [3,4,5,6,7,5000,5001,12501] [(.n,⟨[],[(5002,C4)]⟩)]),(12,.an (.dr 6 Q96 zs5))] func38⟩
def C8(N:Nat):V:=⟨⟨12,⟨Jda,Jc9⟩,[Jtf],u6 (Ys N),[]⟩,kF N [Az,Qn4,Qak,Quc,Qoj] [(19,.an (.dc 12 [23,24,25,26,27,28,29,22,30,31,5,1000000011] [5000,3,5002] [] (.b 5000 (.d 5000 5000 (.b 5000 (.d 5000 5002 (.b 3 (.c 3 (.c 5002 (.a (.a (.a (.e 5 Jtg))))))))))))),(52,.jn [4] [3,4,5] [(.n,⟨[(7,.p 100002 [])],[(5000,.var 91 (.ag (sL [Su,.ag (sL [W7,Juz,Ll]),Qf1]))),(5002,C4),(100002,.var 50 Kz),(100003,Yy)]⟩)]),(55,.gh (.fz 5001 Qf2)),(55,.an (.dc 26 [67,68,69,70,71,72,73,74,75,76,77,78,79,80,81,82,83,84,66,85,86,87,88,89,1000000024,1000000025] [5000,5002] [3,5] (.b 5000 (.b 5000 (.d 5000 5000 (.b 5000 (.d 5000 5002 (.b 3 (.c 3 (.b 5000 (.d 5000 5000 (.b 5000 (.c 5000 (.b 5000 (.d 5000 5000 (.b 5000 (.c 5000 (.c 5 (.c 3 (.k 3 [] [] [18402,18401] [18401,18402] (.g [] [] [] [18401,18402] (.g [] [] [] [18401,18402] (.a (.a (.d 5000 5000 (.b 5000 (.g [5000] [18401,18402] [] [5000,5002,18401,18402] Jth))))))))))))))))))))))))))),(56,.gh (.fz 5001 Qf2)),(56,.an (.dc 26 [91,92,93,94,95,96,97,98,99,100,101,102,103,104,105,106,107,108,90,109,110,111,112,113,1000000024,1000000025] [5000,5002] [3,5] (.b 5000 (.b 5000 (.d 5000 5000 (.b 5000 (.d 5000 5002 (.b 3 (.c 3 (.b 5000 (.d 5000 5000 (.b 5000 (.c 5000 (.b 5000 (.d 5000 5000 (.b 5000 (.c 5000 (.c 5 (.c 3 (.k 4 [] [] [20801] [20801] (.b 20801 (.b 20801 (.a (.a (.d 5000 5000 (.b 5000 (.g [5000] [20801] [] [5000,5002,20801] Jth)))))))))))))))))))))))))))] func12⟩
def Qb3(N:Nat):V:=⟨⟨73,⟨[(0,.m 5000)],[(5000,C4)]⟩,[⟨[(0,.f 113 (sL [.p 1 []]))],[(5000,C4),(1,.var 89 (.m 5000))]⟩],Gg N,[]⟩,kF N [] [] func73⟩
def Qb4(N:Nat):V:=⟨⟨34,⟨Eg,Jlw⟩,[⟨[(0,zs4)],Jlw⟩],u3 (Z6 N),[]⟩,kF N [] [(3,.rg (.n 3 (.nl 5 Q94)))] func34⟩
def Rf(N:Nat):V:=⟨⟨35,⟨Eg,Jlw⟩,[⟨[(0,.d (.sl .i))],[(5001,C4)]⟩],u3 (Xb N),[5000]⟩,kF N [Qb3,fun _=>⟨_,Qab⟩] [] func35⟩
def Qg3(N:Nat):V:=⟨⟨43,Jru,[Jrw],Ad N,[]⟩,kF N [fun _=>⟨_,E4⟩,fun _=>⟨_,Va⟩] [] func43⟩
def Qal(N:Nat):V:=⟨⟨16,⟨Eg,[(5000,.var 91 (.ag (sL [Su,Jlx,Qtw]))),(5001,C4)]⟩,[⟨Qh1,[(5000,.var 91 (.ag (sL [Su,.d J2,Qtw]))),(5001,C4),(1,Jly)]⟩],u5 (Yk N),[]⟩,kF N [Qb4,Rf,Qg3] [(16,.lp [0,10,11] [5000,5001] ⟨[(3,Qdh),(12,zs2)],[(100000,Jly)]⟩ [(.x 0,⟨Qxz,[(100100,Jly)]⟩)]),(27,.rg (.n 7 (.call 2 (.fz 12301 (.fz 12302 Q0h)))))] func16⟩
def Qdr(N:Nat):V:=⟨⟨83,Q48,[zs1],u2 (Hr N),[]⟩,kF N [] [(14,.lp [2,3] [2,3] Mc Qj5),(24,.an (.dr 11 (.n 11 .done) .done))] func83⟩
def Qim(N:Nat):V:=⟨⟨41,(sD [.sl Q8,.sl Q8]),[zs1],u2 (B3 N),[]⟩,kF N [Qdr] [(14,.lp [0,1] [] Mc Qj5),(24,.an (.dr 8 Qp9 Q45))] func41⟩
def Qin(N:Nat):V:=⟨⟨13,(sD [J2,J2]),[zs1],u2 (Gy N),[]⟩,kF N [Qim] [(14,.lp [2,3] [2,3] Mc Qj5),(24,.an (.dr 11 (.n 11 .done) .done)),(35,.lp [2,3] [2,3] Jkp [(.x 2,⟨[],[]⟩),(.r,⟨[(4,zs4)],[]⟩)]),(45,.an (.dr 11 (.n 11 .done) .done))] func13⟩
def Qio(N:Nat):V:=⟨⟨84,(sD [Hd,Hd]),[zs1],u2 (Gz N),[]⟩,kF N [] [(11,.an (.dc 7 [62,63,64,65,5,6,1000000006] [2,3] [] (.b 2 (.c 2 (.b 3 (.c 3 (.e 5 (.e 6 Jtg)))))))),(24,.lp [5,6] [2,3,5,6] Q98 Qj5),(34,.an (.dr 11 (.n 11 .done) .done))] func84⟩
def Qam(N:Nat):V:=⟨⟨85,(sD [.sl Xn,.sl Xn]),[zs1],u2 (Za N),[]⟩,kF N [] [(14,.lp [0,1] [] Mc Qj5),(24,.an (.dr 9 (.n 9 .done) .done))] func85⟩
def Qip(N:Nat):V:=⟨⟨42,(sD [Yb,Yb]),[zs1],u2 (G0 N),[]⟩,kF N [Qio,Qam] [(3,.rg (.n 27 (.sp 31 6 [2,3] [2,3] Jun (.nl 4 Q45) Qvw (.n 8 (.sp 45 6 [2,3] [2,3] ⟨[(51,zs4)],[]⟩ (.nl 4 Jko) Qvw (.n 29 .done))))))] func42⟩
def N0(N:Nat):V:=⟨⟨15,(sD [.sl Yb,.sl Yb]),[zs1],u2 (V5 N),[]⟩,kF N [Qip] [(14,.lp [0,1] [] Mc Qj5),(24,.an (.dr 8 Qp9 Q45))] func15⟩
def Qkk(N:Nat):V:=⟨⟨19,(sD [Vf]),[zs1],Xw N,[]⟩,kF N [Qgn,Qkb,P1] [(4,.rg (.n 2 (.call 0 (.n 2 (.sp 8 5 [1] [1] zs8 G6 Jkm Q96))))),(14,.lp [1] [1] Pz Qlw),(24,.jn [3] [] [(.n,⟨[(52,zs4)],[]⟩)]),(24,.an (.dc 23 [27,28,29,30,31,32,33,34,35,36,37,38,39,40,41,42,43,44,45,46,47,48,49] [] [1] (.b 1 (.c 1 (.a (.a (.a (.a (.a (.a (.a (.so 35 (.a (.a (.a (.a (.a Jrm))))) (.b 1 (.b 1 (.c 1 (.b 1 (.b 1 (.c 1 (.b 1 (.c 1 (.b 1 (.c 1 (.a (.a (.a (.a (.tl (.call 2 Qvv))))))))))))))))))))))))))))] func19⟩
def Qi8(N:Nat):V:=⟨⟨21,(sD []),[⟨Jcq,[(1,.var 109 (.ag (sL [.ns,zs2,.m 2]))),(2,B7)]⟩],fun _=>Ss N,[]⟩,kF N [] [] func21⟩
def Z4(N:Nat):V:=⟨⟨45,Jdc,[zs1],u3 (Ud N),[5000,5001,5002]⟩,kF N [] [(3,.rg (.n 3 (.nl 5 Q94)))] func45⟩
def Qi9(N:Nat):V:=⟨⟨129,Jlz,[Qpn],u2 (Lg N),[]⟩,kF N [] [] func129⟩
def Qud(N:Nat):V:=⟨⟨190,zs7,[Jti],Nl N,[]⟩,kF N [] [] func190⟩
def Qpq(N:Nat):V:=⟨⟨128,⟨[(0,Qx3),(1,zs2)],[(5000,Lm)]⟩,[Qpn],u2 (Qbr N),[]⟩,kF N [Qud] [(6,.lp [] [] ⟨[(0,Qdh),(5,.d (.int .u64))],[(100000,Lm)]⟩ [(.x 0,⟨[(0,Qlx),(5,.d (.int .u64))],[(100100,Lm)]⟩)])] func128⟩
def S5(N:Nat):V:=⟨⟨87,Jlz,[Qpn],u2 (Uz N),[]⟩,kF N [Qi9,Qpq] [] func87⟩
def Qqr(N:Nat):V:=⟨⟨88,(sD [.sl (.int .u8),.str]),[Qpn],u2 (Ih N),[]⟩,kF N [Qi9,Qpq] [] func88⟩
def D7(N:Nat):V:=⟨⟨44,(sD [J6]),[Qpn],Xx N,[]⟩,kF N [S5,Qqr] [(8,.lp [1,19,20] [1] ⟨[(3,Qdh),(21,zs2)],[(100000,Lm)]⟩ [(.x 0,⟨Qxz,[(100100,Lm)]⟩)]),(24,.gh (.fz 13201 .done)),(24,.an (.dc 6 [33,34,35,36,37,38] [1] [] (.a (.b 1 (.c 1 (.k 0 [] [] [13601] [13601] (.b 1 (.c 1 (.tl Q45)))))))))] func44⟩
def Qpr(N:Nat):V:=⟨⟨130,Ql3,[(sD [.int .u32])],Qbs N,[]⟩,kF N [] [(8,.lp [6,7] [] ⟨[(3,.d (.int .u32)),(8,zs2)],[]⟩ [(.x 0,⟨[(3,.d (.int .u32))],[]⟩)])] func130⟩
def Qqs(N:Nat):V:=⟨⟨89,⟨[(0,Qx3),(1,Jtj)],[(5000,Lm)]⟩,[Qpn],u2 (T4 N),[]⟩,kF N [Qpr,S5] [] func89⟩
def Qmh(N:Nat):V:=⟨⟨47,Ql3,[⟨Jc7,Jdd⟩],Pr N,[]⟩,kF N [Qqs] [] func47⟩
def Ag(N:Nat):V:=⟨⟨46,Jdc,[⟨[],Q5q⟩],u3 (Zj N),[]⟩,kF N [] [(1,.an (.dc 16 [2,3,4,5,6,7,8,9,10,11,12,13,14,15,16,17] [5000,5002,5001] [] (.b 5000 (.b 5000 (.d 5000 5000 (.b 5000 (.d 5000 5001 (.b 5000 (.d 5000 5000 (.b 5000 (.d 5000 5002 (.b 5000 (.d 5000 5000 (.b 5000 (.d 5000 5002 (.c 5002 (.c 5002 (.g [5001] [] [17] [17] Qh5)))))))))))))))))),(2,.an (.dr 13 (.n 13 .done) zs5))] func46⟩
def Qg4(N:Nat):V:=⟨⟨23,⟨Jda,Jdb⟩,[⟨Qf4,Q5q⟩],u4 (Ps N),[]⟩,kF N [Z4,D7,Qmh,Ag] [(25,.an (.dr 15 zs27 zs5))] func23⟩
def A1(N:Nat):V:=⟨⟨23,⟨Jda,Jdb⟩,[⟨Qf4,Q5q⟩],u4 (Yv N),[]⟩,kF N [Z4,D7,Qmh,Ag] [(25,.an (.dr 15 zs27 zs5))] func23⟩
def Rg(N:Nat):V:=⟨⟨22,Jdc,[⟨Qf4,Q5q⟩],u3 (Vl N),[]⟩,kF N [Z4,Ag] [] func22⟩
def Nf(N:Nat):V:=⟨⟨24,⟨Qtz,Jdb⟩,[⟨[],Q5q⟩],u4 (Ky N),[]⟩,kF N [Z4] [(7,.an (.dr 19 (.n 19 .done) .done)),(13,.lp [0,4] [34,5000] ⟨[(5,zs2)],[(5002,B7)]⟩ [(.x 0,⟨[],[(5002,B7)]⟩)])] func24⟩
def Ng(N:Nat):V:=⟨⟨26,Jdc,[⟨Qh1,[(5001,Lm),(1,Lm)]⟩],u3 (Vz N),[5000,5002]⟩,kF N [Z4,fun _=>⟨_,Qdg⟩] [] func26⟩
def Q0o(N:Nat):V:=⟨⟨260,Jti,[zs7],Qdd N,[]⟩,kF N [] [] func260⟩
def Qmi(N:Nat):V:=⟨⟨191,Ql3,[Q5j],Pt N,[]⟩,kF N [Q0o] [(8,.lp [0] [] ⟨[(5,.d (.int .u64)),(6,zs2)],[]⟩ [(.x 0,⟨[],[]⟩),(.r,⟨[(2,zs2),(3,zs2),(4,zs2)],[]⟩)])] func191⟩
def Qmj(N:Nat):V:=⟨⟨192,Jlz,[Qpn],u2 (Pu N),[]⟩,kF N [] [] func192⟩
def Qg5(N:Nat):V:=⟨⟨131,Ql3,[⟨[(0,zs2),(1,Nu),(2,zs2)],Jdd⟩],B4 N,[]⟩,kF N [Qmi,Qmj] [] func131⟩
def Que(N:Nat):V:=⟨⟨90,Ql3,[Q5j],H9 N,[]⟩,kF N [Qg5,Qpr] [(38,.an (.dr 30 (.n 30 .done) .done))] func90⟩
def Quf(N:Nat):V:=⟨⟨91,(sD [.sl (.int .u8),.i,.i]),[Qpn],u3 (Nn N),[]⟩,kF N [] [] func91⟩
def Q5t(N:Nat):V:=⟨⟨48,Ql3,[⟨Jc7,[(1,Jl0)]⟩],Qht N,[]⟩,kF N [Que,Quf] [(8,.lp [0] [] ⟨[(4,Qdh),(5,zs2)],[(100000,Jl0)]⟩ [(.x 0,⟨[(4,Qlx),(5,zs2)],[(100100,Jl0)]⟩)]),(25,.rg (.n 8 (.call 1 (.fz 13101 Q0h))))] func48⟩
def Qb5(N:Nat):V:=⟨⟨92,Jtk,[⟨Qf4,Jtl⟩],Qt N,[]⟩,kF N [Qg5] [] func92⟩
def Qug(N:Nat):V:=⟨⟨193,Ql3,[Q5j],Qde N,[]⟩,kF N [Qmi] [] func193⟩
def Q0p(N:Nat):V:=⟨⟨132,Ql3,[⟨[(0,V2),(1,Nu),(2,zs2)],Jdd⟩],Qdf N,[]⟩,kF N [Qug,Qmj] [(21,.an (.dc 12 [23,24,25,26,27,28,29,30,31,32,33,34] [] [] (.a (.a (.a (.a (.a (.a (.a (.a (.a (.a (.a (.k 1 [] [] [13401] [13401] Qh5))))))))))))))] func132⟩
def Qex(N:Nat):V:=⟨⟨93,Jtk,[⟨[(0,V2)],Jtl⟩],U1 N,[]⟩,kF N [Q0p] [] func93⟩
def Qok(N:Nat):V:=⟨⟨49,Ql3,[Jrt],B6 N,[]⟩,kF N [Qb5,Qex] [(20,.an (.dc 4 [30,31,32,1000000003] [4,2] [] (.a (.b 4 (.c 4 (.f 2 2 Ci))))))] func49⟩
def S6(N:Nat):V:=⟨⟨25,(sD [Uq,J2,.sl (.int .u8)]),[⟨[(0,.p 1 []),(1,zs2)],[(1,.var 91 (.ag (sL [Su,Jlp,.m 3]))),(2,Yy),(3,C4)]⟩],u3 (W6 N),[]⟩,kF N [Ql8,Q5t,Qok,C8] [(10,.lp [24,25] [3,4,12101] ⟨[(8,Qh2),(9,zs2),(26,zs2)],[(100000,.var 91 (.ag (sL [Jtm,Jtc,Jlj]))),(100001,Yy),(100002,C4)]⟩ [(.x 0,⟨[(8,Qh4),(9,zs2)],[(100100,.var 91 (.ag (sL [Su,Jtd,Jlk]))),(100101,Yy),(100102,C4)]⟩)])] func25⟩
def Qg6(N:Nat):V:=⟨⟨20,(sD []),[zs1],fun _=>Z3 N,[]⟩,kF N [Qi8,Qg4,A1,Rg,Nf,Ng,S6,D7] [(13,.rg (.n 2 (.call 1 (.n 2 (.call 2 Q94))))),(17,.rg (.n 2 Jpp)),(25,.rg (.n 2 Jpp)),(27,.rg (.n 27 (.sp 66 5 [1] [11001,11002,13001,13101,13102,13103,13501] ⟨[(71,zs4)],[(13901,Lm)]⟩ (.nl 1 (.call 5 Jgl)) G6 (.n 1 (.sp 72 5 [] [11001,11002,13001,13101,13102,13103,13501,13901] ⟨[(77,zs4)],[]⟩ (.nl 1 (.call 7 Jgl)) G6 zs5)))))] func20⟩
def Qan(N:Nat):V:=⟨⟨14,⟨Eg,Jc9⟩,[⟨Juv,[(5001,.tail 101 J5),(1,Ug),(2,Yy),(3,Lj)]⟩],u5 (V0 N),[5000,5002]⟩,kF N [Az,P3] [] func14⟩
def W8(N:Nat):V:=⟨⟨5,(sD [Vf,.int .u8,.i]),[zs1],u3 (V1 N),[]⟩,kF N [Qkk,Qg6,Qi8,A1,Rg,Nf,Ng,S6,Ql8,C8,Qan,Qin,Qal,N0] [(26,.lp [2,3,8] [3] ⟨[(7,Qh2),(9,zs2)],[(100000,.var 109 (.ag (sL [Qts,zs2,Jlj]))),(100001,Lm),(100002,B7)]⟩ [(.x 0,⟨[(7,Qlz)],[(100300,.var 109 (.ag (sL [Qtx,zs2,.m 100302]))),(100301,Lm),(100302,B7)]⟩),(.r,⟨[(6,zs4)],[]⟩)]),(36,.rg (.n 4 (.sp 38 5 [7,9] [] ⟨[(43,zs4)],[(100000,.var 109 (.ag (sL [Ql0,zs2,Jlk]))),(100101,Lm),(100102,B7)]⟩ Jtn G6 (.n 1 (.sp 44 9 [7,9] [] ⟨[(53,zs4)],[(100000,.var 109 (.ag (sL [Q44,zs2,.m 100202]))),(100201,Lm),(100202,B7)]⟩ Q4z (.nl 6 Jpl) .done))))),(45,.rg (.n 6 (.sp 59 5 [2,3,7,8] [3] ⟨[(64,zs4)],[(100300,.var 109 (.ag (sL [Jc2,zs2,.m 100502]))),(100501,Lm),(100502,B7)]⟩ Jtn G6 .done))),(54,.an (.dc 11 [69,70,71,72,73,74,75,68,76,77,10] [3,16701,100300,100502] [] (.b 3 (.c 3 (.b 3 (.c 3 (.b 100300 (.k 6 [16701] [100300,100502] [17401] [16701,17401] (.k 7 [17401] [] [17503,17502,17501] [17401,17501,17502,17503] (.b 17501 (.b 17501 (.a (.b 17501 Ci))))))))))))),(57,.rg (.n 3 (.nl 3 Qp9))),(77,.lp [3,10,11] [3,16701,17401,17501,17502,17503,100300,100502] ⟨[(12,Jk6),(13,zs2)],[(100600,.var 91 (.ag (sL [Jtm,.ag (sL [W7,Jk7,Ll]),.m 100602]))),(100601,Yy),(100602,C4)]⟩ [(.x 2,⟨[(12,Jk8)],[(100700,.var 91 (.ag (sL [Su,.ag (sL [W7,Jk9,Ll]),.m 100702]))),(100701,Yy),(100702,C4)]⟩)]),(89,.rg (.n 1 (.call 10 (.n 1 (.call 10 (.call 11 (.n 1 (.sp 116 6 [10,12] [3,16701,17401,17502,21201,21202,21203,21401,21402,21403,100300,100502,100701] ⟨[(122,zs4)],[(17501,.var 91 (.ag (sL [Su,Jlx,.m 100802]))),(100700,.var 91 (.ag (sL [Su,Jlx,.m 100803]))),(100802,C4),(100803,C4)]⟩ (.nl 1 (.call 12 (.nl 1 (.call 12 (.call 13 zs5))))) Qvw (.n 1 (.sp 123 2 [] [3,16701,17401,17501,17502,21201,21202,21203,21401,21402,21403,100300,100502,100700,100701,100802,100803] ⟨[(125,zs4)],[]⟩ Jko Qvv zs5))))))))))] func5⟩
end Gx
