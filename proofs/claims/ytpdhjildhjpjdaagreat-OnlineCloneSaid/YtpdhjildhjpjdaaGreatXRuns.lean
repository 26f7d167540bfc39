/- The interpreter gives these functions. -/
import Derived.Test.YtpdhjildhjpjdaaGreatXFns
import Derived.Test.YtpdhjildhjpjdaaGreatProg
import Derived.Test.YtpdhjildhjpjdaaGreatXQ2
import Derived.Test.YtpdhjildhjpjdaaGreatXShelf
namespace Gx
open Go Gd Go.Proofs Tryz
set_option linter.unusedVariables false
noncomputable section
def HT.a(r:HT):HT:=.op ⟨.nl 1 .done,[],[],[],[]⟩ r
def HT.b(x:Nat)(r:HT):HT:=.op ⟨.nl 1 .done,[],[],[],[x]⟩ r
def HT.c(x:Nat)(r:HT):HT:=.op ⟨.nl 1 .done,[],[x],[],[]⟩ r
def HT.d(x y:Nat)(r:HT):HT:=.op ⟨.nl 1 .done,[],[x],[],[y]⟩ r
def HT.e(x:Nat)(r:HT):HT:=.op ⟨.nl 1 .done,[],[],[x],[x]⟩ r
def HT.f(x y:Nat)(r:HT):HT:=.op ⟨.nl 1 .done,[x],[],[],[y]⟩ r
def HT.g(a b c d:List Nat)(r:HT):HT:=.op ⟨.nl 1 .done,a,b,c,d⟩ r
def HT.k(n:Nat)(a b c d:List Nat)(r:HT):HT:=.op ⟨.call n .done,a,b,c,d⟩ r
def u2{α0 α1 β:Type}(f:α0→α1→β)(p:α0×α1):β:=f p.1 p.2
def u3{α0 α1 α2 β:Type}(f:α0→α1→α2→β)(p:α0×α1×α2):β:=f p.1 p.2.1 p.2.2
def u4{α0 α1 α2 α3 β:Type}(f:α0→α1→α2→α3→β)(p:α0×α1×α2×α3):β:=f p.1 p.2.1 p.2.2.1 p.2.2.2
def u5{α0 α1 α2 α3 α4 β:Type}(f:α0→α1→α2→α3→α4→β)(p:α0×α1×α2×α3×α4):β:=f p.1 p.2.1 p.2.2.1 p.2.2.2.1 p.2.2.2.2
def u6{α0 α1 α2 α3 α4 α5 β:Type}(f:α0→α1→α2→α3→α4→α5→β)(p:α0×α1×α2×α3×α4×α5):β:=f p.1 p.2.1 p.2.2.1 p.2.2.2.1 p.2.2.2.2.1 p.2.2.2.2.2
def u7{α0 α1 α2 α3 α4 α5 α6 β:Type}(f:α0→α1→α2→α3→α4→α5→α6→β)(p:α0×α1×α2×α3×α4×α5×α6):β:=f p.1 p.2.1 p.2.2.1 p.2.2.2.1 p.2.2.2.2.1 p.2.2.2.2.2.1 p.2.2.2.2.2.2
def u8{α0 α1 α2 α3 α4 α5 α6 α7 β:Type}(f:α0→α1→α2→α3→α4→α5→α6→α7→β)(p:α0×α1×α2×α3×α4×α5×α6×α7):β:=f p.1 p.2.1 p.2.2.1 p.2.2.2.1 p.2.2.2.2.1 p.2.2.2.2.2.1 p.2.2.2.2.2.2.1 p.2.2.2.2.2.2.2
def u9{α0 α1 α2 α3 α4 α5 α6 α7 α8 β:Type}(f:α0→α1→α2→α3→α4→α5→α6→α7→α8→β)(p:α0×α1×α2×α3×α4×α5×α6×α7×α8):β:=f p.1 p.2.1 p.2.2.1 p.2.2.2.1 p.2.2.2.2.1 p.2.2.2.2.2.1 p.2.2.2.2.2.2.1 p.2.2.2.2.2.2.2.1 p.2.2.2.2.2.2.2.2
def u10{α0 α1 α2 α3 α4 α5 α6 α7 α8 α9 β:Type}(f:α0→α1→α2→α3→α4→α5→α6→α7→α8→α9→β)(p:α0×α1×α2×α3×α4×α5×α6×α7×α8×α9):β:=f p.1 p.2.1 p.2.2.1 p.2.2.2.1 p.2.2.2.2.1 p.2.2.2.2.2.1 p.2.2.2.2.2.2.1 p.2.2.2.2.2.2.2.1 p.2.2.2.2.2.2.2.2.1 p.2.2.2.2.2.2.2.2.2
def u11{α0 α1 α2 α3 α4 α5 α6 α7 α8 α9 α10 β:Type}(f:α0→α1→α2→α3→α4→α5→α6→α7→α8→α9→α10→β)(p:α0×α1×α2×α3×α4×α5×α6×α7×α8×α9×α10):β:=f p.1 p.2.1 p.2.2.1 p.2.2.2.1 p.2.2.2.2.1 p.2.2.2.2.2.1 p.2.2.2.2.2.2.1 p.2.2.2.2.2.2.2.1 p.2.2.2.2.2.2.2.2.1 p.2.2.2.2.2.2.2.2.2.1 p.2.2.2.2.2.2.2.2.2.2
def u14{α0 α1 α2 α3 α4 α5 α6 α7 α8 α9 α10 α11 α12 α13 β:Type}(f:α0→α1→α2→α3→α4→α5→α6→α7→α8→α9→α10→α11→α12→α13→β)(p:α0×α1×α2×α3×α4×α5×α6×α7×α8×α9×α10×α11×α12×α13):β:=f p.1 p.2.1 p.2.2.1 p.2.2.2.1 p.2.2.2.2.1 p.2.2.2.2.2.1 p.2.2.2.2.2.2.1 p.2.2.2.2.2.2.2.1 p.2.2.2.2.2.2.2.2.1 p.2.2.2.2.2.2.2.2.2.1 p.2.2.2.2.2.2.2.2.2.2.1 p.2.2.2.2.2.2.2.2.2.2.2.1 p.2.2.2.2.2.2.2.2.2.2.2.2.1 p.2.2.2.2.2.2.2.2.2.2.2.2.2
def u15{α0 α1 α2 α3 α4 α5 α6 α7 α8 α9 α10 α11 α12 α13 α14 β:Type}(f:α0→α1→α2→α3→α4→α5→α6→α7→α8→α9→α10→α11→α12→α13→α14→β)(p:α0×α1×α2×α3×α4×α5×α6×α7×α8×α9×α10×α11×α12×α13×α14):β:=f p.1 p.2.1 p.2.2.1 p.2.2.2.1 p.2.2.2.2.1 p.2.2.2.2.2.1 p.2.2.2.2.2.2.1 p.2.2.2.2.2.2.2.1 p.2.2.2.2.2.2.2.2.1 p.2.2.2.2.2.2.2.2.2.1 p.2.2.2.2.2.2.2.2.2.2.1 p.2.2.2.2.2.2.2.2.2.2.2.1 p.2.2.2.2.2.2.2.2.2.2.2.2.1 p.2.2.2.2.2.2.2.2.2.2.2.2.2.1 p.2.2.2.2.2.2.2.2.2.2.2.2.2.2
def u16{α0 α1 α2 α3 α4 α5 α6 α7 α8 α9 α10 α11 α12 α13 α14 α15 β:Type}(f:α0→α1→α2→α3→α4→α5→α6→α7→α8→α9→α10→α11→α12→α13→α14→α15→β)(p:α0×α1×α2×α3×α4×α5×α6×α7×α8×α9×α10×α11×α12×α13×α14×α15):β:=f p.1 p.2.1 p.2.2.1 p.2.2.2.1 p.2.2.2.2.1 p.2.2.2.2.2.1 p.2.2.2.2.2.2.1 p.2.2.2.2.2.2.2.1 p.2.2.2.2.2.2.2.2.1 p.2.2.2.2.2.2.2.2.2.1 p.2.2.2.2.2.2.2.2.2.2.1 p.2.2.2.2.2.2.2.2.2.2.2.1 p.2.2.2.2.2.2.2.2.2.2.2.2.1 p.2.2.2.2.2.2.2.2.2.2.2.2.2.1 p.2.2.2.2.2.2.2.2.2.2.2.2.2.2.1 p.2.2.2.2.2.2.2.2.2.2.2.2.2.2.2
def u18{α0 α1 α2 α3 α4 α5 α6 α7 α8 α9 α10 α11 α12 α13 α14 α15 α16 α17 β:Type}(f:α0→α1→α2→α3→α4→α5→α6→α7→α8→α9→α10→α11→α12→α13→α14→α15→α16→α17→β)(p:α0×α1×α2×α3×α4×α5×α6×α7×α8×α9×α10×α11×α12×α13×α14×α15×α16×α17):β:=f p.1 p.2.1 p.2.2.1 p.2.2.2.1 p.2.2.2.2.1 p.2.2.2.2.2.1 p.2.2.2.2.2.2.1 p.2.2.2.2.2.2.2.1 p.2.2.2.2.2.2.2.2.1 p.2.2.2.2.2.2.2.2.2.1 p.2.2.2.2.2.2.2.2.2.2.1 p.2.2.2.2.2.2.2.2.2.2.2.1 p.2.2.2.2.2.2.2.2.2.2.2.2.1 p.2.2.2.2.2.2.2.2.2.2.2.2.2.1 p.2.2.2.2.2.2.2.2.2.2.2.2.2.2.1 p.2.2.2.2.2.2.2.2.2.2.2.2.2.2.2.1 p.2.2.2.2.2.2.2.2.2.2.2.2.2.2.2.2.1 p.2.2.2.2.2.2.2.2.2.2.2.2.2.2.2.2.2
def u26{α0 α1 α2 α3 α4 α5 α6 α7 α8 α9 α10 α11 α12 α13 α14 α15 α16 α17 α18 α19 α20 α21 α22 α23 α24 α25 β:Type}(f:α0→α1→α2→α3→α4→α5→α6→α7→α8→α9→α10→α11→α12→α13→α14→α15→α16→α17→α18→α19→α20→α21→α22→α23→α24→α25→β)(p:α0×α1×α2×α3×α4×α5×α6×α7×α8×α9×α10×α11×α12×α13×α14×α15×α16×α17×α18×α19×α20×α21×α22×α23×α24×α25):β:=f p.1 p.2.1 p.2.2.1 p.2.2.2.1 p.2.2.2.2.1 p.2.2.2.2.2.1 p.2.2.2.2.2.2.1 p.2.2.2.2.2.2.2.1 p.2.2.2.2.2.2.2.2.1 p.2.2.2.2.2.2.2.2.2.1 p.2.2.2.2.2.2.2.2.2.2.1 p.2.2.2.2.2.2.2.2.2.2.2.1 p.2.2.2.2.2.2.2.2.2.2.2.2.1 p.2.2.2.2.2.2.2.2.2.2.2.2.2.1 p.2.2.2.2.2.2.2.2.2.2.2.2.2.2.1 p.2.2.2.2.2.2.2.2.2.2.2.2.2.2.2.1 p.2.2.2.2.2.2.2.2.2.2.2.2.2.2.2.2.1 p.2.2.2.2.2.2.2.2.2.2.2.2.2.2.2.2.2.1 p.2.2.2.2.2.2.2.2.2.2.2.2.2.2.2.2.2.2.1 p.2.2.2.2.2.2.2.2.2.2.2.2.2.2.2.2.2.2.2.1 p.2.2.2.2.2.2.2.2.2.2.2.2.2.2.2.2.2.2.2.2.1 p.2.2.2.2.2.2.2.2.2.2.2.2.2.2.2.2.2.2.2.2.2.1 p.2.2.2.2.2.2.2.2.2.2.2.2.2.2.2.2.2.2.2.2.2.2.1 p.2.2.2.2.2.2.2.2.2.2.2.2.2.2.2.2.2.2.2.2.2.2.2.1 p.2.2.2.2.2.2.2.2.2.2.2.2.2.2.2.2.2.2.2.2.2.2.2.2.1 p.2.2.2.2.2.2.2.2.2.2.2.2.2.2.2.2.2.2.2.2.2.2.2.2.2
def u27{α0 α1 α2 α3 α4 α5 α6 α7 α8 α9 α10 α11 α12 α13 α14 α15 α16 α17 α18 α19 α20 α21 α22 α23 α24 α25 α26 β:Type}(f:α0→α1→α2→α3→α4→α5→α6→α7→α8→α9→α10→α11→α12→α13→α14→α15→α16→α17→α18→α19→α20→α21→α22→α23→α24→α25→α26→β)(p:α0×α1×α2×α3×α4×α5×α6×α7×α8×α9×α10×α11×α12×α13×α14×α15×α16×α17×α18×α19×α20×α21×α22×α23×α24×α25×α26):β:=f p.1 p.2.1 p.2.2.1 p.2.2.2.1 p.2.2.2.2.1 p.2.2.2.2.2.1 p.2.2.2.2.2.2.1 p.2.2.2.2.2.2.2.1 p.2.2.2.2.2.2.2.2.1 p.2.2.2.2.2.2.2.2.2.1 p.2.2.2.2.2.2.2.2.2.2.1 p.2.2.2.2.2.2.2.2.2.2.2.1 p.2.2.2.2.2.2.2.2.2.2.2.2.1 p.2.2.2.2.2.2.2.2.2.2.2.2.2.1 p.2.2.2.2.2.2.2.2.2.2.2.2.2.2.1 p.2.2.2.2.2.2.2.2.2.2.2.2.2.2.2.1 p.2.2.2.2.2.2.2.2.2.2.2.2.2.2.2.2.1 p.2.2.2.2.2.2.2.2.2.2.2.2.2.2.2.2.2.1 p.2.2.2.2.2.2.2.2.2.2.2.2.2.2.2.2.2.2.1 p.2.2.2.2.2.2.2.2.2.2.2.2.2.2.2.2.2.2.2.1 p.2.2.2.2.2.2.2.2.2.2.2.2.2.2.2.2.2.2.2.2.1 p.2.2.2.2.2.2.2.2.2.2.2.2.2.2.2.2.2.2.2.2.2.1 p.2.2.2.2.2.2.2.2.2.2.2.2.2.2.2.2.2.2.2.2.2.2.1 p.2.2.2.2.2.2.2.2.2.2.2.2.2.2.2.2.2.2.2.2.2.2.2.1 p.2.2.2.2.2.2.2.2.2.2.2.2.2.2.2.2.2.2.2.2.2.2.2.2.1 p.2.2.2.2.2.2.2.2.2.2.2.2.2.2.2.2.2.2.2.2.2.2.2.2.2.1 p.2.2.2.2.2.2.2.2.2.2.2.2.2.2.2.2.2.2.2.2.2.2.2.2.2.2
def u29{α0 α1 α2 α3 α4 α5 α6 α7 α8 α9 α10 α11 α12 α13 α14 α15 α16 α17 α18 α19 α20 α21 α22 α23 α24 α25 α26 α27 α28 β:Type}(f:α0→α1→α2→α3→α4→α5→α6→α7→α8→α9→α10→α11→α12→α13→α14→α15→α16→α17→α18→α19→α20→α21→α22→α23→α24→α25→α26→α27→α28→β)(p:α0×α1×α2×α3×α4×α5×α6×α7×α8×α9×α10×α11×α12×α13×α14×α15×α16×α17×α18×α19×α20×α21×α22×α23×α24×α25×α26×α27×α28):β:=f p.1 p.2.1 p.2.2.1 p.2.2.2.1 p.2.2.2.2.1 p.2.2.2.2.2.1 p.2.2.2.2.2.2.1 p.2.2.2.2.2.2.2.1 p.2.2.2.2.2.2.2.2.1 p.2.2.2.2.2.2.2.2.2.1 p.2.2.2.2.2.2.2.2.2.2.1 p.2.2.2.2.2.2.2.2.2.2.2.1 p.2.2.2.2.2.2.2.2.2.2.2.2.1 p.2.2.2.2.2.2.2.2.2.2.2.2.2.1 p.2.2.2.2.2.2.2.2.2.2.2.2.2.2.1 p.2.2.2.2.2.2.2.2.2.2.2.2.2.2.2.1 p.2.2.2.2.2.2.2.2.2.2.2.2.2.2.2.2.1 p.2.2.2.2.2.2.2.2.2.2.2.2.2.2.2.2.2.1 p.2.2.2.2.2.2.2.2.2.2.2.2.2.2.2.2.2.2.1 p.2.2.2.2.2.2.2.2.2.2.2.2.2.2.2.2.2.2.2.1 p.2.2.2.2.2.2.2.2.2.2.2.2.2.2.2.2.2.2.2.2.1 p.2.2.2.2.2.2.2.2.2.2.2.2.2.2.2.2.2.2.2.2.2.1 p.2.2.2.2.2.2.2.2.2.2.2.2.2.2.2.2.2.2.2.2.2.2.1 p.2.2.2.2.2.2.2.2.2.2.2.2.2.2.2.2.2.2.2.2.2.2.2.1 p.2.2.2.2.2.2.2.2.2.2.2.2.2.2.2.2.2.2.2.2.2.2.2.2.1 p.2.2.2.2.2.2.2.2.2.2.2.2.2.2.2.2.2.2.2.2.2.2.2.2.2.1 p.2.2.2.2.2.2.2.2.2.2.2.2.2.2.2.2.2.2.2.2.2.2.2.2.2.2.1 p.2.2.2.2.2.2.2.2.2.2.2.2.2.2.2.2.2.2.2.2.2.2.2.2.2.2.2.1 p.2.2.2.2.2.2.2.2.2.2.2.2.2.2.2.2.2.2.2.2.2.2.2.2.2.2.2.2
def tab:Tab:=[
 ⟨1,.func ⟨[]⟩ ⟨[]⟩ false,.nilFunc,1,8⟩,
 ⟨2,.int .i64,.int .i64 0,1,8⟩,
 ⟨3,.int .i64,.int .i64 0,1,8⟩,
 ⟨4,.bool,.bool false,1,1⟩,
 ⟨5,.int .u8,.int .u8 0,1,1⟩,
 ⟨6,.int .u8,.int .u8 0,1,1⟩,
 ⟨9,.string,Yp [],1,16⟩,
 ⟨22,.slice 135,.slice none 0 0,1,24⟩,
 ⟨23,.slice 146,.slice none 0 0,1,24⟩,
 ⟨24,.slice 133,.slice none 0 0,1,24⟩,
 ⟨25,.slice 150,.slice none 0 0,1,24⟩,
 ⟨26,.slice 3,.slice none 0 0,1,24⟩,
 ⟨27,.slice 156,.slice none 0 0,1,24⟩,
 ⟨29,.struct ⟨[⟨"Events",22,0,false, "", "",0⟩,⟨"Tariffs",23,1,false, "", "",24⟩,⟨"Products",24,2,false, "", "",48⟩,⟨"Taxes",25,3,false, "", "",72⟩,⟨"Holidays",26,4,false, "", "",96⟩,⟨"Agreements",27,5,false, "", "",120⟩]⟩,.agg ⟨[.slice none 0 0,.slice none 0 0,.slice none 0 0,.slice none 0 0,.slice none 0 0,.slice none 0 0]⟩,6,144⟩,
 ⟨30,.slice 129,.slice none 0 0,1,24⟩,
 ⟨31,.slice 101,.slice none 0 0,1,24⟩,
 ⟨32,.slice 103,.slice none 0 0,1,24⟩,
 ⟨34,.struct ⟨[⟨"Buckets",30,0,false, "", "",0⟩,⟨"Wallets",31,1,false, "", "",24⟩,⟨"Counters",32,2,false, "", "",48⟩]⟩,.agg ⟨[.slice none 0 0,.slice none 0 0,.slice none 0 0]⟩,3,72⟩,
 ⟨35,.slice 45,.slice none 0 0,1,24⟩,
 ⟨37,.struct ⟨[⟨"Book",29,0,false, "", "",0⟩,⟨"State",34,6,false, "", "",144⟩,⟨"Ops",35,9,false, "", "",216⟩]⟩,.agg ⟨[.slice none 0 0,.slice none 0 0,.slice none 0 0,.slice none 0 0,.slice none 0 0,.slice none 0 0,.slice none 0 0,.slice none 0 0,.slice none 0 0,.slice none 0 0]⟩,10,240⟩,
 ⟨40,.pointer 91,.pointer none,1,8⟩,
 ⟨43,.struct ⟨[⟨"Session",3,0,false, "", "",0⟩,⟨"Seq",3,1,false, "", "",8⟩,⟨"Kind",3,2,false, "", "",16⟩,⟨"At",3,3,false, "", "",24⟩,⟨"Sub",3,4,false, "", "",32⟩,⟨"Usage",3,5,false, "", "",40⟩,⟨"B",9,6,false, "", "",48⟩,⟨"Used",3,7,false, "", "",64⟩,⟨"Ask",3,8,false, "", "",72⟩]⟩,.agg ⟨[.int .i64 0,.int .i64 0,.int .i64 0,.int .i64 0,.int .i64 0,.int .i64 0,Yp [],.int .i64 0,.int .i64 0]⟩,9,80⟩,
 ⟨45,.struct ⟨[⟨"Request",43,0,false, "", "",0⟩,⟨"Expire",4,9,false, "", "",80⟩]⟩,.agg ⟨[.int .i64 0,.int .i64 0,.int .i64 0,.int .i64 0,.int .i64 0,.int .i64 0,Yp [],.int .i64 0,.int .i64 0,.bool false]⟩,10,88⟩,
 ⟨48,.int .i64,.int .i64 0,1,8⟩,
 ⟨50,.struct ⟨[⟨"Session",3,0,false, "", "",0⟩,⟨"Seq",3,1,false, "", "",8⟩,⟨"Granted",3,2,false, "", "",16⟩,⟨"Until",3,3,false, "", "",24⟩,⟨"Err",48,4,false, "", "",32⟩]⟩,.agg ⟨[.int .i64 0,.int .i64 0,.int .i64 0,.int .i64 0,.int .i64 0]⟩,5,40⟩,
 ⟨55,.slice 81,.slice none 0 0,1,24⟩,
 ⟨60,.slice 43,.slice none 0 0,1,24⟩,
 ⟨62,.struct ⟨[⟨"Book",29,0,false, "", "",0⟩,⟨"State",34,6,false, "", "",144⟩,⟨"Requests",60,9,false, "", "",216⟩]⟩,.agg ⟨[.slice none 0 0,.slice none 0 0,.slice none 0 0,.slice none 0 0,.slice none 0 0,.slice none 0 0,.slice none 0 0,.slice none 0 0,.slice none 0 0,.slice none 0 0]⟩,10,240⟩,
 ⟨71,.slice 5,.slice none 0 0,1,24⟩,
 ⟨74,.slice 141,.slice none 0 0,1,24⟩,
 ⟨76,.struct ⟨[⟨"Kind",3,0,false, "", "",0⟩,⟨"Zone",9,1,false, "", "",8⟩,⟨"Band",9,2,false, "", "",24⟩,⟨"Setup",3,3,false, "", "",40⟩,⟨"Steps",74,4,false, "", "",48⟩]⟩,.agg ⟨[.int .i64 0,Yp [],Yp [],.int .i64 0,.slice none 0 0]⟩,5,72⟩,
 ⟨78,.struct ⟨[⟨"Account",3,0,false, "", "",0⟩,⟨"Sub",3,1,false, "", "",8⟩,⟨"Kind",3,2,false, "", "",16⟩,⟨"Zone",9,3,false, "", "",24⟩,⟨"Plan",9,4,false, "", "",40⟩,⟨"Version",3,5,false, "", "",56⟩,⟨"Rate",76,6,false, "", "",64⟩,⟨"Free",3,11,false, "", "",136⟩,⟨"Paid",3,12,false, "", "",144⟩]⟩,.agg ⟨[.int .i64 0,.int .i64 0,.int .i64 0,Yp [],Yp [],.int .i64 0,.int .i64 0,Yp [],Yp [],.int .i64 0,.slice none 0 0,.int .i64 0,.int .i64 0]⟩,13,152⟩,
 ⟨79,.slice 185,.slice none 0 0,1,24⟩,
 ⟨81,.struct ⟨[⟨"Id",3,0,false, "", "",0⟩,⟨"Seq",3,1,false, "", "",8⟩,⟨"Start",3,2,false, "", "",16⟩,⟨"Until",3,3,false, "", "",24⟩,⟨"Meter",78,4,false, "", "",32⟩,⟨"Granted",3,17,false, "", "",184⟩,⟨"Takes",79,18,false, "", "",192⟩,⟨"Held",3,19,false, "", "",216⟩,⟨"Spent",3,20,false, "", "",224⟩,⟨"Closed",4,21,false, "", "",232⟩,⟨"Last",50,22,false, "", "",240⟩]⟩,.agg ⟨[.int .i64 0,.int .i64 0,.int .i64 0,.int .i64 0,.int .i64 0,.int .i64 0,.int .i64 0,Yp [],Yp [],.int .i64 0,.int .i64 0,Yp [],Yp [],.int .i64 0,.slice none 0 0,.int .i64 0,.int .i64 0,.int .i64 0,.slice none 0 0,.int .i64 0,.int .i64 0,.bool false,.int .i64 0,.int .i64 0,.int .i64 0,.int .i64 0,.int .i64 0]⟩,27,280⟩,
 ⟨89,.map 3 81,.map none,1,8⟩,
 ⟨91,.struct ⟨[⟨"book",29,0,false, "", "billing/online",0⟩,⟨"state",34,6,false, "", "billing/online",144⟩,⟨"sessions",89,9,false, "", "billing/online",216⟩]⟩,.agg ⟨[.slice none 0 0,.slice none 0 0,.slice none 0 0,.slice none 0 0,.slice none 0 0,.slice none 0 0,.slice none 0 0,.slice none 0 0,.slice none 0 0,.map none]⟩,10,224⟩,
 ⟨101,.struct ⟨[⟨"Account",3,0,false, "", "",0⟩,⟨"Balance",3,1,false, "", "",8⟩,⟨"Floor",3,2,false, "", "",16⟩,⟨"Held",3,3,false, "", "",24⟩,⟨"Until",3,4,false, "", "",32⟩]⟩,.agg ⟨[.int .i64 0,.int .i64 0,.int .i64 0,.int .i64 0,.int .i64 0]⟩,5,40⟩,
 ⟨103,.struct ⟨[⟨"Sub",3,0,false, "", "",0⟩,⟨"Kind",3,1,false, "", "",8⟩,⟨"From",3,2,false, "", "",16⟩,⟨"Units",3,3,false, "", "",24⟩,⟨"Spent",3,4,false, "", "",32⟩]⟩,.agg ⟨[.int .i64 0,.int .i64 0,.int .i64 0,.int .i64 0,.int .i64 0]⟩,5,40⟩,
 ⟨107,.map 3 3,.map none,1,8⟩,
 ⟨109,.struct ⟨[⟨"bytes",71,0,false, "", "billing/journal",0⟩,⟨"safe",3,1,false, "", "billing/journal",24⟩,⟨"ends",107,2,false, "", "billing/journal",32⟩]⟩,.agg ⟨[.slice none 0 0,.int .i64 0,.map none]⟩,3,40⟩,
 ⟨125,.slice 9,.slice none 0 0,1,24⟩,
 ⟨127,.struct ⟨[⟨"From",3,0,false, "", "",0⟩,⟨"To",3,1,false, "", "",8⟩]⟩,.agg ⟨[.int .i64 0,.int .i64 0]⟩,2,16⟩,
 ⟨129,.struct ⟨[⟨"Account",3,0,false, "", "",0⟩,⟨"Sub",3,1,false, "", "",8⟩,⟨"Product",9,2,false, "", "",16⟩,⟨"Index",3,3,false, "", "",32⟩,⟨"Kind",3,4,false, "", "",40⟩,⟨"Zones",125,5,false, "", "",48⟩,⟨"Valid",127,6,false, "", "",72⟩,⟨"Units",3,8,false, "", "",88⟩,⟨"Left",3,9,false, "", "",96⟩,⟨"Priority",3,10,false, "", "",104⟩,⟨"Shared",4,11,false, "", "",112⟩]⟩,.agg ⟨[.int .i64 0,.int .i64 0,Yp [],.int .i64 0,.int .i64 0,.slice none 0 0,.int .i64 0,.int .i64 0,.int .i64 0,.int .i64 0,.int .i64 0,.bool false]⟩,12,120⟩,
 ⟨131,.slice 160,.slice none 0 0,1,24⟩,
 ⟨133,.struct ⟨[⟨"Name",9,0,false, "", "",0⟩,⟨"From",3,1,false, "", "",16⟩,⟨"Fee",3,2,false, "", "",24⟩,⟨"Category",9,3,false, "", "",32⟩,⟨"Prorate",4,4,false, "", "",48⟩,⟨"Bundles",131,5,false, "", "",56⟩]⟩,.agg ⟨[Yp [],.int .i64 0,.int .i64 0,Yp [],.bool false,.slice none 0 0]⟩,6,80⟩,
 ⟨135,.struct ⟨[⟨"At",3,0,false, "", "",0⟩,⟨"Kind",3,1,false, "", "",8⟩,⟨"Account",3,2,false, "", "",16⟩,⟨"Sub",3,3,false, "", "",24⟩,⟨"Number",9,4,false, "", "",32⟩,⟨"Name",9,5,false, "", "",48⟩,⟨"Value",3,6,false, "", "",64⟩]⟩,.agg ⟨[.int .i64 0,.int .i64 0,.int .i64 0,.int .i64 0,Yp [],Yp [],.int .i64 0]⟩,7,72⟩,
 ⟨136,.slice 221,.slice none 0 0,1,24⟩,
 ⟨138,.struct ⟨[⟨"Name",9,0,false, "", "",0⟩,⟨"Slots",136,1,false, "", "",16⟩]⟩,.agg ⟨[Yp [],.slice none 0 0]⟩,2,40⟩,
 ⟨139,.slice 138,.slice none 0 0,1,24⟩,
 ⟨141,.struct ⟨[⟨"Upto",3,0,false, "", "",0⟩,⟨"Quantum",3,1,false, "", "",8⟩,⟨"Price",3,2,false, "", "",16⟩]⟩,.agg ⟨[.int .i64 0,.int .i64 0,.int .i64 0]⟩,3,24⟩,
 ⟨142,.slice 76,.slice none 0 0,1,24⟩,
 ⟨143,.slice 210,.slice none 0 0,1,24⟩,
 ⟨144,.slice 218,.slice none 0 0,1,24⟩,
 ⟨146,.struct ⟨[⟨"Name",9,0,false, "", "",0⟩,⟨"From",3,1,false, "", "",16⟩,⟨"Split",4,2,false, "", "",24⟩,⟨"Zones",143,3,false, "", "",32⟩,⟨"Bands",139,4,false, "", "",56⟩,⟨"Rates",142,5,false, "", "",80⟩,⟨"Discounts",144,6,false, "", "",104⟩]⟩,.agg ⟨[Yp [],.int .i64 0,.bool false,.slice none 0 0,.slice none 0 0,.slice none 0 0,.slice none 0 0]⟩,7,128⟩,
 ⟨150,.struct ⟨[⟨"Category",9,0,false, "", "",0⟩,⟨"From",3,1,false, "", "",16⟩,⟨"Points",3,2,false, "", "",24⟩]⟩,.agg ⟨[Yp [],.int .i64 0,.int .i64 0]⟩,3,32⟩,
 ⟨156,.struct ⟨[⟨"Partner",3,0,false, "", "",0⟩,⟨"Kind",3,1,false, "", "",8⟩,⟨"Inbound",4,2,false, "", "",16⟩,⟨"Valid",127,3,false, "", "",24⟩,⟨"Steps",74,5,false, "", "",40⟩,⟨"Cap",3,6,false, "", "",64⟩]⟩,.agg ⟨[.int .i64 0,.int .i64 0,.bool false,.int .i64 0,.int .i64 0,.slice none 0 0,.int .i64 0]⟩,7,72⟩,
 ⟨160,.struct ⟨[⟨"Kind",3,0,false, "", "",0⟩,⟨"Zones",125,1,false, "", "",8⟩,⟨"Units",3,2,false, "", "",32⟩,⟨"Rollover",3,3,false, "", "",40⟩,⟨"Priority",3,4,false, "", "",48⟩,⟨"Shared",4,5,false, "", "",56⟩]⟩,.agg ⟨[.int .i64 0,.slice none 0 0,.int .i64 0,.int .i64 0,.int .i64 0,.bool false]⟩,6,64⟩,
 ⟨168,.func ⟨[207]⟩ ⟨[]⟩ false,.nilFunc,1,8⟩,
 ⟨170,.pointer 173,.pointer none,1,8⟩,
 ⟨173,.struct ⟨[⟨"Session",81,0,true, "", "",0⟩,⟨"state",34,27,false, "", "billing/session",280⟩]⟩,.agg ⟨[.int .i64 0,.int .i64 0,.int .i64 0,.int .i64 0,.int .i64 0,.int .i64 0,.int .i64 0,Yp [],Yp [],.int .i64 0,.int .i64 0,Yp [],Yp [],.int .i64 0,.slice none 0 0,.int .i64 0,.int .i64 0,.int .i64 0,.slice none 0 0,.int .i64 0,.int .i64 0,.bool false,.int .i64 0,.int .i64 0,.int .i64 0,.int .i64 0,.int .i64 0,.slice none 0 0,.slice none 0 0,.slice none 0 0]⟩,30,352⟩,
 ⟨185,.struct ⟨[⟨"Sub",3,0,false, "", "",0⟩,⟨"Product",9,1,false, "", "",8⟩,⟨"Index",3,2,false, "", "",24⟩,⟨"From",3,3,false, "", "",32⟩,⟨"Units",3,4,false, "", "",40⟩]⟩,.agg ⟨[.int .i64 0,Yp [],.int .i64 0,.int .i64 0,.int .i64 0]⟩,5,48⟩,
 ⟨195,.slice 243,.slice none 0 0,1,24⟩,
 ⟨196,.slice 260,.slice none 0 0,1,24⟩,
 ⟨198,.struct ⟨[⟨"Accounts",195,0,false, "", "",0⟩,⟨"Subs",196,1,false, "", "",24⟩,⟨"Ended",26,2,false, "", "",48⟩]⟩,.agg ⟨[.slice none 0 0,.slice none 0 0,.slice none 0 0]⟩,3,72⟩,
 ⟨210,.struct ⟨[⟨"Name",9,0,false, "", "",0⟩,⟨"Prefixes",125,1,false, "", "",16⟩]⟩,.agg ⟨[Yp [],.slice none 0 0]⟩,2,40⟩,
 ⟨214,.slice 216,.slice none 0 0,1,24⟩,
 ⟨216,.struct ⟨[⟨"Op",3,0,false, "", "",0⟩,⟨"Num",3,1,false, "", "",8⟩,⟨"Text",9,2,false, "", "",16⟩,⟨"Args",214,3,false, "", "",32⟩]⟩,.agg ⟨[.int .i64 0,.int .i64 0,Yp [],.slice none 0 0]⟩,4,56⟩,
 ⟨218,.struct ⟨[⟨"Name",9,0,false, "", "",0⟩,⟨"When",216,1,false, "", "",16⟩,⟨"Points",3,5,false, "", "",72⟩]⟩,.agg ⟨[Yp [],.int .i64 0,.int .i64 0,Yp [],.slice none 0 0,.int .i64 0]⟩,6,80⟩,
 ⟨221,.struct ⟨[⟨"Days",3,0,false, "", "",0⟩,⟨"From",3,1,false, "", "",8⟩,⟨"To",3,2,false, "", "",16⟩]⟩,.agg ⟨[.int .i64 0,.int .i64 0,.int .i64 0]⟩,3,24⟩,
 ⟨235,.struct ⟨[⟨"Period",127,0,false, "", "",0⟩,⟨"Plan",9,2,false, "", "",16⟩,⟨"Products",125,3,false, "", "",32⟩,⟨"Suspended",4,4,false, "", "",56⟩,⟨"Family",4,5,false, "", "",57⟩]⟩,.agg ⟨[.int .i64 0,.int .i64 0,Yp [],.slice none 0 0,.bool false,.bool false]⟩,6,64⟩,
 ⟨243,.struct ⟨[⟨"Id",3,0,false, "", "",0⟩,⟨"Since",3,1,false, "", "",8⟩,⟨"Anchor",3,2,false, "", "",16⟩,⟨"Prepaid",4,3,false, "", "",24⟩,⟨"Closed",4,4,false, "", "",25⟩,⟨"Subs",26,5,false, "", "",32⟩]⟩,.agg ⟨[.int .i64 0,.int .i64 0,.int .i64 0,.bool false,.bool false,.slice none 0 0]⟩,6,56⟩,
 ⟨255,.array 5 4,.agg ⟨[.bool false,.bool false,.bool false,.bool false,.bool false]⟩,5,5⟩,
 ⟨260,.struct ⟨[⟨"Id",3,0,false, "", "",0⟩,⟨"Account",3,1,false, "", "",8⟩,⟨"Since",3,2,false, "", "",16⟩,⟨"Plan",9,3,false, "", "",24⟩,⟨"Numbers",125,4,false, "", "",40⟩,⟨"Products",125,5,false, "", "",64⟩,⟨"Suspended",4,6,false, "", "",88⟩,⟨"Family",4,7,false, "", "",89⟩]⟩,.agg ⟨[.int .i64 0,.int .i64 0,.int .i64 0,Yp [],.slice none 0 0,.slice none 0 0,.bool false,.bool false]⟩,8,96⟩,
 ⟨271,.struct ⟨[⟨"sub",3,0,false, "", "billing/bucket",0⟩,⟨"product",9,1,false, "", "billing/bucket",8⟩,⟨"index",3,2,false, "", "billing/bucket",24⟩,⟨"from",3,3,false, "", "billing/bucket",32⟩]⟩,.agg ⟨[.int .i64 0,Yp [],.int .i64 0,.int .i64 0]⟩,4,40⟩,
 ⟨276,.struct ⟨[⟨"Meter",78,0,true, "", "",0⟩]⟩,.agg ⟨[.int .i64 0,.int .i64 0,.int .i64 0,Yp [],Yp [],.int .i64 0,.int .i64 0,Yp [],Yp [],.int .i64 0,.slice none 0 0,.int .i64 0,.int .i64 0]⟩,13,152⟩,
 ⟨279,.func ⟨[101]⟩ ⟨[4]⟩ false,.nilFunc,1,8⟩,
 ⟨290,.pointer 293,.pointer none,1,8⟩,
 ⟨291,.map 296 4,.map none,1,8⟩,
 ⟨293,.struct ⟨[⟨"list",30,0,false, "", "billing/bundle",0⟩,⟨"has",291,1,false, "", "billing/bundle",24⟩]⟩,.agg ⟨[.slice none 0 0,.map none]⟩,2,32⟩,
 ⟨296,.struct ⟨[⟨"sub",3,0,false, "", "billing/bundle",0⟩,⟨"product",9,1,false, "", "billing/bundle",8⟩,⟨"index",3,2,false, "", "billing/bundle",24⟩,⟨"from",3,3,false, "", "billing/bundle",32⟩]⟩,.agg ⟨[.int .i64 0,Yp [],.int .i64 0,.int .i64 0]⟩,4,40⟩,
 ⟨299,.slice 304,.slice none 0 0,1,24⟩,
 ⟨301,.slice 127,.slice none 0 0,1,24⟩,
 ⟨304,.struct ⟨[⟨"account",3,0,false, "", "billing/bundle",0⟩,⟨"sub",3,1,false, "", "billing/bundle",8⟩,⟨"product",9,2,false, "", "billing/bundle",16⟩,⟨"active",301,3,false, "", "billing/bundle",32⟩]⟩,.agg ⟨[.int .i64 0,.int .i64 0,Yp [],.slice none 0 0]⟩,4,56⟩,
 ⟨305,.slice 308,.slice none 0 0,1,24⟩,
 ⟨308,.struct ⟨[⟨"bucket",129,0,false, "", "billing/bundle",0⟩,⟨"rollover",3,12,false, "", "billing/bundle",120⟩]⟩,.agg ⟨[.int .i64 0,.int .i64 0,Yp [],.int .i64 0,.int .i64 0,.slice none 0 0,.int .i64 0,.int .i64 0,.int .i64 0,.int .i64 0,.int .i64 0,.bool false,.int .i64 0]⟩,13,128⟩,
 ⟨315,.slice 235,.slice none 0 0,1,24⟩,
 ⟨323,.struct ⟨[⟨"Accounts",195,0,false, "", "",0⟩,⟨"Subs",196,1,false, "", "",24⟩]⟩,.agg ⟨[.slice none 0 0,.slice none 0 0]⟩,2,48⟩,
 ⟨326,.int .u64,.int .u64 0,1,8⟩,
 ⟨350,.map 9 9,.map none,1,8⟩,
 ⟨357,.map 3 4,.map none,1,8⟩,
 ⟨358,.map 9 357,.map none,1,8⟩,
 ⟨370,.slice 373,.slice none 0 0,1,24⟩,
 ⟨373,.struct ⟨[⟨"at",3,0,false, "", "billing/subscribe",0⟩,⟨"s",260,1,false, "", "billing/subscribe",8⟩]⟩,.agg ⟨[.int .i64 0,.int .i64 0,.int .i64 0,.int .i64 0,Yp [],.slice none 0 0,.slice none 0 0,.bool false,.bool false]⟩,9,104⟩,
 ⟨376,.func ⟨[373,373]⟩ ⟨[4]⟩ false,.nilFunc,1,8⟩,
 ⟨377,.func ⟨[373,373]⟩ ⟨[373]⟩ false,.nilFunc,1,8⟩,
 ⟨379,.pointer 414,.pointer none,1,8⟩,
 ⟨395,.func ⟨[210]⟩ ⟨[4]⟩ false,.nilFunc,1,8⟩,
 ⟨397,.func ⟨[138]⟩ ⟨[4]⟩ false,.nilFunc,1,8⟩,
 ⟨399,.func ⟨[221]⟩ ⟨[4]⟩ false,.nilFunc,1,8⟩,
 ⟨403,.func ⟨[235]⟩ ⟨[4]⟩ false,.nilFunc,1,8⟩,
 ⟨406,.func ⟨[4,4]⟩ ⟨[4]⟩ false,.nilFunc,1,8⟩,
 ⟨408,.func ⟨[133]⟩ ⟨[4]⟩ false,.nilFunc,1,8⟩,
 ⟨410,.map 3 243,.map none,1,8⟩,
 ⟨411,.map 3 260,.map none,1,8⟩,
 ⟨412,.map 9 3,.map none,1,8⟩,
 ⟨414,.struct ⟨[⟨"accounts",410,0,false, "", "billing/customer",0⟩,⟨"subs",411,1,false, "", "billing/customer",8⟩,⟨"ever",357,2,false, "", "billing/customer",16⟩,⟨"owners",412,3,false, "", "billing/customer",24⟩,⟨"live",107,4,false, "", "billing/customer",32⟩,⟨"opened",26,5,false, "", "billing/customer",40⟩,⟨"added",26,6,false, "", "billing/customer",64⟩]⟩,.agg ⟨[.map none,.map none,.map none,.map none,.map none,.slice none 0 0,.slice none 0 0]⟩,7,88⟩,
 ⟨416,.map 3 26,.map none,1,8⟩,
 ⟨426,.func ⟨[127,127]⟩ ⟨[4]⟩ false,.nilFunc,1,8⟩,
 ⟨427,.func ⟨[127,127]⟩ ⟨[127]⟩ false,.nilFunc,1,8⟩,
 ⟨429,.struct ⟨[⟨"Year",3,0,false, "", "",0⟩,⟨"Month",3,1,false, "", "",8⟩,⟨"Day",3,2,false, "", "",16⟩]⟩,.agg ⟨[.int .i64 0,.int .i64 0,.int .i64 0]⟩,3,24⟩,
 ⟨431,.slice 433,.slice none 0 0,1,24⟩,
 ⟨433,.struct ⟨[⟨"at",3,0,false, "", "billing/interval",0⟩,⟨"list",3,1,false, "", "billing/interval",8⟩,⟨"by",3,2,false, "", "billing/interval",16⟩]⟩,.agg ⟨[.int .i64 0,.int .i64 0,.int .i64 0]⟩,3,24⟩,
 ⟨436,.func ⟨[433,433]⟩ ⟨[3]⟩ false,.nilFunc,1,8⟩,
 ⟨437,.array 2 3,.agg ⟨[.int .i64 0,.int .i64 0]⟩,2,16⟩,
 ⟨442,.array 12 3,.agg ⟨[.int .i64 0,.int .i64 0,.int .i64 0,.int .i64 0,.int .i64 0,.int .i64 0,.int .i64 0,.int .i64 0,.int .i64 0,.int .i64 0,.int .i64 0,.int .i64 0]⟩,12,96⟩]
def tx:TX:=⟨tab,[(1,.ref),(2,(.int .i64)),(3,(.int .i64)),(4,.bool),(5,(.int .u8)),(6,(.int .u8)),(9,.str),(22,(.sl Jr)),(23,(.sl Yn)),(24,(.sl J8)),(25,(.sl Fa)),(26,(.sl (.int .i64))),(27,(.sl Vi)),(29,Ks),(30,(.sl Q9)),(31,(.sl Ya)),(32,(.sl Ur)),(34,Yi),(35,(.sl Vv)),(37,Ui),(40,.ref),(43,Yz),(45,Vv),(48,(.int .i64)),(50,So),(55,(.sl Yh)),(60,(.sl Yz)),(62,Qj3),(71,(.sl (.int .u8))),(74,(.sl Vu)),(76,Xs),(78,Hl),(79,(.sl Xu)),(81,Yh),(89,.ref),(91,Qtm),(101,Ya),(103,Ur),(107,.ref),(109,Q0a),(125,(.sl .str)),(127,J9),(129,Q9),(131,(.sl Zi)),(133,J8),(135,Jr),(136,(.sl Zm)),(138,Uh),(139,(.sl Uh)),(141,Vu),(142,(.sl Xs)),(143,(.sl Uc)),(144,(.sl Uq)),(146,Yn),(150,Fa),(156,Vi),(160,Zi),(168,.ref),(170,.ref),(173,Qp0),(185,Xu),(195,(.sl Za)),(196,(.sl V4)),(198,Zx),(210,Uc),(214,(.sl Xt)),(216,Xt),(218,Uq),(221,Zm),(235,Ds),(243,Za),(255,(.arr 5 .bool)),(260,V4),(271,Qbl),(276,Ij),(279,.ref),(290,.ref),(291,.ref),(293,Qvi),(296,Zn),(299,(.sl U0)),(301,(.sl J9)),(304,U0),(305,(.sl Fp)),(308,Fp),(315,(.sl Ds)),(323,Qto),(326,(.int .u64)),(350,.ref),(357,.ref),(358,.ref),(370,(.sl V5)),(373,V5),(376,.ref),(377,.ref),(379,.ref),(395,.ref),(397,.ref),(399,.ref),(403,.ref),(406,.ref),(408,.ref),(410,.ref),(411,.ref),(412,.ref),(414,Qp1),(416,.ref),(426,.ref),(427,.ref),(429,Qhw),(431,(.sl Uj)),(433,Uj),(436,.ref),(437,(.arr 2 (.int .i64))),(442,(.arr 12 (.int .i64)))],[]⟩
theorem H1:Tryz.prog.follows .mixedOrders=true:=by kernel_rfl
theorem H2:Q0 Tryz.prog tab:=by repeat (first | exact trivial | refine⟨⟨⟨by kernel_rfl,by kernel_rfl⟩,by kernel_rfl⟩,?_⟩)
abbrev KO(c:Con):Prop:=Qbb Tryz.prog tx.gl c∧Runs Tryz.prog c.f
abbrev IO(i:It):Prop:=Jfm Tryz.prog tx.gl i∧Runs Tryz.prog i.f
abbrev V:={c // KO c}
def kcs(N:Nat)(L:List (Nat→V)):List Con:=L.map fun k=>(k N).1
theorem Jb4(N:Nat):∀L:List (Nat→V),Q36 Tryz.prog tx.gl (kcs N L)
 | []=>Jvb
 | c::L=>Js4 (c N).2.1 (c N).2.2 (Jb4 N L)
def Jb5(fn:Func):Bool:=decide (fn.name ≠ "runtime.NumGoroutine")&&!fn.body.isNone
theorem K5{f:FuncId}{fn:Func}(hf:Tryz.prog.funcs[f]?=some fn)(h:Jb5 fn=true):Runs Tryz.prog f:=by
 simp only[Jb5,QQ,decide_eq_true_eq,JF]at h
 exact⟨fn,hf,h.1,h.2⟩
theorem kF(N:Nat){c:Con}(L:List (Nat→V))(ps:List (Nat×Pc)){fn:Func}(hf:Tryz.prog.funcs[c.f]?=some fn)(hg:Jb5 fn=true:=by rfl)(h:∀x,c.fn x=Jiv tx (kcs N L) N fn (Js7 ((kcs N L).map Con.f) ps fn.body) c.ro c.Γ c.Δ x:=by intro x; kernel_rfl):KO c :=
 ⟨Joh (Y:=tx) (N:=N) H2 H1 (Jb4 N L) hf rfl h,K5 hf hg⟩
def ics(L:List {i // IO i}):List It:=L.map (·.1)
theorem Jp5:∀L:List {i // IO i},∀i∈ics L,Jfm Tryz.prog tx.gl i∧Runs Tryz.prog i.f
 | [],_,h=>by cases h
 | c::L,i,h=>by
  rcases QJ.1 h with rfl | h
  ·exact c.2
  ·exact Jp5 L i h
theorem kR(N:Nat){c:Con}(L:List (Nat→V))(I:List {i // IO i})(an:AnR){fn:Func}(hf:Tryz.prog.funcs[c.f]?=some fn)(hg:Jb5 fn=true)(h:∀x,c.fn x=Jjn tx (kcs N L) N (ics I) fn an c.ro c.Γ c.Δ x):KO c :=
 ⟨Jjo (Y:=tx) (N:=N) (an:=an) H2 H1 (Jb4 N L) (Jp5 I) hf rfl h,K5 hf hg⟩
def Pz:Con:=⟨59,(Qbj Jr),[(Bq 135 Jr)],Ju 72,[]⟩
theorem Rt:KO Pz:=⟨V3 H2 H1 func59 rfl rfl rfl rfl rfl rfl rfl rfl (by kernel_rfl) (y0:=([]:List Qm)) (by kernel_rfl) (an0:=.reg (.n 1 .done)) (anA:=.two (.reg (.n 1 .done)) .nil) (anC:=.two (.reg (.n 4 .done)) .nil) ⟨by kernel_rfl,by kernel_rfl⟩ (fun xs=>by kernel_rfl) (fun xs=>by kernel_rfl) (fun xs=>by kernel_rfl),K5 func59 rfl⟩
def Qac:Con:=⟨60,(Qbj Fa),[(Bq 150 Fa)],Ju 32,[]⟩
theorem Qb1:KO Qac:=⟨V3 H2 H1 func60 rfl rfl rfl rfl rfl rfl rfl rfl (by kernel_rfl) (y0:=([]:List Hk)) (by kernel_rfl) (an0:=.reg (.n 1 .done)) (anA:=.two (.reg (.n 1 .done)) .nil) (anC:=.two (.reg (.n 4 .done)) .nil) ⟨by kernel_rfl,by kernel_rfl⟩ (fun xs=>by kernel_rfl) (fun xs=>by kernel_rfl) (fun xs=>by kernel_rfl),K5 func60 rfl⟩
def Qf8:Con:=⟨61,(Qbj (.int .i64)),[(Bq 3 (.int .i64))],Ju 8,[]⟩
theorem Qh3:KO Qf8:=⟨V3 H2 H1 func61 rfl rfl rfl rfl rfl rfl rfl rfl (by kernel_rfl) (y0:=([]:List Int)) (by kernel_rfl) (an0:=.reg (.n 1 .done)) (anA:=.two (.reg (.n 1 .done)) .nil) (anC:=.two (.reg (.n 4 .done)) .nil) ⟨by kernel_rfl,by kernel_rfl⟩ (fun xs=>by kernel_rfl) (fun xs=>by kernel_rfl) (fun xs=>by kernel_rfl),K5 func61 rfl⟩
def Ny:Con:=⟨62,(Qbj Yn),[(Bq 146 Yn)],Ju 128,[]⟩
theorem P0:KO Ny:=⟨V3 H2 H1 func62 rfl rfl rfl rfl rfl rfl rfl rfl (by kernel_rfl) (y0:=([]:List Qw)) (by kernel_rfl) (an0:=.reg (.n 1 .done)) (anA:=.two (.reg (.n 1 .done)) .nil) (anC:=.two (.reg (.n 4 .done)) .nil) ⟨by kernel_rfl,by kernel_rfl⟩ (fun xs=>by kernel_rfl) (fun xs=>by kernel_rfl) (fun xs=>by kernel_rfl),K5 func62 rfl⟩
def Mk:Con:=⟨63,(Qbj J8),[(Bq 133 J8)],Ju 80,[]⟩
theorem Nz:KO Mk:=⟨V3 H2 H1 func63 rfl rfl rfl rfl rfl rfl rfl rfl (by kernel_rfl) (y0:=([]:List Qn)) (by kernel_rfl) (an0:=.reg (.n 1 .done)) (anA:=.two (.reg (.n 1 .done)) .nil) (anC:=.two (.reg (.n 4 .done)) .nil) ⟨by kernel_rfl,by kernel_rfl⟩ (fun xs=>by kernel_rfl) (fun xs=>by kernel_rfl) (fun xs=>by kernel_rfl),K5 func63 rfl⟩
def Ia:Con:=⟨64,(Qbj Vi),[(Bq 156 Vi)],Ju 72,[]⟩
theorem Lq:KO Ia:=⟨V3 H2 H1 func64 rfl rfl rfl rfl rfl rfl rfl rfl (by kernel_rfl) (y0:=([]:List Qz)) (by kernel_rfl) (an0:=.reg (.n 1 .done)) (anA:=.two (.reg (.n 1 .done)) .nil) (anC:=.two (.reg (.n 4 .done)) .nil) ⟨by kernel_rfl,by kernel_rfl⟩ (fun xs=>by kernel_rfl) (fun xs=>by kernel_rfl) (fun xs=>by kernel_rfl),K5 func64 rfl⟩
def Ru:Con:=⟨105,(Qbj Uc),[(Bq 210 Uc)],Ju 40,[]⟩
theorem Qad:KO Ru:=⟨V3 H2 H1 func105 rfl rfl rfl rfl rfl rfl rfl rfl (by kernel_rfl) (y0:=([]:List Q3)) (by kernel_rfl) (an0:=.reg (.n 1 .done)) (anA:=.two (.reg (.n 1 .done)) .nil) (anC:=.two (.reg (.n 4 .done)) .nil) ⟨by kernel_rfl,by kernel_rfl⟩ (fun xs=>by kernel_rfl) (fun xs=>by kernel_rfl) (fun xs=>by kernel_rfl),K5 func105 rfl⟩
def Rv:Con:=⟨106,(Qbj Uh),[(Bq 138 Uh)],Ju 40,[]⟩
theorem Qae:KO Rv:=⟨V3 H2 H1 func106 rfl rfl rfl rfl rfl rfl rfl rfl (by kernel_rfl) (y0:=([]:List Jg)) (by kernel_rfl) (an0:=.reg (.n 1 .done)) (anA:=.two (.reg (.n 1 .done)) .nil) (anC:=.two (.reg (.n 4 .done)) .nil) ⟨by kernel_rfl,by kernel_rfl⟩ (fun xs=>by kernel_rfl) (fun xs=>by kernel_rfl) (fun xs=>by kernel_rfl),K5 func106 rfl⟩
def Rw:Con:=⟨107,(Qbj Xs),[(Bq 76 Xs)],Ju 72,[]⟩
theorem Qaf:KO Rw:=⟨V3 H2 H1 func107 rfl rfl rfl rfl rfl rfl rfl rfl (by kernel_rfl) (y0:=([]:List Y5)) (by kernel_rfl) (an0:=.reg (.n 1 .done)) (anA:=.two (.reg (.n 1 .done)) .nil) (anC:=.two (.reg (.n 4 .done)) .nil) ⟨by kernel_rfl,by kernel_rfl⟩ (fun xs=>by kernel_rfl) (fun xs=>by kernel_rfl) (fun xs=>by kernel_rfl),K5 func107 rfl⟩
def Lr:Con:=⟨108,(Qbj Uq),[(Bq 218 Uq)],Ju 80,[]⟩
theorem Mm:KO Lr:=⟨V3 H2 H1 func108 rfl rfl rfl rfl rfl rfl rfl rfl (by kernel_rfl) (y0:=([]:List Ji)) (by kernel_rfl) (an0:=.reg (.n 1 .done)) (anA:=.two (.reg (.n 1 .done)) .nil) (anC:=.two (.reg (.n 4 .done)) .nil) ⟨by kernel_rfl,by kernel_rfl⟩ (fun xs=>by kernel_rfl) (fun xs=>by kernel_rfl) (fun xs=>by kernel_rfl),K5 func108 rfl⟩
def Qb2:Con:=⟨67,(Qbj .str),[(Bq 9 .str)],Ju 16,[]⟩
theorem Zf:KO Qb2:=⟨V3 H2 H1 func67 rfl rfl rfl rfl rfl rfl rfl rfl (by kernel_rfl) (y0:=([]:List Str)) (by kernel_rfl) (an0:=.reg (.n 1 .done)) (anA:=.two (.reg (.n 1 .done)) .nil) (anC:=.two (.reg (.n 4 .done)) .nil) ⟨by kernel_rfl,by kernel_rfl⟩ (fun xs=>by kernel_rfl) (fun xs=>by kernel_rfl) (fun xs=>by kernel_rfl),K5 func67 rfl⟩
def Rx:Con:=⟨109,(Qbj Zm),[(Bq 221 Zm)],Ju 24,[]⟩
theorem Qag:KO Rx:=⟨V3 H2 H1 func109 rfl rfl rfl rfl rfl rfl rfl rfl (by kernel_rfl) (y0:=([]:List Xj)) (by kernel_rfl) (an0:=.reg (.n 1 .done)) (anA:=.two (.reg (.n 1 .done)) .nil) (anC:=.two (.reg (.n 4 .done)) .nil) ⟨by kernel_rfl,by kernel_rfl⟩ (fun xs=>by kernel_rfl) (fun xs=>by kernel_rfl) (fun xs=>by kernel_rfl),K5 func109 rfl⟩
def Ry:Con:=⟨68,(Qbj Vu),[(Bq 141 Vu)],Ju 24,[]⟩
theorem Vl:KO Ry:=⟨V3 H2 H1 func68 rfl rfl rfl rfl rfl rfl rfl rfl (by kernel_rfl) (y0:=([]:List Qp)) (by kernel_rfl) (an0:=.reg (.n 1 .done)) (anA:=.two (.reg (.n 1 .done)) .nil) (anC:=.two (.reg (.n 4 .done)) .nil) ⟨by kernel_rfl,by kernel_rfl⟩ (fun xs=>by kernel_rfl) (fun xs=>by kernel_rfl) (fun xs=>by kernel_rfl),K5 func68 rfl⟩
def Rz:Con:=⟨148,(Qbj Xt),[(Bq 216 Xt)],Ju 56,[]⟩
theorem Qah:KO Rz:=⟨V3 H2 H1 func148 rfl rfl rfl rfl rfl rfl rfl rfl (by kernel_rfl) (y0:=([]:List Ja)) (by kernel_rfl) (an0:=.reg (.n 1 .done)) (anA:=.two (.reg (.n 1 .done)) .nil) (anC:=.two (.reg (.n 4 .done)) .nil) ⟨by kernel_rfl,by kernel_rfl⟩ (fun xs=>by kernel_rfl) (fun xs=>by kernel_rfl) (fun xs=>by kernel_rfl),K5 func148 rfl⟩
def N0:Con:=⟨66,(Qbj Zi),[(Bq 160 Zi)],Ju 64,[]⟩
theorem P1:KO N0:=⟨V3 H2 H1 func66 rfl rfl rfl rfl rfl rfl rfl rfl (by kernel_rfl) (y0:=([]:List Yo)) (by kernel_rfl) (an0:=.reg (.n 1 .done)) (anA:=.two (.reg (.n 1 .done)) .nil) (anC:=.two (.reg (.n 4 .done)) .nil) ⟨by kernel_rfl,by kernel_rfl⟩ (fun xs=>by kernel_rfl) (fun xs=>by kernel_rfl) (fun xs=>by kernel_rfl),K5 func66 rfl⟩
def N1:Con:=⟨69,(Qbj Q9),[(Bq 129 Q9)],Ju 120,[]⟩
theorem H3:KO N1:=⟨V3 H2 H1 func69 rfl rfl rfl rfl rfl rfl rfl rfl (by kernel_rfl) (y0:=([]:List Qb)) (by kernel_rfl) (an0:=.reg (.n 1 .done)) (anA:=.two (.reg (.n 1 .done)) .nil) (anC:=.two (.reg (.n 4 .done)) .nil) ⟨by kernel_rfl,by kernel_rfl⟩ (fun xs=>by kernel_rfl) (fun xs=>by kernel_rfl) (fun xs=>by kernel_rfl),K5 func69 rfl⟩
def N2:Con:=⟨70,(Qbj Ya),[(Bq 101 Ya)],Ju 40,[]⟩
theorem H4:KO N2:=⟨V3 H2 H1 func70 rfl rfl rfl rfl rfl rfl rfl rfl (by kernel_rfl) (y0:=([]:List Qc)) (by kernel_rfl) (an0:=.reg (.n 1 .done)) (anA:=.two (.reg (.n 1 .done)) .nil) (anC:=.two (.reg (.n 4 .done)) .nil) ⟨by kernel_rfl,by kernel_rfl⟩ (fun xs=>by kernel_rfl) (fun xs=>by kernel_rfl) (fun xs=>by kernel_rfl),K5 func70 rfl⟩
def Mp:Con:=⟨71,(Qbj Ur),[(Bq 103 Ur)],Ju 40,[]⟩
theorem Ha:KO Mp:=⟨V3 H2 H1 func71 rfl rfl rfl rfl rfl rfl rfl rfl (by kernel_rfl) (y0:=([]:List Qd)) (by kernel_rfl) (an0:=.reg (.n 1 .done)) (anA:=.two (.reg (.n 1 .done)) .nil) (anC:=.two (.reg (.n 4 .done)) .nil) ⟨by kernel_rfl,by kernel_rfl⟩ (fun xs=>by kernel_rfl) (fun xs=>by kernel_rfl) (fun xs=>by kernel_rfl),K5 func71 rfl⟩
def R2:Con:=⟨86,(Qbj Xu),[(Bq 185 Xu)],Ju 48,[]⟩
theorem Fg:KO R2:=⟨V3 H2 H1 func86 rfl rfl rfl rfl rfl rfl rfl rfl (by kernel_rfl) (y0:=([]:List Qi)) (by kernel_rfl) (an0:=.reg (.n 1 .done)) (anA:=.two (.reg (.n 1 .done)) .nil) (anC:=.two (.reg (.n 4 .done)) .nil) ⟨by kernel_rfl,by kernel_rfl⟩ (fun xs=>by kernel_rfl) (fun xs=>by kernel_rfl) (fun xs=>by kernel_rfl),K5 func86 rfl⟩
def Hb:Con:=⟨68,(Js8 141 Vu),[(Jvf 141 Vu)],fun(xs:List Qp)=>Qz7 24 xs,[]⟩
theorem P2:KO Hb:=⟨Jfs H2 H1 (c:=Hb) func68 (fA:=fun(xs:List Qp)=>some (xs,([]:List Qp))) rfl rfl rfl rfl rfl rfl rfl rfl (by kernel_rfl) (by kernel_rfl) (an0:=.reg (.n 1 .done)) (anA:=.two (.reg (.n 1 .done)) .nil) (anC:=.two (.reg (.n 4 .done)) .nil) (fun _=>⟨by kernel_rfl,by kernel_rfl⟩) (g:=Qi1 tx.gl) (fun _=>by kernel_rfl) (e:=141) (u:=Vu) (fx:=fun(xs:List Qp)=>xs) (fun _=>by kernel_rfl) (fun xs h=>by rw[show xs=([]:List Qp)from h]; kernel_rfl) (fun _=>by kernel_rfl) (fun _=>by kernel_rfl) (fun _=>by kernel_rfl),K5 func68 rfl⟩
def Un:Con:=⟨314,⟨[(0,.s 5000),(1,.f 315 (.nil))],[(5000,.row 433 Uj)]⟩,[⟨[],[(5000,.row 433 Uj)]⟩],Qi7 (fun x:Q8=>x.1),[]⟩
theorem H5:KO Un:=⟨Jfw (c:=Un) (e:=433) (u:=Uj) rfl (fun x=>x) (fun y=>y) (ev:=[⟨1,[],.f 315 .nil⟩]) (vx:=[.func (.func 315) #[] #[]]) rfl (fun _=>by kernel_rfl) (fun _=>by kernel_rfl) rfl Jol (fun _ _=>Jfz) (fun p w=>AnyF.slices_SortFunc_none { Tryz.sortFunc314 with } p 0 _ w) (fun _ _ h blk cap w hH hb _=>Q4r (u:=Uj) rfl (fun x:Q8=>x.1) Tryz.sortFunc314 isAgg433 sizeOf433 (enters_of func315 (by kernel_rfl) rfl) Tryz.clo315 h blk cap w hH hb),K5 func314 rfl⟩
def R3:Con:=⟨72,(inK 113 89 Yh),[Jok],fun(xs:List (Int×Qa))=>Qi5 xs,[5000,5001]⟩
theorem Fh:KO R3:=⟨Q4p (fun _=>by kernel_rfl) Tryz.underlying3 (Tryz.sortedKeys113 Qc4),K5 func72 rfl⟩
def zs1:Shp:=sD [.bool]
def zs2:Sk:=.d .i
def zs3:Shp:=⟨[(9,zs2)],[]⟩
def zs4:Sk:=.d .bool
def zs5:Hn:=.n 1 .done
def zs6:Hn:=.nl 7 zs5
def zs7:Shp:=sD [.i]
def zs8:Shp:=⟨[(13,zs4)],[]⟩
def zs9:Shp:=⟨[(17,zs4)],[]⟩
def Js9:Shp:=⟨[(22,zs4)],[]⟩
def Qtq:Shp:=sD [.str]
def Qev:Hn:=.nl 3 zs5
def P3:Shp:=⟨[(3,zs2)],[]⟩
def Ql1:Exs:=[(.x 0,⟨[],[]⟩),(.r,⟨[(2,zs4)],[]⟩)]
def Jta:Shp:=⟨[(37,zs4)],[]⟩
def H6:Hn:=.nl 4 zs5
def Jom:Shp:=⟨[(49,zs4)],[]⟩
def Jtb:Hn:=.nl 5 .done
def Jtc:Shp:=⟨[(55,zs4)],[]⟩
def Jjx:Shp:=⟨[(19,zs4)],[]⟩
def Q9h:Hn:=.nl 8 zs5
def Qp2:Hn:=.nl 1 zs5
def Jon:Hn:=.nl 4 (.n 3 Qp2)
def Jjy:Hn:=.call 1 Qp2
def Jjz:Hn:=.nl 2 Jjy
def Jtd:Hn:=.nl 2 (.call 2 Qp2)
def Joo:Hn:=.n 15 .done
def Jvi:Hn:=.nl 2 (.call 3 Qp2)
def Jop:Shp:=sD [Zx,.i]
def Ls:Shp:=⟨[(5,zs2)],[]⟩
def Q4s:Shp:=⟨[(4,zs2)],[]⟩
def Qn2:Exs:=[(.x 0,⟨[],[]⟩),(.r,Q4s)]
def Qka:Exs:=[(.x 0,⟨[],[]⟩),(.r,⟨[(4,zs4)],[]⟩)]
def Jj0:Hn:=.call 0 Qp2
def Joq:Hn:=.nl 2 zs5
def Jvj:HT:=.a (.a (.a (.tl Joq)))
def Jvk:HT:=.a (.a (.a (.a Jvj)))
def Jte:Shp:=sD [Zx,Jr]
def Jor:Hn:=.nl 3 Jjy
def Qvj:Hn:=.nl 5 zs5
def Jos:Shp:=⟨[(41,zs4)],[]⟩
def Jtf:Hn:=.call 2 zs5
def Q4t:Shp:=sD [.sl .str,.str]
def Jvl:Exs:=[(.n,⟨[],[]⟩),(.r,Q4s)]
def Jtg:Shp:=⟨[(62,zs4)],[]⟩
def R4:Sk:=.s 1
def Qf9:List (Nat×Sk):=[(0,R4)]
def Q4u:SkO:=.row 9 .str
def Q9i:Shp:=⟨Qf9,[(1,Q4u)]⟩
def Q9j:Shp:=⟨[(18,zs4)],[]⟩
def Qp3:Hn:=.nl 6 zs5
def Qh4:Sk:=.s 100000
def Qtr:Sk:=.s 100200
def Jth:Exs:=[(.x 0,⟨[(5,Qtr)],[(100200,Q4u)]⟩)]
def Qp4:Sk:=.s 100100
def Jti:Exs:=[(.n,⟨[(5,Qp4)],[(100100,Q4u)]⟩)]
def Jvm:Shp:=sD [V4,Jr]
def Qh5:Sk:=.p 100000 []
def Ue:Sk:=.d .str
def Jtj:SkO:=.var 260 (.ag (sL [zs2,zs2,zs2,Ue,.d (.sl .str),.d (.sl .str),zs4,zs4]))
def Qh6:Sk:=.s 2
def Q4v:Sk:=.s 3
def Jvn:List (Nat×Sk):=[(0,.ag (sL [R4,Qh6,Q4v]))]
def Q9k:SkO:=.row 243 Za
def Qvk:SkO:=.row 260 V4
def Cc:SkO:=.row 3 .i
def E5:HT:=.tl zs5
def Qh7:Sk:=.p 100100 []
def Jtk:Sk:=.p 100101 []
def Jj1:Sk:=.s 100102
def Jtl:Sk:=.s 100103
def Qts:Sk:=.p 100200 []
def Q9l:Sk:=.s 100201
def Jj2:Sk:=.s 100202
def Jtm:Sk:=.s 100203
def Qvl:Hn:=.n 3 .done
def Ql2:HT:=.tl Qvl
def Jvo:Exs:=[(.n,⟨[(90,zs4)],[]⟩)]
def Q0b:Hn:=.n 2 .done
def Q4w:HT:=.tl Q0b
def Qh8:Shp:=sD [.i,.i]
def Qtt:Sk:=.s 100001
def Jf0:Sk:=.s 100002
def Jtn:Sk:=.s 100003
def Q0c:Hn:=.n 6 .done
def Q9m:Hn:=.call 0 zs5
def Jj3:Hn:=.n 5 .done
def Jf1:Hn:=.call 1 zs5
def Qp5:Exs:=[(.x 0,⟨[],[]⟩),(.r,⟨[(2,zs2)],[]⟩)]
def Jto:Exs:=[(.x 2,⟨[],[]⟩),(.r,⟨[(2,zs2)],[]⟩)]
def Jvp:Shp:=sD [J8]
def Jtp:Shp:=⟨[(63,zs4)],[]⟩
def Jot:Hn:=.nl 13 .done
def Jtq:Shp:=sD [.int .u8]
def Q9n:Hn:=.nl 2 Jj0
def Q9o:Shp:=⟨[(7,zs2)],[]⟩
def Jvq:Exs:=[(.x 0,⟨[],[]⟩),(.r,⟨[(6,zs4)],[]⟩)]
def Qp6:Shp:=⟨[(8,zs2)],[]⟩
def Jj4:Shp:=⟨[(6,zs2)],[]⟩
def Qek:Hn:=.n 8 .done
def Jp6:Shp:=sD [.sl Uc]
def Jp7:Shp:=sD [.sl Uh]
def Jp8:Shp:=sD [Yn,.str]
def Jj5:Shp:=sD [.sl Vu]
def Q4x:Shp:=sD [Yn]
def Qxj:Shp:=sD [Xt]
def Jb6:HT:=.a E5
def Ql3:Hn:=.n 7 .done
def Jp9:Exs:=[(.n,⟨[(42,zs4)],[]⟩)]
def Jqa:Shp:=⟨[(7,Qh4),(8,zs2)],[(100000,Cc)]⟩
def Jqb:Shp:=⟨[(4,zs2),(5,zs2)],[]⟩
def Jj6:Shp:=sD [Ks]
def Jb7:Shp:=sD [.sl Q9]
def Q4y:Shp:=sD [Yi]
def Q4z:Shp:=sD [Q9,Q9]
def Jj7:Shp:=⟨[(30,zs4)],[]⟩
def Jqc:HT:=.a (.a (.a (.a (.a (.tl Qp2)))))
def Q40:HT:=.a (.a Jqc)
def Jqd:Shp:=sD [.sl Ya]
def Jb8:Shp:=sD [J9]
def Q41:Shp:=sD [Q9]
def Jj8:Shp:=sD [Ya]
def Jb9:SkO:=.row 216 Xt
def Jj9:HT:=.k 1 [] [] [] [] Q4w
def Qga:SkO:=.row 210 Uc
def Ql4:SkO:=.row 138 Uh
def Qtu:SkO:=.row 76 Xs
def Q42:SkO:=.row 218 Uq
def Jqe:List (Nat×SkO):=[(1,Qga),(2,Ql4),(3,Qtu),(4,Q42)]
def Jqf:Shp:=⟨[(0,.ag (sL [Ue,zs2,zs4,R4,Qh6,Q4v,.s 4]))],Jqe⟩
def Jka:SkO:=.row 135 Jr
def Q43:SkO:=.row 146 Yn
def Ql5:SkO:=.row 133 J8
def Jkb:SkO:=.row 150 Fa
def Q44:SkO:=.row 156 Vi
def Jqg:HT:=.b 1 (.tl Jj3)
def Qxk:Sk:=.s 100300
def Qxl:SkO:=.row 160 Zi
def Q45:Sk:=.s 100400
def Uo:SkO:=.row 129 Q9
def Ys:SkO:=.row 101 Ya
def Cd:SkO:=.row 103 Ur
def Qxm:Shp:=⟨Jvn,[(1,Uo),(2,Ys),(3,Cd)]⟩
def Jkc:List (Nat×Sk):=[(0,.p 1 [])]
def Vr:SkO:=.map .i Yh
def Jqh:Shp:=⟨Jkc,[(1,.var 91 (.ag (sL [.ag (sL [Qh6,Q4v,.s 4,.s 5,.s 6,.s 7]),.ag (sL [.s 8,.s 9,.s 10]),.m 11]))),(2,Jka),(3,Q43),(4,Ql5),(5,Jkb),(6,Cc),(7,Q44),(8,Uo),(9,Ys),(10,Cd),(11,Vr)]⟩
def Zj:Sk:=.p 5000 []
def Bb:List (Nat×Sk):=[(0,Zj)]
def Qpg:Sk:=.s 5001
def Qtv:Sk:=.s 5002
def Qxn:Sk:=.s 5003
def Jca:Sk:=.s 5004
def Jcb:Sk:=.m 5010
def Jkd:List (Nat×SkO):=[(5000,.var 91 (.ag (sL [.ag (sL [Qpg,Qtv,Qxn,Jca,.s 5005,.s 5006]),.ag (sL [.s 5007,.s 5008,.s 5009]),Jcb]))),(5001,Jka),(5002,Q43),(5003,Ql5),(5004,Jkb),(5005,Cc),(5006,Q44),(5007,Uo),(5008,Ys),(5009,Cd),(5010,Vr)]
def Jqi:Shp:=sD [Yh]
def Jqj:Sk:=.ag (sL [zs2,Ue,Ue,zs2,R4])
def Jke:Sk:=.ag (sL [zs2,zs2,zs2,Ue,Ue,zs2,Jqj,zs2,zs2])
def Z9:Sk:=.d So
def Qtw:SkO:=.row 141 Vu
def Zk:SkO:=.row 185 Xu
def Jqk:Shp:=⟨[(0,.ag (sL [zs2,zs2,zs2,zs2,Jke,zs2,Qh6,zs2,zs2,zs4,Z9]))],[(1,Qtw),(2,Zk)]⟩
def Jkf:List (Nat×Sk):=[(5,Qh4),(10,zs2)]
def Ql6:Sk:=.p 100300 []
def Jkg:Sk:=.p 100301 []
def Jcc:SkO:=.var 260 (.ag (sL [zs2,zs2,zs2,Ue,.ns,.ns,zs4,zs4]))
def Qxo:Shp:=sD [.sl Jr,.i]
def Qph:SkO:=.row 373 V5
def Q46:Sk:=.p 100001 []
def Jkh:Sk:=.d V4
def Jki:SkO:=.var 260 Jkh
def Jkj:Sk:=.p 100201 []
def Jcd:Hn:=.nl 9 zs5
def Jql:Shp:=sD [V5,V5]
def Jqm:List (Nat×Sk):=[(7,Qh4),(13,zs2)]
def Jce:SkO:=.row 235 Ds
def Jqn:List (Nat×Sk):=[(6,Qh4),(16,zs2)]
def Qpi:Sk:=.d J9
def Jcf:Shp:=sD [.sl Jr,.i,.i]
def Jqo:SkO:=.var 235 (.ag (sL [Qpi,Ue,.ns,zs4,zs4]))
def Jkk:List (Nat×Sk):=[(6,Qts),(7,zs4)]
def Q47:SkO:=.map .i Za
def Qpj:SkO:=.map .i .bool
def Ql7:SkO:=.map .i .i
def Jkl:Sk:=.d (.sl Jr)
def P4:SkO:=.var 3 zs2
def Jcg:Shp:=sD [.sl .i,.i]
def Qb3:Sk:=.m 5001
def Ta:Sk:=.m 5002
def Jch:Sk:=.m 5003
def Jci:Sk:=.m 5004
def Jcj:Sk:=.m 5005
def Jkm:List (Nat×SkO):=[(5000,.var 414 (.ag (sL [Qb3,Ta,Jch,Jci,Jcj,.s 5006,.s 5007]))),(5001,Q47),(5002,.map .i V4),(5003,Qpj),(5004,.map .str .i),(5005,Ql7),(5006,Cc),(5007,Cc)]
def Jkn:List (Nat×SkO):=[(5004,.map .str .i)]
def Lt:Hn:=.dt 5000 .done
def Jqp:Shp:=⟨[(0,.ag (sL [R4,Qh6]))],[(1,Q9k),(2,Qvk)]⟩
def Jck:Sk:=.m 100001
def Jko:SkO:=.mapC .i (.sl 3 .i)
def Jkp:Sk:=.m 100201
def Qxp:Sk:=.s 100301
def Q48:Sk:=.s 100302
def Jcl:Sk:=.p 100400 []
def Q49:Sk:=.s 100401
def Jcm:Sk:=.s 100402
def Jqq:List (Nat×Sk):=[(6,Qh5),(15,zs2)]
def Jqr:Shp:=sD [.sl Zm]
def Jcn:List (Nat×SkO):=[(1,Qtw)]
def Q5a:List (Nat×Sk):=[(3,Qp4)]
def Qpk:Sk:=.s 100101
def Jkq:Sk:=.p 100500 []
def Jkr:Sk:=.s 100501
def Jks:Sk:=.s 100502
def Q5b:Hn:=.n 4 .done
def Jkt:Sk:=.p 100600 []
def Jku:Exs:=[(.x 0,Qp6)]
def Jqs:List (Nat×SkO):=[(5000,.var 210 (.d Uc))]
def Jkv:Sk:=sL [Zj]
def Jqt:Shp:=⟨[(0,.d (.sl Uc)),(1,.f 276 Jkv)],Jqs⟩
def Qxq:SkO:=.map .str .str
def Jkw:Sk:=.m 100000
def Jkx:Sk:=.m 100100
def Jqu:An:=.two (.reg Q0b) .nil
def Jqv:List (Nat×SkO):=[(5000,.var 138 (.d Uh))]
def Jqw:Shp:=⟨[(0,.d (.sl Uh)),(1,.f 279 Jkv)],Jqv⟩
def Jky:Shp:=⟨[(13,zs2)],[]⟩
def Qgb:Sk:=.p 5001 []
def Jqx:List (Nat×SkO):=[(5000,P4),(5001,P4)]
def Jqy:Shp:=⟨[(0,.d (.sl Zm)),(1,.f 281 (sL [Zj,Qgb]))],Jqx⟩
def Q5c:SkO:=.var 9 Ue
def Jqz:SkO:=.var 76 (.ag (sL [zs2,Ue,Ue,zs2,.ns]))
def Jq0:Shp:=sD [Yi,Yh]
def Jkz:Shp:=⟨[(0,.ag (sL [zs2,zs2,Ue,zs2,zs2,R4,Qpi,zs2,zs2,zs2,zs4]))],[(1,Q4u)]⟩
def Jk0:Shp:=sD [J9,J9]
def Jco:Sk:=.d (.sl J9)
def Lu:SkO:=.row 127 J9
def Qtx:Shp:=⟨Qf9,[(1,Lu)]⟩
def Jk1:List (Nat×SkO):=[(100000,Lu)]
def Jq1:Exs:=[(.x 0,⟨[(7,Qtr)],[(100200,Lu)]⟩)]
def Jq2:Exs:=[(.n,⟨[(7,Qp4)],[(100100,Lu)]⟩)]
def Jcp:SkO:=.row 304 U0
def Qxr:SkO:=.mapC .str (.mp .i .bool)
def Jk2:Shp:=⟨[(11,zs2)],[]⟩
def Jcq:SkO:=.var 429 (.d Qhw)
def Jq3:HT:=.b 1 (.c 1 Ql2)
def Qpl:SkO:=.row 433 Uj
def Jq4:Shp:=⟨[(0,Jco),(1,zs2),(2,Zj)],[(5000,.var 431 Qpg),(5001,Qpl)]⟩
def Jq5:Shp:=⟨[],[(5000,.var 431 R4),(1,Qpl)]⟩
def Jq6:SkO:=.var 437 (.d (.arr 2 .i))
def Jq7:List (Nat×SkO):=[(5000,Q5c),(5001,P4)]
def Jq8:Sk:=.d (.sl J8)
def Jcr:SkO:=.row 308 Fp
def Qel:SkO:=.map Zn .bool
def Jq9:HT:=.k 0 [] [] [] [] E5
def Ql8:Shp:=sD [Ya,.i]
def Q5d:SkO:=.var 101 (.d Ya)
def Jra:Hn:=.n 2 (.call 4 .done)
def Jrb:HT:=.a (.a (.a (.a (.a (.a (.a (.a (.a (.a (.a (.a (.a (.a (.tl Qev))))))))))))))
def Jk3:Hn:=.nl 3 Jj0
def Jrc:SkO:=.var 243 (.ag (sL [zs2,zs2,zs2,zs4,zs4,.ns]))
def Jrd:Shp:=sD [.sl Vu,.i]
def Jre:Exs:=[(.n,⟨[(10,zs2)],[]⟩)]
def Jrf:Shp:=sD [Ij,.i]
def Xh:Sk:=.d Ks
def Wj:Sk:=.d (.sl Q9)
def Jcs:Sk:=.s 5000
def Lv:Sk:=.d (.sl Ur)
def Jct:Sk:=.ag (sL [Wj,Jcs,Lv])
def Qem:Sk:=.d Hl
def Jk4:List (Nat×Sk):=[(0,.d Ya),(1,Zj)]
def Jrg:Sk:=.ag (sL [zs2,zs2,zs2,zs2,Qem,zs2,Qtv,zs2,zs2,zs4,Z9])
def Jk5:List (Nat×Sk):=[(0,Jcs),(1,.f 158 (sL [Qgb]))]
def Jrh:Sk:=.ag (sL [zs2,zs2,zs2,zs2,Qem,zs2,Qxn,zs2,zs2,zs4,Z9])
def Jri:Sk:=.ag (sL [Wj,Qtv,Lv])
def Qxs:List (Nat×SkO):=[(5000,.var 173 (.ag (sL [.ag (sL [zs2,zs2,zs2,zs2,Qem,zs2,Qpg,zs2,zs2,zs4,Z9]),Jri]))),(5001,Zk),(5002,Ys)]
def Qpm:List (Nat×Sk):=[(0,zs2)]
def Ql9:List (Nat×Sk):=[(0,Zj),(1,zs2)]
def Jk6:Sk:=.ag (sL [zs2,zs2,zs2,zs2,Qem,zs2,R4,zs2,zs2,zs4,Z9])
def Jk7:Sk:=.ag (sL [Wj,Qh6,Lv])
def Jrj:List (Nat×SkO):=[(5000,.var 173 (.ag (sL [Jk6,Jk7]))),(1,Zk),(2,Ys)]
def Q5e:HT:=.tl Q5b
def Jrk:List (Nat×Sk):=[(0,Zj),(1,Xh),(2,zs2),(3,zs2)]
def Jrl:List (Nat×SkO):=[(5000,.var 173 (.ag (sL [.ag (sL [zs2,zs2,zs2,zs2,.ag (sL [zs2,zs2,zs2,Ue,Ue,zs2,.ag (sL [zs2,Ue,Ue,zs2,Qpg]),zs2,zs2]),zs2,Qtv,zs2,zs2,zs4,Z9]),.ag (sL [Qxn,Jca,.s 5005])]))),(5001,Qtw),(5002,Zk),(5003,Uo),(5004,Ys),(5005,Cd)]
def Jcu:Sk:=.ag (sL [zs2,zs2,zs2,Ue,Ue,zs2,.ag (sL [zs2,Ue,Ue,zs2,.d (.sl Vu)]),zs2,zs2])
def Jrm:HT:=.d 5000 5000 (.b 5000 (.b 5000 (.g [5000] [23702] [] [5000,14802,23701,23702] (.tl .done))))
def Jk8:List (Nat×Sk):=[(0,Zj),(1,.d Yz),(2,zs2),(3,zs2),(4,zs2)]
def Qma:Sk:=.ag (sL [Wj,R4,Lv])
def Jrn:Sk:=.ag (sL [zs2,zs2,zs2,zs2,Qem,zs2,Qh6,zs2,zs2,zs4,Z9])
def Jro:Shp:=⟨[(0,Qma),(1,Jrn),(2,Z9)],[(5000,.var 173 (.ag (sL [Jrn,Qma]))),(1,Ys),(2,Zk)]⟩
def Jrp:List (Nat×Sk):=[(0,Zj),(1,.d Yz),(2,zs2)]
def Jk9:Exs:=[(.n,zs3)]
def Jrq:HT:=.a Ql2
def Qjc:Sk:=.d Yh
def Q5f:List (Nat×SkO):=[(5000,.var 173 (.ag (sL [Qjc,Qma]))),(1,Ys)]
def Jrr:Shp:=⟨[(4,zs2),(5,Qh4),(25,zs2)],[(100000,Zk)]⟩
def Jrs:Exs:=[(.x 0,⟨[(4,zs2),(5,Qtr)],[(100200,Zk)]⟩)]
def Jrt:List (Nat×Sk):=[(0,Zj),(11,zs2)]
def Jru:Sk:=.ag (sL [zs2,zs2,zs2,zs2,Qem,zs2,Jkr,zs2,zs2,zs4,Z9])
def Jrv:Sk:=.ag (sL [Wj,Qpg,Lv])
def Q5g:List (Nat×SkO):=[(5000,.var 173 (.ag (sL [Qjc,Jrv]))),(5001,Ys)]
def Jrw:Shp:=⟨[(0,Qma),(1,Qjc),(2,Z9)],Q5f⟩
def Jrx:HT:=.f 11 11 E5
def Jry:Sk:=.d (.sl Xu)
def Jla:Sk:=.ag (sL [zs2,zs2,zs2,zs2,Jcu,zs2,Jry,zs2,zs2,zs4,Z9])
def Jrz:Shp:=⟨[(0,Qma),(1,Jla),(2,Z9)],[(1,Ys)]⟩
def Qty:List (Nat×Sk):=[(0,Zj),(1,.d Yz)]
def Q5h:List (Nat×Sk):=[(0,Z9)]
def Jlb:HT:=.b 40 (.tl (.br .done))
def Jcv:Sk:=.ag (sL [Wj,R4,Qh6])
def Jlc:List (Nat×SkO):=[(5000,.var 173 (.ag (sL [Qjc,Jcv]))),(1,Ys),(2,Cd)]
def Jr0:SkO:=.tail 129 Q9
def Jld:List (Nat×SkO):=[(5000,.var 173 (.ag (sL [Qjc,.ag (sL [Wj,Qpg,Qtv])]))),(5001,Ys),(5002,Cd)]
def Jr1:Shp:=sD [Ks,Yi,Yh,Yz]
def Jr2:HT:=.a Jrq
def Jle:Sk:=.ag (sL [Jkl,.d (.sl Yn),Jq8,.d (.sl Fa),.d (.sl .i),.d (.sl Vi)])
def Jr3:HT:=.f 5 5 E5
def Jcw:HT:=.a (.a (.a (.e 5 Jr3)))
def Jcx:List (Nat×Sk):=[(7,.p 100002 [])]
def Q5i:Sk:=.ag (sL [Wj,Jtn,Lv])
def Jr4:HT:=.f 5010 5010 E5
def Qxt:List (Nat×SkO):=[(5000,.var 91 (.ag (sL [Xh,Jrv,Ta]))),(5001,Ys),(5002,Vr)]
def Jlf:Shp:=⟨Q5h,[(5000,.var 91 (.ag (sL [Xh,Qma,Ta]))),(5002,Vr),(1,Ys)]⟩
def Jcy:HT:=.f 5002 5002 E5
def Jr5:List (Nat×Sk):=[(0,.d (.sl .i))]
def Jcz:SkO:=.tail 101 Ya
def Jr6:List (Nat×Sk):=[(0,Zj),(5,Jf0),(15,zs2)]
def Qjd:Sk:=.d Yi
def Qje:List (Nat×SkO):=[(5000,.var 91 (.ag (sL [Xh,Qjd,Qb3]))),(5001,Vr)]
def Qxu:Shp:=⟨Bb,Qje⟩
def Q5j:Sk:=.ag (sL [Wj,.d (.sl Ya),Lv])
def Jr7:List (Nat×SkO):=[(5000,.var 91 (.ag (sL [Xh,Q5j,Qb3]))),(5001,Vr)]
def Jc0:SkO:=.row 81 Yh
def Jr8:Shp:=⟨[(3,Qh4),(12,zs2)],[(100000,Jc0)]⟩
def Jr9:Exs:=[(.x 0,⟨Q5a,[(100100,Jc0)]⟩)]
def Jsa:HT:=.f 5001 5001 E5
def Jsb:Shp:=⟨[(0,Zj),(1,.d Vv)],Qje⟩
def P5(N:Nat):V:=⟨⟨29,(sD [.sl Jr,.sl J8,Yi,.i]),[zs1],u4 (Ee N),[]⟩,kF N [] [(14,.lp [0,1,3] [6] zs3 [(.x 0,⟨[],[]⟩),(.r,⟨[(8,zs4)],[]⟩)]),(32,.rg (.n 8 (.sp 56 8 [0,3] [6] ⟨[(64,zs4)],[]⟩ zs6 zs6 zs5)))] func29⟩
def Nn(N:Nat):V:=⟨⟨134,zs7,[(sD [.arr 5 .bool])],Gv N,[]⟩,kF N [] [(25,.jn [2,3] [2] [(.n,zs8)]),(35,.jn [2,3] [2] [(.n,zs9)]),(49,.jn [2] [2] [(.n,Js9)])] func134⟩
def Qmb(N:Nat):V:=⟨⟨194,zs7,[zs1],Fq N,[]⟩,kF N [] [] func194⟩
def E6(N:Nat):V:=⟨⟨140,Qtq,[zs1],Uy N,[]⟩,kF N [] [(4,.rg (.n 9 (.sp 12 4 [0] [] ⟨[(16,zs4)],[]⟩ Qev Qev (.n 1 (.sp 17 4 [0] [] ⟨[(21,zs4)],[]⟩ Qev Qev .done))))),(14,.lp [0] [] P3 Ql1),(24,.rg (.n 5 (.sp 32 5 [3] [] Jta H6 H6 (.n 1 (.sp 38 11 [3] [] Jom (.nl 5 (.sp 43 5 [3,38] [] ⟨[(48,zs4)],[]⟩ Jtb Jtb zs5)) (.nl 10 zs5) (.n 1 (.sp 50 5 [3] [] Jtc H6 H6 .done)))))))] func140⟩
def Lw(N:Nat):V:=⟨⟨195,Qtq,[zs1],Wo N,[]⟩,kF N [] [(6,.lp [0] [] P3 Ql1),(16,.rg (.n 5 (.sp 14 5 [3] [] Jjx H6 H6 .done)))] func195⟩
def Qgc(N:Nat):V:=⟨⟨196,(sD [Jr]),[zs1],F0 N,[]⟩,kF N [] [] func196⟩
def Qh9(N:Nat):V:=⟨⟨133,(sD [Jr,.i]),[zs7],u2 (Bt N),[]⟩,kF N [Nn,Qmb,E6,Lw,Qgc] [(30,.rg (.n 9 (.sp 37 9 [2,5] [2,5] ⟨[(46,zs4)],[]⟩ Q9h Jon (.n 1 (.sp 47 9 [2,5] [2,5] ⟨[(56,zs4)],[]⟩ Q9h Jon (.n 1 (.sp 57 9 [2,5] [2,5] ⟨[(66,zs4)],[]⟩ Q9h Jon (.n 1 (.sp 67 9 [2,5] [2,5] ⟨[(76,zs4)],[]⟩ Q9h Jon .done))))))))),(38,.rg (.n 3 (.sp 79 5 [2,5] [2,5] ⟨[(84,zs4)],[]⟩ Jjz H6 (.n 1 (.sp 85 9 [2,5] [2,5] ⟨[(94,zs4)],[]⟩ Q9h (.nl 3 (.sp 88 5 [2,5,85] [] ⟨[(93,zs4)],[]⟩ (.nl 2 (.call 1 (.nl 2 .done))) Jtb zs5)) .done))))),(46,.rg (.n 3 (.sp 97 5 [2,5] [2,5] ⟨[(102,zs4)],[]⟩ Jtd H6 Joo))),(54,.rg (.n 3 (.sp 120 5 [2,5] [2,5] ⟨[(125,zs4)],[]⟩ Jvi H6 .done))),(62,.rg (.n 3 (.sp 128 4 [2] [2,5] ⟨[(132,zs4)],[]⟩ (.nl 1 (.call 4 Qp2)) Qev .done)))] func133⟩
def Ce(N:Nat):V:=⟨⟨137,Jop,[zs7],u2 (K0 N),[]⟩,kF N [] [(6,.lp [1,2] [2] Ls Qn2)] func137⟩
def Au(N:Nat):V:=⟨⟨138,Jop,[zs7],u2 (Xv N),[]⟩,kF N [] [(6,.lp [1,2] [2] Ls Qn2)] func138⟩
def Lx(N:Nat):V:=⟨⟨198,Jop,[zs1],u2 (Wp N),[]⟩,kF N [] [(6,.lp [1,2] [2] Ls Qka)] func198⟩
def Qia(N:Nat):V:=⟨⟨197,Jop,[zs1],u2 (Bu N),[]⟩,kF N [Lx] [(6,.lp [1,2] [2] Ls Qka),(16,.jn [5] [] [(.n,⟨[(31,zs4)],[]⟩)]),(16,.an (.dc 16 [13,14,15,16,17,18,19,20,21,22,23,24,25,26,27,28] [] [2] (.b 2 (.c 2 (.a (.a (.a (.a (.a (.a (.a (.so 21 (.c 2 (.b 2 (.c 2 (.a (.a (.a (.a (.tl Jj0)))))))) Jvk))))))))))))] func197⟩
def Qai(N:Nat):V:=⟨⟨135,Jte,[zs7],u2 (Wq N),[]⟩,kF N [Ce,Au,Qia] [(38,.rg (.n 4 (.sp 26 6 [2,3,5] [2,3] ⟨[(32,zs4)],[]⟩ Jor Qvj .done))),(46,.rg (.n 4 (.sp 36 5 [2,3,5] [2,3] Jos (.nl 3 Jtf) H6 (.n 1 (.sp 42 13 [2,3,5] [2,3] Jtc (.nl 12 zs5) (.nl 4 (.sp 46 8 [2,5,42] [] ⟨[(54,zs4)],[]⟩ (.nl 8 .done) (.nl 8 .done) zs5)) .done)))))] func135⟩
def P6(N:Nat):V:=⟨⟨200,Q4t,[zs1],u2 (Zo N),[]⟩,kF N [] [(6,.lp [0,1] [] Ls Qka)] func200⟩
def Qgd(N:Nat):V:=⟨⟨199,(sD [Zx,.str]),[zs1],u2 (F2 N),[]⟩,kF N [P6] [(6,.lp [1,2] [2] Ls Qka)] func199⟩
def Qge(N:Nat):V:=⟨⟨136,Jte,[zs7],u2 (F3 N),[]⟩,kF N [Au,Lx,Qgd,P6] [(23,.jn [] [2,3,6] Jvl),(67,.jn [3,6,23] [] [(.n,⟨[(53,zs4)],[]⟩)]),(81,.jn [3,6] [] [(.n,Jtg)])] func136⟩
def Qgf(N:Nat):V:=⟨⟨94,(sD [Zx,Jr,.i]),[zs7],u3 (F4 N),[]⟩,kF N [Qh9,Nn,Qai,Qge] [] func94⟩
def Qib(N:Nat):V:=⟨⟨201,Q4t,[Q9i],u2 (Gw N),[]⟩,kF N [] [(6,.lp [0,1] [] Ls [(.x 0,Ls)]),(9,.rg (.n 5 (.sp 11 7 [5] [] Q9j Qp3 Qp3 .done)))] func201⟩
def Qdj(N:Nat):V:=⟨⟨202,Q4t,[Q9i],u2 (K1 N),[]⟩,kF N [] [(8,.lp [0,1] [] ⟨[(5,Qh4),(6,zs2)],[(100000,Q4u)]⟩ Jth),(16,.jn [6] [] Jti)] func202⟩
def Qdk(N:Nat):V:=⟨⟨139,Jvm,[(sD [V4])],u2 (Hm N),[]⟩,kF N [Qib,Qdj] [(3,.jn [4] [3,4] [(.n,⟨[(2,Qh5)],[(100000,Jtj)]⟩)])] func139⟩
def Qgg(N:Nat):V:=⟨⟨95,Jte,[⟨Jvn,[(1,Q9k),(2,Qvk),(3,Cc)]⟩],u2 (F5 N),[]⟩,kF N [Ce,Au,Qdk] [(3,.an (.dc 14 [7,8,9,10,11,12,13,14,15,16,17,18,19,5] [2] [] (.e 7 (.b 2 (.c 2 (.g [7] [] [10] [10] (.e 11 (.b 2 (.c 2 (.g [11] [] [14] [14] (.e 15 (.b 2 (.c 2 (.g [15] [] [18] [18] (.g [] [] [] [10,14,18] (.e 5 E5)))))))))))))))),(5,.jn [] [2,3] [(.n,⟨[(4,Qh7),(5,Jtk)],[(100100,.var 198 (.ag (sL [.ns,.ns,.ns]))),(100101,.var 198 (.ag (sL [Jj1,Jtl,.s 100104]))),(100102,Q9k),(100103,Qvk),(100104,Cc)]⟩),(.r,⟨[(4,Qts)],[(100200,.var 198 (.ag (sL [Q9l,Jj2,Jtm]))),(100201,Q9k),(100202,Qvk),(100203,Cc)]⟩)]),(15,.an (.dc 6 [66,67,68,69,70,71] [5] [2,3] (.b 5 (.d 5 10 (.c 2 (.b 3 (.c 3 (.k 0 [] [] [] [] Ql2)))))))),(21,.jn [2,3,4,5] [4,5,10,14,18] Jvo),(33,.an (.dc 10 [26,27,28,29,30,31,32,33,34,35] [5,14] [3] (.b 5 (.d 5 14 (.a (.b 5 (.d 5 14 (.a (.d 14 14 (.c 14 (.c 3 (.k 2 [] [] [] [] Q4w))))))))))))] func95⟩
def Qgh(N:Nat):V:=⟨⟨51,(sD [.sl Jr]),[Qh8],F6 N,[]⟩,kF N [Qgf,Qgg] [(18,.lp [0] [] ⟨[(4,Qh5),(5,zs2),(6,zs2)],[(100000,.var 198 (.ag (sL [Qtt,Jf0,Jtn]))),(100001,Q9k),(100002,Qvk),(100003,Cc)]⟩ [(.x 0,⟨[],[]⟩),(.r,⟨[(2,zs2),(3,zs2)],[]⟩)]),(28,.an (.dr 6 Q0c Q9m)),(38,.an (.dr 5 Jj3 Jf1))] func51⟩
def Qgi(N:Nat):V:=⟨⟨203,(sD [.sl .str]),[zs7],F7 N,[]⟩,kF N [E6] [(14,.lp [0] [] P3 Qp5),(35,.lp [0] [] Q4s Jto),(45,.an (.dr 10 (.n 10 .done) .done))] func203⟩
def Qew(N:Nat):V:=⟨⟨141,(sD [Zi]),[zs7],Ew N,[]⟩,kF N [Qgi] [] func141⟩
def Qkb(N:Nat):V:=⟨⟨96,Jvp,[zs7],Dt N,[]⟩,kF N [E6,Qew] [(46,.lp [1] [1] P3 Qp5)] func96⟩
def Qgj(N:Nat):V:=⟨⟨52,(sD [.sl J8]),[zs7],F8 N,[]⟩,kF N [Qkb] [(14,.lp [0] [] P3 Qp5),(34,.an (.dr 44 (.n 3 (.sp 24 41 [3] [] ⟨[(65,zs4)],[]⟩ (.nl 13 (.sp 37 27 [3,24] [] ⟨[(64,zs4)],[]⟩ (.nl 27 .done) (.nl 13 (.sp 50 13 [3,24,37] [] Jtp Jot Jot (.nl 1 .done))) zs5)) (.nl 40 zs5) .done)) .done))] func52⟩
def Qgk(N:Nat):V:=⟨⟨204,Jtq,[zs1],Wr N,[]⟩,kF N [] [] func204⟩
def Qgl(N:Nat):V:=⟨⟨205,Jtq,[zs1],F9 N,[]⟩,kF N [] [] func205⟩
def No(N:Nat):V:=⟨⟨142,Qtq,[zs1],Gy N,[]⟩,kF N [Qgk,Qgl] [(4,.rg (.n 9 (.sp 12 5 [0] [] zs9 H6 Q9n .done))),(14,.lp [0] [] P3 Ql1),(24,.rg (.n 3 (.call 0 (.n 2 (.sp 29 6 [3] [] ⟨[(35,zs4)],[]⟩ Jor Qvj (.n 1 (.sp 36 5 [3] [] Jos H6 H6 .done)))))))] func142⟩
def Np(N:Nat):V:=⟨⟨207,Qtq,[zs1],Gz N,[]⟩,kF N [] [(4,.rg (.n 9 (.sp 14 4 [0] [] Q9j Qev Qev (.n 1 (.sp 19 4 [0] [] ⟨[(23,zs4)],[]⟩ Qev Qev .done))))),(14,.lp [0] [] P3 Ql1),(24,.an (.dr 22 (.n 5 (.sp 34 5 [3] [] ⟨[(39,zs4)],[]⟩ H6 H6 (.n 5 (.sp 44 5 [3,39] [] Jom H6 H6 Q0b)))) .done)),(26,.rg (.n 7 (.sp 56 5 [3] [] ⟨[(61,zs4)],[]⟩ H6 H6 .done)))] func207⟩
def Qdl(N:Nat):V:=⟨⟨261,(sD [.sl Uc,.i,.i]),[zs1],u3 (Ho N),[]⟩,kF N [] [(6,.lp [0,1,2] [] Q9o Jvq),(18,.lp [7] [] Qp6 [(.x 2,⟨[],[]⟩),(.r,⟨[(6,zs4)],[]⟩)]),(34,.an (.dr 17 (.n 17 .done) .done))] func261⟩
def Qic(N:Nat):V:=⟨⟨206,(sD [.sl Uc,.i]),[zs7],u2 (Bv N),[]⟩,kF N [Np,Lw,Qdl] [(16,.lp [0,1,5] [5] Jj4 Qn2),(26,.an (.dr 8 Qek .done)),(53,.lp [0,1,5] [5] Q9o [(.x 2,⟨[],[]⟩),(.r,Q4s)])] func206⟩
def Qgm(N:Nat):V:=⟨⟨143,Jp6,[zs7],Aa N,[]⟩,kF N [Qic] [(14,.lp [0] [] P3 Qp5)] func143⟩
def Qgn(N:Nat):V:=⟨⟨208,(sD [.sl Zm,.bool]),[zs7],u2 (Ab N),[]⟩,kF N [] [(38,.lp [0] [] Ls Qn2)] func208⟩
def Qgo(N:Nat):V:=⟨⟨144,Jp7,[zs7],Ac N,[]⟩,kF N [Np,Qgn] [(22,.lp [0] [] P3 Qp5),(43,.lp [3] [] Q4s Jto),(53,.an (.dr 11 (.n 11 .done) .done))] func144⟩
def Qid(N:Nat):V:=⟨⟨209,Jp8,[zs1],u2 (Bw N),[]⟩,kF N [] [(6,.lp [1,2] [2] Ls Qka)] func209⟩
def Qie(N:Nat):V:=⟨⟨210,Jp8,[zs1],u2 (Bx N),[]⟩,kF N [] [(6,.lp [1,2] [2] Ls Qka)] func210⟩
def Qgp(N:Nat):V:=⟨⟨211,Jj5,[zs7],Ad N,[]⟩,kF N [] [(24,.lp [0] [] ⟨[(3,zs2),(4,zs2)],[]⟩ Qp5)] func211⟩
def Qgq(N:Nat):V:=⟨⟨145,Q4x,[zs7],Ae N,[]⟩,kF N [Qid,Qie,Qgp] [(14,.lp [1] [1] P3 Qp5),(35,.rg (.n 3 (.call 0 (.n 2 (.sp 35 6 [3,4] [4] Jos Qvj Jor .done)))))] func145⟩
def Qgr(N:Nat):V:=⟨⟨320,zs7,[zs7],Af N,[]⟩,kF N [] [] func320⟩
def Qkc(N:Nat):V:=⟨⟨327,Q4t,[zs1],u2 (Ef N),[]⟩,kF N [] [(6,.lp [0,1] [] Ls Qka)] func327⟩
def Fi(N:Nat):V:=⟨⟨321,Qtq,[zs7],Zb N,[]⟩,kF N [Qkc] [] func321⟩
def Qkd(N:Nat):V:=⟨⟨299,Qxj,[zs7],Du N,[]⟩,kF N [Qgr,Fi] [(4,.an (.dc 6 [3,4,5,6,7,8] [1] [] (.b 1 (.c 1 (.k 0 [] [] [] [] (.b 1 (.c 1 Jb6))))))),(28,.rg (.n 4 (.sp 35 5 [1] [1] ⟨[(40,zs4)],[]⟩ Jjz H6 .done)))] func299⟩
def Qex(N:Nat):V:=⟨⟨300,(sD [Xt,.sl .i]),[zs7],u2 (Ey N),[]⟩,kF N [Fi] [(41,.an (.dr 7 Ql3 .done)),(48,.jn [] [2] Jvl),(52,.jn [1,30] [] [(.n,⟨[(35,zs4)],[]⟩)]),(66,.jn [1,30] [] Jp9),(80,.jn [1] [] [(.n,Jom)])] func300⟩
def Dc(N n:Nat):Con:=⟨262,(sD [Xt,.i]),[Qh8],fun(x0,x1)=>V6 N n x0 x1,[]⟩
theorem Ly(N:Nat):∀n,KO (Dc N n)
 | 0=>⟨Qhu fun _=>rfl,K5 func262 rfl⟩
 | n+1=>have ih:=Ly N n; kF N [Qkd,fun _=>⟨_,ih⟩,Qex] [(26,.lp [1,2] [2] Jqa [(.x 0,⟨[(7,Qp4)],[(100100,Cc)]⟩),(.r,Jqb)])] func262
def Qmc(N:Nat):V:=⟨Dc N N,Ly N N⟩
def Qif(N:Nat):V:=⟨⟨212,Qxj,[Qh8],By N,[]⟩,kF N [Qmc] [] func212⟩
def Qaj(N:Nat):V:=⟨⟨146,Q4x,[zs7],Ws N,[]⟩,kF N [No,Qif] [(14,.lp [1] [1] P3 Qp5),(37,.lp [3,4] [4] Ls Jto),(47,.an (.dr 9 (.n 9 .done) .done))] func146⟩
def Qey(N:Nat):V:=⟨⟨97,Q4x,[zs7],Ez N,[]⟩,kF N [No,Qgm,Qgo,Qgq,Qaj] [(21,.jn [1] [1] [(.n,P3)]),(27,.jn [1] [1] [(.n,P3)]),(33,.jn [] [1] [(.n,P3)])] func97⟩
def Qgs(N:Nat):V:=⟨⟨98,(sD [Yn,Yn]),[zs7],u2 (Ag N),[]⟩,kF N [] [] func98⟩
def Qgt(N:Nat):V:=⟨⟨53,(sD [.sl Yn]),[zs7],Ah N,[]⟩,kF N [Qey,Qgs] [(14,.lp [0] [] P3 Qp5),(34,.jn [3] [] [(.n,⟨[(36,zs4)],[]⟩)]),(34,.an (.dc 12 [22,23,24,25,26,27,28,29,30,31,32,33] [] [] (.a (.a (.a (.so 24 (.a (.a (.a (.a (.a (.a (.a (.a (.a (.tl Jjy)))))))))) (.a (.a Jvk))))))))] func53⟩
def Qgu(N:Nat):V:=⟨⟨27,Jj6,[zs1],Ai N,[]⟩,kF N [P5,Qgh,Qgj,Qgt] [(14,.lp [1] [1] P3 Ql1),(24,.an (.dr 32 (.n 7 (.sp 38 7 [3] [] ⟨[(45,zs4)],[]⟩ Qp3 Qp3 (.n 1 (.sp 46 17 [3] [] Jtp (.nl 16 zs5) (.nl 3 (.sp 49 13 [3,46] [] Jtg Jot Jot zs5)) .done)))) .done)),(34,.rg (.n 3 (.sp 72 5 [1] [1] ⟨[(77,zs4)],[]⟩ Jtd H6 (.n 1 (.sp 78 5 [1] [1] ⟨[(83,zs4)],[]⟩ Jvi H6 zs5)))))] func27⟩
def Qke(N:Nat):V:=⟨⟨99,Jb7,[zs1],Dv N,[]⟩,kF N [] [(14,.lp [0] [] P3 Ql1)] func99⟩
def Qkf(N:Nat):V:=⟨⟨54,Q4y,[zs1],Dw N,[]⟩,kF N [Qke] [] func54⟩
def Qdm(N:Nat):V:=⟨⟨100,Q4z,[zs1],u2 (Hp N),[]⟩,kF N [] [] func100⟩
def Qig(N:Nat):V:=⟨⟨147,(sD [.sl Q9,Xu]),[zs7],u2 (Bz N),[]⟩,kF N [] [(6,.lp [0,3] [3] Ls Qn2)] func147⟩
def Qez(N:Nat):V:=⟨⟨101,(sD [.sl Q9,Q9]),[zs1],u2 (E0 N),[]⟩,kF N [Qig] [] func101⟩
def Qdn(N:Nat):V:=⟨⟨55,Jb7,[zs1],Hq N,[]⟩,kF N [Qdm,Qez] [(6,.lp [0] [] P3 Ql1),(16,.jn [3] [] [(.n,Jj7)]),(16,.an (.dc 19 [10,11,12,13,14,15,16,17,18,19,20,21,22,23,24,25,26,27,28] [] [] (.a (.a (.a (.a (.a (.a (.a (.a (.a (.k 0 [] [] [] [] (.a (.a (.so 21 Q40 (.a (.a (.a (.a (.a (.a (.a (.tl Jf1)))))))))))))))))))))))] func55⟩
def Qak(N:Nat):V:=⟨⟨56,Jqd,[zs1],Wt N,[]⟩,kF N [] [(6,.lp [0] [] P3 Ql1),(16,.an (.dr 12 (.n 12 .done) .done))] func56⟩
def Qih(N:Nat):V:=⟨⟨102,Qtq,[zs1],G0 N,[]⟩,kF N [] [(4,.rg (.n 9 (.sp 13 4 [0] [] zs9 Qev Qev (.n 1 (.sp 18 4 [0] [] Js9 Qev Qev .done))))),(14,.lp [0] [] P3 Ql1)] func102⟩
def Qgv(N:Nat):V:=⟨⟨103,Jb8,[zs1],Aj N,[]⟩,kF N [] [] func103⟩
def Qgw(N:Nat):V:=⟨⟨57,Q41,[zs7],Ak N,[]⟩,kF N [Qih,Qgv] [(39,.lp [1] [1] P3 [(.x 1,⟨[],[]⟩),(.r,⟨[(2,zs2)],[]⟩)])] func57⟩
def Qgx(N:Nat):V:=⟨⟨104,zs7,[zs1],Zy N,[]⟩,kF N [] [] func104⟩
def Qgy(N:Nat):V:=⟨⟨58,Jj8,[zs7],Al N,[]⟩,kF N [Qgx] [(4,.rg (.n 9 (.sp 11 5 [1] [1] ⟨[(16,zs4)],[]⟩ H6 Q9n (.n 1 (.sp 17 5 [1] [1] Js9 H6 Q9n (.n 6 (.sp 28 5 [1] [1] ⟨[(33,zs4)],[]⟩ H6 Q9n Joo)))))))] func58⟩
def Qkg(N:Nat):V:=⟨⟨28,Q4y,[zs1],Dy N,[]⟩,kF N [Qkf,Qdn,Qak,Qgw,Qgy] [(4,.rg (.n 1 (.call 0 (.n 2 (.sp 8 5 [1] [1] zs8 H6 Jjz (.n 1 (.sp 14 5 [1] [1] Jjx H6 Jtd .done))))))),(14,.lp [1] [1] P3 Ql1),(35,.lp [1] [1] Q4s [(.x 2,⟨[],[]⟩),(.r,⟨[(2,zs4)],[]⟩)])] func28⟩
def Qkh(N:Nat):V:=⟨⟨7,(sD [Ui]),[zs1],Dz N,[]⟩,kF N [Qgu,Qkg,P5] [(4,.rg (.n 2 (.call 0 (.n 2 (.sp 8 5 [1] [1] zs8 H6 Jjz Q0c))))),(14,.lp [1] [1] P3 Ql1),(24,.an (.dr 15 Joo Jtf))] func7⟩
def Qii(N:Nat):V:=⟨⟨30,(sD []),[Jj6],fun _=>Sp N,[]⟩,kF N [] [] func30⟩
def Dd(N n:Nat):Con:=⟨110,Qxj,[Qxj],fun x0=>V7 N n x0,[]⟩
theorem Lz(N:Nat):∀n,KO (Dd N n)
 | 0=>⟨Qhu fun _=>rfl,K5 func110 rfl⟩
 | n+1=>have ih:=Lz N n; kF N [fun _=>⟨_,Qah⟩,fun _=>⟨_,ih⟩] [(8,.lp [1,2,10] [1,2] ⟨[(11,zs2)],[(10600,Jb9)]⟩ [(.x 0,⟨[],[(10600,Jb9)]⟩)]),(19,.an (.dc 9 [14,15,16,17,18,19,20,21,22] [10600] [1] (.b 1 (.d 1 10600 (.a (.b 1 (.d 1 10600 (.a (.d 10600 10600 (.c 10600 Jj9))))))))))] func110
def Qmd(N:Nat):V:=⟨Dd N N,Lz N N⟩
def Qij(N:Nat):V:=⟨⟨65,Q4x,[Jqf],B1 N,[]⟩,kF N [fun _=>⟨_,Qad⟩,fun _=>⟨_,Qae⟩,fun _=>⟨_,Qaf⟩,fun _=>⟨_,Mm⟩,fun _=>⟨_,Zf⟩,fun _=>⟨_,Qag⟩,fun _=>⟨_,Vl⟩,Qmd] [(3,.an (.dc 13 [7,8,9,10,11,12,13,14,15,16,17,18,19] [1] [] (.b 1 (.c 1 (.k 0 [] [] [10900] [10900] (.b 1 (.c 1 (.k 1 [] [] [11200] [11200] (.b 1 (.c 1 (.k 2 [] [] [11500] [11500] (.b 1 (.c 1 (.k 3 [] [] [11800] [11800] (.b 1 (.tl Ql3)))))))))))))))),(8,.lp [1,2,25] [1,2,11200,11500,11800] ⟨[(26,zs2)],[(10900,Qga)]⟩ [(.x 0,⟨[],[(10900,Qga)]⟩)]),(19,.an (.dc 10 [29,30,31,32,33,34,35,36,37,38] [10900] [1] (.b 1 (.d 1 10900 (.a (.b 1 (.d 1 10900 (.a (.d 10900 10900 (.b 10900 (.c 10900 (.k 4 [] [] [13800] [13800] (.tl (.n 2 (.fz 13800 zs5))))))))))))))),(25,.lp [1,2,44] [1,2,10900,11500,11800] ⟨[(45,zs2)],[(11200,Ql4)]⟩ [(.x 2,⟨[],[(11200,Ql4)]⟩)]),(36,.an (.dc 10 [48,49,50,51,52,53,54,55,56,57] [11200] [1] (.b 1 (.d 1 11200 (.a (.b 1 (.d 1 11200 (.a (.d 11200 11200 (.b 11200 (.c 11200 (.k 5 [] [] [15700] [15700] (.tl (.n 2 (.fz 15700 zs5))))))))))))))),(42,.lp [1,2,63] [1,2,10900,11200,11800] ⟨[(64,zs2)],[(11500,Qtu)]⟩ [(.x 4,⟨[],[(11500,Qtu)]⟩)]),(53,.an (.dc 10 [67,68,69,70,71,72,73,74,75,76] [11500] [1] (.b 1 (.d 1 11500 (.a (.b 1 (.d 1 11500 (.a (.d 11500 11500 (.b 11500 (.c 11500 (.k 6 [] [] [17600] [17600] (.tl (.n 2 (.fz 17600 zs5))))))))))))))),(59,.lp [1,2,82] [1,2,10900,11200,11500] ⟨[(83,zs2)],[(11800,Q42)]⟩ [(.x 6,⟨[],[(11800,Q42)]⟩)]),(70,.an (.dc 10 [86,87,88,89,90,91,92,93,94,95] [11800] [1] (.b 1 (.d 1 11800 (.a (.b 1 (.d 1 11800 (.a (.d 11800 11800 (.b 11800 (.c 11800 (.k 7 [] [] [] [] Ql2))))))))))))] func65⟩
def Qme(N:Nat):V:=⟨⟨32,Jj6,[⟨[(0,.ag (sL [R4,Qh6,Q4v,.s 4,.s 5,.s 6]))],[(1,Jka),(2,Q43),(3,Ql5),(4,Jkb),(5,Cc),(6,Q44)]⟩],Md N,[]⟩,kF N [fun _=>⟨_,Rt⟩,fun _=>⟨_,Qb1⟩,fun _=>⟨_,Qh3⟩,fun _=>⟨_,P0⟩,fun _=>⟨_,Nz⟩,fun _=>⟨_,Lq⟩,Qij,fun _=>⟨_,P1⟩,fun _=>⟨_,Zf⟩,fun _=>⟨_,Vl⟩] [(3,.an (.dc 10 [8,9,10,11,12,13,14,15,16,17] [1] [] (.b 1 (.c 1 (.k 0 [] [] [11000] [11000] (.b 1 (.c 1 (.k 1 [] [] [11300] [11300] (.b 1 (.c 1 (.k 2 [] [] [11600] [11600] Jqg))))))))))),(5,.an (.dc 10 [20,21,22,23,24,25,26,27,28,29] [1] [] (.b 1 (.c 1 (.k 3 [] [] [12200] [12200] (.b 1 (.c 1 (.k 4 [] [] [12500] [12500] (.b 1 (.c 1 (.k 5 [] [] [12800] [12800] Jqg))))))))))),(10,.lp [1,2,34] [1,2,11000,11300,11600,12500,12800] ⟨[(35,zs2)],[(12200,Q43)]⟩ [(.x 0,⟨[],[(12200,Q43)]⟩)]),(21,.an (.dc 9 [38,39,40,41,42,43,44,45,46] [12200] [1] (.b 1 (.d 1 12200 (.a (.b 1 (.d 1 12200 (.a (.d 12200 12200 (.c 12200 (.k 6 [] [] [14604,14603,14602,14601] [14601,14602,14603,14604] (.tl (.n 1 (.fz 14601 (.fz 14602 (.fz 14603 (.fz 14604 zs5))))))))))))))))),(27,.lp [1,2,51] [1,2,11000,11300,11600,12200,12800] ⟨[(52,zs2)],[(12500,Ql5)]⟩ [(.x 2,⟨[],[(12500,Ql5)]⟩)]),(44,.lp [4,52,63] [12500] ⟨[(5,Qxk),(64,zs2)],[(100300,Qxl)]⟩ [(.x 4,⟨[(5,Q45)],[(100400,Qxl)]⟩)]),(55,.rg (.n 7 (.call 8 (.n 2 (.fz 17400 zs5))))),(57,.rg (.n 6 (.fz 100400 zs5))),(63,.lp [1,2,87] [1,2,11000,11300,11600,12200,12500] ⟨[(88,zs2)],[(12800,Q44)]⟩ [(.x 6,⟨[],[(12800,Q44)]⟩)]),(74,.an (.dc 10 [91,92,93,94,95,96,97,98,99,100] [12800] [1] (.b 1 (.d 1 12800 (.a (.b 1 (.d 1 12800 (.a (.d 12800 12800 (.b 12800 (.c 12800 (.k 9 [] [] [20000] [20000] (.tl (.n 2 (.fz 20000 zs5)))))))))))))))] func32⟩
def P7(N:Nat):V:=⟨⟨33,Q4y,[Qxm],Eg N,[]⟩,kF N [fun _=>⟨_,H3⟩,fun _=>⟨_,H4⟩,fun _=>⟨_,Ha⟩,fun _=>⟨_,Zf⟩] [(3,.an (.dc 11 [5,6,7,8,9,10,11,12,13,14,3] [1] [] (.b 1 (.c 1 (.k 0 [] [] [10700] [10700] (.b 1 (.c 1 (.k 1 [] [] [11000] [11000] (.b 1 (.c 1 (.k 2 [] [] [11300] [11300] (.g [] [] [] [10700,11000,11300] (.e 3 E5))))))))))))),(8,.lp [2,3,17] [1,2,3,11000,11300] ⟨[(18,zs2)],[(10700,Uo)]⟩ [(.x 0,⟨[],[(10700,Uo)]⟩)]),(19,.an (.dc 10 [21,22,23,24,25,26,27,28,29,30] [10700] [3] (.b 3 (.d 3 10700 (.a (.b 3 (.d 3 10700 (.a (.d 10700 10700 (.b 10700 (.c 10700 (.k 3 [] [] [13000] [13000] (.tl (.n 2 (.fz 13000 zs5)))))))))))))))] func33⟩
def Qdo(N:Nat):V:=⟨⟨9,(sD [Ks,Yi]),[Jqh],u2 (D1 N),[]⟩,kF N [Qme,P7] [(3,.an (.dc 5 [5,6,7,8,9] [2,3] [] (.c 2 (.k 0 [] [] [10606,10605,10604,10603,10602,10601] [10601,10602,10603,10604,10605,10606] (.c 3 (.k 1 [] [] [10803,10802,10801] [10801,10802,10803] (.e 9 Ql2)))))))] func9⟩
def Qgz(N:Nat):V:=⟨⟨34,⟨Bb,Jkd⟩,[zs1],u10 (Pf N),[5000,5001,5002,5003,5004,5005,5006,5007,5008,5009,5010]⟩,kF N [] [(3,.rg (.n 3 (.nl 5 Q0b)))] func34⟩
def El(N:Nat):V:=⟨⟨37,(sD [Yz,.i]),[(sD [So])],u2 (Yb N),[]⟩,kF N [] [] func37⟩
def Nq(N:Nat):V:=⟨⟨115,Q4y,[Qxm],G1 N,[]⟩,kF N [fun _=>⟨_,H3⟩,fun _=>⟨_,H4⟩,fun _=>⟨_,Ha⟩,fun _=>⟨_,Zf⟩] [(3,.an (.dc 11 [5,6,7,8,9,10,11,12,13,14,3] [1] [] (.b 1 (.c 1 (.k 0 [] [] [10700] [10700] (.b 1 (.c 1 (.k 1 [] [] [11000] [11000] (.b 1 (.c 1 (.k 2 [] [] [11300] [11300] (.g [] [] [] [10700,11000,11300] (.e 3 E5))))))))))))),(8,.lp [2,3,17] [1,2,3,11000,11300] ⟨[(18,zs2)],[(10700,Uo)]⟩ [(.x 0,⟨[],[(10700,Uo)]⟩)]),(19,.an (.dc 10 [21,22,23,24,25,26,27,28,29,30] [10700] [3] (.b 3 (.d 3 10700 (.a (.b 3 (.d 3 10700 (.a (.d 10700 10700 (.b 10700 (.c 10700 (.k 3 [] [] [13000] [13000] (.tl (.n 2 (.fz 13000 zs5)))))))))))))))] func115⟩
def Df(N:Nat):V:=⟨⟨114,Jqi,[Jqk],Xk N,[]⟩,kF N [fun _=>⟨_,Fg⟩,fun _=>⟨_,Vl⟩] [] func114⟩
def Cf(N:Nat):V:=⟨⟨78,(sD [Yi,Yh,Yz,.i]),[⟨[(0,.ag (sL [R4,Qh6,Q4v])),(1,.ag (sL [zs2,zs2,zs2,zs2,.ag (sL [zs2,zs2,zs2,Ue,Ue,zs2,.ag (sL [zs2,Ue,Ue,zs2,.s 4]),zs2,zs2]),zs2,.s 5,zs2,zs2,zs4,Z9])),(2,Z9)],[(1,Uo),(2,Ys),(3,Cd),(4,Qtw),(5,Zk)]⟩],u4 (U1 N),[]⟩,kF N [Nq,Df] [(3,.an (.dc 12 [11,12,13,14,15,16,17,18,19,20,1000000010,1000000011] [4,5,6,8,9] [] (.c 4 (.k 0 [] [] [11203,11202,11201] [11201,11202,11203] (.c 5 (.k 1 [] [] [11402,11401] [11401,11402] (.b 6 (.c 6 (.b 6 (.c 6 (.a (.a (.g [8] [11201,11202,11203] [] [8,11201,11202,11203] (.g [9] [11401,11402] [] [9,11401,11402] E5))))))))))))))] func78⟩
def Qtz(N:Nat):V:=⟨⟨227,Jtq,[zs1],Qc5 N,[]⟩,kF N [] [] func227⟩
def P8(N:Nat):V:=⟨⟨162,Qtq,[zs1],Eh N,[]⟩,kF N [Qtz] [(6,.lp [0,5] [] Jj4 Ql1)] func162⟩
def Qn3(N:Nat):V:=⟨⟨316,Q4t,[Q9i],u2 (Pg N),[]⟩,kF N [] [(6,.lp [0,1] [] Ls [(.x 0,Ls)]),(9,.rg (.n 5 (.sp 11 7 [5] [] Q9j Qp3 Qp3 .done)))] func316⟩
def Qik(N:Nat):V:=⟨⟨317,Q4t,[Q9i],u2 (B2 N),[]⟩,kF N [] [(8,.lp [1,8,9] [] ⟨Jkf,[(100000,Q4u)]⟩ Jth),(16,.jn [10] [] Jti)] func317⟩
def Qn4(N:Nat):V:=⟨⟨294,Jvm,[(sD [V4])],u2 (Ph N),[]⟩,kF N [Qn3,Qik] [(3,.jn [] [3] [(.n,⟨[(2,Ql6),(4,Jkg)],[(100300,Jtj),(100301,Jcc)]⟩),(.r,⟨[(4,Qts)],[(100200,Jcc)]⟩)]),(31,.jn [2,3,4,6] [2,4] Jp9),(39,.jn [2,3,4] [2,4] [(.n,Jom)])] func294⟩
def Qil(N:Nat):V:=⟨⟨248,Qxo,[⟨Qf9,[(1,Qph)]⟩],u2 (B3 N),[]⟩,kF N [Qn4] [(10,.lp [1,10,11] [] ⟨[(5,Qh4),(6,Q46),(12,zs2)],[(100000,Qph),(100001,Jki)]⟩ [(.x 0,⟨[(5,Qxk)],[(100300,Qph)]⟩)]),(18,.jn [12] [] [(.n,⟨[(5,Qtr),(6,Jkj)],[(100200,Qph),(100201,Jki)]⟩)]),(32,.an (.dr 13 (.n 3 (.sp 31 10 [5,6,8,9,12] [8,100000,100001] Jos Jcd Jcd .done)) .done))] func248⟩
def Qmf(N:Nat):V:=⟨⟨250,(sD [V4,V4]),[zs1],u2 (Me N),[]⟩,kF N [] [(14,.lp [3,43,44] [2,3] ⟨[(45,zs2)],[]⟩ Qka)] func250⟩
def Qg0(N:Nat):V:=⟨⟨249,Jql,[zs1],u2 (Am N),[]⟩,kF N [Qmf] [] func249⟩
def Qg1(N:Nat):V:=⟨⟨251,Jql,[(sD [V5])],u2 (Ao N),[]⟩,kF N [] [] func251⟩
def Fj(N:Nat):V:=⟨⟨247,⟨[(0,.d (.sl V5)),(1,.f 249 .nil),(2,.f 251 .nil)],[]⟩,[⟨Qf9,[(1,Qph)]⟩],Vy N,[]⟩,kF N [Qg0,Qg1] [(8,.lp [1,2,11,12] [] ⟨Jqm,[(100000,Qph)]⟩ [(.x 0,⟨[(7,Qtr)],[(100200,Qph)]⟩)]),(16,.jn [13] [] [(.n,⟨[(7,Qp4)],[(100100,Qph)]⟩)]),(22,.an (.dc 10 [19,20,21,22,23,24,25,26,27,28] [100000,9] [] (.a (.a (.a (.so 21 (.a (.b 100000 (.a (.a (.d 100000 100000 (.c 100000 (.c 9 (.tl Q9m)))))))) Q40)))))),(24,.an (.dc 11 [31,32,33,34,35,36,37,38,39,40,41] [100000,9] [] (.b 100000 (.a (.a (.a (.b 100000 (.a (.a (.d 100000 100000 (.c 100000 (.c 9 Jj9))))))))))))] func247⟩
def P9(N:Nat):V:=⟨⟨181,Qxo,[⟨Qf9,[(1,Jce)]⟩],u2 (Ei N),[]⟩,kF N [Qil,Fj] [(10,.lp [5,14,15] [11201,11301] ⟨Jqn,[(100000,Jce)]⟩ [(.x 0,⟨[(6,Qxk)],[(100300,Jce)]⟩)]),(18,.jn [16] [] [(.n,⟨[(6,Qtr)],[(100200,Jce)]⟩)]),(30,.jn [6,8,16] [8,100000] [(.n,⟨[(9,Qh7)],[(100100,.var 127 Qpi)]⟩)]),(35,.an (.dc 17 [40,41,42,43,44,45,46,47,48,49,50,51,52,53,54,55,56] [100100,8] [] (.b 100000 (.c 100100 (.b 8 (.b 8 (.c 8 (.b 8 (.b 8 (.c 8 (.e 48 (.b 8 (.b 8 (.c 8 (.b 8 (.b 8 (.c 8 (.b 48 (.op ⟨.fz 48 (.nl 1 .done),[48],[],[],[48]⟩ Q4w)))))))))))))))))))] func181⟩
def Em(N:Nat):V:=⟨⟨252,Jb8,[zs1],Zz N,[]⟩,kF N [] [] func252⟩
def Ns(N:Nat):V:=⟨⟨182,(sD [J9,.i]),[zs1],u2 (G2 N),[]⟩,kF N [Em] [] func182⟩
def Cg(N:Nat):V:=⟨⟨123,Jcf,[(sD [Ds,.bool])],u3 (Ej N),[]⟩,kF N [P9,Ns] [(6,.lp [2,12,13] [11201] ⟨[(6,Qh5),(14,zs2)],[(100000,Jqo)]⟩ [(.x 0,⟨[(6,Qh7)],[(100100,Jqo)]⟩),(.r,⟨Jkk,[(100200,.var 235 (.d Ds))]⟩)])] func123⟩
def Qn5(N:Nat):V:=⟨⟨256,(sD []),[⟨Jkc,[(1,.var 414 (.ag (sL [.m 2,.m 3,.m 4,.m 5,.m 6,.ns,.ns]))),(2,Q47),(3,.map .i V4),(4,Qpj),(5,.map .str .i),(6,Ql7)]⟩],fun _=>Pj N,[]⟩,kF N [] [] func256⟩
def Qp7(N:Nat):V:=⟨⟨257,Qxo,[⟨[(0,.f 296 (sL [.p 1 [],.p 2 []]))],[(1,.var 22 Jkl),(2,P4)]⟩],u2 (Tw N),[]⟩,kF N [] [] func257⟩
def Qki:AnY:=(.two (.reg (.n 3 .done)) (.un (.lp [2,6,7] [] ⟨[(8,.d .i)],[]⟩ [(.x 0,⟨[],[]⟩),(.r,⟨[],[]⟩)] (.two (.reg (.n 1 .done)) (.two (.two .nil .nil) (.two (.un (.two (.reg (.n 4 .done)) (.two (.yr (.h 5 (.n 5 .done) (.so 16 (.mv (.h 1 (.nl 1 .done) (.yl (.h 2 (.nl 1 (.n 1 .done)) .done)))) (.h 5 (.nl 4 (.n 1 .done)) .done)))) (.two .nil .nil)))) (.reg (.n 2 .done))))))))
def Ra(N:Nat):It:=⟨296,[(.sl Jr),(.int .i64)],Jr,fun(x1,x2)=>Mf N x1 x2⟩
theorem Qim(N:Nat):IO (Ra N):=⟨Joi (Y:=tx) (N:=N) (it:=Ra N) (an:=Qki) H2 H1 (Jb4 N []) func296 rfl (fun x=>by kernel_rfl),K5 func296 rfl⟩
def Qg2(N:Nat):V:=⟨⟨297,Jcg,[⟨Qf9,[(1,Cc)]⟩],u2 (Wu N),[]⟩,kF N [] [(6,.lp [0,1] [] Ls [(.x 0,Ls)]),(9,.rg (.n 5 (.sp 11 7 [5] [] Q9j Qp3 Qp3 .done)))] func297⟩
def Qb4(N:Nat):V:=⟨⟨318,Q4t,[Q9i],u2 (Kc N),[]⟩,kF N [] [(6,.lp [0,1] [] Ls [(.x 0,Ls)]),(9,.rg (.n 5 (.sp 11 7 [5] [] Q9j Qp3 Qp3 .done)))] func318⟩
def Qmg(N:Nat):V:=⟨⟨319,Q4t,[Q9i],u2 (Fr N),[]⟩,kF N [] [(8,.lp [1,8,9] [] ⟨Jkf,[(100000,Q4u)]⟩ Jth),(16,.jn [10] [] Jti)] func319⟩
def Qal(N:Nat):V:=⟨⟨298,⟨[(0,Zj),(1,Jkh),(2,.d Jr)],Jkm⟩,[⟨[(0,Jkh)],Jkn⟩],u9 (Wv N),[5000,5001,5002,5003,5005,5006,5007]⟩,kF N [Qb4,Qmg] [(3,.jn [6] [5,6] [(.n,⟨[(4,Q46)],[(5004,.map .str .i),(100001,Jtj)]⟩)]),(10,.an (.dr 8 Qek zs5)),(16,.an (.dr 6 Q0c zs5))] func298⟩
def R5(N:Nat):V:=⟨⟨258,⟨[(0,Zj),(1,.d Jr)],Jkm⟩,[⟨[],[(5000,.var 414 (.ag (sL [Qb3,Ta,Jch,Jci,Jcj,R4,Qh6]))),(5001,Q47),(5002,.map .i V4),(5003,Qpj),(5004,.map .str .i),(5005,Ql7),(1,Cc),(2,Cc)]⟩],u8 (Xw N),[]⟩,kF N [Qg2,Qal] [(9,.jn [3] [3] [(.n,⟨Bb,[(5000,.var 414 (.ag (sL [Qb3,Ta,Jch,Jci,Jcj,.s 100006,.s 100007]))),(5001,Q47),(5002,.map .i V4),(5003,Qpj),(5004,.map .str .i),(5005,Ql7),(100006,Cc),(100007,Cc)]⟩)]),(10,.an (.dc 12 [38,39,40,41,42,43,44,37,45,46,4,1000000011] [5000,5001] [3] (.b 5000 (.d 5000 5000 (.b 5000 (.d 5000 5001 (.b 3 (.c 3 (.c 5001 (.a (.a (.a (.e 4 (.f 4 4 E5)))))))))))))),(14,.gh (.fz 5006 Lt)),(14,.an (.dc 8 [49,50,51,52,53,54,55,56] [5000] [3] (.b 5000 (.b 5000 (.d 5000 5000 (.b 5000 (.c 5000 (.b 3 (.c 3 (.k 0 [] [] [15601] [15601] Ql2)))))))))),(16,.an (.dr 16 (.n 16 .done) zs5)),(21,.an (.dc 8 [77,78,79,80,81,82,83,6] [5000,3,5001] [] (.b 5000 (.d 5000 5000 (.b 5000 (.d 5000 5001 (.b 3 (.c 3 (.c 5001 (.e 6 E5)))))))))),(24,.an (.dr 7 Ql3 zs5)),(29,.jn [3] [3] [(.n,⟨Bb,[(5000,.var 414 (.ag (sL [Qb3,Ta,Jch,Jci,Jcj,.s 100106,.s 100107]))),(5001,Q47),(5002,.map .i V4),(5003,Qpj),(5004,.map .str .i),(5005,Ql7),(100106,Cc),(100107,Cc)]⟩)]),(30,.an (.dr 8 Qek .done)),(32,.gh (.fz 5007 Lt)),(32,.an (.dc 8 [102,103,104,105,106,107,108,109] [5000] [3] (.b 5000 (.b 5000 (.d 5000 5000 (.b 5000 (.c 5000 (.b 3 (.c 3 (.k 0 [] [] [20901] [20901] Ql2)))))))))),(35,.an (.dr 6 Q0c zs5)),(37,.an (.dr 8 Qek zs5)),(38,.an (.dr 15 Joo zs5)),(43,.an (.dc 8 [143,144,145,146,147,148,149,7] [5000,3,5002] [] (.b 5000 (.d 5000 5000 (.b 5000 (.d 5000 5002 (.b 3 (.c 3 (.c 5002 (.e 7 E5)))))))))),(48,.lp [0,3,7,151,152] [3,7,5000,5001,5002,5003,5005,5006,5007] ⟨[(153,zs2)],Jkn⟩ [(.x 1,⟨[],Jkn⟩)]),(62,.an (.dr 8 Qek zs5)),(63,.an (.dr 6 Q0c zs5)),(65,.jn [0,3] [3,5000,5001,5002,5003,5004,5005,5006,5007] [(.n,⟨[(177,zs4)],[]⟩)]),(73,.an (.dc 12 [15,16,17,18,19,20,21,14,22,23,10,1000000011] [5000,3,5002] [] (.b 5000 (.d 5000 5000 (.b 5000 (.d 5000 5002 (.b 3 (.c 3 (.c 5002 (.a (.a (.a (.e 10 (.f 10 10 E5)))))))))))))),(77,.an (.dc 10 [25,26,27,28,29,30,31,32,33,34] [5000,3,10,5004,5001,5002,5003,5005,5006,5007] [] (.b 5000 (.d 5000 5000 (.b 5000 (.d 5000 5002 (.b 3 (.c 3 (.b 5000 (.c 10 (.c 3 (.k 1 [5004] [5000,5001,5002,5003,5005,5006,5007] [] [5004] E5))))))))))))] func258⟩
def Rb(N:Nat):V:=⟨⟨259,⟨Bb,Jkm⟩,[Jqp],u7 (Xa N),[5000,5001,5002,5003,5004,5005,5006,5007]⟩,kF N [] [(5,.rg (.br zs5)),(10,.lp [0,2,16,17] [2] ⟨[(3,Qh5),(4,Jck),(18,zs2)],[(100000,.var 323 (.ag (sL [.ns,Jf0]))),(100001,Jko),(100002,Qvk)]⟩ [(.x 0,⟨[(3,Qts),(4,Jkp)],[(100200,.var 323 (.ag (sL [.ns,Jj2]))),(100201,Jko),(100202,Qvk)]⟩)]),(18,.jn [18] [] [(.n,⟨[(3,Qh7),(4,.m 100101)],[(100100,.var 323 (.ag (sL [.ns,Jj1]))),(100101,Jko),(100102,Qvk)]⟩)]),(30,.gh (.op (.v 7 [.f 1 1]) 100001 700000 .done)),(30,.an (.dc 10 [33,34,35,36,37,38,39,40,41,42] [7,100001,700000] [] (.b 100001 (.b 7 (.c 7 (.b 100001 (.b 7 (.c 7 (.op ⟨.br .done,[],[100001,700000],[],[700000]⟩ (.a (.a (.g [700000] [] [42] [42] (.tl (.br .done)))))))))))))),(37,.gh (.fm 100201 .done)),(37,.lp [0,2,4,53,54] [2,100201] ⟨[(3,Ql6),(55,zs2)],[(100300,.var 323 (.ag (sL [Qxp,Q48]))),(100301,Q9k),(100302,Qvk)]⟩ [(.x 2,⟨[(3,Jcl)],[(100400,.var 323 (.ag (sL [Q49,Jcm]))),(100401,Q9k),(100402,Qvk)]⟩)])] func259⟩
def Qmh:AnR:=(.pre (.reg (.n 1 .done)) (.pre (.reg (.call 0 (.n 2 .done))) (.inn (.pre (.reg (.n 2 (.call 1 .done))) (.un (.rf 0 [4,5] [4,5] ⟨[],[(10701,.var 414 (.ag (sL [.m 100001,.m 100002,.m 100003,.m 100004,.m 100005,.s 100006,.s 100007]))),(100001,.map .i Za),(100002,.map .i V4),(100003,.map .i .bool),(100004,.map .str .i),(100005,.map .i .i),(100006,.row 3 .i),(100007,.row 3 .i)]⟩ (.reg (.n 2 .done)) (.un (.reg (.n 2 (.call 2 .done))))))) (.two (.reg (.n 1 (.call 3 (.n 1 .done)))) .nil))))
def Qb5(N:Nat):V:=⟨⟨187,Qxo,[Jqp],u2 (B4 N),[]⟩,kR N [Qn5,Qp7,R5,Rb] [⟨_,Qim N⟩] Qmh func187 rfl fun x=>by kernel_rfl⟩
def Qt0(N:Nat):V:=⟨⟨163,Jcf,[(sD [V4,.bool])],u3 (Qc6 N),[]⟩,kF N [Qb5] [(6,.lp [1,13,14] [11201,11202] ⟨Jqq,[(100000,Jcc)]⟩ [(.x 0,⟨[(6,Qh7)],[(100100,Jcc)]⟩),(.r,⟨Jkk,[(100200,Jki)]⟩)])] func163⟩
def Qdp(N:Nat):V:=⟨⟨270,(sD [.sl .str]),[Q9i],Hs N,[]⟩,kF N [] [] func270⟩
def Qam(N:Nat):V:=⟨⟨271,Jqr,[⟨Qf9,[(1,.row 221 Zm)]⟩],Ww N,[]⟩,kF N [] [] func271⟩
def Qan(N:Nat):V:=⟨⟨272,Jj5,[⟨Qf9,Jcn⟩],Wx N,[]⟩,kF N [] [] func272⟩
def Tb(N n:Nat):Con:=⟨273,Qxj,[Qxj],fun x0=>Xb N n x0,[]⟩
theorem Qb6(N:Nat):∀n,KO (Tb N n)
 | 0=>⟨Qhu fun _=>rfl,K5 func273 rfl⟩
 | n+1=>have ih:=Qb6 N n; kF N [fun _=>⟨_,ih⟩] [(8,.lp [1,2,7,8] [1,2] ⟨[(3,Qh4),(9,zs2)],[(100000,Jb9)]⟩ [(.x 0,⟨Q5a,[(100100,Jb9)]⟩)])] func273
def Qvm(N:Nat):V:=⟨Tb N N,Qb6 N N⟩
def Qt1(N:Nat):V:=⟨⟨228,Q4x,[Jqf],Qc7 N,[]⟩,kF N [Qdp,Qam,Qan,Qvm] [(10,.lp [1,2,18,19] [1,2] ⟨[(3,Qh5),(20,zs2)],[(100000,.var 146 (.ag (sL [Ue,zs2,zs4,Qtt,.ns,.ns,.ns]))),(100001,Qga)]⟩ [(.x 0,⟨[(3,Qh7)],[(100100,.var 146 (.ag (sL [Ue,zs2,zs4,Qpk,.ns,.ns,.ns]))),(100101,Qga)]⟩)]),(21,.an (.dc 9 [24,25,26,27,28,29,30,31,32] [100000,5] [] (.b 100000 (.d 100000 100001 (.b 5 (.c 5 (.b 5 (.c 5 (.k 0 [] [] [13001] [13001] (.b 13001 (.op ⟨.fz 13001 (.nl 1 .done),[13001],[],[],[13001]⟩ Ql2))))))))))),(27,.lp [1,2,37,38] [1,2] ⟨[(3,Qts),(39,zs2)],[(100200,.var 146 (.ag (sL [Ue,zs2,zs4,Q9l,Jj2,.ns,.ns]))),(100201,Qga),(100202,Ql4)]⟩ [(.x 2,⟨[(3,Ql6)],[(100300,.var 146 (.ag (sL [Ue,zs2,zs4,Qxp,Q48,.ns,.ns]))),(100301,Qga),(100302,Ql4)]⟩)]),(38,.an (.dc 9 [43,44,45,46,47,48,49,50,51] [100200,7] [] (.b 100200 (.d 100200 100202 (.b 7 (.c 7 (.b 7 (.c 7 (.k 1 [] [] [14901] [14901] (.b 14901 (.op ⟨.fz 14901 (.nl 1 .done),[14901],[],[],[14901]⟩ Ql2))))))))))),(44,.lp [1,2,56,57] [1,2] ⟨[(3,Jcl),(58,zs2)],[(100400,.var 146 (.ag (sL [Ue,zs2,zs4,Q49,Jcm,.s 100403,.ns]))),(100401,Qga),(100402,Ql4),(100403,Qtu)]⟩ [(.x 4,⟨[(3,Jkq)],[(100500,.var 146 (.ag (sL [Ue,zs2,zs4,Jkr,Jks,.s 100503,.ns]))),(100501,Qga),(100502,Ql4),(100503,Qtu)]⟩)]),(57,.rg (.n 3 (.fz 16401 Q5b))),(63,.lp [2,74,75] [1,2] ⟨[(3,Jkt),(76,zs2)],[(100600,.var 146 (.ag (sL [Ue,zs2,zs4,.s 100601,.s 100602,.s 100603,.s 100604]))),(100601,Qga),(100602,Ql4),(100603,Qtu),(100604,Q42)]⟩ [(.x 6,⟨[(3,.p 100700 [])],[(100700,.var 146 (.ag (sL [Ue,zs2,zs4,.s 100701,.s 100702,.s 100703,.s 100704]))),(100701,Qga),(100702,Ql4),(100703,Qtu),(100704,Q42)]⟩)])] func228⟩
def Q5k(N:Nat):V:=⟨⟨164,(sD [.sl Yn,.str,.i]),[⟨[(0,.ag (sL [Ue,zs2,zs4,R4,Qh6,Q4v,.s 4])),(1,zs4)],Jqe⟩],u3 (Qn0 N),[]⟩,kF N [Qt1] [(8,.lp [0,1,2,6,11,12] [6] ⟨[(8,zs2),(13,zs2)],[]⟩ Jku),(16,.jn [13] [] [(.n,Qp6)])] func164⟩
def Q0d(N:Nat):V:=⟨⟨274,Qtq,[zs1],Qj4 N,[]⟩,kF N [] [(6,.lp [0,6] [] Q9o Ql1)] func274⟩
def Qp8(N:Nat):V:=⟨⟨276,⟨[(0,.d Uc),(1,Zj)],Jqs⟩,[zs1],u2 (Tx N),[5000]⟩,kF N [] [] func276⟩
def N3(N:Nat):V:=⟨⟨304,Jqt,[zs7],u2 (Km N),[5000]⟩,kF N [Qp8] [(6,.lp [0,1,7] [] Qp6 Qn2),(18,.rg (.n 5 (.call 0 .done)))] func304⟩
def Ib(N:Nat):V:=⟨⟨275,Jqt,[zs1],u2 (U2 N),[5000]⟩,kF N [N3] [] func275⟩
def Qvn(N:Nat):V:=⟨⟨229,Jp6,[⟨[(0,.m 1),(1,zs2)],[(1,Qxq)]⟩,⟨[(0,.nm),(1,zs2)],[]⟩],Qfz N,[]⟩,kF N [Q0d,Ib,P8] [(16,.lp [0,15,16] [] ⟨[(4,Jkw),(17,zs2)],[(100000,Qxq)]⟩ [(.x 0,⟨[(4,.m 100400)],[(100400,Qxq)]⟩),(.r,⟨[(2,.nm),(3,zs2)],[]⟩)]),(57,.lp [6,17,44,45] [6] ⟨[(4,Jkx),(46,zs2)],[(100100,Qxq)]⟩ [(.x 3,⟨[(4,.m 100200)],[(100200,Qxq)]⟩),(.r,⟨[(2,.nm),(3,zs2)],[]⟩)])] func229⟩
def Qp9(N:Nat):V:=⟨⟨230,⟨[(0,.m 5000),(1,Ue),(2,zs2)],[(5000,Qxq)]⟩,[(sD [.str,.bool])],u3 (Tz N),[5000]⟩,kF N [] [(4,.lp [0,1] [] ⟨[(2,zs2)],[]⟩ [(.x 0,⟨[],[]⟩),(.r,⟨[(6,Ue),(7,zs4)],[]⟩)])] func230⟩
def Q0e(N:Nat):V:=⟨⟨165,(sD [.sl Uc,.str]),[(sD [.str,.bool])],u2 (Qj5 N),[]⟩,kF N [Qvn,P8,Qp9] [(4,.an (.cn 6 (.two (.two (.reg (.n 3 (.sp 15 4 [1,6] [] Jjx Qev (.nl 1 Jjy) .done))) (.two Jqu (.gh (.tl .done) .nil))) .nil) (.two (.two (.reg (.n 3 (.sp 15 4 [1,6] [11001] Jjx Qev (.nl 1 Jjy) .done))) (.two Jqu .nil)) (.two (.reg (.n 4 (.call 2 Q5b))) .nil))))] func165⟩
def Q0f(N:Nat):V:=⟨⟨277,Qtq,[zs1],Qj6 N,[]⟩,kF N [] [(6,.lp [0,6] [] Q9o Ql1)] func277⟩
def Qqa(N:Nat):V:=⟨⟨279,⟨[(0,.d Uh),(1,Zj)],Jqv⟩,[zs1],u2 (T0 N),[5000]⟩,kF N [] [] func279⟩
def N4(N:Nat):V:=⟨⟨305,Jqw,[zs7],u2 (Kn N),[5000]⟩,kF N [Qqa] [(6,.lp [0,1,7] [] Qp6 Qn2),(18,.rg (.n 5 (.call 0 .done)))] func305⟩
def Ic(N:Nat):V:=⟨⟨278,Jqw,[zs1],u2 (U3 N),[5000]⟩,kF N [N4] [] func278⟩
def Qvo(N:Nat):V:=⟨⟨280,Jqr,[zs7],Qf1 N,[]⟩,kF N [] [(22,.lp [11,12] [] Jky Qp5)] func280⟩
def Qvp(N:Nat):V:=⟨⟨232,Jp7,[zs7],Qf3 N,[]⟩,kF N [Q0f,Ic,Qvo] [(22,.lp [0,12,13] [] ⟨[(14,zs2)],[]⟩ Qp5),(30,.jn [14] [] [(.n,⟨[],[]⟩),(.r,⟨[(2,zs2)],[]⟩)])] func232⟩
def Qkj(N:Nat):V:=⟨⟨307,Jcg,[zs7],u2 (D2 N),[]⟩,kF N [] [(6,.lp [0,1,7] [] Qp6 Qn2)] func307⟩
def Qe0(N:Nat):V:=⟨⟨283,Jcg,[zs1],u2 (E1 N),[]⟩,kF N [Qkj] [] func283⟩
def Qkk(N:Nat):V:=⟨⟨284,zs7,[zs7],D3 N,[]⟩,kF N [] [] func284⟩
def Q5l(N:Nat):V:=⟨⟨234,Jcg,[zs7],u2 (Qn1 N),[]⟩,kF N [Qe0,Qkk] [] func234⟩
def Qt2(N:Nat):V:=⟨⟨281,⟨[(0,.d Zm),(1,Zj),(2,Qgb)],Jqx⟩,[zs1],u3 (Qc8 N),[5000,5001]⟩,kF N [] [] func281⟩
def N5(N:Nat):V:=⟨⟨306,Jqy,[zs7],u3 (Ko N),[5000,5001]⟩,kF N [Qt2] [(6,.lp [0,1,7] [] Qp6 Qn2),(18,.rg (.n 5 (.call 0 .done)))] func306⟩
def Id(N:Nat):V:=⟨⟨282,Jqy,[zs1],u3 (U4 N),[5000,5001]⟩,kF N [N5] [] func282⟩
def Q0g(N:Nat):V:=⟨⟨233,(sD [.sl Uh,.i,.i]),[Qtq],u3 (Qj7 N),[]⟩,kF N [Id] [(8,.lp [0,7,11,12] [4,5] Jky [(.x 0,⟨[],[]⟩),(.r,⟨[(6,Ue)],[]⟩)])] func233⟩
def Q9p(N:Nat):V:=⟨⟨167,(sD [.sl Uh,.sl .i,.i]),[Qtq],u3 (Qtp N),[]⟩,kF N [Qvp,Q5l,Q0g] [] func167⟩
def Qn6(N:Nat):V:=⟨⟨231,⟨[(0,.d Xs),(1,Zj),(2,Qgb),(3,.p 5002 [])],[(5000,P4),(5001,Q5c),(5002,Q5c)]⟩,[zs1],u4 (Pm N),[5000,5001,5002]⟩,kF N [] [] func231⟩
def Qt3(N:Nat):V:=⟨⟨166,(sD [Yn,.i,.str,.str]),[⟨[(0,Jqj),(1,zs4)],Jcn⟩],u4 (Qc9 N),[]⟩,kF N [Qn6] [(8,.lp [10,15,16] [4,5,6,7] ⟨[(8,Qh5),(17,zs2)],[(100000,Jqz)]⟩ [(.x 0,⟨[(8,Qh7)],[(100100,Jqz)]⟩),(.r,⟨[(8,Qts),(9,zs4)],[(100200,.var 76 (.ag (sL [zs2,Ue,Ue,zs2,Q9l]))),(100201,Qtw)]⟩)]),(20,.rg (.n 2 (.call 0 .done)))] func166⟩
def Q0h(N:Nat):V:=⟨⟨120,(sD [Ks,Yi,.i,.i,.str,.i]),[⟨[(0,Jke),(1,zs2)],Jcn⟩],u6 (Qj8 N),[]⟩,kF N [P8,Cg,Qt0,Q5k,Q0e,Q9p,Qt3,fun _=>⟨_,P2⟩] [(57,.gh (.fz 19402 (.dt 19 (.fz 19403 (.dt 19 (.fz 19404 (.dt 19 .done))))))),(57,.an (.dc 15 [108,109,110,111,112,113,114,115,116,117,107,118,119,23,1000000014] [19,6] [] (.c 19 (.a (.a (.b 19 (.c 19 (.b 6 (.c 6 (.a (.k 5 [] [] [] [] (.k 6 [] [] [21701] [21701] (.b 21701 (.b 21701 (.a (.e 23 (.g [23] [21701] [] [23,21701] E5)))))))))))))))))] func120⟩
def Fv(N:Nat):V:=⟨⟨74,Jq0,[⟨Jkc,[(1,.var 173 (.ag (sL [.ag (sL [zs2,zs2,zs2,zs2,.ag (sL [zs2,zs2,zs2,Ue,Ue,zs2,.ag (sL [zs2,Ue,Ue,zs2,Qh6]),zs2,zs2]),zs2,Q4v,zs2,zs2,zs4,Z9]),.ag (sL [.s 4,.s 5,.s 6])]))),(2,Qtw),(3,Zk),(4,Uo),(5,Ys),(6,Cd)]⟩],u2 (Gm N),[]⟩,kF N [Df,Nq] [(3,.an (.dc 3 [5,6,7] [3,2] [] (.c 3 (.k 0 [] [] [10602,10601] [10601,10602] (.c 2 (.tl (.call 1 Qvl)))))))] func74⟩
def Rc(N:Nat):V:=⟨⟨168,Q41,[Jkz],B5 N,[]⟩,kF N [] [] func168⟩
def Qpn(N:Nat):V:=⟨⟨169,Q41,[(sD [Zn])],Qbn N,[]⟩,kF N [] [] func169⟩
def Qqb(N:Nat):V:=⟨⟨170,Qxo,[zs7],u2 (T1 N),[]⟩,kF N [] [(6,.lp [1,7,8] [] zs3 Qn2)] func170⟩
def Qg3(N:Nat):V:=⟨⟨286,⟨[(0,.d Ds),(1,Zj)],[(5000,Q5c)]⟩,[zs1],u2 (Ap N),[5000]⟩,kF N [] [(6,.lp [1,7,8] [2] zs3 [(.x 0,⟨[],[]⟩),(.r,⟨[(3,zs4)],[]⟩)])] func286⟩
def Qg4(N:Nat):V:=⟨⟨309,Jk0,[zs1],u2 (Aq N),[]⟩,kF N [] [] func309⟩
def Qg5(N:Nat):V:=⟨⟨310,Jk0,[Jb8],u2 (Ar N),[]⟩,kF N [] [] func310⟩
def L0(N:Nat):V:=⟨⟨308,⟨[(0,Jco),(1,.f 309 .nil),(2,.f 310 .nil)],[]⟩,[Qtx],Zc N,[]⟩,kF N [Qg4,Qg5] [(8,.lp [1,2,11,12] [] ⟨Jqm,Jk1⟩ Jq1),(16,.jn [13] [] Jq2),(22,.an (.dc 10 [19,20,21,22,23,24,25,26,27,28] [100000,9] [] (.a (.a (.a (.so 21 (.a (.b 100000 (.a (.a (.d 100000 100000 (.c 100000 (.c 9 (.tl Q9m)))))))) Q40)))))),(24,.an (.dc 11 [31,32,33,34,35,36,37,38,39,40,41] [100000,9] [] (.b 100000 (.a (.a (.a (.b 100000 (.a (.a (.d 100000 100000 (.c 100000 (.c 9 Jj9))))))))))))] func308⟩
def Qkl(N:Nat):V:=⟨⟨285,⟨[(0,Jkl),(1,zs2),(2,.f 286 Jkv)],[(5000,Q5c)]⟩,[Qtx],u3 (D4 N),[5000]⟩,kF N [P9,Qg3,L0] [(8,.lp [2,12,13] [11201] ⟨[(7,Qh4),(14,zs2)],Jk1⟩ Jq1),(16,.jn [14] [] Jq2),(20,.rg (.n 2 (.call 1 .done)))] func285⟩
def Qkm(N:Nat):V:=⟨⟨235,(sD [.sl Jr,.i,.str]),[Qtx],u3 (D5 N),[]⟩,kF N [Qkl] [] func235⟩
def Qqc(N:Nat):V:=⟨⟨236,(sD [U0,U0]),[zs1],u2 (T2 N),[]⟩,kF N [] [] func236⟩
def Qmi(N:Nat):V:=⟨⟨171,Qxo,[⟨Qf9,[(1,Jcp)]⟩],u2 (Mg N),[]⟩,kF N [Qkm,Qqc] [(5,.rg (.br zs5)),(12,.lp [0,1,15,16] [] ⟨[(5,Jkw),(6,Jck),(7,Jf0),(17,zs2)],[(100000,Qpj),(100001,Qxr),(100002,Jcp)]⟩ [(.x 0,⟨[(7,.s 101100)],[(101100,Jcp)]⟩)]),(20,.jn [17] [] [(.n,⟨[(5,.m 101000),(6,.m 101001),(7,.s 101002)],[(101000,Qpj),(101001,Qxr),(101002,Jcp)]⟩)]),(24,.jn [6,7,9,17] [9,100001,100002] [(.n,⟨[(5,Jkx)],[(100100,Qpj)]⟩)]),(31,.jn [5,7,9,17] [9,100002,100100] [(.n,⟨[(6,.m 100300),(51,zs4)],[(100300,Qxr)]⟩)]),(31,.gh (.op (.v 9 [.f 5 5]) 100001 700000 .done)),(31,.rg (.n 11 (.sp 43 8 [5,6,7,9,17] [100001,700000] ⟨[(51,zs4)],[]⟩ zs6 (.nl 3 (.br (.nl 2 (.br zs5)))) (.cl 100001 .done)))),(36,.jn [5,7,9,17] [9,100002,100100] [(.n,⟨[(6,.m 100500)],[(100500,Qxr)]⟩)]),(37,.jn [5,7,9,17] [] [(.n,⟨[(6,.m 100400),(56,zs4)],[(100400,Qxr)]⟩)]),(37,.gh (.op (.v 9 [.f 5 5]) 100300 700001 .done)),(37,.rg (.n 3 (.br (.n 1 (.cl 100300 .done))))),(39,.rg (.n 4 (.br .done))),(42,.jn [5,7,9,17] [9,100002,100100] [(.n,⟨[(6,.m 100600)],[(100600,Qxr)]⟩)]),(42,.gh (.op (.v 9 [.f 5 5]) 100500 700002 .done)),(42,.rg (.n 3 (.br (.n 3 (.cl 100500 .done))))),(44,.an (.dc 13 [67,68,69,70,71,72,73,74,75,76,77,78,10] [9] [] (.a (.b 9 (.c 9 (.b 9 (.c 9 (.a (.b 9 (.c 9 (.b 9 (.c 9 (.k 0 [] [] [17701] [17701] (.b 17701 (.e 10 E5))))))))))))))),(49,.gh (.fz 17701 .done)),(49,.lp [5,6,7,10,17] [9,10,17701,100002,100100,100600] Jk2 [(.x 2,Jk2)]),(52,.jn [11] [] Jvo),(52,.an (.dc 10 [79,80,81,82,83,84,85,86,87,88] [] [100002,10] (.a (.b 100002 (.c 100002 (.a (.a (.so 83 (.b 100002 (.a (.d 100002 100002 (.c 100002 (.d 10 17701 (.tl Jf1)))))) Jqc)))))))),(59,.rg (.n 2 (.fz 100002 Qvl)))] func171⟩
def L1(N:Nat):V:=⟨⟨238,Jk0,[(sD [J9,.bool])],u2 (Wy N),[]⟩,kF N [Em] [(6,.rg (.n 1 (.call 0 (.n 2 (.sp 21 4 [3,4,6] [2,3,4,6] ⟨[(25,zs4)],[]⟩ Qev (.nl 1 Jj0) Ql3)))))] func238⟩
def Tc(N:Nat):V:=⟨⟨323,zs7,[zs7],Kt N,[]⟩,kF N [] [(7,.jn [] [] [(.n,Q4s)])] func323⟩
def Qqd(N:Nat):V:=⟨⟨328,zs7,[zs1],T3 N,[]⟩,kF N [] [] func328⟩
def Mq(N:Nat):V:=⟨⟨324,Qh8,[zs7],u2 (Xc N),[]⟩,kF N [Qqd] [(6,.rg (.n 3 (.sp 9 3 [0,1,5] [5] ⟨[(12,zs4)],[]⟩ (.nl 1 Q9m) Joq .done)))] func324⟩
def Qqe(N:Nat):V:=⟨⟨311,zs7,[(sD [Qhw])],T4 N,[]⟩,kF N [Tc,Mq] [(14,.lp [0,2] [2] ⟨[(3,Qh5)],[(100000,Jcq)]⟩ [(.x 0,⟨[(3,Qh7)],[(100100,Jcq)]⟩)]),(27,.lp [2] [2] ⟨[(0,zs2),(3,Qts)],[(100200,Jcq)]⟩ [(.x 2,⟨[(0,zs2),(3,Ql6)],[(100300,Jcq)]⟩)])] func311⟩
def Qn7(N:Nat):V:=⟨⟨287,Qh8,[zs7],u2 (Ht N),[]⟩,kF N [Qqe] [(7,.jn [] [5] [(.n,Jj4)])] func287⟩
def Qmj(N:Nat):V:=⟨⟨329,Qh8,[zs7],u2 (Mh N),[]⟩,kF N [Mq] [] func329⟩
def Qt4(N:Nat):V:=⟨⟨325,(sD [Qhw]),[Qh8],Qda N,[]⟩,kF N [Qmj,Tc,Mq] [(4,.jn [1] [1] [(.n,Q9j)]),(4,.an (.dc 11 [6,7,8,9,10,11,12,13,14,15,16] [] [1] (.b 1 (.c 1 (.a (.a (.so 9 Q40 (.b 1 (.c 1 (.b 1 (.c 1 (.b 1 (.c 1 (.k 0 [] [] [] [] (.tl Qp2))))))))))))))),(11,.an (.dc 5 [19,20,21,22,23] [1] [] (.b 1 (.c 1 (.k 1 [] [] [] [] Jq3))))),(16,.lp [1] [1] Jqb [(.x 0,Q4s)])] func325⟩
def Qn8(N:Nat):V:=⟨⟨312,Qh8,[zs7],u2 (Hu N),[]⟩,kF N [Qt4] [] func312⟩
def Qn9(N:Nat):V:=⟨⟨288,Qh8,[Jb8],u2 (Pp N),[]⟩,kF N [Qn8] [(5,.jn [4] [4] [(.n,⟨[(5,Qh5)],[(100000,.var 127 Qpi)]⟩)])] func288⟩
def Td(N:Nat):V:=⟨⟨239,(sD [.i,J9]),[Qtx],u2 (Gg N),[]⟩,kF N [Qn7,Qn9] [(16,.lp [0,3] [3] ⟨[(5,Qh4),(6,zs2)],Jk1⟩ [(.x 0,⟨[(5,Qp4)],[(100100,Lu)]⟩)])] func239⟩
def Qg6(N:Nat):V:=⟨⟨237,⟨[(0,Qpi),(1,Zj),(2,Qgb),(3,.p 5003 [])],[(5000,P4),(5001,.var 301 Qtv),(5002,Lu),(5003,P4)]⟩,[⟨[],[(5001,.var 301 R4),(1,Lu)]⟩],u4 (As N),[5000,5003]⟩,kF N [L1,Td] [(7,.an (.dc 4 [16,17,18,19] [5001,5] [5003] (.d 5001 5002 (.c 5003 (.c 5 (.k 1 [] [] [11901] [11901] Q4w))))))] func237⟩
def Qg7(N:Nat):V:=⟨⟨313,Jq4,[Jq5],u3 (At N),[]⟩,kF N [Em] [(3,.lp [1,7,8] [] ⟨[(2,Zj),(9,zs2)],[(5000,.var 431 Qtt),(100001,Qpl)]⟩ [(.x 0,⟨[],[(5000,.var 431 Q9l),(100201,Qpl)]⟩)]),(11,.jn [9] [] [(.n,⟨[(2,Zj)],[(5000,.var 431 Qpk),(100101,Qpl)]⟩)])] func313⟩
def Qb7(N:Nat):V:=⟨⟨313,Jq4,[Jq5],u3 (Gq N),[]⟩,kF N [Em] [(3,.lp [1,7,8] [] ⟨[(2,Zj),(9,zs2)],[(5000,.var 431 Qtt),(100001,Qpl)]⟩ [(.x 0,⟨[],[(5000,.var 431 Q9l),(100201,Qpl)]⟩)]),(11,.jn [9] [] [(.n,⟨[(2,Zj)],[(5000,.var 431 Qpk),(100101,Qpl)]⟩)])] func313⟩
def Qkn(N:Nat):V:=⟨⟨290,(sD [.bool,.bool]),[zs1],u2 (D6 N),[]⟩,kF N [] [] func290⟩
def Qko(N:Nat):V:=⟨⟨289,⟨[(0,Jco),(1,Jco),(2,.f 290 .nil)],[]⟩,[Qtx],u2 (D7 N),[]⟩,kF N [Qg7,Qb7,fun _=>⟨_,H5⟩,Qkn] [(7,.rg (.n 2 (.call 0 .done))),(9,.rg (.n 2 (.call 1 .done))),(22,.lp [2,7,24,25] [7,12101] ⟨[(9,Qh4),(10,Q46),(11,zs4),(26,zs2)],[(100000,Lu),(100001,Jq6)]⟩ [(.x 0,⟨[(9,Q45)],[(100400,Lu)]⟩)]),(30,.jn [26] [] [(.n,⟨[(9,Qxk),(10,Jkg),(11,zs4)],[(100300,Lu),(100301,Jq6)]⟩)]),(34,.an (.dr 8 Qek zs5)),(37,.an (.dr 16 (.n 6 (.sp 44 10 [9,10,11,12,13,26] [13,100000,100001] ⟨[(54,zs4)],[]⟩ Jcd Jcd .done)) .done)),(42,.rg (.n 7 (.call 3 zs5))),(44,.jn [10,14,26] [13,100001] [(.n,⟨[(9,Qtr)],[(100200,Lu)]⟩)])] func289⟩
def Qoa(N:Nat):V:=⟨⟨240,(sD [.sl J9]),[Qtx],Pr N,[]⟩,kF N [Qko] [] func240⟩
def Qqf(N:Nat):V:=⟨⟨172,(sD [.sl U0,.i,.i]),[Qtx],u3 (T5 N),[]⟩,kF N [Qg6,Qoa,Td] [(10,.lp [17,18] [] ⟨[(4,Qh5),(7,Q46),(8,.f 237 (sL [.p 100002 [],Q46,Qh5])),(19,zs2)],[(100000,P4),(100001,.var 301 Jtn),(100002,P4),(100003,Lu)]⟩ [(.x 0,⟨[(4,Ql6),(7,Jkg)],[(100300,P4),(100301,.var 301 Q48),(100302,Lu)]⟩)]),(24,.lp [19,24,25] [10] ⟨[(4,Qh7),(7,Jtk),(8,.f 237 (sL [.p 100102 [],Jtk,Qh7])),(26,zs2)],[(100100,P4),(100101,.var 301 Jtl),(100102,P4),(100103,Lu)]⟩ [(.x 2,⟨[(4,Qts),(7,Jkj),(8,.f 237 (sL [.p 100202 [],Jkj,Qts]))],[(100200,P4),(100201,.var 301 Jtm),(100202,P4),(100203,Lu)]⟩)]),(35,.rg (.n 2 (.call 0 .done))),(44,.lp [4,36,37] [13601,100300,100301,100302] ⟨[(13,Q45),(38,zs2)],[(100400,Lu)]⟩ [(.x 4,⟨[(13,.s 100500)],[(100500,Lu)]⟩)])] func172⟩
def Qt5(N:Nat):V:=⟨⟨292,⟨[(0,.d J8),(1,Zj),(2,Qgb)],Jq7⟩,[zs1],u3 (Qdb N),[5000,5001]⟩,kF N [] [] func292⟩
def Ms(N:Nat):V:=⟨⟨291,⟨[(0,Jq8),(1,.f 292 (sL [Zj,Qgb]))],Jq7⟩,[⟨Qf9,[(1,Ql5)]⟩],u3 (Z0 N),[5000,5001]⟩,kF N [Qt5] [(8,.lp [1,8,9] [] ⟨Jkf,[(100000,Ql5)]⟩ [(.x 0,⟨[(5,Qtr)],[(100200,Ql5)]⟩)]),(16,.jn [10] [] [(.n,⟨[(5,Qp4)],[(100100,Ql5)]⟩)]),(20,.rg (.n 2 (.call 0 .done)))] func291⟩
def Qqg(N:Nat):V:=⟨⟨293,Jvp,[⟨[(0,.ag (sL [Ue,zs2,zs2,Ue,zs4,R4]))],[(1,Qxl)]⟩],T6 N,[]⟩,kF N [] [(8,.lp [1,2,7,8] [1,2] ⟨[(3,Qh4),(9,zs2)],[(100000,Qxl)]⟩ [(.x 0,⟨Q5a,[(100100,Qxl)]⟩)]),(21,.rg (.n 2 (.fz 15 Qvl)))] func293⟩
def Q0i(N:Nat):V:=⟨⟨241,(sD [.sl J8,.str,.i]),[⟨[(0,.ag (sL [Ue,zs2,zs2,Ue,zs4,R4])),(1,zs4)],[(1,Qxl)]⟩],u3 (Qj9 N),[]⟩,kF N [Ms,Qqg] [] func241⟩
def Qdq(N:Nat):V:=⟨⟨173,(sD [U0,.sl J8,J9]),[⟨Qf9,[(1,Jcr)]⟩],u3 (Hv N),[]⟩,kF N [L1,Q0i] [(6,.lp [1,3,5,18,19] [3,5] ⟨[(20,zs2)],[]⟩ [(.x 0,⟨[],[]⟩),(.r,⟨[(6,Q45)],[(100400,Jcr)]⟩)]),(33,.lp [9,42,43] [8,9,11,13801] ⟨[(13,Qp4),(44,zs2)],[(100100,Jcr)]⟩ [(.x 2,⟨[(13,Qtr)],[(100200,Jcr)]⟩)])] func173⟩
def Te(N:Nat):V:=⟨⟨242,Q4z,[zs1],u2 (Fs N),[]⟩,kF N [] [] func242⟩
def Qt6(N:Nat):V:=⟨⟨243,(sD [Q9,Q9,.i]),[Jkz],u3 (Qdc N),[]⟩,kF N [Rc,Te] [(5,.jn [6] [3,4,6] [(.n,⟨[(7,Qh5)],[(100000,.var 129 (.ag (sL [zs2,zs2,Ue,zs2,zs2,Qtt,Qpi,zs2,zs2,zs2,zs4]))),(100001,Q4u)]⟩)])] func243⟩
def Qqh(N:Nat):V:=⟨⟨244,Q4z,[zs1],u2 (T7 N),[]⟩,kF N [] [] func244⟩
def Qkp(N:Nat):V:=⟨⟨174,⟨[(0,Zj),(1,.d Fp)],[(5000,.var 293 (.ag (sL [Qpg,Ta]))),(5001,Uo),(5002,Qel)]⟩,[⟨[],[(5000,.var 293 (.ag (sL [R4,Ta]))),(5002,Qel),(1,Uo)]⟩],u3 (D8 N),[]⟩,kF N [Qpn,Rc,Te,Qt6,Qqh] [(4,.an (.dc 7 [9,10,11,12,13,14,15] [5000,3] [] (.b 5000 (.d 5000 5000 (.b 5000 (.d 5000 5002 (.b 3 (.c 3 Jq9)))))))),(14,.gh (.fz 11901 .done)),(14,.lp [0,3,23,24] [3,5000,5001,5002] ⟨[(4,Qh5),(25,zs2)],[(100000,.var 129 (.ag (sL [zs2,zs2,Ue,zs2,zs2,Qtt,Qpi,zs2,zs2,zs2,zs4]))),(100001,.tail 9 .str)]⟩ [(.x 0,⟨[(4,Qh7)],[(100100,.var 129 (.ag (sL [zs2,zs2,Ue,zs2,zs2,Qpk,Qpi,zs2,zs2,zs2,zs4]))),(100101,.tail 9 .str)]⟩)]),(37,.lp [0,4] [3,5000,5001,5002,100100,100101] Q9o [(.x 2,Q9o)]),(40,.jn [7] [] [(.n,Jtc)]),(40,.an (.dc 16 [38,39,40,41,42,43,44,45,46,47,48,49,50,51,52,53] [] [5000,5001,100100] (.a (.b 5000 (.d 5000 5000 (.b 5000 (.d 5000 5001 (.c 5001 (.a (.a (.so 45 (.b 5000 (.d 5000 5000 (.b 5000 (.d 5000 5001 (.a (.d 5001 5001 (.c 5001 (.d 100100 100101 (.tl (.call 4 zs5)))))))))) (.a Q40)))))))))))),(47,.rg (.n 5 (.fz 5001 Qvl))),(52,.gh (.dt 100100 .done)),(52,.an (.dc 6 [80,81,82,83,84,85] [5000,100100] [] (.b 5000 (.d 5000 5000 (.b 5000 (.d 5000 5002 (.c 100100 Jq9)))))))] func174⟩
def Qb8(N:Nat):V:=⟨⟨121,(sD [.sl Jr,.sl J8,Yi,.i,.i]),[Qxm],u5 (B6 N),[]⟩,kF N [Rc,Qpn,Qqb,Qmi,Qqf,Qdq,Qkp] [(8,.lp [0,1,3,4,7,10,27,28] [7,10] ⟨[(11,Qh5),(29,zs2)],[(100000,.var 293 (.ag (sL [Qtt,.m 100002]))),(100001,Uo),(100002,Qel)]⟩ [(.x 0,⟨[(11,Qh7)],[(100100,.var 293 (.ag (sL [Qpk,.m 100102]))),(100101,Uo),(100102,Qel)]⟩)]),(20,.an (.dc 9 [33,34,35,36,37,38,39,40,41] [100000,13,100001] [] (.b 100000 (.b 100000 (.d 100000 100000 (.b 100000 (.d 100000 100001 (.c 13 (.k 0 [] [] [13901] [13901] (.op ⟨.fz 13901 (.nl 1 .done),[13901],[],[],[13901]⟩ (.g [100001] [] [41] [41] Ql2))))))))))),(21,.an (.dc 6 [44,45,46,47,48,49] [100000,13] [] (.b 100000 (.d 100000 100000 (.b 100000 (.d 100000 100002 (.c 13 (.k 1 [] [] [] [] E5)))))))),(24,.an (.dc 8 [51,52,53,54,55,56,57,14] [7] [] (.b 7 (.c 7 (.e 53 (.b 7 (.c 7 (.e 56 (.g [] [] [] [53,56] (.e 14 E5)))))))))),(28,.jn [10,14] [7,10,14,53,56] [(.n,⟨[(11,.p 100900 [])],[(100900,.var 293 (.ag (sL [.s 100901,.m 100902]))),(100901,Uo),(100902,Qel)]⟩)]),(36,.lp [1,4,10,14,16,77,78] [17301,17701] ⟨[(11,Qts),(79,zs2)],[(100200,.var 293 (.ag (sL [Q9l,.m 100202]))),(100201,Uo),(100202,Qel)]⟩ [(.x 2,⟨[(11,.p 100800 [])],[(100800,.var 293 (.ag (sL [.s 100801,.m 100802]))),(100801,Uo),(100802,Qel)]⟩)]),(50,.lp [18,79,83,84] [18] ⟨[(11,Ql6),(85,zs2)],[(100300,.var 293 (.ag (sL [Qxp,.m 100302]))),(100301,Uo),(100302,Qel)]⟩ [(.x 4,⟨[(11,.p 100700 [])],[(100700,.var 293 (.ag (sL [.s 100701,.m 100702]))),(100701,Uo),(100702,Qel)]⟩)]),(64,.lp [85,92,93] [20,19201] ⟨[(11,Jcl),(94,zs2)],[(100400,.var 293 (.ag (sL [Q49,.m 100402]))),(100401,Uo),(100402,Qel)]⟩ [(.x 6,⟨[(11,Jkt)],[(100600,.var 293 (.ag (sL [.s 100601,.m 100602]))),(100601,Uo),(100602,Qel)]⟩)]),(72,.jn [94] [] [(.n,⟨[(11,Jkq)],[(100500,.var 293 (.ag (sL [Jkr,.m 100502]))),(100501,Uo),(100502,Qel)]⟩)])] func121⟩
def Qmk(N:Nat):V:=⟨⟨245,Jb7,[⟨Qf9,[(1,Uo)]⟩],Mi N,[]⟩,kF N [] [(8,.lp [6,7] [] ⟨[(3,Qh4),(8,zs2)],[(100000,Uo)]⟩ [(.x 0,⟨Q5a,[(100100,Uo)]⟩)]),(21,.rg (.n 2 (.fz 14 Qvl)))] func245⟩
def Qqi(N:Nat):V:=⟨⟨175,Q4y,[Qxm],T8 N,[]⟩,kF N [Qmk] [(3,.an (.dc 8 [3,4,5,6,7,8,9,10] [1] [] (.b 1 (.c 1 (.k 0 [] [] [10501] [10501] (.b 1 (.c 1 (.e 8 Jq3))))))))] func175⟩
def Qob(N:Nat):V:=⟨⟨176,Jcf,[zs1],u3 (Pt N),[]⟩,kF N [] [(6,.lp [1,2,9,10] [] Jk2 Jvq)] func176⟩
def Qoc(N:Nat):V:=⟨⟨246,Jqd,[⟨[(0,.m 1)],[(1,Ql7)]⟩],Pu N,[]⟩,kF N [] [(8,.lp [9,10] [] ⟨[(3,Jkw),(11,zs2)],[(100000,Ql7)]⟩ [(.x 0,⟨[(3,.m 100200)],[(100200,Ql7)]⟩)]),(16,.jn [11] [] [(.n,⟨[(3,Jkx)],[(100100,Ql7)]⟩)])] func246⟩
def Qt7(N:Nat):V:=⟨⟨177,(sD [.sl Ya,.i]),[⟨[(0,R4),(1,zs2)],[(1,Ys)]⟩],u2 (Qdd N),[]⟩,kF N [Qoc] [(16,.lp [0,1] [11201] Qp6 Jku),(19,.rg (.n 5 (.sp 25 8 [8] [] ⟨[(33,zs4)],[]⟩ zs6 zs6 .done)))] func177⟩
def U8(N:Nat):V:=⟨⟨161,(sD [.i,.i,.i]),[zs1],u3 (Yk N),[]⟩,kF N [] [] func161⟩
def Qg8(N:Nat):V:=⟨⟨226,zs7,[zs1],Nw N,[]⟩,kF N [] [] func226⟩
def X8(N:Nat):V:=⟨⟨159,Jj8,[zs7],K2 N,[]⟩,kF N [U8,Qg8] [(5,.rg (.n 2 (.call 0 (.n 2 (.sp 8 5 [1] [1] zs8 H6 Jjz (.n 1 (.sp 14 5 [1] [1] Jjx H6 Q9n zs5))))))),(11,.rg (.n 2 (.call 0 (.n 2 (.sp 25 5 [1] [1] Jj7 H6 Q9n zs5)))))] func159⟩
def Fw(N:Nat):V:=⟨⟨160,Ql8,[Ql8],u2 (Yw N),[]⟩,kF N [] [] func160⟩
def Qqj(N:Nat):V:=⟨⟨179,Ql8,[Ql8],u2 (T9 N),[]⟩,kF N [X8,Fw,U8,Qg8] [(14,.rg (.n 1 (.call 2 (.n 2 (.sp 19 7 [1,2,4] [2,4] ⟨[(26,zs4)],[]⟩ Qp3 (.nl 4 (.call 3 Qp2)) .done)))))] func179⟩
def Qin(N:Nat):V:=⟨⟨178,⟨[(0,.d Ya),(1,zs2),(2,Zj)],[(5000,Q5d)]⟩,[⟨[],[(5000,Q5d)]⟩],u3 (G6 N),[]⟩,kF N [] [] func178⟩
def Qt8(N:Nat):V:=⟨⟨180,Ql8,[Ql8],u2 (Qde N),[]⟩,kF N [X8,Fw,U8] [] func180⟩
def Tf(N:Nat):V:=⟨⟨122,(sD [.sl Jr,Yi,.i,.i]),[Qxm],u4 (Ft N),[]⟩,kF N [Qqi,Qob,Qt7,Qqj,Qin,Qt8] [(6,.rg (.n 7 (.sp 24 6 [0,2,3,8,9] [5,8,9,11701,11702,11703] Jj7 Qvj Jor .done))),(22,.lp [2,3,8,9,10,11,44,45] [5,8,9,11701,11702,11703,13601] ⟨[(12,Qh7),(13,.f 178 (sL [Qh7])),(46,zs2)],[(100100,Q5d)]⟩ [(.x 0,⟨[(12,Jcl)],[(100400,Q5d)]⟩)]),(30,.jn [46] [] [(.n,⟨[(12,Ql6),(13,.f 178 (sL [Ql6]))],[(100300,Q5d)]⟩)]),(35,.an (.dr 20 (.n 5 (.sp 54 9 [12,13,15,46] [15,100100] Jtp Q9h Q9h Q0c)) .done)),(45,.rg (.n 4 (.call 3 Jra))),(49,.rg (.n 4 (.call 5 Jra)))] func122⟩
def Rd(N:Nat):V:=⟨⟨155,Qh8,[zs1],u2 (K3 N),[]⟩,kF N [] [] func155⟩
def Qt9(N:Nat):V:=⟨⟨224,Q41,[Jkz],Qdf N,[]⟩,kF N [] [] func224⟩
def Qen(N:Nat):V:=⟨⟨152,Jb7,[⟨Qf9,[(1,Uo)]⟩],Ik N,[]⟩,kF N [Qt9] [(8,.lp [6,7] [] ⟨[(3,Qh4),(8,zs2)],[(100000,Uo)]⟩ [(.x 0,⟨Q5a,[(100100,Uo)]⟩)]),(19,.rg (.n 2 (.call 0 (.fz 11401 Qvl))))] func152⟩
def Qod(N:Nat):V:=⟨⟨295,Qh8,[zs7],u2 (Xy N),[]⟩,kF N [] [] func295⟩
def Qoe(N:Nat):V:=⟨⟨255,Q4z,[zs1],u2 (Pw N),[]⟩,kF N [Qod] [] func255⟩
def Nt(N n:Nat):Con:=⟨185,(sD [.sl Q9,.i,.i]),[(sD [.sl .i])],fun(x0,x1,x2)=>U5 N n x0 x1 x2,[]⟩
theorem Re(N:Nat):∀n,KO (Nt N n)
 | 0=>⟨Qhu fun _=>rfl,K5 func185 rfl⟩
 | n+1=>have ih:=Re N n; kF N [fun _=>⟨_,ih⟩,Qoe] [(12,.lp [2] [] Jqa [(.x 0,⟨[(7,Qp4)],[(100100,Cc)]⟩)]),(37,.lp [0,10,11] [] ⟨[(12,Qtr),(13,zs2),(14,zs2)],[(100200,Cc)]⟩ [(.x 2,⟨[(12,Q45)],[(100400,Cc)]⟩)]),(46,.jn [12,13,14] [100200] [(.n,⟨[(85,zs4)],[]⟩)]),(46,.an (.dc 24 [58,59,60,61,62,63,64,65,66,67,68,69,70,71,72,73,74,75,76,77,78,79,80,81] [] [] (.a (.a (.a (.a (.a (.so 62 (.a (.a (.a (.a (.a Jrb))))) (.a (.a (.a (.a (.a (.so 67 (.a (.a (.a (.a (.a (.a (.a (.a (.a (.a (.a (.a (.a (.a (.tl (.call 1 Joq)))))))))))))))) Jrb))))))))))))))] func185
def Qqk(N:Nat):V:=⟨Nt N N,Re N N⟩
def Qql(N:Nat):V:=⟨⟨186,(sD [Q9,.i,.i,.i,.str,.bool,.i]),[zs1],u7 (Qaa N),[]⟩,kF N [Ns] [(4,.rg (.n 10 (.sp 26 6 [1,2,4,5,6,7] [7] ⟨[(32,zs4)],[]⟩ Qvj Jk3 .done))),(22,.lp [4,7,53,54] [7] ⟨[(55,zs2)],[]⟩ [(.x 0,⟨[],[]⟩),(.r,⟨[(14,zs4)],[]⟩)])] func186⟩
def Qpo(N:Nat):V:=⟨⟨153,Q41,[(sD [Qbl])],Qhx N,[]⟩,kF N [] [] func153⟩
def Qao(N:Nat):V:=⟨⟨125,(sD [.sl Q9,.i,.i,.i,.str,.bool,.i,.i]),[⟨[(0,R4),(1,Qh6),(2,zs2)],[(1,Uo),(2,Zk)]⟩],u8 (Lj N),[]⟩,kF N [Qen,Qqk,Qql,Qpo] [(12,.lp [0,1,2,3,4,5,6,32,33] [] ⟨[(7,zs2),(19,Qh4),(20,Qtt),(34,zs2)],[(100000,Uo),(100001,Zk)]⟩ [(.x 0,⟨[(7,zs2),(19,Qxk),(20,Qxp)],[(100300,Uo),(100301,Zk)]⟩)]),(20,.jn [34] [] [(.n,⟨[(7,zs2),(19,Qtr),(20,Q9l)],[(100200,Uo),(100201,Zk)]⟩),(.x 0,⟨[(7,zs2),(19,Qp4),(20,Qpk)],[(100100,Uo),(100101,Zk)]⟩)])] func125⟩
def Av(N:Nat):V:=⟨⟨126,Jcf,[(sD [Za,.bool])],u3 (Xz N),[]⟩,kF N [Qb5] [(6,.lp [1,13,14] [11201,11202] ⟨Jqq,[(100000,Jrc)]⟩ [(.x 0,⟨[(6,Qh7)],[(100100,Jrc)]⟩),(.r,⟨Jkk,[(100200,.var 243 (.d Za))]⟩)])] func126⟩
def Qjf(N:Nat):V:=⟨⟨254,Jj8,[zs7],Sy N,[]⟩,kF N [X8] [] func254⟩
def Qof(N:Nat):V:=⟨⟨322,(sD [.i,.sl .i]),[zs1],u2 (B7 N),[]⟩,kF N [] [(6,.lp [0,7,8] [] zs3 Qka)] func322⟩
def Qqm(N:Nat):V:=⟨⟨302,Jj5,[zs7],Qab N,[]⟩,kF N [Qof] [(24,.lp [0,12,13] [] ⟨[(3,zs2),(14,zs2)],[]⟩ Qp5),(37,.rg (.n 5 (.call 0 (.n 7 (.sp 31 6 [3,4,5,14] [5] Jta Qvj Jk3 .done)))))] func302⟩
def Qml(N:Nat):V:=⟨⟨303,Jrd,[(sD [.i,.bool])],u2 (Mj N),[]⟩,kF N [] [(8,.lp [1,12,13] [] ⟨[(6,zs2),(7,zs2),(14,zs2)],[]⟩ [(.x 0,Jj4),(.r,⟨[(4,zs2),(5,zs4)],[]⟩)]),(22,.jn [6,7,9,14] [9] Jre),(37,.an (.dr 7 Ql3 .done))] func303⟩
def Qua(N:Nat):V:=⟨⟨269,Jrd,[Qh8],u2 (Qdg N),[]⟩,kF N [Qqm,Qml] [] func269⟩
def Qg9(N:Nat):V:=⟨⟨225,Jrf,[Qh8],u2 (Wz N),[]⟩,kF N [Qua] [] func225⟩
def E7(N:Nat):V:=⟨⟨156,Jrf,[Qh8],u2 (K4 N),[]⟩,kF N [Rd,Qg9] [(4,.rg (.n 1 (.call 0 (.n 2 (.sp 12 6 [1,2] [2] Q9j Qvj Jk3 (.n 9 (.sp 27 7 [1,2] [2] ⟨[(34,zs4)],[]⟩ Qp3 (.nl 4 Jj0) .done)))))))] func156⟩
def Qe1(N:Nat):V:=⟨⟨253,⟨[(0,zs2),(1,Zj),(2,Qgb)],[(5000,.var 276 (.d Ij)),(5001,P4)]⟩,[zs1],u3 (E2 N),[5000,5001]⟩,kF N [E7] [] func253⟩
def Qio(N:Nat):V:=⟨⟨183,(sD [Ij,.i,.i]),[zs7],u3 (B8 N),[]⟩,kF N [Qe1] [(16,.lp [7] [3,5] ⟨[(8,zs2),(9,zs2)],[]⟩ Jku),(27,.rg (.n 2 (.call 0 .done)))] func183⟩
def Qmm(N:Nat):V:=⟨⟨188,(sD [Hl,.i]),[Qh8],u2 (Qdh N),[]⟩,kF N [E7] [] func188⟩
def Qjg(N:Nat):V:=⟨⟨189,Ql8,[Ql8],u2 (S6 N),[]⟩,kF N [X8,Fw,U8,Qjf] [] func189⟩
def Qog(N:Nat):V:=⟨⟨184,⟨[(0,Xh),(1,Jct),(2,Qem),(3,zs2)],[(5000,Ys)]⟩,[zs7],u6 (Py N),[5000]⟩,kF N [Av,X8,Qjf] [(16,.lp [6,30,31] [4,5,6,9] ⟨[(32,zs2)],[]⟩ [(.x 0,⟨[],[]⟩),(.r,Qp6)]),(39,.an (.dc 5 [44,45,46,47,48] [12] [] (.c 12 (.k 2 [] [] [] [] (.b 12 (.c 12 (.a Q4w)))))))] func184⟩
def Qb9(N:Nat):V:=⟨⟨124,⟨[(0,Xh),(1,Jct),(2,Qem),(3,zs2),(4,zs2)],[(5000,Ys)]⟩,[Qh8],u7 (B9 N),[5000]⟩,kF N [Rd,Cg,Qao,Qog,Qio] [(13,.jn [3,4,5,6,7] [5,6,7] [(.n,⟨[(12,zs2)],[]⟩)]),(29,.an (.dc 12 [74,75,76,77,78,79,80,81,82,83,84,85] [7,5,6] [5000] (.a (.c 7 (.a (.a (.a (.a (.c 5 (.d 6 5000 (.c 7 (.a (.k 3 [] [5000] [] [] (.k 4 [] [] [] [] Q4w))))))))))))))] func124⟩
def Mt(N:Nat):V:=⟨⟨158,⟨Jk4,[(5000,.var 170 Qgb),(5001,.var 173 (.ag (sL [Jrg,.ag (sL [Wj,Qxn,Lv])]))),(5002,Zk),(5003,Ys)]⟩,[zs1],u15 (Z3 N),[5000,5001,5002,5003]⟩,kF N [] [(3,.an (.dr 10 (.n 10 .done) .done))] func158⟩
def K6(N:Nat):V:=⟨⟨157,⟨Jk5,[(5000,Ys),(5001,.var 170 (.p 5002 [])),(5002,.var 173 (.ag (sL [Jrh,Jct]))),(5003,Zk)]⟩,[zs7],u14 (Vc N),[5000,5001,5002,5003]⟩,kF N [Mt] [(6,.lp [0,1,7] [] Qp6 Qn2),(18,.rg (.n 5 (.call 0 .done)))] func157⟩
def Rf(N:Nat):V:=⟨⟨118,⟨Bb,Qxs⟩,[⟨Qpm,[(5002,Ys)]⟩],u14 (Xd N),[5000,5001]⟩,kF N [K6] [] func118⟩
def N6(N:Nat):V:=⟨⟨127,⟨Ql9,Qxs⟩,[⟨[],Jrj⟩],u15 (Kp N),[]⟩,kF N [Qmm,Rf,Qjg] [(15,.an (.dc 11 [46,47,48,49,50,51,52,53,54,55,1000000010] [5000,7,5002] [] (.b 5000 (.d 5000 5000 (.b 5000 (.b 5000 (.d 5000 5002 (.a (.b 5000 (.c 7 (.a (.d 5002 5002 (.f 5002 5002 Q5e)))))))))))))] func127⟩
def Qdr(N:Nat):V:=⟨⟨82,⟨Jrk,Jrl⟩,[⟨Qpm,[(5000,.var 173 (.ag (sL [.ag (sL [zs2,zs2,zs2,zs2,Jcu,zs2,R4,zs2,zs2,zs4,Z9]),Jk7]))),(1,Zk),(2,Ys)]⟩],u29 (Hw N),[]⟩,kF N [Qb8,Tf,Cg,Qb9,Qao,Av,N6] [(3,.gh (.fz 5003 (.dt 5000 (.fz 5004 (.dt 5000 (.fz 5005 Lt)))))),(3,.an (.dc 17 [15,16,17,18,19,20,21,22,23,24,25,26,27,28,29,30,31] [5,5000] [] (.b 5000 (.b 5 (.c 5 (.b 5 (.c 5 (.b 5000 (.d 5000 5000 (.b 5000 (.c 5000 (.b 5000 (.d 5000 5000 (.b 5000 (.b 5000 (.b 5000 (.c 5000 (.a (.k 0 [] [] [13103,13102,13101] [13101,13102,13103] Ql2))))))))))))))))))),(5,.gh (.fz 13101 (.dt 5000 (.fz 13102 (.dt 5000 (.fz 13103 Lt)))))),(5,.an (.dc 15 [34,35,36,37,38,39,40,41,42,43,44,45,46,47,48] [5,5000] [] (.b 5000 (.b 5 (.c 5 (.b 5000 (.d 5000 5000 (.b 5000 (.c 5000 (.b 5000 (.d 5000 5000 (.b 5000 (.b 5000 (.b 5000 (.c 5000 (.a (.k 1 [] [] [14803,14802,14801] [14801,14802,14803] Ql2))))))))))))))))),(9,.an (.dc 15 [59,60,61,62,63,64,65,66,67,68,58,69,70,9,1000000014] [5,5000] [] (.b 5 (.c 5 (.b 5000 (.d 5000 5000 (.b 5000 (.b 5000 (.b 5000 (.c 5000 (.a (.k 2 [] [] [] [] (.a (.a (.a (.e 9 (.f 9 9 E5))))))))))))))))),(26,.gh (.fz 14801 (.dt 5000 (.fz 14803 (.dt 5000 (.fz 5001 Lt)))))),(26,.an (.dc 17 [78,79,80,81,82,83,84,85,86,87,88,89,90,77,91,92,11] [5,5000,14802] [] (.c 5 (.b 5000 (.d 5000 5000 (.b 5000 (.d 5000 14802 (.b 5000 (.d 5000 5000 (.b 5000 (.b 5000 (.c 5000 (.a (.a (.k 3 [] [14802] [] [] (.a (.a (.a Jb6)))))))))))))))))),(44,.jn [2,5,11,12] [5,9,5001,5003,5004,5005,13101,13102,13103,14801,14803] [(.n,⟨Bb,[(5000,.var 173 (.ag (sL [.ag (sL [zs2,zs2,zs2,zs2,Qem,zs2,Qtt,zs2,zs2,zs4,Z9]),.ag (sL [Wj,Jf0,Lv])]))),(100001,Zk),(100002,Ys)]⟩)]),(47,.an (.dc 48 [102,103,104,105,106,107,108,109,110,111,112,113,114,115,116,117,118,119,120,121,122,123,124,125,126,127,128,129,130,131,132,133,134,135,136,137,101,138,139,140,141,142,143,1000000043,144,145,146,1000000047] [5000] [9] (.b 5000 (.b 5000 (.b 5000 (.d 5000 5000 (.b 5000 (.b 5000 (.c 5000 (.b 5000 (.d 5000 5000 (.b 5000 (.b 5000 (.b 5000 (.c 5000 (.b 5000 (.d 5000 5000 (.b 5000 (.b 5000 (.b 5000 (.c 5000 (.b 5000 (.d 5000 5000 (.b 5000 (.b 5000 (.b 5000 (.c 5000 (.b 5000 (.d 5000 5000 (.b 5000 (.b 5000 (.b 5000 (.c 5000 (.b 9 (.c 9 (.a (.a (.k 4 [] [] [23702,23701] [23701,23702] (.g [] [] [] [23701,23702] (.b 23701 (.b 23702 (.a (.d 5000 5000 (.b 5000 (.b 5000 (.g [5000] [23701] [] [5000,5002,14802,23701] Jrm)))))))))))))))))))))))))))))))))))))))))))))),(50,.jn [11,12] [5,9,5001,5003,5004,5005,13101,13102,13103,14801,14803] [(.n,⟨Bb,[(5000,.var 173 (.ag (sL [.ag (sL [zs2,zs2,zs2,zs2,Qem,zs2,Qpk,zs2,zs2,zs4,Z9]),.ag (sL [Wj,Jj1,Lv])]))),(100101,Zk),(100102,Ys)]⟩)]),(51,.an (.dc 15 [148,149,150,151,152,153,154,155,156,157,147,158,159,13,1000000014] [5000] [5] (.b 5 (.c 5 (.b 5000 (.d 5000 5000 (.b 5000 (.b 5000 (.b 5000 (.c 5000 (.a (.k 5 [] [] [] [] (.a (.a (.a (.e 13 (.f 13 13 E5)))))))))))))))))] func82⟩
def Qe2(N:Nat):V:=⟨⟨80,⟨Jk8,Qxs⟩,[Jro],u18 (E3 N),[]⟩,kF N [] [(5,.an (.dc 9 [22,23,24,25,26,27,28,29,1000000008] [6,13,5000] [] (.b 5000 (.b 5000 (.b 6 (.c 6 (.c 13 (.d 5000 5000 (.b 5000 (.b 5000 (.g [5000] [] [] [5000,5001,5002] Q5e))))))))))),(7,.an (.dc 11 [33,34,35,36,37,38,39,40,41,1000000009,1000000010] [5000,13,10,5002,11,5001] [] (.b 5000 (.d 5000 5000 (.b 5000 (.d 5000 5002 (.b 5000 (.d 5000 5000 (.b 5000 (.d 5000 5001 (.c 13 (.g [10] [5002] [] [10,5002] (.g [11] [5001] [] [11,5001] E5)))))))))))))] func80⟩
def R6(N:Nat):V:=⟨⟨81,⟨Jrp,Qxs⟩,[Jro],u16 (X4 N),[]⟩,kF N [Qe2] [(5,.jn [0,2,4,6,7,8] [4,6,7,8,5000,5001,5002] Jk9),(11,.an (.dc 13 [21,22,23,24,25,26,27,28,29,30,31,32,33] [4,5000,5001,5002] [] (.b 5000 (.c 4 (.b 5000 (.d 5000 5000 (.b 5000 (.b 5000 (.c 5000 (.a (.a (.k 0 [5000,5001,5002] [] [13002,13001] [5000,13001,13002] (.b 13001 (.b 13002 Jrq))))))))))))))] func81⟩
def Qvq(N:Nat):V:=⟨⟨154,(sD [.i,.i,.i]),[zs1],u3 (Qf5 N),[]⟩,kF N [] [] func154⟩
def Qjh(N:Nat):V:=⟨⟨116,(sD [.sl Q9,.sl Xu]),[⟨[(0,R4),(1,zs2)],[(1,Uo)]⟩],u2 (S8 N),[]⟩,kF N [Qen,Qpo,Qvq] [(8,.lp [14,15] [] ⟨Jqn,[(100000,Uo)]⟩ [(.x 0,⟨[(6,Qxk)],[(100300,Uo)]⟩),(.r,⟨[(4,.ns),(5,zs2)],[]⟩)]),(33,.lp [6,8,16,23,24] [8,100000] ⟨[(9,zs2),(25,zs2)],[]⟩ [(.x 2,zs3)]),(45,.an (.dc 11 [30,31,32,33,34,35,36,37,38,39,40] [11] [8] (.c 11 (.k 1 [] [] [] [] (.b 8 (.c 8 (.b 8 (.c 8 (.b 8 (.c 8 (.b 8 (.c 8 Jb6)))))))))))),(62,.an (.dr 12 (.n 12 .done) Jtf)),(68,.an (.dr 10 (.n 10 .done) zs5))] func116⟩
def Qha(N:Nat):V:=⟨⟨117,(sD [Hl,.i,.i]),[⟨[(0,Jke),(1,zs2),(2,zs2)],Jcn⟩],u3 (Nx N),[]⟩,kF N [Rd,E7,fun _=>⟨_,Vl⟩] [(4,.rg (.n 1 (.call 0 (.n 2 (.sp 15 5 [1,2,3,6] [3,6] ⟨[(20,zs4)],[]⟩ H6 Q9n Ql3))))),(23,.an (.dc 10 [41,42,43,44,45,46,47,48,49,1000000009] [3,11] [] (.b 3 (.c 3 (.a (.a (.b 3 (.c 3 (.a (.a (.b 11 (.f 11 11 Q4w))))))))))))] func117⟩
def Rg(N:Nat):V:=⟨⟨118,⟨Bb,Qxs⟩,[⟨Qpm,Jrj⟩],u14 (Xe N),[]⟩,kF N [K6] [] func118⟩
def Qeo(N:Nat):V:=⟨⟨119,(sD [Ya,.i,.i]),[Ql8],u3 (Il N),[]⟩,kF N [X8,Fw,U8] [] func119⟩
def Qca(N:Nat):V:=⟨⟨75,⟨Ql9,Qxs⟩,[⟨[],Q5f⟩],u15 (Gr N),[]⟩,kF N [Qjh,Qha,Rg,Qeo] [(6,.lp [0,1,23,24] [5000,5001,5002] Jrr Jrs),(14,.jn [25] [] [(.n,⟨[(4,zs2),(5,Qp4)],[(100100,Zk)]⟩)]),(30,.jn [1,4] [] [(.n,⟨Bb,[(5000,.var 173 (.ag (sL [.ag (sL [zs2,zs2,zs2,zs2,Qem,zs2,Qxp,zs2,zs2,zs4,Z9]),.ag (sL [Wj,Q48,Lv])]))),(100301,Zk),(100302,Ys)]⟩)]),(44,.jn [] [] [(.n,⟨Jrt,[(5000,.var 173 (.ag (sL [.ag (sL [zs2,zs2,zs2,zs2,Jcu,zs2,Q49,zs2,zs2,zs4,Z9]),.ag (sL [Wj,Jcm,Lv])]))),(100401,Zk),(100402,Ys)]⟩)]),(54,.jn [] [] [(.n,⟨Bb,[(5000,.var 173 (.ag (sL [Jru,.ag (sL [Wj,Jks,Lv])]))),(100501,Zk),(100502,Ys)]⟩)]),(60,.an (.dc 20 [117,118,119,120,121,122,123,124,125,126,127,128,129,130,131,116,132,133,16,1000000019] [5000,20502] [] (.b 5000 (.d 5000 5000 (.b 5000 (.b 5000 (.d 5000 20502 (.a (.d 20502 20502 (.c 20502 (.b 5000 (.d 5000 5000 (.b 5000 (.b 5000 (.c 5000 (.a (.k 3 [] [] [] [] (.a (.a (.a (.e 16 (.f 16 16 E5)))))))))))))))))))))),(64,.an (.dr 8 Qek zs5))] func75⟩
def Qds(N:Nat):V:=⟨⟨79,⟨Ql9,Q5g⟩,[⟨[],Q5f⟩],u5 (Hx N),[]⟩,kF N [] [] func79⟩
def Fk(N:Nat):V:=⟨⟨80,⟨Jk8,Q5g⟩,[Jrw],u8 (Zd N),[]⟩,kF N [] [(5,.an (.dc 9 [22,23,24,25,26,27,28,29,1000000008] [6,13,5000] [] (.b 5000 (.b 5000 (.b 6 (.c 6 (.c 13 (.d 5000 5000 (.b 5000 (.b 5000 (.g [5000] [] [] [5000,5001] Q5e))))))))))),(7,.an (.dc 11 [33,34,35,36,37,38,39,40,41,1000000009,1000000010] [5000,13,10,5001,11] [] (.b 5000 (.d 5000 5000 (.b 5000 (.d 5000 5001 (.b 5000 (.d 5000 5000 (.b 5000 (.c 5000 (.c 13 (.g [10] [5001] [] [10,5001] Jrx))))))))))))] func80⟩
def Mu(N:Nat):V:=⟨⟨76,(sD [Ks,Yi,Yz]),[Jrz],u3 (Ff N),[]⟩,kF N [Cf,Q0h,Fv,Qdr,R6,Qca,Qds,Fk] [(5,.jn [3,4,5,6,7,8] [3,4,5,6,7,8] Jk9),(13,.jn [3,4,5,6,7,8] [3,4,5,6,7,8] Jre),(63,.an (.dr 8 Qek .done)),(66,.jn [4,5,6,7,8] [3,4,5,6,7,8,11,17501,19501,20201,20202] [(.n,Jky)])] func76⟩
def Qe3(N:Nat):V:=⟨⟨38,⟨Qty,Jkd⟩,[⟨Q5h,[(5000,.var 91 (.ag (sL [Xh,Qma,Jcb]))),(5010,Vr),(1,Ys)]⟩],u11 (Nk N),[]⟩,kF N [Mu] [(3,.an (.dr 7 Ql3 zs5)),(5,.gh (.fz 5001 (.dt 5000 (.fz 5002 (.dt 5000 (.fz 5003 (.dt 5000 (.fz 5004 (.dt 5000 (.fz 5005 (.dt 5000 (.fz 5006 (.dt 5000 (.fz 5008 (.dt 5000 (.fz 5009 (.dt 5000 (.fz 5007 Lt)))))))))))))))))),(5,.an (.dc 19 [16,17,18,19,20,21,22,23,24,25,15,26,27,28,5,6,7,1000000017,1000000018] [5000,3] [] (.b 5000 (.d 5000 5000 (.b 5000 (.c 5000 (.b 5000 (.d 5000 5000 (.b 5000 (.c 5000 (.c 3 (.k 0 [] [] [12501] [12501] (.b 12501 (.b 12501 (.a (.a (.e 5 (.e 6 (.e 7 (.g [5] [12501] [] [5,12501] (.f 6 6 E5))))))))))))))))))))),(7,.an (.dc 14 [29,30,31,32,33,34,35,36,37,38,39,1000000011,40,41] [5000,3,5,6,12501,5010] [] (.b 5000 (.b 5000 (.d 5000 5000 (.b 5000 (.d 5000 5010 (.b 3 (.c 3 (.d 5 12501 (.c 6 (.d 5000 5000 (.b 5000 (.g [5000] [12501] [] [5000,5010,12501] (.op ⟨.br .done,[5010],[],[40],[40,5010]⟩ Jlb))))))))))))))),(9,.jn [4,7] [3,4,5,6,7,5000,5001,5002,5003,5004,5005,5006,5007,5008,5009,12501] [(.n,⟨[],[(5010,Vr)]⟩)]),(12,.an (.dr 6 Q0c zs5))] func38⟩
def Qep(N:Nat):V:=⟨⟨77,(sD [Yh,Yz,.i,.i]),[zs7],u4 (Im N),[]⟩,kF N [] [] func77⟩
def Mv(N:Nat):V:=⟨⟨158,⟨Jk4,[(5000,.var 170 Qgb),(5001,.var 173 (.ag (sL [Jrg,.ag (sL [Wj,Qxn,Jca])]))),(5002,Zk),(5003,Ys),(5004,Cd)]⟩,[zs1],u15 (Z4 N),[5000,5001,5002,5003,5004]⟩,kF N [] [(3,.an (.dr 10 (.n 10 .done) .done))] func158⟩
def Ch(N:Nat):V:=⟨⟨157,⟨Jk5,[(5000,Ys),(5001,.var 170 (.p 5002 [])),(5002,.var 173 (.ag (sL [Jrh,.ag (sL [Wj,Jcs,Jca])]))),(5003,Zk),(5004,Cd)]⟩,[⟨Qpm,[(5000,Ys),(5002,.var 173 (.ag (sL [Jk6,.ag (sL [Wj,Jcs,Qh6])]))),(1,Zk),(2,Cd)]⟩],u14 (Uk N),[5001]⟩,kF N [Mv] [(6,.lp [0,1,7] [5000,5002,5003,5004] Qp6 Qn2),(18,.rg (.n 5 (.call 0 .done)))] func157⟩
def Rh(N:Nat):V:=⟨⟨118,⟨Bb,[(5000,.var 173 (.ag (sL [.ag (sL [zs2,zs2,zs2,zs2,Jcu,zs2,Qpg,zs2,zs2,zs4,Z9]),.ag (sL [Wj,Qtv,Qxn])]))),(5001,Zk),(5002,Ys),(5003,Cd)]⟩,[⟨Qpm,[(5000,.var 173 (.ag (sL [Jk6,.ag (sL [Wj,Qh6,Q4v])]))),(1,Zk),(2,Ys),(3,Cd)]⟩],u26 (Xf N),[]⟩,kF N [Ch] [] func118⟩
def Ka(N:Nat):V:=⟨⟨75,⟨Ql9,Jrl⟩,[⟨[],Jlc⟩],u27 (Vj N),[]⟩,kF N [Qjh,Qha,Rh,Qeo] [(6,.lp [0,1,23,24] [5000,5001,5002,5003,5004,5005] Jrr Jrs),(14,.jn [25] [] [(.n,⟨[(4,zs2),(5,Qp4)],[(100100,Zk)]⟩)]),(30,.jn [1,4] [] [(.n,⟨Bb,[(5000,.var 173 (.ag (sL [.ag (sL [zs2,zs2,zs2,zs2,.ag (sL [zs2,zs2,zs2,Ue,Ue,zs2,.ag (sL [zs2,Ue,Ue,zs2,Qxp]),zs2,zs2]),zs2,Q48,zs2,zs2,zs4,Z9]),.ag (sL [.s 100303,.s 100304,.s 100305])]))),(100301,Qtw),(100302,Zk),(100303,Jr0),(100304,Ys),(100305,Cd)]⟩)]),(44,.jn [] [] [(.n,⟨Jrt,[(5000,.var 173 (.ag (sL [.ag (sL [zs2,zs2,zs2,zs2,.ag (sL [zs2,zs2,zs2,Ue,Ue,zs2,.ag (sL [zs2,Ue,Ue,zs2,Q49]),zs2,zs2]),zs2,Jcm,zs2,zs2,zs4,Z9]),.ag (sL [.s 100403,.s 100404,.s 100405])]))),(100401,.tail 141 Vu),(100402,Zk),(100403,Jr0),(100404,Ys),(100405,Cd)]⟩)]),(54,.jn [] [100401,100403] [(.n,⟨Bb,[(5000,.var 173 (.ag (sL [Jru,.ag (sL [Wj,Jks,.s 100503])]))),(100501,Zk),(100502,Ys),(100503,Cd)]⟩)]),(60,.an (.dc 20 [117,118,119,120,121,122,123,124,125,126,127,128,129,130,131,116,132,133,16,1000000019] [5000,20502] [] (.b 5000 (.d 5000 5000 (.b 5000 (.b 5000 (.d 5000 20502 (.a (.d 20502 20502 (.c 20502 (.b 5000 (.d 5000 5000 (.b 5000 (.b 5000 (.c 5000 (.a (.k 3 [] [] [] [] (.a (.a (.a (.e 16 (.f 16 16 E5)))))))))))))))))))))),(64,.an (.dr 8 Qek zs5))] func75⟩
def R7(N:Nat):V:=⟨⟨79,⟨Ql9,Jld⟩,[⟨[],Jlc⟩],u5 (X5 N),[]⟩,kF N [] [] func79⟩
def Qap(N:Nat):V:=⟨⟨80,⟨Jk8,Jld⟩,[⟨[(0,Jcv),(1,Qjc),(2,Z9)],Jlc⟩],u8 (W0 N),[]⟩,kF N [] [(5,.an (.dc 9 [22,23,24,25,26,27,28,29,1000000008] [6,13,5000] [] (.b 5000 (.b 5000 (.b 6 (.c 6 (.c 13 (.d 5000 5000 (.b 5000 (.b 5000 (.g [5000] [] [] [5000,5001,5002] Q5e))))))))))),(7,.an (.dc 11 [33,34,35,36,37,38,39,40,41,1000000009,1000000010] [5000,13,10,5001,5002,11] [] (.b 5000 (.d 5000 5000 (.b 5000 (.g [] [5000] [] [5001,5002] (.b 5000 (.d 5000 5000 (.b 5000 (.c 5000 (.c 13 (.g [10] [5001,5002] [] [10,5001,5002] Jrx))))))))))))] func80⟩
def Ci(N:Nat):V:=⟨⟨39,Jr1,[⟨[(0,Jcv),(1,Jla),(2,Z9)],[(1,Ys),(2,Cd)]⟩],u4 (Ek N),[]⟩,kF N [Qep,Cf,Fv,Ka,R7,Qap] [] func39⟩
def Mw(N:Nat):V:=⟨⟨158,⟨Jk4,[(5000,.var 170 Qgb),(5001,.var 173 (.ag (sL [Qjc,Jri]))),(5002,Ys)]⟩,[zs1],u5 (Z5 N),[5000,5001,5002]⟩,kF N [] [(3,.an (.dr 10 (.n 10 .done) .done))] func158⟩
def Cj(N:Nat):V:=⟨⟨157,⟨Jk5,[(5000,Ys),(5001,.var 170 (.p 5002 [])),(5002,.var 173 (.ag (sL [Qjc,Jct])))]⟩,[zs7],u4 (Ul N),[5000,5001,5002]⟩,kF N [Mw] [(6,.lp [0,1,7] [] Qp6 Qn2),(18,.rg (.n 5 (.call 0 .done)))] func157⟩
def Ri(N:Nat):V:=⟨⟨118,⟨Bb,Q5g⟩,[⟨Qpm,[(5001,Ys)]⟩],u4 (Xg N),[5000]⟩,kF N [Cj] [] func118⟩
def N7(N:Nat):V:=⟨⟨127,⟨Ql9,Q5g⟩,[⟨[],Q5f⟩],u5 (Kq N),[]⟩,kF N [Qmm,Ri,Qjg] [(15,.an (.dc 11 [46,47,48,49,50,51,52,53,54,55,1000000010] [5000,7,5001] [] (.b 5000 (.d 5000 5000 (.b 5000 (.b 5000 (.d 5000 5001 (.a (.b 5000 (.c 7 (.a (.d 5001 5001 (.f 5001 5001 Q5e)))))))))))))] func127⟩
def R8(N:Nat):V:=⟨⟨82,⟨Jrk,Jld⟩,[⟨Qpm,Q5f⟩],u7 (X6 N),[]⟩,kF N [Qb8,Tf,Cg,Qb9,Qao,Av,N7] [(3,.gh (.fz 5001 (.dt 5000 (.fz 5002 Lt)))),(3,.an (.dc 17 [15,16,17,18,19,20,21,22,23,24,25,26,27,28,29,30,31] [5,5000] [] (.b 5000 (.b 5 (.c 5 (.b 5 (.c 5 (.b 5000 (.d 5000 5000 (.b 5000 (.c 5000 (.b 5000 (.d 5000 5000 (.b 5000 (.b 5000 (.b 5000 (.c 5000 (.a (.k 0 [] [] [13103,13102,13101] [13101,13102,13103] Ql2))))))))))))))))))),(5,.gh (.fz 13101 (.dt 5000 (.fz 13102 (.dt 5000 (.fz 13103 Lt)))))),(5,.an (.dc 15 [34,35,36,37,38,39,40,41,42,43,44,45,46,47,48] [5,5000] [] (.b 5000 (.b 5 (.c 5 (.b 5000 (.d 5000 5000 (.b 5000 (.c 5000 (.b 5000 (.d 5000 5000 (.b 5000 (.b 5000 (.b 5000 (.c 5000 (.a (.k 1 [] [] [14803,14802,14801] [14801,14802,14803] Ql2))))))))))))))))),(9,.an (.dc 15 [59,60,61,62,63,64,65,66,67,68,58,69,70,9,1000000014] [5,5000] [] (.b 5 (.c 5 (.b 5000 (.d 5000 5000 (.b 5000 (.b 5000 (.b 5000 (.c 5000 (.a (.k 2 [] [] [] [] (.a (.a (.a (.e 9 (.f 9 9 E5))))))))))))))))),(26,.gh (.fz 14801 (.dt 5000 (.fz 14803 Lt)))),(26,.an (.dc 17 [78,79,80,81,82,83,84,85,86,87,88,89,90,77,91,92,11] [5,5000,14802] [] (.c 5 (.b 5000 (.d 5000 5000 (.b 5000 (.d 5000 14802 (.b 5000 (.d 5000 5000 (.b 5000 (.b 5000 (.c 5000 (.a (.a (.k 3 [] [14802] [] [] (.a (.a (.a Jb6)))))))))))))))))),(44,.jn [2,5,11,12] [5,9,5001,5002,13101,13102,13103,14801,14803] [(.n,⟨Bb,[(5000,.var 173 (.ag (sL [.ag (sL [zs2,zs2,zs2,zs2,Qem,zs2,Jry,zs2,zs2,zs4,Z9]),.ag (sL [Wj,Qtt,Lv])]))),(100001,Ys)]⟩)]),(47,.an (.dc 48 [102,103,104,105,106,107,108,109,110,111,112,113,114,115,116,117,118,119,120,121,122,123,124,125,126,127,128,129,130,131,132,133,134,135,136,137,101,138,139,140,141,142,143,1000000043,144,145,146,1000000047] [5000] [9] (.b 5000 (.b 5000 (.b 5000 (.d 5000 5000 (.b 5000 (.b 5000 (.c 5000 (.b 5000 (.d 5000 5000 (.b 5000 (.b 5000 (.b 5000 (.c 5000 (.b 5000 (.d 5000 5000 (.b 5000 (.b 5000 (.b 5000 (.c 5000 (.b 5000 (.d 5000 5000 (.b 5000 (.b 5000 (.b 5000 (.c 5000 (.b 5000 (.d 5000 5000 (.b 5000 (.b 5000 (.b 5000 (.c 5000 (.b 9 (.c 9 (.a (.a (.k 4 [] [] [23702,23701] [23701,23702] (.g [] [] [] [23701,23702] (.b 23701 (.b 23702 (.a (.d 5000 5000 (.b 5000 (.b 5000 (.g [5000] [23701] [] [5000,14802,23701] Jrm)))))))))))))))))))))))))))))))))))))))))))))),(50,.jn [11,12] [5,9,5001,5002,13101,13102,13103,14801,14803] [(.n,⟨Bb,[(5000,.var 173 (.ag (sL [Qjc,.ag (sL [Wj,Qpk,Lv])]))),(100101,Ys)]⟩)]),(51,.an (.dc 15 [148,149,150,151,152,153,154,155,156,157,147,158,159,13,1000000014] [5000] [5] (.b 5 (.c 5 (.b 5000 (.d 5000 5000 (.b 5000 (.b 5000 (.b 5000 (.c 5000 (.a (.k 5 [] [] [] [] (.a (.a (.a (.e 13 (.f 13 13 E5)))))))))))))))))] func82⟩
def Mx(N:Nat):V:=⟨⟨81,⟨Jrp,Q5g⟩,[Jrw],u6 (Z6 N),[]⟩,kF N [Fk] [(5,.jn [0,2,4,6,7,8] [4,6,7,8,5000,5001] Jk9),(11,.an (.dc 13 [21,22,23,24,25,26,27,28,29,30,31,32,33] [4,5000,5001] [] (.b 5000 (.c 4 (.b 5000 (.d 5000 5000 (.b 5000 (.b 5000 (.c 5000 (.a (.a (.k 0 [5000,5001] [] [13001] [5000,13001] (.b 13001 Jr2)))))))))))))] func81⟩
def Eo(N:Nat):V:=⟨⟨40,Jr1,[Jrz],u4 (X7 N),[]⟩,kF N [Qep,Cf,Fv,Ka,R8,Mx] [(17,.an (.dc 13 [33,34,35,36,37,38,39,40,41,42,43,44,45] [7,4,12801,13201,13202] [] (.b 12801 (.c 7 (.b 12801 (.c 4 (.b 7 (.c 7 (.b 7 (.c 7 (.k 4 [12801,13201,13202] [] [14101] [12801,14101] (.k 5 [12801,14101] [] [14201] [12801,14201] (.b 14201 Jr2)))))))))))))] func40⟩
def Qkq(N:Nat):V:=⟨⟨12,⟨Qty,Jkd⟩,[⟨Q5h,[(5000,.var 91 (.ag (sL [Jle,Qma,Jcb]))),(5010,Vr),(1,Ys)]⟩],u11 (Qbz N),[]⟩,kF N [Qgz,El,Qe3,Ci,Eo] [(19,.an (.dc 12 [23,24,25,26,27,28,29,22,30,31,5,1000000011] [5000,3,5010] [] (.b 5000 (.d 5000 5000 (.b 5000 (.d 5000 5010 (.b 3 (.c 3 (.c 5010 Jcw))))))))),(52,.jn [4] [3,4,5] [(.n,⟨Jcx,[(5000,.var 91 (.ag (sL [Xh,Q5i,Jcb]))),(5010,Vr),(100002,.var 50 Z9),(100003,Ys)]⟩)]),(55,.gh (.fz 5001 (.dt 5000 (.fz 5002 (.dt 5000 (.fz 5003 (.dt 5000 (.fz 5004 (.dt 5000 (.fz 5005 (.dt 5000 (.fz 5006 (.dt 5000 (.fz 5008 (.dt 5000 (.fz 5009 (.dt 5000 (.fz 5007 Lt)))))))))))))))))),(55,.an (.dc 26 [67,68,69,70,71,72,73,74,75,76,77,78,79,80,81,82,83,84,66,85,86,87,88,89,1000000024,1000000025] [5000,5010] [3,5] (.b 5000 (.b 5000 (.d 5000 5000 (.b 5000 (.d 5000 5010 (.b 3 (.c 3 (.b 5000 (.d 5000 5000 (.b 5000 (.c 5000 (.b 5000 (.d 5000 5000 (.b 5000 (.c 5000 (.c 5 (.c 3 (.k 3 [] [] [18402,18401] [18401,18402] (.g [] [] [] [18401,18402] (.g [] [] [] [18401,18402] (.a (.a (.d 5000 5000 (.b 5000 (.g [5000] [18401,18402] [] [5000,5010,18401,18402] Jr4))))))))))))))))))))))))))),(56,.gh (.fz 5001 (.dt 5000 (.fz 5002 (.dt 5000 (.fz 5003 (.dt 5000 (.fz 5004 (.dt 5000 (.fz 5005 (.dt 5000 (.fz 5006 (.dt 5000 (.fz 5008 (.dt 5000 (.fz 5009 (.dt 5000 (.fz 5007 Lt)))))))))))))))))),(56,.an (.dc 26 [91,92,93,94,95,96,97,98,99,100,101,102,103,104,105,106,107,108,90,109,110,111,112,113,1000000024,1000000025] [5000,5010] [3,5] (.b 5000 (.b 5000 (.d 5000 5000 (.b 5000 (.d 5000 5010 (.b 3 (.c 3 (.b 5000 (.d 5000 5000 (.b 5000 (.c 5000 (.b 5000 (.d 5000 5000 (.b 5000 (.c 5000 (.c 5 (.c 3 (.k 4 [] [] [20801] [20801] (.b 20801 (.b 20801 (.a (.a (.d 5000 5000 (.b 5000 (.g [5000] [20801] [] [5000,5010,20801] Jr4)))))))))))))))))))))))))))] func12⟩
def X9(N:Nat):V:=⟨⟨34,⟨Bb,Qxt⟩,[zs1],u5 (Ke N),[5000,5001,5002]⟩,kF N [] [(3,.rg (.n 3 (.nl 5 Q0b)))] func34⟩
def Fl(N:Nat):V:=⟨⟨38,⟨Qty,Qxt⟩,[Jlf],u6 (W5 N),[]⟩,kF N [Mu] [(3,.an (.dr 7 Ql3 zs5)),(5,.gh (.fz 5001 Lt)),(5,.an (.dc 19 [16,17,18,19,20,21,22,23,24,25,15,26,27,28,5,6,7,1000000017,1000000018] [5000,3] [] (.b 5000 (.d 5000 5000 (.b 5000 (.c 5000 (.b 5000 (.d 5000 5000 (.b 5000 (.c 5000 (.c 3 (.k 0 [] [] [12501] [12501] (.b 12501 (.b 12501 (.a (.a (.e 5 (.e 6 (.e 7 (.g [5] [12501] [] [5,12501] (.f 6 6 E5))))))))))))))))))))),(7,.an (.dc 14 [29,30,31,32,33,34,35,36,37,38,39,1000000011,40,41] [5000,3,5,6,12501,5002] [] (.b 5000 (.b 5000 (.d 5000 5000 (.b 5000 (.d 5000 5002 (.b 3 (.c 3 (.d 5 12501 (.c 6 (.d 5000 5000 (.b 5000 (.g [5000] [12501] [] [5000,5002,12501] (.op ⟨.br .done,[5002],[],[40],[40,5002]⟩ Jlb))))))))))))))),(9,.jn [4,7] [3,4,5,6,7,5000,5001,12501] [(.n,⟨[],[(5002,Vr)]⟩)]),(12,.an (.dr 6 Q0c zs5))] func38⟩
def Qe4(N:Nat):V:=⟨⟨12,⟨Qty,Qxt⟩,[Jlf],u6 (Nl N),[]⟩,kF N [X9,El,Fl,Ci,Eo] [(19,.an (.dc 12 [23,24,25,26,27,28,29,22,30,31,5,1000000011] [5000,3,5002] [] (.b 5000 (.d 5000 5000 (.b 5000 (.d 5000 5002 (.b 3 (.c 3 (.c 5002 Jcw))))))))),(52,.jn [4] [3,4,5] [(.n,⟨Jcx,[(5000,.var 91 (.ag (sL [Xh,Q5i,Ta]))),(5002,Vr),(100002,.var 50 Z9),(100003,Ys)]⟩)]),(55,.gh (.fz 5001 Lt)),(55,.an (.dc 26 [67,68,69,70,71,72,73,74,75,76,77,78,79,80,81,82,83,84,66,85,86,87,88,89,1000000024,1000000025] [5000,5002] [3,5] (.b 5000 (.b 5000 (.d 5000 5000 (.b 5000 (.d 5000 5002 (.b 3 (.c 3 (.b 5000 (.d 5000 5000 (.b 5000 (.c 5000 (.b 5000 (.d 5000 5000 (.b 5000 (.c 5000 (.c 5 (.c 3 (.k 3 [] [] [18402,18401] [18401,18402] (.g [] [] [] [18401,18402] (.g [] [] [] [18401,18402] (.a (.a (.d 5000 5000 (.b 5000 (.g [5000] [18401,18402] [] [5000,5002,18401,18402] Jcy))))))))))))))))))))))))))),(56,.gh (.fz 5001 Lt)),(56,.an (.dc 26 [91,92,93,94,95,96,97,98,99,100,101,102,103,104,105,106,107,108,90,109,110,111,112,113,1000000024,1000000025] [5000,5002] [3,5] (.b 5000 (.b 5000 (.d 5000 5000 (.b 5000 (.d 5000 5002 (.b 3 (.c 3 (.b 5000 (.d 5000 5000 (.b 5000 (.c 5000 (.b 5000 (.d 5000 5000 (.b 5000 (.c 5000 (.c 5 (.c 3 (.k 4 [] [] [20801] [20801] (.b 20801 (.b 20801 (.a (.a (.d 5000 5000 (.b 5000 (.g [5000] [20801] [] [5000,5002,20801] Jcy)))))))))))))))))))))))))))] func12⟩
def Qe5(N:Nat):V:=⟨⟨12,⟨Qty,Qxt⟩,[Jlf],u6 (E4 N),[]⟩,kF N [X9,El,Fl,Ci,Eo] [(19,.an (.dc 12 [23,24,25,26,27,28,29,22,30,31,5,1000000011] [5000,3,5002] [] (.b 5000 (.d 5000 5000 (.b 5000 (.d 5000 5002 (.b 3 (.c 3 (.c 5002 Jcw))))))))),(52,.jn [4] [3,4,5] [(.n,⟨Jcx,[(5000,.var 91 (.ag (sL [Xh,Q5i,Ta]))),(5002,Vr),(100002,.var 50 Z9),(100003,Ys)]⟩)]),(55,.gh (.fz 5001 Lt)),(55,.an (.dc 26 [67,68,69,70,71,72,73,74,75,76,77,78,79,80,81,82,83,84,66,85,86,87,88,89,1000000024,1000000025] [5000,5002] [3,5] (.b 5000 (.b 5000 (.d 5000 5000 (.b 5000 (.d 5000 5002 (.b 3 (.c 3 (.b 5000 (.d 5000 5000 (.b 5000 (.c 5000 (.b 5000 (.d 5000 5000 (.b 5000 (.c 5000 (.c 5 (.c 3 (.k 3 [] [] [18402,18401] [18401,18402] (.g [] [] [] [18401,18402] (.g [] [] [] [18401,18402] (.a (.a (.d 5000 5000 (.b 5000 (.g [5000] [18401,18402] [] [5000,5002,18401,18402] Jcy))))))))))))))))))))))))))),(56,.gh (.fz 5001 Lt)),(56,.an (.dc 26 [91,92,93,94,95,96,97,98,99,100,101,102,103,104,105,106,107,108,90,109,110,111,112,113,1000000024,1000000025] [5000,5002] [3,5] (.b 5000 (.b 5000 (.d 5000 5000 (.b 5000 (.d 5000 5002 (.b 3 (.c 3 (.b 5000 (.d 5000 5000 (.b 5000 (.c 5000 (.b 5000 (.d 5000 5000 (.b 5000 (.c 5000 (.c 5 (.c 3 (.k 4 [] [] [20801] [20801] (.b 20801 (.b 20801 (.a (.a (.d 5000 5000 (.b 5000 (.g [5000] [20801] [] [5000,5002,20801] Jcy)))))))))))))))))))))))))))] func12⟩
def Bc(N:Nat):V:=⟨⟨73,⟨[(0,.m 5000)],[(5000,Vr)]⟩,[⟨[(0,.f 113 (sL [.p 1 []]))],[(5000,Vr),(1,.var 89 (.m 5000))]⟩],Kf N,[]⟩,kF N [] [] func73⟩
def Qcb(N:Nat):V:=⟨⟨35,⟨Bb,Qxt⟩,[⟨Jr5,[(5002,Vr)]⟩],u5 (Da N),[5000,5001]⟩,kF N [Bc,fun _=>⟨_,Fh⟩] [] func35⟩
def Tg(N:Nat):V:=⟨⟨36,Jq0,[⟨[(0,Jcv),(1,Qjc)],[(1,Ys),(2,Cd)]⟩],u2 (Fu N),[]⟩,kF N [Fv,Ka] [(5,.jn [4,5] [2,3,4,5] [(.n,⟨[(6,Qh5)],[(100000,.var 173 (.ag (sL [Jla,.ag (sL [Wj,Qtt,Jf0])]))),(100001,Ys),(100002,Cd)]⟩)]),(13,.an (.dc 9 [21,22,23,24,25,26,27,28,1000000008] [100000,4,100001,100002] [] (.b 100000 (.d 100000 100000 (.b 100000 (.g [] [100000] [] [100001,100002] (.b 100000 (.d 100000 100000 (.b 100000 (.c 100000 (.g [4] [100001,100002] [] [4,100001,100002] E5)))))))))))] func36⟩
def Qdt(N:Nat):V:=⟨⟨11,⟨Ql9,Qxt⟩,[⟨Qf9,[(5000,.var 91 (.ag (sL [Xh,Jk7,Ta]))),(5002,Vr),(1,Cc),(2,Jcz)]⟩],u6 (Ll N),[]⟩,kF N [X9,Qcb,Tg] [(16,.gh (.fz 5001 .done)),(16,.lp [1,13,14] [] ⟨Jr6,[(5000,.var 91 (.ag (sL [Xh,Q5i,Ta]))),(5002,Vr),(100002,Cc),(100003,Jcz)]⟩ [(.x 0,⟨[(5,Jj2)],[(5000,.var 91 (.ag (sL [Xh,.ag (sL [Wj,Jtm,Lv]),Ta]))),(5002,Vr),(100202,Cc),(100203,Jcz)]⟩)]),(24,.jn [15] [] [(.n,⟨[(0,Zj),(5,Jj1)],[(5000,.var 91 (.ag (sL [Xh,.ag (sL [Wj,Jtl,Lv]),Ta]))),(5002,Vr),(100102,Cc),(100103,Jcz)]⟩)]),(33,.gh Lt),(33,.an (.dc 18 [35,36,37,38,39,40,41,42,43,44,45,46,34,47,48,49,50,1000000017] [5000,8] [] (.b 5000 (.b 5000 (.d 5000 5000 (.b 5000 (.d 5000 5002 (.a (.b 5000 (.d 5000 5000 (.b 5000 (.c 5000 (.c 8 (.k 2 [] [] [14602,14601] [14601,14602] (.g [] [] [] [14601,14602] (.g [] [] [] [14601,14602] (.a (.d 5000 5000 (.b 5000 (.g [5000] [14601,14602] [] [5000,5002,14601,14602] E5))))))))))))))))))))] func11⟩
def Qcc(N:Nat):V:=⟨⟨34,Qxu,[⟨[(0,zs4)],Qje⟩],u3 (Db N),[]⟩,kF N [] [(3,.rg (.n 3 (.nl 5 Q0b)))] func34⟩
def Kb(N:Nat):V:=⟨⟨35,Qxu,[⟨Jr5,[(5001,Vr)]⟩],u3 (Vk N),[5000]⟩,kF N [Bc,fun _=>⟨_,Fh⟩] [] func35⟩
def H7(N:Nat):V:=⟨⟨43,Jqi,[Jqk],Z7 N,[]⟩,kF N [fun _=>⟨_,Fg⟩,fun _=>⟨_,Vl⟩] [] func43⟩
def Qaq(N:Nat):V:=⟨⟨16,⟨Bb,Jr7⟩,[⟨Qf9,[(5000,.var 91 (.ag (sL [Xh,Qjd,Qb3]))),(5001,Vr),(1,Jc0)]⟩],u5 (Ca N),[]⟩,kF N [Qcc,Kb,H7] [(16,.lp [0,10,11] [5000,5001] Jr8 Jr9),(27,.rg (.n 7 (.call 2 (.fz 12301 (.fz 12302 Qvl)))))] func16⟩
def Y4(N:Nat):V:=⟨⟨34,Qxu,[zs1],u3 (J6 N),[5000,5001]⟩,kF N [] [(3,.rg (.n 3 (.nl 5 Q0b)))] func34⟩
def Qe6(N:Nat):V:=⟨⟨31,⟨Ql9,Qje⟩,[⟨Qpm,Qje⟩],u4 (Nm N),[]⟩,kF N [Y4] [(13,.an (.mp Q5b [1] [5000,5001] Ls [] Qvl (.two (.reg Jj3) (.two (.reg Jj3) .nil))))] func31⟩
def Qhb(N:Nat):V:=⟨⟨8,(sD []),[zs1],fun _=>Z8 N,[]⟩,kF N [Qii,Qdo,Qkq,Qe4,Qe5,Qdt,Qaq,Qe6] [(15,.an (.dc 8 [14,15,16,17,18,19,3,4] [2,11001,11002,11003,11004,11005,11006,11007,11008,11009,11010,11011] [] (.b 11001 (.c 2 (.k 2 [11001,11002,11003,11004,11005,11006,11007,11008,11009,11010,11011] [] [11601] [11001,11011,11601] (.b 11001 (.c 2 (.k 3 [11001,11601,11011] [] [11901] [11001,11011,11901] (.e 3 (.e 4 Q4w)))))))))),(17,.rg (.n 2 (.call 4 Q0b))),(19,.rg (.n 2 (.call 4 Q0b))),(23,.rg (.n 9 (.sp 36 5 [1,5,6,7] [2,3,4,5,6,12701,12702] ⟨[(41,zs4)],[(11001,.var 91 (.ag (sL [Xh,Q5j,Jck]))),(100001,Vr)]⟩ (.nl 1 (.call 6 Joq)) H6 (.n 16 (.sp 57 5 [1,7] [2,3,4,5,6,11001,12701,12702,100001] Jtg H6 H6 (.n 1 (.sp 63 4 [1] [2,3,4,5,6,12701,12702] ⟨[(67,zs4)],[(11001,.var 91 (.ag (sL [Xh,Qjd,Jkp]))),(100201,Vr)]⟩ (.nl 1 (.call 7 Qp2)) Qev zs5)))))))] func8⟩
def Qdu(N:Nat):V:=⟨⟨83,Q4z,[zs1],u2 (Hy N),[]⟩,kF N [] [(14,.lp [2,3] [2,3] Ls Qka),(24,.an (.dr 11 (.n 11 .done) .done))] func83⟩
def Qip(N:Nat):V:=⟨⟨41,(sD [.sl Q9,.sl Q9]),[zs1],u2 (Cb N),[]⟩,kF N [Qdu] [(14,.lp [0,1] [] Ls Qka),(24,.an (.dr 8 Qek Q9m))] func41⟩
def Qiq(N:Nat):V:=⟨⟨13,(sD [Yi,Yi]),[zs1],u2 (V8 N),[]⟩,kF N [Qip] [(14,.lp [2,3] [2,3] Ls Qka),(24,.an (.dr 11 (.n 11 .done) .done)),(35,.lp [2,3] [2,3] Jj4 [(.x 2,⟨[],[]⟩),(.r,⟨[(4,zs4)],[]⟩)]),(45,.an (.dr 11 (.n 11 .done) .done))] func13⟩
def N8(N:Nat):V:=⟨⟨16,Qxu,[⟨Qf9,[(5001,Vr),(1,Jc0)]⟩],u3 (Jw N),[5000]⟩,kF N [Y4,Kb,H7] [(16,.lp [0,10,11] [5001] Jr8 Jr9),(27,.rg (.n 7 (.call 2 (.fz 12301 (.fz 12302 Qvl)))))] func16⟩
def Qir(N:Nat):V:=⟨⟨84,(sD [Hl,Hl]),[zs1],u2 (G8 N),[]⟩,kF N [] [(11,.an (.dc 7 [62,63,64,65,5,6,1000000006] [2,3] [] (.b 2 (.c 2 (.b 3 (.c 3 (.e 5 (.e 6 Jr3)))))))),(24,.lp [5,6] [2,3,5,6] Q9o Qka),(34,.an (.dr 11 (.n 11 .done) .done))] func84⟩
def Qar(N:Nat):V:=⟨⟨85,(sD [.sl Xu,.sl Xu]),[zs1],u2 (Ze N),[]⟩,kF N [] [(14,.lp [0,1] [] Ls Qka),(24,.an (.dr 9 (.n 9 .done) .done))] func85⟩
def Qis(N:Nat):V:=⟨⟨42,(sD [Yh,Yh]),[zs1],u2 (G9 N),[]⟩,kF N [Qir,Qar] [(3,.rg (.n 27 (.sp 31 6 [2,3] [2,3] Jta (.nl 4 Q9m) Qvj (.n 8 (.sp 45 6 [2,3] [2,3] ⟨[(51,zs4)],[]⟩ (.nl 4 Jf1) Qvj (.n 29 .done))))))] func42⟩
def N9(N:Nat):V:=⟨⟨15,(sD [.sl Yh,.sl Yh]),[zs1],u2 (Vd N),[]⟩,kF N [Qis] [(14,.lp [0,1] [] Ls Qka),(24,.an (.dr 8 Qek Q9m))] func15⟩
def Eu(N:Nat):V:=⟨⟨11,⟨Ql9,Qje⟩,[⟨Qf9,[(5000,.var 91 (.ag (sL [Xh,Qjd,Qb3]))),(5001,Vr),(1,Cc)]⟩],u4 (Vx N),[]⟩,kF N [Y4,Kb,Tg] [(16,.lp [1,13,14] [] ⟨Jr6,[(5000,.var 91 (.ag (sL [Xh,Qjd,Qb3]))),(5001,Vr),(100002,Cc)]⟩ [(.x 0,⟨[(5,Jj2)],[(5000,.var 91 (.ag (sL [Xh,Qjd,Qb3]))),(5001,Vr),(100202,Cc)]⟩)]),(24,.jn [15] [] [(.n,⟨[(0,Zj),(5,Jj1)],[(5000,.var 91 (.ag (sL [Xh,Q5j,Qb3]))),(5001,Vr),(100102,Cc)]⟩)]),(33,.an (.dc 18 [35,36,37,38,39,40,41,42,43,44,45,46,34,47,48,49,50,1000000017] [5000,8] [] (.b 5000 (.b 5000 (.d 5000 5000 (.b 5000 (.d 5000 5001 (.a (.b 5000 (.d 5000 5000 (.b 5000 (.c 5000 (.c 8 (.k 2 [] [] [14602,14601] [14601,14602] (.g [] [] [] [14601,14602] (.g [] [] [] [14601,14602] (.a (.d 5000 5000 (.b 5000 (.g [5000] [14601,14602] [] [5000,5001,14601,14602] E5))))))))))))))))))))] func11⟩
def Qas(N:Nat):V:=⟨⟨38,⟨Qty,Qje⟩,[⟨Q5h,[(5000,.var 91 (.ag (sL [Xh,Qma,Qb3]))),(5001,Vr),(1,Ys)]⟩],u4 (W6 N),[]⟩,kF N [Mu] [(3,.an (.dr 7 Ql3 zs5)),(5,.an (.dc 19 [16,17,18,19,20,21,22,23,24,25,15,26,27,28,5,6,7,1000000017,1000000018] [5000,3] [] (.b 5000 (.d 5000 5000 (.b 5000 (.c 5000 (.b 5000 (.d 5000 5000 (.b 5000 (.c 5000 (.c 3 (.k 0 [] [] [12501] [12501] (.b 12501 (.b 12501 (.a (.a (.e 5 (.e 6 (.e 7 (.g [5] [12501] [] [5,12501] (.f 6 6 E5))))))))))))))))))))),(7,.an (.dc 14 [29,30,31,32,33,34,35,36,37,38,39,1000000011,40,41] [5000,3,5,6,12501,5001] [] (.b 5000 (.b 5000 (.d 5000 5000 (.b 5000 (.d 5000 5001 (.b 3 (.c 3 (.d 5 12501 (.c 6 (.d 5000 5000 (.b 5000 (.g [5000] [12501] [] [5000,5001,12501] (.op ⟨.br .done,[5001],[],[40],[40,5001]⟩ Jlb))))))))))))))),(9,.jn [4,7] [3,4,5,6,7,5000,12501] [(.n,⟨[],[(5001,Vr)]⟩)]),(12,.an (.dr 6 Q0c zs5))] func38⟩
def Qat(N:Nat):V:=⟨⟨14,Qxu,[Qxm],u3 (Yc N),[5000,5001]⟩,kF N [Y4,P7] [] func14⟩
def Dg(N:Nat):V:=⟨⟨12,⟨Qty,Qje⟩,[⟨Q5h,Jr7⟩],u4 (U7 N),[]⟩,kF N [Y4,El,Qas,Ci,Eo] [(19,.an (.dc 12 [23,24,25,26,27,28,29,22,30,31,5,1000000011] [5000,3,5001] [] (.b 5000 (.d 5000 5000 (.b 5000 (.d 5000 5001 (.b 3 (.c 3 (.c 5001 Jcw))))))))),(52,.jn [4] [3,4,5] [(.n,⟨Jcx,[(5000,.var 91 (.ag (sL [Xh,Q5i,Qb3]))),(5001,Vr),(100002,.var 50 Z9),(100003,Ys)]⟩)]),(55,.an (.dc 26 [67,68,69,70,71,72,73,74,75,76,77,78,79,80,81,82,83,84,66,85,86,87,88,89,1000000024,1000000025] [5000,5001] [3,5] (.b 5000 (.b 5000 (.d 5000 5000 (.b 5000 (.d 5000 5001 (.b 3 (.c 3 (.b 5000 (.d 5000 5000 (.b 5000 (.c 5000 (.b 5000 (.d 5000 5000 (.b 5000 (.c 5000 (.c 5 (.c 3 (.k 3 [] [] [18402,18401] [18401,18402] (.g [] [] [] [18401,18402] (.g [] [] [] [18401,18402] (.a (.a (.d 5000 5000 (.b 5000 (.g [5000] [18401,18402] [] [5000,5001,18401,18402] Jsa))))))))))))))))))))))))))),(56,.an (.dc 26 [91,92,93,94,95,96,97,98,99,100,101,102,103,104,105,106,107,108,90,109,110,111,112,113,1000000024,1000000025] [5000,5001] [3,5] (.b 5000 (.b 5000 (.d 5000 5000 (.b 5000 (.d 5000 5001 (.b 3 (.c 3 (.b 5000 (.d 5000 5000 (.b 5000 (.c 5000 (.b 5000 (.d 5000 5000 (.b 5000 (.c 5000 (.c 5 (.c 3 (.k 4 [] [] [20801] [20801] (.b 20801 (.b 20801 (.a (.a (.d 5000 5000 (.b 5000 (.g [5000] [20801] [] [5000,5001,20801] Jsa)))))))))))))))))))))))))))] func12⟩
def Qdv(N:Nat):V:=⟨⟨17,Jsb,[⟨[],Qje⟩],u4 (Y8 N),[]⟩,kF N [Eu,Dg] [] func17⟩
def Qe7(N:Nat):V:=⟨⟨18,Qxu,[Jqh,⟨[(0,.np)],[]⟩],u3 (Xl N),[5000,5001]⟩,kF N [Y4,Qdo,H7] [(11,.an (.dr 8 Qek Jf1)),(13,.an (.mp Q5b [3] [11701,11702,11703,11704,11705,11706,11707,11708,11709,11710] ⟨[],[(11711,Vr)]⟩ [] Jj3 (.dc 7 [28,29,30,31,32,33,34] [5] [11701] (.b 11701 (.d 11701 11701 (.b 11701 (.d 11701 11711 (.a (.c 5 (.k 2 [] [] [13402,13401] [13401,13402] (.tl (.fz 13401 (.fz 13402 zs5)))))))))))))] func18⟩
def Qdw(N:Nat):V:=⟨⟨17,Jsb,[⟨[],Qje⟩],u4 (H0 N),[]⟩,kF N [Eu,Dg] [] func17⟩
def H8(N:Nat):V:=⟨⟨4,(sD [Ui,.int .u8]),[zs1],u2 (Us N),[]⟩,kF N [Qkh,Qhb,Qdo,Qdv,Qe7,Qat,N8,Qiq,N9,Qdw] [(26,.lp [2,6] [2] ⟨[(5,Qh5),(7,zs2)],[(100000,.var 91 (.ag (sL [Jle,Q5j,Jck]))),(100001,Vr)]⟩ [(.x 0,⟨[(5,Qh7)],[(100100,.var 91 (.ag (sL [Xh,Qjd,.m 100101]))),(100101,Vr)]⟩)]),(51,.lp [2,5,6,9,10] [2,9,14601,14602,14603,14801,100100,100101] ⟨[(8,Qts),(11,zs2)],[(100200,.var 91 (.ag (sL [Jle,Q5j,Jkp]))),(100201,Vr)]⟩ [(.x 2,⟨[(8,Ql6)],[(100300,.var 91 (.ag (sL [Xh,Qjd,.m 100301]))),(100301,Vr)]⟩)]),(64,.jn [2,5,6,8] [2,100100,100300,100301] [(.n,⟨[(77,zs4)],[(100101,Vr)]⟩)]),(64,.gh (.fz 14601 (.dt 9 (.fz 14602 (.dt 9 (.fz 14603 (.dt 9 .done))))))),(64,.an (.dc 9 [66,67,68,69,70,71,72,73,74] [100101,9] [100100] (.b 100100 (.k 5 [] [100100,100101] [16703,16702,16701] [16701,16702,16703] (.c 9 (.k 7 [16701,16702,16703] [] [] [16701,16702,16703] (.a (.a (.so 71 Jvj (.b 100100 (.k 6 [100101] [100100] [17301] [17301,100101] (.b 14801 (.tl (.call 8 Qp2)))))))))))))),(74,.lp [2,8] [2,100300,100301] ⟨[(5,Jkq),(12,zs2)],[(100500,.var 91 (.ag (sL [Xh,Qjd,.m 100501]))),(100501,Vr)]⟩ [(.x 4,⟨[(5,Jkt)],[(100600,.var 91 (.ag (sL [Xh,Qjd,.m 100601]))),(100601,Vr)]⟩)]),(83,.rg (.n 6 (.call 9 .done))),(86,.rg (.n 1 (.call 5 (.n 1 (.call 5 (.call 7 (.n 1 (.sp 98 6 [5,8] [2,19401,19402,19403,19601,19602,19603,100300,100600] ⟨[(104,zs4)],[(100301,Vr),(100601,Vr)]⟩ (.nl 1 (.call 6 (.nl 1 (.call 6 (.call 8 zs5))))) Qvj (.n 1 (.sp 105 2 [] [2,19401,19402,19403,19601,19602,19603,100300,100301,100600,100601] ⟨[(107,zs4)],[]⟩ Jf1 Qp2 zs5))))))))))] func4⟩
end
end Gx
