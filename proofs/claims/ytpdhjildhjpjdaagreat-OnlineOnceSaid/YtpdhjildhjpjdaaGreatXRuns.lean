/- The interpreter gives these functions. -/
import Derived.Test.YtpdhjildhjpjdaaGreatXFns
import Derived.Test.YtpdhjildhjpjdaaGreatProg
import Derived.Test.YtpdhjildhjpjdaaGreatXX3
import Derived.Test.YtpdhjildhjpjdaaGreatXShelf
namespace Gx
open Go Gd Go.Proofs Tryz
set_option linter.unusedVariables false
noncomputable section
def HT.a(r:HT):HT:=.op ⟨.nl 1 .done,[],[],[],[]⟩ r
def HT.b(x:Nat)(r:HT):HT:=.op ⟨.nl 1 .done,[],[],[],[x]⟩ r
def HT.c(x:Nat)(r:HT):HT:=.op ⟨.nl 1 .done,[],[x],[],[]⟩ r
def HT.d(x y:Nat)(r:HT):HT:=.op ⟨.nl 1 .done,[],[x],[],[y]⟩ r
def HT.e(x:Nat)(r:HT):HT:=.op ⟨.nl 1 .done,[],[],[x],[x]⟩ r
def HT.f(x y:Nat)(r:HT):HT:=.op ⟨.nl 1 .done,[x],[],[],[y]⟩ r
def HT.g(a b c d:List Nat)(r:HT):HT:=.op ⟨.nl 1 .done,a,b,c,d⟩ r
def HT.k(n:Nat)(a b c d:List Nat)(r:HT):HT:=.op ⟨.call n .done,a,b,c,d⟩ r
def u2{α0 α1 β:Type}(f:α0→α1→β)(p:α0×α1):β:=f p.1 p.2
def u3{α0 α1 α2 β:Type}(f:α0→α1→α2→β)(p:α0×α1×α2):β:=f p.1 p.2.1 p.2.2
def u4{α0 α1 α2 α3 β:Type}(f:α0→α1→α2→α3→β)(p:α0×α1×α2×α3):β:=f p.1 p.2.1 p.2.2.1 p.2.2.2
def u5{α0 α1 α2 α3 α4 β:Type}(f:α0→α1→α2→α3→α4→β)(p:α0×α1×α2×α3×α4):β:=f p.1 p.2.1 p.2.2.1 p.2.2.2.1 p.2.2.2.2
def u6{α0 α1 α2 α3 α4 α5 β:Type}(f:α0→α1→α2→α3→α4→α5→β)(p:α0×α1×α2×α3×α4×α5):β:=f p.1 p.2.1 p.2.2.1 p.2.2.2.1 p.2.2.2.2.1 p.2.2.2.2.2
def u7{α0 α1 α2 α3 α4 α5 α6 β:Type}(f:α0→α1→α2→α3→α4→α5→α6→β)(p:α0×α1×α2×α3×α4×α5×α6):β:=f p.1 p.2.1 p.2.2.1 p.2.2.2.1 p.2.2.2.2.1 p.2.2.2.2.2.1 p.2.2.2.2.2.2
def u8{α0 α1 α2 α3 α4 α5 α6 α7 β:Type}(f:α0→α1→α2→α3→α4→α5→α6→α7→β)(p:α0×α1×α2×α3×α4×α5×α6×α7):β:=f p.1 p.2.1 p.2.2.1 p.2.2.2.1 p.2.2.2.2.1 p.2.2.2.2.2.1 p.2.2.2.2.2.2.1 p.2.2.2.2.2.2.2
def u9{α0 α1 α2 α3 α4 α5 α6 α7 α8 β:Type}(f:α0→α1→α2→α3→α4→α5→α6→α7→α8→β)(p:α0×α1×α2×α3×α4×α5×α6×α7×α8):β:=f p.1 p.2.1 p.2.2.1 p.2.2.2.1 p.2.2.2.2.1 p.2.2.2.2.2.1 p.2.2.2.2.2.2.1 p.2.2.2.2.2.2.2.1 p.2.2.2.2.2.2.2.2
def u10{α0 α1 α2 α3 α4 α5 α6 α7 α8 α9 β:Type}(f:α0→α1→α2→α3→α4→α5→α6→α7→α8→α9→β)(p:α0×α1×α2×α3×α4×α5×α6×α7×α8×α9):β:=f p.1 p.2.1 p.2.2.1 p.2.2.2.1 p.2.2.2.2.1 p.2.2.2.2.2.1 p.2.2.2.2.2.2.1 p.2.2.2.2.2.2.2.1 p.2.2.2.2.2.2.2.2.1 p.2.2.2.2.2.2.2.2.2
def u11{α0 α1 α2 α3 α4 α5 α6 α7 α8 α9 α10 β:Type}(f:α0→α1→α2→α3→α4→α5→α6→α7→α8→α9→α10→β)(p:α0×α1×α2×α3×α4×α5×α6×α7×α8×α9×α10):β:=f p.1 p.2.1 p.2.2.1 p.2.2.2.1 p.2.2.2.2.1 p.2.2.2.2.2.1 p.2.2.2.2.2.2.1 p.2.2.2.2.2.2.2.1 p.2.2.2.2.2.2.2.2.1 p.2.2.2.2.2.2.2.2.2.1 p.2.2.2.2.2.2.2.2.2.2
def u14{α0 α1 α2 α3 α4 α5 α6 α7 α8 α9 α10 α11 α12 α13 β:Type}(f:α0→α1→α2→α3→α4→α5→α6→α7→α8→α9→α10→α11→α12→α13→β)(p:α0×α1×α2×α3×α4×α5×α6×α7×α8×α9×α10×α11×α12×α13):β:=f p.1 p.2.1 p.2.2.1 p.2.2.2.1 p.2.2.2.2.1 p.2.2.2.2.2.1 p.2.2.2.2.2.2.1 p.2.2.2.2.2.2.2.1 p.2.2.2.2.2.2.2.2.1 p.2.2.2.2.2.2.2.2.2.1 p.2.2.2.2.2.2.2.2.2.2.1 p.2.2.2.2.2.2.2.2.2.2.2.1 p.2.2.2.2.2.2.2.2.2.2.2.2.1 p.2.2.2.2.2.2.2.2.2.2.2.2.2
def u15{α0 α1 α2 α3 α4 α5 α6 α7 α8 α9 α10 α11 α12 α13 α14 β:Type}(f:α0→α1→α2→α3→α4→α5→α6→α7→α8→α9→α10→α11→α12→α13→α14→β)(p:α0×α1×α2×α3×α4×α5×α6×α7×α8×α9×α10×α11×α12×α13×α14):β:=f p.1 p.2.1 p.2.2.1 p.2.2.2.1 p.2.2.2.2.1 p.2.2.2.2.2.1 p.2.2.2.2.2.2.1 p.2.2.2.2.2.2.2.1 p.2.2.2.2.2.2.2.2.1 p.2.2.2.2.2.2.2.2.2.1 p.2.2.2.2.2.2.2.2.2.2.1 p.2.2.2.2.2.2.2.2.2.2.2.1 p.2.2.2.2.2.2.2.2.2.2.2.2.1 p.2.2.2.2.2.2.2.2.2.2.2.2.2.1 p.2.2.2.2.2.2.2.2.2.2.2.2.2.2
def u16{α0 α1 α2 α3 α4 α5 α6 α7 α8 α9 α10 α11 α12 α13 α14 α15 β:Type}(f:α0→α1→α2→α3→α4→α5→α6→α7→α8→α9→α10→α11→α12→α13→α14→α15→β)(p:α0×α1×α2×α3×α4×α5×α6×α7×α8×α9×α10×α11×α12×α13×α14×α15):β:=f p.1 p.2.1 p.2.2.1 p.2.2.2.1 p.2.2.2.2.1 p.2.2.2.2.2.1 p.2.2.2.2.2.2.1 p.2.2.2.2.2.2.2.1 p.2.2.2.2.2.2.2.2.1 p.2.2.2.2.2.2.2.2.2.1 p.2.2.2.2.2.2.2.2.2.2.1 p.2.2.2.2.2.2.2.2.2.2.2.1 p.2.2.2.2.2.2.2.2.2.2.2.2.1 p.2.2.2.2.2.2.2.2.2.2.2.2.2.1 p.2.2.2.2.2.2.2.2.2.2.2.2.2.2.1 p.2.2.2.2.2.2.2.2.2.2.2.2.2.2.2
def u18{α0 α1 α2 α3 α4 α5 α6 α7 α8 α9 α10 α11 α12 α13 α14 α15 α16 α17 β:Type}(f:α0→α1→α2→α3→α4→α5→α6→α7→α8→α9→α10→α11→α12→α13→α14→α15→α16→α17→β)(p:α0×α1×α2×α3×α4×α5×α6×α7×α8×α9×α10×α11×α12×α13×α14×α15×α16×α17):β:=f p.1 p.2.1 p.2.2.1 p.2.2.2.1 p.2.2.2.2.1 p.2.2.2.2.2.1 p.2.2.2.2.2.2.1 p.2.2.2.2.2.2.2.1 p.2.2.2.2.2.2.2.2.1 p.2.2.2.2.2.2.2.2.2.1 p.2.2.2.2.2.2.2.2.2.2.1 p.2.2.2.2.2.2.2.2.2.2.2.1 p.2.2.2.2.2.2.2.2.2.2.2.2.1 p.2.2.2.2.2.2.2.2.2.2.2.2.2.1 p.2.2.2.2.2.2.2.2.2.2.2.2.2.2.1 p.2.2.2.2.2.2.2.2.2.2.2.2.2.2.2.1 p.2.2.2.2.2.2.2.2.2.2.2.2.2.2.2.2.1 p.2.2.2.2.2.2.2.2.2.2.2.2.2.2.2.2.2
def u26{α0 α1 α2 α3 α4 α5 α6 α7 α8 α9 α10 α11 α12 α13 α14 α15 α16 α17 α18 α19 α20 α21 α22 α23 α24 α25 β:Type}(f:α0→α1→α2→α3→α4→α5→α6→α7→α8→α9→α10→α11→α12→α13→α14→α15→α16→α17→α18→α19→α20→α21→α22→α23→α24→α25→β)(p:α0×α1×α2×α3×α4×α5×α6×α7×α8×α9×α10×α11×α12×α13×α14×α15×α16×α17×α18×α19×α20×α21×α22×α23×α24×α25):β:=f p.1 p.2.1 p.2.2.1 p.2.2.2.1 p.2.2.2.2.1 p.2.2.2.2.2.1 p.2.2.2.2.2.2.1 p.2.2.2.2.2.2.2.1 p.2.2.2.2.2.2.2.2.1 p.2.2.2.2.2.2.2.2.2.1 p.2.2.2.2.2.2.2.2.2.2.1 p.2.2.2.2.2.2.2.2.2.2.2.1 p.2.2.2.2.2.2.2.2.2.2.2.2.1 p.2.2.2.2.2.2.2.2.2.2.2.2.2.1 p.2.2.2.2.2.2.2.2.2.2.2.2.2.2.1 p.2.2.2.2.2.2.2.2.2.2.2.2.2.2.2.1 p.2.2.2.2.2.2.2.2.2.2.2.2.2.2.2.2.1 p.2.2.2.2.2.2.2.2.2.2.2.2.2.2.2.2.2.1 p.2.2.2.2.2.2.2.2.2.2.2.2.2.2.2.2.2.2.1 p.2.2.2.2.2.2.2.2.2.2.2.2.2.2.2.2.2.2.2.1 p.2.2.2.2.2.2.2.2.2.2.2.2.2.2.2.2.2.2.2.2.1 p.2.2.2.2.2.2.2.2.2.2.2.2.2.2.2.2.2.2.2.2.2.1 p.2.2.2.2.2.2.2.2.2.2.2.2.2.2.2.2.2.2.2.2.2.2.1 p.2.2.2.2.2.2.2.2.2.2.2.2.2.2.2.2.2.2.2.2.2.2.2.1 p.2.2.2.2.2.2.2.2.2.2.2.2.2.2.2.2.2.2.2.2.2.2.2.2.1 p.2.2.2.2.2.2.2.2.2.2.2.2.2.2.2.2.2.2.2.2.2.2.2.2.2
def u27{α0 α1 α2 α3 α4 α5 α6 α7 α8 α9 α10 α11 α12 α13 α14 α15 α16 α17 α18 α19 α20 α21 α22 α23 α24 α25 α26 β:Type}(f:α0→α1→α2→α3→α4→α5→α6→α7→α8→α9→α10→α11→α12→α13→α14→α15→α16→α17→α18→α19→α20→α21→α22→α23→α24→α25→α26→β)(p:α0×α1×α2×α3×α4×α5×α6×α7×α8×α9×α10×α11×α12×α13×α14×α15×α16×α17×α18×α19×α20×α21×α22×α23×α24×α25×α26):β:=f p.1 p.2.1 p.2.2.1 p.2.2.2.1 p.2.2.2.2.1 p.2.2.2.2.2.1 p.2.2.2.2.2.2.1 p.2.2.2.2.2.2.2.1 p.2.2.2.2.2.2.2.2.1 p.2.2.2.2.2.2.2.2.2.1 p.2.2.2.2.2.2.2.2.2.2.1 p.2.2.2.2.2.2.2.2.2.2.2.1 p.2.2.2.2.2.2.2.2.2.2.2.2.1 p.2.2.2.2.2.2.2.2.2.2.2.2.2.1 p.2.2.2.2.2.2.2.2.2.2.2.2.2.2.1 p.2.2.2.2.2.2.2.2.2.2.2.2.2.2.2.1 p.2.2.2.2.2.2.2.2.2.2.2.2.2.2.2.2.1 p.2.2.2.2.2.2.2.2.2.2.2.2.2.2.2.2.2.1 p.2.2.2.2.2.2.2.2.2.2.2.2.2.2.2.2.2.2.1 p.2.2.2.2.2.2.2.2.2.2.2.2.2.2.2.2.2.2.2.1 p.2.2.2.2.2.2.2.2.2.2.2.2.2.2.2.2.2.2.2.2.1 p.2.2.2.2.2.2.2.2.2.2.2.2.2.2.2.2.2.2.2.2.2.1 p.2.2.2.2.2.2.2.2.2.2.2.2.2.2.2.2.2.2.2.2.2.2.1 p.2.2.2.2.2.2.2.2.2.2.2.2.2.2.2.2.2.2.2.2.2.2.2.1 p.2.2.2.2.2.2.2.2.2.2.2.2.2.2.2.2.2.2.2.2.2.2.2.2.1 p.2.2.2.2.2.2.2.2.2.2.2.2.2.2.2.2.2.2.2.2.2.2.2.2.2.1 p.2.2.2.2.2.2.2.2.2.2.2.2.2.2.2.2.2.2.2.2.2.2.2.2.2.2
def u29{α0 α1 α2 α3 α4 α5 α6 α7 α8 α9 α10 α11 α12 α13 α14 α15 α16 α17 α18 α19 α20 α21 α22 α23 α24 α25 α26 α27 α28 β:Type}(f:α0→α1→α2→α3→α4→α5→α6→α7→α8→α9→α10→α11→α12→α13→α14→α15→α16→α17→α18→α19→α20→α21→α22→α23→α24→α25→α26→α27→α28→β)(p:α0×α1×α2×α3×α4×α5×α6×α7×α8×α9×α10×α11×α12×α13×α14×α15×α16×α17×α18×α19×α20×α21×α22×α23×α24×α25×α26×α27×α28):β:=f p.1 p.2.1 p.2.2.1 p.2.2.2.1 p.2.2.2.2.1 p.2.2.2.2.2.1 p.2.2.2.2.2.2.1 p.2.2.2.2.2.2.2.1 p.2.2.2.2.2.2.2.2.1 p.2.2.2.2.2.2.2.2.2.1 p.2.2.2.2.2.2.2.2.2.2.1 p.2.2.2.2.2.2.2.2.2.2.2.1 p.2.2.2.2.2.2.2.2.2.2.2.2.1 p.2.2.2.2.2.2.2.2.2.2.2.2.2.1 p.2.2.2.2.2.2.2.2.2.2.2.2.2.2.1 p.2.2.2.2.2.2.2.2.2.2.2.2.2.2.2.1 p.2.2.2.2.2.2.2.2.2.2.2.2.2.2.2.2.1 p.2.2.2.2.2.2.2.2.2.2.2.2.2.2.2.2.2.1 p.2.2.2.2.2.2.2.2.2.2.2.2.2.2.2.2.2.2.1 p.2.2.2.2.2.2.2.2.2.2.2.2.2.2.2.2.2.2.2.1 p.2.2.2.2.2.2.2.2.2.2.2.2.2.2.2.2.2.2.2.2.1 p.2.2.2.2.2.2.2.2.2.2.2.2.2.2.2.2.2.2.2.2.2.1 p.2.2.2.2.2.2.2.2.2.2.2.2.2.2.2.2.2.2.2.2.2.2.1 p.2.2.2.2.2.2.2.2.2.2.2.2.2.2.2.2.2.2.2.2.2.2.2.1 p.2.2.2.2.2.2.2.2.2.2.2.2.2.2.2.2.2.2.2.2.2.2.2.2.1 p.2.2.2.2.2.2.2.2.2.2.2.2.2.2.2.2.2.2.2.2.2.2.2.2.2.1 p.2.2.2.2.2.2.2.2.2.2.2.2.2.2.2.2.2.2.2.2.2.2.2.2.2.2.1 p.2.2.2.2.2.2.2.2.2.2.2.2.2.2.2.2.2.2.2.2.2.2.2.2.2.2.2.1 p.2.2.2.2.2.2.2.2.2.2.2.2.2.2.2.2.2.2.2.2.2.2.2.2.2.2.2.2
def tab:Tab:=[
 ⟨1,.func ⟨[]⟩ ⟨[]⟩ false,.nilFunc,1,8⟩,
 ⟨2,.int .i64,.int .i64 0,1,8⟩,
 ⟨3,.int .i64,.int .i64 0,1,8⟩,
 ⟨4,.bool,.bool false,1,1⟩,
 ⟨5,.int .u8,.int .u8 0,1,1⟩,
 ⟨6,.int .u8,.int .u8 0,1,1⟩,
 ⟨9,.string,Yp [],1,16⟩,
 ⟨22,.slice 135,.slice none 0 0,1,24⟩,
 ⟨23,.slice 146,.slice none 0 0,1,24⟩,
 ⟨24,.slice 133,.slice none 0 0,1,24⟩,
 ⟨25,.slice 150,.slice none 0 0,1,24⟩,
 ⟨26,.slice 3,.slice none 0 0,1,24⟩,
 ⟨27,.slice 156,.slice none 0 0,1,24⟩,
 ⟨29,.struct ⟨[⟨"Events",22,0,false, "", "",0⟩,⟨"Tariffs",23,1,false, "", "",24⟩,⟨"Products",24,2,false, "", "",48⟩,⟨"Taxes",25,3,false, "", "",72⟩,⟨"Holidays",26,4,false, "", "",96⟩,⟨"Agreements",27,5,false, "", "",120⟩]⟩,.agg ⟨[.slice none 0 0,.slice none 0 0,.slice none 0 0,.slice none 0 0,.slice none 0 0,.slice none 0 0]⟩,6,144⟩,
 ⟨30,.slice 129,.slice none 0 0,1,24⟩,
 ⟨31,.slice 101,.slice none 0 0,1,24⟩,
 ⟨32,.slice 103,.slice none 0 0,1,24⟩,
 ⟨34,.struct ⟨[⟨"Buckets",30,0,false, "", "",0⟩,⟨"Wallets",31,1,false, "", "",24⟩,⟨"Counters",32,2,false, "", "",48⟩]⟩,.agg ⟨[.slice none 0 0,.slice none 0 0,.slice none 0 0]⟩,3,72⟩,
 ⟨35,.slice 45,.slice none 0 0,1,24⟩,
 ⟨37,.struct ⟨[⟨"Book",29,0,false, "", "",0⟩,⟨"State",34,6,false, "", "",144⟩,⟨"Ops",35,9,false, "", "",216⟩]⟩,.agg ⟨[.slice none 0 0,.slice none 0 0,.slice none 0 0,.slice none 0 0,.slice none 0 0,.slice none 0 0,.slice none 0 0,.slice none 0 0,.slice none 0 0,.slice none 0 0]⟩,10,240⟩,
 ⟨40,.pointer 91,.pointer none,1,8⟩,
 ⟨43,.struct ⟨[⟨"Session",3,0,false, "", "",0⟩,⟨"Seq",3,1,false, "", "",8⟩,⟨"Kind",3,2,false, "", "",16⟩,⟨"At",3,3,false, "", "",24⟩,⟨"Sub",3,4,false, "", "",32⟩,⟨"Usage",3,5,false, "", "",40⟩,⟨"B",9,6,false, "", "",48⟩,⟨"Used",3,7,false, "", "",64⟩,⟨"Ask",3,8,false, "", "",72⟩]⟩,.agg ⟨[.int .i64 0,.int .i64 0,.int .i64 0,.int .i64 0,.int .i64 0,.int .i64 0,Yp [],.int .i64 0,.int .i64 0]⟩,9,80⟩,
 ⟨45,.struct ⟨[⟨"Request",43,0,false, "", "",0⟩,⟨"Expire",4,9,false, "", "",80⟩]⟩,.agg ⟨[.int .i64 0,.int .i64 0,.int .i64 0,.int .i64 0,.int .i64 0,.int .i64 0,Yp [],.int .i64 0,.int .i64 0,.bool false]⟩,10,88⟩,
 ⟨48,.int .i64,.int .i64 0,1,8⟩,
 ⟨50,.struct ⟨[⟨"Session",3,0,false, "", "",0⟩,⟨"Seq",3,1,false, "", "",8⟩,⟨"Granted",3,2,false, "", "",16⟩,⟨"Until",3,3,false, "", "",24⟩,⟨"Err",48,4,false, "", "",32⟩]⟩,.agg ⟨[.int .i64 0,.int .i64 0,.int .i64 0,.int .i64 0,.int .i64 0]⟩,5,40⟩,
 ⟨55,.slice 81,.slice none 0 0,1,24⟩,
 ⟨60,.slice 43,.slice none 0 0,1,24⟩,
 ⟨62,.struct ⟨[⟨"Book",29,0,false, "", "",0⟩,⟨"State",34,6,false, "", "",144⟩,⟨"Requests",60,9,false, "", "",216⟩]⟩,.agg ⟨[.slice none 0 0,.slice none 0 0,.slice none 0 0,.slice none 0 0,.slice none 0 0,.slice none 0 0,.slice none 0 0,.slice none 0 0,.slice none 0 0,.slice none 0 0]⟩,10,240⟩,
 ⟨71,.slice 5,.slice none 0 0,1,24⟩,
 ⟨74,.slice 141,.slice none 0 0,1,24⟩,
 ⟨76,.struct ⟨[⟨"Kind",3,0,false, "", "",0⟩,⟨"Zone",9,1,false, "", "",8⟩,⟨"Band",9,2,false, "", "",24⟩,⟨"Setup",3,3,false, "", "",40⟩,⟨"Steps",74,4,false, "", "",48⟩]⟩,.agg ⟨[.int .i64 0,Yp [],Yp [],.int .i64 0,.slice none 0 0]⟩,5,72⟩,
 ⟨78,.struct ⟨[⟨"Account",3,0,false, "", "",0⟩,⟨"Sub",3,1,false, "", "",8⟩,⟨"Kind",3,2,false, "", "",16⟩,⟨"Zone",9,3,false, "", "",24⟩,⟨"Plan",9,4,false, "", "",40⟩,⟨"Version",3,5,false, "", "",56⟩,⟨"Rate",76,6,false, "", "",64⟩,⟨"Free",3,11,false, "", "",136⟩,⟨"Paid",3,12,false, "", "",144⟩]⟩,.agg ⟨[.int .i64 0,.int .i64 0,.int .i64 0,Yp [],Yp [],.int .i64 0,.int .i64 0,Yp [],Yp [],.int .i64 0,.slice none 0 0,.int .i64 0,.int .i64 0]⟩,13,152⟩,
 ⟨79,.slice 185,.slice none 0 0,1,24⟩,
 ⟨81,.struct ⟨[⟨"Id",3,0,false, "", "",0⟩,⟨"Seq",3,1,false, "", "",8⟩,⟨"Start",3,2,false, "", "",16⟩,⟨"Until",3,3,false, "", "",24⟩,⟨"Meter",78,4,false, "", "",32⟩,⟨"Granted",3,17,false, "", "",184⟩,⟨"Takes",79,18,false, "", "",192⟩,⟨"Held",3,19,false, "", "",216⟩,⟨"Spent",3,20,false, "", "",224⟩,⟨"Closed",4,21,false, "", "",232⟩,⟨"Last",50,22,false, "", "",240⟩]⟩,.agg ⟨[.int .i64 0,.int .i64 0,.int .i64 0,.int .i64 0,.int .i64 0,.int .i64 0,.int .i64 0,Yp [],Yp [],.int .i64 0,.int .i64 0,Yp [],Yp [],.int .i64 0,.slice none 0 0,.int .i64 0,.int .i64 0,.int .i64 0,.slice none 0 0,.int .i64 0,.int .i64 0,.bool false,.int .i64 0,.int .i64 0,.int .i64 0,.int .i64 0,.int .i64 0]⟩,27,280⟩,
 ⟨89,.map 3 81,.map none,1,8⟩,
 ⟨91,.struct ⟨[⟨"book",29,0,false, "", "billing/online",0⟩,⟨"state",34,6,false, "", "billing/online",144⟩,⟨"sessions",89,9,false, "", "billing/online",216⟩]⟩,.agg ⟨[.slice none 0 0,.slice none 0 0,.slice none 0 0,.slice none 0 0,.slice none 0 0,.slice none 0 0,.slice none 0 0,.slice none 0 0,.slice none 0 0,.map none]⟩,10,224⟩,
 ⟨101,.struct ⟨[⟨"Account",3,0,false, "", "",0⟩,⟨"Balance",3,1,false, "", "",8⟩,⟨"Floor",3,2,false, "", "",16⟩,⟨"Held",3,3,false, "", "",24⟩,⟨"Until",3,4,false, "", "",32⟩]⟩,.agg ⟨[.int .i64 0,.int .i64 0,.int .i64 0,.int .i64 0,.int .i64 0]⟩,5,40⟩,
 ⟨103,.struct ⟨[⟨"Sub",3,0,false, "", "",0⟩,⟨"Kind",3,1,false, "", "",8⟩,⟨"From",3,2,false, "", "",16⟩,⟨"Units",3,3,false, "", "",24⟩,⟨"Spent",3,4,false, "", "",32⟩]⟩,.agg ⟨[.int .i64 0,.int .i64 0,.int .i64 0,.int .i64 0,.int .i64 0]⟩,5,40⟩,
 ⟨107,.map 3 3,.map none,1,8⟩,
 ⟨109,.struct ⟨[⟨"bytes",71,0,false, "", "billing/journal",0⟩,⟨"safe",3,1,false, "", "billing/journal",24⟩,⟨"ends",107,2,false, "", "billing/journal",32⟩]⟩,.agg ⟨[.slice none 0 0,.int .i64 0,.map none]⟩,3,40⟩,
 ⟨125,.slice 9,.slice none 0 0,1,24⟩,
 ⟨127,.struct ⟨[⟨"From",3,0,false, "", "",0⟩,⟨"To",3,1,false, "", "",8⟩]⟩,.agg ⟨[.int .i64 0,.int .i64 0]⟩,2,16⟩,
 ⟨129,.struct ⟨[⟨"Account",3,0,false, "", "",0⟩,⟨"Sub",3,1,false, "", "",8⟩,⟨"Product",9,2,false, "", "",16⟩,⟨"Index",3,3,false, "", "",32⟩,⟨"Kind",3,4,false, "", "",40⟩,⟨"Zones",125,5,false, "", "",48⟩,⟨"Valid",127,6,false, "", "",72⟩,⟨"Units",3,8,false, "", "",88⟩,⟨"Left",3,9,false, "", "",96⟩,⟨"Priority",3,10,false, "", "",104⟩,⟨"Shared",4,11,false, "", "",112⟩]⟩,.agg ⟨[.int .i64 0,.int .i64 0,Yp [],.int .i64 0,.int .i64 0,.slice none 0 0,.int .i64 0,.int .i64 0,.int .i64 0,.int .i64 0,.int .i64 0,.bool false]⟩,12,120⟩,
 ⟨131,.slice 160,.slice none 0 0,1,24⟩,
 ⟨133,.struct ⟨[⟨"Name",9,0,false, "", "",0⟩,⟨"From",3,1,false, "", "",16⟩,⟨"Fee",3,2,false, "", "",24⟩,⟨"Category",9,3,false, "", "",32⟩,⟨"Prorate",4,4,false, "", "",48⟩,⟨"Bundles",131,5,false, "", "",56⟩]⟩,.agg ⟨[Yp [],.int .i64 0,.int .i64 0,Yp [],.bool false,.slice none 0 0]⟩,6,80⟩,
 ⟨135,.struct ⟨[⟨"At",3,0,false, "", "",0⟩,⟨"Kind",3,1,false, "", "",8⟩,⟨"Account",3,2,false, "", "",16⟩,⟨"Sub",3,3,false, "", "",24⟩,⟨"Number",9,4,false, "", "",32⟩,⟨"Name",9,5,false, "", "",48⟩,⟨"Value",3,6,false, "", "",64⟩]⟩,.agg ⟨[.int .i64 0,.int .i64 0,.int .i64 0,.int .i64 0,Yp [],Yp [],.int .i64 0]⟩,7,72⟩,
 ⟨136,.slice 221,.slice none 0 0,1,24⟩,
 ⟨138,.struct ⟨[⟨"Name",9,0,false, "", "",0⟩,⟨"Slots",136,1,false, "", "",16⟩]⟩,.agg ⟨[Yp [],.slice none 0 0]⟩,2,40⟩,
 ⟨139,.slice 138,.slice none 0 0,1,24⟩,
 ⟨141,.struct ⟨[⟨"Upto",3,0,false, "", "",0⟩,⟨"Quantum",3,1,false, "", "",8⟩,⟨"Price",3,2,false, "", "",16⟩]⟩,.agg ⟨[.int .i64 0,.int .i64 0,.int .i64 0]⟩,3,24⟩,
 ⟨142,.slice 76,.slice none 0 0,1,24⟩,
 ⟨143,.slice 210,.slice none 0 0,1,24⟩,
 ⟨144,.slice 218,.slice none 0 0,1,24⟩,
 ⟨146,.struct ⟨[⟨"Name",9,0,false, "", "",0⟩,⟨"From",3,1,false, "", "",16⟩,⟨"Split",4,2,false, "", "",24⟩,⟨"Zones",143,3,false, "", "",32⟩,⟨"Bands",139,4,false, "", "",56⟩,⟨"Rates",142,5,false, "", "",80⟩,⟨"Discounts",144,6,false, "", "",104⟩]⟩,.agg ⟨[Yp [],.int .i64 0,.bool false,.slice none 0 0,.slice none 0 0,.slice none 0 0,.slice none 0 0]⟩,7,128⟩,
 ⟨150,.struct ⟨[⟨"Category",9,0,false, "", "",0⟩,⟨"From",3,1,false, "", "",16⟩,⟨"Points",3,2,false, "", "",24⟩]⟩,.agg ⟨[Yp [],.int .i64 0,.int .i64 0]⟩,3,32⟩,
 ⟨156,.struct ⟨[⟨"Partner",3,0,false, "", "",0⟩,⟨"Kind",3,1,false, "", "",8⟩,⟨"Inbound",4,2,false, "", "",16⟩,⟨"Valid",127,3,false, "", "",24⟩,⟨"Steps",74,5,false, "", "",40⟩,⟨"Cap",3,6,false, "", "",64⟩]⟩,.agg ⟨[.int .i64 0,.int .i64 0,.bool false,.int .i64 0,.int .i64 0,.slice none 0 0,.int .i64 0]⟩,7,72⟩,
 ⟨160,.struct ⟨[⟨"Kind",3,0,false, "", "",0⟩,⟨"Zones",125,1,false, "", "",8⟩,⟨"Units",3,2,false, "", "",32⟩,⟨"Rollover",3,3,false, "", "",40⟩,⟨"Priority",3,4,false, "", "",48⟩,⟨"Shared",4,5,false, "", "",56⟩]⟩,.agg ⟨[.int .i64 0,.slice none 0 0,.int .i64 0,.int .i64 0,.int .i64 0,.bool false]⟩,6,64⟩,
 ⟨168,.func ⟨[207]⟩ ⟨[]⟩ false,.nilFunc,1,8⟩,
 ⟨170,.pointer 173,.pointer none,1,8⟩,
 ⟨173,.struct ⟨[⟨"Session",81,0,true, "", "",0⟩,⟨"state",34,27,false, "", "billing/session",280⟩]⟩,.agg ⟨[.int .i64 0,.int .i64 0,.int .i64 0,.int .i64 0,.int .i64 0,.int .i64 0,.int .i64 0,Yp [],Yp [],.int .i64 0,.int .i64 0,Yp [],Yp [],.int .i64 0,.slice none 0 0,.int .i64 0,.int .i64 0,.int .i64 0,.slice none 0 0,.int .i64 0,.int .i64 0,.bool false,.int .i64 0,.int .i64 0,.int .i64 0,.int .i64 0,.int .i64 0,.slice none 0 0,.slice none 0 0,.slice none 0 0]⟩,30,352⟩,
 ⟨185,.struct ⟨[⟨"Sub",3,0,false, "", "",0⟩,⟨"Product",9,1,false, "", "",8⟩,⟨"Index",3,2,false, "", "",24⟩,⟨"From",3,3,false, "", "",32⟩,⟨"Units",3,4,false, "", "",40⟩]⟩,.agg ⟨[.int .i64 0,Yp [],.int .i64 0,.int .i64 0,.int .i64 0]⟩,5,48⟩,
 ⟨195,.slice 243,.slice none 0 0,1,24⟩,
 ⟨196,.slice 260,.slice none 0 0,1,24⟩,
 ⟨198,.struct ⟨[⟨"Accounts",195,0,false, "", "",0⟩,⟨"Subs",196,1,false, "", "",24⟩,⟨"Ended",26,2,false, "", "",48⟩]⟩,.agg ⟨[.slice none 0 0,.slice none 0 0,.slice none 0 0]⟩,3,72⟩,
 ⟨210,.struct ⟨[⟨"Name",9,0,false, "", "",0⟩,⟨"Prefixes",125,1,false, "", "",16⟩]⟩,.agg ⟨[Yp [],.slice none 0 0]⟩,2,40⟩,
 ⟨214,.slice 216,.slice none 0 0,1,24⟩,
 ⟨216,.struct ⟨[⟨"Op",3,0,false, "", "",0⟩,⟨"Num",3,1,false, "", "",8⟩,⟨"Text",9,2,false, "", "",16⟩,⟨"Args",214,3,false, "", "",32⟩]⟩,.agg ⟨[.int .i64 0,.int .i64 0,Yp [],.slice none 0 0]⟩,4,56⟩,
 ⟨218,.struct ⟨[⟨"Name",9,0,false, "", "",0⟩,⟨"When",216,1,false, "", "",16⟩,⟨"Points",3,5,false, "", "",72⟩]⟩,.agg ⟨[Yp [],.int .i64 0,.int .i64 0,Yp [],.slice none 0 0,.int .i64 0]⟩,6,80⟩,
 ⟨221,.struct ⟨[⟨"Days",3,0,false, "", "",0⟩,⟨"From",3,1,false, "", "",8⟩,⟨"To",3,2,false, "", "",16⟩]⟩,.agg ⟨[.int .i64 0,.int .i64 0,.int .i64 0]⟩,3,24⟩,
 ⟨235,.struct ⟨[⟨"Period",127,0,false, "", "",0⟩,⟨"Plan",9,2,false, "", "",16⟩,⟨"Products",125,3,false, "", "",32⟩,⟨"Suspended",4,4,false, "", "",56⟩,⟨"Family",4,5,false, "", "",57⟩]⟩,.agg ⟨[.int .i64 0,.int .i64 0,Yp [],.slice none 0 0,.bool false,.bool false]⟩,6,64⟩,
 ⟨243,.struct ⟨[⟨"Id",3,0,false, "", "",0⟩,⟨"Since",3,1,false, "", "",8⟩,⟨"Anchor",3,2,false, "", "",16⟩,⟨"Prepaid",4,3,false, "", "",24⟩,⟨"Closed",4,4,false, "", "",25⟩,⟨"Subs",26,5,false, "", "",32⟩]⟩,.agg ⟨[.int .i64 0,.int .i64 0,.int .i64 0,.bool false,.bool false,.slice none 0 0]⟩,6,56⟩,
 ⟨255,.array 5 4,.agg ⟨[.bool false,.bool false,.bool false,.bool false,.bool false]⟩,5,5⟩,
 ⟨260,.struct ⟨[⟨"Id",3,0,false, "", "",0⟩,⟨"Account",3,1,false, "", "",8⟩,⟨"Since",3,2,false, "", "",16⟩,⟨"Plan",9,3,false, "", "",24⟩,⟨"Numbers",125,4,false, "", "",40⟩,⟨"Products",125,5,false, "", "",64⟩,⟨"Suspended",4,6,false, "", "",88⟩,⟨"Family",4,7,false, "", "",89⟩]⟩,.agg ⟨[.int .i64 0,.int .i64 0,.int .i64 0,Yp [],.slice none 0 0,.slice none 0 0,.bool false,.bool false]⟩,8,96⟩,
 ⟨271,.struct ⟨[⟨"sub",3,0,false, "", "billing/bucket",0⟩,⟨"product",9,1,false, "", "billing/bucket",8⟩,⟨"index",3,2,false, "", "billing/bucket",24⟩,⟨"from",3,3,false, "", "billing/bucket",32⟩]⟩,.agg ⟨[.int .i64 0,Yp [],.int .i64 0,.int .i64 0]⟩,4,40⟩,
 ⟨276,.struct ⟨[⟨"Meter",78,0,true, "", "",0⟩]⟩,.agg ⟨[.int .i64 0,.int .i64 0,.int .i64 0,Yp [],Yp [],.int .i64 0,.int .i64 0,Yp [],Yp [],.int .i64 0,.slice none 0 0,.int .i64 0,.int .i64 0]⟩,13,152⟩,
 ⟨279,.func ⟨[101]⟩ ⟨[4]⟩ false,.nilFunc,1,8⟩,
 ⟨290,.pointer 293,.pointer none,1,8⟩,
 ⟨291,.map 296 4,.map none,1,8⟩,
 ⟨293,.struct ⟨[⟨"list",30,0,false, "", "billing/bundle",0⟩,⟨"has",291,1,false, "", "billing/bundle",24⟩]⟩,.agg ⟨[.slice none 0 0,.map none]⟩,2,32⟩,
 ⟨296,.struct ⟨[⟨"sub",3,0,false, "", "billing/bundle",0⟩,⟨"product",9,1,false, "", "billing/bundle",8⟩,⟨"index",3,2,false, "", "billing/bundle",24⟩,⟨"from",3,3,false, "", "billing/bundle",32⟩]⟩,.agg ⟨[.int .i64 0,Yp [],.int .i64 0,.int .i64 0]⟩,4,40⟩,
 ⟨299,.slice 304,.slice none 0 0,1,24⟩,
 ⟨301,.slice 127,.slice none 0 0,1,24⟩,
 ⟨304,.struct ⟨[⟨"account",3,0,false, "", "billing/bundle",0⟩,⟨"sub",3,1,false, "", "billing/bundle",8⟩,⟨"product",9,2,false, "", "billing/bundle",16⟩,⟨"active",301,3,false, "", "billing/bundle",32⟩]⟩,.agg ⟨[.int .i64 0,.int .i64 0,Yp [],.slice none 0 0]⟩,4,56⟩,
 ⟨305,.slice 308,.slice none 0 0,1,24⟩,
 ⟨308,.struct ⟨[⟨"bucket",129,0,false, "", "billing/bundle",0⟩,⟨"rollover",3,12,false, "", "billing/bundle",120⟩]⟩,.agg ⟨[.int .i64 0,.int .i64 0,Yp [],.int .i64 0,.int .i64 0,.slice none 0 0,.int .i64 0,.int .i64 0,.int .i64 0,.int .i64 0,.int .i64 0,.bool false,.int .i64 0]⟩,13,128⟩,
 ⟨315,.slice 235,.slice none 0 0,1,24⟩,
 ⟨323,.struct ⟨[⟨"Accounts",195,0,false, "", "",0⟩,⟨"Subs",196,1,false, "", "",24⟩]⟩,.agg ⟨[.slice none 0 0,.slice none 0 0]⟩,2,48⟩,
 ⟨326,.int .u64,.int .u64 0,1,8⟩,
 ⟨350,.map 9 9,.map none,1,8⟩,
 ⟨357,.map 3 4,.map none,1,8⟩,
 ⟨358,.map 9 357,.map none,1,8⟩,
 ⟨370,.slice 373,.slice none 0 0,1,24⟩,
 ⟨373,.struct ⟨[⟨"at",3,0,false, "", "billing/subscribe",0⟩,⟨"s",260,1,false, "", "billing/subscribe",8⟩]⟩,.agg ⟨[.int .i64 0,.int .i64 0,.int .i64 0,.int .i64 0,Yp [],.slice none 0 0,.slice none 0 0,.bool false,.bool false]⟩,9,104⟩,
 ⟨376,.func ⟨[373,373]⟩ ⟨[4]⟩ false,.nilFunc,1,8⟩,
 ⟨377,.func ⟨[373,373]⟩ ⟨[373]⟩ false,.nilFunc,1,8⟩,
 ⟨379,.pointer 414,.pointer none,1,8⟩,
 ⟨395,.func ⟨[210]⟩ ⟨[4]⟩ false,.nilFunc,1,8⟩,
 ⟨397,.func ⟨[138]⟩ ⟨[4]⟩ false,.nilFunc,1,8⟩,
 ⟨399,.func ⟨[221]⟩ ⟨[4]⟩ false,.nilFunc,1,8⟩,
 ⟨403,.func ⟨[235]⟩ ⟨[4]⟩ false,.nilFunc,1,8⟩,
 ⟨406,.func ⟨[4,4]⟩ ⟨[4]⟩ false,.nilFunc,1,8⟩,
 ⟨408,.func ⟨[133]⟩ ⟨[4]⟩ false,.nilFunc,1,8⟩,
 ⟨410,.map 3 243,.map none,1,8⟩,
 ⟨411,.map 3 260,.map none,1,8⟩,
 ⟨412,.map 9 3,.map none,1,8⟩,
 ⟨414,.struct ⟨[⟨"accounts",410,0,false, "", "billing/customer",0⟩,⟨"subs",411,1,false, "", "billing/customer",8⟩,⟨"ever",357,2,false, "", "billing/customer",16⟩,⟨"owners",412,3,false, "", "billing/customer",24⟩,⟨"live",107,4,false, "", "billing/customer",32⟩,⟨"opened",26,5,false, "", "billing/customer",40⟩,⟨"added",26,6,false, "", "billing/customer",64⟩]⟩,.agg ⟨[.map none,.map none,.map none,.map none,.map none,.slice none 0 0,.slice none 0 0]⟩,7,88⟩,
 ⟨416,.map 3 26,.map none,1,8⟩,
 ⟨426,.func ⟨[127,127]⟩ ⟨[4]⟩ false,.nilFunc,1,8⟩,
 ⟨427,.func ⟨[127,127]⟩ ⟨[127]⟩ false,.nilFunc,1,8⟩,
 ⟨429,.struct ⟨[⟨"Year",3,0,false, "", "",0⟩,⟨"Month",3,1,false, "", "",8⟩,⟨"Day",3,2,false, "", "",16⟩]⟩,.agg ⟨[.int .i64 0,.int .i64 0,.int .i64 0]⟩,3,24⟩,
 ⟨431,.slice 433,.slice none 0 0,1,24⟩,
 ⟨433,.struct ⟨[⟨"at",3,0,false, "", "billing/interval",0⟩,⟨"list",3,1,false, "", "billing/interval",8⟩,⟨"by",3,2,false, "", "billing/interval",16⟩]⟩,.agg ⟨[.int .i64 0,.int .i64 0,.int .i64 0]⟩,3,24⟩,
 ⟨436,.func ⟨[433,433]⟩ ⟨[3]⟩ false,.nilFunc,1,8⟩,
 ⟨437,.array 2 3,.agg ⟨[.int .i64 0,.int .i64 0]⟩,2,16⟩,
 ⟨442,.array 12 3,.agg ⟨[.int .i64 0,.int .i64 0,.int .i64 0,.int .i64 0,.int .i64 0,.int .i64 0,.int .i64 0,.int .i64 0,.int .i64 0,.int .i64 0,.int .i64 0,.int .i64 0]⟩,12,96⟩]
def tx:TX:=⟨tab,[(1,.ref),(2,(.int .i64)),(3,(.int .i64)),(4,.bool),(5,(.int .u8)),(6,(.int .u8)),(9,.str),(22,(.sl Jr)),(23,(.sl Ym)),(24,(.sl J8)),(25,(.sl Fd)),(26,(.sl (.int .i64))),(27,(.sl Vh)),(29,Ks),(30,(.sl Ja)),(31,(.sl Ya)),(32,(.sl Uq)),(34,Yh),(35,(.sl Ui)),(37,Zy),(40,.ref),(43,Yz),(45,Ui),(48,(.int .i64)),(50,Sn),(55,(.sl Yg)),(60,(.sl Yz)),(62,Qju),(71,(.sl (.int .u8))),(74,(.sl Vq)),(76,Xs),(78,Hq),(79,(.sl Xu)),(81,Yg),(89,.ref),(91,Qtb),(101,Ya),(103,Uq),(107,.ref),(109,Qzs),(125,(.sl .str)),(127,J9),(129,Ja),(131,(.sl Zk)),(133,J8),(135,Jr),(136,(.sl Zn)),(138,Uh),(139,(.sl Uh)),(141,Vq),(142,(.sl Xs)),(143,(.sl V7)),(144,(.sl Up)),(146,Ym),(150,Fd),(156,Vh),(160,Zk),(168,.ref),(170,.ref),(173,Qpq),(185,Xu),(195,(.sl Zb)),(196,(.sl Vz)),(198,Zz),(210,V7),(214,(.sl Xt)),(216,Xt),(218,Up),(221,Zn),(235,Du),(243,Zb),(255,(.arr 5 .bool)),(260,Vz),(271,Qbg),(276,Il),(279,.ref),(290,.ref),(291,.ref),(293,Qu3),(296,Zo),(299,(.sl U1)),(301,(.sl J9)),(304,U1),(305,(.sl Fs)),(308,Fs),(315,(.sl Du)),(323,Qtd),(326,(.int .u64)),(350,.ref),(357,.ref),(358,.ref),(370,(.sl V0)),(373,V0),(376,.ref),(377,.ref),(379,.ref),(395,.ref),(397,.ref),(399,.ref),(403,.ref),(406,.ref),(408,.ref),(410,.ref),(411,.ref),(412,.ref),(414,Qpr),(416,.ref),(426,.ref),(427,.ref),(429,Qhl),(431,(.sl Uj)),(433,Uj),(436,.ref),(437,(.arr 2 (.int .i64))),(442,(.arr 12 (.int .i64)))],[]⟩
theorem H5:Tryz.prog.follows .mixedOrders=true:=by kernel_rfl
theorem H6:Q0 Tryz.prog tab:=by repeat (first | exact trivial | refine⟨⟨⟨by kernel_rfl,by kernel_rfl⟩,by kernel_rfl⟩,?_⟩)
abbrev KO(c:Con):Prop:=Qa6 Tryz.prog tx.gl c∧Runs Tryz.prog c.f
abbrev IO(i:It):Prop:=Je5 Tryz.prog tx.gl i∧Runs Tryz.prog i.f
abbrev V:={c // KO c}
def kcs(N:Nat)(L:List (Nat→V)):List Con:=L.map fun k=>(k N).1
theorem Jbp(N:Nat):∀L:List (Nat→V),Q3t Tryz.prog tx.gl (kcs N L)
 | []=>Jum
 | c::L=>Jsh (c N).2.1 (c N).2.2 (Jbp N L)
def Jbq(fn:Func):Bool:=decide (fn.name ≠ "runtime.NumGoroutine")&&!fn.body.isNone
theorem K5{f:FuncId}{fn:Func}(hf:Tryz.prog.funcs[f]?=some fn)(h:Jbq fn=true):Runs Tryz.prog f:=by
 simp only[Jbq,QQ,decide_eq_true_eq,JH]at h
 exact⟨fn,hf,h.1,h.2⟩
theorem kF(N:Nat){c:Con}(L:List (Nat→V))(ps:List (Nat×Pc)){fn:Func}(hf:Tryz.prog.funcs[c.f]?=some fn)(hg:Jbq fn=true:=by rfl)(h:∀x,c.fn x=Jii tx (kcs N L) N fn (Jsk ((kcs N L).map Con.f) ps fn.body) c.ro c.Γ c.Δ x:=by intro x; kernel_rfl):KO c :=
 ⟨Jnq (Y:=tx) (N:=N) H6 H5 (Jbp N L) hf rfl h,K5 hf hg⟩
def ics(L:List {i // IO i}):List It:=L.map (·.1)
theorem Jpf:∀L:List {i // IO i},∀i∈ics L,Je5 Tryz.prog tx.gl i∧Runs Tryz.prog i.f
 | [],_,h=>by cases h
 | c::L,i,h=>by
  rcases QJ.1 h with rfl | h
  ·exact c.2
  ·exact Jpf L i h
theorem kR(N:Nat){c:Con}(L:List (Nat→V))(I:List {i // IO i})(an:AnR){fn:Func}(hf:Tryz.prog.funcs[c.f]?=some fn)(hg:Jbq fn=true)(h:∀x,c.fn x=Jja tx (kcs N L) N (ics I) fn an c.ro c.Γ c.Δ x):KO c :=
 ⟨Jjb (Y:=tx) (N:=N) (an:=an) H6 H5 (Jbp N L) (Jpf I) hf rfl h,K5 hf hg⟩
def P0:Con:=⟨59,(Qbe Jr),[(Bw 135 Jr)],Ju 72,[]⟩
theorem Rp:KO P0:=⟨Vx H6 H5 func59 rfl rfl rfl rfl rfl rfl rfl rfl (by kernel_rfl) (y0:=([]:List Ql)) (by kernel_rfl) (an0:=.reg (.n 1 .done)) (anA:=.two (.reg (.n 1 .done)) .nil) (anC:=.two (.reg (.n 4 .done)) .nil) ⟨by kernel_rfl,by kernel_rfl⟩ (fun xs=>by kernel_rfl) (fun xs=>by kernel_rfl) (fun xs=>by kernel_rfl),K5 func59 rfl⟩
def T7:Con:=⟨60,(Qbe Fd),[(Bw 150 Fd)],Ju 32,[]⟩
theorem Qbw:KO T7:=⟨Vx H6 H5 func60 rfl rfl rfl rfl rfl rfl rfl rfl (by kernel_rfl) (y0:=([]:List Hp)) (by kernel_rfl) (an0:=.reg (.n 1 .done)) (anA:=.two (.reg (.n 1 .done)) .nil) (anC:=.two (.reg (.n 4 .done)) .nil) ⟨by kernel_rfl,by kernel_rfl⟩ (fun xs=>by kernel_rfl) (fun xs=>by kernel_rfl) (fun xs=>by kernel_rfl),K5 func60 rfl⟩
def Qfz:Con:=⟨61,(Qbe (.int .i64)),[(Bw 3 (.int .i64))],Ju 8,[]⟩
theorem Qht:KO Qfz:=⟨Vx H6 H5 func61 rfl rfl rfl rfl rfl rfl rfl rfl (by kernel_rfl) (y0:=([]:List Int)) (by kernel_rfl) (an0:=.reg (.n 1 .done)) (anA:=.two (.reg (.n 1 .done)) .nil) (anC:=.two (.reg (.n 4 .done)) .nil) ⟨by kernel_rfl,by kernel_rfl⟩ (fun xs=>by kernel_rfl) (fun xs=>by kernel_rfl) (fun xs=>by kernel_rfl),K5 func61 rfl⟩
def Ny:Con:=⟨62,(Qbe Ym),[(Bw 146 Ym)],Ju 128,[]⟩
theorem P1:KO Ny:=⟨Vx H6 H5 func62 rfl rfl rfl rfl rfl rfl rfl rfl (by kernel_rfl) (y0:=([]:List Qx)) (by kernel_rfl) (an0:=.reg (.n 1 .done)) (anA:=.two (.reg (.n 1 .done)) .nil) (anC:=.two (.reg (.n 4 .done)) .nil) ⟨by kernel_rfl,by kernel_rfl⟩ (fun xs=>by kernel_rfl) (fun xs=>by kernel_rfl) (fun xs=>by kernel_rfl),K5 func62 rfl⟩
def Mm:Con:=⟨63,(Qbe J8),[(Bw 133 J8)],Ju 80,[]⟩
theorem Nz:KO Mm:=⟨Vx H6 H5 func63 rfl rfl rfl rfl rfl rfl rfl rfl (by kernel_rfl) (y0:=([]:List Qn)) (by kernel_rfl) (an0:=.reg (.n 1 .done)) (anA:=.two (.reg (.n 1 .done)) .nil) (anC:=.two (.reg (.n 4 .done)) .nil) ⟨by kernel_rfl,by kernel_rfl⟩ (fun xs=>by kernel_rfl) (fun xs=>by kernel_rfl) (fun xs=>by kernel_rfl),K5 func63 rfl⟩
def Ib:Con:=⟨64,(Qbe Vh),[(Bw 156 Vh)],Ju 72,[]⟩
theorem Ls:KO Ib:=⟨Vx H6 H5 func64 rfl rfl rfl rfl rfl rfl rfl rfl (by kernel_rfl) (y0:=([]:List Q2)) (by kernel_rfl) (an0:=.reg (.n 1 .done)) (anA:=.two (.reg (.n 1 .done)) .nil) (anC:=.two (.reg (.n 4 .done)) .nil) ⟨by kernel_rfl,by kernel_rfl⟩ (fun xs=>by kernel_rfl) (fun xs=>by kernel_rfl) (fun xs=>by kernel_rfl),K5 func64 rfl⟩
def Rq:Con:=⟨105,(Qbe V7),[(Bw 210 V7)],Ju 40,[]⟩
theorem T8:KO Rq:=⟨Vx H6 H5 func105 rfl rfl rfl rfl rfl rfl rfl rfl (by kernel_rfl) (y0:=([]:List Q4)) (by kernel_rfl) (an0:=.reg (.n 1 .done)) (anA:=.two (.reg (.n 1 .done)) .nil) (anC:=.two (.reg (.n 4 .done)) .nil) ⟨by kernel_rfl,by kernel_rfl⟩ (fun xs=>by kernel_rfl) (fun xs=>by kernel_rfl) (fun xs=>by kernel_rfl),K5 func105 rfl⟩
def Rr:Con:=⟨106,(Qbe Uh),[(Bw 138 Uh)],Ju 40,[]⟩
theorem T9:KO Rr:=⟨Vx H6 H5 func106 rfl rfl rfl rfl rfl rfl rfl rfl (by kernel_rfl) (y0:=([]:List Jg)) (by kernel_rfl) (an0:=.reg (.n 1 .done)) (anA:=.two (.reg (.n 1 .done)) .nil) (anC:=.two (.reg (.n 4 .done)) .nil) ⟨by kernel_rfl,by kernel_rfl⟩ (fun xs=>by kernel_rfl) (fun xs=>by kernel_rfl) (fun xs=>by kernel_rfl),K5 func106 rfl⟩
def Rs:Con:=⟨107,(Qbe Xs),[(Bw 76 Xs)],Ju 72,[]⟩
theorem Qaa:KO Rs:=⟨Vx H6 H5 func107 rfl rfl rfl rfl rfl rfl rfl rfl (by kernel_rfl) (y0:=([]:List Y7)) (by kernel_rfl) (an0:=.reg (.n 1 .done)) (anA:=.two (.reg (.n 1 .done)) .nil) (anC:=.two (.reg (.n 4 .done)) .nil) ⟨by kernel_rfl,by kernel_rfl⟩ (fun xs=>by kernel_rfl) (fun xs=>by kernel_rfl) (fun xs=>by kernel_rfl),K5 func107 rfl⟩
def Lt:Con:=⟨108,(Qbe Up),[(Bw 218 Up)],Ju 80,[]⟩
theorem Mp:KO Lt:=⟨Vx H6 H5 func108 rfl rfl rfl rfl rfl rfl rfl rfl (by kernel_rfl) (y0:=([]:List Ji)) (by kernel_rfl) (an0:=.reg (.n 1 .done)) (anA:=.two (.reg (.n 1 .done)) .nil) (anC:=.two (.reg (.n 4 .done)) .nil) ⟨by kernel_rfl,by kernel_rfl⟩ (fun xs=>by kernel_rfl) (fun xs=>by kernel_rfl) (fun xs=>by kernel_rfl),K5 func108 rfl⟩
def Qbx:Con:=⟨67,(Qbe .str),[(Bw 9 .str)],Ju 16,[]⟩
theorem Zh:KO Qbx:=⟨Vx H6 H5 func67 rfl rfl rfl rfl rfl rfl rfl rfl (by kernel_rfl) (y0:=([]:List Str)) (by kernel_rfl) (an0:=.reg (.n 1 .done)) (anA:=.two (.reg (.n 1 .done)) .nil) (anC:=.two (.reg (.n 4 .done)) .nil) ⟨by kernel_rfl,by kernel_rfl⟩ (fun xs=>by kernel_rfl) (fun xs=>by kernel_rfl) (fun xs=>by kernel_rfl),K5 func67 rfl⟩
def Rt:Con:=⟨109,(Qbe Zn),[(Bw 221 Zn)],Ju 24,[]⟩
theorem Qab:KO Rt:=⟨Vx H6 H5 func109 rfl rfl rfl rfl rfl rfl rfl rfl (by kernel_rfl) (y0:=([]:List Xj)) (by kernel_rfl) (an0:=.reg (.n 1 .done)) (anA:=.two (.reg (.n 1 .done)) .nil) (anC:=.two (.reg (.n 4 .done)) .nil) ⟨by kernel_rfl,by kernel_rfl⟩ (fun xs=>by kernel_rfl) (fun xs=>by kernel_rfl) (fun xs=>by kernel_rfl),K5 func109 rfl⟩
def Ru:Con:=⟨68,(Qbe Vq),[(Bw 141 Vq)],Ju 24,[]⟩
theorem Vj:KO Ru:=⟨Vx H6 H5 func68 rfl rfl rfl rfl rfl rfl rfl rfl (by kernel_rfl) (y0:=([]:List Qo)) (by kernel_rfl) (an0:=.reg (.n 1 .done)) (anA:=.two (.reg (.n 1 .done)) .nil) (anC:=.two (.reg (.n 4 .done)) .nil) ⟨by kernel_rfl,by kernel_rfl⟩ (fun xs=>by kernel_rfl) (fun xs=>by kernel_rfl) (fun xs=>by kernel_rfl),K5 func68 rfl⟩
def Rv:Con:=⟨148,(Qbe Xt),[(Bw 216 Xt)],Ju 56,[]⟩
theorem Qac:KO Rv:=⟨Vx H6 H5 func148 rfl rfl rfl rfl rfl rfl rfl rfl (by kernel_rfl) (y0:=([]:List Jb)) (by kernel_rfl) (an0:=.reg (.n 1 .done)) (anA:=.two (.reg (.n 1 .done)) .nil) (anC:=.two (.reg (.n 4 .done)) .nil) ⟨by kernel_rfl,by kernel_rfl⟩ (fun xs=>by kernel_rfl) (fun xs=>by kernel_rfl) (fun xs=>by kernel_rfl),K5 func148 rfl⟩
def N0:Con:=⟨66,(Qbe Zk),[(Bw 160 Zk)],Ju 64,[]⟩
theorem P2:KO N0:=⟨Vx H6 H5 func66 rfl rfl rfl rfl rfl rfl rfl rfl (by kernel_rfl) (y0:=([]:List Yn)) (by kernel_rfl) (an0:=.reg (.n 1 .done)) (anA:=.two (.reg (.n 1 .done)) .nil) (anC:=.two (.reg (.n 4 .done)) .nil) ⟨by kernel_rfl,by kernel_rfl⟩ (fun xs=>by kernel_rfl) (fun xs=>by kernel_rfl) (fun xs=>by kernel_rfl),K5 func66 rfl⟩
def N1:Con:=⟨69,(Qbe Ja),[(Bw 129 Ja)],Ju 120,[]⟩
theorem H7:KO N1:=⟨Vx H6 H5 func69 rfl rfl rfl rfl rfl rfl rfl rfl (by kernel_rfl) (y0:=([]:List Qa)) (by kernel_rfl) (an0:=.reg (.n 1 .done)) (anA:=.two (.reg (.n 1 .done)) .nil) (anC:=.two (.reg (.n 4 .done)) .nil) ⟨by kernel_rfl,by kernel_rfl⟩ (fun xs=>by kernel_rfl) (fun xs=>by kernel_rfl) (fun xs=>by kernel_rfl),K5 func69 rfl⟩
def N2:Con:=⟨70,(Qbe Ya),[(Bw 101 Ya)],Ju 40,[]⟩
theorem H8:KO N2:=⟨Vx H6 H5 func70 rfl rfl rfl rfl rfl rfl rfl rfl (by kernel_rfl) (y0:=([]:List Qc)) (by kernel_rfl) (an0:=.reg (.n 1 .done)) (anA:=.two (.reg (.n 1 .done)) .nil) (anC:=.two (.reg (.n 4 .done)) .nil) ⟨by kernel_rfl,by kernel_rfl⟩ (fun xs=>by kernel_rfl) (fun xs=>by kernel_rfl) (fun xs=>by kernel_rfl),K5 func70 rfl⟩
def Mq:Con:=⟨71,(Qbe Uq),[(Bw 103 Uq)],Ju 40,[]⟩
theorem Hd:KO Mq:=⟨Vx H6 H5 func71 rfl rfl rfl rfl rfl rfl rfl rfl (by kernel_rfl) (y0:=([]:List Qd)) (by kernel_rfl) (an0:=.reg (.n 1 .done)) (anA:=.two (.reg (.n 1 .done)) .nil) (anC:=.two (.reg (.n 4 .done)) .nil) ⟨by kernel_rfl,by kernel_rfl⟩ (fun xs=>by kernel_rfl) (fun xs=>by kernel_rfl) (fun xs=>by kernel_rfl),K5 func71 rfl⟩
def Rw:Con:=⟨86,(Qbe Xu),[(Bw 185 Xu)],Ju 48,[]⟩
theorem Fj:KO Rw:=⟨Vx H6 H5 func86 rfl rfl rfl rfl rfl rfl rfl rfl (by kernel_rfl) (y0:=([]:List Qi)) (by kernel_rfl) (an0:=.reg (.n 1 .done)) (anA:=.two (.reg (.n 1 .done)) .nil) (anC:=.two (.reg (.n 4 .done)) .nil) ⟨by kernel_rfl,by kernel_rfl⟩ (fun xs=>by kernel_rfl) (fun xs=>by kernel_rfl) (fun xs=>by kernel_rfl),K5 func86 rfl⟩
def He:Con:=⟨68,(Jsl 141 Vq),[(Juq 141 Vq)],fun(xs:List Qo)=>Qzp 24 xs,[]⟩
theorem P3:KO He:=⟨Jfb H6 H5 (c:=He) func68 (fA:=fun(xs:List Qo)=>some (xs,([]:List Qo))) rfl rfl rfl rfl rfl rfl rfl rfl (by kernel_rfl) (by kernel_rfl) (an0:=.reg (.n 1 .done)) (anA:=.two (.reg (.n 1 .done)) .nil) (anC:=.two (.reg (.n 4 .done)) .nil) (fun _=>⟨by kernel_rfl,by kernel_rfl⟩) (g:=Qit tx.gl) (fun _=>by kernel_rfl) (e:=141) (u:=Vq) (fx:=fun(xs:List Qo)=>xs) (fun _=>by kernel_rfl) (fun xs h=>by rw[show xs=([]:List Qo)from h]; kernel_rfl) (fun _=>by kernel_rfl) (fun _=>by kernel_rfl) (fun _=>by kernel_rfl),K5 func68 rfl⟩
def Um:Con:=⟨314,⟨[(0,.s 5000),(1,.f 315 (.nil))],[(5000,.row 433 Uj)]⟩,[⟨[],[(5000,.row 433 Uj)]⟩],Qiz (fun x:Q9=>x.1),[]⟩
theorem H9:KO Um:=⟨Jff (c:=Um) (e:=433) (u:=Uj) rfl (fun x=>x) (fun y=>y) (ev:=[⟨1,[],.f 315 .nil⟩]) (vx:=[.func (.func 315) #[] #[]]) rfl (fun _=>by kernel_rfl) (fun _=>by kernel_rfl) rfl Jnu (fun _ _=>Jfi) (fun p w=>AnyF.slices_SortFunc_none { Tryz.sortFunc314 with } p 0 _ w) (fun _ _ h blk cap w hH hb _=>Q4f (u:=Uj) rfl (fun x:Q9=>x.1) Tryz.sortFunc314 isAgg433 sizeOf433 (enters_of func315 (by kernel_rfl) rfl) Tryz.clo315 h blk cap w hH hb),K5 func314 rfl⟩
def Rx:Con:=⟨72,(inK 113 89 Yg),[Jnt],fun(xs:List (Int×Qb))=>Qix xs,[5000,5001]⟩
theorem Fk:KO Rx:=⟨Q4d (fun _=>by kernel_rfl) Tryz.underlying3 (Tryz.sortedKeys113 Qc0),K5 func72 rfl⟩
def zs1:Shp:=sD [.bool]
def zs2:Sk:=.d .i
def zs3:Shp:=⟨[(9,zs2)],[]⟩
def zs4:Sk:=.d .bool
def zs5:Hn:=.n 1 .done
def zs6:Hn:=.nl 7 zs5
def zs7:Shp:=sD [.i]
def zs8:Shp:=⟨[(13,zs4)],[]⟩
def zs9:Shp:=⟨[(17,zs4)],[]⟩
def Jsm:Shp:=⟨[(22,zs4)],[]⟩
def Qtf:Shp:=sD [.str]
def Qeo:Hn:=.nl 3 zs5
def P4:Shp:=⟨[(3,zs2)],[]⟩
def Qj1:Exs:=[(.x 0,⟨[],[]⟩),(.r,⟨[(2,zs4)],[]⟩)]
def Jsn:Shp:=⟨[(37,zs4)],[]⟩
def Ea:Hn:=.nl 4 zs5
def Jnv:Shp:=⟨[(49,zs4)],[]⟩
def Jso:Hn:=.nl 5 .done
def Jsp:Shp:=⟨[(55,zs4)],[]⟩
def Jjk:Shp:=⟨[(19,zs4)],[]⟩
def Q87:Hn:=.nl 8 zs5
def Qps:Hn:=.nl 1 zs5
def Jnw:Hn:=.nl 4 (.n 3 Qps)
def Jjl:Hn:=.call 1 Qps
def Jjm:Hn:=.nl 2 Jjl
def Jsq:Hn:=.nl 2 (.call 2 Qps)
def Jnx:Hn:=.n 15 .done
def Jut:Hn:=.nl 2 (.call 3 Qps)
def Jny:Shp:=sD [Zz,.i]
def Ic:Shp:=⟨[(5,zs2)],[]⟩
def Q4g:Shp:=⟨[(4,zs2)],[]⟩
def Qno:Exs:=[(.x 0,⟨[],[]⟩),(.r,Q4g)]
def Qhu:Exs:=[(.x 0,⟨[],[]⟩),(.r,⟨[(4,zs4)],[]⟩)]
def Jjn:Hn:=.call 0 Qps
def Jfj:Hn:=.nl 2 zs5
def Juu:HT:=.a (.a (.a (.a (.a (.a (.a (.tl Jfj)))))))
def Jsr:Shp:=sD [Zz,Jr]
def Jnz:Hn:=.nl 3 Jjl
def Qzt:Hn:=.nl 5 zs5
def Jn0:Shp:=⟨[(41,zs4)],[]⟩
def Jss:Hn:=.call 2 zs5
def Q4h:Shp:=sD [.sl .str,.str]
def Juv:Exs:=[(.n,⟨[],[]⟩),(.r,Q4g)]
def Jst:Shp:=⟨[(62,zs4)],[]⟩
def Ry:Sk:=.s 1
def Qf0:List (Nat×Sk):=[(0,Ry)]
def Q4i:SkO:=.row 9 .str
def Q88:Shp:=⟨Qf0,[(1,Q4i)]⟩
def Q89:Shp:=⟨[(18,zs4)],[]⟩
def Qnp:Hn:=.nl 6 zs5
def Qhv:Sk:=.s 100000
def Qtg:Sk:=.s 100200
def Jsu:Exs:=[(.x 0,⟨[(5,Qtg)],[(100200,Q4i)]⟩)]
def Qpt:Sk:=.s 100100
def Jsv:Exs:=[(.n,⟨[(5,Qpt)],[(100100,Q4i)]⟩)]
def Juw:Shp:=sD [Vz,Jr]
def Qhw:Sk:=.p 100000 []
def V9:Sk:=.d .str
def Jsw:SkO:=.var 260 (.ag (sL [zs2,zs2,zs2,V9,.d (.sl .str),.d (.sl .str),zs4,zs4]))
def Qhx:Sk:=.s 2
def Q4j:Sk:=.s 3
def Jux:List (Nat×Sk):=[(0,.ag (sL [Ry,Qhx,Q4j]))]
def Q9a:SkO:=.row 243 Zb
def Qu4:SkO:=.row 260 Vz
def Fl:SkO:=.row 3 .i
def Eo:HT:=.tl zs5
def Qhy:Sk:=.p 100100 []
def Jn1:Sk:=.p 100101 []
def Jfk:Sk:=.s 100102
def Jsx:Sk:=.s 100103
def Qth:Sk:=.p 100200 []
def Q9b:Sk:=.s 100201
def Jfl:Sk:=.s 100202
def Jsy:Sk:=.s 100203
def Qu5:Hn:=.n 3 .done
def Qlq:HT:=.tl Qu5
def Juy:Exs:=[(.n,⟨[(90,zs4)],[]⟩)]
def Qu6:Hn:=.n 2 .done
def Q4k:HT:=.tl Qu6
def Qhz:Shp:=sD [.i,.i]
def Qti:Sk:=.s 100001
def Jfm:Sk:=.s 100002
def Jsz:Sk:=.s 100003
def Qzu:Hn:=.n 6 .done
def Q9c:Hn:=.call 0 zs5
def Jn2:Hn:=.n 5 .done
def Jn3:Hn:=.call 1 zs5
def Qpu:Exs:=[(.x 0,⟨[],[]⟩),(.r,⟨[(2,zs2)],[]⟩)]
def Js0:Exs:=[(.x 2,⟨[],[]⟩),(.r,⟨[(2,zs2)],[]⟩)]
def Juz:Shp:=sD [J8]
def Js1:Shp:=⟨[(63,zs4)],[]⟩
def Jn4:Hn:=.nl 13 .done
def Js2:Shp:=sD [.int .u8]
def Q9d:Hn:=.nl 2 Jjn
def Q9e:Shp:=⟨[(7,zs2)],[]⟩
def Ju0:Exs:=[(.x 0,⟨[],[]⟩),(.r,⟨[(6,zs4)],[]⟩)]
def Qpv:Shp:=⟨[(8,zs2)],[]⟩
def Jjo:Shp:=⟨[(6,zs2)],[]⟩
def Qtj:Hn:=.n 8 .done
def Jpg:Shp:=sD [.sl V7]
def Jph:Shp:=sD [.sl Uh]
def Jpi:Shp:=sD [Ym,.str]
def Jjp:Shp:=sD [.sl Vq]
def Q4l:Shp:=sD [Ym]
def Qw3:Shp:=sD [Xt]
def Jbr:HT:=.a Eo
def Qlr:Hn:=.n 7 .done
def Jpj:Exs:=[(.n,⟨[(42,zs4)],[]⟩)]
def Jpk:Shp:=⟨[(7,Qhv),(8,zs2)],[(100000,Fl)]⟩
def Jpl:Shp:=⟨[(4,zs2),(5,zs2)],[]⟩
def Jjq:Shp:=sD [Ks]
def Jbs:Shp:=sD [.sl Ja]
def Q4m:Shp:=sD [Yh]
def Q4n:Shp:=sD [Ja,Ja]
def Jjr:Shp:=⟨[(30,zs4)],[]⟩
def Jpm:HT:=.a (.a (.a (.a (.tl Qps))))
def Jpn:HT:=.a Jpm
def Q4o:HT:=.a (.a Jpn)
def Jpo:Shp:=sD [.sl Ya]
def Jbt:Shp:=sD [J9]
def Q4p:Shp:=sD [Ja]
def Jjs:Shp:=sD [Ya]
def Jpp:Shp:=sD [Zy]
def Jbu:SkO:=.row 216 Xt
def Jjt:HT:=.k 1 [] [] [] [] Q4k
def Qf1:SkO:=.row 210 V7
def Qls:SkO:=.row 138 Uh
def Qtk:SkO:=.row 76 Xs
def Q4q:SkO:=.row 218 Up
def Jpq:List (Nat×SkO):=[(1,Qf1),(2,Qls),(3,Qtk),(4,Q4q)]
def Jpr:Shp:=⟨[(0,.ag (sL [V9,zs2,zs4,Ry,Qhx,Q4j,.s 4]))],Jpq⟩
def Jju:SkO:=.row 135 Jr
def Q4r:SkO:=.row 146 Ym
def Qlt:SkO:=.row 133 J8
def Jjv:SkO:=.row 150 Fd
def Q4s:SkO:=.row 156 Vh
def Jps:HT:=.b 1 (.tl Jn2)
def Qw4:Sk:=.s 100300
def Qw5:SkO:=.row 160 Zk
def Q4t:Sk:=.s 100400
def Un:SkO:=.row 129 Ja
def Yr:SkO:=.row 101 Ya
def Ch:SkO:=.row 103 Uq
def Qw6:Shp:=⟨Jux,[(1,Un),(2,Yr),(3,Ch)]⟩
def Jjw:List (Nat×Sk):=[(0,.p 1 [])]
def Vd:SkO:=.map .i Yg
def Zl:Sk:=.p 5000 []
def Bh:List (Nat×Sk):=[(0,Zl)]
def Qo4:Sk:=.s 5001
def Qtl:Sk:=.s 5002
def Qw7:Sk:=.s 5003
def Jbv:Sk:=.s 5004
def Jbw:Sk:=.m 5010
def Jjx:List (Nat×SkO):=[(5000,.var 91 (.ag (sL [.ag (sL [Qo4,Qtl,Qw7,Jbv,.s 5005,.s 5006]),.ag (sL [.s 5007,.s 5008,.s 5009]),Jbw]))),(5001,Jju),(5002,Q4r),(5003,Qlt),(5004,Jjv),(5005,Fl),(5006,Q4s),(5007,Un),(5008,Yr),(5009,Ch),(5010,Vd)]
def Jpt:Shp:=sD [Yg]
def Jpu:Sk:=.ag (sL [zs2,V9,V9,zs2,Ry])
def Jjy:Sk:=.ag (sL [zs2,zs2,zs2,V9,V9,zs2,Jpu,zs2,zs2])
def Ka:Sk:=.d Sn
def Qtm:SkO:=.row 141 Vq
def Zm:SkO:=.row 185 Xu
def Jpv:Shp:=⟨[(0,.ag (sL [zs2,zs2,zs2,zs2,Jjy,zs2,Qhx,zs2,zs2,zs4,Ka]))],[(1,Qtm),(2,Zm)]⟩
def Jjz:List (Nat×Sk):=[(5,Qhv),(10,zs2)]
def Qo5:Sk:=.p 100300 []
def Jj0:Sk:=.p 100301 []
def Jbx:SkO:=.var 260 (.ag (sL [zs2,zs2,zs2,V9,.ns,.ns,zs4,zs4]))
def Qw8:Shp:=sD [.sl Jr,.i]
def Qo6:SkO:=.row 373 V0
def Qw9:Sk:=.p 100001 []
def Jj1:Sk:=.d Vz
def Jj2:SkO:=.var 260 Jj1
def Jj3:Sk:=.p 100201 []
def Jby:Hn:=.nl 9 zs5
def Jpw:Shp:=sD [V0,V0]
def Jpx:List (Nat×Sk):=[(7,Qhv),(13,zs2)]
def Jbz:SkO:=.row 235 Du
def Jpy:List (Nat×Sk):=[(6,Qhv),(16,zs2)]
def Qo7:Sk:=.d J9
def Jb0:Shp:=sD [.sl Jr,.i,.i]
def Jpz:SkO:=.var 235 (.ag (sL [Qo7,V9,.ns,zs4,zs4]))
def Jj4:List (Nat×Sk):=[(6,Qth),(7,zs4)]
def Q4u:SkO:=.map .i Zb
def Qo8:SkO:=.map .i .bool
def Qlu:SkO:=.map .i .i
def Jj5:Sk:=.d (.sl Jr)
def P5:SkO:=.var 3 zs2
def Jb1:Shp:=sD [.sl .i,.i]
def Nm:Sk:=.m 5001
def S8:Sk:=.m 5002
def Jb2:Sk:=.m 5003
def Jb3:Sk:=.m 5004
def Jb4:Sk:=.m 5005
def Jj6:List (Nat×SkO):=[(5000,.var 414 (.ag (sL [Nm,S8,Jb2,Jb3,Jb4,.s 5006,.s 5007]))),(5001,Q4u),(5002,.map .i Vz),(5003,Qo8),(5004,.map .str .i),(5005,Qlu),(5006,Fl),(5007,Fl)]
def Jj7:List (Nat×SkO):=[(5004,.map .str .i)]
def Lu:Hn:=.dt 5000 .done
def Jp0:Shp:=⟨[(0,.ag (sL [Ry,Qhx]))],[(1,Q9a),(2,Qu4)]⟩
def Jj8:Sk:=.m 100001
def Jj9:SkO:=.mapC .i (.sl 3 .i)
def Qxa:Sk:=.s 100301
def Q4v:Sk:=.s 100302
def Q4w:Sk:=.p 100400 []
def Q4x:Sk:=.s 100401
def Jb5:Sk:=.s 100402
def Jp1:List (Nat×Sk):=[(6,Qhw),(15,zs2)]
def Jp2:Shp:=sD [.sl Zn]
def Jb6:List (Nat×SkO):=[(1,Qtm)]
def Q4y:List (Nat×Sk):=[(3,Qpt)]
def Qo9:Sk:=.s 100101
def Jka:Sk:=.s 100501
def Jkb:Sk:=.s 100502
def Jb7:Hn:=.n 4 .done
def Jkc:Exs:=[(.x 0,Qpv)]
def Jp3:List (Nat×SkO):=[(5000,.var 210 (.d V7))]
def Jkd:Sk:=sL [Zl]
def Jp4:Shp:=⟨[(0,.d (.sl V7)),(1,.f 276 Jkd)],Jp3⟩
def Qxb:SkO:=.map .str .str
def Jke:Sk:=.m 100000
def Jkf:Sk:=.m 100100
def Jp5:An:=.two (.reg Qu6) .nil
def Jp6:List (Nat×SkO):=[(5000,.var 138 (.d Uh))]
def Jp7:Shp:=⟨[(0,.d (.sl Uh)),(1,.f 279 Jkd)],Jp6⟩
def Jkg:Shp:=⟨[(13,zs2)],[]⟩
def Qf2:Sk:=.p 5001 []
def Jp8:List (Nat×SkO):=[(5000,P5),(5001,P5)]
def Jp9:Shp:=⟨[(0,.d (.sl Zn)),(1,.f 281 (sL [Zl,Qf2]))],Jp8⟩
def Q4z:SkO:=.var 9 V9
def Jqa:SkO:=.var 76 (.ag (sL [zs2,V9,V9,zs2,.ns]))
def Jqb:Shp:=sD [Yh,Yg]
def Jkh:Shp:=⟨[(0,.ag (sL [zs2,zs2,V9,zs2,zs2,Ry,Qo7,zs2,zs2,zs2,zs4]))],[(1,Q4i)]⟩
def Jki:Shp:=sD [J9,J9]
def Jb8:Sk:=.d (.sl J9)
def Lv:SkO:=.row 127 J9
def Qtn:Shp:=⟨Qf0,[(1,Lv)]⟩
def Jkj:List (Nat×SkO):=[(100000,Lv)]
def Jqc:Exs:=[(.x 0,⟨[(7,Qtg)],[(100200,Lv)]⟩)]
def Jqd:Exs:=[(.n,⟨[(7,Qpt)],[(100100,Lv)]⟩)]
def Jb9:SkO:=.row 304 U1
def Qxc:SkO:=.mapC .str (.mp .i .bool)
def Jkk:Shp:=⟨[(11,zs2)],[]⟩
def Jca:SkO:=.var 429 (.d Qhl)
def Jqe:HT:=.b 1 (.c 1 Qlq)
def Qpa:SkO:=.row 433 Uj
def Jqf:Shp:=⟨[(0,Jb8),(1,zs2),(2,Zl)],[(5000,.var 431 Qo4),(5001,Qpa)]⟩
def Jqg:Shp:=⟨[],[(5000,.var 431 Ry),(1,Qpa)]⟩
def Jqh:SkO:=.var 437 (.d (.arr 2 .i))
def Jqi:List (Nat×SkO):=[(5000,Q4z),(5001,P5)]
def Jqj:Sk:=.d (.sl J8)
def Jcb:SkO:=.row 308 Fs
def Qed:SkO:=.map Zo .bool
def Jqk:HT:=.k 0 [] [] [] [] Eo
def Jql:HT:=.a Q4o
def Qlv:Shp:=sD [Ya,.i]
def Q40:SkO:=.var 101 (.d Ya)
def Jqm:Hn:=.n 2 (.call 4 .done)
def Jqn:HT:=.a (.a (.a (.tl Qeo)))
def Jqo:HT:=.a (.a (.a (.a (.a (.a (.a (.a (.a (.a (.a Jqn))))))))))
def Jkl:Hn:=.nl 3 Jjn
def Jqp:SkO:=.var 243 (.ag (sL [zs2,zs2,zs2,zs4,zs4,.ns]))
def Jqq:Shp:=sD [.sl Vq,.i]
def Jqr:Exs:=[(.n,⟨[(10,zs2)],[]⟩)]
def Jqs:Shp:=sD [Il,.i]
def Kb:Sk:=.d Ks
def Wi:Sk:=.d (.sl Ja)
def Jcc:Sk:=.s 5000
def Lw:Sk:=.d (.sl Uq)
def Jcd:Sk:=.ag (sL [Wi,Jcc,Lw])
def Qee:Sk:=.d Hq
def Jkm:List (Nat×Sk):=[(0,.d Ya),(1,Zl)]
def Jqt:Sk:=.ag (sL [zs2,zs2,zs2,zs2,Qee,zs2,Qtl,zs2,zs2,zs4,Ka])
def Jkn:List (Nat×Sk):=[(0,Jcc),(1,.f 158 (sL [Qf2]))]
def Jqu:Sk:=.ag (sL [zs2,zs2,zs2,zs2,Qee,zs2,Qw7,zs2,zs2,zs4,Ka])
def Jqv:Sk:=.ag (sL [Wi,Qtl,Lw])
def Qxd:List (Nat×SkO):=[(5000,.var 173 (.ag (sL [.ag (sL [zs2,zs2,zs2,zs2,Qee,zs2,Qo4,zs2,zs2,zs4,Ka]),Jqv]))),(5001,Zm),(5002,Yr)]
def Qpb:List (Nat×Sk):=[(0,zs2)]
def Qi4:List (Nat×Sk):=[(0,Zl),(1,zs2)]
def Jko:Sk:=.ag (sL [zs2,zs2,zs2,zs2,Qee,zs2,Ry,zs2,zs2,zs4,Ka])
def Jkp:Sk:=.ag (sL [Wi,Qhx,Lw])
def Jqw:List (Nat×SkO):=[(5000,.var 173 (.ag (sL [Jko,Jkp]))),(1,Zm),(2,Yr)]
def Q41:HT:=.tl Jb7
def Jqx:List (Nat×Sk):=[(0,Zl),(1,Kb),(2,zs2),(3,zs2)]
def Jqy:List (Nat×SkO):=[(5000,.var 173 (.ag (sL [.ag (sL [zs2,zs2,zs2,zs2,.ag (sL [zs2,zs2,zs2,V9,V9,zs2,.ag (sL [zs2,V9,V9,zs2,Qo4]),zs2,zs2]),zs2,Qtl,zs2,zs2,zs4,Ka]),.ag (sL [Qw7,Jbv,.s 5005])]))),(5001,Qtm),(5002,Zm),(5003,Un),(5004,Yr),(5005,Ch)]
def Jce:Sk:=.ag (sL [zs2,zs2,zs2,V9,V9,zs2,.ag (sL [zs2,V9,V9,zs2,.d (.sl Vq)]),zs2,zs2])
def Jqz:HT:=.d 5000 5000 (.b 5000 (.b 5000 (.g [5000] [23702] [] [5000,14802,23701,23702] (.tl .done))))
def Jkq:List (Nat×Sk):=[(0,Zl),(1,.d Yz),(2,zs2),(3,zs2),(4,zs2)]
def Qlw:Sk:=.ag (sL [Wi,Ry,Lw])
def Jq0:Sk:=.ag (sL [zs2,zs2,zs2,zs2,Qee,zs2,Qhx,zs2,zs2,zs4,Ka])
def Jq1:Shp:=⟨[(0,Qlw),(1,Jq0),(2,Ka)],[(5000,.var 173 (.ag (sL [Jq0,Qlw]))),(1,Yr),(2,Zm)]⟩
def Jq2:List (Nat×Sk):=[(0,Zl),(1,.d Yz),(2,zs2)]
def Jkr:Exs:=[(.n,zs3)]
def Jq3:HT:=.a Qlq
def Qi5:Sk:=.d Yg
def Q42:List (Nat×SkO):=[(5000,.var 173 (.ag (sL [Qi5,Qlw]))),(1,Yr)]
def Jq4:Shp:=⟨[(4,zs2),(5,Qhv),(25,zs2)],[(100000,Zm)]⟩
def Jq5:Exs:=[(.x 0,⟨[(4,zs2),(5,Qtg)],[(100200,Zm)]⟩)]
def Jq6:List (Nat×Sk):=[(0,Zl),(11,zs2)]
def Jq7:Sk:=.ag (sL [zs2,zs2,zs2,zs2,Qee,zs2,Jka,zs2,zs2,zs4,Ka])
def Jq8:Sk:=.ag (sL [Wi,Qo4,Lw])
def Q43:List (Nat×SkO):=[(5000,.var 173 (.ag (sL [Qi5,Jq8]))),(5001,Yr)]
def Jq9:Shp:=⟨[(0,Qlw),(1,Qi5),(2,Ka)],Q42⟩
def Jra:HT:=.f 11 11 Eo
def Jrb:Sk:=.d (.sl Xu)
def Jks:Sk:=.ag (sL [zs2,zs2,zs2,zs2,Jce,zs2,Jrb,zs2,zs2,zs4,Ka])
def Jrc:Shp:=⟨[(0,Qlw),(1,Jks),(2,Ka)],[(1,Yr)]⟩
def Qto:List (Nat×Sk):=[(0,Zl),(1,.d Yz)]
def Q44:List (Nat×Sk):=[(0,Ka)]
def Jkt:HT:=.b 40 (.tl (.br .done))
def Jcf:Sk:=.ag (sL [Wi,Ry,Qhx])
def Jku:List (Nat×SkO):=[(5000,.var 173 (.ag (sL [Qi5,Jcf]))),(1,Yr),(2,Ch)]
def Jrd:SkO:=.tail 129 Ja
def Jkv:List (Nat×SkO):=[(5000,.var 173 (.ag (sL [Qi5,.ag (sL [Wi,Qo4,Qtl])]))),(5001,Yr),(5002,Ch)]
def Jre:Shp:=sD [Ks,Yh,Yg,Yz]
def Jrf:HT:=.a Jq3
def Jkw:Sk:=.ag (sL [Jj5,.d (.sl Ym),Jqj,.d (.sl Fd),.d (.sl .i),.d (.sl Vh)])
def Jrg:HT:=.f 5 5 Eo
def Jcg:HT:=.a (.a (.a (.e 5 Jrg)))
def Jch:List (Nat×Sk):=[(7,.p 100002 [])]
def Q45:Sk:=.ag (sL [Wi,Jsz,Lw])
def Jrh:HT:=.f 5010 5010 Eo
def Qxe:List (Nat×SkO):=[(5000,.var 91 (.ag (sL [Kb,Jq8,S8]))),(5001,Yr),(5002,Vd)]
def Jkx:Shp:=⟨Q44,[(5000,.var 91 (.ag (sL [Kb,Qlw,S8]))),(5002,Vd),(1,Yr)]⟩
def Jci:HT:=.f 5002 5002 Eo
def Jri:List (Nat×Sk):=[(0,.d (.sl .i))]
def Jcj:SkO:=.tail 101 Ya
def Jky:List (Nat×Sk):=[(0,Zl),(5,Jfm),(15,zs2)]
def Qef:Sk:=.d Yh
def Qpc:List (Nat×SkO):=[(5000,.var 91 (.ag (sL [Kb,Qef,Nm]))),(5001,Vd)]
def Q46:Shp:=⟨Bh,Qpc⟩
def Qxf:Sk:=.ag (sL [Wi,.d (.sl Ya),Lw])
def Jrj:List (Nat×SkO):=[(5000,.var 91 (.ag (sL [Kb,Qxf,Nm]))),(5001,Vd)]
def Jck:SkO:=.row 81 Yg
def Jrk:Shp:=⟨[(3,Qhv),(12,zs2)],[(100000,Jck)]⟩
def Jrl:Exs:=[(.x 0,⟨Q4y,[(100100,Jck)]⟩)]
def Jrm:SkO:=.var 91 (.ag (sL [Kb,Qef,.m 100201]))
def Jrn:Shp:=⟨Qf0,[(5000,.var 91 (.ag (sL [Kb,Qef,Nm]))),(5001,Vd),(1,Fl)]⟩
def Jro:HT:=.f 5001 5001 Eo
def P6(N:Nat):V:=⟨⟨29,(sD [.sl Jr,.sl J8,Yh,.i]),[zs1],u4 (Eg N),[]⟩,kF N [] [(14,.lp [0,1,3] [6] zs3 [(.x 0,⟨[],[]⟩),(.r,⟨[(8,zs4)],[]⟩)]),(32,.rg (.n 8 (.sp 56 8 [0,3] [6] ⟨[(64,zs4)],[]⟩ zs6 zs6 zs5)))] func29⟩
def Nn(N:Nat):V:=⟨⟨134,zs7,[(sD [.arr 5 .bool])],Gy N,[]⟩,kF N [] [(25,.jn [2,3] [2] [(.n,zs8)]),(35,.jn [2,3] [2] [(.n,zs9)]),(49,.jn [2] [2] [(.n,Jsm)])] func134⟩
def Qlx(N:Nat):V:=⟨⟨194,zs7,[zs1],Ft N,[]⟩,kF N [] [] func194⟩
def E9(N:Nat):V:=⟨⟨140,Qtf,[zs1],Uv N,[]⟩,kF N [] [(4,.rg (.n 9 (.sp 12 4 [0] [] ⟨[(16,zs4)],[]⟩ Qeo Qeo (.n 1 (.sp 17 4 [0] [] ⟨[(21,zs4)],[]⟩ Qeo Qeo .done))))),(14,.lp [0] [] P4 Qj1),(24,.rg (.n 5 (.sp 32 5 [3] [] Jsn Ea Ea (.n 1 (.sp 38 11 [3] [] Jnv (.nl 5 (.sp 43 5 [3,38] [] ⟨[(48,zs4)],[]⟩ Jso Jso zs5)) (.nl 10 zs5) (.n 1 (.sp 50 5 [3] [] Jsp Ea Ea .done)))))))] func140⟩
def Lx(N:Nat):V:=⟨⟨195,Qtf,[zs1],Wn N,[]⟩,kF N [] [(6,.lp [0] [] P4 Qj1),(16,.rg (.n 5 (.sp 14 5 [3] [] Jjk Ea Ea .done)))] func195⟩
def Qf3(N:Nat):V:=⟨⟨196,(sD [Jr]),[zs1],F3 N,[]⟩,kF N [] [] func196⟩
def Qh0(N:Nat):V:=⟨⟨133,(sD [Jr,.i]),[zs7],u2 (Bz N),[]⟩,kF N [Nn,Qlx,E9,Lx,Qf3] [(30,.rg (.n 9 (.sp 37 9 [2,5] [2,5] ⟨[(46,zs4)],[]⟩ Q87 Jnw (.n 1 (.sp 47 9 [2,5] [2,5] ⟨[(56,zs4)],[]⟩ Q87 Jnw (.n 1 (.sp 57 9 [2,5] [2,5] ⟨[(66,zs4)],[]⟩ Q87 Jnw (.n 1 (.sp 67 9 [2,5] [2,5] ⟨[(76,zs4)],[]⟩ Q87 Jnw .done))))))))),(38,.rg (.n 3 (.sp 79 5 [2,5] [2,5] ⟨[(84,zs4)],[]⟩ Jjm Ea (.n 1 (.sp 85 9 [2,5] [2,5] ⟨[(94,zs4)],[]⟩ Q87 (.nl 3 (.sp 88 5 [2,5,85] [] ⟨[(93,zs4)],[]⟩ (.nl 2 (.call 1 (.nl 2 .done))) Jso zs5)) .done))))),(46,.rg (.n 3 (.sp 97 5 [2,5] [2,5] ⟨[(102,zs4)],[]⟩ Jsq Ea Jnx))),(54,.rg (.n 3 (.sp 120 5 [2,5] [2,5] ⟨[(125,zs4)],[]⟩ Jut Ea .done))),(62,.rg (.n 3 (.sp 128 4 [2] [2,5] ⟨[(132,zs4)],[]⟩ (.nl 1 (.call 4 Qps)) Qeo .done)))] func133⟩
def Ci(N:Nat):V:=⟨⟨137,Jny,[zs7],u2 (K0 N),[]⟩,kF N [] [(6,.lp [1,2] [2] Ic Qno)] func137⟩
def Ax(N:Nat):V:=⟨⟨138,Jny,[zs7],u2 (Xv N),[]⟩,kF N [] [(6,.lp [1,2] [2] Ic Qno)] func138⟩
def Ly(N:Nat):V:=⟨⟨198,Jny,[zs1],u2 (Wo N),[]⟩,kF N [] [(6,.lp [1,2] [2] Ic Qhu)] func198⟩
def Qh1(N:Nat):V:=⟨⟨197,Jny,[zs1],u2 (B1 N),[]⟩,kF N [Ly] [(6,.lp [1,2] [2] Ic Qhu),(16,.jn [5] [] [(.n,⟨[(31,zs4)],[]⟩)]),(16,.an (.dc 16 [13,14,15,16,17,18,19,20,21,22,23,24,25,26,27,28] [] [2] (.b 2 (.c 2 (.a (.a (.a (.a (.a (.a (.a (.so 21 (.c 2 (.b 2 (.c 2 (.a (.a (.a (.a (.tl Jjn)))))))) Juu))))))))))))] func197⟩
def Qad(N:Nat):V:=⟨⟨135,Jsr,[zs7],u2 (Wp N),[]⟩,kF N [Ci,Ax,Qh1] [(38,.rg (.n 4 (.sp 26 6 [2,3,5] [2,3] ⟨[(32,zs4)],[]⟩ Jnz Qzt .done))),(46,.rg (.n 4 (.sp 36 5 [2,3,5] [2,3] Jn0 (.nl 3 Jss) Ea (.n 1 (.sp 42 13 [2,3,5] [2,3] Jsp (.nl 12 zs5) (.nl 4 (.sp 46 8 [2,5,42] [] ⟨[(54,zs4)],[]⟩ (.nl 8 .done) (.nl 8 .done) zs5)) .done)))))] func135⟩
def P7(N:Nat):V:=⟨⟨200,Q4h,[zs1],u2 (Zp N),[]⟩,kF N [] [(6,.lp [0,1] [] Ic Qhu)] func200⟩
def Qf4(N:Nat):V:=⟨⟨199,(sD [Zz,.str]),[zs1],u2 (F4 N),[]⟩,kF N [P7] [(6,.lp [1,2] [2] Ic Qhu)] func199⟩
def Qf5(N:Nat):V:=⟨⟨136,Jsr,[zs7],u2 (F5 N),[]⟩,kF N [Ax,Ly,Qf4,P7] [(23,.jn [] [2,3,6] Juv),(67,.jn [3,6,23] [] [(.n,⟨[(53,zs4)],[]⟩)]),(81,.jn [3,6] [] [(.n,Jst)])] func136⟩
def Qf6(N:Nat):V:=⟨⟨94,(sD [Zz,Jr,.i]),[zs7],u3 (F6 N),[]⟩,kF N [Qh0,Nn,Qad,Qf5] [] func94⟩
def Qh2(N:Nat):V:=⟨⟨201,Q4h,[Q88],u2 (Gz N),[]⟩,kF N [] [(6,.lp [0,1] [] Ic [(.x 0,Ic)]),(9,.rg (.n 5 (.sp 11 7 [5] [] Q89 Qnp Qnp .done)))] func201⟩
def Qdf(N:Nat):V:=⟨⟨202,Q4h,[Q88],u2 (K1 N),[]⟩,kF N [] [(8,.lp [0,1] [] ⟨[(5,Qhv),(6,zs2)],[(100000,Q4i)]⟩ Jsu),(16,.jn [6] [] Jsv)] func202⟩
def Qdg(N:Nat):V:=⟨⟨139,Juw,[(sD [Vz])],u2 (Hr N),[]⟩,kF N [Qh2,Qdf] [(3,.jn [4] [3,4] [(.n,⟨[(2,Qhw)],[(100000,Jsw)]⟩)])] func139⟩
def Qf7(N:Nat):V:=⟨⟨95,Jsr,[⟨Jux,[(1,Q9a),(2,Qu4),(3,Fl)]⟩],u2 (F7 N),[]⟩,kF N [Ci,Ax,Qdg] [(3,.an (.dc 14 [7,8,9,10,11,12,13,14,15,16,17,18,19,5] [2] [] (.e 7 (.b 2 (.c 2 (.g [7] [] [10] [10] (.e 11 (.b 2 (.c 2 (.g [11] [] [14] [14] (.e 15 (.b 2 (.c 2 (.g [15] [] [18] [18] (.g [] [] [] [10,14,18] (.e 5 Eo)))))))))))))))),(5,.jn [] [2,3] [(.n,⟨[(4,Qhy),(5,Jn1)],[(100100,.var 198 (.ag (sL [.ns,.ns,.ns]))),(100101,.var 198 (.ag (sL [Jfk,Jsx,.s 100104]))),(100102,Q9a),(100103,Qu4),(100104,Fl)]⟩),(.r,⟨[(4,Qth)],[(100200,.var 198 (.ag (sL [Q9b,Jfl,Jsy]))),(100201,Q9a),(100202,Qu4),(100203,Fl)]⟩)]),(15,.an (.dc 6 [66,67,68,69,70,71] [5] [2,3] (.b 5 (.d 5 10 (.c 2 (.b 3 (.c 3 (.k 0 [] [] [] [] Qlq)))))))),(21,.jn [2,3,4,5] [4,5,10,14,18] Juy),(33,.an (.dc 10 [26,27,28,29,30,31,32,33,34,35] [5,14] [3] (.b 5 (.d 5 14 (.a (.b 5 (.d 5 14 (.a (.d 14 14 (.c 14 (.c 3 (.k 2 [] [] [] [] Q4k))))))))))))] func95⟩
def Qf8(N:Nat):V:=⟨⟨51,(sD [.sl Jr]),[Qhz],F8 N,[]⟩,kF N [Qf6,Qf7] [(18,.lp [0] [] ⟨[(4,Qhw),(5,zs2),(6,zs2)],[(100000,.var 198 (.ag (sL [Qti,Jfm,Jsz]))),(100001,Q9a),(100002,Qu4),(100003,Fl)]⟩ [(.x 0,⟨[],[]⟩),(.r,⟨[(2,zs2),(3,zs2)],[]⟩)]),(28,.an (.dr 6 Qzu Q9c)),(38,.an (.dr 5 Jn2 Jn3))] func51⟩
def Qf9(N:Nat):V:=⟨⟨203,(sD [.sl .str]),[zs7],F9 N,[]⟩,kF N [E9] [(14,.lp [0] [] P4 Qpu),(35,.lp [0] [] Q4g Js0),(45,.an (.dr 10 (.n 10 .done) .done))] func203⟩
def Qep(N:Nat):V:=⟨⟨141,(sD [Zk]),[zs7],E1 N,[]⟩,kF N [Qf9] [] func141⟩
def Qj2(N:Nat):V:=⟨⟨96,Juz,[zs7],Dv N,[]⟩,kF N [E9,Qep] [(46,.lp [1] [1] P4 Qpu)] func96⟩
def Qga(N:Nat):V:=⟨⟨52,(sD [.sl J8]),[zs7],Aa N,[]⟩,kF N [Qj2] [(14,.lp [0] [] P4 Qpu),(34,.an (.dr 44 (.n 3 (.sp 24 41 [3] [] ⟨[(65,zs4)],[]⟩ (.nl 13 (.sp 37 27 [3,24] [] ⟨[(64,zs4)],[]⟩ (.nl 27 .done) (.nl 13 (.sp 50 13 [3,24,37] [] Js1 Jn4 Jn4 (.nl 1 .done))) zs5)) (.nl 40 zs5) .done)) .done))] func52⟩
def Qgb(N:Nat):V:=⟨⟨204,Js2,[zs1],Wq N,[]⟩,kF N [] [] func204⟩
def Qgc(N:Nat):V:=⟨⟨205,Js2,[zs1],Ab N,[]⟩,kF N [] [] func205⟩
def No(N:Nat):V:=⟨⟨142,Qtf,[zs1],G0 N,[]⟩,kF N [Qgb,Qgc] [(4,.rg (.n 9 (.sp 12 5 [0] [] zs9 Ea Q9d .done))),(14,.lp [0] [] P4 Qj1),(24,.rg (.n 3 (.call 0 (.n 2 (.sp 29 6 [3] [] ⟨[(35,zs4)],[]⟩ Jnz Qzt (.n 1 (.sp 36 5 [3] [] Jn0 Ea Ea .done)))))))] func142⟩
def Np(N:Nat):V:=⟨⟨207,Qtf,[zs1],G1 N,[]⟩,kF N [] [(4,.rg (.n 9 (.sp 14 4 [0] [] Q89 Qeo Qeo (.n 1 (.sp 19 4 [0] [] ⟨[(23,zs4)],[]⟩ Qeo Qeo .done))))),(14,.lp [0] [] P4 Qj1),(24,.an (.dr 22 (.n 5 (.sp 34 5 [3] [] ⟨[(39,zs4)],[]⟩ Ea Ea (.n 5 (.sp 44 5 [3,39] [] Jnv Ea Ea Qu6)))) .done)),(26,.rg (.n 7 (.sp 56 5 [3] [] ⟨[(61,zs4)],[]⟩ Ea Ea .done)))] func207⟩
def Qdh(N:Nat):V:=⟨⟨261,(sD [.sl V7,.i,.i]),[zs1],u3 (Hs N),[]⟩,kF N [] [(6,.lp [0,1,2] [] Q9e Ju0),(18,.lp [7] [] Qpv [(.x 2,⟨[],[]⟩),(.r,⟨[(6,zs4)],[]⟩)]),(34,.an (.dr 17 (.n 17 .done) .done))] func261⟩
def Qh3(N:Nat):V:=⟨⟨206,(sD [.sl V7,.i]),[zs7],u2 (B2 N),[]⟩,kF N [Np,Lx,Qdh] [(16,.lp [0,1,5] [5] Jjo Qno),(26,.an (.dr 8 Qtj .done)),(53,.lp [0,1,5] [5] Q9e [(.x 2,⟨[],[]⟩),(.r,Q4g)])] func206⟩
def Qgd(N:Nat):V:=⟨⟨143,Jpg,[zs7],Ac N,[]⟩,kF N [Qh3] [(14,.lp [0] [] P4 Qpu)] func143⟩
def Qge(N:Nat):V:=⟨⟨208,(sD [.sl Zn,.bool]),[zs7],u2 (Ad N),[]⟩,kF N [] [(38,.lp [0] [] Ic Qno)] func208⟩
def Qgf(N:Nat):V:=⟨⟨144,Jph,[zs7],Ae N,[]⟩,kF N [Np,Qge] [(22,.lp [0] [] P4 Qpu),(43,.lp [3] [] Q4g Js0),(53,.an (.dr 11 (.n 11 .done) .done))] func144⟩
def Qh4(N:Nat):V:=⟨⟨209,Jpi,[zs1],u2 (B3 N),[]⟩,kF N [] [(6,.lp [1,2] [2] Ic Qhu)] func209⟩
def Qh5(N:Nat):V:=⟨⟨210,Jpi,[zs1],u2 (B4 N),[]⟩,kF N [] [(6,.lp [1,2] [2] Ic Qhu)] func210⟩
def Qgg(N:Nat):V:=⟨⟨211,Jjp,[zs7],Af N,[]⟩,kF N [] [(24,.lp [0] [] ⟨[(3,zs2),(4,zs2)],[]⟩ Qpu)] func211⟩
def Qgh(N:Nat):V:=⟨⟨145,Q4l,[zs7],Ag N,[]⟩,kF N [Qh4,Qh5,Qgg] [(14,.lp [1] [1] P4 Qpu),(35,.rg (.n 3 (.call 0 (.n 2 (.sp 35 6 [3,4] [4] Jn0 Qzt Jnz .done)))))] func145⟩
def Qgi(N:Nat):V:=⟨⟨320,zs7,[zs7],Ah N,[]⟩,kF N [] [] func320⟩
def Qj3(N:Nat):V:=⟨⟨327,Q4h,[zs1],u2 (Eh N),[]⟩,kF N [] [(6,.lp [0,1] [] Ic Qhu)] func327⟩
def Fn(N:Nat):V:=⟨⟨321,Qtf,[zs7],Zc N,[]⟩,kF N [Qj3] [] func321⟩
def Qj4(N:Nat):V:=⟨⟨299,Qw3,[zs7],Dw N,[]⟩,kF N [Qgi,Fn] [(4,.an (.dc 6 [3,4,5,6,7,8] [1] [] (.b 1 (.c 1 (.k 0 [] [] [] [] (.b 1 (.c 1 Jbr))))))),(28,.rg (.n 4 (.sp 35 5 [1] [1] ⟨[(40,zs4)],[]⟩ Jjm Ea .done)))] func299⟩
def Qeq(N:Nat):V:=⟨⟨300,(sD [Xt,.sl .i]),[zs7],u2 (E2 N),[]⟩,kF N [Fn] [(41,.an (.dr 7 Qlr .done)),(48,.jn [] [2] Juv),(52,.jn [1,30] [] [(.n,⟨[(35,zs4)],[]⟩)]),(66,.jn [1,30] [] Jpj),(80,.jn [1] [] [(.n,Jnv)])] func300⟩
def Df(N n:Nat):Con:=⟨262,(sD [Xt,.i]),[Qhz],fun(x0,x1)=>V1 N n x0 x1,[]⟩
theorem Lz(N:Nat):∀n,KO (Df N n)
 | 0=>⟨Qhj fun _=>rfl,K5 func262 rfl⟩
 | n+1=>have ih:=Lz N n; kF N [Qj4,fun _=>⟨_,ih⟩,Qeq] [(26,.lp [1,2] [2] Jpk [(.x 0,⟨[(7,Qpt)],[(100100,Fl)]⟩),(.r,Jpl)])] func262
def Qly(N:Nat):V:=⟨Df N N,Lz N N⟩
def Qh6(N:Nat):V:=⟨⟨212,Qw3,[Qhz],B5 N,[]⟩,kF N [Qly] [] func212⟩
def Qae(N:Nat):V:=⟨⟨146,Q4l,[zs7],Wr N,[]⟩,kF N [No,Qh6] [(14,.lp [1] [1] P4 Qpu),(37,.lp [3,4] [4] Ic Js0),(47,.an (.dr 9 (.n 9 .done) .done))] func146⟩
def Qer(N:Nat):V:=⟨⟨97,Q4l,[zs7],E3 N,[]⟩,kF N [No,Qgd,Qgf,Qgh,Qae] [(21,.jn [1] [1] [(.n,P4)]),(27,.jn [1] [1] [(.n,P4)]),(33,.jn [] [1] [(.n,P4)])] func97⟩
def Qgj(N:Nat):V:=⟨⟨98,(sD [Ym,Ym]),[zs7],u2 (Ai N),[]⟩,kF N [] [] func98⟩
def Qgk(N:Nat):V:=⟨⟨53,(sD [.sl Ym]),[zs7],Aj N,[]⟩,kF N [Qer,Qgj] [(14,.lp [0] [] P4 Qpu),(34,.jn [3] [] [(.n,⟨[(36,zs4)],[]⟩)]),(34,.an (.dc 12 [22,23,24,25,26,27,28,29,30,31,32,33] [] [] (.a (.a (.a (.so 24 (.a (.a (.a (.a (.a (.a (.a (.a (.a (.tl Jjl)))))))))) (.a (.a Juu))))))))] func53⟩
def Qgl(N:Nat):V:=⟨⟨27,Jjq,[zs1],Ak N,[]⟩,kF N [P6,Qf8,Qga,Qgk] [(14,.lp [1] [1] P4 Qj1),(24,.an (.dr 32 (.n 7 (.sp 38 7 [3] [] ⟨[(45,zs4)],[]⟩ Qnp Qnp (.n 1 (.sp 46 17 [3] [] Js1 (.nl 16 zs5) (.nl 3 (.sp 49 13 [3,46] [] Jst Jn4 Jn4 zs5)) .done)))) .done)),(34,.rg (.n 3 (.sp 72 5 [1] [1] ⟨[(77,zs4)],[]⟩ Jsq Ea (.n 1 (.sp 78 5 [1] [1] ⟨[(83,zs4)],[]⟩ Jut Ea zs5)))))] func27⟩
def Qj5(N:Nat):V:=⟨⟨99,Jbs,[zs1],Dy N,[]⟩,kF N [] [(14,.lp [0] [] P4 Qj1)] func99⟩
def Qj6(N:Nat):V:=⟨⟨54,Q4m,[zs1],Dz N,[]⟩,kF N [Qj5] [] func54⟩
def Qdi(N:Nat):V:=⟨⟨100,Q4n,[zs1],u2 (Ht N),[]⟩,kF N [] [] func100⟩
def Qh7(N:Nat):V:=⟨⟨147,(sD [.sl Ja,Xu]),[zs7],u2 (B6 N),[]⟩,kF N [] [(6,.lp [0,3] [3] Ic Qno)] func147⟩
def Qes(N:Nat):V:=⟨⟨101,(sD [.sl Ja,Ja]),[zs1],u2 (E4 N),[]⟩,kF N [Qh7] [] func101⟩
def Qdj(N:Nat):V:=⟨⟨55,Jbs,[zs1],Hu N,[]⟩,kF N [Qdi,Qes] [(6,.lp [0] [] P4 Qj1),(16,.jn [3] [] [(.n,Jjr)]),(16,.an (.dc 19 [10,11,12,13,14,15,16,17,18,19,20,21,22,23,24,25,26,27,28] [] [] (.a (.a (.a (.a (.a (.a (.a (.a (.a (.k 0 [] [] [] [] (.a (.a (.so 21 Q4o (.a (.a (.a (.a (.a (.a (.a (.tl Jn3)))))))))))))))))))))))] func55⟩
def Qaf(N:Nat):V:=⟨⟨56,Jpo,[zs1],Ws N,[]⟩,kF N [] [(6,.lp [0] [] P4 Qj1),(16,.an (.dr 12 (.n 12 .done) .done))] func56⟩
def Qh8(N:Nat):V:=⟨⟨102,Qtf,[zs1],G2 N,[]⟩,kF N [] [(4,.rg (.n 9 (.sp 13 4 [0] [] zs9 Qeo Qeo (.n 1 (.sp 18 4 [0] [] Jsm Qeo Qeo .done))))),(14,.lp [0] [] P4 Qj1)] func102⟩
def Qgm(N:Nat):V:=⟨⟨103,Jbt,[zs1],Al N,[]⟩,kF N [] [] func103⟩
def Qgn(N:Nat):V:=⟨⟨57,Q4p,[zs7],Am N,[]⟩,kF N [Qh8,Qgm] [(39,.lp [1] [1] P4 [(.x 1,⟨[],[]⟩),(.r,⟨[(2,zs2)],[]⟩)])] func57⟩
def Qgo(N:Nat):V:=⟨⟨104,zs7,[zs1],Z0 N,[]⟩,kF N [] [] func104⟩
def Qgp(N:Nat):V:=⟨⟨58,Jjs,[zs7],Ao N,[]⟩,kF N [Qgo] [(4,.rg (.n 9 (.sp 11 5 [1] [1] ⟨[(16,zs4)],[]⟩ Ea Q9d (.n 1 (.sp 17 5 [1] [1] Jsm Ea Q9d (.n 6 (.sp 28 5 [1] [1] ⟨[(33,zs4)],[]⟩ Ea Q9d Jnx)))))))] func58⟩
def Qj7(N:Nat):V:=⟨⟨28,Q4m,[zs1],D1 N,[]⟩,kF N [Qj6,Qdj,Qaf,Qgn,Qgp] [(4,.rg (.n 1 (.call 0 (.n 2 (.sp 8 5 [1] [1] zs8 Ea Jjm (.n 1 (.sp 14 5 [1] [1] Jjk Ea Jsq .done))))))),(14,.lp [1] [1] P4 Qj1),(35,.lp [1] [1] Q4g [(.x 2,⟨[],[]⟩),(.r,⟨[(2,zs4)],[]⟩)])] func28⟩
def Qj8(N:Nat):V:=⟨⟨7,Jpp,[zs1],D2 N,[]⟩,kF N [Qgl,Qj7,P6] [(4,.rg (.n 2 (.call 0 (.n 2 (.sp 8 5 [1] [1] zs8 Ea Jjm Qzu))))),(14,.lp [1] [1] P4 Qj1),(24,.an (.dr 15 Jnx Jss))] func7⟩
def Qh9(N:Nat):V:=⟨⟨30,(sD []),[Jjq],fun _=>So N,[]⟩,kF N [] [] func30⟩
def Dg(N n:Nat):Con:=⟨110,Qw3,[Qw3],fun x0=>V2 N n x0,[]⟩
theorem L0(N:Nat):∀n,KO (Dg N n)
 | 0=>⟨Qhj fun _=>rfl,K5 func110 rfl⟩
 | n+1=>have ih:=L0 N n; kF N [fun _=>⟨_,Qac⟩,fun _=>⟨_,ih⟩] [(8,.lp [1,2,10] [1,2] ⟨[(11,zs2)],[(10600,Jbu)]⟩ [(.x 0,⟨[],[(10600,Jbu)]⟩)]),(19,.an (.dc 9 [14,15,16,17,18,19,20,21,22] [10600] [1] (.b 1 (.d 1 10600 (.a (.b 1 (.d 1 10600 (.a (.d 10600 10600 (.c 10600 Jjt))))))))))] func110
def Qlz(N:Nat):V:=⟨Dg N N,L0 N N⟩
def Qia(N:Nat):V:=⟨⟨65,Q4l,[Jpr],B7 N,[]⟩,kF N [fun _=>⟨_,T8⟩,fun _=>⟨_,T9⟩,fun _=>⟨_,Qaa⟩,fun _=>⟨_,Mp⟩,fun _=>⟨_,Zh⟩,fun _=>⟨_,Qab⟩,fun _=>⟨_,Vj⟩,Qlz] [(3,.an (.dc 13 [7,8,9,10,11,12,13,14,15,16,17,18,19] [1] [] (.b 1 (.c 1 (.k 0 [] [] [10900] [10900] (.b 1 (.c 1 (.k 1 [] [] [11200] [11200] (.b 1 (.c 1 (.k 2 [] [] [11500] [11500] (.b 1 (.c 1 (.k 3 [] [] [11800] [11800] (.b 1 (.tl Qlr)))))))))))))))),(8,.lp [1,2,25] [1,2,11200,11500,11800] ⟨[(26,zs2)],[(10900,Qf1)]⟩ [(.x 0,⟨[],[(10900,Qf1)]⟩)]),(19,.an (.dc 10 [29,30,31,32,33,34,35,36,37,38] [10900] [1] (.b 1 (.d 1 10900 (.a (.b 1 (.d 1 10900 (.a (.d 10900 10900 (.b 10900 (.c 10900 (.k 4 [] [] [13800] [13800] (.tl (.n 2 (.fz 13800 zs5))))))))))))))),(25,.lp [1,2,44] [1,2,10900,11500,11800] ⟨[(45,zs2)],[(11200,Qls)]⟩ [(.x 2,⟨[],[(11200,Qls)]⟩)]),(36,.an (.dc 10 [48,49,50,51,52,53,54,55,56,57] [11200] [1] (.b 1 (.d 1 11200 (.a (.b 1 (.d 1 11200 (.a (.d 11200 11200 (.b 11200 (.c 11200 (.k 5 [] [] [15700] [15700] (.tl (.n 2 (.fz 15700 zs5))))))))))))))),(42,.lp [1,2,63] [1,2,10900,11200,11800] ⟨[(64,zs2)],[(11500,Qtk)]⟩ [(.x 4,⟨[],[(11500,Qtk)]⟩)]),(53,.an (.dc 10 [67,68,69,70,71,72,73,74,75,76] [11500] [1] (.b 1 (.d 1 11500 (.a (.b 1 (.d 1 11500 (.a (.d 11500 11500 (.b 11500 (.c 11500 (.k 6 [] [] [17600] [17600] (.tl (.n 2 (.fz 17600 zs5))))))))))))))),(59,.lp [1,2,82] [1,2,10900,11200,11500] ⟨[(83,zs2)],[(11800,Q4q)]⟩ [(.x 6,⟨[],[(11800,Q4q)]⟩)]),(70,.an (.dc 10 [86,87,88,89,90,91,92,93,94,95] [11800] [1] (.b 1 (.d 1 11800 (.a (.b 1 (.d 1 11800 (.a (.d 11800 11800 (.b 11800 (.c 11800 (.k 7 [] [] [] [] Qlq))))))))))))] func65⟩
def Ql0(N:Nat):V:=⟨⟨32,Jjq,[⟨[(0,.ag (sL [Ry,Qhx,Q4j,.s 4,.s 5,.s 6]))],[(1,Jju),(2,Q4r),(3,Qlt),(4,Jjv),(5,Fl),(6,Q4s)]⟩],Me N,[]⟩,kF N [fun _=>⟨_,Rp⟩,fun _=>⟨_,Qbw⟩,fun _=>⟨_,Qht⟩,fun _=>⟨_,P1⟩,fun _=>⟨_,Nz⟩,fun _=>⟨_,Ls⟩,Qia,fun _=>⟨_,P2⟩,fun _=>⟨_,Zh⟩,fun _=>⟨_,Vj⟩] [(3,.an (.dc 10 [8,9,10,11,12,13,14,15,16,17] [1] [] (.b 1 (.c 1 (.k 0 [] [] [11000] [11000] (.b 1 (.c 1 (.k 1 [] [] [11300] [11300] (.b 1 (.c 1 (.k 2 [] [] [11600] [11600] Jps))))))))))),(5,.an (.dc 10 [20,21,22,23,24,25,26,27,28,29] [1] [] (.b 1 (.c 1 (.k 3 [] [] [12200] [12200] (.b 1 (.c 1 (.k 4 [] [] [12500] [12500] (.b 1 (.c 1 (.k 5 [] [] [12800] [12800] Jps))))))))))),(10,.lp [1,2,34] [1,2,11000,11300,11600,12500,12800] ⟨[(35,zs2)],[(12200,Q4r)]⟩ [(.x 0,⟨[],[(12200,Q4r)]⟩)]),(21,.an (.dc 9 [38,39,40,41,42,43,44,45,46] [12200] [1] (.b 1 (.d 1 12200 (.a (.b 1 (.d 1 12200 (.a (.d 12200 12200 (.c 12200 (.k 6 [] [] [14604,14603,14602,14601] [14601,14602,14603,14604] (.tl (.n 1 (.fz 14601 (.fz 14602 (.fz 14603 (.fz 14604 zs5))))))))))))))))),(27,.lp [1,2,51] [1,2,11000,11300,11600,12200,12800] ⟨[(52,zs2)],[(12500,Qlt)]⟩ [(.x 2,⟨[],[(12500,Qlt)]⟩)]),(44,.lp [4,52,63] [12500] ⟨[(5,Qw4),(64,zs2)],[(100300,Qw5)]⟩ [(.x 4,⟨[(5,Q4t)],[(100400,Qw5)]⟩)]),(55,.rg (.n 7 (.call 8 (.n 2 (.fz 17400 zs5))))),(57,.rg (.n 6 (.fz 100400 zs5))),(63,.lp [1,2,87] [1,2,11000,11300,11600,12200,12500] ⟨[(88,zs2)],[(12800,Q4s)]⟩ [(.x 6,⟨[],[(12800,Q4s)]⟩)]),(74,.an (.dc 10 [91,92,93,94,95,96,97,98,99,100] [12800] [1] (.b 1 (.d 1 12800 (.a (.b 1 (.d 1 12800 (.a (.d 12800 12800 (.b 12800 (.c 12800 (.k 9 [] [] [20000] [20000] (.tl (.n 2 (.fz 20000 zs5)))))))))))))))] func32⟩
def P8(N:Nat):V:=⟨⟨33,Q4m,[Qw6],Ei N,[]⟩,kF N [fun _=>⟨_,H7⟩,fun _=>⟨_,H8⟩,fun _=>⟨_,Hd⟩,fun _=>⟨_,Zh⟩] [(3,.an (.dc 11 [5,6,7,8,9,10,11,12,13,14,3] [1] [] (.b 1 (.c 1 (.k 0 [] [] [10700] [10700] (.b 1 (.c 1 (.k 1 [] [] [11000] [11000] (.b 1 (.c 1 (.k 2 [] [] [11300] [11300] (.g [] [] [] [10700,11000,11300] (.e 3 Eo))))))))))))),(8,.lp [2,3,17] [1,2,3,11000,11300] ⟨[(18,zs2)],[(10700,Un)]⟩ [(.x 0,⟨[],[(10700,Un)]⟩)]),(19,.an (.dc 10 [21,22,23,24,25,26,27,28,29,30] [10700] [3] (.b 3 (.d 3 10700 (.a (.b 3 (.d 3 10700 (.a (.d 10700 10700 (.b 10700 (.c 10700 (.k 3 [] [] [13000] [13000] (.tl (.n 2 (.fz 13000 zs5)))))))))))))))] func33⟩
def Ql1(N:Nat):V:=⟨⟨9,(sD [Ks,Yh]),[⟨Jjw,[(1,.var 91 (.ag (sL [.ag (sL [Qhx,Q4j,.s 4,.s 5,.s 6,.s 7]),.ag (sL [.s 8,.s 9,.s 10]),.m 11]))),(2,Jju),(3,Q4r),(4,Qlt),(5,Jjv),(6,Fl),(7,Q4s),(8,Un),(9,Yr),(10,Ch),(11,Vd)]⟩],u2 (Pg N),[]⟩,kF N [Ql0,P8] [(3,.an (.dc 5 [5,6,7,8,9] [2,3] [] (.c 2 (.k 0 [] [] [10606,10605,10604,10603,10602,10601] [10601,10602,10603,10604,10605,10606] (.c 3 (.k 1 [] [] [10803,10802,10801] [10801,10802,10803] (.e 9 Qlq)))))))] func9⟩
def Qgq(N:Nat):V:=⟨⟨34,⟨Bh,Jjx⟩,[zs1],u10 (Ap N),[5000,5001,5002,5003,5004,5005,5006,5007,5008,5009,5010]⟩,kF N [] [(3,.rg (.n 3 (.nl 5 Qu6)))] func34⟩
def Ep(N:Nat):V:=⟨⟨37,(sD [Yz,.i]),[(sD [Sn])],u2 (Yb N),[]⟩,kF N [] [] func37⟩
def Nq(N:Nat):V:=⟨⟨115,Q4m,[Qw6],G3 N,[]⟩,kF N [fun _=>⟨_,H7⟩,fun _=>⟨_,H8⟩,fun _=>⟨_,Hd⟩,fun _=>⟨_,Zh⟩] [(3,.an (.dc 11 [5,6,7,8,9,10,11,12,13,14,3] [1] [] (.b 1 (.c 1 (.k 0 [] [] [10700] [10700] (.b 1 (.c 1 (.k 1 [] [] [11000] [11000] (.b 1 (.c 1 (.k 2 [] [] [11300] [11300] (.g [] [] [] [10700,11000,11300] (.e 3 Eo))))))))))))),(8,.lp [2,3,17] [1,2,3,11000,11300] ⟨[(18,zs2)],[(10700,Un)]⟩ [(.x 0,⟨[],[(10700,Un)]⟩)]),(19,.an (.dc 10 [21,22,23,24,25,26,27,28,29,30] [10700] [3] (.b 3 (.d 3 10700 (.a (.b 3 (.d 3 10700 (.a (.d 10700 10700 (.b 10700 (.c 10700 (.k 3 [] [] [13000] [13000] (.tl (.n 2 (.fz 13000 zs5)))))))))))))))] func115⟩
def Dh(N:Nat):V:=⟨⟨114,Jpt,[Jpv],Xk N,[]⟩,kF N [fun _=>⟨_,Fj⟩,fun _=>⟨_,Vj⟩] [] func114⟩
def Cj(N:Nat):V:=⟨⟨78,(sD [Yh,Yg,Yz,.i]),[⟨[(0,.ag (sL [Ry,Qhx,Q4j])),(1,.ag (sL [zs2,zs2,zs2,zs2,.ag (sL [zs2,zs2,zs2,V9,V9,zs2,.ag (sL [zs2,V9,V9,zs2,.s 4]),zs2,zs2]),zs2,.s 5,zs2,zs2,zs4,Ka])),(2,Ka)],[(1,Un),(2,Yr),(3,Ch),(4,Qtm),(5,Zm)]⟩],u4 (U2 N),[]⟩,kF N [Nq,Dh] [(3,.an (.dc 12 [11,12,13,14,15,16,17,18,19,20,1000000010,1000000011] [4,5,6,8,9] [] (.c 4 (.k 0 [] [] [11203,11202,11201] [11201,11202,11203] (.c 5 (.k 1 [] [] [11402,11401] [11401,11402] (.b 6 (.c 6 (.b 6 (.c 6 (.a (.a (.g [8] [11201,11202,11203] [] [8,11201,11202,11203] (.g [9] [11401,11402] [] [9,11401,11402] Eo))))))))))))))] func78⟩
def Qtp(N:Nat):V:=⟨⟨227,Js2,[zs1],Qc1 N,[]⟩,kF N [] [] func227⟩
def P9(N:Nat):V:=⟨⟨162,Qtf,[zs1],Ej N,[]⟩,kF N [Qtp] [(6,.lp [0,5] [] Jjo Qj1)] func162⟩
def Qnq(N:Nat):V:=⟨⟨316,Q4h,[Q88],u2 (Ph N),[]⟩,kF N [] [(6,.lp [0,1] [] Ic [(.x 0,Ic)]),(9,.rg (.n 5 (.sp 11 7 [5] [] Q89 Qnp Qnp .done)))] func316⟩
def Qib(N:Nat):V:=⟨⟨317,Q4h,[Q88],u2 (B8 N),[]⟩,kF N [] [(8,.lp [1,8,9] [] ⟨Jjz,[(100000,Q4i)]⟩ Jsu),(16,.jn [10] [] Jsv)] func317⟩
def Qnr(N:Nat):V:=⟨⟨294,Juw,[(sD [Vz])],u2 (Pi N),[]⟩,kF N [Qnq,Qib] [(3,.jn [] [3] [(.n,⟨[(2,Qo5),(4,Jj0)],[(100300,Jsw),(100301,Jbx)]⟩),(.r,⟨[(4,Qth)],[(100200,Jbx)]⟩)]),(31,.jn [2,3,4,6] [2,4] Jpj),(39,.jn [2,3,4] [2,4] [(.n,Jnv)])] func294⟩
def Qic(N:Nat):V:=⟨⟨248,Qw8,[⟨Qf0,[(1,Qo6)]⟩],u2 (B9 N),[]⟩,kF N [Qnr] [(10,.lp [1,10,11] [] ⟨[(5,Qhv),(6,Qw9),(12,zs2)],[(100000,Qo6),(100001,Jj2)]⟩ [(.x 0,⟨[(5,Qw4)],[(100300,Qo6)]⟩)]),(18,.jn [12] [] [(.n,⟨[(5,Qtg),(6,Jj3)],[(100200,Qo6),(100201,Jj2)]⟩)]),(32,.an (.dr 13 (.n 3 (.sp 31 10 [5,6,8,9,12] [8,100000,100001] Jn0 Jby Jby .done)) .done))] func248⟩
def Ql2(N:Nat):V:=⟨⟨250,(sD [Vz,Vz]),[zs1],u2 (Mf N),[]⟩,kF N [] [(14,.lp [3,43,44] [2,3] ⟨[(45,zs2)],[]⟩ Qhu)] func250⟩
def Qgr(N:Nat):V:=⟨⟨249,Jpw,[zs1],u2 (Aq N),[]⟩,kF N [Ql2] [] func249⟩
def Qgs(N:Nat):V:=⟨⟨251,Jpw,[(sD [V0])],u2 (Ar N),[]⟩,kF N [] [] func251⟩
def Fo(N:Nat):V:=⟨⟨247,⟨[(0,.d (.sl V0)),(1,.f 249 .nil),(2,.f 251 .nil)],[]⟩,[⟨Qf0,[(1,Qo6)]⟩],Vs N,[]⟩,kF N [Qgr,Qgs] [(8,.lp [1,2,11,12] [] ⟨Jpx,[(100000,Qo6)]⟩ [(.x 0,⟨[(7,Qtg)],[(100200,Qo6)]⟩)]),(16,.jn [13] [] [(.n,⟨[(7,Qpt)],[(100100,Qo6)]⟩)]),(22,.an (.dc 10 [19,20,21,22,23,24,25,26,27,28] [100000,9] [] (.a (.a (.a (.so 21 (.a (.b 100000 (.a (.a (.d 100000 100000 (.c 100000 (.c 9 (.tl Q9c)))))))) Q4o)))))),(24,.an (.dc 11 [31,32,33,34,35,36,37,38,39,40,41] [100000,9] [] (.b 100000 (.a (.a (.a (.b 100000 (.a (.a (.d 100000 100000 (.c 100000 (.c 9 Jjt))))))))))))] func247⟩
def Ra(N:Nat):V:=⟨⟨181,Qw8,[⟨Qf0,[(1,Jbz)]⟩],u2 (Ek N),[]⟩,kF N [Qic,Fo] [(10,.lp [5,14,15] [11201,11301] ⟨Jpy,[(100000,Jbz)]⟩ [(.x 0,⟨[(6,Qw4)],[(100300,Jbz)]⟩)]),(18,.jn [16] [] [(.n,⟨[(6,Qtg)],[(100200,Jbz)]⟩)]),(30,.jn [6,8,16] [8,100000] [(.n,⟨[(9,Qhy)],[(100100,.var 127 Qo7)]⟩)]),(35,.an (.dc 17 [40,41,42,43,44,45,46,47,48,49,50,51,52,53,54,55,56] [100100,8] [] (.b 100000 (.c 100100 (.b 8 (.b 8 (.c 8 (.b 8 (.b 8 (.c 8 (.e 48 (.b 8 (.b 8 (.c 8 (.b 8 (.b 8 (.c 8 (.b 48 (.op ⟨.fz 48 (.nl 1 .done),[48],[],[],[48]⟩ Q4k)))))))))))))))))))] func181⟩
def Er(N:Nat):V:=⟨⟨252,Jbt,[zs1],Z3 N,[]⟩,kF N [] [] func252⟩
def Ns(N:Nat):V:=⟨⟨182,(sD [J9,.i]),[zs1],u2 (G4 N),[]⟩,kF N [Er] [] func182⟩
def Ck(N:Nat):V:=⟨⟨123,Jb0,[(sD [Du,.bool])],u3 (El N),[]⟩,kF N [Ra,Ns] [(6,.lp [2,12,13] [11201] ⟨[(6,Qhw),(14,zs2)],[(100000,Jpz)]⟩ [(.x 0,⟨[(6,Qhy)],[(100100,Jpz)]⟩),(.r,⟨Jj4,[(100200,.var 235 (.d Du))]⟩)])] func123⟩
def Qns(N:Nat):V:=⟨⟨256,(sD []),[⟨Jjw,[(1,.var 414 (.ag (sL [.m 2,.m 3,.m 4,.m 5,.m 6,.ns,.ns]))),(2,Q4u),(3,.map .i Vz),(4,Qo8),(5,.map .str .i),(6,Qlu)]⟩],fun _=>Pk N,[]⟩,kF N [] [] func256⟩
def Qpw(N:Nat):V:=⟨⟨257,Qw8,[⟨[(0,.f 296 (sL [.p 1 [],.p 2 []]))],[(1,.var 22 Jj5),(2,P5)]⟩],u2 (Tq N),[]⟩,kF N [] [] func257⟩
def Qj9:AnY:=(.two (.reg (.n 3 .done)) (.un (.lp [2,6,7] [] ⟨[(8,.d .i)],[]⟩ [(.x 0,⟨[],[]⟩),(.r,⟨[],[]⟩)] (.two (.reg (.n 1 .done)) (.two (.two .nil .nil) (.two (.un (.two (.reg (.n 4 .done)) (.two (.yr (.h 5 (.n 5 .done) (.so 16 (.mv (.h 1 (.nl 1 .done) (.yl (.h 2 (.nl 1 (.n 1 .done)) .done)))) (.h 5 (.nl 4 (.n 1 .done)) .done)))) (.two .nil .nil)))) (.reg (.n 2 .done))))))))
def Rb(N:Nat):It:=⟨296,[(.sl Jr),(.int .i64)],Jr,fun(x1,x2)=>Mg N x1 x2⟩
theorem Qid(N:Nat):IO (Rb N):=⟨Jnr (Y:=tx) (N:=N) (it:=Rb N) (an:=Qj9) H6 H5 (Jbp N []) func296 rfl (fun x=>by kernel_rfl),K5 func296 rfl⟩
def Qgt(N:Nat):V:=⟨⟨297,Jb1,[⟨Qf0,[(1,Fl)]⟩],u2 (Wt N),[]⟩,kF N [] [(6,.lp [0,1] [] Ic [(.x 0,Ic)]),(9,.rg (.n 5 (.sp 11 7 [5] [] Q89 Qnp Qnp .done)))] func297⟩
def Qby(N:Nat):V:=⟨⟨318,Q4h,[Q88],u2 (Ke N),[]⟩,kF N [] [(6,.lp [0,1] [] Ic [(.x 0,Ic)]),(9,.rg (.n 5 (.sp 11 7 [5] [] Q89 Qnp Qnp .done)))] func318⟩
def Ql3(N:Nat):V:=⟨⟨319,Q4h,[Q88],u2 (Fu N),[]⟩,kF N [] [(8,.lp [1,8,9] [] ⟨Jjz,[(100000,Q4i)]⟩ Jsu),(16,.jn [10] [] Jsv)] func319⟩
def Qag(N:Nat):V:=⟨⟨298,⟨[(0,Zl),(1,Jj1),(2,.d Jr)],Jj6⟩,[⟨[(0,Jj1)],Jj7⟩],u9 (Wu N),[5000,5001,5002,5003,5005,5006,5007]⟩,kF N [Qby,Ql3] [(3,.jn [6] [5,6] [(.n,⟨[(4,Qw9)],[(5004,.map .str .i),(100001,Jsw)]⟩)]),(10,.an (.dr 8 Qtj zs5)),(16,.an (.dr 6 Qzu zs5))] func298⟩
def Rz(N:Nat):V:=⟨⟨258,⟨[(0,Zl),(1,.d Jr)],Jj6⟩,[⟨[],[(5000,.var 414 (.ag (sL [Nm,S8,Jb2,Jb3,Jb4,Ry,Qhx]))),(5001,Q4u),(5002,.map .i Vz),(5003,Qo8),(5004,.map .str .i),(5005,Qlu),(1,Fl),(2,Fl)]⟩],u8 (Xw N),[]⟩,kF N [Qgt,Qag] [(9,.jn [3] [3] [(.n,⟨Bh,[(5000,.var 414 (.ag (sL [Nm,S8,Jb2,Jb3,Jb4,.s 100006,.s 100007]))),(5001,Q4u),(5002,.map .i Vz),(5003,Qo8),(5004,.map .str .i),(5005,Qlu),(100006,Fl),(100007,Fl)]⟩)]),(10,.an (.dc 12 [38,39,40,41,42,43,44,37,45,46,4,1000000011] [5000,5001] [3] (.b 5000 (.d 5000 5000 (.b 5000 (.d 5000 5001 (.b 3 (.c 3 (.c 5001 (.a (.a (.a (.e 4 (.f 4 4 Eo)))))))))))))),(14,.gh (.fz 5006 Lu)),(14,.an (.dc 8 [49,50,51,52,53,54,55,56] [5000] [3] (.b 5000 (.b 5000 (.d 5000 5000 (.b 5000 (.c 5000 (.b 3 (.c 3 (.k 0 [] [] [15601] [15601] Qlq)))))))))),(16,.an (.dr 16 (.n 16 .done) zs5)),(21,.an (.dc 8 [77,78,79,80,81,82,83,6] [5000,3,5001] [] (.b 5000 (.d 5000 5000 (.b 5000 (.d 5000 5001 (.b 3 (.c 3 (.c 5001 (.e 6 Eo)))))))))),(24,.an (.dr 7 Qlr zs5)),(29,.jn [3] [3] [(.n,⟨Bh,[(5000,.var 414 (.ag (sL [Nm,S8,Jb2,Jb3,Jb4,.s 100106,.s 100107]))),(5001,Q4u),(5002,.map .i Vz),(5003,Qo8),(5004,.map .str .i),(5005,Qlu),(100106,Fl),(100107,Fl)]⟩)]),(30,.an (.dr 8 Qtj .done)),(32,.gh (.fz 5007 Lu)),(32,.an (.dc 8 [102,103,104,105,106,107,108,109] [5000] [3] (.b 5000 (.b 5000 (.d 5000 5000 (.b 5000 (.c 5000 (.b 3 (.c 3 (.k 0 [] [] [20901] [20901] Qlq)))))))))),(35,.an (.dr 6 Qzu zs5)),(37,.an (.dr 8 Qtj zs5)),(38,.an (.dr 15 Jnx zs5)),(43,.an (.dc 8 [143,144,145,146,147,148,149,7] [5000,3,5002] [] (.b 5000 (.d 5000 5000 (.b 5000 (.d 5000 5002 (.b 3 (.c 3 (.c 5002 (.e 7 Eo)))))))))),(48,.lp [0,3,7,151,152] [3,7,5000,5001,5002,5003,5005,5006,5007] ⟨[(153,zs2)],Jj7⟩ [(.x 1,⟨[],Jj7⟩)]),(62,.an (.dr 8 Qtj zs5)),(63,.an (.dr 6 Qzu zs5)),(65,.jn [0,3] [3,5000,5001,5002,5003,5004,5005,5006,5007] [(.n,⟨[(177,zs4)],[]⟩)]),(73,.an (.dc 12 [15,16,17,18,19,20,21,14,22,23,10,1000000011] [5000,3,5002] [] (.b 5000 (.d 5000 5000 (.b 5000 (.d 5000 5002 (.b 3 (.c 3 (.c 5002 (.a (.a (.a (.e 10 (.f 10 10 Eo)))))))))))))),(77,.an (.dc 10 [25,26,27,28,29,30,31,32,33,34] [5000,3,10,5004,5001,5002,5003,5005,5006,5007] [] (.b 5000 (.d 5000 5000 (.b 5000 (.d 5000 5002 (.b 3 (.c 3 (.b 5000 (.c 10 (.c 3 (.k 1 [5004] [5000,5001,5002,5003,5005,5006,5007] [] [5004] Eo))))))))))))] func258⟩
def Rc(N:Nat):V:=⟨⟨259,⟨Bh,Jj6⟩,[Jp0],u7 (Xb N),[5000,5001,5002,5003,5004,5005,5006,5007]⟩,kF N [] [(5,.rg (.br zs5)),(10,.lp [0,2,16,17] [2] ⟨[(3,Qhw),(4,Jj8),(18,zs2)],[(100000,.var 323 (.ag (sL [.ns,Jfm]))),(100001,Jj9),(100002,Qu4)]⟩ [(.x 0,⟨[(3,Qth),(4,.m 100201)],[(100200,.var 323 (.ag (sL [.ns,Jfl]))),(100201,Jj9),(100202,Qu4)]⟩)]),(18,.jn [18] [] [(.n,⟨[(3,Qhy),(4,.m 100101)],[(100100,.var 323 (.ag (sL [.ns,Jfk]))),(100101,Jj9),(100102,Qu4)]⟩)]),(30,.gh (.op (.v 7 [.f 1 1]) 100001 700000 .done)),(30,.an (.dc 10 [33,34,35,36,37,38,39,40,41,42] [7,100001,700000] [] (.b 100001 (.b 7 (.c 7 (.b 100001 (.b 7 (.c 7 (.op ⟨.br .done,[],[100001,700000],[],[700000]⟩ (.a (.a (.g [700000] [] [42] [42] (.tl (.br .done)))))))))))))),(37,.gh (.fm 100201 .done)),(37,.lp [0,2,4,53,54] [2,100201] ⟨[(3,Qo5),(55,zs2)],[(100300,.var 323 (.ag (sL [Qxa,Q4v]))),(100301,Q9a),(100302,Qu4)]⟩ [(.x 2,⟨[(3,Q4w)],[(100400,.var 323 (.ag (sL [Q4x,Jb5]))),(100401,Q9a),(100402,Qu4)]⟩)])] func259⟩
def Ql4:AnR:=(.pre (.reg (.n 1 .done)) (.pre (.reg (.call 0 (.n 2 .done))) (.inn (.pre (.reg (.n 2 (.call 1 .done))) (.un (.rf 0 [4,5] [4,5] ⟨[],[(10701,.var 414 (.ag (sL [.m 100001,.m 100002,.m 100003,.m 100004,.m 100005,.s 100006,.s 100007]))),(100001,.map .i Zb),(100002,.map .i Vz),(100003,.map .i .bool),(100004,.map .str .i),(100005,.map .i .i),(100006,.row 3 .i),(100007,.row 3 .i)]⟩ (.reg (.n 2 .done)) (.un (.reg (.n 2 (.call 2 .done))))))) (.two (.reg (.n 1 (.call 3 (.n 1 .done)))) .nil))))
def Qbz(N:Nat):V:=⟨⟨187,Qw8,[Jp0],u2 (Ca N),[]⟩,kR N [Qns,Qpw,Rz,Rc] [⟨_,Qid N⟩] Ql4 func187 rfl fun x=>by kernel_rfl⟩
def Qtq(N:Nat):V:=⟨⟨163,Jb0,[(sD [Vz,.bool])],u3 (Qc2 N),[]⟩,kF N [Qbz] [(6,.lp [1,13,14] [11201,11202] ⟨Jp1,[(100000,Jbx)]⟩ [(.x 0,⟨[(6,Qhy)],[(100100,Jbx)]⟩),(.r,⟨Jj4,[(100200,Jj2)]⟩)])] func163⟩
def Qdk(N:Nat):V:=⟨⟨270,(sD [.sl .str]),[Q88],Hw N,[]⟩,kF N [] [] func270⟩
def Qah(N:Nat):V:=⟨⟨271,Jp2,[⟨Qf0,[(1,.row 221 Zn)]⟩],Wv N,[]⟩,kF N [] [] func271⟩
def Qai(N:Nat):V:=⟨⟨272,Jjp,[⟨Qf0,Jb6⟩],Ww N,[]⟩,kF N [] [] func272⟩
def Ta(N n:Nat):Con:=⟨273,Qw3,[Qw3],fun x0=>Xc N n x0,[]⟩
theorem Qb0(N:Nat):∀n,KO (Ta N n)
 | 0=>⟨Qhj fun _=>rfl,K5 func273 rfl⟩
 | n+1=>have ih:=Qb0 N n; kF N [fun _=>⟨_,ih⟩] [(8,.lp [1,2,7,8] [1,2] ⟨[(3,Qhv),(9,zs2)],[(100000,Jbu)]⟩ [(.x 0,⟨Q4y,[(100100,Jbu)]⟩)])] func273
def Qu7(N:Nat):V:=⟨Ta N N,Qb0 N N⟩
def Qtr(N:Nat):V:=⟨⟨228,Q4l,[Jpr],Qc3 N,[]⟩,kF N [Qdk,Qah,Qai,Qu7] [(10,.lp [1,2,18,19] [1,2] ⟨[(3,Qhw),(20,zs2)],[(100000,.var 146 (.ag (sL [V9,zs2,zs4,Qti,.ns,.ns,.ns]))),(100001,Qf1)]⟩ [(.x 0,⟨[(3,Qhy)],[(100100,.var 146 (.ag (sL [V9,zs2,zs4,Qo9,.ns,.ns,.ns]))),(100101,Qf1)]⟩)]),(21,.an (.dc 9 [24,25,26,27,28,29,30,31,32] [100000,5] [] (.b 100000 (.d 100000 100001 (.b 5 (.c 5 (.b 5 (.c 5 (.k 0 [] [] [13001] [13001] (.b 13001 (.op ⟨.fz 13001 (.nl 1 .done),[13001],[],[],[13001]⟩ Qlq))))))))))),(27,.lp [1,2,37,38] [1,2] ⟨[(3,Qth),(39,zs2)],[(100200,.var 146 (.ag (sL [V9,zs2,zs4,Q9b,Jfl,.ns,.ns]))),(100201,Qf1),(100202,Qls)]⟩ [(.x 2,⟨[(3,Qo5)],[(100300,.var 146 (.ag (sL [V9,zs2,zs4,Qxa,Q4v,.ns,.ns]))),(100301,Qf1),(100302,Qls)]⟩)]),(38,.an (.dc 9 [43,44,45,46,47,48,49,50,51] [100200,7] [] (.b 100200 (.d 100200 100202 (.b 7 (.c 7 (.b 7 (.c 7 (.k 1 [] [] [14901] [14901] (.b 14901 (.op ⟨.fz 14901 (.nl 1 .done),[14901],[],[],[14901]⟩ Qlq))))))))))),(44,.lp [1,2,56,57] [1,2] ⟨[(3,Q4w),(58,zs2)],[(100400,.var 146 (.ag (sL [V9,zs2,zs4,Q4x,Jb5,.s 100403,.ns]))),(100401,Qf1),(100402,Qls),(100403,Qtk)]⟩ [(.x 4,⟨[(3,.p 100500 [])],[(100500,.var 146 (.ag (sL [V9,zs2,zs4,Jka,Jkb,.s 100503,.ns]))),(100501,Qf1),(100502,Qls),(100503,Qtk)]⟩)]),(57,.rg (.n 3 (.fz 16401 Jb7))),(63,.lp [2,74,75] [1,2] ⟨[(3,.p 100600 []),(76,zs2)],[(100600,.var 146 (.ag (sL [V9,zs2,zs4,.s 100601,.s 100602,.s 100603,.s 100604]))),(100601,Qf1),(100602,Qls),(100603,Qtk),(100604,Q4q)]⟩ [(.x 6,⟨[(3,.p 100700 [])],[(100700,.var 146 (.ag (sL [V9,zs2,zs4,.s 100701,.s 100702,.s 100703,.s 100704]))),(100701,Qf1),(100702,Qls),(100703,Qtk),(100704,Q4q)]⟩)])] func228⟩
def Q47(N:Nat):V:=⟨⟨164,(sD [.sl Ym,.str,.i]),[⟨[(0,.ag (sL [V9,zs2,zs4,Ry,Qhx,Q4j,.s 4])),(1,zs4)],Jpq⟩],u3 (Qnm N),[]⟩,kF N [Qtr] [(8,.lp [0,1,2,6,11,12] [6] ⟨[(8,zs2),(13,zs2)],[]⟩ Jkc),(16,.jn [13] [] [(.n,Qpv)])] func164⟩
def Qzv(N:Nat):V:=⟨⟨274,Qtf,[zs1],Qjv N,[]⟩,kF N [] [(6,.lp [0,6] [] Q9e Qj1)] func274⟩
def Qpx(N:Nat):V:=⟨⟨276,⟨[(0,.d V7),(1,Zl)],Jp3⟩,[zs1],u2 (Tr N),[5000]⟩,kF N [] [] func276⟩
def N3(N:Nat):V:=⟨⟨304,Jp4,[zs7],u2 (Km N),[5000]⟩,kF N [Qpx] [(6,.lp [0,1,7] [] Qpv Qno),(18,.rg (.n 5 (.call 0 .done)))] func304⟩
def Id(N:Nat):V:=⟨⟨275,Jp4,[zs1],u2 (U3 N),[5000]⟩,kF N [N3] [] func275⟩
def Qu8(N:Nat):V:=⟨⟨229,Jpg,[⟨[(0,.m 1),(1,zs2)],[(1,Qxb)]⟩,⟨[(0,.nm),(1,zs2)],[]⟩],Qfq N,[]⟩,kF N [Qzv,Id,P9] [(16,.lp [0,15,16] [] ⟨[(4,Jke),(17,zs2)],[(100000,Qxb)]⟩ [(.x 0,⟨[(4,.m 100400)],[(100400,Qxb)]⟩),(.r,⟨[(2,.nm),(3,zs2)],[]⟩)]),(57,.lp [6,17,44,45] [6] ⟨[(4,Jkf),(46,zs2)],[(100100,Qxb)]⟩ [(.x 3,⟨[(4,.m 100200)],[(100200,Qxb)]⟩),(.r,⟨[(2,.nm),(3,zs2)],[]⟩)])] func229⟩
def Qpy(N:Nat):V:=⟨⟨230,⟨[(0,.m 5000),(1,V9),(2,zs2)],[(5000,Qxb)]⟩,[(sD [.str,.bool])],u3 (Tt N),[5000]⟩,kF N [] [(4,.lp [0,1] [] ⟨[(2,zs2)],[]⟩ [(.x 0,⟨[],[]⟩),(.r,⟨[(6,V9),(7,zs4)],[]⟩)])] func230⟩
def Qzw(N:Nat):V:=⟨⟨165,(sD [.sl V7,.str]),[(sD [.str,.bool])],u2 (Qjw N),[]⟩,kF N [Qu8,P9,Qpy] [(4,.an (.cn 6 (.two (.two (.reg (.n 3 (.sp 15 4 [1,6] [] Jjk Qeo (.nl 1 Jjl) .done))) (.two Jp5 (.gh (.tl .done) .nil))) .nil) (.two (.two (.reg (.n 3 (.sp 15 4 [1,6] [11001] Jjk Qeo (.nl 1 Jjl) .done))) (.two Jp5 .nil)) (.two (.reg (.n 4 (.call 2 Jb7))) .nil))))] func165⟩
def Qzx(N:Nat):V:=⟨⟨277,Qtf,[zs1],Qjx N,[]⟩,kF N [] [(6,.lp [0,6] [] Q9e Qj1)] func277⟩
def Qpz(N:Nat):V:=⟨⟨279,⟨[(0,.d Uh),(1,Zl)],Jp6⟩,[zs1],u2 (Tu N),[5000]⟩,kF N [] [] func279⟩
def N4(N:Nat):V:=⟨⟨305,Jp7,[zs7],u2 (Kn N),[5000]⟩,kF N [Qpz] [(6,.lp [0,1,7] [] Qpv Qno),(18,.rg (.n 5 (.call 0 .done)))] func305⟩
def Ie(N:Nat):V:=⟨⟨278,Jp7,[zs1],u2 (U4 N),[5000]⟩,kF N [N4] [] func278⟩
def Qu9(N:Nat):V:=⟨⟨280,Jp2,[zs7],Qfs N,[]⟩,kF N [] [(22,.lp [11,12] [] Jkg Qpu)] func280⟩
def Qva(N:Nat):V:=⟨⟨232,Jph,[zs7],Qfu N,[]⟩,kF N [Qzx,Ie,Qu9] [(22,.lp [0,12,13] [] ⟨[(14,zs2)],[]⟩ Qpu),(30,.jn [14] [] [(.n,⟨[],[]⟩),(.r,⟨[(2,zs2)],[]⟩)])] func232⟩
def Qka(N:Nat):V:=⟨⟨307,Jb1,[zs7],u2 (D3 N),[]⟩,kF N [] [(6,.lp [0,1,7] [] Qpv Qno)] func307⟩
def Qet(N:Nat):V:=⟨⟨283,Jb1,[zs1],u2 (E5 N),[]⟩,kF N [Qka] [] func283⟩
def Qkb(N:Nat):V:=⟨⟨284,zs7,[zs7],D4 N,[]⟩,kF N [] [] func284⟩
def Q48(N:Nat):V:=⟨⟨234,Jb1,[zs7],u2 (Qnn N),[]⟩,kF N [Qet,Qkb] [] func234⟩
def Qts(N:Nat):V:=⟨⟨281,⟨[(0,.d Zn),(1,Zl),(2,Qf2)],Jp8⟩,[zs1],u3 (Qc4 N),[5000,5001]⟩,kF N [] [] func281⟩
def N5(N:Nat):V:=⟨⟨306,Jp9,[zs7],u3 (Ko N),[5000,5001]⟩,kF N [Qts] [(6,.lp [0,1,7] [] Qpv Qno),(18,.rg (.n 5 (.call 0 .done)))] func306⟩
def If(N:Nat):V:=⟨⟨282,Jp9,[zs1],u3 (U5 N),[5000,5001]⟩,kF N [N5] [] func282⟩
def Qzy(N:Nat):V:=⟨⟨233,(sD [.sl Uh,.i,.i]),[Qtf],u3 (Qjy N),[]⟩,kF N [If] [(8,.lp [0,7,11,12] [4,5] Jkg [(.x 0,⟨[],[]⟩),(.r,⟨[(6,V9)],[]⟩)])] func233⟩
def Q9f(N:Nat):V:=⟨⟨167,(sD [.sl Uh,.sl .i,.i]),[Qtf],u3 (Qte N),[]⟩,kF N [Qva,Q48,Qzy] [] func167⟩
def Qnt(N:Nat):V:=⟨⟨231,⟨[(0,.d Xs),(1,Zl),(2,Qf2),(3,.p 5002 [])],[(5000,P5),(5001,Q4z),(5002,Q4z)]⟩,[zs1],u4 (Pn N),[5000,5001,5002]⟩,kF N [] [] func231⟩
def Qtt(N:Nat):V:=⟨⟨166,(sD [Ym,.i,.str,.str]),[⟨[(0,Jpu),(1,zs4)],Jb6⟩],u4 (Qc5 N),[]⟩,kF N [Qnt] [(8,.lp [10,15,16] [4,5,6,7] ⟨[(8,Qhw),(17,zs2)],[(100000,Jqa)]⟩ [(.x 0,⟨[(8,Qhy)],[(100100,Jqa)]⟩),(.r,⟨[(8,Qth),(9,zs4)],[(100200,.var 76 (.ag (sL [zs2,V9,V9,zs2,Q9b]))),(100201,Qtm)]⟩)]),(20,.rg (.n 2 (.call 0 .done)))] func166⟩
def Qzz(N:Nat):V:=⟨⟨120,(sD [Ks,Yh,.i,.i,.str,.i]),[⟨[(0,Jjy),(1,zs2)],Jb6⟩],u6 (Qjz N),[]⟩,kF N [P9,Ck,Qtq,Q47,Qzw,Q9f,Qtt,fun _=>⟨_,P3⟩] [(57,.gh (.fz 19402 (.dt 19 (.fz 19403 (.dt 19 (.fz 19404 (.dt 19 .done))))))),(57,.an (.dc 15 [108,109,110,111,112,113,114,115,116,117,107,118,119,23,1000000014] [19,6] [] (.c 19 (.a (.a (.b 19 (.c 19 (.b 6 (.c 6 (.a (.k 5 [] [] [] [] (.k 6 [] [] [21701] [21701] (.b 21701 (.b 21701 (.a (.e 23 (.g [23] [21701] [] [23,21701] Eo)))))))))))))))))] func120⟩
def Fx(N:Nat):V:=⟨⟨74,Jqb,[⟨Jjw,[(1,.var 173 (.ag (sL [.ag (sL [zs2,zs2,zs2,zs2,.ag (sL [zs2,zs2,zs2,V9,V9,zs2,.ag (sL [zs2,V9,V9,zs2,Qhx]),zs2,zs2]),zs2,Q4j,zs2,zs2,zs4,Ka]),.ag (sL [.s 4,.s 5,.s 6])]))),(2,Qtm),(3,Zm),(4,Un),(5,Yr),(6,Ch)]⟩],u2 (Gm N),[]⟩,kF N [Dh,Nq] [(3,.an (.dc 3 [5,6,7] [3,2] [] (.c 3 (.k 0 [] [] [10602,10601] [10601,10602] (.c 2 (.tl (.call 1 Qu5)))))))] func74⟩
def Rd(N:Nat):V:=⟨⟨168,Q4p,[Jkh],Cb N,[]⟩,kF N [] [] func168⟩
def Qpd(N:Nat):V:=⟨⟨169,Q4p,[(sD [Zo])],Qbi N,[]⟩,kF N [] [] func169⟩
def Qp0(N:Nat):V:=⟨⟨170,Qw8,[zs7],u2 (Tv N),[]⟩,kF N [] [(6,.lp [1,7,8] [] zs3 Qno)] func170⟩
def Qgu(N:Nat):V:=⟨⟨286,⟨[(0,.d Du),(1,Zl)],[(5000,Q4z)]⟩,[zs1],u2 (As N),[5000]⟩,kF N [] [(6,.lp [1,7,8] [2] zs3 [(.x 0,⟨[],[]⟩),(.r,⟨[(3,zs4)],[]⟩)])] func286⟩
def Qgv(N:Nat):V:=⟨⟨309,Jki,[zs1],u2 (At N),[]⟩,kF N [] [] func309⟩
def Qgw(N:Nat):V:=⟨⟨310,Jki,[Jbt],u2 (Au N),[]⟩,kF N [] [] func310⟩
def L1(N:Nat):V:=⟨⟨308,⟨[(0,Jb8),(1,.f 309 .nil),(2,.f 310 .nil)],[]⟩,[Qtn],Zd N,[]⟩,kF N [Qgv,Qgw] [(8,.lp [1,2,11,12] [] ⟨Jpx,Jkj⟩ Jqc),(16,.jn [13] [] Jqd),(22,.an (.dc 10 [19,20,21,22,23,24,25,26,27,28] [100000,9] [] (.a (.a (.a (.so 21 (.a (.b 100000 (.a (.a (.d 100000 100000 (.c 100000 (.c 9 (.tl Q9c)))))))) Q4o)))))),(24,.an (.dc 11 [31,32,33,34,35,36,37,38,39,40,41] [100000,9] [] (.b 100000 (.a (.a (.a (.b 100000 (.a (.a (.d 100000 100000 (.c 100000 (.c 9 Jjt))))))))))))] func308⟩
def Qkc(N:Nat):V:=⟨⟨285,⟨[(0,Jj5),(1,zs2),(2,.f 286 Jkd)],[(5000,Q4z)]⟩,[Qtn],u3 (D5 N),[5000]⟩,kF N [Ra,Qgu,L1] [(8,.lp [2,12,13] [11201] ⟨[(7,Qhv),(14,zs2)],Jkj⟩ Jqc),(16,.jn [14] [] Jqd),(20,.rg (.n 2 (.call 1 .done)))] func285⟩
def Qkd(N:Nat):V:=⟨⟨235,(sD [.sl Jr,.i,.str]),[Qtn],u3 (D6 N),[]⟩,kF N [Qkc] [] func235⟩
def Qp1(N:Nat):V:=⟨⟨236,(sD [U1,U1]),[zs1],u2 (Tw N),[]⟩,kF N [] [] func236⟩
def Ql5(N:Nat):V:=⟨⟨171,Qw8,[⟨Qf0,[(1,Jb9)]⟩],u2 (Mh N),[]⟩,kF N [Qkd,Qp1] [(5,.rg (.br zs5)),(12,.lp [0,1,15,16] [] ⟨[(5,Jke),(6,Jj8),(7,Jfm),(17,zs2)],[(100000,Qo8),(100001,Qxc),(100002,Jb9)]⟩ [(.x 0,⟨[(7,.s 101100)],[(101100,Jb9)]⟩)]),(20,.jn [17] [] [(.n,⟨[(5,.m 101000),(6,.m 101001),(7,.s 101002)],[(101000,Qo8),(101001,Qxc),(101002,Jb9)]⟩)]),(24,.jn [6,7,9,17] [9,100001,100002] [(.n,⟨[(5,Jkf)],[(100100,Qo8)]⟩)]),(31,.jn [5,7,9,17] [9,100002,100100] [(.n,⟨[(6,.m 100300),(51,zs4)],[(100300,Qxc)]⟩)]),(31,.gh (.op (.v 9 [.f 5 5]) 100001 700000 .done)),(31,.rg (.n 11 (.sp 43 8 [5,6,7,9,17] [100001,700000] ⟨[(51,zs4)],[]⟩ zs6 (.nl 3 (.br (.nl 2 (.br zs5)))) (.cl 100001 .done)))),(36,.jn [5,7,9,17] [9,100002,100100] [(.n,⟨[(6,.m 100500)],[(100500,Qxc)]⟩)]),(37,.jn [5,7,9,17] [] [(.n,⟨[(6,.m 100400),(56,zs4)],[(100400,Qxc)]⟩)]),(37,.gh (.op (.v 9 [.f 5 5]) 100300 700001 .done)),(37,.rg (.n 3 (.br (.n 1 (.cl 100300 .done))))),(39,.rg (.n 4 (.br .done))),(42,.jn [5,7,9,17] [9,100002,100100] [(.n,⟨[(6,.m 100600)],[(100600,Qxc)]⟩)]),(42,.gh (.op (.v 9 [.f 5 5]) 100500 700002 .done)),(42,.rg (.n 3 (.br (.n 3 (.cl 100500 .done))))),(44,.an (.dc 13 [67,68,69,70,71,72,73,74,75,76,77,78,10] [9] [] (.a (.b 9 (.c 9 (.b 9 (.c 9 (.a (.b 9 (.c 9 (.b 9 (.c 9 (.k 0 [] [] [17701] [17701] (.b 17701 (.e 10 Eo))))))))))))))),(49,.gh (.fz 17701 .done)),(49,.lp [5,6,7,10,17] [9,10,17701,100002,100100,100600] Jkk [(.x 2,Jkk)]),(52,.jn [11] [] Juy),(52,.an (.dc 10 [79,80,81,82,83,84,85,86,87,88] [] [100002,10] (.a (.b 100002 (.c 100002 (.a (.a (.so 83 (.b 100002 (.a (.d 100002 100002 (.c 100002 (.d 10 17701 (.tl Jn3)))))) Jpn)))))))),(59,.rg (.n 2 (.fz 100002 Qu5)))] func171⟩
def L2(N:Nat):V:=⟨⟨238,Jki,[(sD [J9,.bool])],u2 (Wx N),[]⟩,kF N [Er] [(6,.rg (.n 1 (.call 0 (.n 2 (.sp 21 4 [3,4,6] [2,3,4,6] ⟨[(25,zs4)],[]⟩ Qeo (.nl 1 Jjn) Qlr)))))] func238⟩
def Tb(N:Nat):V:=⟨⟨323,zs7,[zs7],Kt N,[]⟩,kF N [] [(7,.jn [] [] [(.n,Q4g)])] func323⟩
def Qp2(N:Nat):V:=⟨⟨328,zs7,[zs1],Tx N,[]⟩,kF N [] [] func328⟩
def Ms(N:Nat):V:=⟨⟨324,Qhz,[zs7],u2 (Xd N),[]⟩,kF N [Qp2] [(6,.rg (.n 3 (.sp 9 3 [0,1,5] [5] ⟨[(12,zs4)],[]⟩ (.nl 1 Q9c) Jfj .done)))] func324⟩
def Qp3(N:Nat):V:=⟨⟨311,zs7,[(sD [Qhl])],Tz N,[]⟩,kF N [Tb,Ms] [(14,.lp [0,2] [2] ⟨[(3,Qhw)],[(100000,Jca)]⟩ [(.x 0,⟨[(3,Qhy)],[(100100,Jca)]⟩)]),(27,.lp [2] [2] ⟨[(0,zs2),(3,Qth)],[(100200,Jca)]⟩ [(.x 2,⟨[(0,zs2),(3,Qo5)],[(100300,Jca)]⟩)])] func311⟩
def Qnu(N:Nat):V:=⟨⟨287,Qhz,[zs7],u2 (Hx N),[]⟩,kF N [Qp3] [(7,.jn [] [5] [(.n,Jjo)])] func287⟩
def Ql6(N:Nat):V:=⟨⟨329,Qhz,[zs7],u2 (Mi N),[]⟩,kF N [Ms] [] func329⟩
def Qtu(N:Nat):V:=⟨⟨325,(sD [Qhl]),[Qhz],Qc6 N,[]⟩,kF N [Ql6,Tb,Ms] [(4,.jn [1] [1] [(.n,Q89)]),(4,.an (.dc 11 [6,7,8,9,10,11,12,13,14,15,16] [] [1] (.b 1 (.c 1 (.a (.a (.so 9 Q4o (.b 1 (.c 1 (.b 1 (.c 1 (.b 1 (.c 1 (.k 0 [] [] [] [] (.tl Qps))))))))))))))),(11,.an (.dc 5 [19,20,21,22,23] [1] [] (.b 1 (.c 1 (.k 1 [] [] [] [] Jqe))))),(16,.lp [1] [1] Jpl [(.x 0,Q4g)])] func325⟩
def Qnv(N:Nat):V:=⟨⟨312,Qhz,[zs7],u2 (Hy N),[]⟩,kF N [Qtu] [] func312⟩
def Qnw(N:Nat):V:=⟨⟨288,Qhz,[Jbt],u2 (Pq N),[]⟩,kF N [Qnv] [(5,.jn [4] [4] [(.n,⟨[(5,Qhw)],[(100000,.var 127 Qo7)]⟩)])] func288⟩
def Tc(N:Nat):V:=⟨⟨239,(sD [.i,J9]),[Qtn],u2 (Ge N),[]⟩,kF N [Qnu,Qnw] [(16,.lp [0,3] [3] ⟨[(5,Qhv),(6,zs2)],Jkj⟩ [(.x 0,⟨[(5,Qpt)],[(100100,Lv)]⟩)])] func239⟩
def Qgx(N:Nat):V:=⟨⟨237,⟨[(0,Qo7),(1,Zl),(2,Qf2),(3,.p 5003 [])],[(5000,P5),(5001,.var 301 Qtl),(5002,Lv),(5003,P5)]⟩,[⟨[],[(5001,.var 301 Ry),(1,Lv)]⟩],u4 (Av N),[5000,5003]⟩,kF N [L2,Tc] [(7,.an (.dc 4 [16,17,18,19] [5001,5] [5003] (.d 5001 5002 (.c 5003 (.c 5 (.k 1 [] [] [11901] [11901] Q4k))))))] func237⟩
def Qgy(N:Nat):V:=⟨⟨313,Jqf,[Jqg],u3 (Aw N),[]⟩,kF N [Er] [(3,.lp [1,7,8] [] ⟨[(2,Zl),(9,zs2)],[(5000,.var 431 Qti),(100001,Qpa)]⟩ [(.x 0,⟨[],[(5000,.var 431 Q9b),(100201,Qpa)]⟩)]),(11,.jn [9] [] [(.n,⟨[(2,Zl)],[(5000,.var 431 Qo9),(100101,Qpa)]⟩)])] func313⟩
def Qb1(N:Nat):V:=⟨⟨313,Jqf,[Jqg],u3 (Gq N),[]⟩,kF N [Er] [(3,.lp [1,7,8] [] ⟨[(2,Zl),(9,zs2)],[(5000,.var 431 Qti),(100001,Qpa)]⟩ [(.x 0,⟨[],[(5000,.var 431 Q9b),(100201,Qpa)]⟩)]),(11,.jn [9] [] [(.n,⟨[(2,Zl)],[(5000,.var 431 Qo9),(100101,Qpa)]⟩)])] func313⟩
def Qke(N:Nat):V:=⟨⟨290,(sD [.bool,.bool]),[zs1],u2 (D7 N),[]⟩,kF N [] [] func290⟩
def Qkf(N:Nat):V:=⟨⟨289,⟨[(0,Jb8),(1,Jb8),(2,.f 290 .nil)],[]⟩,[Qtn],u2 (D8 N),[]⟩,kF N [Qgy,Qb1,fun _=>⟨_,H9⟩,Qke] [(7,.rg (.n 2 (.call 0 .done))),(9,.rg (.n 2 (.call 1 .done))),(22,.lp [2,7,24,25] [7,12101] ⟨[(9,Qhv),(10,Qw9),(11,zs4),(26,zs2)],[(100000,Lv),(100001,Jqh)]⟩ [(.x 0,⟨[(9,Q4t)],[(100400,Lv)]⟩)]),(30,.jn [26] [] [(.n,⟨[(9,Qw4),(10,Jj0),(11,zs4)],[(100300,Lv),(100301,Jqh)]⟩)]),(34,.an (.dr 8 Qtj zs5)),(37,.an (.dr 16 (.n 6 (.sp 44 10 [9,10,11,12,13,26] [13,100000,100001] ⟨[(54,zs4)],[]⟩ Jby Jby .done)) .done)),(42,.rg (.n 7 (.call 3 zs5))),(44,.jn [10,14,26] [13,100001] [(.n,⟨[(9,Qtg)],[(100200,Lv)]⟩)])] func289⟩
def Qnx(N:Nat):V:=⟨⟨240,(sD [.sl J9]),[Qtn],Ps N,[]⟩,kF N [Qkf] [] func240⟩
def Qp4(N:Nat):V:=⟨⟨172,(sD [.sl U1,.i,.i]),[Qtn],u3 (T0 N),[]⟩,kF N [Qgx,Qnx,Tc] [(10,.lp [17,18] [] ⟨[(4,Qhw),(7,Qw9),(8,.f 237 (sL [.p 100002 [],Qw9,Qhw])),(19,zs2)],[(100000,P5),(100001,.var 301 Jsz),(100002,P5),(100003,Lv)]⟩ [(.x 0,⟨[(4,Qo5),(7,Jj0)],[(100300,P5),(100301,.var 301 Q4v),(100302,Lv)]⟩)]),(24,.lp [19,24,25] [10] ⟨[(4,Qhy),(7,Jn1),(8,.f 237 (sL [.p 100102 [],Jn1,Qhy])),(26,zs2)],[(100100,P5),(100101,.var 301 Jsx),(100102,P5),(100103,Lv)]⟩ [(.x 2,⟨[(4,Qth),(7,Jj3),(8,.f 237 (sL [.p 100202 [],Jj3,Qth]))],[(100200,P5),(100201,.var 301 Jsy),(100202,P5),(100203,Lv)]⟩)]),(35,.rg (.n 2 (.call 0 .done))),(44,.lp [4,36,37] [13601,100300,100301,100302] ⟨[(13,Q4t),(38,zs2)],[(100400,Lv)]⟩ [(.x 4,⟨[(13,.s 100500)],[(100500,Lv)]⟩)])] func172⟩
def Qtv(N:Nat):V:=⟨⟨292,⟨[(0,.d J8),(1,Zl),(2,Qf2)],Jqi⟩,[zs1],u3 (Qc7 N),[5000,5001]⟩,kF N [] [] func292⟩
def Mt(N:Nat):V:=⟨⟨291,⟨[(0,Jqj),(1,.f 292 (sL [Zl,Qf2]))],Jqi⟩,[⟨Qf0,[(1,Qlt)]⟩],u3 (Z4 N),[5000,5001]⟩,kF N [Qtv] [(8,.lp [1,8,9] [] ⟨Jjz,[(100000,Qlt)]⟩ [(.x 0,⟨[(5,Qtg)],[(100200,Qlt)]⟩)]),(16,.jn [10] [] [(.n,⟨[(5,Qpt)],[(100100,Qlt)]⟩)]),(20,.rg (.n 2 (.call 0 .done)))] func291⟩
def Qp5(N:Nat):V:=⟨⟨293,Juz,[⟨[(0,.ag (sL [V9,zs2,zs2,V9,zs4,Ry]))],[(1,Qw5)]⟩],T1 N,[]⟩,kF N [] [(8,.lp [1,2,7,8] [1,2] ⟨[(3,Qhv),(9,zs2)],[(100000,Qw5)]⟩ [(.x 0,⟨Q4y,[(100100,Qw5)]⟩)]),(21,.rg (.n 2 (.fz 15 Qu5)))] func293⟩
def Qz0(N:Nat):V:=⟨⟨241,(sD [.sl J8,.str,.i]),[⟨[(0,.ag (sL [V9,zs2,zs2,V9,zs4,Ry])),(1,zs4)],[(1,Qw5)]⟩],u3 (Qj0 N),[]⟩,kF N [Mt,Qp5] [] func241⟩
def Qdl(N:Nat):V:=⟨⟨173,(sD [U1,.sl J8,J9]),[⟨Qf0,[(1,Jcb)]⟩],u3 (Hz N),[]⟩,kF N [L2,Qz0] [(6,.lp [1,3,5,18,19] [3,5] ⟨[(20,zs2)],[]⟩ [(.x 0,⟨[],[]⟩),(.r,⟨[(6,Q4t)],[(100400,Jcb)]⟩)]),(33,.lp [9,42,43] [8,9,11,13801] ⟨[(13,Qpt),(44,zs2)],[(100100,Jcb)]⟩ [(.x 2,⟨[(13,Qtg)],[(100200,Jcb)]⟩)])] func173⟩
def Td(N:Nat):V:=⟨⟨242,Q4n,[zs1],u2 (Fv N),[]⟩,kF N [] [] func242⟩
def Qtw(N:Nat):V:=⟨⟨243,(sD [Ja,Ja,.i]),[Jkh],u3 (Qc8 N),[]⟩,kF N [Rd,Td] [(5,.jn [6] [3,4,6] [(.n,⟨[(7,Qhw)],[(100000,.var 129 (.ag (sL [zs2,zs2,V9,zs2,zs2,Qti,Qo7,zs2,zs2,zs2,zs4]))),(100001,Q4i)]⟩)])] func243⟩
def Qp6(N:Nat):V:=⟨⟨244,Q4n,[zs1],u2 (T2 N),[]⟩,kF N [] [] func244⟩
def Qkg(N:Nat):V:=⟨⟨174,⟨[(0,Zl),(1,.d Fs)],[(5000,.var 293 (.ag (sL [Qo4,S8]))),(5001,Un),(5002,Qed)]⟩,[⟨[],[(5000,.var 293 (.ag (sL [Ry,S8]))),(5002,Qed),(1,Un)]⟩],u3 (D9 N),[]⟩,kF N [Qpd,Rd,Td,Qtw,Qp6] [(4,.an (.dc 7 [9,10,11,12,13,14,15] [5000,3] [] (.b 5000 (.d 5000 5000 (.b 5000 (.d 5000 5002 (.b 3 (.c 3 Jqk)))))))),(14,.gh (.fz 11901 .done)),(14,.lp [0,3,23,24] [3,5000,5001,5002] ⟨[(4,Qhw),(25,zs2)],[(100000,.var 129 (.ag (sL [zs2,zs2,V9,zs2,zs2,Qti,Qo7,zs2,zs2,zs2,zs4]))),(100001,.tail 9 .str)]⟩ [(.x 0,⟨[(4,Qhy)],[(100100,.var 129 (.ag (sL [zs2,zs2,V9,zs2,zs2,Qo9,Qo7,zs2,zs2,zs2,zs4]))),(100101,.tail 9 .str)]⟩)]),(37,.lp [0,4] [3,5000,5001,5002,100100,100101] Q9e [(.x 2,Q9e)]),(40,.jn [7] [] [(.n,Jsp)]),(40,.an (.dc 16 [38,39,40,41,42,43,44,45,46,47,48,49,50,51,52,53] [] [5000,5001,100100] (.a (.b 5000 (.d 5000 5000 (.b 5000 (.d 5000 5001 (.c 5001 (.a (.a (.so 45 (.b 5000 (.d 5000 5000 (.b 5000 (.d 5000 5001 (.a (.d 5001 5001 (.c 5001 (.d 100100 100101 (.tl (.call 4 zs5)))))))))) Jql))))))))))),(47,.rg (.n 5 (.fz 5001 Qu5))),(52,.gh (.dt 100100 .done)),(52,.an (.dc 6 [80,81,82,83,84,85] [5000,100100] [] (.b 5000 (.d 5000 5000 (.b 5000 (.d 5000 5002 (.c 100100 Jqk)))))))] func174⟩
def Qb2(N:Nat):V:=⟨⟨121,(sD [.sl Jr,.sl J8,Yh,.i,.i]),[Qw6],u5 (Cc N),[]⟩,kF N [Rd,Qpd,Qp0,Ql5,Qp4,Qdl,Qkg] [(8,.lp [0,1,3,4,7,10,27,28] [7,10] ⟨[(11,Qhw),(29,zs2)],[(100000,.var 293 (.ag (sL [Qti,.m 100002]))),(100001,Un),(100002,Qed)]⟩ [(.x 0,⟨[(11,Qhy)],[(100100,.var 293 (.ag (sL [Qo9,.m 100102]))),(100101,Un),(100102,Qed)]⟩)]),(20,.an (.dc 9 [33,34,35,36,37,38,39,40,41] [100000,13,100001] [] (.b 100000 (.b 100000 (.d 100000 100000 (.b 100000 (.d 100000 100001 (.c 13 (.k 0 [] [] [13901] [13901] (.op ⟨.fz 13901 (.nl 1 .done),[13901],[],[],[13901]⟩ (.g [100001] [] [41] [41] Qlq))))))))))),(21,.an (.dc 6 [44,45,46,47,48,49] [100000,13] [] (.b 100000 (.d 100000 100000 (.b 100000 (.d 100000 100002 (.c 13 (.k 1 [] [] [] [] Eo)))))))),(24,.an (.dc 8 [51,52,53,54,55,56,57,14] [7] [] (.b 7 (.c 7 (.e 53 (.b 7 (.c 7 (.e 56 (.g [] [] [] [53,56] (.e 14 Eo)))))))))),(28,.jn [10,14] [7,10,14,53,56] [(.n,⟨[(11,.p 100900 [])],[(100900,.var 293 (.ag (sL [.s 100901,.m 100902]))),(100901,Un),(100902,Qed)]⟩)]),(36,.lp [1,4,10,14,16,77,78] [17301,17701] ⟨[(11,Qth),(79,zs2)],[(100200,.var 293 (.ag (sL [Q9b,.m 100202]))),(100201,Un),(100202,Qed)]⟩ [(.x 2,⟨[(11,.p 100800 [])],[(100800,.var 293 (.ag (sL [.s 100801,.m 100802]))),(100801,Un),(100802,Qed)]⟩)]),(50,.lp [18,79,83,84] [18] ⟨[(11,Qo5),(85,zs2)],[(100300,.var 293 (.ag (sL [Qxa,.m 100302]))),(100301,Un),(100302,Qed)]⟩ [(.x 4,⟨[(11,.p 100700 [])],[(100700,.var 293 (.ag (sL [.s 100701,.m 100702]))),(100701,Un),(100702,Qed)]⟩)]),(64,.lp [85,92,93] [20,19201] ⟨[(11,Q4w),(94,zs2)],[(100400,.var 293 (.ag (sL [Q4x,.m 100402]))),(100401,Un),(100402,Qed)]⟩ [(.x 6,⟨[(11,.p 100600 [])],[(100600,.var 293 (.ag (sL [.s 100601,.m 100602]))),(100601,Un),(100602,Qed)]⟩)]),(72,.jn [94] [] [(.n,⟨[(11,.p 100500 [])],[(100500,.var 293 (.ag (sL [Jka,.m 100502]))),(100501,Un),(100502,Qed)]⟩)])] func121⟩
def Ql7(N:Nat):V:=⟨⟨245,Jbs,[⟨Qf0,[(1,Un)]⟩],Mj N,[]⟩,kF N [] [(8,.lp [6,7] [] ⟨[(3,Qhv),(8,zs2)],[(100000,Un)]⟩ [(.x 0,⟨Q4y,[(100100,Un)]⟩)]),(21,.rg (.n 2 (.fz 14 Qu5)))] func245⟩
def Qp7(N:Nat):V:=⟨⟨175,Q4m,[Qw6],T3 N,[]⟩,kF N [Ql7] [(3,.an (.dc 8 [3,4,5,6,7,8,9,10] [1] [] (.b 1 (.c 1 (.k 0 [] [] [10501] [10501] (.b 1 (.c 1 (.e 8 Jqe))))))))] func175⟩
def Qny(N:Nat):V:=⟨⟨176,Jb0,[zs1],u3 (Pu N),[]⟩,kF N [] [(6,.lp [1,2,9,10] [] Jkk Ju0)] func176⟩
def Qnz(N:Nat):V:=⟨⟨246,Jpo,[⟨[(0,.m 1)],[(1,Qlu)]⟩],Pv N,[]⟩,kF N [] [(8,.lp [9,10] [] ⟨[(3,Jke),(11,zs2)],[(100000,Qlu)]⟩ [(.x 0,⟨[(3,.m 100200)],[(100200,Qlu)]⟩)]),(16,.jn [11] [] [(.n,⟨[(3,Jkf)],[(100100,Qlu)]⟩)])] func246⟩
def Qtx(N:Nat):V:=⟨⟨177,(sD [.sl Ya,.i]),[⟨[(0,Ry),(1,zs2)],[(1,Yr)]⟩],u2 (Qc9 N),[]⟩,kF N [Qnz] [(16,.lp [0,1] [11201] Qpv Jkc),(19,.rg (.n 5 (.sp 25 8 [8] [] ⟨[(33,zs4)],[]⟩ zs6 zs6 .done)))] func177⟩
def U8(N:Nat):V:=⟨⟨161,(sD [.i,.i,.i]),[zs1],u3 (Yj N),[]⟩,kF N [] [] func161⟩
def Qgz(N:Nat):V:=⟨⟨226,zs7,[zs1],Nw N,[]⟩,kF N [] [] func226⟩
def X8(N:Nat):V:=⟨⟨159,Jjs,[zs7],K2 N,[]⟩,kF N [U8,Qgz] [(5,.rg (.n 2 (.call 0 (.n 2 (.sp 8 5 [1] [1] zs8 Ea Jjm (.n 1 (.sp 14 5 [1] [1] Jjk Ea Q9d zs5))))))),(11,.rg (.n 2 (.call 0 (.n 2 (.sp 25 5 [1] [1] Jjr Ea Q9d zs5)))))] func159⟩
def Fy(N:Nat):V:=⟨⟨160,Qlv,[Qlv],u2 (Yv N),[]⟩,kF N [] [] func160⟩
def Qp8(N:Nat):V:=⟨⟨179,Qlv,[Qlv],u2 (T4 N),[]⟩,kF N [X8,Fy,U8,Qgz] [(14,.rg (.n 1 (.call 2 (.n 2 (.sp 19 7 [1,2,4] [2,4] ⟨[(26,zs4)],[]⟩ Qnp (.nl 4 (.call 3 Qps)) .done)))))] func179⟩
def Qie(N:Nat):V:=⟨⟨178,⟨[(0,.d Ya),(1,zs2),(2,Zl)],[(5000,Q40)]⟩,[⟨[],[(5000,Q40)]⟩],u3 (G8 N),[]⟩,kF N [] [] func178⟩
def Qty(N:Nat):V:=⟨⟨180,Qlv,[Qlv],u2 (Qda N),[]⟩,kF N [X8,Fy,U8] [] func180⟩
def Te(N:Nat):V:=⟨⟨122,(sD [.sl Jr,Yh,.i,.i]),[Qw6],u4 (Fw N),[]⟩,kF N [Qp7,Qny,Qtx,Qp8,Qie,Qty] [(6,.rg (.n 7 (.sp 24 6 [0,2,3,8,9] [5,8,9,11701,11702,11703] Jjr Qzt Jnz .done))),(22,.lp [2,3,8,9,10,11,44,45] [5,8,9,11701,11702,11703,13601] ⟨[(12,Qhy),(13,.f 178 (sL [Qhy])),(46,zs2)],[(100100,Q40)]⟩ [(.x 0,⟨[(12,Q4w)],[(100400,Q40)]⟩)]),(30,.jn [46] [] [(.n,⟨[(12,Qo5),(13,.f 178 (sL [Qo5]))],[(100300,Q40)]⟩)]),(35,.an (.dr 20 (.n 5 (.sp 54 9 [12,13,15,46] [15,100100] Js1 Q87 Q87 Qzu)) .done)),(45,.rg (.n 4 (.call 3 Jqm))),(49,.rg (.n 4 (.call 5 Jqm)))] func122⟩
def Re(N:Nat):V:=⟨⟨155,Qhz,[zs1],u2 (K3 N),[]⟩,kF N [] [] func155⟩
def Qtz(N:Nat):V:=⟨⟨224,Q4p,[Jkh],Qdb N,[]⟩,kF N [] [] func224⟩
def Qeg(N:Nat):V:=⟨⟨152,Jbs,[⟨Qf0,[(1,Un)]⟩],Im N,[]⟩,kF N [Qtz] [(8,.lp [6,7] [] ⟨[(3,Qhv),(8,zs2)],[(100000,Un)]⟩ [(.x 0,⟨Q4y,[(100100,Un)]⟩)]),(19,.rg (.n 2 (.call 0 (.fz 11401 Qu5))))] func152⟩
def Qn0(N:Nat):V:=⟨⟨295,Qhz,[zs7],u2 (Xy N),[]⟩,kF N [] [] func295⟩
def Qn1(N:Nat):V:=⟨⟨255,Q4n,[zs1],u2 (Px N),[]⟩,kF N [Qn0] [] func255⟩
def Nt(N n:Nat):Con:=⟨185,(sD [.sl Ja,.i,.i]),[(sD [.sl .i])],fun(x0,x1,x2)=>U6 N n x0 x1 x2,[]⟩
theorem Rf(N:Nat):∀n,KO (Nt N n)
 | 0=>⟨Qhj fun _=>rfl,K5 func185 rfl⟩
 | n+1=>have ih:=Rf N n; kF N [fun _=>⟨_,ih⟩,Qn1] [(12,.lp [2] [] Jpk [(.x 0,⟨[(7,Qpt)],[(100100,Fl)]⟩)]),(37,.lp [0,10,11] [] ⟨[(12,Qtg),(13,zs2),(14,zs2)],[(100200,Fl)]⟩ [(.x 2,⟨[(12,Q4t)],[(100400,Fl)]⟩)]),(46,.jn [12,13,14] [100200] [(.n,⟨[(85,zs4)],[]⟩)]),(46,.an (.dc 24 [58,59,60,61,62,63,64,65,66,67,68,69,70,71,72,73,74,75,76,77,78,79,80,81] [] [] (.a (.a (.a (.a (.a (.so 62 (.a (.a (.a (.a (.a Jqo))))) (.a (.a (.a (.a (.a (.so 67 (.a (.a (.a (.a (.a (.a (.a (.a (.a (.a (.a (.a (.a (.a (.tl (.call 1 Jfj)))))))))))))))) Jqo))))))))))))))] func185
def Qp9(N:Nat):V:=⟨Nt N N,Rf N N⟩
def Qqa(N:Nat):V:=⟨⟨186,(sD [Ja,.i,.i,.i,.str,.bool,.i]),[zs1],u7 (T5 N),[]⟩,kF N [Ns] [(4,.rg (.n 10 (.sp 26 6 [1,2,4,5,6,7] [7] ⟨[(32,zs4)],[]⟩ Qzt Jkl .done))),(22,.lp [4,7,53,54] [7] ⟨[(55,zs2)],[]⟩ [(.x 0,⟨[],[]⟩),(.r,⟨[(14,zs4)],[]⟩)])] func186⟩
def Qpe(N:Nat):V:=⟨⟨153,Q4p,[(sD [Qbg])],Qhm N,[]⟩,kF N [] [] func153⟩
def Qaj(N:Nat):V:=⟨⟨125,(sD [.sl Ja,.i,.i,.i,.str,.bool,.i,.i]),[⟨[(0,Ry),(1,Qhx),(2,zs2)],[(1,Un),(2,Zm)]⟩],u8 (Lk N),[]⟩,kF N [Qeg,Qp9,Qqa,Qpe] [(12,.lp [0,1,2,3,4,5,6,32,33] [] ⟨[(7,zs2),(19,Qhv),(20,Qti),(34,zs2)],[(100000,Un),(100001,Zm)]⟩ [(.x 0,⟨[(7,zs2),(19,Qw4),(20,Qxa)],[(100300,Un),(100301,Zm)]⟩)]),(20,.jn [34] [] [(.n,⟨[(7,zs2),(19,Qtg),(20,Q9b)],[(100200,Un),(100201,Zm)]⟩),(.x 0,⟨[(7,zs2),(19,Qpt),(20,Qo9)],[(100100,Un),(100101,Zm)]⟩)])] func125⟩
def Ay(N:Nat):V:=⟨⟨126,Jb0,[(sD [Zb,.bool])],u3 (Xz N),[]⟩,kF N [Qbz] [(6,.lp [1,13,14] [11201,11202] ⟨Jp1,[(100000,Jqp)]⟩ [(.x 0,⟨[(6,Qhy)],[(100100,Jqp)]⟩),(.r,⟨Jj4,[(100200,.var 243 (.d Zb))]⟩)])] func126⟩
def Qi6(N:Nat):V:=⟨⟨254,Jjs,[zs7],Sx N,[]⟩,kF N [X8] [] func254⟩
def Qn2(N:Nat):V:=⟨⟨322,(sD [.i,.sl .i]),[zs1],u2 (Cd N),[]⟩,kF N [] [(6,.lp [0,7,8] [] zs3 Qhu)] func322⟩
def Qqb(N:Nat):V:=⟨⟨302,Jjp,[zs7],T6 N,[]⟩,kF N [Qn2] [(24,.lp [0,12,13] [] ⟨[(3,zs2),(14,zs2)],[]⟩ Qpu),(37,.rg (.n 5 (.call 0 (.n 7 (.sp 31 6 [3,4,5,14] [5] Jsn Qzt Jkl .done)))))] func302⟩
def Ql8(N:Nat):V:=⟨⟨303,Jqq,[(sD [.i,.bool])],u2 (Mk N),[]⟩,kF N [] [(8,.lp [1,12,13] [] ⟨[(6,zs2),(7,zs2),(14,zs2)],[]⟩ [(.x 0,Jjo),(.r,⟨[(4,zs2),(5,zs4)],[]⟩)]),(22,.jn [6,7,9,14] [9] Jqr),(37,.an (.dr 7 Qlr .done))] func303⟩
def Qt0(N:Nat):V:=⟨⟨269,Jqq,[Qhz],u2 (Qdc N),[]⟩,kF N [Qqb,Ql8] [] func269⟩
def Qg0(N:Nat):V:=⟨⟨225,Jqs,[Qhz],u2 (Wy N),[]⟩,kF N [Qt0] [] func225⟩
def Fa(N:Nat):V:=⟨⟨156,Jqs,[Qhz],u2 (K4 N),[]⟩,kF N [Re,Qg0] [(4,.rg (.n 1 (.call 0 (.n 2 (.sp 12 6 [1,2] [2] Q89 Qzt Jkl (.n 9 (.sp 27 7 [1,2] [2] ⟨[(34,zs4)],[]⟩ Qnp (.nl 4 Jjn) .done)))))))] func156⟩
def Qeu(N:Nat):V:=⟨⟨253,⟨[(0,zs2),(1,Zl),(2,Qf2)],[(5000,.var 276 (.d Il)),(5001,P5)]⟩,[zs1],u3 (E6 N),[5000,5001]⟩,kF N [Fa] [] func253⟩
def Qif(N:Nat):V:=⟨⟨183,(sD [Il,.i,.i]),[zs7],u3 (Ce N),[]⟩,kF N [Qeu] [(16,.lp [7] [3,5] ⟨[(8,zs2),(9,zs2)],[]⟩ Jkc),(27,.rg (.n 2 (.call 0 .done)))] func183⟩
def Ql9(N:Nat):V:=⟨⟨188,(sD [Hq,.i]),[Qhz],u2 (Qdd N),[]⟩,kF N [Fa] [] func188⟩
def Qi7(N:Nat):V:=⟨⟨189,Qlv,[Qlv],u2 (S5 N),[]⟩,kF N [X8,Fy,U8,Qi6] [] func189⟩
def Qn3(N:Nat):V:=⟨⟨184,⟨[(0,Kb),(1,Jcd),(2,Qee),(3,zs2)],[(5000,Yr)]⟩,[zs7],u6 (Pz N),[5000]⟩,kF N [Ay,X8,Qi6] [(16,.lp [6,30,31] [4,5,6,9] ⟨[(32,zs2)],[]⟩ [(.x 0,⟨[],[]⟩),(.r,Qpv)]),(39,.an (.dc 5 [44,45,46,47,48] [12] [] (.c 12 (.k 2 [] [] [] [] (.b 12 (.c 12 (.a Q4k)))))))] func184⟩
def Qb3(N:Nat):V:=⟨⟨124,⟨[(0,Kb),(1,Jcd),(2,Qee),(3,zs2),(4,zs2)],[(5000,Yr)]⟩,[Qhz],u7 (Cf N),[5000]⟩,kF N [Re,Ck,Qaj,Qn3,Qif] [(13,.jn [3,4,5,6,7] [5,6,7] [(.n,⟨[(12,zs2)],[]⟩)]),(29,.an (.dc 12 [74,75,76,77,78,79,80,81,82,83,84,85] [7,5,6] [5000] (.a (.c 7 (.a (.a (.a (.a (.c 5 (.d 6 5000 (.c 7 (.a (.k 3 [] [5000] [] [] (.k 4 [] [] [] [] Q4k))))))))))))))] func124⟩
def Mu(N:Nat):V:=⟨⟨158,⟨Jkm,[(5000,.var 170 Qf2),(5001,.var 173 (.ag (sL [Jqt,.ag (sL [Wi,Qw7,Lw])]))),(5002,Zm),(5003,Yr)]⟩,[zs1],u15 (Z5 N),[5000,5001,5002,5003]⟩,kF N [] [(3,.an (.dr 10 (.n 10 .done) .done))] func158⟩
def K6(N:Nat):V:=⟨⟨157,⟨Jkn,[(5000,Yr),(5001,.var 170 (.p 5002 [])),(5002,.var 173 (.ag (sL [Jqu,Jcd]))),(5003,Zm)]⟩,[zs7],u14 (Vc N),[5000,5001,5002,5003]⟩,kF N [Mu] [(6,.lp [0,1,7] [] Qpv Qno),(18,.rg (.n 5 (.call 0 .done)))] func157⟩
def Rg(N:Nat):V:=⟨⟨118,⟨Bh,Qxd⟩,[⟨Qpb,[(5002,Yr)]⟩],u14 (Xe N),[5000,5001]⟩,kF N [K6] [] func118⟩
def N6(N:Nat):V:=⟨⟨127,⟨Qi4,Qxd⟩,[⟨[],Jqw⟩],u15 (Kp N),[]⟩,kF N [Ql9,Rg,Qi7] [(15,.an (.dc 11 [46,47,48,49,50,51,52,53,54,55,1000000010] [5000,7,5002] [] (.b 5000 (.d 5000 5000 (.b 5000 (.b 5000 (.d 5000 5002 (.a (.b 5000 (.c 7 (.a (.d 5002 5002 (.f 5002 5002 Q41)))))))))))))] func127⟩
def Qdm(N:Nat):V:=⟨⟨82,⟨Jqx,Jqy⟩,[⟨Qpb,[(5000,.var 173 (.ag (sL [.ag (sL [zs2,zs2,zs2,zs2,Jce,zs2,Ry,zs2,zs2,zs4,Ka]),Jkp]))),(1,Zm),(2,Yr)]⟩],u29 (H0 N),[]⟩,kF N [Qb2,Te,Ck,Qb3,Qaj,Ay,N6] [(3,.gh (.fz 5003 (.dt 5000 (.fz 5004 (.dt 5000 (.fz 5005 Lu)))))),(3,.an (.dc 17 [15,16,17,18,19,20,21,22,23,24,25,26,27,28,29,30,31] [5,5000] [] (.b 5000 (.b 5 (.c 5 (.b 5 (.c 5 (.b 5000 (.d 5000 5000 (.b 5000 (.c 5000 (.b 5000 (.d 5000 5000 (.b 5000 (.b 5000 (.b 5000 (.c 5000 (.a (.k 0 [] [] [13103,13102,13101] [13101,13102,13103] Qlq))))))))))))))))))),(5,.gh (.fz 13101 (.dt 5000 (.fz 13102 (.dt 5000 (.fz 13103 Lu)))))),(5,.an (.dc 15 [34,35,36,37,38,39,40,41,42,43,44,45,46,47,48] [5,5000] [] (.b 5000 (.b 5 (.c 5 (.b 5000 (.d 5000 5000 (.b 5000 (.c 5000 (.b 5000 (.d 5000 5000 (.b 5000 (.b 5000 (.b 5000 (.c 5000 (.a (.k 1 [] [] [14803,14802,14801] [14801,14802,14803] Qlq))))))))))))))))),(9,.an (.dc 15 [59,60,61,62,63,64,65,66,67,68,58,69,70,9,1000000014] [5,5000] [] (.b 5 (.c 5 (.b 5000 (.d 5000 5000 (.b 5000 (.b 5000 (.b 5000 (.c 5000 (.a (.k 2 [] [] [] [] (.a (.a (.a (.e 9 (.f 9 9 Eo))))))))))))))))),(26,.gh (.fz 14801 (.dt 5000 (.fz 14803 (.dt 5000 (.fz 5001 Lu)))))),(26,.an (.dc 17 [78,79,80,81,82,83,84,85,86,87,88,89,90,77,91,92,11] [5,5000,14802] [] (.c 5 (.b 5000 (.d 5000 5000 (.b 5000 (.d 5000 14802 (.b 5000 (.d 5000 5000 (.b 5000 (.b 5000 (.c 5000 (.a (.a (.k 3 [] [14802] [] [] (.a (.a (.a Jbr)))))))))))))))))),(44,.jn [2,5,11,12] [5,9,5001,5003,5004,5005,13101,13102,13103,14801,14803] [(.n,⟨Bh,[(5000,.var 173 (.ag (sL [.ag (sL [zs2,zs2,zs2,zs2,Qee,zs2,Qti,zs2,zs2,zs4,Ka]),.ag (sL [Wi,Jfm,Lw])]))),(100001,Zm),(100002,Yr)]⟩)]),(47,.an (.dc 48 [102,103,104,105,106,107,108,109,110,111,112,113,114,115,116,117,118,119,120,121,122,123,124,125,126,127,128,129,130,131,132,133,134,135,136,137,101,138,139,140,141,142,143,1000000043,144,145,146,1000000047] [5000] [9] (.b 5000 (.b 5000 (.b 5000 (.d 5000 5000 (.b 5000 (.b 5000 (.c 5000 (.b 5000 (.d 5000 5000 (.b 5000 (.b 5000 (.b 5000 (.c 5000 (.b 5000 (.d 5000 5000 (.b 5000 (.b 5000 (.b 5000 (.c 5000 (.b 5000 (.d 5000 5000 (.b 5000 (.b 5000 (.b 5000 (.c 5000 (.b 5000 (.d 5000 5000 (.b 5000 (.b 5000 (.b 5000 (.c 5000 (.b 9 (.c 9 (.a (.a (.k 4 [] [] [23702,23701] [23701,23702] (.g [] [] [] [23701,23702] (.b 23701 (.b 23702 (.a (.d 5000 5000 (.b 5000 (.b 5000 (.g [5000] [23701] [] [5000,5002,14802,23701] Jqz)))))))))))))))))))))))))))))))))))))))))))))),(50,.jn [11,12] [5,9,5001,5003,5004,5005,13101,13102,13103,14801,14803] [(.n,⟨Bh,[(5000,.var 173 (.ag (sL [.ag (sL [zs2,zs2,zs2,zs2,Qee,zs2,Qo9,zs2,zs2,zs4,Ka]),.ag (sL [Wi,Jfk,Lw])]))),(100101,Zm),(100102,Yr)]⟩)]),(51,.an (.dc 15 [148,149,150,151,152,153,154,155,156,157,147,158,159,13,1000000014] [5000] [5] (.b 5 (.c 5 (.b 5000 (.d 5000 5000 (.b 5000 (.b 5000 (.b 5000 (.c 5000 (.a (.k 5 [] [] [] [] (.a (.a (.a (.e 13 (.f 13 13 Eo)))))))))))))))))] func82⟩
def Qev(N:Nat):V:=⟨⟨80,⟨Jkq,Qxd⟩,[Jq1],u18 (E7 N),[]⟩,kF N [] [(5,.an (.dc 9 [22,23,24,25,26,27,28,29,1000000008] [6,13,5000] [] (.b 5000 (.b 5000 (.b 6 (.c 6 (.c 13 (.d 5000 5000 (.b 5000 (.b 5000 (.g [5000] [] [] [5000,5001,5002] Q41))))))))))),(7,.an (.dc 11 [33,34,35,36,37,38,39,40,41,1000000009,1000000010] [5000,13,10,5002,11,5001] [] (.b 5000 (.d 5000 5000 (.b 5000 (.d 5000 5002 (.b 5000 (.d 5000 5000 (.b 5000 (.d 5000 5001 (.c 13 (.g [10] [5002] [] [10,5002] (.g [11] [5001] [] [11,5001] Eo)))))))))))))] func80⟩
def R2(N:Nat):V:=⟨⟨81,⟨Jq2,Qxd⟩,[Jq1],u16 (X4 N),[]⟩,kF N [Qev] [(5,.jn [0,2,4,6,7,8] [4,6,7,8,5000,5001,5002] Jkr),(11,.an (.dc 13 [21,22,23,24,25,26,27,28,29,30,31,32,33] [4,5000,5001,5002] [] (.b 5000 (.c 4 (.b 5000 (.d 5000 5000 (.b 5000 (.b 5000 (.c 5000 (.a (.a (.k 0 [5000,5001,5002] [] [13002,13001] [5000,13001,13002] (.b 13001 (.b 13002 Jq3))))))))))))))] func81⟩
def Qvb(N:Nat):V:=⟨⟨154,(sD [.i,.i,.i]),[zs1],u3 (Qfw N),[]⟩,kF N [] [] func154⟩
def Qi8(N:Nat):V:=⟨⟨116,(sD [.sl Ja,.sl Xu]),[⟨[(0,Ry),(1,zs2)],[(1,Un)]⟩],u2 (S7 N),[]⟩,kF N [Qeg,Qpe,Qvb] [(8,.lp [14,15] [] ⟨Jpy,[(100000,Un)]⟩ [(.x 0,⟨[(6,Qw4)],[(100300,Un)]⟩),(.r,⟨[(4,.ns),(5,zs2)],[]⟩)]),(33,.lp [6,8,16,23,24] [8,100000] ⟨[(9,zs2),(25,zs2)],[]⟩ [(.x 2,zs3)]),(45,.an (.dc 11 [30,31,32,33,34,35,36,37,38,39,40] [11] [8] (.c 11 (.k 1 [] [] [] [] (.b 8 (.c 8 (.b 8 (.c 8 (.b 8 (.c 8 (.b 8 (.c 8 Jbr)))))))))))),(62,.an (.dr 12 (.n 12 .done) Jss)),(68,.an (.dr 10 (.n 10 .done) zs5))] func116⟩
def Qg1(N:Nat):V:=⟨⟨117,(sD [Hq,.i,.i]),[⟨[(0,Jjy),(1,zs2),(2,zs2)],Jb6⟩],u3 (Nx N),[]⟩,kF N [Re,Fa,fun _=>⟨_,Vj⟩] [(4,.rg (.n 1 (.call 0 (.n 2 (.sp 15 5 [1,2,3,6] [3,6] ⟨[(20,zs4)],[]⟩ Ea Q9d Qlr))))),(23,.an (.dc 10 [41,42,43,44,45,46,47,48,49,1000000009] [3,11] [] (.b 3 (.c 3 (.a (.a (.b 3 (.c 3 (.a (.a (.b 11 (.f 11 11 Q4k))))))))))))] func117⟩
def Rh(N:Nat):V:=⟨⟨118,⟨Bh,Qxd⟩,[⟨Qpb,Jqw⟩],u14 (Xf N),[]⟩,kF N [K6] [] func118⟩
def Qeh(N:Nat):V:=⟨⟨119,(sD [Ya,.i,.i]),[Qlv],u3 (In N),[]⟩,kF N [X8,Fy,U8] [] func119⟩
def Qb4(N:Nat):V:=⟨⟨75,⟨Qi4,Qxd⟩,[⟨[],Q42⟩],u15 (Gr N),[]⟩,kF N [Qi8,Qg1,Rh,Qeh] [(6,.lp [0,1,23,24] [5000,5001,5002] Jq4 Jq5),(14,.jn [25] [] [(.n,⟨[(4,zs2),(5,Qpt)],[(100100,Zm)]⟩)]),(30,.jn [1,4] [] [(.n,⟨Bh,[(5000,.var 173 (.ag (sL [.ag (sL [zs2,zs2,zs2,zs2,Qee,zs2,Qxa,zs2,zs2,zs4,Ka]),.ag (sL [Wi,Q4v,Lw])]))),(100301,Zm),(100302,Yr)]⟩)]),(44,.jn [] [] [(.n,⟨Jq6,[(5000,.var 173 (.ag (sL [.ag (sL [zs2,zs2,zs2,zs2,Jce,zs2,Q4x,zs2,zs2,zs4,Ka]),.ag (sL [Wi,Jb5,Lw])]))),(100401,Zm),(100402,Yr)]⟩)]),(54,.jn [] [] [(.n,⟨Bh,[(5000,.var 173 (.ag (sL [Jq7,.ag (sL [Wi,Jkb,Lw])]))),(100501,Zm),(100502,Yr)]⟩)]),(60,.an (.dc 20 [117,118,119,120,121,122,123,124,125,126,127,128,129,130,131,116,132,133,16,1000000019] [5000,20502] [] (.b 5000 (.d 5000 5000 (.b 5000 (.b 5000 (.d 5000 20502 (.a (.d 20502 20502 (.c 20502 (.b 5000 (.d 5000 5000 (.b 5000 (.b 5000 (.c 5000 (.a (.k 3 [] [] [] [] (.a (.a (.a (.e 16 (.f 16 16 Eo)))))))))))))))))))))),(64,.an (.dr 8 Qtj zs5))] func75⟩
def Qdn(N:Nat):V:=⟨⟨79,⟨Qi4,Q43⟩,[⟨[],Q42⟩],u5 (H1 N),[]⟩,kF N [] [] func79⟩
def Fp(N:Nat):V:=⟨⟨80,⟨Jkq,Q43⟩,[Jq9],u8 (Ze N),[]⟩,kF N [] [(5,.an (.dc 9 [22,23,24,25,26,27,28,29,1000000008] [6,13,5000] [] (.b 5000 (.b 5000 (.b 6 (.c 6 (.c 13 (.d 5000 5000 (.b 5000 (.b 5000 (.g [5000] [] [] [5000,5001] Q41))))))))))),(7,.an (.dc 11 [33,34,35,36,37,38,39,40,41,1000000009,1000000010] [5000,13,10,5001,11] [] (.b 5000 (.d 5000 5000 (.b 5000 (.d 5000 5001 (.b 5000 (.d 5000 5000 (.b 5000 (.c 5000 (.c 13 (.g [10] [5001] [] [10,5001] Jra))))))))))))] func80⟩
def Mv(N:Nat):V:=⟨⟨76,(sD [Ks,Yh,Yz]),[Jrc],u3 (Fi N),[]⟩,kF N [Cj,Qzz,Fx,Qdm,R2,Qb4,Qdn,Fp] [(5,.jn [3,4,5,6,7,8] [3,4,5,6,7,8] Jkr),(13,.jn [3,4,5,6,7,8] [3,4,5,6,7,8] Jqr),(63,.an (.dr 8 Qtj .done)),(66,.jn [4,5,6,7,8] [3,4,5,6,7,8,11,17501,19501,20201,20202] [(.n,Jkg)])] func76⟩
def Qew(N:Nat):V:=⟨⟨38,⟨Qto,Jjx⟩,[⟨Q44,[(5000,.var 91 (.ag (sL [Kb,Qlw,Jbw]))),(5010,Vd),(1,Yr)]⟩],u11 (Nk N),[]⟩,kF N [Mv] [(3,.an (.dr 7 Qlr zs5)),(5,.gh (.fz 5001 (.dt 5000 (.fz 5002 (.dt 5000 (.fz 5003 (.dt 5000 (.fz 5004 (.dt 5000 (.fz 5005 (.dt 5000 (.fz 5006 (.dt 5000 (.fz 5008 (.dt 5000 (.fz 5009 (.dt 5000 (.fz 5007 Lu)))))))))))))))))),(5,.an (.dc 19 [16,17,18,19,20,21,22,23,24,25,15,26,27,28,5,6,7,1000000017,1000000018] [5000,3] [] (.b 5000 (.d 5000 5000 (.b 5000 (.c 5000 (.b 5000 (.d 5000 5000 (.b 5000 (.c 5000 (.c 3 (.k 0 [] [] [12501] [12501] (.b 12501 (.b 12501 (.a (.a (.e 5 (.e 6 (.e 7 (.g [5] [12501] [] [5,12501] (.f 6 6 Eo))))))))))))))))))))),(7,.an (.dc 14 [29,30,31,32,33,34,35,36,37,38,39,1000000011,40,41] [5000,3,5,6,12501,5010] [] (.b 5000 (.b 5000 (.d 5000 5000 (.b 5000 (.d 5000 5010 (.b 3 (.c 3 (.d 5 12501 (.c 6 (.d 5000 5000 (.b 5000 (.g [5000] [12501] [] [5000,5010,12501] (.op ⟨.br .done,[5010],[],[40],[40,5010]⟩ Jkt))))))))))))))),(9,.jn [4,7] [3,4,5,6,7,5000,5001,5002,5003,5004,5005,5006,5007,5008,5009,12501] [(.n,⟨[],[(5010,Vd)]⟩)]),(12,.an (.dr 6 Qzu zs5))] func38⟩
def Qei(N:Nat):V:=⟨⟨77,(sD [Yg,Yz,.i,.i]),[zs7],u4 (Io N),[]⟩,kF N [] [] func77⟩
def Mw(N:Nat):V:=⟨⟨158,⟨Jkm,[(5000,.var 170 Qf2),(5001,.var 173 (.ag (sL [Jqt,.ag (sL [Wi,Qw7,Jbv])]))),(5002,Zm),(5003,Yr),(5004,Ch)]⟩,[zs1],u15 (Z6 N),[5000,5001,5002,5003,5004]⟩,kF N [] [(3,.an (.dr 10 (.n 10 .done) .done))] func158⟩
def Cl(N:Nat):V:=⟨⟨157,⟨Jkn,[(5000,Yr),(5001,.var 170 (.p 5002 [])),(5002,.var 173 (.ag (sL [Jqu,.ag (sL [Wi,Jcc,Jbv])]))),(5003,Zm),(5004,Ch)]⟩,[⟨Qpb,[(5000,Yr),(5002,.var 173 (.ag (sL [Jko,.ag (sL [Wi,Jcc,Qhx])]))),(1,Zm),(2,Ch)]⟩],u14 (Uk N),[5001]⟩,kF N [Mw] [(6,.lp [0,1,7] [5000,5002,5003,5004] Qpv Qno),(18,.rg (.n 5 (.call 0 .done)))] func157⟩
def Ri(N:Nat):V:=⟨⟨118,⟨Bh,[(5000,.var 173 (.ag (sL [.ag (sL [zs2,zs2,zs2,zs2,Jce,zs2,Qo4,zs2,zs2,zs4,Ka]),.ag (sL [Wi,Qtl,Qw7])]))),(5001,Zm),(5002,Yr),(5003,Ch)]⟩,[⟨Qpb,[(5000,.var 173 (.ag (sL [Jko,.ag (sL [Wi,Qhx,Q4j])]))),(1,Zm),(2,Yr),(3,Ch)]⟩],u26 (Xg N),[]⟩,kF N [Cl] [] func118⟩
def Kc(N:Nat):V:=⟨⟨75,⟨Qi4,Jqy⟩,[⟨[],Jku⟩],u27 (Vi N),[]⟩,kF N [Qi8,Qg1,Ri,Qeh] [(6,.lp [0,1,23,24] [5000,5001,5002,5003,5004,5005] Jq4 Jq5),(14,.jn [25] [] [(.n,⟨[(4,zs2),(5,Qpt)],[(100100,Zm)]⟩)]),(30,.jn [1,4] [] [(.n,⟨Bh,[(5000,.var 173 (.ag (sL [.ag (sL [zs2,zs2,zs2,zs2,.ag (sL [zs2,zs2,zs2,V9,V9,zs2,.ag (sL [zs2,V9,V9,zs2,Qxa]),zs2,zs2]),zs2,Q4v,zs2,zs2,zs4,Ka]),.ag (sL [.s 100303,.s 100304,.s 100305])]))),(100301,Qtm),(100302,Zm),(100303,Jrd),(100304,Yr),(100305,Ch)]⟩)]),(44,.jn [] [] [(.n,⟨Jq6,[(5000,.var 173 (.ag (sL [.ag (sL [zs2,zs2,zs2,zs2,.ag (sL [zs2,zs2,zs2,V9,V9,zs2,.ag (sL [zs2,V9,V9,zs2,Q4x]),zs2,zs2]),zs2,Jb5,zs2,zs2,zs4,Ka]),.ag (sL [.s 100403,.s 100404,.s 100405])]))),(100401,.tail 141 Vq),(100402,Zm),(100403,Jrd),(100404,Yr),(100405,Ch)]⟩)]),(54,.jn [] [100401,100403] [(.n,⟨Bh,[(5000,.var 173 (.ag (sL [Jq7,.ag (sL [Wi,Jkb,.s 100503])]))),(100501,Zm),(100502,Yr),(100503,Ch)]⟩)]),(60,.an (.dc 20 [117,118,119,120,121,122,123,124,125,126,127,128,129,130,131,116,132,133,16,1000000019] [5000,20502] [] (.b 5000 (.d 5000 5000 (.b 5000 (.b 5000 (.d 5000 20502 (.a (.d 20502 20502 (.c 20502 (.b 5000 (.d 5000 5000 (.b 5000 (.b 5000 (.c 5000 (.a (.k 3 [] [] [] [] (.a (.a (.a (.e 16 (.f 16 16 Eo)))))))))))))))))))))),(64,.an (.dr 8 Qtj zs5))] func75⟩
def R3(N:Nat):V:=⟨⟨79,⟨Qi4,Jkv⟩,[⟨[],Jku⟩],u5 (X5 N),[]⟩,kF N [] [] func79⟩
def Qak(N:Nat):V:=⟨⟨80,⟨Jkq,Jkv⟩,[⟨[(0,Jcf),(1,Qi5),(2,Ka)],Jku⟩],u8 (Wz N),[]⟩,kF N [] [(5,.an (.dc 9 [22,23,24,25,26,27,28,29,1000000008] [6,13,5000] [] (.b 5000 (.b 5000 (.b 6 (.c 6 (.c 13 (.d 5000 5000 (.b 5000 (.b 5000 (.g [5000] [] [] [5000,5001,5002] Q41))))))))))),(7,.an (.dc 11 [33,34,35,36,37,38,39,40,41,1000000009,1000000010] [5000,13,10,5001,5002,11] [] (.b 5000 (.d 5000 5000 (.b 5000 (.g [] [5000] [] [5001,5002] (.b 5000 (.d 5000 5000 (.b 5000 (.c 5000 (.c 13 (.g [10] [5001,5002] [] [10,5001,5002] Jra))))))))))))] func80⟩
def Cm(N:Nat):V:=⟨⟨39,Jre,[⟨[(0,Jcf),(1,Jks),(2,Ka)],[(1,Yr),(2,Ch)]⟩],u4 (Em N),[]⟩,kF N [Qei,Cj,Fx,Kc,R3,Qak] [] func39⟩
def Mx(N:Nat):V:=⟨⟨158,⟨Jkm,[(5000,.var 170 Qf2),(5001,.var 173 (.ag (sL [Qi5,Jqv]))),(5002,Yr)]⟩,[zs1],u5 (Z7 N),[5000,5001,5002]⟩,kF N [] [(3,.an (.dr 10 (.n 10 .done) .done))] func158⟩
def Cn(N:Nat):V:=⟨⟨157,⟨Jkn,[(5000,Yr),(5001,.var 170 (.p 5002 [])),(5002,.var 173 (.ag (sL [Qi5,Jcd])))]⟩,[zs7],u4 (Ul N),[5000,5001,5002]⟩,kF N [Mx] [(6,.lp [0,1,7] [] Qpv Qno),(18,.rg (.n 5 (.call 0 .done)))] func157⟩
def Rj(N:Nat):V:=⟨⟨118,⟨Bh,Q43⟩,[⟨Qpb,[(5001,Yr)]⟩],u4 (Xh N),[5000]⟩,kF N [Cn] [] func118⟩
def N7(N:Nat):V:=⟨⟨127,⟨Qi4,Q43⟩,[⟨[],Q42⟩],u5 (Kq N),[]⟩,kF N [Ql9,Rj,Qi7] [(15,.an (.dc 11 [46,47,48,49,50,51,52,53,54,55,1000000010] [5000,7,5001] [] (.b 5000 (.d 5000 5000 (.b 5000 (.b 5000 (.d 5000 5001 (.a (.b 5000 (.c 7 (.a (.d 5001 5001 (.f 5001 5001 Q41)))))))))))))] func127⟩
def R4(N:Nat):V:=⟨⟨82,⟨Jqx,Jkv⟩,[⟨Qpb,Q42⟩],u7 (X6 N),[]⟩,kF N [Qb2,Te,Ck,Qb3,Qaj,Ay,N7] [(3,.gh (.fz 5001 (.dt 5000 (.fz 5002 Lu)))),(3,.an (.dc 17 [15,16,17,18,19,20,21,22,23,24,25,26,27,28,29,30,31] [5,5000] [] (.b 5000 (.b 5 (.c 5 (.b 5 (.c 5 (.b 5000 (.d 5000 5000 (.b 5000 (.c 5000 (.b 5000 (.d 5000 5000 (.b 5000 (.b 5000 (.b 5000 (.c 5000 (.a (.k 0 [] [] [13103,13102,13101] [13101,13102,13103] Qlq))))))))))))))))))),(5,.gh (.fz 13101 (.dt 5000 (.fz 13102 (.dt 5000 (.fz 13103 Lu)))))),(5,.an (.dc 15 [34,35,36,37,38,39,40,41,42,43,44,45,46,47,48] [5,5000] [] (.b 5000 (.b 5 (.c 5 (.b 5000 (.d 5000 5000 (.b 5000 (.c 5000 (.b 5000 (.d 5000 5000 (.b 5000 (.b 5000 (.b 5000 (.c 5000 (.a (.k 1 [] [] [14803,14802,14801] [14801,14802,14803] Qlq))))))))))))))))),(9,.an (.dc 15 [59,60,61,62,63,64,65,66,67,68,58,69,70,9,1000000014] [5,5000] [] (.b 5 (.c 5 (.b 5000 (.d 5000 5000 (.b 5000 (.b 5000 (.b 5000 (.c 5000 (.a (.k 2 [] [] [] [] (.a (.a (.a (.e 9 (.f 9 9 Eo))))))))))))))))),(26,.gh (.fz 14801 (.dt 5000 (.fz 14803 Lu)))),(26,.an (.dc 17 [78,79,80,81,82,83,84,85,86,87,88,89,90,77,91,92,11] [5,5000,14802] [] (.c 5 (.b 5000 (.d 5000 5000 (.b 5000 (.d 5000 14802 (.b 5000 (.d 5000 5000 (.b 5000 (.b 5000 (.c 5000 (.a (.a (.k 3 [] [14802] [] [] (.a (.a (.a Jbr)))))))))))))))))),(44,.jn [2,5,11,12] [5,9,5001,5002,13101,13102,13103,14801,14803] [(.n,⟨Bh,[(5000,.var 173 (.ag (sL [.ag (sL [zs2,zs2,zs2,zs2,Qee,zs2,Jrb,zs2,zs2,zs4,Ka]),.ag (sL [Wi,Qti,Lw])]))),(100001,Yr)]⟩)]),(47,.an (.dc 48 [102,103,104,105,106,107,108,109,110,111,112,113,114,115,116,117,118,119,120,121,122,123,124,125,126,127,128,129,130,131,132,133,134,135,136,137,101,138,139,140,141,142,143,1000000043,144,145,146,1000000047] [5000] [9] (.b 5000 (.b 5000 (.b 5000 (.d 5000 5000 (.b 5000 (.b 5000 (.c 5000 (.b 5000 (.d 5000 5000 (.b 5000 (.b 5000 (.b 5000 (.c 5000 (.b 5000 (.d 5000 5000 (.b 5000 (.b 5000 (.b 5000 (.c 5000 (.b 5000 (.d 5000 5000 (.b 5000 (.b 5000 (.b 5000 (.c 5000 (.b 5000 (.d 5000 5000 (.b 5000 (.b 5000 (.b 5000 (.c 5000 (.b 9 (.c 9 (.a (.a (.k 4 [] [] [23702,23701] [23701,23702] (.g [] [] [] [23701,23702] (.b 23701 (.b 23702 (.a (.d 5000 5000 (.b 5000 (.b 5000 (.g [5000] [23701] [] [5000,14802,23701] Jqz)))))))))))))))))))))))))))))))))))))))))))))),(50,.jn [11,12] [5,9,5001,5002,13101,13102,13103,14801,14803] [(.n,⟨Bh,[(5000,.var 173 (.ag (sL [Qi5,.ag (sL [Wi,Qo9,Lw])]))),(100101,Yr)]⟩)]),(51,.an (.dc 15 [148,149,150,151,152,153,154,155,156,157,147,158,159,13,1000000014] [5000] [5] (.b 5 (.c 5 (.b 5000 (.d 5000 5000 (.b 5000 (.b 5000 (.b 5000 (.c 5000 (.a (.k 5 [] [] [] [] (.a (.a (.a (.e 13 (.f 13 13 Eo)))))))))))))))))] func82⟩
def My(N:Nat):V:=⟨⟨81,⟨Jq2,Q43⟩,[Jq9],u6 (Z8 N),[]⟩,kF N [Fp] [(5,.jn [0,2,4,6,7,8] [4,6,7,8,5000,5001] Jkr),(11,.an (.dc 13 [21,22,23,24,25,26,27,28,29,30,31,32,33] [4,5000,5001] [] (.b 5000 (.c 4 (.b 5000 (.d 5000 5000 (.b 5000 (.b 5000 (.c 5000 (.a (.a (.k 0 [5000,5001] [] [13001] [5000,13001] (.b 13001 Jrf)))))))))))))] func81⟩
def Es(N:Nat):V:=⟨⟨40,Jre,[Jrc],u4 (X7 N),[]⟩,kF N [Qei,Cj,Fx,Kc,R4,My] [(17,.an (.dc 13 [33,34,35,36,37,38,39,40,41,42,43,44,45] [7,4,12801,13201,13202] [] (.b 12801 (.c 7 (.b 12801 (.c 4 (.b 7 (.c 7 (.b 7 (.c 7 (.k 4 [12801,13201,13202] [] [14101] [12801,14101] (.k 5 [12801,14101] [] [14201] [12801,14201] (.b 14201 Jrf)))))))))))))] func40⟩
def Qkh(N:Nat):V:=⟨⟨12,⟨Qto,Jjx⟩,[⟨Q44,[(5000,.var 91 (.ag (sL [Jkw,Qlw,Jbw]))),(5010,Vd),(1,Yr)]⟩],u11 (Qbu N),[]⟩,kF N [Qgq,Ep,Qew,Cm,Es] [(19,.an (.dc 12 [23,24,25,26,27,28,29,22,30,31,5,1000000011] [5000,3,5010] [] (.b 5000 (.d 5000 5000 (.b 5000 (.d 5000 5010 (.b 3 (.c 3 (.c 5010 Jcg))))))))),(52,.jn [4] [3,4,5] [(.n,⟨Jch,[(5000,.var 91 (.ag (sL [Kb,Q45,Jbw]))),(5010,Vd),(100002,.var 50 Ka),(100003,Yr)]⟩)]),(55,.gh (.fz 5001 (.dt 5000 (.fz 5002 (.dt 5000 (.fz 5003 (.dt 5000 (.fz 5004 (.dt 5000 (.fz 5005 (.dt 5000 (.fz 5006 (.dt 5000 (.fz 5008 (.dt 5000 (.fz 5009 (.dt 5000 (.fz 5007 Lu)))))))))))))))))),(55,.an (.dc 26 [67,68,69,70,71,72,73,74,75,76,77,78,79,80,81,82,83,84,66,85,86,87,88,89,1000000024,1000000025] [5000,5010] [3,5] (.b 5000 (.b 5000 (.d 5000 5000 (.b 5000 (.d 5000 5010 (.b 3 (.c 3 (.b 5000 (.d 5000 5000 (.b 5000 (.c 5000 (.b 5000 (.d 5000 5000 (.b 5000 (.c 5000 (.c 5 (.c 3 (.k 3 [] [] [18402,18401] [18401,18402] (.g [] [] [] [18401,18402] (.g [] [] [] [18401,18402] (.a (.a (.d 5000 5000 (.b 5000 (.g [5000] [18401,18402] [] [5000,5010,18401,18402] Jrh))))))))))))))))))))))))))),(56,.gh (.fz 5001 (.dt 5000 (.fz 5002 (.dt 5000 (.fz 5003 (.dt 5000 (.fz 5004 (.dt 5000 (.fz 5005 (.dt 5000 (.fz 5006 (.dt 5000 (.fz 5008 (.dt 5000 (.fz 5009 (.dt 5000 (.fz 5007 Lu)))))))))))))))))),(56,.an (.dc 26 [91,92,93,94,95,96,97,98,99,100,101,102,103,104,105,106,107,108,90,109,110,111,112,113,1000000024,1000000025] [5000,5010] [3,5] (.b 5000 (.b 5000 (.d 5000 5000 (.b 5000 (.d 5000 5010 (.b 3 (.c 3 (.b 5000 (.d 5000 5000 (.b 5000 (.c 5000 (.b 5000 (.d 5000 5000 (.b 5000 (.c 5000 (.c 5 (.c 3 (.k 4 [] [] [20801] [20801] (.b 20801 (.b 20801 (.a (.a (.d 5000 5000 (.b 5000 (.g [5000] [20801] [] [5000,5010,20801] Jrh)))))))))))))))))))))))))))] func12⟩
def X9(N:Nat):V:=⟨⟨34,⟨Bh,Qxe⟩,[zs1],u5 (Uc N),[5000,5001,5002]⟩,kF N [] [(3,.rg (.n 3 (.nl 5 Qu6)))] func34⟩
def Fq(N:Nat):V:=⟨⟨38,⟨Qto,Qxe⟩,[Jkx],u6 (Zf N),[]⟩,kF N [Mv] [(3,.an (.dr 7 Qlr zs5)),(5,.gh (.fz 5001 Lu)),(5,.an (.dc 19 [16,17,18,19,20,21,22,23,24,25,15,26,27,28,5,6,7,1000000017,1000000018] [5000,3] [] (.b 5000 (.d 5000 5000 (.b 5000 (.c 5000 (.b 5000 (.d 5000 5000 (.b 5000 (.c 5000 (.c 3 (.k 0 [] [] [12501] [12501] (.b 12501 (.b 12501 (.a (.a (.e 5 (.e 6 (.e 7 (.g [5] [12501] [] [5,12501] (.f 6 6 Eo))))))))))))))))))))),(7,.an (.dc 14 [29,30,31,32,33,34,35,36,37,38,39,1000000011,40,41] [5000,3,5,6,12501,5002] [] (.b 5000 (.b 5000 (.d 5000 5000 (.b 5000 (.d 5000 5002 (.b 3 (.c 3 (.d 5 12501 (.c 6 (.d 5000 5000 (.b 5000 (.g [5000] [12501] [] [5000,5002,12501] (.op ⟨.br .done,[5002],[],[40],[40,5002]⟩ Jkt))))))))))))))),(9,.jn [4,7] [3,4,5,6,7,5000,5001,12501] [(.n,⟨[],[(5002,Vd)]⟩)]),(12,.an (.dr 6 Qzu zs5))] func38⟩
def Qex(N:Nat):V:=⟨⟨12,⟨Qto,Qxe⟩,[Jkx],u6 (E8 N),[]⟩,kF N [X9,Ep,Fq,Cm,Es] [(19,.an (.dc 12 [23,24,25,26,27,28,29,22,30,31,5,1000000011] [5000,3,5002] [] (.b 5000 (.d 5000 5000 (.b 5000 (.d 5000 5002 (.b 3 (.c 3 (.c 5002 Jcg))))))))),(52,.jn [4] [3,4,5] [(.n,⟨Jch,[(5000,.var 91 (.ag (sL [Kb,Q45,S8]))),(5002,Vd),(100002,.var 50 Ka),(100003,Yr)]⟩)]),(55,.gh (.fz 5001 Lu)),(55,.an (.dc 26 [67,68,69,70,71,72,73,74,75,76,77,78,79,80,81,82,83,84,66,85,86,87,88,89,1000000024,1000000025] [5000,5002] [3,5] (.b 5000 (.b 5000 (.d 5000 5000 (.b 5000 (.d 5000 5002 (.b 3 (.c 3 (.b 5000 (.d 5000 5000 (.b 5000 (.c 5000 (.b 5000 (.d 5000 5000 (.b 5000 (.c 5000 (.c 5 (.c 3 (.k 3 [] [] [18402,18401] [18401,18402] (.g [] [] [] [18401,18402] (.g [] [] [] [18401,18402] (.a (.a (.d 5000 5000 (.b 5000 (.g [5000] [18401,18402] [] [5000,5002,18401,18402] Jci))))))))))))))))))))))))))),(56,.gh (.fz 5001 Lu)),(56,.an (.dc 26 [91,92,93,94,95,96,97,98,99,100,101,102,103,104,105,106,107,108,90,109,110,111,112,113,1000000024,1000000025] [5000,5002] [3,5] (.b 5000 (.b 5000 (.d 5000 5000 (.b 5000 (.d 5000 5002 (.b 3 (.c 3 (.b 5000 (.d 5000 5000 (.b 5000 (.c 5000 (.b 5000 (.d 5000 5000 (.b 5000 (.c 5000 (.c 5 (.c 3 (.k 4 [] [] [20801] [20801] (.b 20801 (.b 20801 (.a (.a (.d 5000 5000 (.b 5000 (.g [5000] [20801] [] [5000,5002,20801] Jci)))))))))))))))))))))))))))] func12⟩
def Qey(N:Nat):V:=⟨⟨12,⟨Qto,Qxe⟩,[Jkx],u6 (Xl N),[]⟩,kF N [X9,Ep,Fq,Cm,Es] [(19,.an (.dc 12 [23,24,25,26,27,28,29,22,30,31,5,1000000011] [5000,3,5002] [] (.b 5000 (.d 5000 5000 (.b 5000 (.d 5000 5002 (.b 3 (.c 3 (.c 5002 Jcg))))))))),(52,.jn [4] [3,4,5] [(.n,⟨Jch,[(5000,.var 91 (.ag (sL [Kb,Q45,S8]))),(5002,Vd),(100002,.var 50 Ka),(100003,Yr)]⟩)]),(55,.gh (.fz 5001 Lu)),(55,.an (.dc 26 [67,68,69,70,71,72,73,74,75,76,77,78,79,80,81,82,83,84,66,85,86,87,88,89,1000000024,1000000025] [5000,5002] [3,5] (.b 5000 (.b 5000 (.d 5000 5000 (.b 5000 (.d 5000 5002 (.b 3 (.c 3 (.b 5000 (.d 5000 5000 (.b 5000 (.c 5000 (.b 5000 (.d 5000 5000 (.b 5000 (.c 5000 (.c 5 (.c 3 (.k 3 [] [] [18402,18401] [18401,18402] (.g [] [] [] [18401,18402] (.g [] [] [] [18401,18402] (.a (.a (.d 5000 5000 (.b 5000 (.g [5000] [18401,18402] [] [5000,5002,18401,18402] Jci))))))))))))))))))))))))))),(56,.gh (.fz 5001 Lu)),(56,.an (.dc 26 [91,92,93,94,95,96,97,98,99,100,101,102,103,104,105,106,107,108,90,109,110,111,112,113,1000000024,1000000025] [5000,5002] [3,5] (.b 5000 (.b 5000 (.d 5000 5000 (.b 5000 (.d 5000 5002 (.b 3 (.c 3 (.b 5000 (.d 5000 5000 (.b 5000 (.c 5000 (.b 5000 (.d 5000 5000 (.b 5000 (.c 5000 (.c 5 (.c 3 (.k 4 [] [] [20801] [20801] (.b 20801 (.b 20801 (.a (.a (.d 5000 5000 (.b 5000 (.g [5000] [20801] [] [5000,5002,20801] Jci)))))))))))))))))))))))))))] func12⟩
def Bi(N:Nat):V:=⟨⟨73,⟨[(0,.m 5000)],[(5000,Vd)]⟩,[⟨[(0,.f 113 (sL [.p 1 []]))],[(5000,Vd),(1,.var 89 (.m 5000))]⟩],Kf N,[]⟩,kF N [] [] func73⟩
def Qb5(N:Nat):V:=⟨⟨35,⟨Bh,Qxe⟩,[⟨Jri,[(5002,Vd)]⟩],u5 (Gs N),[5000,5001]⟩,kF N [Bi,fun _=>⟨_,Fk⟩] [] func35⟩
def Co(N:Nat):V:=⟨⟨36,Jqb,[⟨[(0,Jcf),(1,Qi5)],[(1,Yr),(2,Ch)]⟩],u2 (Gf N),[]⟩,kF N [Fx,Kc] [(5,.jn [4,5] [2,3,4,5] [(.n,⟨[(6,Qhw)],[(100000,.var 173 (.ag (sL [Jks,.ag (sL [Wi,Qti,Jfm])]))),(100001,Yr),(100002,Ch)]⟩)]),(13,.an (.dc 9 [21,22,23,24,25,26,27,28,1000000008] [100000,4,100001,100002] [] (.b 100000 (.d 100000 100000 (.b 100000 (.g [] [100000] [] [100001,100002] (.b 100000 (.d 100000 100000 (.b 100000 (.c 100000 (.g [4] [100001,100002] [] [4,100001,100002] Eo)))))))))))] func36⟩
def Qdo(N:Nat):V:=⟨⟨11,⟨Qi4,Qxe⟩,[⟨Qf0,[(5000,.var 91 (.ag (sL [Kb,Jkp,S8]))),(5002,Vd),(1,Fl),(2,Jcj)]⟩],u6 (Lm N),[]⟩,kF N [X9,Qb5,Co] [(16,.gh (.fz 5001 .done)),(16,.lp [1,13,14] [] ⟨Jky,[(5000,.var 91 (.ag (sL [Kb,Q45,S8]))),(5002,Vd),(100002,Fl),(100003,Jcj)]⟩ [(.x 0,⟨[(5,Jfl)],[(5000,.var 91 (.ag (sL [Kb,.ag (sL [Wi,Jsy,Lw]),S8]))),(5002,Vd),(100202,Fl),(100203,Jcj)]⟩)]),(24,.jn [15] [] [(.n,⟨[(0,Zl),(5,Jfk)],[(5000,.var 91 (.ag (sL [Kb,.ag (sL [Wi,Jsx,Lw]),S8]))),(5002,Vd),(100102,Fl),(100103,Jcj)]⟩)]),(33,.gh Lu),(33,.an (.dc 18 [35,36,37,38,39,40,41,42,43,44,45,46,34,47,48,49,50,1000000017] [5000,8] [] (.b 5000 (.b 5000 (.d 5000 5000 (.b 5000 (.d 5000 5002 (.a (.b 5000 (.d 5000 5000 (.b 5000 (.c 5000 (.c 8 (.k 2 [] [] [14602,14601] [14601,14602] (.g [] [] [] [14601,14602] (.g [] [] [] [14601,14602] (.a (.d 5000 5000 (.b 5000 (.g [5000] [14601,14602] [] [5000,5002,14601,14602] Eo))))))))))))))))))))] func11⟩
def Qb6(N:Nat):V:=⟨⟨34,Q46,[⟨[(0,zs4)],Qpc⟩],u3 (Gt N),[]⟩,kF N [] [(3,.rg (.n 3 (.nl 5 Qu6)))] func34⟩
def V3(N:Nat):V:=⟨⟨35,Q46,[⟨Jri,[(5001,Vd)]⟩],u3 (Yw N),[5000]⟩,kF N [Bi,fun _=>⟨_,Fk⟩] [] func35⟩
def L3(N:Nat):V:=⟨⟨43,Jpt,[Jpv],W0 N,[]⟩,kF N [fun _=>⟨_,Fj⟩,fun _=>⟨_,Vj⟩] [] func43⟩
def Qal(N:Nat):V:=⟨⟨16,⟨Bh,Jrj⟩,[⟨Qf0,[(5000,.var 91 (.ag (sL [Kb,Qef,Nm]))),(5001,Vd),(1,Jck)]⟩],u5 (W5 N),[]⟩,kF N [Qb6,V3,L3] [(16,.lp [0,10,11] [5000,5001] Jrk Jrl),(27,.rg (.n 7 (.call 2 (.fz 12301 (.fz 12302 Qu5)))))] func16⟩
def Y6(N:Nat):V:=⟨⟨34,Q46,[zs1],u3 (J4 N),[5000,5001]⟩,kF N [] [(3,.rg (.n 3 (.nl 5 Qu6)))] func34⟩
def Qez(N:Nat):V:=⟨⟨31,⟨Qi4,Qpc⟩,[⟨Qpb,Qpc⟩],u4 (Nl N),[]⟩,kF N [Y6] [(13,.an (.mp Jb7 [1] [5000,5001] Ic [] Qu5 (.two (.reg Jn2) (.two (.reg Jn2) .nil))))] func31⟩
def Qg2(N:Nat):V:=⟨⟨8,(sD []),[zs1],fun _=>Z9 N,[]⟩,kF N [Qh9,Ql1,Qkh,Qex,Qey,Qdo,Qal,Qez] [(15,.an (.dc 8 [14,15,16,17,18,19,3,4] [2,11001,11002,11003,11004,11005,11006,11007,11008,11009,11010,11011] [] (.b 11001 (.c 2 (.k 2 [11001,11002,11003,11004,11005,11006,11007,11008,11009,11010,11011] [] [11601] [11001,11011,11601] (.b 11001 (.c 2 (.k 3 [11001,11601,11011] [] [11901] [11001,11011,11901] (.e 3 (.e 4 Q4k)))))))))),(17,.rg (.n 2 (.call 4 Qu6))),(19,.rg (.n 2 (.call 4 Qu6))),(23,.rg (.n 9 (.sp 36 5 [1,5,6,7] [2,3,4,5,6,12701,12702] ⟨[(41,zs4)],[(11001,.var 91 (.ag (sL [Kb,Qxf,Jj8]))),(100001,Vd)]⟩ (.nl 1 (.call 6 Jfj)) Ea (.n 16 (.sp 57 5 [1,7] [2,3,4,5,6,11001,12701,12702,100001] Jst Ea Ea (.n 1 (.sp 63 4 [1] [2,3,4,5,6,12701,12702] ⟨[(67,zs4)],[(11001,Jrm),(100201,Vd)]⟩ (.nl 1 (.call 7 Qps)) Qeo zs5)))))))] func8⟩
def Qig(N:Nat):V:=⟨⟨10,(sD [.sl .i,.sl .i]),[zs1],u2 (Ha N),[]⟩,kF N [] [(14,.lp [0,1] [] Ic Qhu),(24,.an (.dr 9 (.n 9 .done) .done))] func10⟩
def Qdp(N:Nat):V:=⟨⟨83,Q4n,[zs1],u2 (H2 N),[]⟩,kF N [] [(14,.lp [2,3] [2,3] Ic Qhu),(24,.an (.dr 11 (.n 11 .done) .done))] func83⟩
def Qih(N:Nat):V:=⟨⟨41,(sD [.sl Ja,.sl Ja]),[zs1],u2 (Cg N),[]⟩,kF N [Qdp] [(14,.lp [0,1] [] Ic Qhu),(24,.an (.dr 8 Qtj Q9c))] func41⟩
def Qii(N:Nat):V:=⟨⟨13,(sD [Yh,Yh]),[zs1],u2 (Uw N),[]⟩,kF N [Qih] [(14,.lp [2,3] [2,3] Ic Qhu),(24,.an (.dr 11 (.n 11 .done) .done)),(35,.lp [2,3] [2,3] Jjo [(.x 2,⟨[],[]⟩),(.r,⟨[(4,zs4)],[]⟩)]),(45,.an (.dr 11 (.n 11 .done) .done))] func13⟩
def N8(N:Nat):V:=⟨⟨16,Q46,[⟨Qf0,[(5001,Vd),(1,Jck)]⟩],u3 (J7 N),[5000]⟩,kF N [Y6,V3,L3] [(16,.lp [0,10,11] [5001] Jrk Jrl),(27,.rg (.n 7 (.call 2 (.fz 12301 (.fz 12302 Qu5)))))] func16⟩
def Qij(N:Nat):V:=⟨⟨84,(sD [Hq,Hq]),[zs1],u2 (Hb N),[]⟩,kF N [] [(11,.an (.dc 7 [62,63,64,65,5,6,1000000006] [2,3] [] (.b 2 (.c 2 (.b 3 (.c 3 (.e 5 (.e 6 Jrg)))))))),(24,.lp [5,6] [2,3,5,6] Q9e Qhu),(34,.an (.dr 11 (.n 11 .done) .done))] func84⟩
def Qam(N:Nat):V:=⟨⟨85,(sD [.sl Xu,.sl Xu]),[zs1],u2 (Zg N),[]⟩,kF N [] [(14,.lp [0,1] [] Ic Qhu),(24,.an (.dr 9 (.n 9 .done) .done))] func85⟩
def Qik(N:Nat):V:=⟨⟨42,(sD [Yg,Yg]),[zs1],u2 (Hc N),[]⟩,kF N [Qij,Qam] [(3,.rg (.n 27 (.sp 31 6 [2,3] [2,3] Jsn (.nl 4 Q9c) Qzt (.n 8 (.sp 45 6 [2,3] [2,3] ⟨[(51,zs4)],[]⟩ (.nl 4 Jn3) Qzt (.n 29 .done))))))] func42⟩
def N9(N:Nat):V:=⟨⟨15,(sD [.sl Yg,.sl Yg]),[zs1],u2 (Ub N),[]⟩,kF N [Qik] [(14,.lp [0,1] [] Ic Qhu),(24,.an (.dr 8 Qtj Q9c))] func15⟩
def R5(N:Nat):V:=⟨⟨11,⟨Qi4,Qpc⟩,[Jrn],u4 (Y5 N),[]⟩,kF N [Y6,V3,Co] [(16,.lp [1,13,14] [] ⟨Jky,[(5000,.var 91 (.ag (sL [Kb,Qef,Nm]))),(5001,Vd),(100002,Fl)]⟩ [(.x 0,⟨[(5,Jfl)],[(5000,.var 91 (.ag (sL [Kb,Qef,Nm]))),(5001,Vd),(100202,Fl)]⟩)]),(24,.jn [15] [] [(.n,⟨[(0,Zl),(5,Jfk)],[(5000,.var 91 (.ag (sL [Kb,Qxf,Nm]))),(5001,Vd),(100102,Fl)]⟩)]),(33,.an (.dc 18 [35,36,37,38,39,40,41,42,43,44,45,46,34,47,48,49,50,1000000017] [5000,8] [] (.b 5000 (.b 5000 (.d 5000 5000 (.b 5000 (.d 5000 5001 (.a (.b 5000 (.d 5000 5000 (.b 5000 (.c 5000 (.c 8 (.k 2 [] [] [14602,14601] [14601,14602] (.g [] [] [] [14601,14602] (.g [] [] [] [14601,14602] (.a (.d 5000 5000 (.b 5000 (.g [5000] [14601,14602] [] [5000,5001,14601,14602] Eo))))))))))))))))))))] func11⟩
def R6(N:Nat):V:=⟨⟨11,⟨Qi4,Qpc⟩,[Jrn],u4 (Ux N),[]⟩,kF N [Y6,V3,Co] [(16,.lp [1,13,14] [] ⟨Jky,[(5000,.var 91 (.ag (sL [Kb,Qef,Nm]))),(5001,Vd),(100002,Fl)]⟩ [(.x 0,⟨[(5,Jfl)],[(5000,.var 91 (.ag (sL [Kb,Qef,Nm]))),(5001,Vd),(100202,Fl)]⟩)]),(24,.jn [15] [] [(.n,⟨[(0,Zl),(5,Jfk)],[(5000,.var 91 (.ag (sL [Kb,Qxf,Nm]))),(5001,Vd),(100102,Fl)]⟩)]),(33,.an (.dc 18 [35,36,37,38,39,40,41,42,43,44,45,46,34,47,48,49,50,1000000017] [5000,8] [] (.b 5000 (.b 5000 (.d 5000 5000 (.b 5000 (.d 5000 5001 (.a (.b 5000 (.d 5000 5000 (.b 5000 (.c 5000 (.c 8 (.k 2 [] [] [14602,14601] [14601,14602] (.g [] [] [] [14601,14602] (.g [] [] [] [14601,14602] (.a (.d 5000 5000 (.b 5000 (.g [5000] [14601,14602] [] [5000,5001,14601,14602] Eo))))))))))))))))))))] func11⟩
def Qan(N:Nat):V:=⟨⟨38,⟨Qto,Qpc⟩,[⟨Q44,[(5000,.var 91 (.ag (sL [Kb,Qlw,Nm]))),(5001,Vd),(1,Yr)]⟩],u4 (W6 N),[]⟩,kF N [Mv] [(3,.an (.dr 7 Qlr zs5)),(5,.an (.dc 19 [16,17,18,19,20,21,22,23,24,25,15,26,27,28,5,6,7,1000000017,1000000018] [5000,3] [] (.b 5000 (.d 5000 5000 (.b 5000 (.c 5000 (.b 5000 (.d 5000 5000 (.b 5000 (.c 5000 (.c 3 (.k 0 [] [] [12501] [12501] (.b 12501 (.b 12501 (.a (.a (.e 5 (.e 6 (.e 7 (.g [5] [12501] [] [5,12501] (.f 6 6 Eo))))))))))))))))))))),(7,.an (.dc 14 [29,30,31,32,33,34,35,36,37,38,39,1000000011,40,41] [5000,3,5,6,12501,5001] [] (.b 5000 (.b 5000 (.d 5000 5000 (.b 5000 (.d 5000 5001 (.b 3 (.c 3 (.d 5 12501 (.c 6 (.d 5000 5000 (.b 5000 (.g [5000] [12501] [] [5000,5001,12501] (.op ⟨.br .done,[5001],[],[40],[40,5001]⟩ Jkt))))))))))))))),(9,.jn [4,7] [3,4,5,6,7,5000,12501] [(.n,⟨[],[(5001,Vd)]⟩)]),(12,.an (.dr 6 Qzu zs5))] func38⟩
def Qe0(N:Nat):V:=⟨⟨12,⟨Qto,Qpc⟩,[⟨Q44,Jrj⟩],u4 (Jn N),[]⟩,kF N [Y6,Ep,Qan,Cm,Es] [(19,.an (.dc 12 [23,24,25,26,27,28,29,22,30,31,5,1000000011] [5000,3,5001] [] (.b 5000 (.d 5000 5000 (.b 5000 (.d 5000 5001 (.b 3 (.c 3 (.c 5001 Jcg))))))))),(52,.jn [4] [3,4,5] [(.n,⟨Jch,[(5000,.var 91 (.ag (sL [Kb,Q45,Nm]))),(5001,Vd),(100002,.var 50 Ka),(100003,Yr)]⟩)]),(55,.an (.dc 26 [67,68,69,70,71,72,73,74,75,76,77,78,79,80,81,82,83,84,66,85,86,87,88,89,1000000024,1000000025] [5000,5001] [3,5] (.b 5000 (.b 5000 (.d 5000 5000 (.b 5000 (.d 5000 5001 (.b 3 (.c 3 (.b 5000 (.d 5000 5000 (.b 5000 (.c 5000 (.b 5000 (.d 5000 5000 (.b 5000 (.c 5000 (.c 5 (.c 3 (.k 3 [] [] [18402,18401] [18401,18402] (.g [] [] [] [18401,18402] (.g [] [] [] [18401,18402] (.a (.a (.d 5000 5000 (.b 5000 (.g [5000] [18401,18402] [] [5000,5001,18401,18402] Jro))))))))))))))))))))))))))),(56,.an (.dc 26 [91,92,93,94,95,96,97,98,99,100,101,102,103,104,105,106,107,108,90,109,110,111,112,113,1000000024,1000000025] [5000,5001] [3,5] (.b 5000 (.b 5000 (.d 5000 5000 (.b 5000 (.d 5000 5001 (.b 3 (.c 3 (.b 5000 (.d 5000 5000 (.b 5000 (.c 5000 (.b 5000 (.d 5000 5000 (.b 5000 (.c 5000 (.c 5 (.c 3 (.k 4 [] [] [20801] [20801] (.b 20801 (.b 20801 (.a (.a (.d 5000 5000 (.b 5000 (.g [5000] [20801] [] [5000,5001,20801] Jro)))))))))))))))))))))))))))] func12⟩
def Qao(N:Nat):V:=⟨⟨14,Q46,[Qw6],u3 (Yo N),[5000,5001]⟩,kF N [Y6,P8] [] func14⟩
def Ez(N:Nat):V:=⟨⟨3,Jpp,[zs1],Uy N,[]⟩,kF N [Qj8,Qg2,Ql1,Qig,Qii,N8,N9,R5,R6,Qe0,Qao] [(11,.an (.dc 9 [13,14,15,16,17,18,19,20,21] [1] [] (.b 1 (.c 1 (.b 1 (.c 1 (.k 2 [] [] [11711,11710,11709,11708,11707,11706,11705,11704,11703,11702,11701] [11701,11702,11703,11704,11705,11706,11707,11708,11709,11710,11711] (.b 1 (.c 1 (.b 1 (.c 1 (.tl (.call 2 Qu6))))))))))))),(14,.rg (.n 3 Jfj)),(24,.lp [1] [1] ⟨[(3,Qhw),(4,Qw9),(5,zs2)],[(100000,.var 91 (.ag (sL [Jkw,Qxf,.m 100002]))),(100001,.var 91 (.ag (sL [Jkw,Qxf,.m 100003]))),(100002,Vd),(100003,Vd)]⟩ Qj1),(36,.jn [5] [6] [(.n,⟨[(3,Q4w),(4,.p 100401 [])],[(100400,.var 91 (.ag (sL [Kb,Qef,.m 100402]))),(100401,.var 91 (.ag (sL [Kb,Qef,.m 100403]))),(100402,Vd),(100403,Vd)]⟩),(.r,⟨[(2,zs4)],[]⟩)]),(40,.jn [5] [] [(.n,⟨[(3,Qhy),(4,Jn1),(65,zs4)],[(100100,.var 91 (.ag (sL [Kb,Qef,.m 100102]))),(100101,.var 91 (.ag (sL [Kb,Qef,.m 100103]))),(100102,Vd),(100103,Vd)]⟩)]),(40,.an (.dc 14 [48,49,50,51,52,53,54,55,56,57,58,59,60,61] [100000,100002,100001,100003] [6] (.b 100000 (.b 6 (.c 6 (.k 7 [100000,100002] [] [15101] [15101,100000,100002] (.b 100001 (.b 6 (.c 6 (.k 7 [100001,100003] [] [15501] [15501,100001,100003] (.k 3 [15101,15501] [] [] [15101,15501] (.a (.a (.so 58 Jqn (.b 100000 (.b 6 (.c 6 (.tl (.call 8 Jfj))))))))))))))))))),(51,.jn [4,5] [7,8,100001,100003] [(.n,⟨[(3,Qth),(88,zs4)],[(100200,Jrm),(100201,Vd)]⟩)]),(51,.an (.dc 15 [72,73,74,75,76,77,78,79,80,81,82,83,84,85,86] [100000,100002] [7,8,6] (.c 7 (.c 8 (.a (.a (.so 75 (.a (.a (.a Jql))) (.b 100000 (.c 6 (.k 9 [100000,100002] [] [] [100000,100002] (.c 7 (.a (.a (.a (.so 82 Jpm (.b 100000 (.c 6 (.k 9 [100000,100002] [] [] [100000,100002] (.c 7 (.tl Qps)))))))))))))))))))),(58,.rg (.n 1 (.call 10 (.n 1 (.call 10 (.call 4 (.n 2 (.sp 95 7 [3,4,5] [6,19001,19002,19003,19201,19202,19203,100400,100401] ⟨[(102,zs4)],[(100402,Vd),(100403,Vd)]⟩ Qnp (.nl 1 (.call 5 (.nl 1 (.call 5 (.call 6 Qps))))) .done))))))))] func3⟩
end
end Gx
