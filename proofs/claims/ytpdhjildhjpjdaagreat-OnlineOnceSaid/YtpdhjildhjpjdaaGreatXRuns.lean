/- The interpreter gives these functions. -/
import Derived.Test.YtpdhjildhjpjdaaGreatXFns
import Derived.Test.YtpdhjildhjpjdaaGreatProg
import Derived.Test.YtpdhjildhjpjdaaGreatXQ2
import Derived.Test.YtpdhjildhjpjdaaGreatXShelf
namespace Gx
open Go Gd Go.Proofs Tryz
set_option linter.unusedVariables false
noncomputable section
def HT.a(r:HT):HT:=.op ⟨.nl 1 .done,[],[],[],[]⟩ r
def HT.b(x:Nat)(r:HT):HT:=.op ⟨.nl 1 .done,[],[],[],[x]⟩ r
def HT.c(x:Nat)(r:HT):HT:=.op ⟨.nl 1 .done,[],[x],[],[]⟩ r
def HT.d(x y:Nat)(r:HT):HT:=.op ⟨.nl 1 .done,[],[x],[],[y]⟩ r
def HT.e(x:Nat)(r:HT):HT:=.op ⟨.nl 1 .done,[],[],[x],[x]⟩ r
def HT.f(x y:Nat)(r:HT):HT:=.op ⟨.nl 1 .done,[x],[],[],[y]⟩ r
def HT.g(a b c d:List Nat)(r:HT):HT:=.op ⟨.nl 1 .done,a,b,c,d⟩ r
def HT.k(n:Nat)(a b c d:List Nat)(r:HT):HT:=.op ⟨.call n .done,a,b,c,d⟩ r
def u2{α0 α1 β:Type}(f:α0→α1→β)(p:α0×α1):β:=f p.1 p.2
def u3{α0 α1 α2 β:Type}(f:α0→α1→α2→β)(p:α0×α1×α2):β:=f p.1 p.2.1 p.2.2
def u4{α0 α1 α2 α3 β:Type}(f:α0→α1→α2→α3→β)(p:α0×α1×α2×α3):β:=f p.1 p.2.1 p.2.2.1 p.2.2.2
def u5{α0 α1 α2 α3 α4 β:Type}(f:α0→α1→α2→α3→α4→β)(p:α0×α1×α2×α3×α4):β:=f p.1 p.2.1 p.2.2.1 p.2.2.2.1 p.2.2.2.2
def u6{α0 α1 α2 α3 α4 α5 β:Type}(f:α0→α1→α2→α3→α4→α5→β)(p:α0×α1×α2×α3×α4×α5):β:=f p.1 p.2.1 p.2.2.1 p.2.2.2.1 p.2.2.2.2.1 p.2.2.2.2.2
def u7{α0 α1 α2 α3 α4 α5 α6 β:Type}(f:α0→α1→α2→α3→α4→α5→α6→β)(p:α0×α1×α2×α3×α4×α5×α6):β:=f p.1 p.2.1 p.2.2.1 p.2.2.2.1 p.2.2.2.2.1 p.2.2.2.2.2.1 p.2.2.2.2.2.2
def u8{α0 α1 α2 α3 α4 α5 α6 α7 β:Type}(f:α0→α1→α2→α3→α4→α5→α6→α7→β)(p:α0×α1×α2×α3×α4×α5×α6×α7):β:=f p.1 p.2.1 p.2.2.1 p.2.2.2.1 p.2.2.2.2.1 p.2.2.2.2.2.1 p.2.2.2.2.2.2.1 p.2.2.2.2.2.2.2
def u9{α0 α1 α2 α3 α4 α5 α6 α7 α8 β:Type}(f:α0→α1→α2→α3→α4→α5→α6→α7→α8→β)(p:α0×α1×α2×α3×α4×α5×α6×α7×α8):β:=f p.1 p.2.1 p.2.2.1 p.2.2.2.1 p.2.2.2.2.1 p.2.2.2.2.2.1 p.2.2.2.2.2.2.1 p.2.2.2.2.2.2.2.1 p.2.2.2.2.2.2.2.2
def u10{α0 α1 α2 α3 α4 α5 α6 α7 α8 α9 β:Type}(f:α0→α1→α2→α3→α4→α5→α6→α7→α8→α9→β)(p:α0×α1×α2×α3×α4×α5×α6×α7×α8×α9):β:=f p.1 p.2.1 p.2.2.1 p.2.2.2.1 p.2.2.2.2.1 p.2.2.2.2.2.1 p.2.2.2.2.2.2.1 p.2.2.2.2.2.2.2.1 p.2.2.2.2.2.2.2.2.1 p.2.2.2.2.2.2.2.2.2
def u11{α0 α1 α2 α3 α4 α5 α6 α7 α8 α9 α10 β:Type}(f:α0→α1→α2→α3→α4→α5→α6→α7→α8→α9→α10→β)(p:α0×α1×α2×α3×α4×α5×α6×α7×α8×α9×α10):β:=f p.1 p.2.1 p.2.2.1 p.2.2.2.1 p.2.2.2.2.1 p.2.2.2.2.2.1 p.2.2.2.2.2.2.1 p.2.2.2.2.2.2.2.1 p.2.2.2.2.2.2.2.2.1 p.2.2.2.2.2.2.2.2.2.1 p.2.2.2.2.2.2.2.2.2.2
def u14{α0 α1 α2 α3 α4 α5 α6 α7 α8 α9 α10 α11 α12 α13 β:Type}(f:α0→α1→α2→α3→α4→α5→α6→α7→α8→α9→α10→α11→α12→α13→β)(p:α0×α1×α2×α3×α4×α5×α6×α7×α8×α9×α10×α11×α12×α13):β:=f p.1 p.2.1 p.2.2.1 p.2.2.2.1 p.2.2.2.2.1 p.2.2.2.2.2.1 p.2.2.2.2.2.2.1 p.2.2.2.2.2.2.2.1 p.2.2.2.2.2.2.2.2.1 p.2.2.2.2.2.2.2.2.2.1 p.2.2.2.2.2.2.2.2.2.2.1 p.2.2.2.2.2.2.2.2.2.2.2.1 p.2.2.2.2.2.2.2.2.2.2.2.2.1 p.2.2.2.2.2.2.2.2.2.2.2.2.2
def u15{α0 α1 α2 α3 α4 α5 α6 α7 α8 α9 α10 α11 α12 α13 α14 β:Type}(f:α0→α1→α2→α3→α4→α5→α6→α7→α8→α9→α10→α11→α12→α13→α14→β)(p:α0×α1×α2×α3×α4×α5×α6×α7×α8×α9×α10×α11×α12×α13×α14):β:=f p.1 p.2.1 p.2.2.1 p.2.2.2.1 p.2.2.2.2.1 p.2.2.2.2.2.1 p.2.2.2.2.2.2.1 p.2.2.2.2.2.2.2.1 p.2.2.2.2.2.2.2.2.1 p.2.2.2.2.2.2.2.2.2.1 p.2.2.2.2.2.2.2.2.2.2.1 p.2.2.2.2.2.2.2.2.2.2.2.1 p.2.2.2.2.2.2.2.2.2.2.2.2.1 p.2.2.2.2.2.2.2.2.2.2.2.2.2.1 p.2.2.2.2.2.2.2.2.2.2.2.2.2.2
def u16{α0 α1 α2 α3 α4 α5 α6 α7 α8 α9 α10 α11 α12 α13 α14 α15 β:Type}(f:α0→α1→α2→α3→α4→α5→α6→α7→α8→α9→α10→α11→α12→α13→α14→α15→β)(p:α0×α1×α2×α3×α4×α5×α6×α7×α8×α9×α10×α11×α12×α13×α14×α15):β:=f p.1 p.2.1 p.2.2.1 p.2.2.2.1 p.2.2.2.2.1 p.2.2.2.2.2.1 p.2.2.2.2.2.2.1 p.2.2.2.2.2.2.2.1 p.2.2.2.2.2.2.2.2.1 p.2.2.2.2.2.2.2.2.2.1 p.2.2.2.2.2.2.2.2.2.2.1 p.2.2.2.2.2.2.2.2.2.2.2.1 p.2.2.2.2.2.2.2.2.2.2.2.2.1 p.2.2.2.2.2.2.2.2.2.2.2.2.2.1 p.2.2.2.2.2.2.2.2.2.2.2.2.2.2.1 p.2.2.2.2.2.2.2.2.2.2.2.2.2.2.2
def u18{α0 α1 α2 α3 α4 α5 α6 α7 α8 α9 α10 α11 α12 α13 α14 α15 α16 α17 β:Type}(f:α0→α1→α2→α3→α4→α5→α6→α7→α8→α9→α10→α11→α12→α13→α14→α15→α16→α17→β)(p:α0×α1×α2×α3×α4×α5×α6×α7×α8×α9×α10×α11×α12×α13×α14×α15×α16×α17):β:=f p.1 p.2.1 p.2.2.1 p.2.2.2.1 p.2.2.2.2.1 p.2.2.2.2.2.1 p.2.2.2.2.2.2.1 p.2.2.2.2.2.2.2.1 p.2.2.2.2.2.2.2.2.1 p.2.2.2.2.2.2.2.2.2.1 p.2.2.2.2.2.2.2.2.2.2.1 p.2.2.2.2.2.2.2.2.2.2.2.1 p.2.2.2.2.2.2.2.2.2.2.2.2.1 p.2.2.2.2.2.2.2.2.2.2.2.2.2.1 p.2.2.2.2.2.2.2.2.2.2.2.2.2.2.1 p.2.2.2.2.2.2.2.2.2.2.2.2.2.2.2.1 p.2.2.2.2.2.2.2.2.2.2.2.2.2.2.2.2.1 p.2.2.2.2.2.2.2.2.2.2.2.2.2.2.2.2.2
def u26{α0 α1 α2 α3 α4 α5 α6 α7 α8 α9 α10 α11 α12 α13 α14 α15 α16 α17 α18 α19 α20 α21 α22 α23 α24 α25 β:Type}(f:α0→α1→α2→α3→α4→α5→α6→α7→α8→α9→α10→α11→α12→α13→α14→α15→α16→α17→α18→α19→α20→α21→α22→α23→α24→α25→β)(p:α0×α1×α2×α3×α4×α5×α6×α7×α8×α9×α10×α11×α12×α13×α14×α15×α16×α17×α18×α19×α20×α21×α22×α23×α24×α25):β:=f p.1 p.2.1 p.2.2.1 p.2.2.2.1 p.2.2.2.2.1 p.2.2.2.2.2.1 p.2.2.2.2.2.2.1 p.2.2.2.2.2.2.2.1 p.2.2.2.2.2.2.2.2.1 p.2.2.2.2.2.2.2.2.2.1 p.2.2.2.2.2.2.2.2.2.2.1 p.2.2.2.2.2.2.2.2.2.2.2.1 p.2.2.2.2.2.2.2.2.2.2.2.2.1 p.2.2.2.2.2.2.2.2.2.2.2.2.2.1 p.2.2.2.2.2.2.2.2.2.2.2.2.2.2.1 p.2.2.2.2.2.2.2.2.2.2.2.2.2.2.2.1 p.2.2.2.2.2.2.2.2.2.2.2.2.2.2.2.2.1 p.2.2.2.2.2.2.2.2.2.2.2.2.2.2.2.2.2.1 p.2.2.2.2.2.2.2.2.2.2.2.2.2.2.2.2.2.2.1 p.2.2.2.2.2.2.2.2.2.2.2.2.2.2.2.2.2.2.2.1 p.2.2.2.2.2.2.2.2.2.2.2.2.2.2.2.2.2.2.2.2.1 p.2.2.2.2.2.2.2.2.2.2.2.2.2.2.2.2.2.2.2.2.2.1 p.2.2.2.2.2.2.2.2.2.2.2.2.2.2.2.2.2.2.2.2.2.2.1 p.2.2.2.2.2.2.2.2.2.2.2.2.2.2.2.2.2.2.2.2.2.2.2.1 p.2.2.2.2.2.2.2.2.2.2.2.2.2.2.2.2.2.2.2.2.2.2.2.2.1 p.2.2.2.2.2.2.2.2.2.2.2.2.2.2.2.2.2.2.2.2.2.2.2.2.2
def u27{α0 α1 α2 α3 α4 α5 α6 α7 α8 α9 α10 α11 α12 α13 α14 α15 α16 α17 α18 α19 α20 α21 α22 α23 α24 α25 α26 β:Type}(f:α0→α1→α2→α3→α4→α5→α6→α7→α8→α9→α10→α11→α12→α13→α14→α15→α16→α17→α18→α19→α20→α21→α22→α23→α24→α25→α26→β)(p:α0×α1×α2×α3×α4×α5×α6×α7×α8×α9×α10×α11×α12×α13×α14×α15×α16×α17×α18×α19×α20×α21×α22×α23×α24×α25×α26):β:=f p.1 p.2.1 p.2.2.1 p.2.2.2.1 p.2.2.2.2.1 p.2.2.2.2.2.1 p.2.2.2.2.2.2.1 p.2.2.2.2.2.2.2.1 p.2.2.2.2.2.2.2.2.1 p.2.2.2.2.2.2.2.2.2.1 p.2.2.2.2.2.2.2.2.2.2.1 p.2.2.2.2.2.2.2.2.2.2.2.1 p.2.2.2.2.2.2.2.2.2.2.2.2.1 p.2.2.2.2.2.2.2.2.2.2.2.2.2.1 p.2.2.2.2.2.2.2.2.2.2.2.2.2.2.1 p.2.2.2.2.2.2.2.2.2.2.2.2.2.2.2.1 p.2.2.2.2.2.2.2.2.2.2.2.2.2.2.2.2.1 p.2.2.2.2.2.2.2.2.2.2.2.2.2.2.2.2.2.1 p.2.2.2.2.2.2.2.2.2.2.2.2.2.2.2.2.2.2.1 p.2.2.2.2.2.2.2.2.2.2.2.2.2.2.2.2.2.2.2.1 p.2.2.2.2.2.2.2.2.2.2.2.2.2.2.2.2.2.2.2.2.1 p.2.2.2.2.2.2.2.2.2.2.2.2.2.2.2.2.2.2.2.2.2.1 p.2.2.2.2.2.2.2.2.2.2.2.2.2.2.2.2.2.2.2.2.2.2.1 p.2.2.2.2.2.2.2.2.2.2.2.2.2.2.2.2.2.2.2.2.2.2.2.1 p.2.2.2.2.2.2.2.2.2.2.2.2.2.2.2.2.2.2.2.2.2.2.2.2.1 p.2.2.2.2.2.2.2.2.2.2.2.2.2.2.2.2.2.2.2.2.2.2.2.2.2.1 p.2.2.2.2.2.2.2.2.2.2.2.2.2.2.2.2.2.2.2.2.2.2.2.2.2.2
def u29{α0 α1 α2 α3 α4 α5 α6 α7 α8 α9 α10 α11 α12 α13 α14 α15 α16 α17 α18 α19 α20 α21 α22 α23 α24 α25 α26 α27 α28 β:Type}(f:α0→α1→α2→α3→α4→α5→α6→α7→α8→α9→α10→α11→α12→α13→α14→α15→α16→α17→α18→α19→α20→α21→α22→α23→α24→α25→α26→α27→α28→β)(p:α0×α1×α2×α3×α4×α5×α6×α7×α8×α9×α10×α11×α12×α13×α14×α15×α16×α17×α18×α19×α20×α21×α22×α23×α24×α25×α26×α27×α28):β:=f p.1 p.2.1 p.2.2.1 p.2.2.2.1 p.2.2.2.2.1 p.2.2.2.2.2.1 p.2.2.2.2.2.2.1 p.2.2.2.2.2.2.2.1 p.2.2.2.2.2.2.2.2.1 p.2.2.2.2.2.2.2.2.2.1 p.2.2.2.2.2.2.2.2.2.2.1 p.2.2.2.2.2.2.2.2.2.2.2.1 p.2.2.2.2.2.2.2.2.2.2.2.2.1 p.2.2.2.2.2.2.2.2.2.2.2.2.2.1 p.2.2.2.2.2.2.2.2.2.2.2.2.2.2.1 p.2.2.2.2.2.2.2.2.2.2.2.2.2.2.2.1 p.2.2.2.2.2.2.2.2.2.2.2.2.2.2.2.2.1 p.2.2.2.2.2.2.2.2.2.2.2.2.2.2.2.2.2.1 p.2.2.2.2.2.2.2.2.2.2.2.2.2.2.2.2.2.2.1 p.2.2.2.2.2.2.2.2.2.2.2.2.2.2.2.2.2.2.2.1 p.2.2.2.2.2.2.2.2.2.2.2.2.2.2.2.2.2.2.2.2.1 p.2.2.2.2.2.2.2.2.2.2.2.2.2.2.2.2.2.2.2.2.2.1 p.2.2.2.2.2.2.2.2.2.2.2.2.2.2.2.2.2.2.2.2.2.2.1 p.2.2.2.2.2.2.2.2.2.2.2.2.2.2.2.2.2.2.2.2.2.2.2.1 p.2.2.2.2.2.2.2.2.2.2.2.2.2.2.2.2.2.2.2.2.2.2.2.2.1 p.2.2.2.2.2.2.2.2.2.2.2.2.2.2.2.2.2.2.2.2.2.2.2.2.2.1 p.2.2.2.2.2.2.2.2.2.2.2.2.2.2.2.2.2.2.2.2.2.2.2.2.2.2.1 p.2.2.2.2.2.2.2.2.2.2.2.2.2.2.2.2.2.2.2.2.2.2.2.2.2.2.2.1 p.2.2.2.2.2.2.2.2.2.2.2.2.2.2.2.2.2.2.2.2.2.2.2.2.2.2.2.2
def tab:Tab:=[
 ⟨1,.func ⟨[]⟩ ⟨[]⟩ false,.nilFunc,1,8⟩,
 ⟨2,.int .i64,.int .i64 0,1,8⟩,
 ⟨3,.int .i64,.int .i64 0,1,8⟩,
 ⟨4,.bool,.bool false,1,1⟩,
 ⟨5,.int .u8,.int .u8 0,1,1⟩,
 ⟨6,.int .u8,.int .u8 0,1,1⟩,
 ⟨9,.string,Yr [],1,16⟩,
 ⟨22,.slice 135,.slice none 0 0,1,24⟩,
 ⟨23,.slice 146,.slice none 0 0,1,24⟩,
 ⟨24,.slice 133,.slice none 0 0,1,24⟩,
 ⟨25,.slice 150,.slice none 0 0,1,24⟩,
 ⟨26,.slice 3,.slice none 0 0,1,24⟩,
 ⟨27,.slice 156,.slice none 0 0,1,24⟩,
 ⟨29,.struct ⟨[⟨"Events",22,0,false, "", "",0⟩,⟨"Tariffs",23,1,false, "", "",24⟩,⟨"Products",24,2,false, "", "",48⟩,⟨"Taxes",25,3,false, "", "",72⟩,⟨"Holidays",26,4,false, "", "",96⟩,⟨"Agreements",27,5,false, "", "",120⟩]⟩,.agg ⟨[.slice none 0 0,.slice none 0 0,.slice none 0 0,.slice none 0 0,.slice none 0 0,.slice none 0 0]⟩,6,144⟩,
 ⟨30,.slice 129,.slice none 0 0,1,24⟩,
 ⟨31,.slice 101,.slice none 0 0,1,24⟩,
 ⟨32,.slice 103,.slice none 0 0,1,24⟩,
 ⟨34,.struct ⟨[⟨"Buckets",30,0,false, "", "",0⟩,⟨"Wallets",31,1,false, "", "",24⟩,⟨"Counters",32,2,false, "", "",48⟩]⟩,.agg ⟨[.slice none 0 0,.slice none 0 0,.slice none 0 0]⟩,3,72⟩,
 ⟨35,.slice 45,.slice none 0 0,1,24⟩,
 ⟨37,.struct ⟨[⟨"Book",29,0,false, "", "",0⟩,⟨"State",34,6,false, "", "",144⟩,⟨"Ops",35,9,false, "", "",216⟩]⟩,.agg ⟨[.slice none 0 0,.slice none 0 0,.slice none 0 0,.slice none 0 0,.slice none 0 0,.slice none 0 0,.slice none 0 0,.slice none 0 0,.slice none 0 0,.slice none 0 0]⟩,10,240⟩,
 ⟨40,.pointer 91,.pointer none,1,8⟩,
 ⟨43,.struct ⟨[⟨"Session",3,0,false, "", "",0⟩,⟨"Seq",3,1,false, "", "",8⟩,⟨"Kind",3,2,false, "", "",16⟩,⟨"At",3,3,false, "", "",24⟩,⟨"Sub",3,4,false, "", "",32⟩,⟨"Usage",3,5,false, "", "",40⟩,⟨"B",9,6,false, "", "",48⟩,⟨"Used",3,7,false, "", "",64⟩,⟨"Ask",3,8,false, "", "",72⟩]⟩,.agg ⟨[.int .i64 0,.int .i64 0,.int .i64 0,.int .i64 0,.int .i64 0,.int .i64 0,Yr [],.int .i64 0,.int .i64 0]⟩,9,80⟩,
 ⟨45,.struct ⟨[⟨"Request",43,0,false, "", "",0⟩,⟨"Expire",4,9,false, "", "",80⟩]⟩,.agg ⟨[.int .i64 0,.int .i64 0,.int .i64 0,.int .i64 0,.int .i64 0,.int .i64 0,Yr [],.int .i64 0,.int .i64 0,.bool false]⟩,10,88⟩,
 ⟨48,.int .i64,.int .i64 0,1,8⟩,
 ⟨50,.struct ⟨[⟨"Session",3,0,false, "", "",0⟩,⟨"Seq",3,1,false, "", "",8⟩,⟨"Granted",3,2,false, "", "",16⟩,⟨"Until",3,3,false, "", "",24⟩,⟨"Err",48,4,false, "", "",32⟩]⟩,.agg ⟨[.int .i64 0,.int .i64 0,.int .i64 0,.int .i64 0,.int .i64 0]⟩,5,40⟩,
 ⟨55,.slice 81,.slice none 0 0,1,24⟩,
 ⟨60,.slice 43,.slice none 0 0,1,24⟩,
 ⟨62,.struct ⟨[⟨"Book",29,0,false, "", "",0⟩,⟨"State",34,6,false, "", "",144⟩,⟨"Requests",60,9,false, "", "",216⟩]⟩,.agg ⟨[.slice none 0 0,.slice none 0 0,.slice none 0 0,.slice none 0 0,.slice none 0 0,.slice none 0 0,.slice none 0 0,.slice none 0 0,.slice none 0 0,.slice none 0 0]⟩,10,240⟩,
 ⟨71,.slice 5,.slice none 0 0,1,24⟩,
 ⟨74,.slice 141,.slice none 0 0,1,24⟩,
 ⟨76,.struct ⟨[⟨"Kind",3,0,false, "", "",0⟩,⟨"Zone",9,1,false, "", "",8⟩,⟨"Band",9,2,false, "", "",24⟩,⟨"Setup",3,3,false, "", "",40⟩,⟨"Steps",74,4,false, "", "",48⟩]⟩,.agg ⟨[.int .i64 0,Yr [],Yr [],.int .i64 0,.slice none 0 0]⟩,5,72⟩,
 ⟨78,.struct ⟨[⟨"Account",3,0,false, "", "",0⟩,⟨"Sub",3,1,false, "", "",8⟩,⟨"Kind",3,2,false, "", "",16⟩,⟨"Zone",9,3,false, "", "",24⟩,⟨"Plan",9,4,false, "", "",40⟩,⟨"Version",3,5,false, "", "",56⟩,⟨"Rate",76,6,false, "", "",64⟩,⟨"Free",3,11,false, "", "",136⟩,⟨"Paid",3,12,false, "", "",144⟩]⟩,.agg ⟨[.int .i64 0,.int .i64 0,.int .i64 0,Yr [],Yr [],.int .i64 0,.int .i64 0,Yr [],Yr [],.int .i64 0,.slice none 0 0,.int .i64 0,.int .i64 0]⟩,13,152⟩,
 ⟨79,.slice 185,.slice none 0 0,1,24⟩,
 ⟨81,.struct ⟨[⟨"Id",3,0,false, "", "",0⟩,⟨"Seq",3,1,false, "", "",8⟩,⟨"Start",3,2,false, "", "",16⟩,⟨"Until",3,3,false, "", "",24⟩,⟨"Meter",78,4,false, "", "",32⟩,⟨"Granted",3,17,false, "", "",184⟩,⟨"Takes",79,18,false, "", "",192⟩,⟨"Held",3,19,false, "", "",216⟩,⟨"Spent",3,20,false, "", "",224⟩,⟨"Closed",4,21,false, "", "",232⟩,⟨"Last",50,22,false, "", "",240⟩]⟩,.agg ⟨[.int .i64 0,.int .i64 0,.int .i64 0,.int .i64 0,.int .i64 0,.int .i64 0,.int .i64 0,Yr [],Yr [],.int .i64 0,.int .i64 0,Yr [],Yr [],.int .i64 0,.slice none 0 0,.int .i64 0,.int .i64 0,.int .i64 0,.slice none 0 0,.int .i64 0,.int .i64 0,.bool false,.int .i64 0,.int .i64 0,.int .i64 0,.int .i64 0,.int .i64 0]⟩,27,280⟩,
 ⟨89,.map 3 81,.map none,1,8⟩,
 ⟨91,.struct ⟨[⟨"book",29,0,false, "", "billing/online",0⟩,⟨"state",34,6,false, "", "billing/online",144⟩,⟨"sessions",89,9,false, "", "billing/online",216⟩]⟩,.agg ⟨[.slice none 0 0,.slice none 0 0,.slice none 0 0,.slice none 0 0,.slice none 0 0,.slice none 0 0,.slice none 0 0,.slice none 0 0,.slice none 0 0,.map none]⟩,10,224⟩,
 ⟨101,.struct ⟨[⟨"Account",3,0,false, "", "",0⟩,⟨"Balance",3,1,false, "", "",8⟩,⟨"Floor",3,2,false, "", "",16⟩,⟨"Held",3,3,false, "", "",24⟩,⟨"Until",3,4,false, "", "",32⟩]⟩,.agg ⟨[.int .i64 0,.int .i64 0,.int .i64 0,.int .i64 0,.int .i64 0]⟩,5,40⟩,
 ⟨103,.struct ⟨[⟨"Sub",3,0,false, "", "",0⟩,⟨"Kind",3,1,false, "", "",8⟩,⟨"From",3,2,false, "", "",16⟩,⟨"Units",3,3,false, "", "",24⟩,⟨"Spent",3,4,false, "", "",32⟩]⟩,.agg ⟨[.int .i64 0,.int .i64 0,.int .i64 0,.int .i64 0,.int .i64 0]⟩,5,40⟩,
 ⟨107,.map 3 3,.map none,1,8⟩,
 ⟨109,.struct ⟨[⟨"bytes",71,0,false, "", "billing/journal",0⟩,⟨"safe",3,1,false, "", "billing/journal",24⟩,⟨"ends",107,2,false, "", "billing/journal",32⟩]⟩,.agg ⟨[.slice none 0 0,.int .i64 0,.map none]⟩,3,40⟩,
 ⟨125,.slice 9,.slice none 0 0,1,24⟩,
 ⟨127,.struct ⟨[⟨"From",3,0,false, "", "",0⟩,⟨"To",3,1,false, "", "",8⟩]⟩,.agg ⟨[.int .i64 0,.int .i64 0]⟩,2,16⟩,
 ⟨129,.struct ⟨[⟨"Account",3,0,false, "", "",0⟩,⟨"Sub",3,1,false, "", "",8⟩,⟨"Product",9,2,false, "", "",16⟩,⟨"Index",3,3,false, "", "",32⟩,⟨"Kind",3,4,false, "", "",40⟩,⟨"Zones",125,5,false, "", "",48⟩,⟨"Valid",127,6,false, "", "",72⟩,⟨"Units",3,8,false, "", "",88⟩,⟨"Left",3,9,false, "", "",96⟩,⟨"Priority",3,10,false, "", "",104⟩,⟨"Shared",4,11,false, "", "",112⟩]⟩,.agg ⟨[.int .i64 0,.int .i64 0,Yr [],.int .i64 0,.int .i64 0,.slice none 0 0,.int .i64 0,.int .i64 0,.int .i64 0,.int .i64 0,.int .i64 0,.bool false]⟩,12,120⟩,
 ⟨131,.slice 160,.slice none 0 0,1,24⟩,
 ⟨133,.struct ⟨[⟨"Name",9,0,false, "", "",0⟩,⟨"From",3,1,false, "", "",16⟩,⟨"Fee",3,2,false, "", "",24⟩,⟨"Category",9,3,false, "", "",32⟩,⟨"Prorate",4,4,false, "", "",48⟩,⟨"Bundles",131,5,false, "", "",56⟩]⟩,.agg ⟨[Yr [],.int .i64 0,.int .i64 0,Yr [],.bool false,.slice none 0 0]⟩,6,80⟩,
 ⟨135,.struct ⟨[⟨"At",3,0,false, "", "",0⟩,⟨"Kind",3,1,false, "", "",8⟩,⟨"Account",3,2,false, "", "",16⟩,⟨"Sub",3,3,false, "", "",24⟩,⟨"Number",9,4,false, "", "",32⟩,⟨"Name",9,5,false, "", "",48⟩,⟨"Value",3,6,false, "", "",64⟩]⟩,.agg ⟨[.int .i64 0,.int .i64 0,.int .i64 0,.int .i64 0,Yr [],Yr [],.int .i64 0]⟩,7,72⟩,
 ⟨136,.slice 221,.slice none 0 0,1,24⟩,
 ⟨138,.struct ⟨[⟨"Name",9,0,false, "", "",0⟩,⟨"Slots",136,1,false, "", "",16⟩]⟩,.agg ⟨[Yr [],.slice none 0 0]⟩,2,40⟩,
 ⟨139,.slice 138,.slice none 0 0,1,24⟩,
 ⟨141,.struct ⟨[⟨"Upto",3,0,false, "", "",0⟩,⟨"Quantum",3,1,false, "", "",8⟩,⟨"Price",3,2,false, "", "",16⟩]⟩,.agg ⟨[.int .i64 0,.int .i64 0,.int .i64 0]⟩,3,24⟩,
 ⟨142,.slice 76,.slice none 0 0,1,24⟩,
 ⟨143,.slice 210,.slice none 0 0,1,24⟩,
 ⟨144,.slice 218,.slice none 0 0,1,24⟩,
 ⟨146,.struct ⟨[⟨"Name",9,0,false, "", "",0⟩,⟨"From",3,1,false, "", "",16⟩,⟨"Split",4,2,false, "", "",24⟩,⟨"Zones",143,3,false, "", "",32⟩,⟨"Bands",139,4,false, "", "",56⟩,⟨"Rates",142,5,false, "", "",80⟩,⟨"Discounts",144,6,false, "", "",104⟩]⟩,.agg ⟨[Yr [],.int .i64 0,.bool false,.slice none 0 0,.slice none 0 0,.slice none 0 0,.slice none 0 0]⟩,7,128⟩,
 ⟨150,.struct ⟨[⟨"Category",9,0,false, "", "",0⟩,⟨"From",3,1,false, "", "",16⟩,⟨"Points",3,2,false, "", "",24⟩]⟩,.agg ⟨[Yr [],.int .i64 0,.int .i64 0]⟩,3,32⟩,
 ⟨156,.struct ⟨[⟨"Partner",3,0,false, "", "",0⟩,⟨"Kind",3,1,false, "", "",8⟩,⟨"Inbound",4,2,false, "", "",16⟩,⟨"Valid",127,3,false, "", "",24⟩,⟨"Steps",74,5,false, "", "",40⟩,⟨"Cap",3,6,false, "", "",64⟩]⟩,.agg ⟨[.int .i64 0,.int .i64 0,.bool false,.int .i64 0,.int .i64 0,.slice none 0 0,.int .i64 0]⟩,7,72⟩,
 ⟨160,.struct ⟨[⟨"Kind",3,0,false, "", "",0⟩,⟨"Zones",125,1,false, "", "",8⟩,⟨"Units",3,2,false, "", "",32⟩,⟨"Rollover",3,3,false, "", "",40⟩,⟨"Priority",3,4,false, "", "",48⟩,⟨"Shared",4,5,false, "", "",56⟩]⟩,.agg ⟨[.int .i64 0,.slice none 0 0,.int .i64 0,.int .i64 0,.int .i64 0,.bool false]⟩,6,64⟩,
 ⟨168,.func ⟨[207]⟩ ⟨[]⟩ false,.nilFunc,1,8⟩,
 ⟨170,.pointer 173,.pointer none,1,8⟩,
 ⟨173,.struct ⟨[⟨"Session",81,0,true, "", "",0⟩,⟨"state",34,27,false, "", "billing/session",280⟩]⟩,.agg ⟨[.int .i64 0,.int .i64 0,.int .i64 0,.int .i64 0,.int .i64 0,.int .i64 0,.int .i64 0,Yr [],Yr [],.int .i64 0,.int .i64 0,Yr [],Yr [],.int .i64 0,.slice none 0 0,.int .i64 0,.int .i64 0,.int .i64 0,.slice none 0 0,.int .i64 0,.int .i64 0,.bool false,.int .i64 0,.int .i64 0,.int .i64 0,.int .i64 0,.int .i64 0,.slice none 0 0,.slice none 0 0,.slice none 0 0]⟩,30,352⟩,
 ⟨185,.struct ⟨[⟨"Sub",3,0,false, "", "",0⟩,⟨"Product",9,1,false, "", "",8⟩,⟨"Index",3,2,false, "", "",24⟩,⟨"From",3,3,false, "", "",32⟩,⟨"Units",3,4,false, "", "",40⟩]⟩,.agg ⟨[.int .i64 0,Yr [],.int .i64 0,.int .i64 0,.int .i64 0]⟩,5,48⟩,
 ⟨195,.slice 243,.slice none 0 0,1,24⟩,
 ⟨196,.slice 260,.slice none 0 0,1,24⟩,
 ⟨198,.struct ⟨[⟨"Accounts",195,0,false, "", "",0⟩,⟨"Subs",196,1,false, "", "",24⟩,⟨"Ended",26,2,false, "", "",48⟩]⟩,.agg ⟨[.slice none 0 0,.slice none 0 0,.slice none 0 0]⟩,3,72⟩,
 ⟨210,.struct ⟨[⟨"Name",9,0,false, "", "",0⟩,⟨"Prefixes",125,1,false, "", "",16⟩]⟩,.agg ⟨[Yr [],.slice none 0 0]⟩,2,40⟩,
 ⟨214,.slice 216,.slice none 0 0,1,24⟩,
 ⟨216,.struct ⟨[⟨"Op",3,0,false, "", "",0⟩,⟨"Num",3,1,false, "", "",8⟩,⟨"Text",9,2,false, "", "",16⟩,⟨"Args",214,3,false, "", "",32⟩]⟩,.agg ⟨[.int .i64 0,.int .i64 0,Yr [],.slice none 0 0]⟩,4,56⟩,
 ⟨218,.struct ⟨[⟨"Name",9,0,false, "", "",0⟩,⟨"When",216,1,false, "", "",16⟩,⟨"Points",3,5,false, "", "",72⟩]⟩,.agg ⟨[Yr [],.int .i64 0,.int .i64 0,Yr [],.slice none 0 0,.int .i64 0]⟩,6,80⟩,
 ⟨221,.struct ⟨[⟨"Days",3,0,false, "", "",0⟩,⟨"From",3,1,false, "", "",8⟩,⟨"To",3,2,false, "", "",16⟩]⟩,.agg ⟨[.int .i64 0,.int .i64 0,.int .i64 0]⟩,3,24⟩,
 ⟨235,.struct ⟨[⟨"Period",127,0,false, "", "",0⟩,⟨"Plan",9,2,false, "", "",16⟩,⟨"Products",125,3,false, "", "",32⟩,⟨"Suspended",4,4,false, "", "",56⟩,⟨"Family",4,5,false, "", "",57⟩]⟩,.agg ⟨[.int .i64 0,.int .i64 0,Yr [],.slice none 0 0,.bool false,.bool false]⟩,6,64⟩,
 ⟨243,.struct ⟨[⟨"Id",3,0,false, "", "",0⟩,⟨"Since",3,1,false, "", "",8⟩,⟨"Anchor",3,2,false, "", "",16⟩,⟨"Prepaid",4,3,false, "", "",24⟩,⟨"Closed",4,4,false, "", "",25⟩,⟨"Subs",26,5,false, "", "",32⟩]⟩,.agg ⟨[.int .i64 0,.int .i64 0,.int .i64 0,.bool false,.bool false,.slice none 0 0]⟩,6,56⟩,
 ⟨255,.array 5 4,.agg ⟨[.bool false,.bool false,.bool false,.bool false,.bool false]⟩,5,5⟩,
 ⟨260,.struct ⟨[⟨"Id",3,0,false, "", "",0⟩,⟨"Account",3,1,false, "", "",8⟩,⟨"Since",3,2,false, "", "",16⟩,⟨"Plan",9,3,false, "", "",24⟩,⟨"Numbers",125,4,false, "", "",40⟩,⟨"Products",125,5,false, "", "",64⟩,⟨"Suspended",4,6,false, "", "",88⟩,⟨"Family",4,7,false, "", "",89⟩]⟩,.agg ⟨[.int .i64 0,.int .i64 0,.int .i64 0,Yr [],.slice none 0 0,.slice none 0 0,.bool false,.bool false]⟩,8,96⟩,
 ⟨271,.struct ⟨[⟨"sub",3,0,false, "", "billing/bucket",0⟩,⟨"product",9,1,false, "", "billing/bucket",8⟩,⟨"index",3,2,false, "", "billing/bucket",24⟩,⟨"from",3,3,false, "", "billing/bucket",32⟩]⟩,.agg ⟨[.int .i64 0,Yr [],.int .i64 0,.int .i64 0]⟩,4,40⟩,
 ⟨276,.struct ⟨[⟨"Meter",78,0,true, "", "",0⟩]⟩,.agg ⟨[.int .i64 0,.int .i64 0,.int .i64 0,Yr [],Yr [],.int .i64 0,.int .i64 0,Yr [],Yr [],.int .i64 0,.slice none 0 0,.int .i64 0,.int .i64 0]⟩,13,152⟩,
 ⟨279,.func ⟨[101]⟩ ⟨[4]⟩ false,.nilFunc,1,8⟩,
 ⟨290,.pointer 293,.pointer none,1,8⟩,
 ⟨291,.map 296 4,.map none,1,8⟩,
 ⟨293,.struct ⟨[⟨"list",30,0,false, "", "billing/bundle",0⟩,⟨"has",291,1,false, "", "billing/bundle",24⟩]⟩,.agg ⟨[.slice none 0 0,.map none]⟩,2,32⟩,
 ⟨296,.struct ⟨[⟨"sub",3,0,false, "", "billing/bundle",0⟩,⟨"product",9,1,false, "", "billing/bundle",8⟩,⟨"index",3,2,false, "", "billing/bundle",24⟩,⟨"from",3,3,false, "", "billing/bundle",32⟩]⟩,.agg ⟨[.int .i64 0,Yr [],.int .i64 0,.int .i64 0]⟩,4,40⟩,
 ⟨299,.slice 304,.slice none 0 0,1,24⟩,
 ⟨301,.slice 127,.slice none 0 0,1,24⟩,
 ⟨304,.struct ⟨[⟨"account",3,0,false, "", "billing/bundle",0⟩,⟨"sub",3,1,false, "", "billing/bundle",8⟩,⟨"product",9,2,false, "", "billing/bundle",16⟩,⟨"active",301,3,false, "", "billing/bundle",32⟩]⟩,.agg ⟨[.int .i64 0,.int .i64 0,Yr [],.slice none 0 0]⟩,4,56⟩,
 ⟨305,.slice 308,.slice none 0 0,1,24⟩,
 ⟨308,.struct ⟨[⟨"bucket",129,0,false, "", "billing/bundle",0⟩,⟨"rollover",3,12,false, "", "billing/bundle",120⟩]⟩,.agg ⟨[.int .i64 0,.int .i64 0,Yr [],.int .i64 0,.int .i64 0,.slice none 0 0,.int .i64 0,.int .i64 0,.int .i64 0,.int .i64 0,.int .i64 0,.bool false,.int .i64 0]⟩,13,128⟩,
 ⟨315,.slice 235,.slice none 0 0,1,24⟩,
 ⟨323,.struct ⟨[⟨"Accounts",195,0,false, "", "",0⟩,⟨"Subs",196,1,false, "", "",24⟩]⟩,.agg ⟨[.slice none 0 0,.slice none 0 0]⟩,2,48⟩,
 ⟨326,.int .u64,.int .u64 0,1,8⟩,
 ⟨350,.map 9 9,.map none,1,8⟩,
 ⟨357,.map 3 4,.map none,1,8⟩,
 ⟨358,.map 9 357,.map none,1,8⟩,
 ⟨370,.slice 373,.slice none 0 0,1,24⟩,
 ⟨373,.struct ⟨[⟨"at",3,0,false, "", "billing/subscribe",0⟩,⟨"s",260,1,false, "", "billing/subscribe",8⟩]⟩,.agg ⟨[.int .i64 0,.int .i64 0,.int .i64 0,.int .i64 0,Yr [],.slice none 0 0,.slice none 0 0,.bool false,.bool false]⟩,9,104⟩,
 ⟨376,.func ⟨[373,373]⟩ ⟨[4]⟩ false,.nilFunc,1,8⟩,
 ⟨377,.func ⟨[373,373]⟩ ⟨[373]⟩ false,.nilFunc,1,8⟩,
 ⟨379,.pointer 414,.pointer none,1,8⟩,
 ⟨395,.func ⟨[210]⟩ ⟨[4]⟩ false,.nilFunc,1,8⟩,
 ⟨397,.func ⟨[138]⟩ ⟨[4]⟩ false,.nilFunc,1,8⟩,
 ⟨399,.func ⟨[221]⟩ ⟨[4]⟩ false,.nilFunc,1,8⟩,
 ⟨403,.func ⟨[235]⟩ ⟨[4]⟩ false,.nilFunc,1,8⟩,
 ⟨406,.func ⟨[4,4]⟩ ⟨[4]⟩ false,.nilFunc,1,8⟩,
 ⟨408,.func ⟨[133]⟩ ⟨[4]⟩ false,.nilFunc,1,8⟩,
 ⟨410,.map 3 243,.map none,1,8⟩,
 ⟨411,.map 3 260,.map none,1,8⟩,
 ⟨412,.map 9 3,.map none,1,8⟩,
 ⟨414,.struct ⟨[⟨"accounts",410,0,false, "", "billing/customer",0⟩,⟨"subs",411,1,false, "", "billing/customer",8⟩,⟨"ever",357,2,false, "", "billing/customer",16⟩,⟨"owners",412,3,false, "", "billing/customer",24⟩,⟨"live",107,4,false, "", "billing/customer",32⟩,⟨"opened",26,5,false, "", "billing/customer",40⟩,⟨"added",26,6,false, "", "billing/customer",64⟩]⟩,.agg ⟨[.map none,.map none,.map none,.map none,.map none,.slice none 0 0,.slice none 0 0]⟩,7,88⟩,
 ⟨416,.map 3 26,.map none,1,8⟩,
 ⟨426,.func ⟨[127,127]⟩ ⟨[4]⟩ false,.nilFunc,1,8⟩,
 ⟨427,.func ⟨[127,127]⟩ ⟨[127]⟩ false,.nilFunc,1,8⟩,
 ⟨429,.struct ⟨[⟨"Year",3,0,false, "", "",0⟩,⟨"Month",3,1,false, "", "",8⟩,⟨"Day",3,2,false, "", "",16⟩]⟩,.agg ⟨[.int .i64 0,.int .i64 0,.int .i64 0]⟩,3,24⟩,
 ⟨431,.slice 433,.slice none 0 0,1,24⟩,
 ⟨433,.struct ⟨[⟨"at",3,0,false, "", "billing/interval",0⟩,⟨"list",3,1,false, "", "billing/interval",8⟩,⟨"by",3,2,false, "", "billing/interval",16⟩]⟩,.agg ⟨[.int .i64 0,.int .i64 0,.int .i64 0]⟩,3,24⟩,
 ⟨436,.func ⟨[433,433]⟩ ⟨[3]⟩ false,.nilFunc,1,8⟩,
 ⟨437,.array 2 3,.agg ⟨[.int .i64 0,.int .i64 0]⟩,2,16⟩,
 ⟨442,.array 12 3,.agg ⟨[.int .i64 0,.int .i64 0,.int .i64 0,.int .i64 0,.int .i64 0,.int .i64 0,.int .i64 0,.int .i64 0,.int .i64 0,.int .i64 0,.int .i64 0,.int .i64 0]⟩,12,96⟩]
def tx:TX:=⟨tab,[(1,.ref),(2,(.int .i64)),(3,(.int .i64)),(4,.bool),(5,(.int .u8)),(6,(.int .u8)),(9,.str),(22,(.sl Jr)),(23,(.sl Ym)),(24,(.sl J8)),(25,(.sl Fc)),(26,(.sl (.int .i64))),(27,(.sl Vi)),(29,Kr),(30,(.sl Q9)),(31,(.sl Ya)),(32,(.sl Uq)),(34,Yh),(35,(.sl Ui)),(37,Zx),(40,.ref),(43,Yz),(45,Ui),(48,(.int .i64)),(50,Sn),(55,(.sl Yg)),(60,(.sl Yz)),(62,Qjr),(71,(.sl (.int .u8))),(74,(.sl Vq)),(76,Xr),(78,Hp),(79,(.sl Xt)),(81,Yg),(89,.ref),(91,Qs5),(101,Ya),(103,Uq),(107,.ref),(109,Qzl),(125,(.sl .str)),(127,J9),(129,Q9),(131,(.sl Zj)),(133,J8),(135,Jr),(136,(.sl Zm)),(138,Uh),(139,(.sl Uh)),(141,Vq),(142,(.sl Xr)),(143,(.sl V7)),(144,(.sl Up)),(146,Ym),(150,Fc),(156,Vi),(160,Zj),(168,.ref),(170,.ref),(173,Qpj),(185,Xt),(195,(.sl Za)),(196,(.sl Vz)),(198,Zy),(210,V7),(214,(.sl Xs)),(216,Xs),(218,Up),(221,Zm),(235,Dt),(243,Za),(255,(.arr 5 .bool)),(260,Vz),(271,Qbf),(276,Ik),(279,.ref),(290,.ref),(291,.ref),(293,Qux),(296,Zn),(299,(.sl U0)),(301,(.sl J9)),(304,U0),(305,(.sl Fr)),(308,Fr),(315,(.sl Dt)),(323,Qs7),(326,(.int .u64)),(350,.ref),(357,.ref),(358,.ref),(370,(.sl V0)),(373,V0),(376,.ref),(377,.ref),(379,.ref),(395,.ref),(397,.ref),(399,.ref),(403,.ref),(406,.ref),(408,.ref),(410,.ref),(411,.ref),(412,.ref),(414,Qpk),(416,.ref),(426,.ref),(427,.ref),(429,Qhi),(431,(.sl Uj)),(433,Uj),(436,.ref),(437,(.arr 2 (.int .i64))),(442,(.arr 12 (.int .i64)))],[]⟩
theorem H4:Tryz.prog.follows .mixedOrders=true:=by kernel_rfl
theorem H5:Q0 Tryz.prog tab:=by repeat (first | exact trivial | refine⟨⟨⟨by kernel_rfl,by kernel_rfl⟩,by kernel_rfl⟩,?_⟩)
abbrev KO(c:Con):Prop:=Qa5 Tryz.prog tx.gl c∧Runs Tryz.prog c.f
abbrev IO(i:It):Prop:=Jex Tryz.prog tx.gl i∧Runs Tryz.prog i.f
abbrev V:={c // KO c}
def kcs(N:Nat)(L:List (Nat→V)):List Con:=L.map fun k=>(k N).1
theorem Jbg(N:Nat):∀L:List (Nat→V),Q3l Tryz.prog tx.gl (kcs N L)
 | []=>Jtt
 | c::L=>Jr9 (c N).2.1 (c N).2.2 (Jbg N L)
def Jbh(fn:Func):Bool:=decide (fn.name ≠ "runtime.NumGoroutine")&&!fn.body.isNone
theorem K4{f:FuncId}{fn:Func}(hf:Tryz.prog.funcs[f]?=some fn)(h:Jbh fn=true):Runs Tryz.prog f:=by
 simp only[Jbh,QQ,decide_eq_true_eq,JU]at h
 exact⟨fn,hf,h.1,h.2⟩
theorem kF(N:Nat){c:Con}(L:List (Nat→V))(ps:List (Nat×Pc)){fn:Func}(hf:Tryz.prog.funcs[c.f]?=some fn)(hg:Jbh fn=true:=by rfl)(h:∀x,c.fn x=Jib tx (kcs N L) N fn (Jsc ((kcs N L).map Con.f) ps fn.body) c.ro c.Γ c.Δ x:=by intro x; kernel_rfl):KO c :=
 ⟨Jni (Y:=tx) (N:=N) H5 H4 (Jbg N L) hf rfl h,K4 hf hg⟩
def ics(L:List {i // IO i}):List It:=L.map (·.1)
theorem Jo7:∀L:List {i // IO i},∀i∈ics L,Jex Tryz.prog tx.gl i∧Runs Tryz.prog i.f
 | [],_,h=>by cases h
 | c::L,i,h=>by
  rcases QJ.1 h with rfl | h
  ·exact c.2
  ·exact Jo7 L i h
theorem kR(N:Nat){c:Con}(L:List (Nat→V))(I:List {i // IO i})(an:AnR){fn:Func}(hf:Tryz.prog.funcs[c.f]?=some fn)(hg:Jbh fn=true)(h:∀x,c.fn x=Ji3 tx (kcs N L) N (ics I) fn an c.ro c.Γ c.Δ x):KO c :=
 ⟨Ji4 (Y:=tx) (N:=N) (an:=an) H5 H4 (Jbg N L) (Jo7 I) hf rfl h,K4 hf hg⟩
def P0:Con:=⟨59,(Qbd Jr),[(Bv 135 Jr)],Ju 72,[]⟩
theorem Rp:KO P0:=⟨Vx H5 H4 func59 rfl rfl rfl rfl rfl rfl rfl rfl (by kernel_rfl) (y0:=([]:List Ql)) (by kernel_rfl) (an0:=.reg (.n 1 .done)) (anA:=.two (.reg (.n 1 .done)) .nil) (anC:=.two (.reg (.n 4 .done)) .nil) ⟨by kernel_rfl,by kernel_rfl⟩ (fun xs=>by kernel_rfl) (fun xs=>by kernel_rfl) (fun xs=>by kernel_rfl),K4 func59 rfl⟩
def T6:Con:=⟨60,(Qbd Fc),[(Bv 150 Fc)],Ju 32,[]⟩
theorem Qbv:KO T6:=⟨Vx H5 H4 func60 rfl rfl rfl rfl rfl rfl rfl rfl (by kernel_rfl) (y0:=([]:List Ho)) (by kernel_rfl) (an0:=.reg (.n 1 .done)) (anA:=.two (.reg (.n 1 .done)) .nil) (anC:=.two (.reg (.n 4 .done)) .nil) ⟨by kernel_rfl,by kernel_rfl⟩ (fun xs=>by kernel_rfl) (fun xs=>by kernel_rfl) (fun xs=>by kernel_rfl),K4 func60 rfl⟩
def Qfy:Con:=⟨61,(Qbd (.int .i64)),[(Bv 3 (.int .i64))],Ju 8,[]⟩
theorem Qhq:KO Qfy:=⟨Vx H5 H4 func61 rfl rfl rfl rfl rfl rfl rfl rfl (by kernel_rfl) (y0:=([]:List Int)) (by kernel_rfl) (an0:=.reg (.n 1 .done)) (anA:=.two (.reg (.n 1 .done)) .nil) (anC:=.two (.reg (.n 4 .done)) .nil) ⟨by kernel_rfl,by kernel_rfl⟩ (fun xs=>by kernel_rfl) (fun xs=>by kernel_rfl) (fun xs=>by kernel_rfl),K4 func61 rfl⟩
def Ny:Con:=⟨62,(Qbd Ym),[(Bv 146 Ym)],Ju 128,[]⟩
theorem P1:KO Ny:=⟨Vx H5 H4 func62 rfl rfl rfl rfl rfl rfl rfl rfl (by kernel_rfl) (y0:=([]:List Qx)) (by kernel_rfl) (an0:=.reg (.n 1 .done)) (anA:=.two (.reg (.n 1 .done)) .nil) (anC:=.two (.reg (.n 4 .done)) .nil) ⟨by kernel_rfl,by kernel_rfl⟩ (fun xs=>by kernel_rfl) (fun xs=>by kernel_rfl) (fun xs=>by kernel_rfl),K4 func62 rfl⟩
def Mk:Con:=⟨63,(Qbd J8),[(Bv 133 J8)],Ju 80,[]⟩
theorem Nz:KO Mk:=⟨Vx H5 H4 func63 rfl rfl rfl rfl rfl rfl rfl rfl (by kernel_rfl) (y0:=([]:List Qn)) (by kernel_rfl) (an0:=.reg (.n 1 .done)) (anA:=.two (.reg (.n 1 .done)) .nil) (anC:=.two (.reg (.n 4 .done)) .nil) ⟨by kernel_rfl,by kernel_rfl⟩ (fun xs=>by kernel_rfl) (fun xs=>by kernel_rfl) (fun xs=>by kernel_rfl),K4 func63 rfl⟩
def Ia:Con:=⟨64,(Qbd Vi),[(Bv 156 Vi)],Ju 72,[]⟩
theorem Lr:KO Ia:=⟨Vx H5 H4 func64 rfl rfl rfl rfl rfl rfl rfl rfl (by kernel_rfl) (y0:=([]:List Q2)) (by kernel_rfl) (an0:=.reg (.n 1 .done)) (anA:=.two (.reg (.n 1 .done)) .nil) (anC:=.two (.reg (.n 4 .done)) .nil) ⟨by kernel_rfl,by kernel_rfl⟩ (fun xs=>by kernel_rfl) (fun xs=>by kernel_rfl) (fun xs=>by kernel_rfl),K4 func64 rfl⟩
def Rq:Con:=⟨105,(Qbd V7),[(Bv 210 V7)],Ju 40,[]⟩
theorem T7:KO Rq:=⟨Vx H5 H4 func105 rfl rfl rfl rfl rfl rfl rfl rfl (by kernel_rfl) (y0:=([]:List Q4)) (by kernel_rfl) (an0:=.reg (.n 1 .done)) (anA:=.two (.reg (.n 1 .done)) .nil) (anC:=.two (.reg (.n 4 .done)) .nil) ⟨by kernel_rfl,by kernel_rfl⟩ (fun xs=>by kernel_rfl) (fun xs=>by kernel_rfl) (fun xs=>by kernel_rfl),K4 func105 rfl⟩
def Rr:Con:=⟨106,(Qbd Uh),[(Bv 138 Uh)],Ju 40,[]⟩
theorem T8:KO Rr:=⟨Vx H5 H4 func106 rfl rfl rfl rfl rfl rfl rfl rfl (by kernel_rfl) (y0:=([]:List Jf)) (by kernel_rfl) (an0:=.reg (.n 1 .done)) (anA:=.two (.reg (.n 1 .done)) .nil) (anC:=.two (.reg (.n 4 .done)) .nil) ⟨by kernel_rfl,by kernel_rfl⟩ (fun xs=>by kernel_rfl) (fun xs=>by kernel_rfl) (fun xs=>by kernel_rfl),K4 func106 rfl⟩
def Rs:Con:=⟨107,(Qbd Xr),[(Bv 76 Xr)],Ju 72,[]⟩
theorem T9:KO Rs:=⟨Vx H5 H4 func107 rfl rfl rfl rfl rfl rfl rfl rfl (by kernel_rfl) (y0:=([]:List Y7)) (by kernel_rfl) (an0:=.reg (.n 1 .done)) (anA:=.two (.reg (.n 1 .done)) .nil) (anC:=.two (.reg (.n 4 .done)) .nil) ⟨by kernel_rfl,by kernel_rfl⟩ (fun xs=>by kernel_rfl) (fun xs=>by kernel_rfl) (fun xs=>by kernel_rfl),K4 func107 rfl⟩
def Ls:Con:=⟨108,(Qbd Up),[(Bv 218 Up)],Ju 80,[]⟩
theorem Mm:KO Ls:=⟨Vx H5 H4 func108 rfl rfl rfl rfl rfl rfl rfl rfl (by kernel_rfl) (y0:=([]:List Jh)) (by kernel_rfl) (an0:=.reg (.n 1 .done)) (anA:=.two (.reg (.n 1 .done)) .nil) (anC:=.two (.reg (.n 4 .done)) .nil) ⟨by kernel_rfl,by kernel_rfl⟩ (fun xs=>by kernel_rfl) (fun xs=>by kernel_rfl) (fun xs=>by kernel_rfl),K4 func108 rfl⟩
def Qbw:Con:=⟨67,(Qbd .str),[(Bv 9 .str)],Ju 16,[]⟩
theorem Zg:KO Qbw:=⟨Vx H5 H4 func67 rfl rfl rfl rfl rfl rfl rfl rfl (by kernel_rfl) (y0:=([]:List Str)) (by kernel_rfl) (an0:=.reg (.n 1 .done)) (anA:=.two (.reg (.n 1 .done)) .nil) (anC:=.two (.reg (.n 4 .done)) .nil) ⟨by kernel_rfl,by kernel_rfl⟩ (fun xs=>by kernel_rfl) (fun xs=>by kernel_rfl) (fun xs=>by kernel_rfl),K4 func67 rfl⟩
def Rt:Con:=⟨109,(Qbd Zm),[(Bv 221 Zm)],Ju 24,[]⟩
theorem Qaa:KO Rt:=⟨Vx H5 H4 func109 rfl rfl rfl rfl rfl rfl rfl rfl (by kernel_rfl) (y0:=([]:List Xi)) (by kernel_rfl) (an0:=.reg (.n 1 .done)) (anA:=.two (.reg (.n 1 .done)) .nil) (anC:=.two (.reg (.n 4 .done)) .nil) ⟨by kernel_rfl,by kernel_rfl⟩ (fun xs=>by kernel_rfl) (fun xs=>by kernel_rfl) (fun xs=>by kernel_rfl),K4 func109 rfl⟩
def Ru:Con:=⟨68,(Qbd Vq),[(Bv 141 Vq)],Ju 24,[]⟩
theorem Vk:KO Ru:=⟨Vx H5 H4 func68 rfl rfl rfl rfl rfl rfl rfl rfl (by kernel_rfl) (y0:=([]:List Qo)) (by kernel_rfl) (an0:=.reg (.n 1 .done)) (anA:=.two (.reg (.n 1 .done)) .nil) (anC:=.two (.reg (.n 4 .done)) .nil) ⟨by kernel_rfl,by kernel_rfl⟩ (fun xs=>by kernel_rfl) (fun xs=>by kernel_rfl) (fun xs=>by kernel_rfl),K4 func68 rfl⟩
def Rv:Con:=⟨148,(Qbd Xs),[(Bv 216 Xs)],Ju 56,[]⟩
theorem Qab:KO Rv:=⟨Vx H5 H4 func148 rfl rfl rfl rfl rfl rfl rfl rfl (by kernel_rfl) (y0:=([]:List Ja)) (by kernel_rfl) (an0:=.reg (.n 1 .done)) (anA:=.two (.reg (.n 1 .done)) .nil) (anC:=.two (.reg (.n 4 .done)) .nil) ⟨by kernel_rfl,by kernel_rfl⟩ (fun xs=>by kernel_rfl) (fun xs=>by kernel_rfl) (fun xs=>by kernel_rfl),K4 func148 rfl⟩
def N0:Con:=⟨66,(Qbd Zj),[(Bv 160 Zj)],Ju 64,[]⟩
theorem P2:KO N0:=⟨Vx H5 H4 func66 rfl rfl rfl rfl rfl rfl rfl rfl (by kernel_rfl) (y0:=([]:List Yn)) (by kernel_rfl) (an0:=.reg (.n 1 .done)) (anA:=.two (.reg (.n 1 .done)) .nil) (anC:=.two (.reg (.n 4 .done)) .nil) ⟨by kernel_rfl,by kernel_rfl⟩ (fun xs=>by kernel_rfl) (fun xs=>by kernel_rfl) (fun xs=>by kernel_rfl),K4 func66 rfl⟩
def N1:Con:=⟨69,(Qbd Q9),[(Bv 129 Q9)],Ju 120,[]⟩
theorem H6:KO N1:=⟨Vx H5 H4 func69 rfl rfl rfl rfl rfl rfl rfl rfl (by kernel_rfl) (y0:=([]:List Qa)) (by kernel_rfl) (an0:=.reg (.n 1 .done)) (anA:=.two (.reg (.n 1 .done)) .nil) (anC:=.two (.reg (.n 4 .done)) .nil) ⟨by kernel_rfl,by kernel_rfl⟩ (fun xs=>by kernel_rfl) (fun xs=>by kernel_rfl) (fun xs=>by kernel_rfl),K4 func69 rfl⟩
def N2:Con:=⟨70,(Qbd Ya),[(Bv 101 Ya)],Ju 40,[]⟩
theorem H7:KO N2:=⟨Vx H5 H4 func70 rfl rfl rfl rfl rfl rfl rfl rfl (by kernel_rfl) (y0:=([]:List Qc)) (by kernel_rfl) (an0:=.reg (.n 1 .done)) (anA:=.two (.reg (.n 1 .done)) .nil) (anC:=.two (.reg (.n 4 .done)) .nil) ⟨by kernel_rfl,by kernel_rfl⟩ (fun xs=>by kernel_rfl) (fun xs=>by kernel_rfl) (fun xs=>by kernel_rfl),K4 func70 rfl⟩
def Mp:Con:=⟨71,(Qbd Uq),[(Bv 103 Uq)],Ju 40,[]⟩
theorem Hc:KO Mp:=⟨Vx H5 H4 func71 rfl rfl rfl rfl rfl rfl rfl rfl (by kernel_rfl) (y0:=([]:List Qd)) (by kernel_rfl) (an0:=.reg (.n 1 .done)) (anA:=.two (.reg (.n 1 .done)) .nil) (anC:=.two (.reg (.n 4 .done)) .nil) ⟨by kernel_rfl,by kernel_rfl⟩ (fun xs=>by kernel_rfl) (fun xs=>by kernel_rfl) (fun xs=>by kernel_rfl),K4 func71 rfl⟩
def Rw:Con:=⟨86,(Qbd Xt),[(Bv 185 Xt)],Ju 48,[]⟩
theorem Fi:KO Rw:=⟨Vx H5 H4 func86 rfl rfl rfl rfl rfl rfl rfl rfl (by kernel_rfl) (y0:=([]:List Qi)) (by kernel_rfl) (an0:=.reg (.n 1 .done)) (anA:=.two (.reg (.n 1 .done)) .nil) (anC:=.two (.reg (.n 4 .done)) .nil) ⟨by kernel_rfl,by kernel_rfl⟩ (fun xs=>by kernel_rfl) (fun xs=>by kernel_rfl) (fun xs=>by kernel_rfl),K4 func86 rfl⟩
def Hd:Con:=⟨68,(Jsd 141 Vq),[(Jtx 141 Vq)],fun(xs:List Qo)=>Qzi 24 xs,[]⟩
theorem P3:KO Hd:=⟨Je6 H5 H4 (c:=Hd) func68 (fA:=fun(xs:List Qo)=>some (xs,([]:List Qo))) rfl rfl rfl rfl rfl rfl rfl rfl (by kernel_rfl) (by kernel_rfl) (an0:=.reg (.n 1 .done)) (anA:=.two (.reg (.n 1 .done)) .nil) (anC:=.two (.reg (.n 4 .done)) .nil) (fun _=>⟨by kernel_rfl,by kernel_rfl⟩) (g:=Qiq tx.gl) (fun _=>by kernel_rfl) (e:=141) (u:=Vq) (fx:=fun(xs:List Qo)=>xs) (fun _=>by kernel_rfl) (fun xs h=>by rw[show xs=([]:List Qo)from h]; kernel_rfl) (fun _=>by kernel_rfl) (fun _=>by kernel_rfl) (fun _=>by kernel_rfl),K4 func68 rfl⟩
def Um:Con:=⟨314,⟨[(0,.s 5000),(1,.f 315 (.nil))],[(5000,.row 433 Uj)]⟩,[⟨[],[(5000,.row 433 Uj)]⟩],Qiw (fun x:Q8=>x.1),[]⟩
theorem H8:KO Um:=⟨Jfa (c:=Um) (e:=433) (u:=Uj) rfl (fun x=>x) (fun y=>y) (ev:=[⟨1,[],.f 315 .nil⟩]) (vx:=[.func (.func 315) #[] #[]]) rfl (fun _=>by kernel_rfl) (fun _=>by kernel_rfl) rfl Jnm (fun _ _=>Jfd) (fun p w=>AnyF.slices_SortFunc_none { Tryz.sortFunc314 with } p 0 _ w) (fun _ _ h blk cap w hH hb _=>Q38 (u:=Uj) rfl (fun x:Q8=>x.1) Tryz.sortFunc314 isAgg433 sizeOf433 (enters_of func315 (by kernel_rfl) rfl) Tryz.clo315 h blk cap w hH hb),K4 func314 rfl⟩
def Rx:Con:=⟨72,(inK 113 89 Yg),[Jnl],fun(xs:List (Int×Qb))=>Qiu xs,[5000,5001]⟩
theorem Fj:KO Rx:=⟨Q36 (fun _=>by kernel_rfl) Tryz.underlying3 (Tryz.sortedKeys113 Qcz),K4 func72 rfl⟩
def zs1:Shp:=sD [.bool]
def zs2:Sk:=.d .i
def zs3:Shp:=⟨[(9,zs2)],[]⟩
def zs4:Sk:=.d .bool
def zs5:Hn:=.n 1 .done
def zs6:Hn:=.nl 7 zs5
def zs7:Shp:=sD [.i]
def zs8:Shp:=⟨[(13,zs4)],[]⟩
def zs9:Shp:=⟨[(17,zs4)],[]⟩
def Jse:Shp:=⟨[(22,zs4)],[]⟩
def Qs9:Shp:=sD [.str]
def Qen:Hn:=.nl 3 zs5
def P4:Shp:=⟨[(3,zs2)],[]⟩
def Qjy:Exs:=[(.x 0,⟨[],[]⟩),(.r,⟨[(2,zs4)],[]⟩)]
def Jsf:Shp:=⟨[(37,zs4)],[]⟩
def H9:Hn:=.nl 4 zs5
def Jnn:Shp:=⟨[(49,zs4)],[]⟩
def Jsg:Hn:=.nl 5 .done
def Jsh:Shp:=⟨[(55,zs4)],[]⟩
def Jjc:Shp:=⟨[(19,zs4)],[]⟩
def Q80:Hn:=.nl 8 zs5
def Qpl:Hn:=.nl 1 zs5
def Jno:Hn:=.nl 4 (.n 3 Qpl)
def Jjd:Hn:=.call 1 Qpl
def Jje:Hn:=.nl 2 Jjd
def Jsi:Hn:=.nl 2 (.call 2 Qpl)
def Jnp:Hn:=.n 15 .done
def Jt0:Hn:=.nl 2 (.call 3 Qpl)
def Jnq:Shp:=sD [Zy,.i]
def Ib:Shp:=⟨[(5,zs2)],[]⟩
def Q39:Shp:=⟨[(4,zs2)],[]⟩
def Qni:Exs:=[(.x 0,⟨[],[]⟩),(.r,Q39)]
def Qhr:Exs:=[(.x 0,⟨[],[]⟩),(.r,⟨[(4,zs4)],[]⟩)]
def Jjf:Hn:=.call 0 Qpl
def Jfe:Hn:=.nl 2 zs5
def Jt1:HT:=.a (.a (.a (.a (.a (.a (.a (.tl Jfe)))))))
def Jsj:Shp:=sD [Zy,Jr]
def Jnr:Hn:=.nl 3 Jjd
def Qzm:Hn:=.nl 5 zs5
def Jns:Shp:=⟨[(41,zs4)],[]⟩
def Jsk:Hn:=.call 2 zs5
def Q4a:Shp:=sD [.sl .str,.str]
def Jt2:Exs:=[(.n,⟨[],[]⟩),(.r,Q39)]
def Jsl:Shp:=⟨[(62,zs4)],[]⟩
def Ry:Sk:=.s 1
def Qfz:List (Nat×Sk):=[(0,Ry)]
def Q4b:SkO:=.row 9 .str
def Q81:Shp:=⟨Qfz,[(1,Q4b)]⟩
def Q82:Shp:=⟨[(18,zs4)],[]⟩
def Qnj:Hn:=.nl 6 zs5
def Qhs:Sk:=.s 100000
def Qta:Sk:=.s 100200
def Jsm:Exs:=[(.x 0,⟨[(5,Qta)],[(100200,Q4b)]⟩)]
def Qpm:Sk:=.s 100100
def Jsn:Exs:=[(.n,⟨[(5,Qpm)],[(100100,Q4b)]⟩)]
def Jt3:Shp:=sD [Vz,Jr]
def Qht:Sk:=.p 100000 []
def V9:Sk:=.d .str
def Jso:SkO:=.var 260 (.ag (sL [zs2,zs2,zs2,V9,.d (.sl .str),.d (.sl .str),zs4,zs4]))
def Qhu:Sk:=.s 2
def Q4c:Sk:=.s 3
def Jt4:List (Nat×Sk):=[(0,.ag (sL [Ry,Qhu,Q4c]))]
def Q83:SkO:=.row 243 Za
def Quy:SkO:=.row 260 Vz
def Fk:SkO:=.row 3 .i
def Em:HT:=.tl zs5
def Qhv:Sk:=.p 100100 []
def Jnt:Sk:=.p 100101 []
def Jff:Sk:=.s 100102
def Jsp:Sk:=.s 100103
def Qtb:Sk:=.p 100200 []
def Q84:Sk:=.s 100201
def Jfg:Sk:=.s 100202
def Jsq:Sk:=.s 100203
def Quz:Hn:=.n 3 .done
def Qlm:HT:=.tl Quz
def Jt5:Exs:=[(.n,⟨[(90,zs4)],[]⟩)]
def Qu0:Hn:=.n 2 .done
def Q4d:HT:=.tl Qu0
def Qhw:Shp:=sD [.i,.i]
def Qtc:Sk:=.s 100001
def Jfh:Sk:=.s 100002
def Jsr:Sk:=.s 100003
def Qzn:Hn:=.n 6 .done
def Q85:Hn:=.call 0 zs5
def Jnu:Hn:=.n 5 .done
def Jnv:Hn:=.call 1 zs5
def Qpn:Exs:=[(.x 0,⟨[],[]⟩),(.r,⟨[(2,zs2)],[]⟩)]
def Jss:Exs:=[(.x 2,⟨[],[]⟩),(.r,⟨[(2,zs2)],[]⟩)]
def Jt6:Shp:=sD [J8]
def Jst:Shp:=⟨[(63,zs4)],[]⟩
def Jnw:Hn:=.nl 13 .done
def Jsu:Shp:=sD [.int .u8]
def Q86:Hn:=.nl 2 Jjf
def Q87:Shp:=⟨[(7,zs2)],[]⟩
def Jt7:Exs:=[(.x 0,⟨[],[]⟩),(.r,⟨[(6,zs4)],[]⟩)]
def Qpo:Shp:=⟨[(8,zs2)],[]⟩
def Jjg:Shp:=⟨[(6,zs2)],[]⟩
def Qtd:Hn:=.n 8 .done
def Jo8:Shp:=sD [.sl V7]
def Jo9:Shp:=sD [.sl Uh]
def Jpa:Shp:=sD [Ym,.str]
def Jjh:Shp:=sD [.sl Vq]
def Q4e:Shp:=sD [Ym]
def Qww:Shp:=sD [Xs]
def Jbi:HT:=.a Em
def Qln:Hn:=.n 7 .done
def Jpb:Exs:=[(.n,⟨[(42,zs4)],[]⟩)]
def Jpc:Shp:=⟨[(7,Qhs),(8,zs2)],[(100000,Fk)]⟩
def Jpd:Shp:=⟨[(4,zs2),(5,zs2)],[]⟩
def Jji:Shp:=sD [Kr]
def Jbj:Shp:=sD [.sl Q9]
def Q4f:Shp:=sD [Yh]
def Q4g:Shp:=sD [Q9,Q9]
def Jjj:Shp:=⟨[(30,zs4)],[]⟩
def Jpe:HT:=.a (.a (.a (.a (.tl Qpl))))
def Jpf:HT:=.a Jpe
def Q4h:HT:=.a (.a Jpf)
def Jpg:Shp:=sD [.sl Ya]
def Jbk:Shp:=sD [J9]
def Q4i:Shp:=sD [Q9]
def Jjk:Shp:=sD [Ya]
def Jph:Shp:=sD [Zx]
def Jbl:SkO:=.row 216 Xs
def Jjl:HT:=.k 1 [] [] [] [] Q4d
def Qf0:SkO:=.row 210 V7
def Qlo:SkO:=.row 138 Uh
def Qte:SkO:=.row 76 Xr
def Q4j:SkO:=.row 218 Up
def Jpi:List (Nat×SkO):=[(1,Qf0),(2,Qlo),(3,Qte),(4,Q4j)]
def Jpj:Shp:=⟨[(0,.ag (sL [V9,zs2,zs4,Ry,Qhu,Q4c,.s 4]))],Jpi⟩
def Jjm:SkO:=.row 135 Jr
def Q4k:SkO:=.row 146 Ym
def Qlp:SkO:=.row 133 J8
def Jjn:SkO:=.row 150 Fc
def Q4l:SkO:=.row 156 Vi
def Jpk:HT:=.b 1 (.tl Jnu)
def Qwx:Sk:=.s 100300
def Qwy:SkO:=.row 160 Zj
def Q4m:Sk:=.s 100400
def Un:SkO:=.row 129 Q9
def Yq:SkO:=.row 101 Ya
def Cg:SkO:=.row 103 Uq
def Qwz:Shp:=⟨Jt4,[(1,Un),(2,Yq),(3,Cg)]⟩
def Jjo:List (Nat×Sk):=[(0,.p 1 [])]
def Vd:SkO:=.map .i Yg
def Zk:Sk:=.p 5000 []
def Bg:List (Nat×Sk):=[(0,Zk)]
def Qox:Sk:=.s 5001
def Qtf:Sk:=.s 5002
def Qw0:Sk:=.s 5003
def Jbm:Sk:=.s 5004
def Jbn:Sk:=.m 5010
def Jjp:List (Nat×SkO):=[(5000,.var 91 (.ag (sL [.ag (sL [Qox,Qtf,Qw0,Jbm,.s 5005,.s 5006]),.ag (sL [.s 5007,.s 5008,.s 5009]),Jbn]))),(5001,Jjm),(5002,Q4k),(5003,Qlp),(5004,Jjn),(5005,Fk),(5006,Q4l),(5007,Un),(5008,Yq),(5009,Cg),(5010,Vd)]
def Jpl:Shp:=sD [Yg]
def Jpm:Sk:=.ag (sL [zs2,V9,V9,zs2,Ry])
def Jjq:Sk:=.ag (sL [zs2,zs2,zs2,V9,V9,zs2,Jpm,zs2,zs2])
def Z9:Sk:=.d Sn
def Qtg:SkO:=.row 141 Vq
def Zl:SkO:=.row 185 Xt
def Jpn:Shp:=⟨[(0,.ag (sL [zs2,zs2,zs2,zs2,Jjq,zs2,Qhu,zs2,zs2,zs4,Z9]))],[(1,Qtg),(2,Zl)]⟩
def Jjr:List (Nat×Sk):=[(5,Qhs),(10,zs2)]
def Qoy:Sk:=.p 100300 []
def Jjs:Sk:=.p 100301 []
def Jbo:SkO:=.var 260 (.ag (sL [zs2,zs2,zs2,V9,.ns,.ns,zs4,zs4]))
def Qw1:Shp:=sD [.sl Jr,.i]
def Qoz:SkO:=.row 373 V0
def Qw2:Sk:=.p 100001 []
def Jjt:Sk:=.d Vz
def Jju:SkO:=.var 260 Jjt
def Jjv:Sk:=.p 100201 []
def Jbp:Hn:=.nl 9 zs5
def Jpo:Shp:=sD [V0,V0]
def Jpp:List (Nat×Sk):=[(7,Qhs),(13,zs2)]
def Jbq:SkO:=.row 235 Dt
def Jpq:List (Nat×Sk):=[(6,Qhs),(16,zs2)]
def Qo0:Sk:=.d J9
def Jbr:Shp:=sD [.sl Jr,.i,.i]
def Jpr:SkO:=.var 235 (.ag (sL [Qo0,V9,.ns,zs4,zs4]))
def Jjw:List (Nat×Sk):=[(6,Qtb),(7,zs4)]
def Q4n:SkO:=.map .i Za
def Qo1:SkO:=.map .i .bool
def Qlq:SkO:=.map .i .i
def Jjx:Sk:=.d (.sl Jr)
def P5:SkO:=.var 3 zs2
def Jbs:Shp:=sD [.sl .i,.i]
def Nm:Sk:=.m 5001
def S8:Sk:=.m 5002
def Jbt:Sk:=.m 5003
def Jbu:Sk:=.m 5004
def Jbv:Sk:=.m 5005
def Jjy:List (Nat×SkO):=[(5000,.var 414 (.ag (sL [Nm,S8,Jbt,Jbu,Jbv,.s 5006,.s 5007]))),(5001,Q4n),(5002,.map .i Vz),(5003,Qo1),(5004,.map .str .i),(5005,Qlq),(5006,Fk),(5007,Fk)]
def Jjz:List (Nat×SkO):=[(5004,.map .str .i)]
def Lt:Hn:=.dt 5000 .done
def Jps:Shp:=⟨[(0,.ag (sL [Ry,Qhu]))],[(1,Q83),(2,Quy)]⟩
def Jj0:Sk:=.m 100001
def Jj1:SkO:=.mapC .i (.sl 3 .i)
def Qw3:Sk:=.s 100301
def Q4o:Sk:=.s 100302
def Q4p:Sk:=.p 100400 []
def Q4q:Sk:=.s 100401
def Jbw:Sk:=.s 100402
def Jpt:List (Nat×Sk):=[(6,Qht),(15,zs2)]
def Jpu:Shp:=sD [.sl Zm]
def Jbx:List (Nat×SkO):=[(1,Qtg)]
def Q4r:List (Nat×Sk):=[(3,Qpm)]
def Qo2:Sk:=.s 100101
def Jj2:Sk:=.s 100501
def Jj3:Sk:=.s 100502
def Jby:Hn:=.n 4 .done
def Jj4:Exs:=[(.x 0,Qpo)]
def Jpv:List (Nat×SkO):=[(5000,.var 210 (.d V7))]
def Jj5:Sk:=sL [Zk]
def Jpw:Shp:=⟨[(0,.d (.sl V7)),(1,.f 276 Jj5)],Jpv⟩
def Qw4:SkO:=.map .str .str
def Jj6:Sk:=.m 100000
def Jj7:Sk:=.m 100100
def Jpx:An:=.two (.reg Qu0) .nil
def Jpy:List (Nat×SkO):=[(5000,.var 138 (.d Uh))]
def Jpz:Shp:=⟨[(0,.d (.sl Uh)),(1,.f 279 Jj5)],Jpy⟩
def Jj8:Shp:=⟨[(13,zs2)],[]⟩
def Qf1:Sk:=.p 5001 []
def Jp0:List (Nat×SkO):=[(5000,P5),(5001,P5)]
def Jp1:Shp:=⟨[(0,.d (.sl Zm)),(1,.f 281 (sL [Zk,Qf1]))],Jp0⟩
def Q4s:SkO:=.var 9 V9
def Jp2:SkO:=.var 76 (.ag (sL [zs2,V9,V9,zs2,.ns]))
def Jp3:Shp:=sD [Yh,Yg]
def Jj9:Shp:=⟨[(0,.ag (sL [zs2,zs2,V9,zs2,zs2,Ry,Qo0,zs2,zs2,zs2,zs4]))],[(1,Q4b)]⟩
def Jka:Shp:=sD [J9,J9]
def Jbz:Sk:=.d (.sl J9)
def Lu:SkO:=.row 127 J9
def Qth:Shp:=⟨Qfz,[(1,Lu)]⟩
def Jkb:List (Nat×SkO):=[(100000,Lu)]
def Jp4:Exs:=[(.x 0,⟨[(7,Qta)],[(100200,Lu)]⟩)]
def Jp5:Exs:=[(.n,⟨[(7,Qpm)],[(100100,Lu)]⟩)]
def Jb0:SkO:=.row 304 U0
def Qw5:SkO:=.mapC .str (.mp .i .bool)
def Jkc:Shp:=⟨[(11,zs2)],[]⟩
def Jb1:SkO:=.var 429 (.d Qhi)
def Jp6:HT:=.b 1 (.c 1 Qlm)
def Qo3:SkO:=.row 433 Uj
def Jp7:Shp:=⟨[(0,Jbz),(1,zs2),(2,Zk)],[(5000,.var 431 Qox),(5001,Qo3)]⟩
def Jp8:Shp:=⟨[],[(5000,.var 431 Ry),(1,Qo3)]⟩
def Jp9:SkO:=.var 437 (.d (.arr 2 .i))
def Jqa:List (Nat×SkO):=[(5000,Q4s),(5001,P5)]
def Jqb:Sk:=.d (.sl J8)
def Jb2:SkO:=.row 308 Fr
def Qec:SkO:=.map Zn .bool
def Jqc:HT:=.k 0 [] [] [] [] Em
def Jqd:HT:=.a Q4h
def Qlr:Shp:=sD [Ya,.i]
def Q4t:SkO:=.var 101 (.d Ya)
def Jqe:Hn:=.n 2 (.call 4 .done)
def Jqf:HT:=.a (.a (.a (.tl Qen)))
def Jqg:HT:=.a (.a (.a (.a (.a (.a (.a (.a (.a (.a (.a Jqf))))))))))
def Jkd:Hn:=.nl 3 Jjf
def Jqh:SkO:=.var 243 (.ag (sL [zs2,zs2,zs2,zs4,zs4,.ns]))
def Jqi:Shp:=sD [.sl Vq,.i]
def Jqj:Exs:=[(.n,⟨[(10,zs2)],[]⟩)]
def Jqk:Shp:=sD [Ik,.i]
def Ka:Sk:=.d Kr
def Wh:Sk:=.d (.sl Q9)
def Jb3:Sk:=.s 5000
def Lv:Sk:=.d (.sl Uq)
def Jb4:Sk:=.ag (sL [Wh,Jb3,Lv])
def Qed:Sk:=.d Hp
def Jke:List (Nat×Sk):=[(0,.d Ya),(1,Zk)]
def Jql:Sk:=.ag (sL [zs2,zs2,zs2,zs2,Qed,zs2,Qtf,zs2,zs2,zs4,Z9])
def Jkf:List (Nat×Sk):=[(0,Jb3),(1,.f 158 (sL [Qf1]))]
def Jqm:Sk:=.ag (sL [zs2,zs2,zs2,zs2,Qed,zs2,Qw0,zs2,zs2,zs4,Z9])
def Jqn:Sk:=.ag (sL [Wh,Qtf,Lv])
def Qw6:List (Nat×SkO):=[(5000,.var 173 (.ag (sL [.ag (sL [zs2,zs2,zs2,zs2,Qed,zs2,Qox,zs2,zs2,zs4,Z9]),Jqn]))),(5001,Zl),(5002,Yq)]
def Qo4:List (Nat×Sk):=[(0,zs2)]
def Qi1:List (Nat×Sk):=[(0,Zk),(1,zs2)]
def Jkg:Sk:=.ag (sL [zs2,zs2,zs2,zs2,Qed,zs2,Ry,zs2,zs2,zs4,Z9])
def Jkh:Sk:=.ag (sL [Wh,Qhu,Lv])
def Jqo:List (Nat×SkO):=[(5000,.var 173 (.ag (sL [Jkg,Jkh]))),(1,Zl),(2,Yq)]
def Q4u:HT:=.tl Jby
def Jqp:List (Nat×Sk):=[(0,Zk),(1,Ka),(2,zs2),(3,zs2)]
def Jqq:List (Nat×SkO):=[(5000,.var 173 (.ag (sL [.ag (sL [zs2,zs2,zs2,zs2,.ag (sL [zs2,zs2,zs2,V9,V9,zs2,.ag (sL [zs2,V9,V9,zs2,Qox]),zs2,zs2]),zs2,Qtf,zs2,zs2,zs4,Z9]),.ag (sL [Qw0,Jbm,.s 5005])]))),(5001,Qtg),(5002,Zl),(5003,Un),(5004,Yq),(5005,Cg)]
def Jb5:Sk:=.ag (sL [zs2,zs2,zs2,V9,V9,zs2,.ag (sL [zs2,V9,V9,zs2,.d (.sl Vq)]),zs2,zs2])
def Jqr:HT:=.d 5000 5000 (.b 5000 (.b 5000 (.g [5000] [23702] [] [5000,14802,23701,23702] (.tl .done))))
def Jki:List (Nat×Sk):=[(0,Zk),(1,.d Yz),(2,zs2),(3,zs2),(4,zs2)]
def Qls:Sk:=.ag (sL [Wh,Ry,Lv])
def Jqs:Sk:=.ag (sL [zs2,zs2,zs2,zs2,Qed,zs2,Qhu,zs2,zs2,zs4,Z9])
def Jqt:Shp:=⟨[(0,Qls),(1,Jqs),(2,Z9)],[(5000,.var 173 (.ag (sL [Jqs,Qls]))),(1,Yq),(2,Zl)]⟩
def Jqu:List (Nat×Sk):=[(0,Zk),(1,.d Yz),(2,zs2)]
def Jkj:Exs:=[(.n,zs3)]
def Jqv:HT:=.a Qlm
def Qi2:Sk:=.d Yg
def Q4v:List (Nat×SkO):=[(5000,.var 173 (.ag (sL [Qi2,Qls]))),(1,Yq)]
def Jqw:Shp:=⟨[(4,zs2),(5,Qhs),(25,zs2)],[(100000,Zl)]⟩
def Jqx:Exs:=[(.x 0,⟨[(4,zs2),(5,Qta)],[(100200,Zl)]⟩)]
def Jqy:List (Nat×Sk):=[(0,Zk),(11,zs2)]
def Jqz:Sk:=.ag (sL [zs2,zs2,zs2,zs2,Qed,zs2,Jj2,zs2,zs2,zs4,Z9])
def Jq0:Sk:=.ag (sL [Wh,Qox,Lv])
def Q4w:List (Nat×SkO):=[(5000,.var 173 (.ag (sL [Qi2,Jq0]))),(5001,Yq)]
def Jq1:Shp:=⟨[(0,Qls),(1,Qi2),(2,Z9)],Q4v⟩
def Jq2:HT:=.f 11 11 Em
def Jq3:Sk:=.d (.sl Xt)
def Jkk:Sk:=.ag (sL [zs2,zs2,zs2,zs2,Jb5,zs2,Jq3,zs2,zs2,zs4,Z9])
def Jq4:Shp:=⟨[(0,Qls),(1,Jkk),(2,Z9)],[(1,Yq)]⟩
def Qti:List (Nat×Sk):=[(0,Zk),(1,.d Yz)]
def Q4x:List (Nat×Sk):=[(0,Z9)]
def Jkl:HT:=.b 40 (.tl (.br .done))
def Jb6:Sk:=.ag (sL [Wh,Ry,Qhu])
def Jkm:List (Nat×SkO):=[(5000,.var 173 (.ag (sL [Qi2,Jb6]))),(1,Yq),(2,Cg)]
def Jq5:SkO:=.tail 129 Q9
def Jkn:List (Nat×SkO):=[(5000,.var 173 (.ag (sL [Qi2,.ag (sL [Wh,Qox,Qtf])]))),(5001,Yq),(5002,Cg)]
def Jq6:Shp:=sD [Kr,Yh,Yg,Yz]
def Jq7:HT:=.a Jqv
def Jko:Sk:=.ag (sL [Jjx,.d (.sl Ym),Jqb,.d (.sl Fc),.d (.sl .i),.d (.sl Vi)])
def Jq8:HT:=.f 5 5 Em
def Jb7:HT:=.a (.a (.a (.e 5 Jq8)))
def Jb8:List (Nat×Sk):=[(7,.p 100002 [])]
def Q4y:Sk:=.ag (sL [Wh,Jsr,Lv])
def Jq9:HT:=.f 5010 5010 Em
def Qw7:List (Nat×SkO):=[(5000,.var 91 (.ag (sL [Ka,Jq0,S8]))),(5001,Yq),(5002,Vd)]
def Jkp:Shp:=⟨Q4x,[(5000,.var 91 (.ag (sL [Ka,Qls,S8]))),(5002,Vd),(1,Yq)]⟩
def Jb9:HT:=.f 5002 5002 Em
def Jra:List (Nat×Sk):=[(0,.d (.sl .i))]
def Jca:SkO:=.tail 101 Ya
def Jkq:List (Nat×Sk):=[(0,Zk),(5,Jfh),(15,zs2)]
def Qee:Sk:=.d Yh
def Qo5:List (Nat×SkO):=[(5000,.var 91 (.ag (sL [Ka,Qee,Nm]))),(5001,Vd)]
def Q4z:Shp:=⟨Bg,Qo5⟩
def Qw8:Sk:=.ag (sL [Wh,.d (.sl Ya),Lv])
def Jrb:List (Nat×SkO):=[(5000,.var 91 (.ag (sL [Ka,Qw8,Nm]))),(5001,Vd)]
def Jcb:SkO:=.row 81 Yg
def Jrc:Shp:=⟨[(3,Qhs),(12,zs2)],[(100000,Jcb)]⟩
def Jrd:Exs:=[(.x 0,⟨Q4r,[(100100,Jcb)]⟩)]
def Jre:SkO:=.var 91 (.ag (sL [Ka,Qee,.m 100201]))
def Jrf:Shp:=⟨Qfz,[(5000,.var 91 (.ag (sL [Ka,Qee,Nm]))),(5001,Vd),(1,Fk)]⟩
def Jrg:HT:=.f 5001 5001 Em
def P6(N:Nat):V:=⟨⟨29,(sD [.sl Jr,.sl J8,Yh,.i]),[zs1],u4 (Ef N),[]⟩,kF N [] [(14,.lp [0,1,3] [6] zs3 [(.x 0,⟨[],[]⟩),(.r,⟨[(8,zs4)],[]⟩)]),(32,.rg (.n 8 (.sp 56 8 [0,3] [6] ⟨[(64,zs4)],[]⟩ zs6 zs6 zs5)))] func29⟩
def Nn(N:Nat):V:=⟨⟨134,zs7,[(sD [.arr 5 .bool])],Gw N,[]⟩,kF N [] [(25,.jn [2,3] [2] [(.n,zs8)]),(35,.jn [2,3] [2] [(.n,zs9)]),(49,.jn [2] [2] [(.n,Jse)])] func134⟩
def Qlt(N:Nat):V:=⟨⟨194,zs7,[zs1],Fs N,[]⟩,kF N [] [] func194⟩
def E8(N:Nat):V:=⟨⟨140,Qs9,[zs1],Uu N,[]⟩,kF N [] [(4,.rg (.n 9 (.sp 12 4 [0] [] ⟨[(16,zs4)],[]⟩ Qen Qen (.n 1 (.sp 17 4 [0] [] ⟨[(21,zs4)],[]⟩ Qen Qen .done))))),(14,.lp [0] [] P4 Qjy),(24,.rg (.n 5 (.sp 32 5 [3] [] Jsf H9 H9 (.n 1 (.sp 38 11 [3] [] Jnn (.nl 5 (.sp 43 5 [3,38] [] ⟨[(48,zs4)],[]⟩ Jsg Jsg zs5)) (.nl 10 zs5) (.n 1 (.sp 50 5 [3] [] Jsh H9 H9 .done)))))))] func140⟩
def Lw(N:Nat):V:=⟨⟨195,Qs9,[zs1],Wm N,[]⟩,kF N [] [(6,.lp [0] [] P4 Qjy),(16,.rg (.n 5 (.sp 14 5 [3] [] Jjc H9 H9 .done)))] func195⟩
def Qf2(N:Nat):V:=⟨⟨196,(sD [Jr]),[zs1],F2 N,[]⟩,kF N [] [] func196⟩
def Qhx(N:Nat):V:=⟨⟨133,(sD [Jr,.i]),[zs7],u2 (By N),[]⟩,kF N [Nn,Qlt,E8,Lw,Qf2] [(30,.rg (.n 9 (.sp 37 9 [2,5] [2,5] ⟨[(46,zs4)],[]⟩ Q80 Jno (.n 1 (.sp 47 9 [2,5] [2,5] ⟨[(56,zs4)],[]⟩ Q80 Jno (.n 1 (.sp 57 9 [2,5] [2,5] ⟨[(66,zs4)],[]⟩ Q80 Jno (.n 1 (.sp 67 9 [2,5] [2,5] ⟨[(76,zs4)],[]⟩ Q80 Jno .done))))))))),(38,.rg (.n 3 (.sp 79 5 [2,5] [2,5] ⟨[(84,zs4)],[]⟩ Jje H9 (.n 1 (.sp 85 9 [2,5] [2,5] ⟨[(94,zs4)],[]⟩ Q80 (.nl 3 (.sp 88 5 [2,5,85] [] ⟨[(93,zs4)],[]⟩ (.nl 2 (.call 1 (.nl 2 .done))) Jsg zs5)) .done))))),(46,.rg (.n 3 (.sp 97 5 [2,5] [2,5] ⟨[(102,zs4)],[]⟩ Jsi H9 Jnp))),(54,.rg (.n 3 (.sp 120 5 [2,5] [2,5] ⟨[(125,zs4)],[]⟩ Jt0 H9 .done))),(62,.rg (.n 3 (.sp 128 4 [2] [2,5] ⟨[(132,zs4)],[]⟩ (.nl 1 (.call 4 Qpl)) Qen .done)))] func133⟩
def Ch(N:Nat):V:=⟨⟨137,Jnq,[zs7],u2 (Kz N),[]⟩,kF N [] [(6,.lp [1,2] [2] Ib Qni)] func137⟩
def Aw(N:Nat):V:=⟨⟨138,Jnq,[zs7],u2 (Xu N),[]⟩,kF N [] [(6,.lp [1,2] [2] Ib Qni)] func138⟩
def Lx(N:Nat):V:=⟨⟨198,Jnq,[zs1],u2 (Wn N),[]⟩,kF N [] [(6,.lp [1,2] [2] Ib Qhr)] func198⟩
def Qhy(N:Nat):V:=⟨⟨197,Jnq,[zs1],u2 (Bz N),[]⟩,kF N [Lx] [(6,.lp [1,2] [2] Ib Qhr),(16,.jn [5] [] [(.n,⟨[(31,zs4)],[]⟩)]),(16,.an (.dc 16 [13,14,15,16,17,18,19,20,21,22,23,24,25,26,27,28] [] [2] (.b 2 (.c 2 (.a (.a (.a (.a (.a (.a (.a (.so 21 (.c 2 (.b 2 (.c 2 (.a (.a (.a (.a (.tl Jjf)))))))) Jt1))))))))))))] func197⟩
def Qac(N:Nat):V:=⟨⟨135,Jsj,[zs7],u2 (Wo N),[]⟩,kF N [Ch,Aw,Qhy] [(38,.rg (.n 4 (.sp 26 6 [2,3,5] [2,3] ⟨[(32,zs4)],[]⟩ Jnr Qzm .done))),(46,.rg (.n 4 (.sp 36 5 [2,3,5] [2,3] Jns (.nl 3 Jsk) H9 (.n 1 (.sp 42 13 [2,3,5] [2,3] Jsh (.nl 12 zs5) (.nl 4 (.sp 46 8 [2,5,42] [] ⟨[(54,zs4)],[]⟩ (.nl 8 .done) (.nl 8 .done) zs5)) .done)))))] func135⟩
def P7(N:Nat):V:=⟨⟨200,Q4a,[zs1],u2 (Zo N),[]⟩,kF N [] [(6,.lp [0,1] [] Ib Qhr)] func200⟩
def Qf3(N:Nat):V:=⟨⟨199,(sD [Zy,.str]),[zs1],u2 (F3 N),[]⟩,kF N [P7] [(6,.lp [1,2] [2] Ib Qhr)] func199⟩
def Qf4(N:Nat):V:=⟨⟨136,Jsj,[zs7],u2 (F4 N),[]⟩,kF N [Aw,Lx,Qf3,P7] [(23,.jn [] [2,3,6] Jt2),(67,.jn [3,6,23] [] [(.n,⟨[(53,zs4)],[]⟩)]),(81,.jn [3,6] [] [(.n,Jsl)])] func136⟩
def Qf5(N:Nat):V:=⟨⟨94,(sD [Zy,Jr,.i]),[zs7],u3 (F5 N),[]⟩,kF N [Qhx,Nn,Qac,Qf4] [] func94⟩
def Qhz(N:Nat):V:=⟨⟨201,Q4a,[Q81],u2 (Gy N),[]⟩,kF N [] [(6,.lp [0,1] [] Ib [(.x 0,Ib)]),(9,.rg (.n 5 (.sp 11 7 [5] [] Q82 Qnj Qnj .done)))] func201⟩
def Qde(N:Nat):V:=⟨⟨202,Q4a,[Q81],u2 (K0 N),[]⟩,kF N [] [(8,.lp [0,1] [] ⟨[(5,Qhs),(6,zs2)],[(100000,Q4b)]⟩ Jsm),(16,.jn [6] [] Jsn)] func202⟩
def Qdf(N:Nat):V:=⟨⟨139,Jt3,[(sD [Vz])],u2 (Hq N),[]⟩,kF N [Qhz,Qde] [(3,.jn [4] [3,4] [(.n,⟨[(2,Qht)],[(100000,Jso)]⟩)])] func139⟩
def Qf6(N:Nat):V:=⟨⟨95,Jsj,[⟨Jt4,[(1,Q83),(2,Quy),(3,Fk)]⟩],u2 (F6 N),[]⟩,kF N [Ch,Aw,Qdf] [(3,.an (.dc 14 [7,8,9,10,11,12,13,14,15,16,17,18,19,5] [2] [] (.e 7 (.b 2 (.c 2 (.g [7] [] [10] [10] (.e 11 (.b 2 (.c 2 (.g [11] [] [14] [14] (.e 15 (.b 2 (.c 2 (.g [15] [] [18] [18] (.g [] [] [] [10,14,18] (.e 5 Em)))))))))))))))),(5,.jn [] [2,3] [(.n,⟨[(4,Qhv),(5,Jnt)],[(100100,.var 198 (.ag (sL [.ns,.ns,.ns]))),(100101,.var 198 (.ag (sL [Jff,Jsp,.s 100104]))),(100102,Q83),(100103,Quy),(100104,Fk)]⟩),(.r,⟨[(4,Qtb)],[(100200,.var 198 (.ag (sL [Q84,Jfg,Jsq]))),(100201,Q83),(100202,Quy),(100203,Fk)]⟩)]),(15,.an (.dc 6 [66,67,68,69,70,71] [5] [2,3] (.b 5 (.d 5 10 (.c 2 (.b 3 (.c 3 (.k 0 [] [] [] [] Qlm)))))))),(21,.jn [2,3,4,5] [4,5,10,14,18] Jt5),(33,.an (.dc 10 [26,27,28,29,30,31,32,33,34,35] [5,14] [3] (.b 5 (.d 5 14 (.a (.b 5 (.d 5 14 (.a (.d 14 14 (.c 14 (.c 3 (.k 2 [] [] [] [] Q4d))))))))))))] func95⟩
def Qf7(N:Nat):V:=⟨⟨51,(sD [.sl Jr]),[Qhw],F7 N,[]⟩,kF N [Qf5,Qf6] [(18,.lp [0] [] ⟨[(4,Qht),(5,zs2),(6,zs2)],[(100000,.var 198 (.ag (sL [Qtc,Jfh,Jsr]))),(100001,Q83),(100002,Quy),(100003,Fk)]⟩ [(.x 0,⟨[],[]⟩),(.r,⟨[(2,zs2),(3,zs2)],[]⟩)]),(28,.an (.dr 6 Qzn Q85)),(38,.an (.dr 5 Jnu Jnv))] func51⟩
def Qf8(N:Nat):V:=⟨⟨203,(sD [.sl .str]),[zs7],F8 N,[]⟩,kF N [E8] [(14,.lp [0] [] P4 Qpn),(35,.lp [0] [] Q39 Jss),(45,.an (.dr 10 (.n 10 .done) .done))] func203⟩
def Qeo(N:Nat):V:=⟨⟨141,(sD [Zj]),[zs7],E0 N,[]⟩,kF N [Qf8] [] func141⟩
def Qjz(N:Nat):V:=⟨⟨96,Jt6,[zs7],Du N,[]⟩,kF N [E8,Qeo] [(46,.lp [1] [1] P4 Qpn)] func96⟩
def Qf9(N:Nat):V:=⟨⟨52,(sD [.sl J8]),[zs7],F9 N,[]⟩,kF N [Qjz] [(14,.lp [0] [] P4 Qpn),(34,.an (.dr 44 (.n 3 (.sp 24 41 [3] [] ⟨[(65,zs4)],[]⟩ (.nl 13 (.sp 37 27 [3,24] [] ⟨[(64,zs4)],[]⟩ (.nl 27 .done) (.nl 13 (.sp 50 13 [3,24,37] [] Jst Jnw Jnw (.nl 1 .done))) zs5)) (.nl 40 zs5) .done)) .done))] func52⟩
def Qga(N:Nat):V:=⟨⟨204,Jsu,[zs1],Wp N,[]⟩,kF N [] [] func204⟩
def Qgb(N:Nat):V:=⟨⟨205,Jsu,[zs1],Aa N,[]⟩,kF N [] [] func205⟩
def No(N:Nat):V:=⟨⟨142,Qs9,[zs1],Gz N,[]⟩,kF N [Qga,Qgb] [(4,.rg (.n 9 (.sp 12 5 [0] [] zs9 H9 Q86 .done))),(14,.lp [0] [] P4 Qjy),(24,.rg (.n 3 (.call 0 (.n 2 (.sp 29 6 [3] [] ⟨[(35,zs4)],[]⟩ Jnr Qzm (.n 1 (.sp 36 5 [3] [] Jns H9 H9 .done)))))))] func142⟩
def Np(N:Nat):V:=⟨⟨207,Qs9,[zs1],G0 N,[]⟩,kF N [] [(4,.rg (.n 9 (.sp 14 4 [0] [] Q82 Qen Qen (.n 1 (.sp 19 4 [0] [] ⟨[(23,zs4)],[]⟩ Qen Qen .done))))),(14,.lp [0] [] P4 Qjy),(24,.an (.dr 22 (.n 5 (.sp 34 5 [3] [] ⟨[(39,zs4)],[]⟩ H9 H9 (.n 5 (.sp 44 5 [3,39] [] Jnn H9 H9 Qu0)))) .done)),(26,.rg (.n 7 (.sp 56 5 [3] [] ⟨[(61,zs4)],[]⟩ H9 H9 .done)))] func207⟩
def Qdg(N:Nat):V:=⟨⟨261,(sD [.sl V7,.i,.i]),[zs1],u3 (Hr N),[]⟩,kF N [] [(6,.lp [0,1,2] [] Q87 Jt7),(18,.lp [7] [] Qpo [(.x 2,⟨[],[]⟩),(.r,⟨[(6,zs4)],[]⟩)]),(34,.an (.dr 17 (.n 17 .done) .done))] func261⟩
def Qh0(N:Nat):V:=⟨⟨206,(sD [.sl V7,.i]),[zs7],u2 (B1 N),[]⟩,kF N [Np,Lw,Qdg] [(16,.lp [0,1,5] [5] Jjg Qni),(26,.an (.dr 8 Qtd .done)),(53,.lp [0,1,5] [5] Q87 [(.x 2,⟨[],[]⟩),(.r,Q39)])] func206⟩
def Qgc(N:Nat):V:=⟨⟨143,Jo8,[zs7],Ab N,[]⟩,kF N [Qh0] [(14,.lp [0] [] P4 Qpn)] func143⟩
def Qgd(N:Nat):V:=⟨⟨208,(sD [.sl Zm,.bool]),[zs7],u2 (Ac N),[]⟩,kF N [] [(38,.lp [0] [] Ib Qni)] func208⟩
def Qge(N:Nat):V:=⟨⟨144,Jo9,[zs7],Ad N,[]⟩,kF N [Np,Qgd] [(22,.lp [0] [] P4 Qpn),(43,.lp [3] [] Q39 Jss),(53,.an (.dr 11 (.n 11 .done) .done))] func144⟩
def Qh1(N:Nat):V:=⟨⟨209,Jpa,[zs1],u2 (B2 N),[]⟩,kF N [] [(6,.lp [1,2] [2] Ib Qhr)] func209⟩
def Qh2(N:Nat):V:=⟨⟨210,Jpa,[zs1],u2 (B3 N),[]⟩,kF N [] [(6,.lp [1,2] [2] Ib Qhr)] func210⟩
def Qgf(N:Nat):V:=⟨⟨211,Jjh,[zs7],Ae N,[]⟩,kF N [] [(24,.lp [0] [] ⟨[(3,zs2),(4,zs2)],[]⟩ Qpn)] func211⟩
def Qgg(N:Nat):V:=⟨⟨145,Q4e,[zs7],Af N,[]⟩,kF N [Qh1,Qh2,Qgf] [(14,.lp [1] [1] P4 Qpn),(35,.rg (.n 3 (.call 0 (.n 2 (.sp 35 6 [3,4] [4] Jns Qzm Jnr .done)))))] func145⟩
def Qgh(N:Nat):V:=⟨⟨320,zs7,[zs7],Ag N,[]⟩,kF N [] [] func320⟩
def Qj0(N:Nat):V:=⟨⟨327,Q4a,[zs1],u2 (Eg N),[]⟩,kF N [] [(6,.lp [0,1] [] Ib Qhr)] func327⟩
def Fl(N:Nat):V:=⟨⟨321,Qs9,[zs7],Zb N,[]⟩,kF N [Qj0] [] func321⟩
def Qj1(N:Nat):V:=⟨⟨299,Qww,[zs7],Dv N,[]⟩,kF N [Qgh,Fl] [(4,.an (.dc 6 [3,4,5,6,7,8] [1] [] (.b 1 (.c 1 (.k 0 [] [] [] [] (.b 1 (.c 1 Jbi))))))),(28,.rg (.n 4 (.sp 35 5 [1] [1] ⟨[(40,zs4)],[]⟩ Jje H9 .done)))] func299⟩
def Qep(N:Nat):V:=⟨⟨300,(sD [Xs,.sl .i]),[zs7],u2 (E1 N),[]⟩,kF N [Fl] [(41,.an (.dr 7 Qln .done)),(48,.jn [] [2] Jt2),(52,.jn [1,30] [] [(.n,⟨[(35,zs4)],[]⟩)]),(66,.jn [1,30] [] Jpb),(80,.jn [1] [] [(.n,Jnn)])] func300⟩
def Dd(N n:Nat):Con:=⟨262,(sD [Xs,.i]),[Qhw],fun(x0,x1)=>V1 N n x0 x1,[]⟩
theorem Ly(N:Nat):∀n,KO (Dd N n)
 | 0=>⟨Qhg fun _=>rfl,K4 func262 rfl⟩
 | n+1=>have ih:=Ly N n; kF N [Qj1,fun _=>⟨_,ih⟩,Qep] [(26,.lp [1,2] [2] Jpc [(.x 0,⟨[(7,Qpm)],[(100100,Fk)]⟩),(.r,Jpd)])] func262
def Qlu(N:Nat):V:=⟨Dd N N,Ly N N⟩
def Qh3(N:Nat):V:=⟨⟨212,Qww,[Qhw],B4 N,[]⟩,kF N [Qlu] [] func212⟩
def Qad(N:Nat):V:=⟨⟨146,Q4e,[zs7],Wq N,[]⟩,kF N [No,Qh3] [(14,.lp [1] [1] P4 Qpn),(37,.lp [3,4] [4] Ib Jss),(47,.an (.dr 9 (.n 9 .done) .done))] func146⟩
def Qeq(N:Nat):V:=⟨⟨97,Q4e,[zs7],E2 N,[]⟩,kF N [No,Qgc,Qge,Qgg,Qad] [(21,.jn [1] [1] [(.n,P4)]),(27,.jn [1] [1] [(.n,P4)]),(33,.jn [] [1] [(.n,P4)])] func97⟩
def Qgi(N:Nat):V:=⟨⟨98,(sD [Ym,Ym]),[zs7],u2 (Ah N),[]⟩,kF N [] [] func98⟩
def Qgj(N:Nat):V:=⟨⟨53,(sD [.sl Ym]),[zs7],Ai N,[]⟩,kF N [Qeq,Qgi] [(14,.lp [0] [] P4 Qpn),(34,.jn [3] [] [(.n,⟨[(36,zs4)],[]⟩)]),(34,.an (.dc 12 [22,23,24,25,26,27,28,29,30,31,32,33] [] [] (.a (.a (.a (.so 24 (.a (.a (.a (.a (.a (.a (.a (.a (.a (.tl Jjd)))))))))) (.a (.a Jt1))))))))] func53⟩
def Qgk(N:Nat):V:=⟨⟨27,Jji,[zs1],Aj N,[]⟩,kF N [P6,Qf7,Qf9,Qgj] [(14,.lp [1] [1] P4 Qjy),(24,.an (.dr 32 (.n 7 (.sp 38 7 [3] [] ⟨[(45,zs4)],[]⟩ Qnj Qnj (.n 1 (.sp 46 17 [3] [] Jst (.nl 16 zs5) (.nl 3 (.sp 49 13 [3,46] [] Jsl Jnw Jnw zs5)) .done)))) .done)),(34,.rg (.n 3 (.sp 72 5 [1] [1] ⟨[(77,zs4)],[]⟩ Jsi H9 (.n 1 (.sp 78 5 [1] [1] ⟨[(83,zs4)],[]⟩ Jt0 H9 zs5)))))] func27⟩
def Qj2(N:Nat):V:=⟨⟨99,Jbj,[zs1],Dw N,[]⟩,kF N [] [(14,.lp [0] [] P4 Qjy)] func99⟩
def Qj3(N:Nat):V:=⟨⟨54,Q4f,[zs1],Dy N,[]⟩,kF N [Qj2] [] func54⟩
def Qdh(N:Nat):V:=⟨⟨100,Q4g,[zs1],u2 (Hs N),[]⟩,kF N [] [] func100⟩
def Qh4(N:Nat):V:=⟨⟨147,(sD [.sl Q9,Xt]),[zs7],u2 (B5 N),[]⟩,kF N [] [(6,.lp [0,3] [3] Ib Qni)] func147⟩
def Qer(N:Nat):V:=⟨⟨101,(sD [.sl Q9,Q9]),[zs1],u2 (E3 N),[]⟩,kF N [Qh4] [] func101⟩
def Qdi(N:Nat):V:=⟨⟨55,Jbj,[zs1],Ht N,[]⟩,kF N [Qdh,Qer] [(6,.lp [0] [] P4 Qjy),(16,.jn [3] [] [(.n,Jjj)]),(16,.an (.dc 19 [10,11,12,13,14,15,16,17,18,19,20,21,22,23,24,25,26,27,28] [] [] (.a (.a (.a (.a (.a (.a (.a (.a (.a (.k 0 [] [] [] [] (.a (.a (.so 21 Q4h (.a (.a (.a (.a (.a (.a (.a (.tl Jnv)))))))))))))))))))))))] func55⟩
def Qae(N:Nat):V:=⟨⟨56,Jpg,[zs1],Wr N,[]⟩,kF N [] [(6,.lp [0] [] P4 Qjy),(16,.an (.dr 12 (.n 12 .done) .done))] func56⟩
def Qh5(N:Nat):V:=⟨⟨102,Qs9,[zs1],G1 N,[]⟩,kF N [] [(4,.rg (.n 9 (.sp 13 4 [0] [] zs9 Qen Qen (.n 1 (.sp 18 4 [0] [] Jse Qen Qen .done))))),(14,.lp [0] [] P4 Qjy)] func102⟩
def Qgl(N:Nat):V:=⟨⟨103,Jbk,[zs1],Ak N,[]⟩,kF N [] [] func103⟩
def Qgm(N:Nat):V:=⟨⟨57,Q4i,[zs7],Al N,[]⟩,kF N [Qh5,Qgl] [(39,.lp [1] [1] P4 [(.x 1,⟨[],[]⟩),(.r,⟨[(2,zs2)],[]⟩)])] func57⟩
def Qgn(N:Nat):V:=⟨⟨104,zs7,[zs1],Zz N,[]⟩,kF N [] [] func104⟩
def Qgo(N:Nat):V:=⟨⟨58,Jjk,[zs7],Am N,[]⟩,kF N [Qgn] [(4,.rg (.n 9 (.sp 11 5 [1] [1] ⟨[(16,zs4)],[]⟩ H9 Q86 (.n 1 (.sp 17 5 [1] [1] Jse H9 Q86 (.n 6 (.sp 28 5 [1] [1] ⟨[(33,zs4)],[]⟩ H9 Q86 Jnp)))))))] func58⟩
def Qj4(N:Nat):V:=⟨⟨28,Q4f,[zs1],Dz N,[]⟩,kF N [Qj3,Qdi,Qae,Qgm,Qgo] [(4,.rg (.n 1 (.call 0 (.n 2 (.sp 8 5 [1] [1] zs8 H9 Jje (.n 1 (.sp 14 5 [1] [1] Jjc H9 Jsi .done))))))),(14,.lp [1] [1] P4 Qjy),(35,.lp [1] [1] Q39 [(.x 2,⟨[],[]⟩),(.r,⟨[(2,zs4)],[]⟩)])] func28⟩
def Qj5(N:Nat):V:=⟨⟨7,Jph,[zs1],D1 N,[]⟩,kF N [Qgk,Qj4,P6] [(4,.rg (.n 2 (.call 0 (.n 2 (.sp 8 5 [1] [1] zs8 H9 Jje Qzn))))),(14,.lp [1] [1] P4 Qjy),(24,.an (.dr 15 Jnp Jsk))] func7⟩
def Qh6(N:Nat):V:=⟨⟨30,(sD []),[Jji],fun _=>So N,[]⟩,kF N [] [] func30⟩
def Df(N n:Nat):Con:=⟨110,Qww,[Qww],fun x0=>V2 N n x0,[]⟩
theorem Lz(N:Nat):∀n,KO (Df N n)
 | 0=>⟨Qhg fun _=>rfl,K4 func110 rfl⟩
 | n+1=>have ih:=Lz N n; kF N [fun _=>⟨_,Qab⟩,fun _=>⟨_,ih⟩] [(8,.lp [1,2,10] [1,2] ⟨[(11,zs2)],[(10600,Jbl)]⟩ [(.x 0,⟨[],[(10600,Jbl)]⟩)]),(19,.an (.dc 9 [14,15,16,17,18,19,20,21,22] [10600] [1] (.b 1 (.d 1 10600 (.a (.b 1 (.d 1 10600 (.a (.d 10600 10600 (.c 10600 Jjl))))))))))] func110
def Qlv(N:Nat):V:=⟨Df N N,Lz N N⟩
def Qh7(N:Nat):V:=⟨⟨65,Q4e,[Jpj],B6 N,[]⟩,kF N [fun _=>⟨_,T7⟩,fun _=>⟨_,T8⟩,fun _=>⟨_,T9⟩,fun _=>⟨_,Mm⟩,fun _=>⟨_,Zg⟩,fun _=>⟨_,Qaa⟩,fun _=>⟨_,Vk⟩,Qlv] [(3,.an (.dc 13 [7,8,9,10,11,12,13,14,15,16,17,18,19] [1] [] (.b 1 (.c 1 (.k 0 [] [] [10900] [10900] (.b 1 (.c 1 (.k 1 [] [] [11200] [11200] (.b 1 (.c 1 (.k 2 [] [] [11500] [11500] (.b 1 (.c 1 (.k 3 [] [] [11800] [11800] (.b 1 (.tl Qln)))))))))))))))),(8,.lp [1,2,25] [1,2,11200,11500,11800] ⟨[(26,zs2)],[(10900,Qf0)]⟩ [(.x 0,⟨[],[(10900,Qf0)]⟩)]),(19,.an (.dc 10 [29,30,31,32,33,34,35,36,37,38] [10900] [1] (.b 1 (.d 1 10900 (.a (.b 1 (.d 1 10900 (.a (.d 10900 10900 (.b 10900 (.c 10900 (.k 4 [] [] [13800] [13800] (.tl (.n 2 (.fz 13800 zs5))))))))))))))),(25,.lp [1,2,44] [1,2,10900,11500,11800] ⟨[(45,zs2)],[(11200,Qlo)]⟩ [(.x 2,⟨[],[(11200,Qlo)]⟩)]),(36,.an (.dc 10 [48,49,50,51,52,53,54,55,56,57] [11200] [1] (.b 1 (.d 1 11200 (.a (.b 1 (.d 1 11200 (.a (.d 11200 11200 (.b 11200 (.c 11200 (.k 5 [] [] [15700] [15700] (.tl (.n 2 (.fz 15700 zs5))))))))))))))),(42,.lp [1,2,63] [1,2,10900,11200,11800] ⟨[(64,zs2)],[(11500,Qte)]⟩ [(.x 4,⟨[],[(11500,Qte)]⟩)]),(53,.an (.dc 10 [67,68,69,70,71,72,73,74,75,76] [11500] [1] (.b 1 (.d 1 11500 (.a (.b 1 (.d 1 11500 (.a (.d 11500 11500 (.b 11500 (.c 11500 (.k 6 [] [] [17600] [17600] (.tl (.n 2 (.fz 17600 zs5))))))))))))))),(59,.lp [1,2,82] [1,2,10900,11200,11500] ⟨[(83,zs2)],[(11800,Q4j)]⟩ [(.x 6,⟨[],[(11800,Q4j)]⟩)]),(70,.an (.dc 10 [86,87,88,89,90,91,92,93,94,95] [11800] [1] (.b 1 (.d 1 11800 (.a (.b 1 (.d 1 11800 (.a (.d 11800 11800 (.b 11800 (.c 11800 (.k 7 [] [] [] [] Qlm))))))))))))] func65⟩
def Qlw(N:Nat):V:=⟨⟨32,Jji,[⟨[(0,.ag (sL [Ry,Qhu,Q4c,.s 4,.s 5,.s 6]))],[(1,Jjm),(2,Q4k),(3,Qlp),(4,Jjn),(5,Fk),(6,Q4l)]⟩],Md N,[]⟩,kF N [fun _=>⟨_,Rp⟩,fun _=>⟨_,Qbv⟩,fun _=>⟨_,Qhq⟩,fun _=>⟨_,P1⟩,fun _=>⟨_,Nz⟩,fun _=>⟨_,Lr⟩,Qh7,fun _=>⟨_,P2⟩,fun _=>⟨_,Zg⟩,fun _=>⟨_,Vk⟩] [(3,.an (.dc 10 [8,9,10,11,12,13,14,15,16,17] [1] [] (.b 1 (.c 1 (.k 0 [] [] [11000] [11000] (.b 1 (.c 1 (.k 1 [] [] [11300] [11300] (.b 1 (.c 1 (.k 2 [] [] [11600] [11600] Jpk))))))))))),(5,.an (.dc 10 [20,21,22,23,24,25,26,27,28,29] [1] [] (.b 1 (.c 1 (.k 3 [] [] [12200] [12200] (.b 1 (.c 1 (.k 4 [] [] [12500] [12500] (.b 1 (.c 1 (.k 5 [] [] [12800] [12800] Jpk))))))))))),(10,.lp [1,2,34] [1,2,11000,11300,11600,12500,12800] ⟨[(35,zs2)],[(12200,Q4k)]⟩ [(.x 0,⟨[],[(12200,Q4k)]⟩)]),(21,.an (.dc 9 [38,39,40,41,42,43,44,45,46] [12200] [1] (.b 1 (.d 1 12200 (.a (.b 1 (.d 1 12200 (.a (.d 12200 12200 (.c 12200 (.k 6 [] [] [14604,14603,14602,14601] [14601,14602,14603,14604] (.tl (.n 1 (.fz 14601 (.fz 14602 (.fz 14603 (.fz 14604 zs5))))))))))))))))),(27,.lp [1,2,51] [1,2,11000,11300,11600,12200,12800] ⟨[(52,zs2)],[(12500,Qlp)]⟩ [(.x 2,⟨[],[(12500,Qlp)]⟩)]),(44,.lp [4,52,63] [12500] ⟨[(5,Qwx),(64,zs2)],[(100300,Qwy)]⟩ [(.x 4,⟨[(5,Q4m)],[(100400,Qwy)]⟩)]),(55,.rg (.n 7 (.call 8 (.n 2 (.fz 17400 zs5))))),(57,.rg (.n 6 (.fz 100400 zs5))),(63,.lp [1,2,87] [1,2,11000,11300,11600,12200,12500] ⟨[(88,zs2)],[(12800,Q4l)]⟩ [(.x 6,⟨[],[(12800,Q4l)]⟩)]),(74,.an (.dc 10 [91,92,93,94,95,96,97,98,99,100] [12800] [1] (.b 1 (.d 1 12800 (.a (.b 1 (.d 1 12800 (.a (.d 12800 12800 (.b 12800 (.c 12800 (.k 9 [] [] [20000] [20000] (.tl (.n 2 (.fz 20000 zs5)))))))))))))))] func32⟩
def P8(N:Nat):V:=⟨⟨33,Q4f,[Qwz],Eh N,[]⟩,kF N [fun _=>⟨_,H6⟩,fun _=>⟨_,H7⟩,fun _=>⟨_,Hc⟩,fun _=>⟨_,Zg⟩] [(3,.an (.dc 11 [5,6,7,8,9,10,11,12,13,14,3] [1] [] (.b 1 (.c 1 (.k 0 [] [] [10700] [10700] (.b 1 (.c 1 (.k 1 [] [] [11000] [11000] (.b 1 (.c 1 (.k 2 [] [] [11300] [11300] (.g [] [] [] [10700,11000,11300] (.e 3 Em))))))))))))),(8,.lp [2,3,17] [1,2,3,11000,11300] ⟨[(18,zs2)],[(10700,Un)]⟩ [(.x 0,⟨[],[(10700,Un)]⟩)]),(19,.an (.dc 10 [21,22,23,24,25,26,27,28,29,30] [10700] [3] (.b 3 (.d 3 10700 (.a (.b 3 (.d 3 10700 (.a (.d 10700 10700 (.b 10700 (.c 10700 (.k 3 [] [] [13000] [13000] (.tl (.n 2 (.fz 13000 zs5)))))))))))))))] func33⟩
def Qlx(N:Nat):V:=⟨⟨9,(sD [Kr,Yh]),[⟨Jjo,[(1,.var 91 (.ag (sL [.ag (sL [Qhu,Q4c,.s 4,.s 5,.s 6,.s 7]),.ag (sL [.s 8,.s 9,.s 10]),.m 11]))),(2,Jjm),(3,Q4k),(4,Qlp),(5,Jjn),(6,Fk),(7,Q4l),(8,Un),(9,Yq),(10,Cg),(11,Vd)]⟩],u2 (Pg N),[]⟩,kF N [Qlw,P8] [(3,.an (.dc 5 [5,6,7,8,9] [2,3] [] (.c 2 (.k 0 [] [] [10606,10605,10604,10603,10602,10601] [10601,10602,10603,10604,10605,10606] (.c 3 (.k 1 [] [] [10803,10802,10801] [10801,10802,10803] (.e 9 Qlm)))))))] func9⟩
def Qgp(N:Nat):V:=⟨⟨34,⟨Bg,Jjp⟩,[zs1],u10 (Ao N),[5000,5001,5002,5003,5004,5005,5006,5007,5008,5009,5010]⟩,kF N [] [(3,.rg (.n 3 (.nl 5 Qu0)))] func34⟩
def Eo(N:Nat):V:=⟨⟨37,(sD [Yz,.i]),[(sD [Sn])],u2 (Yb N),[]⟩,kF N [] [] func37⟩
def Nq(N:Nat):V:=⟨⟨115,Q4f,[Qwz],G2 N,[]⟩,kF N [fun _=>⟨_,H6⟩,fun _=>⟨_,H7⟩,fun _=>⟨_,Hc⟩,fun _=>⟨_,Zg⟩] [(3,.an (.dc 11 [5,6,7,8,9,10,11,12,13,14,3] [1] [] (.b 1 (.c 1 (.k 0 [] [] [10700] [10700] (.b 1 (.c 1 (.k 1 [] [] [11000] [11000] (.b 1 (.c 1 (.k 2 [] [] [11300] [11300] (.g [] [] [] [10700,11000,11300] (.e 3 Em))))))))))))),(8,.lp [2,3,17] [1,2,3,11000,11300] ⟨[(18,zs2)],[(10700,Un)]⟩ [(.x 0,⟨[],[(10700,Un)]⟩)]),(19,.an (.dc 10 [21,22,23,24,25,26,27,28,29,30] [10700] [3] (.b 3 (.d 3 10700 (.a (.b 3 (.d 3 10700 (.a (.d 10700 10700 (.b 10700 (.c 10700 (.k 3 [] [] [13000] [13000] (.tl (.n 2 (.fz 13000 zs5)))))))))))))))] func115⟩
def Dg(N:Nat):V:=⟨⟨114,Jpl,[Jpn],Xj N,[]⟩,kF N [fun _=>⟨_,Fi⟩,fun _=>⟨_,Vk⟩] [] func114⟩
def Ci(N:Nat):V:=⟨⟨78,(sD [Yh,Yg,Yz,.i]),[⟨[(0,.ag (sL [Ry,Qhu,Q4c])),(1,.ag (sL [zs2,zs2,zs2,zs2,.ag (sL [zs2,zs2,zs2,V9,V9,zs2,.ag (sL [zs2,V9,V9,zs2,.s 4]),zs2,zs2]),zs2,.s 5,zs2,zs2,zs4,Z9])),(2,Z9)],[(1,Un),(2,Yq),(3,Cg),(4,Qtg),(5,Zl)]⟩],u4 (U1 N),[]⟩,kF N [Nq,Dg] [(3,.an (.dc 12 [11,12,13,14,15,16,17,18,19,20,1000000010,1000000011] [4,5,6,8,9] [] (.c 4 (.k 0 [] [] [11203,11202,11201] [11201,11202,11203] (.c 5 (.k 1 [] [] [11402,11401] [11401,11402] (.b 6 (.c 6 (.b 6 (.c 6 (.a (.a (.g [8] [11201,11202,11203] [] [8,11201,11202,11203] (.g [9] [11401,11402] [] [9,11401,11402] Em))))))))))))))] func78⟩
def Qtj(N:Nat):V:=⟨⟨227,Jsu,[zs1],Qc0 N,[]⟩,kF N [] [] func227⟩
def P9(N:Nat):V:=⟨⟨162,Qs9,[zs1],Ei N,[]⟩,kF N [Qtj] [(6,.lp [0,5] [] Jjg Qjy)] func162⟩
def Qnk(N:Nat):V:=⟨⟨316,Q4a,[Q81],u2 (Ph N),[]⟩,kF N [] [(6,.lp [0,1] [] Ib [(.x 0,Ib)]),(9,.rg (.n 5 (.sp 11 7 [5] [] Q82 Qnj Qnj .done)))] func316⟩
def Qh8(N:Nat):V:=⟨⟨317,Q4a,[Q81],u2 (B7 N),[]⟩,kF N [] [(8,.lp [1,8,9] [] ⟨Jjr,[(100000,Q4b)]⟩ Jsm),(16,.jn [10] [] Jsn)] func317⟩
def Qnl(N:Nat):V:=⟨⟨294,Jt3,[(sD [Vz])],u2 (Pi N),[]⟩,kF N [Qnk,Qh8] [(3,.jn [] [3] [(.n,⟨[(2,Qoy),(4,Jjs)],[(100300,Jso),(100301,Jbo)]⟩),(.r,⟨[(4,Qtb)],[(100200,Jbo)]⟩)]),(31,.jn [2,3,4,6] [2,4] Jpb),(39,.jn [2,3,4] [2,4] [(.n,Jnn)])] func294⟩
def Qh9(N:Nat):V:=⟨⟨248,Qw1,[⟨Qfz,[(1,Qoz)]⟩],u2 (B8 N),[]⟩,kF N [Qnl] [(10,.lp [1,10,11] [] ⟨[(5,Qhs),(6,Qw2),(12,zs2)],[(100000,Qoz),(100001,Jju)]⟩ [(.x 0,⟨[(5,Qwx)],[(100300,Qoz)]⟩)]),(18,.jn [12] [] [(.n,⟨[(5,Qta),(6,Jjv)],[(100200,Qoz),(100201,Jju)]⟩)]),(32,.an (.dr 13 (.n 3 (.sp 31 10 [5,6,8,9,12] [8,100000,100001] Jns Jbp Jbp .done)) .done))] func248⟩
def Qly(N:Nat):V:=⟨⟨250,(sD [Vz,Vz]),[zs1],u2 (Me N),[]⟩,kF N [] [(14,.lp [3,43,44] [2,3] ⟨[(45,zs2)],[]⟩ Qhr)] func250⟩
def Qgq(N:Nat):V:=⟨⟨249,Jpo,[zs1],u2 (Ap N),[]⟩,kF N [Qly] [] func249⟩
def Qgr(N:Nat):V:=⟨⟨251,Jpo,[(sD [V0])],u2 (Aq N),[]⟩,kF N [] [] func251⟩
def Fn(N:Nat):V:=⟨⟨247,⟨[(0,.d (.sl V0)),(1,.f 249 .nil),(2,.f 251 .nil)],[]⟩,[⟨Qfz,[(1,Qoz)]⟩],Vs N,[]⟩,kF N [Qgq,Qgr] [(8,.lp [1,2,11,12] [] ⟨Jpp,[(100000,Qoz)]⟩ [(.x 0,⟨[(7,Qta)],[(100200,Qoz)]⟩)]),(16,.jn [13] [] [(.n,⟨[(7,Qpm)],[(100100,Qoz)]⟩)]),(22,.an (.dc 10 [19,20,21,22,23,24,25,26,27,28] [100000,9] [] (.a (.a (.a (.so 21 (.a (.b 100000 (.a (.a (.d 100000 100000 (.c 100000 (.c 9 (.tl Q85)))))))) Q4h)))))),(24,.an (.dc 11 [31,32,33,34,35,36,37,38,39,40,41] [100000,9] [] (.b 100000 (.a (.a (.a (.b 100000 (.a (.a (.d 100000 100000 (.c 100000 (.c 9 Jjl))))))))))))] func247⟩
def Ra(N:Nat):V:=⟨⟨181,Qw1,[⟨Qfz,[(1,Jbq)]⟩],u2 (Ej N),[]⟩,kF N [Qh9,Fn] [(10,.lp [5,14,15] [11201,11301] ⟨Jpq,[(100000,Jbq)]⟩ [(.x 0,⟨[(6,Qwx)],[(100300,Jbq)]⟩)]),(18,.jn [16] [] [(.n,⟨[(6,Qta)],[(100200,Jbq)]⟩)]),(30,.jn [6,8,16] [8,100000] [(.n,⟨[(9,Qhv)],[(100100,.var 127 Qo0)]⟩)]),(35,.an (.dc 17 [40,41,42,43,44,45,46,47,48,49,50,51,52,53,54,55,56] [100100,8] [] (.b 100000 (.c 100100 (.b 8 (.b 8 (.c 8 (.b 8 (.b 8 (.c 8 (.e 48 (.b 8 (.b 8 (.c 8 (.b 8 (.b 8 (.c 8 (.b 48 (.op ⟨.fz 48 (.nl 1 .done),[48],[],[],[48]⟩ Q4d)))))))))))))))))))] func181⟩
def Ep(N:Nat):V:=⟨⟨252,Jbk,[zs1],Z0 N,[]⟩,kF N [] [] func252⟩
def Ns(N:Nat):V:=⟨⟨182,(sD [J9,.i]),[zs1],u2 (G3 N),[]⟩,kF N [Ep] [] func182⟩
def Cj(N:Nat):V:=⟨⟨123,Jbr,[(sD [Dt,.bool])],u3 (Ek N),[]⟩,kF N [Ra,Ns] [(6,.lp [2,12,13] [11201] ⟨[(6,Qht),(14,zs2)],[(100000,Jpr)]⟩ [(.x 0,⟨[(6,Qhv)],[(100100,Jpr)]⟩),(.r,⟨Jjw,[(100200,.var 235 (.d Dt))]⟩)])] func123⟩
def Qnm(N:Nat):V:=⟨⟨256,(sD []),[⟨Jjo,[(1,.var 414 (.ag (sL [.m 2,.m 3,.m 4,.m 5,.m 6,.ns,.ns]))),(2,Q4n),(3,.map .i Vz),(4,Qo1),(5,.map .str .i),(6,Qlq)]⟩],fun _=>Pk N,[]⟩,kF N [] [] func256⟩
def Qpp(N:Nat):V:=⟨⟨257,Qw1,[⟨[(0,.f 296 (sL [.p 1 [],.p 2 []]))],[(1,.var 22 Jjx),(2,P5)]⟩],u2 (Tp N),[]⟩,kF N [] [] func257⟩
def Qj6:AnY:=(.two (.reg (.n 3 .done)) (.un (.lp [2,6,7] [] ⟨[(8,.d .i)],[]⟩ [(.x 0,⟨[],[]⟩),(.r,⟨[],[]⟩)] (.two (.reg (.n 1 .done)) (.two (.two .nil .nil) (.two (.un (.two (.reg (.n 4 .done)) (.two (.yr (.h 5 (.n 5 .done) (.so 16 (.mv (.h 1 (.nl 1 .done) (.yl (.h 2 (.nl 1 (.n 1 .done)) .done)))) (.h 5 (.nl 4 (.n 1 .done)) .done)))) (.two .nil .nil)))) (.reg (.n 2 .done))))))))
def Rb(N:Nat):It:=⟨296,[(.sl Jr),(.int .i64)],Jr,fun(x1,x2)=>Mf N x1 x2⟩
theorem Qia(N:Nat):IO (Rb N):=⟨Jnj (Y:=tx) (N:=N) (it:=Rb N) (an:=Qj6) H5 H4 (Jbg N []) func296 rfl (fun x=>by kernel_rfl),K4 func296 rfl⟩
def Qgs(N:Nat):V:=⟨⟨297,Jbs,[⟨Qfz,[(1,Fk)]⟩],u2 (Ws N),[]⟩,kF N [] [(6,.lp [0,1] [] Ib [(.x 0,Ib)]),(9,.rg (.n 5 (.sp 11 7 [5] [] Q82 Qnj Qnj .done)))] func297⟩
def Qbx(N:Nat):V:=⟨⟨318,Q4a,[Q81],u2 (Kc N),[]⟩,kF N [] [(6,.lp [0,1] [] Ib [(.x 0,Ib)]),(9,.rg (.n 5 (.sp 11 7 [5] [] Q82 Qnj Qnj .done)))] func318⟩
def Qlz(N:Nat):V:=⟨⟨319,Q4a,[Q81],u2 (Ft N),[]⟩,kF N [] [(8,.lp [1,8,9] [] ⟨Jjr,[(100000,Q4b)]⟩ Jsm),(16,.jn [10] [] Jsn)] func319⟩
def Qaf(N:Nat):V:=⟨⟨298,⟨[(0,Zk),(1,Jjt),(2,.d Jr)],Jjy⟩,[⟨[(0,Jjt)],Jjz⟩],u9 (Wt N),[5000,5001,5002,5003,5005,5006,5007]⟩,kF N [Qbx,Qlz] [(3,.jn [6] [5,6] [(.n,⟨[(4,Qw2)],[(5004,.map .str .i),(100001,Jso)]⟩)]),(10,.an (.dr 8 Qtd zs5)),(16,.an (.dr 6 Qzn zs5))] func298⟩
def Rz(N:Nat):V:=⟨⟨258,⟨[(0,Zk),(1,.d Jr)],Jjy⟩,[⟨[],[(5000,.var 414 (.ag (sL [Nm,S8,Jbt,Jbu,Jbv,Ry,Qhu]))),(5001,Q4n),(5002,.map .i Vz),(5003,Qo1),(5004,.map .str .i),(5005,Qlq),(1,Fk),(2,Fk)]⟩],u8 (Xv N),[]⟩,kF N [Qgs,Qaf] [(9,.jn [3] [3] [(.n,⟨Bg,[(5000,.var 414 (.ag (sL [Nm,S8,Jbt,Jbu,Jbv,.s 100006,.s 100007]))),(5001,Q4n),(5002,.map .i Vz),(5003,Qo1),(5004,.map .str .i),(5005,Qlq),(100006,Fk),(100007,Fk)]⟩)]),(10,.an (.dc 12 [38,39,40,41,42,43,44,37,45,46,4,1000000011] [5000,5001] [3] (.b 5000 (.d 5000 5000 (.b 5000 (.d 5000 5001 (.b 3 (.c 3 (.c 5001 (.a (.a (.a (.e 4 (.f 4 4 Em)))))))))))))),(14,.gh (.fz 5006 Lt)),(14,.an (.dc 8 [49,50,51,52,53,54,55,56] [5000] [3] (.b 5000 (.b 5000 (.d 5000 5000 (.b 5000 (.c 5000 (.b 3 (.c 3 (.k 0 [] [] [15601] [15601] Qlm)))))))))),(16,.an (.dr 16 (.n 16 .done) zs5)),(21,.an (.dc 8 [77,78,79,80,81,82,83,6] [5000,3,5001] [] (.b 5000 (.d 5000 5000 (.b 5000 (.d 5000 5001 (.b 3 (.c 3 (.c 5001 (.e 6 Em)))))))))),(24,.an (.dr 7 Qln zs5)),(29,.jn [3] [3] [(.n,⟨Bg,[(5000,.var 414 (.ag (sL [Nm,S8,Jbt,Jbu,Jbv,.s 100106,.s 100107]))),(5001,Q4n),(5002,.map .i Vz),(5003,Qo1),(5004,.map .str .i),(5005,Qlq),(100106,Fk),(100107,Fk)]⟩)]),(30,.an (.dr 8 Qtd .done)),(32,.gh (.fz 5007 Lt)),(32,.an (.dc 8 [102,103,104,105,106,107,108,109] [5000] [3] (.b 5000 (.b 5000 (.d 5000 5000 (.b 5000 (.c 5000 (.b 3 (.c 3 (.k 0 [] [] [20901] [20901] Qlm)))))))))),(35,.an (.dr 6 Qzn zs5)),(37,.an (.dr 8 Qtd zs5)),(38,.an (.dr 15 Jnp zs5)),(43,.an (.dc 8 [143,144,145,146,147,148,149,7] [5000,3,5002] [] (.b 5000 (.d 5000 5000 (.b 5000 (.d 5000 5002 (.b 3 (.c 3 (.c 5002 (.e 7 Em)))))))))),(48,.lp [0,3,7,151,152] [3,7,5000,5001,5002,5003,5005,5006,5007] ⟨[(153,zs2)],Jjz⟩ [(.x 1,⟨[],Jjz⟩)]),(62,.an (.dr 8 Qtd zs5)),(63,.an (.dr 6 Qzn zs5)),(65,.jn [0,3] [3,5000,5001,5002,5003,5004,5005,5006,5007] [(.n,⟨[(177,zs4)],[]⟩)]),(73,.an (.dc 12 [15,16,17,18,19,20,21,14,22,23,10,1000000011] [5000,3,5002] [] (.b 5000 (.d 5000 5000 (.b 5000 (.d 5000 5002 (.b 3 (.c 3 (.c 5002 (.a (.a (.a (.e 10 (.f 10 10 Em)))))))))))))),(77,.an (.dc 10 [25,26,27,28,29,30,31,32,33,34] [5000,3,10,5004,5001,5002,5003,5005,5006,5007] [] (.b 5000 (.d 5000 5000 (.b 5000 (.d 5000 5002 (.b 3 (.c 3 (.b 5000 (.c 10 (.c 3 (.k 1 [5004] [5000,5001,5002,5003,5005,5006,5007] [] [5004] Em))))))))))))] func258⟩
def Rc(N:Nat):V:=⟨⟨259,⟨Bg,Jjy⟩,[Jps],u7 (Xa N),[5000,5001,5002,5003,5004,5005,5006,5007]⟩,kF N [] [(5,.rg (.br zs5)),(10,.lp [0,2,16,17] [2] ⟨[(3,Qht),(4,Jj0),(18,zs2)],[(100000,.var 323 (.ag (sL [.ns,Jfh]))),(100001,Jj1),(100002,Quy)]⟩ [(.x 0,⟨[(3,Qtb),(4,.m 100201)],[(100200,.var 323 (.ag (sL [.ns,Jfg]))),(100201,Jj1),(100202,Quy)]⟩)]),(18,.jn [18] [] [(.n,⟨[(3,Qhv),(4,.m 100101)],[(100100,.var 323 (.ag (sL [.ns,Jff]))),(100101,Jj1),(100102,Quy)]⟩)]),(30,.gh (.op (.v 7 [.f 1 1]) 100001 700000 .done)),(30,.an (.dc 10 [33,34,35,36,37,38,39,40,41,42] [7,100001,700000] [] (.b 100001 (.b 7 (.c 7 (.b 100001 (.b 7 (.c 7 (.op ⟨.br .done,[],[100001,700000],[],[700000]⟩ (.a (.a (.g [700000] [] [42] [42] (.tl (.br .done)))))))))))))),(37,.gh (.fm 100201 .done)),(37,.lp [0,2,4,53,54] [2,100201] ⟨[(3,Qoy),(55,zs2)],[(100300,.var 323 (.ag (sL [Qw3,Q4o]))),(100301,Q83),(100302,Quy)]⟩ [(.x 2,⟨[(3,Q4p)],[(100400,.var 323 (.ag (sL [Q4q,Jbw]))),(100401,Q83),(100402,Quy)]⟩)])] func259⟩
def Ql0:AnR:=(.pre (.reg (.n 1 .done)) (.pre (.reg (.call 0 (.n 2 .done))) (.inn (.pre (.reg (.n 2 (.call 1 .done))) (.un (.rf 0 [4,5] [4,5] ⟨[],[(10701,.var 414 (.ag (sL [.m 100001,.m 100002,.m 100003,.m 100004,.m 100005,.s 100006,.s 100007]))),(100001,.map .i Za),(100002,.map .i Vz),(100003,.map .i .bool),(100004,.map .str .i),(100005,.map .i .i),(100006,.row 3 .i),(100007,.row 3 .i)]⟩ (.reg (.n 2 .done)) (.un (.reg (.n 2 (.call 2 .done))))))) (.two (.reg (.n 1 (.call 3 (.n 1 .done)))) .nil))))
def Qby(N:Nat):V:=⟨⟨187,Qw1,[Jps],u2 (B9 N),[]⟩,kR N [Qnm,Qpp,Rz,Rc] [⟨_,Qia N⟩] Ql0 func187 rfl fun x=>by kernel_rfl⟩
def Qtk(N:Nat):V:=⟨⟨163,Jbr,[(sD [Vz,.bool])],u3 (Qc1 N),[]⟩,kF N [Qby] [(6,.lp [1,13,14] [11201,11202] ⟨Jpt,[(100000,Jbo)]⟩ [(.x 0,⟨[(6,Qhv)],[(100100,Jbo)]⟩),(.r,⟨Jjw,[(100200,Jju)]⟩)])] func163⟩
def Qdj(N:Nat):V:=⟨⟨270,(sD [.sl .str]),[Q81],Hv N,[]⟩,kF N [] [] func270⟩
def Qag(N:Nat):V:=⟨⟨271,Jpu,[⟨Qfz,[(1,.row 221 Zm)]⟩],Wu N,[]⟩,kF N [] [] func271⟩
def Qah(N:Nat):V:=⟨⟨272,Jjh,[⟨Qfz,Jbx⟩],Wv N,[]⟩,kF N [] [] func272⟩
def Ta(N n:Nat):Con:=⟨273,Qww,[Qww],fun x0=>Xb N n x0,[]⟩
theorem Qbz(N:Nat):∀n,KO (Ta N n)
 | 0=>⟨Qhg fun _=>rfl,K4 func273 rfl⟩
 | n+1=>have ih:=Qbz N n; kF N [fun _=>⟨_,ih⟩] [(8,.lp [1,2,7,8] [1,2] ⟨[(3,Qhs),(9,zs2)],[(100000,Jbl)]⟩ [(.x 0,⟨Q4r,[(100100,Jbl)]⟩)])] func273
def Qu1(N:Nat):V:=⟨Ta N N,Qbz N N⟩
def Qtl(N:Nat):V:=⟨⟨228,Q4e,[Jpj],Qc2 N,[]⟩,kF N [Qdj,Qag,Qah,Qu1] [(10,.lp [1,2,18,19] [1,2] ⟨[(3,Qht),(20,zs2)],[(100000,.var 146 (.ag (sL [V9,zs2,zs4,Qtc,.ns,.ns,.ns]))),(100001,Qf0)]⟩ [(.x 0,⟨[(3,Qhv)],[(100100,.var 146 (.ag (sL [V9,zs2,zs4,Qo2,.ns,.ns,.ns]))),(100101,Qf0)]⟩)]),(21,.an (.dc 9 [24,25,26,27,28,29,30,31,32] [100000,5] [] (.b 100000 (.d 100000 100001 (.b 5 (.c 5 (.b 5 (.c 5 (.k 0 [] [] [13001] [13001] (.b 13001 (.op ⟨.fz 13001 (.nl 1 .done),[13001],[],[],[13001]⟩ Qlm))))))))))),(27,.lp [1,2,37,38] [1,2] ⟨[(3,Qtb),(39,zs2)],[(100200,.var 146 (.ag (sL [V9,zs2,zs4,Q84,Jfg,.ns,.ns]))),(100201,Qf0),(100202,Qlo)]⟩ [(.x 2,⟨[(3,Qoy)],[(100300,.var 146 (.ag (sL [V9,zs2,zs4,Qw3,Q4o,.ns,.ns]))),(100301,Qf0),(100302,Qlo)]⟩)]),(38,.an (.dc 9 [43,44,45,46,47,48,49,50,51] [100200,7] [] (.b 100200 (.d 100200 100202 (.b 7 (.c 7 (.b 7 (.c 7 (.k 1 [] [] [14901] [14901] (.b 14901 (.op ⟨.fz 14901 (.nl 1 .done),[14901],[],[],[14901]⟩ Qlm))))))))))),(44,.lp [1,2,56,57] [1,2] ⟨[(3,Q4p),(58,zs2)],[(100400,.var 146 (.ag (sL [V9,zs2,zs4,Q4q,Jbw,.s 100403,.ns]))),(100401,Qf0),(100402,Qlo),(100403,Qte)]⟩ [(.x 4,⟨[(3,.p 100500 [])],[(100500,.var 146 (.ag (sL [V9,zs2,zs4,Jj2,Jj3,.s 100503,.ns]))),(100501,Qf0),(100502,Qlo),(100503,Qte)]⟩)]),(57,.rg (.n 3 (.fz 16401 Jby))),(63,.lp [2,74,75] [1,2] ⟨[(3,.p 100600 []),(76,zs2)],[(100600,.var 146 (.ag (sL [V9,zs2,zs4,.s 100601,.s 100602,.s 100603,.s 100604]))),(100601,Qf0),(100602,Qlo),(100603,Qte),(100604,Q4j)]⟩ [(.x 6,⟨[(3,.p 100700 [])],[(100700,.var 146 (.ag (sL [V9,zs2,zs4,.s 100701,.s 100702,.s 100703,.s 100704]))),(100701,Qf0),(100702,Qlo),(100703,Qte),(100704,Q4j)]⟩)])] func228⟩
def Q40(N:Nat):V:=⟨⟨164,(sD [.sl Ym,.str,.i]),[⟨[(0,.ag (sL [V9,zs2,zs4,Ry,Qhu,Q4c,.s 4])),(1,zs4)],Jpi⟩],u3 (Qng N),[]⟩,kF N [Qtl] [(8,.lp [0,1,2,6,11,12] [6] ⟨[(8,zs2),(13,zs2)],[]⟩ Jj4),(16,.jn [13] [] [(.n,Qpo)])] func164⟩
def Qzo(N:Nat):V:=⟨⟨274,Qs9,[zs1],Qjs N,[]⟩,kF N [] [(6,.lp [0,6] [] Q87 Qjy)] func274⟩
def Qpq(N:Nat):V:=⟨⟨276,⟨[(0,.d V7),(1,Zk)],Jpv⟩,[zs1],u2 (Tq N),[5000]⟩,kF N [] [] func276⟩
def N3(N:Nat):V:=⟨⟨304,Jpw,[zs7],u2 (Kl N),[5000]⟩,kF N [Qpq] [(6,.lp [0,1,7] [] Qpo Qni),(18,.rg (.n 5 (.call 0 .done)))] func304⟩
def Ic(N:Nat):V:=⟨⟨275,Jpw,[zs1],u2 (U2 N),[5000]⟩,kF N [N3] [] func275⟩
def Qu2(N:Nat):V:=⟨⟨229,Jo8,[⟨[(0,.m 1),(1,zs2)],[(1,Qw4)]⟩,⟨[(0,.nm),(1,zs2)],[]⟩],Qfp N,[]⟩,kF N [Qzo,Ic,P9] [(16,.lp [0,15,16] [] ⟨[(4,Jj6),(17,zs2)],[(100000,Qw4)]⟩ [(.x 0,⟨[(4,.m 100400)],[(100400,Qw4)]⟩),(.r,⟨[(2,.nm),(3,zs2)],[]⟩)]),(57,.lp [6,17,44,45] [6] ⟨[(4,Jj7),(46,zs2)],[(100100,Qw4)]⟩ [(.x 3,⟨[(4,.m 100200)],[(100200,Qw4)]⟩),(.r,⟨[(2,.nm),(3,zs2)],[]⟩)])] func229⟩
def Qpr(N:Nat):V:=⟨⟨230,⟨[(0,.m 5000),(1,V9),(2,zs2)],[(5000,Qw4)]⟩,[(sD [.str,.bool])],u3 (Tr N),[5000]⟩,kF N [] [(4,.lp [0,1] [] ⟨[(2,zs2)],[]⟩ [(.x 0,⟨[],[]⟩),(.r,⟨[(6,V9),(7,zs4)],[]⟩)])] func230⟩
def Qzp(N:Nat):V:=⟨⟨165,(sD [.sl V7,.str]),[(sD [.str,.bool])],u2 (Qjt N),[]⟩,kF N [Qu2,P9,Qpr] [(4,.an (.cn 6 (.two (.two (.reg (.n 3 (.sp 15 4 [1,6] [] Jjc Qen (.nl 1 Jjd) .done))) (.two Jpx (.gh (.tl .done) .nil))) .nil) (.two (.two (.reg (.n 3 (.sp 15 4 [1,6] [11001] Jjc Qen (.nl 1 Jjd) .done))) (.two Jpx .nil)) (.two (.reg (.n 4 (.call 2 Jby))) .nil))))] func165⟩
def Qzq(N:Nat):V:=⟨⟨277,Qs9,[zs1],Qju N,[]⟩,kF N [] [(6,.lp [0,6] [] Q87 Qjy)] func277⟩
def Qps(N:Nat):V:=⟨⟨279,⟨[(0,.d Uh),(1,Zk)],Jpy⟩,[zs1],u2 (Tt N),[5000]⟩,kF N [] [] func279⟩
def N4(N:Nat):V:=⟨⟨305,Jpz,[zs7],u2 (Km N),[5000]⟩,kF N [Qps] [(6,.lp [0,1,7] [] Qpo Qni),(18,.rg (.n 5 (.call 0 .done)))] func305⟩
def Id(N:Nat):V:=⟨⟨278,Jpz,[zs1],u2 (U3 N),[5000]⟩,kF N [N4] [] func278⟩
def Qu3(N:Nat):V:=⟨⟨280,Jpu,[zs7],Qfr N,[]⟩,kF N [] [(22,.lp [11,12] [] Jj8 Qpn)] func280⟩
def Qu4(N:Nat):V:=⟨⟨232,Jo9,[zs7],Qft N,[]⟩,kF N [Qzq,Id,Qu3] [(22,.lp [0,12,13] [] ⟨[(14,zs2)],[]⟩ Qpn),(30,.jn [14] [] [(.n,⟨[],[]⟩),(.r,⟨[(2,zs2)],[]⟩)])] func232⟩
def Qj7(N:Nat):V:=⟨⟨307,Jbs,[zs7],u2 (D2 N),[]⟩,kF N [] [(6,.lp [0,1,7] [] Qpo Qni)] func307⟩
def Qes(N:Nat):V:=⟨⟨283,Jbs,[zs1],u2 (E4 N),[]⟩,kF N [Qj7] [] func283⟩
def Qj8(N:Nat):V:=⟨⟨284,zs7,[zs7],D3 N,[]⟩,kF N [] [] func284⟩
def Q41(N:Nat):V:=⟨⟨234,Jbs,[zs7],u2 (Qnh N),[]⟩,kF N [Qes,Qj8] [] func234⟩
def Qtm(N:Nat):V:=⟨⟨281,⟨[(0,.d Zm),(1,Zk),(2,Qf1)],Jp0⟩,[zs1],u3 (Qc3 N),[5000,5001]⟩,kF N [] [] func281⟩
def N5(N:Nat):V:=⟨⟨306,Jp1,[zs7],u3 (Kn N),[5000,5001]⟩,kF N [Qtm] [(6,.lp [0,1,7] [] Qpo Qni),(18,.rg (.n 5 (.call 0 .done)))] func306⟩
def Ie(N:Nat):V:=⟨⟨282,Jp1,[zs1],u3 (U4 N),[5000,5001]⟩,kF N [N5] [] func282⟩
def Qzr(N:Nat):V:=⟨⟨233,(sD [.sl Uh,.i,.i]),[Qs9],u3 (Qjv N),[]⟩,kF N [Ie] [(8,.lp [0,7,11,12] [4,5] Jj8 [(.x 0,⟨[],[]⟩),(.r,⟨[(6,V9)],[]⟩)])] func233⟩
def Q88(N:Nat):V:=⟨⟨167,(sD [.sl Uh,.sl .i,.i]),[Qs9],u3 (Qs8 N),[]⟩,kF N [Qu4,Q41,Qzr] [] func167⟩
def Qnn(N:Nat):V:=⟨⟨231,⟨[(0,.d Xr),(1,Zk),(2,Qf1),(3,.p 5002 [])],[(5000,P5),(5001,Q4s),(5002,Q4s)]⟩,[zs1],u4 (Pn N),[5000,5001,5002]⟩,kF N [] [] func231⟩
def Qtn(N:Nat):V:=⟨⟨166,(sD [Ym,.i,.str,.str]),[⟨[(0,Jpm),(1,zs4)],Jbx⟩],u4 (Qc4 N),[]⟩,kF N [Qnn] [(8,.lp [10,15,16] [4,5,6,7] ⟨[(8,Qht),(17,zs2)],[(100000,Jp2)]⟩ [(.x 0,⟨[(8,Qhv)],[(100100,Jp2)]⟩),(.r,⟨[(8,Qtb),(9,zs4)],[(100200,.var 76 (.ag (sL [zs2,V9,V9,zs2,Q84]))),(100201,Qtg)]⟩)]),(20,.rg (.n 2 (.call 0 .done)))] func166⟩
def Qzs(N:Nat):V:=⟨⟨120,(sD [Kr,Yh,.i,.i,.str,.i]),[⟨[(0,Jjq),(1,zs2)],Jbx⟩],u6 (Qjw N),[]⟩,kF N [P9,Cj,Qtk,Q40,Qzp,Q88,Qtn,fun _=>⟨_,P3⟩] [(57,.gh (.fz 19402 (.dt 19 (.fz 19403 (.dt 19 (.fz 19404 (.dt 19 .done))))))),(57,.an (.dc 15 [108,109,110,111,112,113,114,115,116,117,107,118,119,23,1000000014] [19,6] [] (.c 19 (.a (.a (.b 19 (.c 19 (.b 6 (.c 6 (.a (.k 5 [] [] [] [] (.k 6 [] [] [21701] [21701] (.b 21701 (.b 21701 (.a (.e 23 (.g [23] [21701] [] [23,21701] Em)))))))))))))))))] func120⟩
def Fw(N:Nat):V:=⟨⟨74,Jp3,[⟨Jjo,[(1,.var 173 (.ag (sL [.ag (sL [zs2,zs2,zs2,zs2,.ag (sL [zs2,zs2,zs2,V9,V9,zs2,.ag (sL [zs2,V9,V9,zs2,Qhu]),zs2,zs2]),zs2,Q4c,zs2,zs2,zs4,Z9]),.ag (sL [.s 4,.s 5,.s 6])]))),(2,Qtg),(3,Zl),(4,Un),(5,Yq),(6,Cg)]⟩],u2 (Gl N),[]⟩,kF N [Dg,Nq] [(3,.an (.dc 3 [5,6,7] [3,2] [] (.c 3 (.k 0 [] [] [10602,10601] [10601,10602] (.c 2 (.tl (.call 1 Quz)))))))] func74⟩
def Rd(N:Nat):V:=⟨⟨168,Q4i,[Jj9],Ca N,[]⟩,kF N [] [] func168⟩
def Qo6(N:Nat):V:=⟨⟨169,Q4i,[(sD [Zn])],Qbh N,[]⟩,kF N [] [] func169⟩
def Qpt(N:Nat):V:=⟨⟨170,Qw1,[zs7],u2 (Tu N),[]⟩,kF N [] [(6,.lp [1,7,8] [] zs3 Qni)] func170⟩
def Qgt(N:Nat):V:=⟨⟨286,⟨[(0,.d Dt),(1,Zk)],[(5000,Q4s)]⟩,[zs1],u2 (Ar N),[5000]⟩,kF N [] [(6,.lp [1,7,8] [2] zs3 [(.x 0,⟨[],[]⟩),(.r,⟨[(3,zs4)],[]⟩)])] func286⟩
def Qgu(N:Nat):V:=⟨⟨309,Jka,[zs1],u2 (As N),[]⟩,kF N [] [] func309⟩
def Qgv(N:Nat):V:=⟨⟨310,Jka,[Jbk],u2 (At N),[]⟩,kF N [] [] func310⟩
def L0(N:Nat):V:=⟨⟨308,⟨[(0,Jbz),(1,.f 309 .nil),(2,.f 310 .nil)],[]⟩,[Qth],Zc N,[]⟩,kF N [Qgu,Qgv] [(8,.lp [1,2,11,12] [] ⟨Jpp,Jkb⟩ Jp4),(16,.jn [13] [] Jp5),(22,.an (.dc 10 [19,20,21,22,23,24,25,26,27,28] [100000,9] [] (.a (.a (.a (.so 21 (.a (.b 100000 (.a (.a (.d 100000 100000 (.c 100000 (.c 9 (.tl Q85)))))))) Q4h)))))),(24,.an (.dc 11 [31,32,33,34,35,36,37,38,39,40,41] [100000,9] [] (.b 100000 (.a (.a (.a (.b 100000 (.a (.a (.d 100000 100000 (.c 100000 (.c 9 Jjl))))))))))))] func308⟩
def Qj9(N:Nat):V:=⟨⟨285,⟨[(0,Jjx),(1,zs2),(2,.f 286 Jj5)],[(5000,Q4s)]⟩,[Qth],u3 (D4 N),[5000]⟩,kF N [Ra,Qgt,L0] [(8,.lp [2,12,13] [11201] ⟨[(7,Qhs),(14,zs2)],Jkb⟩ Jp4),(16,.jn [14] [] Jp5),(20,.rg (.n 2 (.call 1 .done)))] func285⟩
def Qka(N:Nat):V:=⟨⟨235,(sD [.sl Jr,.i,.str]),[Qth],u3 (D5 N),[]⟩,kF N [Qj9] [] func235⟩
def Qpu(N:Nat):V:=⟨⟨236,(sD [U0,U0]),[zs1],u2 (Tv N),[]⟩,kF N [] [] func236⟩
def Ql1(N:Nat):V:=⟨⟨171,Qw1,[⟨Qfz,[(1,Jb0)]⟩],u2 (Mg N),[]⟩,kF N [Qka,Qpu] [(5,.rg (.br zs5)),(12,.lp [0,1,15,16] [] ⟨[(5,Jj6),(6,Jj0),(7,Jfh),(17,zs2)],[(100000,Qo1),(100001,Qw5),(100002,Jb0)]⟩ [(.x 0,⟨[(7,.s 101100)],[(101100,Jb0)]⟩)]),(20,.jn [17] [] [(.n,⟨[(5,.m 101000),(6,.m 101001),(7,.s 101002)],[(101000,Qo1),(101001,Qw5),(101002,Jb0)]⟩)]),(24,.jn [6,7,9,17] [9,100001,100002] [(.n,⟨[(5,Jj7)],[(100100,Qo1)]⟩)]),(31,.jn [5,7,9,17] [9,100002,100100] [(.n,⟨[(6,.m 100300),(51,zs4)],[(100300,Qw5)]⟩)]),(31,.gh (.op (.v 9 [.f 5 5]) 100001 700000 .done)),(31,.rg (.n 11 (.sp 43 8 [5,6,7,9,17] [100001,700000] ⟨[(51,zs4)],[]⟩ zs6 (.nl 3 (.br (.nl 2 (.br zs5)))) (.cl 100001 .done)))),(36,.jn [5,7,9,17] [9,100002,100100] [(.n,⟨[(6,.m 100500)],[(100500,Qw5)]⟩)]),(37,.jn [5,7,9,17] [] [(.n,⟨[(6,.m 100400),(56,zs4)],[(100400,Qw5)]⟩)]),(37,.gh (.op (.v 9 [.f 5 5]) 100300 700001 .done)),(37,.rg (.n 3 (.br (.n 1 (.cl 100300 .done))))),(39,.rg (.n 4 (.br .done))),(42,.jn [5,7,9,17] [9,100002,100100] [(.n,⟨[(6,.m 100600)],[(100600,Qw5)]⟩)]),(42,.gh (.op (.v 9 [.f 5 5]) 100500 700002 .done)),(42,.rg (.n 3 (.br (.n 3 (.cl 100500 .done))))),(44,.an (.dc 13 [67,68,69,70,71,72,73,74,75,76,77,78,10] [9] [] (.a (.b 9 (.c 9 (.b 9 (.c 9 (.a (.b 9 (.c 9 (.b 9 (.c 9 (.k 0 [] [] [17701] [17701] (.b 17701 (.e 10 Em))))))))))))))),(49,.gh (.fz 17701 .done)),(49,.lp [5,6,7,10,17] [9,10,17701,100002,100100,100600] Jkc [(.x 2,Jkc)]),(52,.jn [11] [] Jt5),(52,.an (.dc 10 [79,80,81,82,83,84,85,86,87,88] [] [100002,10] (.a (.b 100002 (.c 100002 (.a (.a (.so 83 (.b 100002 (.a (.d 100002 100002 (.c 100002 (.d 10 17701 (.tl Jnv)))))) Jpf)))))))),(59,.rg (.n 2 (.fz 100002 Quz)))] func171⟩
def L1(N:Nat):V:=⟨⟨238,Jka,[(sD [J9,.bool])],u2 (Ww N),[]⟩,kF N [Ep] [(6,.rg (.n 1 (.call 0 (.n 2 (.sp 21 4 [3,4,6] [2,3,4,6] ⟨[(25,zs4)],[]⟩ Qen (.nl 1 Jjf) Qln)))))] func238⟩
def Tb(N:Nat):V:=⟨⟨323,zs7,[zs7],Ks N,[]⟩,kF N [] [(7,.jn [] [] [(.n,Q39)])] func323⟩
def Qpv(N:Nat):V:=⟨⟨328,zs7,[zs1],Tw N,[]⟩,kF N [] [] func328⟩
def Mq(N:Nat):V:=⟨⟨324,Qhw,[zs7],u2 (Xc N),[]⟩,kF N [Qpv] [(6,.rg (.n 3 (.sp 9 3 [0,1,5] [5] ⟨[(12,zs4)],[]⟩ (.nl 1 Q85) Jfe .done)))] func324⟩
def Qpw(N:Nat):V:=⟨⟨311,zs7,[(sD [Qhi])],Tx N,[]⟩,kF N [Tb,Mq] [(14,.lp [0,2] [2] ⟨[(3,Qht)],[(100000,Jb1)]⟩ [(.x 0,⟨[(3,Qhv)],[(100100,Jb1)]⟩)]),(27,.lp [2] [2] ⟨[(0,zs2),(3,Qtb)],[(100200,Jb1)]⟩ [(.x 2,⟨[(0,zs2),(3,Qoy)],[(100300,Jb1)]⟩)])] func311⟩
def Qno(N:Nat):V:=⟨⟨287,Qhw,[zs7],u2 (Hw N),[]⟩,kF N [Qpw] [(7,.jn [] [5] [(.n,Jjg)])] func287⟩
def Ql2(N:Nat):V:=⟨⟨329,Qhw,[zs7],u2 (Mh N),[]⟩,kF N [Mq] [] func329⟩
def Qto(N:Nat):V:=⟨⟨325,(sD [Qhi]),[Qhw],Qc5 N,[]⟩,kF N [Ql2,Tb,Mq] [(4,.jn [1] [1] [(.n,Q82)]),(4,.an (.dc 11 [6,7,8,9,10,11,12,13,14,15,16] [] [1] (.b 1 (.c 1 (.a (.a (.so 9 Q4h (.b 1 (.c 1 (.b 1 (.c 1 (.b 1 (.c 1 (.k 0 [] [] [] [] (.tl Qpl))))))))))))))),(11,.an (.dc 5 [19,20,21,22,23] [1] [] (.b 1 (.c 1 (.k 1 [] [] [] [] Jp6))))),(16,.lp [1] [1] Jpd [(.x 0,Q39)])] func325⟩
def Qnp(N:Nat):V:=⟨⟨312,Qhw,[zs7],u2 (Hx N),[]⟩,kF N [Qto] [] func312⟩
def Qnq(N:Nat):V:=⟨⟨288,Qhw,[Jbk],u2 (Pq N),[]⟩,kF N [Qnp] [(5,.jn [4] [4] [(.n,⟨[(5,Qht)],[(100000,.var 127 Qo0)]⟩)])] func288⟩
def Tc(N:Nat):V:=⟨⟨239,(sD [.i,J9]),[Qth],u2 (Gc N),[]⟩,kF N [Qno,Qnq] [(16,.lp [0,3] [3] ⟨[(5,Qhs),(6,zs2)],Jkb⟩ [(.x 0,⟨[(5,Qpm)],[(100100,Lu)]⟩)])] func239⟩
def Qgw(N:Nat):V:=⟨⟨237,⟨[(0,Qo0),(1,Zk),(2,Qf1),(3,.p 5003 [])],[(5000,P5),(5001,.var 301 Qtf),(5002,Lu),(5003,P5)]⟩,[⟨[],[(5001,.var 301 Ry),(1,Lu)]⟩],u4 (Au N),[5000,5003]⟩,kF N [L1,Tc] [(7,.an (.dc 4 [16,17,18,19] [5001,5] [5003] (.d 5001 5002 (.c 5003 (.c 5 (.k 1 [] [] [11901] [11901] Q4d))))))] func237⟩
def Qgx(N:Nat):V:=⟨⟨313,Jp7,[Jp8],u3 (Av N),[]⟩,kF N [Ep] [(3,.lp [1,7,8] [] ⟨[(2,Zk),(9,zs2)],[(5000,.var 431 Qtc),(100001,Qo3)]⟩ [(.x 0,⟨[],[(5000,.var 431 Q84),(100201,Qo3)]⟩)]),(11,.jn [9] [] [(.n,⟨[(2,Zk)],[(5000,.var 431 Qo2),(100101,Qo3)]⟩)])] func313⟩
def Qb0(N:Nat):V:=⟨⟨313,Jp7,[Jp8],u3 (Gp N),[]⟩,kF N [Ep] [(3,.lp [1,7,8] [] ⟨[(2,Zk),(9,zs2)],[(5000,.var 431 Qtc),(100001,Qo3)]⟩ [(.x 0,⟨[],[(5000,.var 431 Q84),(100201,Qo3)]⟩)]),(11,.jn [9] [] [(.n,⟨[(2,Zk)],[(5000,.var 431 Qo2),(100101,Qo3)]⟩)])] func313⟩
def Qkb(N:Nat):V:=⟨⟨290,(sD [.bool,.bool]),[zs1],u2 (D6 N),[]⟩,kF N [] [] func290⟩
def Qkc(N:Nat):V:=⟨⟨289,⟨[(0,Jbz),(1,Jbz),(2,.f 290 .nil)],[]⟩,[Qth],u2 (D7 N),[]⟩,kF N [Qgx,Qb0,fun _=>⟨_,H8⟩,Qkb] [(7,.rg (.n 2 (.call 0 .done))),(9,.rg (.n 2 (.call 1 .done))),(22,.lp [2,7,24,25] [7,12101] ⟨[(9,Qhs),(10,Qw2),(11,zs4),(26,zs2)],[(100000,Lu),(100001,Jp9)]⟩ [(.x 0,⟨[(9,Q4m)],[(100400,Lu)]⟩)]),(30,.jn [26] [] [(.n,⟨[(9,Qwx),(10,Jjs),(11,zs4)],[(100300,Lu),(100301,Jp9)]⟩)]),(34,.an (.dr 8 Qtd zs5)),(37,.an (.dr 16 (.n 6 (.sp 44 10 [9,10,11,12,13,26] [13,100000,100001] ⟨[(54,zs4)],[]⟩ Jbp Jbp .done)) .done)),(42,.rg (.n 7 (.call 3 zs5))),(44,.jn [10,14,26] [13,100001] [(.n,⟨[(9,Qta)],[(100200,Lu)]⟩)])] func289⟩
def Qnr(N:Nat):V:=⟨⟨240,(sD [.sl J9]),[Qth],Ps N,[]⟩,kF N [Qkc] [] func240⟩
def Qpx(N:Nat):V:=⟨⟨172,(sD [.sl U0,.i,.i]),[Qth],u3 (Tz N),[]⟩,kF N [Qgw,Qnr,Tc] [(10,.lp [17,18] [] ⟨[(4,Qht),(7,Qw2),(8,.f 237 (sL [.p 100002 [],Qw2,Qht])),(19,zs2)],[(100000,P5),(100001,.var 301 Jsr),(100002,P5),(100003,Lu)]⟩ [(.x 0,⟨[(4,Qoy),(7,Jjs)],[(100300,P5),(100301,.var 301 Q4o),(100302,Lu)]⟩)]),(24,.lp [19,24,25] [10] ⟨[(4,Qhv),(7,Jnt),(8,.f 237 (sL [.p 100102 [],Jnt,Qhv])),(26,zs2)],[(100100,P5),(100101,.var 301 Jsp),(100102,P5),(100103,Lu)]⟩ [(.x 2,⟨[(4,Qtb),(7,Jjv),(8,.f 237 (sL [.p 100202 [],Jjv,Qtb]))],[(100200,P5),(100201,.var 301 Jsq),(100202,P5),(100203,Lu)]⟩)]),(35,.rg (.n 2 (.call 0 .done))),(44,.lp [4,36,37] [13601,100300,100301,100302] ⟨[(13,Q4m),(38,zs2)],[(100400,Lu)]⟩ [(.x 4,⟨[(13,.s 100500)],[(100500,Lu)]⟩)])] func172⟩
def Qtp(N:Nat):V:=⟨⟨292,⟨[(0,.d J8),(1,Zk),(2,Qf1)],Jqa⟩,[zs1],u3 (Qc6 N),[5000,5001]⟩,kF N [] [] func292⟩
def Ms(N:Nat):V:=⟨⟨291,⟨[(0,Jqb),(1,.f 292 (sL [Zk,Qf1]))],Jqa⟩,[⟨Qfz,[(1,Qlp)]⟩],u3 (Z3 N),[5000,5001]⟩,kF N [Qtp] [(8,.lp [1,8,9] [] ⟨Jjr,[(100000,Qlp)]⟩ [(.x 0,⟨[(5,Qta)],[(100200,Qlp)]⟩)]),(16,.jn [10] [] [(.n,⟨[(5,Qpm)],[(100100,Qlp)]⟩)]),(20,.rg (.n 2 (.call 0 .done)))] func291⟩
def Qpy(N:Nat):V:=⟨⟨293,Jt6,[⟨[(0,.ag (sL [V9,zs2,zs2,V9,zs4,Ry]))],[(1,Qwy)]⟩],T0 N,[]⟩,kF N [] [(8,.lp [1,2,7,8] [1,2] ⟨[(3,Qhs),(9,zs2)],[(100000,Qwy)]⟩ [(.x 0,⟨Q4r,[(100100,Qwy)]⟩)]),(21,.rg (.n 2 (.fz 15 Quz)))] func293⟩
def Qzt(N:Nat):V:=⟨⟨241,(sD [.sl J8,.str,.i]),[⟨[(0,.ag (sL [V9,zs2,zs2,V9,zs4,Ry])),(1,zs4)],[(1,Qwy)]⟩],u3 (Qjx N),[]⟩,kF N [Ms,Qpy] [] func241⟩
def Qdk(N:Nat):V:=⟨⟨173,(sD [U0,.sl J8,J9]),[⟨Qfz,[(1,Jb2)]⟩],u3 (Hy N),[]⟩,kF N [L1,Qzt] [(6,.lp [1,3,5,18,19] [3,5] ⟨[(20,zs2)],[]⟩ [(.x 0,⟨[],[]⟩),(.r,⟨[(6,Q4m)],[(100400,Jb2)]⟩)]),(33,.lp [9,42,43] [8,9,11,13801] ⟨[(13,Qpm),(44,zs2)],[(100100,Jb2)]⟩ [(.x 2,⟨[(13,Qta)],[(100200,Jb2)]⟩)])] func173⟩
def Td(N:Nat):V:=⟨⟨242,Q4g,[zs1],u2 (Fu N),[]⟩,kF N [] [] func242⟩
def Qtq(N:Nat):V:=⟨⟨243,(sD [Q9,Q9,.i]),[Jj9],u3 (Qc7 N),[]⟩,kF N [Rd,Td] [(5,.jn [6] [3,4,6] [(.n,⟨[(7,Qht)],[(100000,.var 129 (.ag (sL [zs2,zs2,V9,zs2,zs2,Qtc,Qo0,zs2,zs2,zs2,zs4]))),(100001,Q4b)]⟩)])] func243⟩
def Qpz(N:Nat):V:=⟨⟨244,Q4g,[zs1],u2 (T1 N),[]⟩,kF N [] [] func244⟩
def Qkd(N:Nat):V:=⟨⟨174,⟨[(0,Zk),(1,.d Fr)],[(5000,.var 293 (.ag (sL [Qox,S8]))),(5001,Un),(5002,Qec)]⟩,[⟨[],[(5000,.var 293 (.ag (sL [Ry,S8]))),(5002,Qec),(1,Un)]⟩],u3 (D8 N),[]⟩,kF N [Qo6,Rd,Td,Qtq,Qpz] [(4,.an (.dc 7 [9,10,11,12,13,14,15] [5000,3] [] (.b 5000 (.d 5000 5000 (.b 5000 (.d 5000 5002 (.b 3 (.c 3 Jqc)))))))),(14,.gh (.fz 11901 .done)),(14,.lp [0,3,23,24] [3,5000,5001,5002] ⟨[(4,Qht),(25,zs2)],[(100000,.var 129 (.ag (sL [zs2,zs2,V9,zs2,zs2,Qtc,Qo0,zs2,zs2,zs2,zs4]))),(100001,.tail 9 .str)]⟩ [(.x 0,⟨[(4,Qhv)],[(100100,.var 129 (.ag (sL [zs2,zs2,V9,zs2,zs2,Qo2,Qo0,zs2,zs2,zs2,zs4]))),(100101,.tail 9 .str)]⟩)]),(37,.lp [0,4] [3,5000,5001,5002,100100,100101] Q87 [(.x 2,Q87)]),(40,.jn [7] [] [(.n,Jsh)]),(40,.an (.dc 16 [38,39,40,41,42,43,44,45,46,47,48,49,50,51,52,53] [] [5000,5001,100100] (.a (.b 5000 (.d 5000 5000 (.b 5000 (.d 5000 5001 (.c 5001 (.a (.a (.so 45 (.b 5000 (.d 5000 5000 (.b 5000 (.d 5000 5001 (.a (.d 5001 5001 (.c 5001 (.d 100100 100101 (.tl (.call 4 zs5)))))))))) Jqd))))))))))),(47,.rg (.n 5 (.fz 5001 Quz))),(52,.gh (.dt 100100 .done)),(52,.an (.dc 6 [80,81,82,83,84,85] [5000,100100] [] (.b 5000 (.d 5000 5000 (.b 5000 (.d 5000 5002 (.c 100100 Jqc)))))))] func174⟩
def Qb1(N:Nat):V:=⟨⟨121,(sD [.sl Jr,.sl J8,Yh,.i,.i]),[Qwz],u5 (Cb N),[]⟩,kF N [Rd,Qo6,Qpt,Ql1,Qpx,Qdk,Qkd] [(8,.lp [0,1,3,4,7,10,27,28] [7,10] ⟨[(11,Qht),(29,zs2)],[(100000,.var 293 (.ag (sL [Qtc,.m 100002]))),(100001,Un),(100002,Qec)]⟩ [(.x 0,⟨[(11,Qhv)],[(100100,.var 293 (.ag (sL [Qo2,.m 100102]))),(100101,Un),(100102,Qec)]⟩)]),(20,.an (.dc 9 [33,34,35,36,37,38,39,40,41] [100000,13,100001] [] (.b 100000 (.b 100000 (.d 100000 100000 (.b 100000 (.d 100000 100001 (.c 13 (.k 0 [] [] [13901] [13901] (.op ⟨.fz 13901 (.nl 1 .done),[13901],[],[],[13901]⟩ (.g [100001] [] [41] [41] Qlm))))))))))),(21,.an (.dc 6 [44,45,46,47,48,49] [100000,13] [] (.b 100000 (.d 100000 100000 (.b 100000 (.d 100000 100002 (.c 13 (.k 1 [] [] [] [] Em)))))))),(24,.an (.dc 8 [51,52,53,54,55,56,57,14] [7] [] (.b 7 (.c 7 (.e 53 (.b 7 (.c 7 (.e 56 (.g [] [] [] [53,56] (.e 14 Em)))))))))),(28,.jn [10,14] [7,10,14,53,56] [(.n,⟨[(11,.p 100900 [])],[(100900,.var 293 (.ag (sL [.s 100901,.m 100902]))),(100901,Un),(100902,Qec)]⟩)]),(36,.lp [1,4,10,14,16,77,78] [17301,17701] ⟨[(11,Qtb),(79,zs2)],[(100200,.var 293 (.ag (sL [Q84,.m 100202]))),(100201,Un),(100202,Qec)]⟩ [(.x 2,⟨[(11,.p 100800 [])],[(100800,.var 293 (.ag (sL [.s 100801,.m 100802]))),(100801,Un),(100802,Qec)]⟩)]),(50,.lp [18,79,83,84] [18] ⟨[(11,Qoy),(85,zs2)],[(100300,.var 293 (.ag (sL [Qw3,.m 100302]))),(100301,Un),(100302,Qec)]⟩ [(.x 4,⟨[(11,.p 100700 [])],[(100700,.var 293 (.ag (sL [.s 100701,.m 100702]))),(100701,Un),(100702,Qec)]⟩)]),(64,.lp [85,92,93] [20,19201] ⟨[(11,Q4p),(94,zs2)],[(100400,.var 293 (.ag (sL [Q4q,.m 100402]))),(100401,Un),(100402,Qec)]⟩ [(.x 6,⟨[(11,.p 100600 [])],[(100600,.var 293 (.ag (sL [.s 100601,.m 100602]))),(100601,Un),(100602,Qec)]⟩)]),(72,.jn [94] [] [(.n,⟨[(11,.p 100500 [])],[(100500,.var 293 (.ag (sL [Jj2,.m 100502]))),(100501,Un),(100502,Qec)]⟩)])] func121⟩
def Ql3(N:Nat):V:=⟨⟨245,Jbj,[⟨Qfz,[(1,Un)]⟩],Mi N,[]⟩,kF N [] [(8,.lp [6,7] [] ⟨[(3,Qhs),(8,zs2)],[(100000,Un)]⟩ [(.x 0,⟨Q4r,[(100100,Un)]⟩)]),(21,.rg (.n 2 (.fz 14 Quz)))] func245⟩
def Qp0(N:Nat):V:=⟨⟨175,Q4f,[Qwz],T2 N,[]⟩,kF N [Ql3] [(3,.an (.dc 8 [3,4,5,6,7,8,9,10] [1] [] (.b 1 (.c 1 (.k 0 [] [] [10501] [10501] (.b 1 (.c 1 (.e 8 Jp6))))))))] func175⟩
def Qns(N:Nat):V:=⟨⟨176,Jbr,[zs1],u3 (Pu N),[]⟩,kF N [] [(6,.lp [1,2,9,10] [] Jkc Jt7)] func176⟩
def Qnt(N:Nat):V:=⟨⟨246,Jpg,[⟨[(0,.m 1)],[(1,Qlq)]⟩],Pv N,[]⟩,kF N [] [(8,.lp [9,10] [] ⟨[(3,Jj6),(11,zs2)],[(100000,Qlq)]⟩ [(.x 0,⟨[(3,.m 100200)],[(100200,Qlq)]⟩)]),(16,.jn [11] [] [(.n,⟨[(3,Jj7)],[(100100,Qlq)]⟩)])] func246⟩
def Qtr(N:Nat):V:=⟨⟨177,(sD [.sl Ya,.i]),[⟨[(0,Ry),(1,zs2)],[(1,Yq)]⟩],u2 (Qc8 N),[]⟩,kF N [Qnt] [(16,.lp [0,1] [11201] Qpo Jj4),(19,.rg (.n 5 (.sp 25 8 [8] [] ⟨[(33,zs4)],[]⟩ zs6 zs6 .done)))] func177⟩
def U7(N:Nat):V:=⟨⟨161,(sD [.i,.i,.i]),[zs1],u3 (Yj N),[]⟩,kF N [] [] func161⟩
def Qgy(N:Nat):V:=⟨⟨226,zs7,[zs1],Nw N,[]⟩,kF N [] [] func226⟩
def X7(N:Nat):V:=⟨⟨159,Jjk,[zs7],K1 N,[]⟩,kF N [U7,Qgy] [(5,.rg (.n 2 (.call 0 (.n 2 (.sp 8 5 [1] [1] zs8 H9 Jje (.n 1 (.sp 14 5 [1] [1] Jjc H9 Q86 zs5))))))),(11,.rg (.n 2 (.call 0 (.n 2 (.sp 25 5 [1] [1] Jjj H9 Q86 zs5)))))] func159⟩
def Fx(N:Nat):V:=⟨⟨160,Qlr,[Qlr],u2 (Yv N),[]⟩,kF N [] [] func160⟩
def Qp1(N:Nat):V:=⟨⟨179,Qlr,[Qlr],u2 (T3 N),[]⟩,kF N [X7,Fx,U7,Qgy] [(14,.rg (.n 1 (.call 2 (.n 2 (.sp 19 7 [1,2,4] [2,4] ⟨[(26,zs4)],[]⟩ Qnj (.nl 4 (.call 3 Qpl)) .done)))))] func179⟩
def Qib(N:Nat):V:=⟨⟨178,⟨[(0,.d Ya),(1,zs2),(2,Zk)],[(5000,Q4t)]⟩,[⟨[],[(5000,Q4t)]⟩],u3 (G7 N),[]⟩,kF N [] [] func178⟩
def Qts(N:Nat):V:=⟨⟨180,Qlr,[Qlr],u2 (Qc9 N),[]⟩,kF N [X7,Fx,U7] [] func180⟩
def Te(N:Nat):V:=⟨⟨122,(sD [.sl Jr,Yh,.i,.i]),[Qwz],u4 (Fv N),[]⟩,kF N [Qp0,Qns,Qtr,Qp1,Qib,Qts] [(6,.rg (.n 7 (.sp 24 6 [0,2,3,8,9] [5,8,9,11701,11702,11703] Jjj Qzm Jnr .done))),(22,.lp [2,3,8,9,10,11,44,45] [5,8,9,11701,11702,11703,13601] ⟨[(12,Qhv),(13,.f 178 (sL [Qhv])),(46,zs2)],[(100100,Q4t)]⟩ [(.x 0,⟨[(12,Q4p)],[(100400,Q4t)]⟩)]),(30,.jn [46] [] [(.n,⟨[(12,Qoy),(13,.f 178 (sL [Qoy]))],[(100300,Q4t)]⟩)]),(35,.an (.dr 20 (.n 5 (.sp 54 9 [12,13,15,46] [15,100100] Jst Q80 Q80 Qzn)) .done)),(45,.rg (.n 4 (.call 3 Jqe))),(49,.rg (.n 4 (.call 5 Jqe)))] func122⟩
def Re(N:Nat):V:=⟨⟨155,Qhw,[zs1],u2 (K2 N),[]⟩,kF N [] [] func155⟩
def Qtt(N:Nat):V:=⟨⟨224,Q4i,[Jj9],Qda N,[]⟩,kF N [] [] func224⟩
def Qef(N:Nat):V:=⟨⟨152,Jbj,[⟨Qfz,[(1,Un)]⟩],Il N,[]⟩,kF N [Qtt] [(8,.lp [6,7] [] ⟨[(3,Qhs),(8,zs2)],[(100000,Un)]⟩ [(.x 0,⟨Q4r,[(100100,Un)]⟩)]),(19,.rg (.n 2 (.call 0 (.fz 11401 Quz))))] func152⟩
def Qnu(N:Nat):V:=⟨⟨295,Qhw,[zs7],u2 (Xx N),[]⟩,kF N [] [] func295⟩
def Qnv(N:Nat):V:=⟨⟨255,Q4g,[zs1],u2 (Px N),[]⟩,kF N [Qnu] [] func255⟩
def Nt(N n:Nat):Con:=⟨185,(sD [.sl Q9,.i,.i]),[(sD [.sl .i])],fun(x0,x1,x2)=>U5 N n x0 x1 x2,[]⟩
theorem Rf(N:Nat):∀n,KO (Nt N n)
 | 0=>⟨Qhg fun _=>rfl,K4 func185 rfl⟩
 | n+1=>have ih:=Rf N n; kF N [fun _=>⟨_,ih⟩,Qnv] [(12,.lp [2] [] Jpc [(.x 0,⟨[(7,Qpm)],[(100100,Fk)]⟩)]),(37,.lp [0,10,11] [] ⟨[(12,Qta),(13,zs2),(14,zs2)],[(100200,Fk)]⟩ [(.x 2,⟨[(12,Q4m)],[(100400,Fk)]⟩)]),(46,.jn [12,13,14] [100200] [(.n,⟨[(85,zs4)],[]⟩)]),(46,.an (.dc 24 [58,59,60,61,62,63,64,65,66,67,68,69,70,71,72,73,74,75,76,77,78,79,80,81] [] [] (.a (.a (.a (.a (.a (.so 62 (.a (.a (.a (.a (.a Jqg))))) (.a (.a (.a (.a (.a (.so 67 (.a (.a (.a (.a (.a (.a (.a (.a (.a (.a (.a (.a (.a (.a (.tl (.call 1 Jfe)))))))))))))))) Jqg))))))))))))))] func185
def Qp2(N:Nat):V:=⟨Nt N N,Rf N N⟩
def Qp3(N:Nat):V:=⟨⟨186,(sD [Q9,.i,.i,.i,.str,.bool,.i]),[zs1],u7 (T4 N),[]⟩,kF N [Ns] [(4,.rg (.n 10 (.sp 26 6 [1,2,4,5,6,7] [7] ⟨[(32,zs4)],[]⟩ Qzm Jkd .done))),(22,.lp [4,7,53,54] [7] ⟨[(55,zs2)],[]⟩ [(.x 0,⟨[],[]⟩),(.r,⟨[(14,zs4)],[]⟩)])] func186⟩
def Qo7(N:Nat):V:=⟨⟨153,Q4i,[(sD [Qbf])],Qhj N,[]⟩,kF N [] [] func153⟩
def Qai(N:Nat):V:=⟨⟨125,(sD [.sl Q9,.i,.i,.i,.str,.bool,.i,.i]),[⟨[(0,Ry),(1,Qhu),(2,zs2)],[(1,Un),(2,Zl)]⟩],u8 (Lj N),[]⟩,kF N [Qef,Qp2,Qp3,Qo7] [(12,.lp [0,1,2,3,4,5,6,32,33] [] ⟨[(7,zs2),(19,Qhs),(20,Qtc),(34,zs2)],[(100000,Un),(100001,Zl)]⟩ [(.x 0,⟨[(7,zs2),(19,Qwx),(20,Qw3)],[(100300,Un),(100301,Zl)]⟩)]),(20,.jn [34] [] [(.n,⟨[(7,zs2),(19,Qta),(20,Q84)],[(100200,Un),(100201,Zl)]⟩),(.x 0,⟨[(7,zs2),(19,Qpm),(20,Qo2)],[(100100,Un),(100101,Zl)]⟩)])] func125⟩
def Ax(N:Nat):V:=⟨⟨126,Jbr,[(sD [Za,.bool])],u3 (Xy N),[]⟩,kF N [Qby] [(6,.lp [1,13,14] [11201,11202] ⟨Jpt,[(100000,Jqh)]⟩ [(.x 0,⟨[(6,Qhv)],[(100100,Jqh)]⟩),(.r,⟨Jjw,[(100200,.var 243 (.d Za))]⟩)])] func126⟩
def Qi3(N:Nat):V:=⟨⟨254,Jjk,[zs7],Sx N,[]⟩,kF N [X7] [] func254⟩
def Qnw(N:Nat):V:=⟨⟨322,(sD [.i,.sl .i]),[zs1],u2 (Cc N),[]⟩,kF N [] [(6,.lp [0,7,8] [] zs3 Qhr)] func322⟩
def Qp4(N:Nat):V:=⟨⟨302,Jjh,[zs7],T5 N,[]⟩,kF N [Qnw] [(24,.lp [0,12,13] [] ⟨[(3,zs2),(14,zs2)],[]⟩ Qpn),(37,.rg (.n 5 (.call 0 (.n 7 (.sp 31 6 [3,4,5,14] [5] Jsf Qzm Jkd .done)))))] func302⟩
def Ql4(N:Nat):V:=⟨⟨303,Jqi,[(sD [.i,.bool])],u2 (Mj N),[]⟩,kF N [] [(8,.lp [1,12,13] [] ⟨[(6,zs2),(7,zs2),(14,zs2)],[]⟩ [(.x 0,Jjg),(.r,⟨[(4,zs2),(5,zs4)],[]⟩)]),(22,.jn [6,7,9,14] [9] Jqj),(37,.an (.dr 7 Qln .done))] func303⟩
def Qtu(N:Nat):V:=⟨⟨269,Jqi,[Qhw],u2 (Qdb N),[]⟩,kF N [Qp4,Ql4] [] func269⟩
def Qgz(N:Nat):V:=⟨⟨225,Jqk,[Qhw],u2 (Wx N),[]⟩,kF N [Qtu] [] func225⟩
def E9(N:Nat):V:=⟨⟨156,Jqk,[Qhw],u2 (K3 N),[]⟩,kF N [Re,Qgz] [(4,.rg (.n 1 (.call 0 (.n 2 (.sp 12 6 [1,2] [2] Q82 Qzm Jkd (.n 9 (.sp 27 7 [1,2] [2] ⟨[(34,zs4)],[]⟩ Qnj (.nl 4 Jjf) .done)))))))] func156⟩
def Qet(N:Nat):V:=⟨⟨253,⟨[(0,zs2),(1,Zk),(2,Qf1)],[(5000,.var 276 (.d Ik)),(5001,P5)]⟩,[zs1],u3 (E5 N),[5000,5001]⟩,kF N [E9] [] func253⟩
def Qic(N:Nat):V:=⟨⟨183,(sD [Ik,.i,.i]),[zs7],u3 (Cd N),[]⟩,kF N [Qet] [(16,.lp [7] [3,5] ⟨[(8,zs2),(9,zs2)],[]⟩ Jj4),(27,.rg (.n 2 (.call 0 .done)))] func183⟩
def Ql5(N:Nat):V:=⟨⟨188,(sD [Hp,.i]),[Qhw],u2 (Qdc N),[]⟩,kF N [E9] [] func188⟩
def Qi4(N:Nat):V:=⟨⟨189,Qlr,[Qlr],u2 (S5 N),[]⟩,kF N [X7,Fx,U7,Qi3] [] func189⟩
def Qnx(N:Nat):V:=⟨⟨184,⟨[(0,Ka),(1,Jb4),(2,Qed),(3,zs2)],[(5000,Yq)]⟩,[zs7],u6 (Pz N),[5000]⟩,kF N [Ax,X7,Qi3] [(16,.lp [6,30,31] [4,5,6,9] ⟨[(32,zs2)],[]⟩ [(.x 0,⟨[],[]⟩),(.r,Qpo)]),(39,.an (.dc 5 [44,45,46,47,48] [12] [] (.c 12 (.k 2 [] [] [] [] (.b 12 (.c 12 (.a Q4d)))))))] func184⟩
def Qb2(N:Nat):V:=⟨⟨124,⟨[(0,Ka),(1,Jb4),(2,Qed),(3,zs2),(4,zs2)],[(5000,Yq)]⟩,[Qhw],u7 (Ce N),[5000]⟩,kF N [Re,Cj,Qai,Qnx,Qic] [(13,.jn [3,4,5,6,7] [5,6,7] [(.n,⟨[(12,zs2)],[]⟩)]),(29,.an (.dc 12 [74,75,76,77,78,79,80,81,82,83,84,85] [7,5,6] [5000] (.a (.c 7 (.a (.a (.a (.a (.c 5 (.d 6 5000 (.c 7 (.a (.k 3 [] [5000] [] [] (.k 4 [] [] [] [] Q4d))))))))))))))] func124⟩
def Mt(N:Nat):V:=⟨⟨158,⟨Jke,[(5000,.var 170 Qf1),(5001,.var 173 (.ag (sL [Jql,.ag (sL [Wh,Qw0,Lv])]))),(5002,Zl),(5003,Yq)]⟩,[zs1],u15 (Z4 N),[5000,5001,5002,5003]⟩,kF N [] [(3,.an (.dr 10 (.n 10 .done) .done))] func158⟩
def K5(N:Nat):V:=⟨⟨157,⟨Jkf,[(5000,Yq),(5001,.var 170 (.p 5002 [])),(5002,.var 173 (.ag (sL [Jqm,Jb4]))),(5003,Zl)]⟩,[zs7],u14 (Vc N),[5000,5001,5002,5003]⟩,kF N [Mt] [(6,.lp [0,1,7] [] Qpo Qni),(18,.rg (.n 5 (.call 0 .done)))] func157⟩
def Rg(N:Nat):V:=⟨⟨118,⟨Bg,Qw6⟩,[⟨Qo4,[(5002,Yq)]⟩],u14 (Xd N),[5000,5001]⟩,kF N [K5] [] func118⟩
def N6(N:Nat):V:=⟨⟨127,⟨Qi1,Qw6⟩,[⟨[],Jqo⟩],u15 (Ko N),[]⟩,kF N [Ql5,Rg,Qi4] [(15,.an (.dc 11 [46,47,48,49,50,51,52,53,54,55,1000000010] [5000,7,5002] [] (.b 5000 (.d 5000 5000 (.b 5000 (.b 5000 (.d 5000 5002 (.a (.b 5000 (.c 7 (.a (.d 5002 5002 (.f 5002 5002 Q4u)))))))))))))] func127⟩
def Qdl(N:Nat):V:=⟨⟨82,⟨Jqp,Jqq⟩,[⟨Qo4,[(5000,.var 173 (.ag (sL [.ag (sL [zs2,zs2,zs2,zs2,Jb5,zs2,Ry,zs2,zs2,zs4,Z9]),Jkh]))),(1,Zl),(2,Yq)]⟩],u29 (Hz N),[]⟩,kF N [Qb1,Te,Cj,Qb2,Qai,Ax,N6] [(3,.gh (.fz 5003 (.dt 5000 (.fz 5004 (.dt 5000 (.fz 5005 Lt)))))),(3,.an (.dc 17 [15,16,17,18,19,20,21,22,23,24,25,26,27,28,29,30,31] [5,5000] [] (.b 5000 (.b 5 (.c 5 (.b 5 (.c 5 (.b 5000 (.d 5000 5000 (.b 5000 (.c 5000 (.b 5000 (.d 5000 5000 (.b 5000 (.b 5000 (.b 5000 (.c 5000 (.a (.k 0 [] [] [13103,13102,13101] [13101,13102,13103] Qlm))))))))))))))))))),(5,.gh (.fz 13101 (.dt 5000 (.fz 13102 (.dt 5000 (.fz 13103 Lt)))))),(5,.an (.dc 15 [34,35,36,37,38,39,40,41,42,43,44,45,46,47,48] [5,5000] [] (.b 5000 (.b 5 (.c 5 (.b 5000 (.d 5000 5000 (.b 5000 (.c 5000 (.b 5000 (.d 5000 5000 (.b 5000 (.b 5000 (.b 5000 (.c 5000 (.a (.k 1 [] [] [14803,14802,14801] [14801,14802,14803] Qlm))))))))))))))))),(9,.an (.dc 15 [59,60,61,62,63,64,65,66,67,68,58,69,70,9,1000000014] [5,5000] [] (.b 5 (.c 5 (.b 5000 (.d 5000 5000 (.b 5000 (.b 5000 (.b 5000 (.c 5000 (.a (.k 2 [] [] [] [] (.a (.a (.a (.e 9 (.f 9 9 Em))))))))))))))))),(26,.gh (.fz 14801 (.dt 5000 (.fz 14803 (.dt 5000 (.fz 5001 Lt)))))),(26,.an (.dc 17 [78,79,80,81,82,83,84,85,86,87,88,89,90,77,91,92,11] [5,5000,14802] [] (.c 5 (.b 5000 (.d 5000 5000 (.b 5000 (.d 5000 14802 (.b 5000 (.d 5000 5000 (.b 5000 (.b 5000 (.c 5000 (.a (.a (.k 3 [] [14802] [] [] (.a (.a (.a Jbi)))))))))))))))))),(44,.jn [2,5,11,12] [5,9,5001,5003,5004,5005,13101,13102,13103,14801,14803] [(.n,⟨Bg,[(5000,.var 173 (.ag (sL [.ag (sL [zs2,zs2,zs2,zs2,Qed,zs2,Qtc,zs2,zs2,zs4,Z9]),.ag (sL [Wh,Jfh,Lv])]))),(100001,Zl),(100002,Yq)]⟩)]),(47,.an (.dc 48 [102,103,104,105,106,107,108,109,110,111,112,113,114,115,116,117,118,119,120,121,122,123,124,125,126,127,128,129,130,131,132,133,134,135,136,137,101,138,139,140,141,142,143,1000000043,144,145,146,1000000047] [5000] [9] (.b 5000 (.b 5000 (.b 5000 (.d 5000 5000 (.b 5000 (.b 5000 (.c 5000 (.b 5000 (.d 5000 5000 (.b 5000 (.b 5000 (.b 5000 (.c 5000 (.b 5000 (.d 5000 5000 (.b 5000 (.b 5000 (.b 5000 (.c 5000 (.b 5000 (.d 5000 5000 (.b 5000 (.b 5000 (.b 5000 (.c 5000 (.b 5000 (.d 5000 5000 (.b 5000 (.b 5000 (.b 5000 (.c 5000 (.b 9 (.c 9 (.a (.a (.k 4 [] [] [23702,23701] [23701,23702] (.g [] [] [] [23701,23702] (.b 23701 (.b 23702 (.a (.d 5000 5000 (.b 5000 (.b 5000 (.g [5000] [23701] [] [5000,5002,14802,23701] Jqr)))))))))))))))))))))))))))))))))))))))))))))),(50,.jn [11,12] [5,9,5001,5003,5004,5005,13101,13102,13103,14801,14803] [(.n,⟨Bg,[(5000,.var 173 (.ag (sL [.ag (sL [zs2,zs2,zs2,zs2,Qed,zs2,Qo2,zs2,zs2,zs4,Z9]),.ag (sL [Wh,Jff,Lv])]))),(100101,Zl),(100102,Yq)]⟩)]),(51,.an (.dc 15 [148,149,150,151,152,153,154,155,156,157,147,158,159,13,1000000014] [5000] [5] (.b 5 (.c 5 (.b 5000 (.d 5000 5000 (.b 5000 (.b 5000 (.b 5000 (.c 5000 (.a (.k 5 [] [] [] [] (.a (.a (.a (.e 13 (.f 13 13 Em)))))))))))))))))] func82⟩
def Qeu(N:Nat):V:=⟨⟨80,⟨Jki,Qw6⟩,[Jqt],u18 (E6 N),[]⟩,kF N [] [(5,.an (.dc 9 [22,23,24,25,26,27,28,29,1000000008] [6,13,5000] [] (.b 5000 (.b 5000 (.b 6 (.c 6 (.c 13 (.d 5000 5000 (.b 5000 (.b 5000 (.g [5000] [] [] [5000,5001,5002] Q4u))))))))))),(7,.an (.dc 11 [33,34,35,36,37,38,39,40,41,1000000009,1000000010] [5000,13,10,5002,11,5001] [] (.b 5000 (.d 5000 5000 (.b 5000 (.d 5000 5002 (.b 5000 (.d 5000 5000 (.b 5000 (.d 5000 5001 (.c 13 (.g [10] [5002] [] [10,5002] (.g [11] [5001] [] [11,5001] Em)))))))))))))] func80⟩
def R2(N:Nat):V:=⟨⟨81,⟨Jqu,Qw6⟩,[Jqt],u16 (Xz N),[]⟩,kF N [Qeu] [(5,.jn [0,2,4,6,7,8] [4,6,7,8,5000,5001,5002] Jkj),(11,.an (.dc 13 [21,22,23,24,25,26,27,28,29,30,31,32,33] [4,5000,5001,5002] [] (.b 5000 (.c 4 (.b 5000 (.d 5000 5000 (.b 5000 (.b 5000 (.c 5000 (.a (.a (.k 0 [5000,5001,5002] [] [13002,13001] [5000,13001,13002] (.b 13001 (.b 13002 Jqv))))))))))))))] func81⟩
def Qu5(N:Nat):V:=⟨⟨154,(sD [.i,.i,.i]),[zs1],u3 (Qfv N),[]⟩,kF N [] [] func154⟩
def Qi5(N:Nat):V:=⟨⟨116,(sD [.sl Q9,.sl Xt]),[⟨[(0,Ry),(1,zs2)],[(1,Un)]⟩],u2 (S7 N),[]⟩,kF N [Qef,Qo7,Qu5] [(8,.lp [14,15] [] ⟨Jpq,[(100000,Un)]⟩ [(.x 0,⟨[(6,Qwx)],[(100300,Un)]⟩),(.r,⟨[(4,.ns),(5,zs2)],[]⟩)]),(33,.lp [6,8,16,23,24] [8,100000] ⟨[(9,zs2),(25,zs2)],[]⟩ [(.x 2,zs3)]),(45,.an (.dc 11 [30,31,32,33,34,35,36,37,38,39,40] [11] [8] (.c 11 (.k 1 [] [] [] [] (.b 8 (.c 8 (.b 8 (.c 8 (.b 8 (.c 8 (.b 8 (.c 8 Jbi)))))))))))),(62,.an (.dr 12 (.n 12 .done) Jsk)),(68,.an (.dr 10 (.n 10 .done) zs5))] func116⟩
def Qg0(N:Nat):V:=⟨⟨117,(sD [Hp,.i,.i]),[⟨[(0,Jjq),(1,zs2),(2,zs2)],Jbx⟩],u3 (Nx N),[]⟩,kF N [Re,E9,fun _=>⟨_,Vk⟩] [(4,.rg (.n 1 (.call 0 (.n 2 (.sp 15 5 [1,2,3,6] [3,6] ⟨[(20,zs4)],[]⟩ H9 Q86 Qln))))),(23,.an (.dc 10 [41,42,43,44,45,46,47,48,49,1000000009] [3,11] [] (.b 3 (.c 3 (.a (.a (.b 3 (.c 3 (.a (.a (.b 11 (.f 11 11 Q4d))))))))))))] func117⟩
def Rh(N:Nat):V:=⟨⟨118,⟨Bg,Qw6⟩,[⟨Qo4,Jqo⟩],u14 (Xe N),[]⟩,kF N [K5] [] func118⟩
def Qeg(N:Nat):V:=⟨⟨119,(sD [Ya,.i,.i]),[Qlr],u3 (Im N),[]⟩,kF N [X7,Fx,U7] [] func119⟩
def Qb3(N:Nat):V:=⟨⟨75,⟨Qi1,Qw6⟩,[⟨[],Q4v⟩],u15 (Gq N),[]⟩,kF N [Qi5,Qg0,Rh,Qeg] [(6,.lp [0,1,23,24] [5000,5001,5002] Jqw Jqx),(14,.jn [25] [] [(.n,⟨[(4,zs2),(5,Qpm)],[(100100,Zl)]⟩)]),(30,.jn [1,4] [] [(.n,⟨Bg,[(5000,.var 173 (.ag (sL [.ag (sL [zs2,zs2,zs2,zs2,Qed,zs2,Qw3,zs2,zs2,zs4,Z9]),.ag (sL [Wh,Q4o,Lv])]))),(100301,Zl),(100302,Yq)]⟩)]),(44,.jn [] [] [(.n,⟨Jqy,[(5000,.var 173 (.ag (sL [.ag (sL [zs2,zs2,zs2,zs2,Jb5,zs2,Q4q,zs2,zs2,zs4,Z9]),.ag (sL [Wh,Jbw,Lv])]))),(100401,Zl),(100402,Yq)]⟩)]),(54,.jn [] [] [(.n,⟨Bg,[(5000,.var 173 (.ag (sL [Jqz,.ag (sL [Wh,Jj3,Lv])]))),(100501,Zl),(100502,Yq)]⟩)]),(60,.an (.dc 20 [117,118,119,120,121,122,123,124,125,126,127,128,129,130,131,116,132,133,16,1000000019] [5000,20502] [] (.b 5000 (.d 5000 5000 (.b 5000 (.b 5000 (.d 5000 20502 (.a (.d 20502 20502 (.c 20502 (.b 5000 (.d 5000 5000 (.b 5000 (.b 5000 (.c 5000 (.a (.k 3 [] [] [] [] (.a (.a (.a (.e 16 (.f 16 16 Em)))))))))))))))))))))),(64,.an (.dr 8 Qtd zs5))] func75⟩
def Qdm(N:Nat):V:=⟨⟨79,⟨Qi1,Q4w⟩,[⟨[],Q4v⟩],u5 (H0 N),[]⟩,kF N [] [] func79⟩
def Fo(N:Nat):V:=⟨⟨80,⟨Jki,Q4w⟩,[Jq1],u8 (Zd N),[]⟩,kF N [] [(5,.an (.dc 9 [22,23,24,25,26,27,28,29,1000000008] [6,13,5000] [] (.b 5000 (.b 5000 (.b 6 (.c 6 (.c 13 (.d 5000 5000 (.b 5000 (.b 5000 (.g [5000] [] [] [5000,5001] Q4u))))))))))),(7,.an (.dc 11 [33,34,35,36,37,38,39,40,41,1000000009,1000000010] [5000,13,10,5001,11] [] (.b 5000 (.d 5000 5000 (.b 5000 (.d 5000 5001 (.b 5000 (.d 5000 5000 (.b 5000 (.c 5000 (.c 13 (.g [10] [5001] [] [10,5001] Jq2))))))))))))] func80⟩
def Mu(N:Nat):V:=⟨⟨76,(sD [Kr,Yh,Yz]),[Jq4],u3 (Fh N),[]⟩,kF N [Ci,Qzs,Fw,Qdl,R2,Qb3,Qdm,Fo] [(5,.jn [3,4,5,6,7,8] [3,4,5,6,7,8] Jkj),(13,.jn [3,4,5,6,7,8] [3,4,5,6,7,8] Jqj),(63,.an (.dr 8 Qtd .done)),(66,.jn [4,5,6,7,8] [3,4,5,6,7,8,11,17501,19501,20201,20202] [(.n,Jj8)])] func76⟩
def Qev(N:Nat):V:=⟨⟨38,⟨Qti,Jjp⟩,[⟨Q4x,[(5000,.var 91 (.ag (sL [Ka,Qls,Jbn]))),(5010,Vd),(1,Yq)]⟩],u11 (Nk N),[]⟩,kF N [Mu] [(3,.an (.dr 7 Qln zs5)),(5,.gh (.fz 5001 (.dt 5000 (.fz 5002 (.dt 5000 (.fz 5003 (.dt 5000 (.fz 5004 (.dt 5000 (.fz 5005 (.dt 5000 (.fz 5006 (.dt 5000 (.fz 5008 (.dt 5000 (.fz 5009 (.dt 5000 (.fz 5007 Lt)))))))))))))))))),(5,.an (.dc 19 [16,17,18,19,20,21,22,23,24,25,15,26,27,28,5,6,7,1000000017,1000000018] [5000,3] [] (.b 5000 (.d 5000 5000 (.b 5000 (.c 5000 (.b 5000 (.d 5000 5000 (.b 5000 (.c 5000 (.c 3 (.k 0 [] [] [12501] [12501] (.b 12501 (.b 12501 (.a (.a (.e 5 (.e 6 (.e 7 (.g [5] [12501] [] [5,12501] (.f 6 6 Em))))))))))))))))))))),(7,.an (.dc 14 [29,30,31,32,33,34,35,36,37,38,39,1000000011,40,41] [5000,3,5,6,12501,5010] [] (.b 5000 (.b 5000 (.d 5000 5000 (.b 5000 (.d 5000 5010 (.b 3 (.c 3 (.d 5 12501 (.c 6 (.d 5000 5000 (.b 5000 (.g [5000] [12501] [] [5000,5010,12501] (.op ⟨.br .done,[5010],[],[40],[40,5010]⟩ Jkl))))))))))))))),(9,.jn [4,7] [3,4,5,6,7,5000,5001,5002,5003,5004,5005,5006,5007,5008,5009,12501] [(.n,⟨[],[(5010,Vd)]⟩)]),(12,.an (.dr 6 Qzn zs5))] func38⟩
def Qeh(N:Nat):V:=⟨⟨77,(sD [Yg,Yz,.i,.i]),[zs7],u4 (In N),[]⟩,kF N [] [] func77⟩
def Mv(N:Nat):V:=⟨⟨158,⟨Jke,[(5000,.var 170 Qf1),(5001,.var 173 (.ag (sL [Jql,.ag (sL [Wh,Qw0,Jbm])]))),(5002,Zl),(5003,Yq),(5004,Cg)]⟩,[zs1],u15 (Z5 N),[5000,5001,5002,5003,5004]⟩,kF N [] [(3,.an (.dr 10 (.n 10 .done) .done))] func158⟩
def Ck(N:Nat):V:=⟨⟨157,⟨Jkf,[(5000,Yq),(5001,.var 170 (.p 5002 [])),(5002,.var 173 (.ag (sL [Jqm,.ag (sL [Wh,Jb3,Jbm])]))),(5003,Zl),(5004,Cg)]⟩,[⟨Qo4,[(5000,Yq),(5002,.var 173 (.ag (sL [Jkg,.ag (sL [Wh,Jb3,Qhu])]))),(1,Zl),(2,Cg)]⟩],u14 (Uk N),[5001]⟩,kF N [Mv] [(6,.lp [0,1,7] [5000,5002,5003,5004] Qpo Qni),(18,.rg (.n 5 (.call 0 .done)))] func157⟩
def Ri(N:Nat):V:=⟨⟨118,⟨Bg,[(5000,.var 173 (.ag (sL [.ag (sL [zs2,zs2,zs2,zs2,Jb5,zs2,Qox,zs2,zs2,zs4,Z9]),.ag (sL [Wh,Qtf,Qw0])]))),(5001,Zl),(5002,Yq),(5003,Cg)]⟩,[⟨Qo4,[(5000,.var 173 (.ag (sL [Jkg,.ag (sL [Wh,Qhu,Q4c])]))),(1,Zl),(2,Yq),(3,Cg)]⟩],u26 (Xf N),[]⟩,kF N [Ck] [] func118⟩
def Kb(N:Nat):V:=⟨⟨75,⟨Qi1,Jqq⟩,[⟨[],Jkm⟩],u27 (Vj N),[]⟩,kF N [Qi5,Qg0,Ri,Qeg] [(6,.lp [0,1,23,24] [5000,5001,5002,5003,5004,5005] Jqw Jqx),(14,.jn [25] [] [(.n,⟨[(4,zs2),(5,Qpm)],[(100100,Zl)]⟩)]),(30,.jn [1,4] [] [(.n,⟨Bg,[(5000,.var 173 (.ag (sL [.ag (sL [zs2,zs2,zs2,zs2,.ag (sL [zs2,zs2,zs2,V9,V9,zs2,.ag (sL [zs2,V9,V9,zs2,Qw3]),zs2,zs2]),zs2,Q4o,zs2,zs2,zs4,Z9]),.ag (sL [.s 100303,.s 100304,.s 100305])]))),(100301,Qtg),(100302,Zl),(100303,Jq5),(100304,Yq),(100305,Cg)]⟩)]),(44,.jn [] [] [(.n,⟨Jqy,[(5000,.var 173 (.ag (sL [.ag (sL [zs2,zs2,zs2,zs2,.ag (sL [zs2,zs2,zs2,V9,V9,zs2,.ag (sL [zs2,V9,V9,zs2,Q4q]),zs2,zs2]),zs2,Jbw,zs2,zs2,zs4,Z9]),.ag (sL [.s 100403,.s 100404,.s 100405])]))),(100401,.tail 141 Vq),(100402,Zl),(100403,Jq5),(100404,Yq),(100405,Cg)]⟩)]),(54,.jn [] [100401,100403] [(.n,⟨Bg,[(5000,.var 173 (.ag (sL [Jqz,.ag (sL [Wh,Jj3,.s 100503])]))),(100501,Zl),(100502,Yq),(100503,Cg)]⟩)]),(60,.an (.dc 20 [117,118,119,120,121,122,123,124,125,126,127,128,129,130,131,116,132,133,16,1000000019] [5000,20502] [] (.b 5000 (.d 5000 5000 (.b 5000 (.b 5000 (.d 5000 20502 (.a (.d 20502 20502 (.c 20502 (.b 5000 (.d 5000 5000 (.b 5000 (.b 5000 (.c 5000 (.a (.k 3 [] [] [] [] (.a (.a (.a (.e 16 (.f 16 16 Em)))))))))))))))))))))),(64,.an (.dr 8 Qtd zs5))] func75⟩
def R3(N:Nat):V:=⟨⟨79,⟨Qi1,Jkn⟩,[⟨[],Jkm⟩],u5 (X4 N),[]⟩,kF N [] [] func79⟩
def Qaj(N:Nat):V:=⟨⟨80,⟨Jki,Jkn⟩,[⟨[(0,Jb6),(1,Qi2),(2,Z9)],Jkm⟩],u8 (Wy N),[]⟩,kF N [] [(5,.an (.dc 9 [22,23,24,25,26,27,28,29,1000000008] [6,13,5000] [] (.b 5000 (.b 5000 (.b 6 (.c 6 (.c 13 (.d 5000 5000 (.b 5000 (.b 5000 (.g [5000] [] [] [5000,5001,5002] Q4u))))))))))),(7,.an (.dc 11 [33,34,35,36,37,38,39,40,41,1000000009,1000000010] [5000,13,10,5001,5002,11] [] (.b 5000 (.d 5000 5000 (.b 5000 (.g [] [5000] [] [5001,5002] (.b 5000 (.d 5000 5000 (.b 5000 (.c 5000 (.c 13 (.g [10] [5001,5002] [] [10,5001,5002] Jq2))))))))))))] func80⟩
def Cl(N:Nat):V:=⟨⟨39,Jq6,[⟨[(0,Jb6),(1,Jkk),(2,Z9)],[(1,Yq),(2,Cg)]⟩],u4 (El N),[]⟩,kF N [Qeh,Ci,Fw,Kb,R3,Qaj] [] func39⟩
def Mw(N:Nat):V:=⟨⟨158,⟨Jke,[(5000,.var 170 Qf1),(5001,.var 173 (.ag (sL [Qi2,Jqn]))),(5002,Yq)]⟩,[zs1],u5 (Z6 N),[5000,5001,5002]⟩,kF N [] [(3,.an (.dr 10 (.n 10 .done) .done))] func158⟩
def Cm(N:Nat):V:=⟨⟨157,⟨Jkf,[(5000,Yq),(5001,.var 170 (.p 5002 [])),(5002,.var 173 (.ag (sL [Qi2,Jb4])))]⟩,[zs7],u4 (Ul N),[5000,5001,5002]⟩,kF N [Mw] [(6,.lp [0,1,7] [] Qpo Qni),(18,.rg (.n 5 (.call 0 .done)))] func157⟩
def Rj(N:Nat):V:=⟨⟨118,⟨Bg,Q4w⟩,[⟨Qo4,[(5001,Yq)]⟩],u4 (Xg N),[5000]⟩,kF N [Cm] [] func118⟩
def N7(N:Nat):V:=⟨⟨127,⟨Qi1,Q4w⟩,[⟨[],Q4v⟩],u5 (Kp N),[]⟩,kF N [Ql5,Rj,Qi4] [(15,.an (.dc 11 [46,47,48,49,50,51,52,53,54,55,1000000010] [5000,7,5001] [] (.b 5000 (.d 5000 5000 (.b 5000 (.b 5000 (.d 5000 5001 (.a (.b 5000 (.c 7 (.a (.d 5001 5001 (.f 5001 5001 Q4u)))))))))))))] func127⟩
def R4(N:Nat):V:=⟨⟨82,⟨Jqp,Jkn⟩,[⟨Qo4,Q4v⟩],u7 (X5 N),[]⟩,kF N [Qb1,Te,Cj,Qb2,Qai,Ax,N7] [(3,.gh (.fz 5001 (.dt 5000 (.fz 5002 Lt)))),(3,.an (.dc 17 [15,16,17,18,19,20,21,22,23,24,25,26,27,28,29,30,31] [5,5000] [] (.b 5000 (.b 5 (.c 5 (.b 5 (.c 5 (.b 5000 (.d 5000 5000 (.b 5000 (.c 5000 (.b 5000 (.d 5000 5000 (.b 5000 (.b 5000 (.b 5000 (.c 5000 (.a (.k 0 [] [] [13103,13102,13101] [13101,13102,13103] Qlm))))))))))))))))))),(5,.gh (.fz 13101 (.dt 5000 (.fz 13102 (.dt 5000 (.fz 13103 Lt)))))),(5,.an (.dc 15 [34,35,36,37,38,39,40,41,42,43,44,45,46,47,48] [5,5000] [] (.b 5000 (.b 5 (.c 5 (.b 5000 (.d 5000 5000 (.b 5000 (.c 5000 (.b 5000 (.d 5000 5000 (.b 5000 (.b 5000 (.b 5000 (.c 5000 (.a (.k 1 [] [] [14803,14802,14801] [14801,14802,14803] Qlm))))))))))))))))),(9,.an (.dc 15 [59,60,61,62,63,64,65,66,67,68,58,69,70,9,1000000014] [5,5000] [] (.b 5 (.c 5 (.b 5000 (.d 5000 5000 (.b 5000 (.b 5000 (.b 5000 (.c 5000 (.a (.k 2 [] [] [] [] (.a (.a (.a (.e 9 (.f 9 9 Em))))))))))))))))),(26,.gh (.fz 14801 (.dt 5000 (.fz 14803 Lt)))),(26,.an (.dc 17 [78,79,80,81,82,83,84,85,86,87,88,89,90,77,91,92,11] [5,5000,14802] [] (.c 5 (.b 5000 (.d 5000 5000 (.b 5000 (.d 5000 14802 (.b 5000 (.d 5000 5000 (.b 5000 (.b 5000 (.c 5000 (.a (.a (.k 3 [] [14802] [] [] (.a (.a (.a Jbi)))))))))))))))))),(44,.jn [2,5,11,12] [5,9,5001,5002,13101,13102,13103,14801,14803] [(.n,⟨Bg,[(5000,.var 173 (.ag (sL [.ag (sL [zs2,zs2,zs2,zs2,Qed,zs2,Jq3,zs2,zs2,zs4,Z9]),.ag (sL [Wh,Qtc,Lv])]))),(100001,Yq)]⟩)]),(47,.an (.dc 48 [102,103,104,105,106,107,108,109,110,111,112,113,114,115,116,117,118,119,120,121,122,123,124,125,126,127,128,129,130,131,132,133,134,135,136,137,101,138,139,140,141,142,143,1000000043,144,145,146,1000000047] [5000] [9] (.b 5000 (.b 5000 (.b 5000 (.d 5000 5000 (.b 5000 (.b 5000 (.c 5000 (.b 5000 (.d 5000 5000 (.b 5000 (.b 5000 (.b 5000 (.c 5000 (.b 5000 (.d 5000 5000 (.b 5000 (.b 5000 (.b 5000 (.c 5000 (.b 5000 (.d 5000 5000 (.b 5000 (.b 5000 (.b 5000 (.c 5000 (.b 5000 (.d 5000 5000 (.b 5000 (.b 5000 (.b 5000 (.c 5000 (.b 9 (.c 9 (.a (.a (.k 4 [] [] [23702,23701] [23701,23702] (.g [] [] [] [23701,23702] (.b 23701 (.b 23702 (.a (.d 5000 5000 (.b 5000 (.b 5000 (.g [5000] [23701] [] [5000,14802,23701] Jqr)))))))))))))))))))))))))))))))))))))))))))))),(50,.jn [11,12] [5,9,5001,5002,13101,13102,13103,14801,14803] [(.n,⟨Bg,[(5000,.var 173 (.ag (sL [Qi2,.ag (sL [Wh,Qo2,Lv])]))),(100101,Yq)]⟩)]),(51,.an (.dc 15 [148,149,150,151,152,153,154,155,156,157,147,158,159,13,1000000014] [5000] [5] (.b 5 (.c 5 (.b 5000 (.d 5000 5000 (.b 5000 (.b 5000 (.b 5000 (.c 5000 (.a (.k 5 [] [] [] [] (.a (.a (.a (.e 13 (.f 13 13 Em)))))))))))))))))] func82⟩
def Mx(N:Nat):V:=⟨⟨81,⟨Jqu,Q4w⟩,[Jq1],u6 (Z7 N),[]⟩,kF N [Fo] [(5,.jn [0,2,4,6,7,8] [4,6,7,8,5000,5001] Jkj),(11,.an (.dc 13 [21,22,23,24,25,26,27,28,29,30,31,32,33] [4,5000,5001] [] (.b 5000 (.c 4 (.b 5000 (.d 5000 5000 (.b 5000 (.b 5000 (.c 5000 (.a (.a (.k 0 [5000,5001] [] [13001] [5000,13001] (.b 13001 Jq7)))))))))))))] func81⟩
def Er(N:Nat):V:=⟨⟨40,Jq6,[Jq4],u4 (X6 N),[]⟩,kF N [Qeh,Ci,Fw,Kb,R4,Mx] [(17,.an (.dc 13 [33,34,35,36,37,38,39,40,41,42,43,44,45] [7,4,12801,13201,13202] [] (.b 12801 (.c 7 (.b 12801 (.c 4 (.b 7 (.c 7 (.b 7 (.c 7 (.k 4 [12801,13201,13202] [] [14101] [12801,14101] (.k 5 [12801,14101] [] [14201] [12801,14201] (.b 14201 Jq7)))))))))))))] func40⟩
def Qke(N:Nat):V:=⟨⟨12,⟨Qti,Jjp⟩,[⟨Q4x,[(5000,.var 91 (.ag (sL [Jko,Qls,Jbn]))),(5010,Vd),(1,Yq)]⟩],u11 (Qbt N),[]⟩,kF N [Qgp,Eo,Qev,Cl,Er] [(19,.an (.dc 12 [23,24,25,26,27,28,29,22,30,31,5,1000000011] [5000,3,5010] [] (.b 5000 (.d 5000 5000 (.b 5000 (.d 5000 5010 (.b 3 (.c 3 (.c 5010 Jb7))))))))),(52,.jn [4] [3,4,5] [(.n,⟨Jb8,[(5000,.var 91 (.ag (sL [Ka,Q4y,Jbn]))),(5010,Vd),(100002,.var 50 Z9),(100003,Yq)]⟩)]),(55,.gh (.fz 5001 (.dt 5000 (.fz 5002 (.dt 5000 (.fz 5003 (.dt 5000 (.fz 5004 (.dt 5000 (.fz 5005 (.dt 5000 (.fz 5006 (.dt 5000 (.fz 5008 (.dt 5000 (.fz 5009 (.dt 5000 (.fz 5007 Lt)))))))))))))))))),(55,.an (.dc 26 [67,68,69,70,71,72,73,74,75,76,77,78,79,80,81,82,83,84,66,85,86,87,88,89,1000000024,1000000025] [5000,5010] [3,5] (.b 5000 (.b 5000 (.d 5000 5000 (.b 5000 (.d 5000 5010 (.b 3 (.c 3 (.b 5000 (.d 5000 5000 (.b 5000 (.c 5000 (.b 5000 (.d 5000 5000 (.b 5000 (.c 5000 (.c 5 (.c 3 (.k 3 [] [] [18402,18401] [18401,18402] (.g [] [] [] [18401,18402] (.g [] [] [] [18401,18402] (.a (.a (.d 5000 5000 (.b 5000 (.g [5000] [18401,18402] [] [5000,5010,18401,18402] Jq9))))))))))))))))))))))))))),(56,.gh (.fz 5001 (.dt 5000 (.fz 5002 (.dt 5000 (.fz 5003 (.dt 5000 (.fz 5004 (.dt 5000 (.fz 5005 (.dt 5000 (.fz 5006 (.dt 5000 (.fz 5008 (.dt 5000 (.fz 5009 (.dt 5000 (.fz 5007 Lt)))))))))))))))))),(56,.an (.dc 26 [91,92,93,94,95,96,97,98,99,100,101,102,103,104,105,106,107,108,90,109,110,111,112,113,1000000024,1000000025] [5000,5010] [3,5] (.b 5000 (.b 5000 (.d 5000 5000 (.b 5000 (.d 5000 5010 (.b 3 (.c 3 (.b 5000 (.d 5000 5000 (.b 5000 (.c 5000 (.b 5000 (.d 5000 5000 (.b 5000 (.c 5000 (.c 5 (.c 3 (.k 4 [] [] [20801] [20801] (.b 20801 (.b 20801 (.a (.a (.d 5000 5000 (.b 5000 (.g [5000] [20801] [] [5000,5010,20801] Jq9)))))))))))))))))))))))))))] func12⟩
def X8(N:Nat):V:=⟨⟨34,⟨Bg,Qw7⟩,[zs1],u5 (Ud N),[5000,5001,5002]⟩,kF N [] [(3,.rg (.n 3 (.nl 5 Qu0)))] func34⟩
def Fp(N:Nat):V:=⟨⟨38,⟨Qti,Qw7⟩,[Jkp],u6 (Ze N),[]⟩,kF N [Mu] [(3,.an (.dr 7 Qln zs5)),(5,.gh (.fz 5001 Lt)),(5,.an (.dc 19 [16,17,18,19,20,21,22,23,24,25,15,26,27,28,5,6,7,1000000017,1000000018] [5000,3] [] (.b 5000 (.d 5000 5000 (.b 5000 (.c 5000 (.b 5000 (.d 5000 5000 (.b 5000 (.c 5000 (.c 3 (.k 0 [] [] [12501] [12501] (.b 12501 (.b 12501 (.a (.a (.e 5 (.e 6 (.e 7 (.g [5] [12501] [] [5,12501] (.f 6 6 Em))))))))))))))))))))),(7,.an (.dc 14 [29,30,31,32,33,34,35,36,37,38,39,1000000011,40,41] [5000,3,5,6,12501,5002] [] (.b 5000 (.b 5000 (.d 5000 5000 (.b 5000 (.d 5000 5002 (.b 3 (.c 3 (.d 5 12501 (.c 6 (.d 5000 5000 (.b 5000 (.g [5000] [12501] [] [5000,5002,12501] (.op ⟨.br .done,[5002],[],[40],[40,5002]⟩ Jkl))))))))))))))),(9,.jn [4,7] [3,4,5,6,7,5000,5001,12501] [(.n,⟨[],[(5002,Vd)]⟩)]),(12,.an (.dr 6 Qzn zs5))] func38⟩
def Qew(N:Nat):V:=⟨⟨12,⟨Qti,Qw7⟩,[Jkp],u6 (E7 N),[]⟩,kF N [X8,Eo,Fp,Cl,Er] [(19,.an (.dc 12 [23,24,25,26,27,28,29,22,30,31,5,1000000011] [5000,3,5002] [] (.b 5000 (.d 5000 5000 (.b 5000 (.d 5000 5002 (.b 3 (.c 3 (.c 5002 Jb7))))))))),(52,.jn [4] [3,4,5] [(.n,⟨Jb8,[(5000,.var 91 (.ag (sL [Ka,Q4y,S8]))),(5002,Vd),(100002,.var 50 Z9),(100003,Yq)]⟩)]),(55,.gh (.fz 5001 Lt)),(55,.an (.dc 26 [67,68,69,70,71,72,73,74,75,76,77,78,79,80,81,82,83,84,66,85,86,87,88,89,1000000024,1000000025] [5000,5002] [3,5] (.b 5000 (.b 5000 (.d 5000 5000 (.b 5000 (.d 5000 5002 (.b 3 (.c 3 (.b 5000 (.d 5000 5000 (.b 5000 (.c 5000 (.b 5000 (.d 5000 5000 (.b 5000 (.c 5000 (.c 5 (.c 3 (.k 3 [] [] [18402,18401] [18401,18402] (.g [] [] [] [18401,18402] (.g [] [] [] [18401,18402] (.a (.a (.d 5000 5000 (.b 5000 (.g [5000] [18401,18402] [] [5000,5002,18401,18402] Jb9))))))))))))))))))))))))))),(56,.gh (.fz 5001 Lt)),(56,.an (.dc 26 [91,92,93,94,95,96,97,98,99,100,101,102,103,104,105,106,107,108,90,109,110,111,112,113,1000000024,1000000025] [5000,5002] [3,5] (.b 5000 (.b 5000 (.d 5000 5000 (.b 5000 (.d 5000 5002 (.b 3 (.c 3 (.b 5000 (.d 5000 5000 (.b 5000 (.c 5000 (.b 5000 (.d 5000 5000 (.b 5000 (.c 5000 (.c 5 (.c 3 (.k 4 [] [] [20801] [20801] (.b 20801 (.b 20801 (.a (.a (.d 5000 5000 (.b 5000 (.g [5000] [20801] [] [5000,5002,20801] Jb9)))))))))))))))))))))))))))] func12⟩
def Qex(N:Nat):V:=⟨⟨12,⟨Qti,Qw7⟩,[Jkp],u6 (Xk N),[]⟩,kF N [X8,Eo,Fp,Cl,Er] [(19,.an (.dc 12 [23,24,25,26,27,28,29,22,30,31,5,1000000011] [5000,3,5002] [] (.b 5000 (.d 5000 5000 (.b 5000 (.d 5000 5002 (.b 3 (.c 3 (.c 5002 Jb7))))))))),(52,.jn [4] [3,4,5] [(.n,⟨Jb8,[(5000,.var 91 (.ag (sL [Ka,Q4y,S8]))),(5002,Vd),(100002,.var 50 Z9),(100003,Yq)]⟩)]),(55,.gh (.fz 5001 Lt)),(55,.an (.dc 26 [67,68,69,70,71,72,73,74,75,76,77,78,79,80,81,82,83,84,66,85,86,87,88,89,1000000024,1000000025] [5000,5002] [3,5] (.b 5000 (.b 5000 (.d 5000 5000 (.b 5000 (.d 5000 5002 (.b 3 (.c 3 (.b 5000 (.d 5000 5000 (.b 5000 (.c 5000 (.b 5000 (.d 5000 5000 (.b 5000 (.c 5000 (.c 5 (.c 3 (.k 3 [] [] [18402,18401] [18401,18402] (.g [] [] [] [18401,18402] (.g [] [] [] [18401,18402] (.a (.a (.d 5000 5000 (.b 5000 (.g [5000] [18401,18402] [] [5000,5002,18401,18402] Jb9))))))))))))))))))))))))))),(56,.gh (.fz 5001 Lt)),(56,.an (.dc 26 [91,92,93,94,95,96,97,98,99,100,101,102,103,104,105,106,107,108,90,109,110,111,112,113,1000000024,1000000025] [5000,5002] [3,5] (.b 5000 (.b 5000 (.d 5000 5000 (.b 5000 (.d 5000 5002 (.b 3 (.c 3 (.b 5000 (.d 5000 5000 (.b 5000 (.c 5000 (.b 5000 (.d 5000 5000 (.b 5000 (.c 5000 (.c 5 (.c 3 (.k 4 [] [] [20801] [20801] (.b 20801 (.b 20801 (.a (.a (.d 5000 5000 (.b 5000 (.g [5000] [20801] [] [5000,5002,20801] Jb9)))))))))))))))))))))))))))] func12⟩
def Bh(N:Nat):V:=⟨⟨73,⟨[(0,.m 5000)],[(5000,Vd)]⟩,[⟨[(0,.f 113 (sL [.p 1 []]))],[(5000,Vd),(1,.var 89 (.m 5000))]⟩],Ke N,[]⟩,kF N [] [] func73⟩
def Qb4(N:Nat):V:=⟨⟨35,⟨Bg,Qw7⟩,[⟨Jra,[(5002,Vd)]⟩],u5 (Gr N),[5000,5001]⟩,kF N [Bh,fun _=>⟨_,Fj⟩] [] func35⟩
def Cn(N:Nat):V:=⟨⟨36,Jp3,[⟨[(0,Jb6),(1,Qi2)],[(1,Yq),(2,Cg)]⟩],u2 (Ge N),[]⟩,kF N [Fw,Kb] [(5,.jn [4,5] [2,3,4,5] [(.n,⟨[(6,Qht)],[(100000,.var 173 (.ag (sL [Jkk,.ag (sL [Wh,Qtc,Jfh])]))),(100001,Yq),(100002,Cg)]⟩)]),(13,.an (.dc 9 [21,22,23,24,25,26,27,28,1000000008] [100000,4,100001,100002] [] (.b 100000 (.d 100000 100000 (.b 100000 (.g [] [100000] [] [100001,100002] (.b 100000 (.d 100000 100000 (.b 100000 (.c 100000 (.g [4] [100001,100002] [] [4,100001,100002] Em)))))))))))] func36⟩
def Qdn(N:Nat):V:=⟨⟨11,⟨Qi1,Qw7⟩,[⟨Qfz,[(5000,.var 91 (.ag (sL [Ka,Jkh,S8]))),(5002,Vd),(1,Fk),(2,Jca)]⟩],u6 (Ll N),[]⟩,kF N [X8,Qb4,Cn] [(16,.gh (.fz 5001 .done)),(16,.lp [1,13,14] [] ⟨Jkq,[(5000,.var 91 (.ag (sL [Ka,Q4y,S8]))),(5002,Vd),(100002,Fk),(100003,Jca)]⟩ [(.x 0,⟨[(5,Jfg)],[(5000,.var 91 (.ag (sL [Ka,.ag (sL [Wh,Jsq,Lv]),S8]))),(5002,Vd),(100202,Fk),(100203,Jca)]⟩)]),(24,.jn [15] [] [(.n,⟨[(0,Zk),(5,Jff)],[(5000,.var 91 (.ag (sL [Ka,.ag (sL [Wh,Jsp,Lv]),S8]))),(5002,Vd),(100102,Fk),(100103,Jca)]⟩)]),(33,.gh Lt),(33,.an (.dc 18 [35,36,37,38,39,40,41,42,43,44,45,46,34,47,48,49,50,1000000017] [5000,8] [] (.b 5000 (.b 5000 (.d 5000 5000 (.b 5000 (.d 5000 5002 (.a (.b 5000 (.d 5000 5000 (.b 5000 (.c 5000 (.c 8 (.k 2 [] [] [14602,14601] [14601,14602] (.g [] [] [] [14601,14602] (.g [] [] [] [14601,14602] (.a (.d 5000 5000 (.b 5000 (.g [5000] [14601,14602] [] [5000,5002,14601,14602] Em))))))))))))))))))))] func11⟩
def Qb5(N:Nat):V:=⟨⟨34,Q4z,[⟨[(0,zs4)],Qo5⟩],u3 (Gs N),[]⟩,kF N [] [(3,.rg (.n 3 (.nl 5 Qu0)))] func34⟩
def V3(N:Nat):V:=⟨⟨35,Q4z,[⟨Jra,[(5001,Vd)]⟩],u3 (Yw N),[5000]⟩,kF N [Bh,fun _=>⟨_,Fj⟩] [] func35⟩
def L2(N:Nat):V:=⟨⟨43,Jpl,[Jpn],Wz N,[]⟩,kF N [fun _=>⟨_,Fi⟩,fun _=>⟨_,Vk⟩] [] func43⟩
def Qak(N:Nat):V:=⟨⟨16,⟨Bg,Jrb⟩,[⟨Qfz,[(5000,.var 91 (.ag (sL [Ka,Qee,Nm]))),(5001,Vd),(1,Jcb)]⟩],u5 (W0 N),[]⟩,kF N [Qb5,V3,L2] [(16,.lp [0,10,11] [5000,5001] Jrc Jrd),(27,.rg (.n 7 (.call 2 (.fz 12301 (.fz 12302 Quz)))))] func16⟩
def Y6(N:Nat):V:=⟨⟨34,Q4z,[zs1],u3 (J4 N),[5000,5001]⟩,kF N [] [(3,.rg (.n 3 (.nl 5 Qu0)))] func34⟩
def Qey(N:Nat):V:=⟨⟨31,⟨Qi1,Qo5⟩,[⟨Qo4,Qo5⟩],u4 (Nl N),[]⟩,kF N [Y6] [(13,.an (.mp Jby [1] [5000,5001] Ib [] Quz (.two (.reg Jnu) (.two (.reg Jnu) .nil))))] func31⟩
def Qg1(N:Nat):V:=⟨⟨8,(sD []),[zs1],fun _=>Z8 N,[]⟩,kF N [Qh6,Qlx,Qke,Qew,Qex,Qdn,Qak,Qey] [(15,.an (.dc 8 [14,15,16,17,18,19,3,4] [2,11001,11002,11003,11004,11005,11006,11007,11008,11009,11010,11011] [] (.b 11001 (.c 2 (.k 2 [11001,11002,11003,11004,11005,11006,11007,11008,11009,11010,11011] [] [11601] [11001,11011,11601] (.b 11001 (.c 2 (.k 3 [11001,11601,11011] [] [11901] [11001,11011,11901] (.e 3 (.e 4 Q4d)))))))))),(17,.rg (.n 2 (.call 4 Qu0))),(19,.rg (.n 2 (.call 4 Qu0))),(23,.rg (.n 9 (.sp 36 5 [1,5,6,7] [2,3,4,5,6,12701,12702] ⟨[(41,zs4)],[(11001,.var 91 (.ag (sL [Ka,Qw8,Jj0]))),(100001,Vd)]⟩ (.nl 1 (.call 6 Jfe)) H9 (.n 16 (.sp 57 5 [1,7] [2,3,4,5,6,11001,12701,12702,100001] Jsl H9 H9 (.n 1 (.sp 63 4 [1] [2,3,4,5,6,12701,12702] ⟨[(67,zs4)],[(11001,Jre),(100201,Vd)]⟩ (.nl 1 (.call 7 Qpl)) Qen zs5)))))))] func8⟩
def Qid(N:Nat):V:=⟨⟨10,(sD [.sl .i,.sl .i]),[zs1],u2 (G9 N),[]⟩,kF N [] [(14,.lp [0,1] [] Ib Qhr),(24,.an (.dr 9 (.n 9 .done) .done))] func10⟩
def Qdo(N:Nat):V:=⟨⟨83,Q4g,[zs1],u2 (H1 N),[]⟩,kF N [] [(14,.lp [2,3] [2,3] Ib Qhr),(24,.an (.dr 11 (.n 11 .done) .done))] func83⟩
def Qie(N:Nat):V:=⟨⟨41,(sD [.sl Q9,.sl Q9]),[zs1],u2 (Cf N),[]⟩,kF N [Qdo] [(14,.lp [0,1] [] Ib Qhr),(24,.an (.dr 8 Qtd Q85))] func41⟩
def Qif(N:Nat):V:=⟨⟨13,(sD [Yh,Yh]),[zs1],u2 (Uv N),[]⟩,kF N [Qie] [(14,.lp [2,3] [2,3] Ib Qhr),(24,.an (.dr 11 (.n 11 .done) .done)),(35,.lp [2,3] [2,3] Jjg [(.x 2,⟨[],[]⟩),(.r,⟨[(4,zs4)],[]⟩)]),(45,.an (.dr 11 (.n 11 .done) .done))] func13⟩
def N8(N:Nat):V:=⟨⟨16,Q4z,[⟨Qfz,[(5001,Vd),(1,Jcb)]⟩],u3 (J7 N),[5000]⟩,kF N [Y6,V3,L2] [(16,.lp [0,10,11] [5001] Jrc Jrd),(27,.rg (.n 7 (.call 2 (.fz 12301 (.fz 12302 Quz)))))] func16⟩
def Qig(N:Nat):V:=⟨⟨84,(sD [Hp,Hp]),[zs1],u2 (Ha N),[]⟩,kF N [] [(11,.an (.dc 7 [62,63,64,65,5,6,1000000006] [2,3] [] (.b 2 (.c 2 (.b 3 (.c 3 (.e 5 (.e 6 Jq8)))))))),(24,.lp [5,6] [2,3,5,6] Q87 Qhr),(34,.an (.dr 11 (.n 11 .done) .done))] func84⟩
def Qal(N:Nat):V:=⟨⟨85,(sD [.sl Xt,.sl Xt]),[zs1],u2 (Zf N),[]⟩,kF N [] [(14,.lp [0,1] [] Ib Qhr),(24,.an (.dr 9 (.n 9 .done) .done))] func85⟩
def Qih(N:Nat):V:=⟨⟨42,(sD [Yg,Yg]),[zs1],u2 (Hb N),[]⟩,kF N [Qig,Qal] [(3,.rg (.n 27 (.sp 31 6 [2,3] [2,3] Jsf (.nl 4 Q85) Qzm (.n 8 (.sp 45 6 [2,3] [2,3] ⟨[(51,zs4)],[]⟩ (.nl 4 Jnv) Qzm (.n 29 .done))))))] func42⟩
def N9(N:Nat):V:=⟨⟨15,(sD [.sl Yg,.sl Yg]),[zs1],u2 (Ub N),[]⟩,kF N [Qih] [(14,.lp [0,1] [] Ib Qhr),(24,.an (.dr 8 Qtd Q85))] func15⟩
def R5(N:Nat):V:=⟨⟨11,⟨Qi1,Qo5⟩,[Jrf],u4 (Y5 N),[]⟩,kF N [Y6,V3,Cn] [(16,.lp [1,13,14] [] ⟨Jkq,[(5000,.var 91 (.ag (sL [Ka,Qee,Nm]))),(5001,Vd),(100002,Fk)]⟩ [(.x 0,⟨[(5,Jfg)],[(5000,.var 91 (.ag (sL [Ka,Qee,Nm]))),(5001,Vd),(100202,Fk)]⟩)]),(24,.jn [15] [] [(.n,⟨[(0,Zk),(5,Jff)],[(5000,.var 91 (.ag (sL [Ka,Qw8,Nm]))),(5001,Vd),(100102,Fk)]⟩)]),(33,.an (.dc 18 [35,36,37,38,39,40,41,42,43,44,45,46,34,47,48,49,50,1000000017] [5000,8] [] (.b 5000 (.b 5000 (.d 5000 5000 (.b 5000 (.d 5000 5001 (.a (.b 5000 (.d 5000 5000 (.b 5000 (.c 5000 (.c 8 (.k 2 [] [] [14602,14601] [14601,14602] (.g [] [] [] [14601,14602] (.g [] [] [] [14601,14602] (.a (.d 5000 5000 (.b 5000 (.g [5000] [14601,14602] [] [5000,5001,14601,14602] Em))))))))))))))))))))] func11⟩
def R6(N:Nat):V:=⟨⟨11,⟨Qi1,Qo5⟩,[Jrf],u4 (Uw N),[]⟩,kF N [Y6,V3,Cn] [(16,.lp [1,13,14] [] ⟨Jkq,[(5000,.var 91 (.ag (sL [Ka,Qee,Nm]))),(5001,Vd),(100002,Fk)]⟩ [(.x 0,⟨[(5,Jfg)],[(5000,.var 91 (.ag (sL [Ka,Qee,Nm]))),(5001,Vd),(100202,Fk)]⟩)]),(24,.jn [15] [] [(.n,⟨[(0,Zk),(5,Jff)],[(5000,.var 91 (.ag (sL [Ka,Qw8,Nm]))),(5001,Vd),(100102,Fk)]⟩)]),(33,.an (.dc 18 [35,36,37,38,39,40,41,42,43,44,45,46,34,47,48,49,50,1000000017] [5000,8] [] (.b 5000 (.b 5000 (.d 5000 5000 (.b 5000 (.d 5000 5001 (.a (.b 5000 (.d 5000 5000 (.b 5000 (.c 5000 (.c 8 (.k 2 [] [] [14602,14601] [14601,14602] (.g [] [] [] [14601,14602] (.g [] [] [] [14601,14602] (.a (.d 5000 5000 (.b 5000 (.g [5000] [14601,14602] [] [5000,5001,14601,14602] Em))))))))))))))))))))] func11⟩
def Qam(N:Nat):V:=⟨⟨38,⟨Qti,Qo5⟩,[⟨Q4x,[(5000,.var 91 (.ag (sL [Ka,Qls,Nm]))),(5001,Vd),(1,Yq)]⟩],u4 (W5 N),[]⟩,kF N [Mu] [(3,.an (.dr 7 Qln zs5)),(5,.an (.dc 19 [16,17,18,19,20,21,22,23,24,25,15,26,27,28,5,6,7,1000000017,1000000018] [5000,3] [] (.b 5000 (.d 5000 5000 (.b 5000 (.c 5000 (.b 5000 (.d 5000 5000 (.b 5000 (.c 5000 (.c 3 (.k 0 [] [] [12501] [12501] (.b 12501 (.b 12501 (.a (.a (.e 5 (.e 6 (.e 7 (.g [5] [12501] [] [5,12501] (.f 6 6 Em))))))))))))))))))))),(7,.an (.dc 14 [29,30,31,32,33,34,35,36,37,38,39,1000000011,40,41] [5000,3,5,6,12501,5001] [] (.b 5000 (.b 5000 (.d 5000 5000 (.b 5000 (.d 5000 5001 (.b 3 (.c 3 (.d 5 12501 (.c 6 (.d 5000 5000 (.b 5000 (.g [5000] [12501] [] [5000,5001,12501] (.op ⟨.br .done,[5001],[],[40],[40,5001]⟩ Jkl))))))))))))))),(9,.jn [4,7] [3,4,5,6,7,5000,12501] [(.n,⟨[],[(5001,Vd)]⟩)]),(12,.an (.dr 6 Qzn zs5))] func38⟩
def Qez(N:Nat):V:=⟨⟨12,⟨Qti,Qo5⟩,[⟨Q4x,Jrb⟩],u4 (Jn N),[]⟩,kF N [Y6,Eo,Qam,Cl,Er] [(19,.an (.dc 12 [23,24,25,26,27,28,29,22,30,31,5,1000000011] [5000,3,5001] [] (.b 5000 (.d 5000 5000 (.b 5000 (.d 5000 5001 (.b 3 (.c 3 (.c 5001 Jb7))))))))),(52,.jn [4] [3,4,5] [(.n,⟨Jb8,[(5000,.var 91 (.ag (sL [Ka,Q4y,Nm]))),(5001,Vd),(100002,.var 50 Z9),(100003,Yq)]⟩)]),(55,.an (.dc 26 [67,68,69,70,71,72,73,74,75,76,77,78,79,80,81,82,83,84,66,85,86,87,88,89,1000000024,1000000025] [5000,5001] [3,5] (.b 5000 (.b 5000 (.d 5000 5000 (.b 5000 (.d 5000 5001 (.b 3 (.c 3 (.b 5000 (.d 5000 5000 (.b 5000 (.c 5000 (.b 5000 (.d 5000 5000 (.b 5000 (.c 5000 (.c 5 (.c 3 (.k 3 [] [] [18402,18401] [18401,18402] (.g [] [] [] [18401,18402] (.g [] [] [] [18401,18402] (.a (.a (.d 5000 5000 (.b 5000 (.g [5000] [18401,18402] [] [5000,5001,18401,18402] Jrg))))))))))))))))))))))))))),(56,.an (.dc 26 [91,92,93,94,95,96,97,98,99,100,101,102,103,104,105,106,107,108,90,109,110,111,112,113,1000000024,1000000025] [5000,5001] [3,5] (.b 5000 (.b 5000 (.d 5000 5000 (.b 5000 (.d 5000 5001 (.b 3 (.c 3 (.b 5000 (.d 5000 5000 (.b 5000 (.c 5000 (.b 5000 (.d 5000 5000 (.b 5000 (.c 5000 (.c 5 (.c 3 (.k 4 [] [] [20801] [20801] (.b 20801 (.b 20801 (.a (.a (.d 5000 5000 (.b 5000 (.g [5000] [20801] [] [5000,5001,20801] Jrg)))))))))))))))))))))))))))] func12⟩
def Qan(N:Nat):V:=⟨⟨14,Q4z,[Qwz],u3 (Yo N),[5000,5001]⟩,kF N [Y6,P8] [] func14⟩
def Ey(N:Nat):V:=⟨⟨3,Jph,[zs1],Ux N,[]⟩,kF N [Qj5,Qg1,Qlx,Qid,Qif,N8,N9,R5,R6,Qez,Qan] [(11,.an (.dc 9 [13,14,15,16,17,18,19,20,21] [1] [] (.b 1 (.c 1 (.b 1 (.c 1 (.k 2 [] [] [11711,11710,11709,11708,11707,11706,11705,11704,11703,11702,11701] [11701,11702,11703,11704,11705,11706,11707,11708,11709,11710,11711] (.b 1 (.c 1 (.b 1 (.c 1 (.tl (.call 2 Qu0))))))))))))),(14,.rg (.n 3 Jfe)),(24,.lp [1] [1] ⟨[(3,Qht),(4,Qw2),(5,zs2)],[(100000,.var 91 (.ag (sL [Jko,Qw8,.m 100002]))),(100001,.var 91 (.ag (sL [Jko,Qw8,.m 100003]))),(100002,Vd),(100003,Vd)]⟩ Qjy),(36,.jn [5] [6] [(.n,⟨[(3,Q4p),(4,.p 100401 [])],[(100400,.var 91 (.ag (sL [Ka,Qee,.m 100402]))),(100401,.var 91 (.ag (sL [Ka,Qee,.m 100403]))),(100402,Vd),(100403,Vd)]⟩),(.r,⟨[(2,zs4)],[]⟩)]),(40,.jn [5] [] [(.n,⟨[(3,Qhv),(4,Jnt),(65,zs4)],[(100100,.var 91 (.ag (sL [Ka,Qee,.m 100102]))),(100101,.var 91 (.ag (sL [Ka,Qee,.m 100103]))),(100102,Vd),(100103,Vd)]⟩)]),(40,.an (.dc 14 [48,49,50,51,52,53,54,55,56,57,58,59,60,61] [100000,100002,100001,100003] [6] (.b 100000 (.b 6 (.c 6 (.k 7 [100000,100002] [] [15101] [15101,100000,100002] (.b 100001 (.b 6 (.c 6 (.k 7 [100001,100003] [] [15501] [15501,100001,100003] (.k 3 [15101,15501] [] [] [15101,15501] (.a (.a (.so 58 Jqf (.b 100000 (.b 6 (.c 6 (.tl (.call 8 Jfe))))))))))))))))))),(51,.jn [4,5] [7,8,100001,100003] [(.n,⟨[(3,Qtb),(88,zs4)],[(100200,Jre),(100201,Vd)]⟩)]),(51,.an (.dc 15 [72,73,74,75,76,77,78,79,80,81,82,83,84,85,86] [100000,100002] [7,8,6] (.c 7 (.c 8 (.a (.a (.so 75 (.a (.a (.a Jqd))) (.b 100000 (.c 6 (.k 9 [100000,100002] [] [] [100000,100002] (.c 7 (.a (.a (.a (.so 82 Jpe (.b 100000 (.c 6 (.k 9 [100000,100002] [] [] [100000,100002] (.c 7 (.tl Qpl)))))))))))))))))))),(58,.rg (.n 1 (.call 10 (.n 1 (.call 10 (.call 4 (.n 2 (.sp 95 7 [3,4,5] [6,19001,19002,19003,19201,19202,19203,100400,100401] ⟨[(102,zs4)],[(100402,Vd),(100403,Vd)]⟩ Qnj (.nl 1 (.call 5 (.nl 1 (.call 5 (.call 6 Qpl))))) .done))))))))] func3⟩
end
end Gx
