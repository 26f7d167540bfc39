/- The interpreter gives these functions. -/
import Derived.Test.YtfkpgpibpnghiaaGreatXFns
import Derived.Test.YtfkpgpibpnghiaaGreatProg
import Derived.Test.YtfkpgpibpnghiaaGreatXX3
import Derived.Test.YtfkpgpibpnghiaaGreatXShelf
namespace Gx
open Go Gd Go.Proofs Tryz
set_option linter.unusedVariables false
def HT.a(r:HT):HT:=.op ⟨.nl 1 .done,[],[],[],[]⟩ r
def HT.b(x:Nat)(r:HT):HT:=.op ⟨.nl 1 .done,[],[],[],[x]⟩ r
def HT.c(x:Nat)(r:HT):HT:=.op ⟨.nl 1 .done,[],[x],[],[]⟩ r
def HT.d(x y:Nat)(r:HT):HT:=.op ⟨.nl 1 .done,[],[x],[],[y]⟩ r
def HT.e(x:Nat)(r:HT):HT:=.op ⟨.nl 1 .done,[],[],[x],[x]⟩ r
def HT.f(x y:Nat)(r:HT):HT:=.op ⟨.nl 1 .done,[x],[],[],[y]⟩ r
def HT.g(a b c d:List Nat)(r:HT):HT:=.op ⟨.nl 1 .done,a,b,c,d⟩ r
def HT.k(n:Nat)(a b c d:List Nat)(r:HT):HT:=.op ⟨.call n .done,a,b,c,d⟩ r
def u2{α0 α1 β:Type}(f:α0→α1→β)(p:α0×α1):β:=f p.1 p.2
def u3{α0 α1 α2 β:Type}(f:α0→α1→α2→β)(p:α0×α1×α2):β:=f p.1 p.2.1 p.2.2
def u4{α0 α1 α2 α3 β:Type}(f:α0→α1→α2→α3→β)(p:α0×α1×α2×α3):β:=f p.1 p.2.1 p.2.2.1 p.2.2.2
def u5{α0 α1 α2 α3 α4 β:Type}(f:α0→α1→α2→α3→α4→β)(p:α0×α1×α2×α3×α4):β:=f p.1 p.2.1 p.2.2.1 p.2.2.2.1 p.2.2.2.2
def u7{α0 α1 α2 α3 α4 α5 α6 β:Type}(f:α0→α1→α2→α3→α4→α5→α6→β)(p:α0×α1×α2×α3×α4×α5×α6):β:=f p.1 p.2.1 p.2.2.1 p.2.2.2.1 p.2.2.2.2.1 p.2.2.2.2.2.1 p.2.2.2.2.2.2
def u8{α0 α1 α2 α3 α4 α5 α6 α7 β:Type}(f:α0→α1→α2→α3→α4→α5→α6→α7→β)(p:α0×α1×α2×α3×α4×α5×α6×α7):β:=f p.1 p.2.1 p.2.2.1 p.2.2.2.1 p.2.2.2.2.1 p.2.2.2.2.2.1 p.2.2.2.2.2.2.1 p.2.2.2.2.2.2.2
def u9{α0 α1 α2 α3 α4 α5 α6 α7 α8 β:Type}(f:α0→α1→α2→α3→α4→α5→α6→α7→α8→β)(p:α0×α1×α2×α3×α4×α5×α6×α7×α8):β:=f p.1 p.2.1 p.2.2.1 p.2.2.2.1 p.2.2.2.2.1 p.2.2.2.2.2.1 p.2.2.2.2.2.2.1 p.2.2.2.2.2.2.2.1 p.2.2.2.2.2.2.2.2
def u20{α0 α1 α2 α3 α4 α5 α6 α7 α8 α9 α10 α11 α12 α13 α14 α15 α16 α17 α18 α19 β:Type}(f:α0→α1→α2→α3→α4→α5→α6→α7→α8→α9→α10→α11→α12→α13→α14→α15→α16→α17→α18→α19→β)(p:α0×α1×α2×α3×α4×α5×α6×α7×α8×α9×α10×α11×α12×α13×α14×α15×α16×α17×α18×α19):β:=f p.1 p.2.1 p.2.2.1 p.2.2.2.1 p.2.2.2.2.1 p.2.2.2.2.2.1 p.2.2.2.2.2.2.1 p.2.2.2.2.2.2.2.1 p.2.2.2.2.2.2.2.2.1 p.2.2.2.2.2.2.2.2.2.1 p.2.2.2.2.2.2.2.2.2.2.1 p.2.2.2.2.2.2.2.2.2.2.2.1 p.2.2.2.2.2.2.2.2.2.2.2.2.1 p.2.2.2.2.2.2.2.2.2.2.2.2.2.1 p.2.2.2.2.2.2.2.2.2.2.2.2.2.2.1 p.2.2.2.2.2.2.2.2.2.2.2.2.2.2.2.1 p.2.2.2.2.2.2.2.2.2.2.2.2.2.2.2.2.1 p.2.2.2.2.2.2.2.2.2.2.2.2.2.2.2.2.2.1 p.2.2.2.2.2.2.2.2.2.2.2.2.2.2.2.2.2.2.1 p.2.2.2.2.2.2.2.2.2.2.2.2.2.2.2.2.2.2.2
def u21{α0 α1 α2 α3 α4 α5 α6 α7 α8 α9 α10 α11 α12 α13 α14 α15 α16 α17 α18 α19 α20 β:Type}(f:α0→α1→α2→α3→α4→α5→α6→α7→α8→α9→α10→α11→α12→α13→α14→α15→α16→α17→α18→α19→α20→β)(p:α0×α1×α2×α3×α4×α5×α6×α7×α8×α9×α10×α11×α12×α13×α14×α15×α16×α17×α18×α19×α20):β:=f p.1 p.2.1 p.2.2.1 p.2.2.2.1 p.2.2.2.2.1 p.2.2.2.2.2.1 p.2.2.2.2.2.2.1 p.2.2.2.2.2.2.2.1 p.2.2.2.2.2.2.2.2.1 p.2.2.2.2.2.2.2.2.2.1 p.2.2.2.2.2.2.2.2.2.2.1 p.2.2.2.2.2.2.2.2.2.2.2.1 p.2.2.2.2.2.2.2.2.2.2.2.2.1 p.2.2.2.2.2.2.2.2.2.2.2.2.2.1 p.2.2.2.2.2.2.2.2.2.2.2.2.2.2.1 p.2.2.2.2.2.2.2.2.2.2.2.2.2.2.2.1 p.2.2.2.2.2.2.2.2.2.2.2.2.2.2.2.2.1 p.2.2.2.2.2.2.2.2.2.2.2.2.2.2.2.2.2.1 p.2.2.2.2.2.2.2.2.2.2.2.2.2.2.2.2.2.2.1 p.2.2.2.2.2.2.2.2.2.2.2.2.2.2.2.2.2.2.2.1 p.2.2.2.2.2.2.2.2.2.2.2.2.2.2.2.2.2.2.2.2
def u26{α0 α1 α2 α3 α4 α5 α6 α7 α8 α9 α10 α11 α12 α13 α14 α15 α16 α17 α18 α19 α20 α21 α22 α23 α24 α25 β:Type}(f:α0→α1→α2→α3→α4→α5→α6→α7→α8→α9→α10→α11→α12→α13→α14→α15→α16→α17→α18→α19→α20→α21→α22→α23→α24→α25→β)(p:α0×α1×α2×α3×α4×α5×α6×α7×α8×α9×α10×α11×α12×α13×α14×α15×α16×α17×α18×α19×α20×α21×α22×α23×α24×α25):β:=f p.1 p.2.1 p.2.2.1 p.2.2.2.1 p.2.2.2.2.1 p.2.2.2.2.2.1 p.2.2.2.2.2.2.1 p.2.2.2.2.2.2.2.1 p.2.2.2.2.2.2.2.2.1 p.2.2.2.2.2.2.2.2.2.1 p.2.2.2.2.2.2.2.2.2.2.1 p.2.2.2.2.2.2.2.2.2.2.2.1 p.2.2.2.2.2.2.2.2.2.2.2.2.1 p.2.2.2.2.2.2.2.2.2.2.2.2.2.1 p.2.2.2.2.2.2.2.2.2.2.2.2.2.2.1 p.2.2.2.2.2.2.2.2.2.2.2.2.2.2.2.1 p.2.2.2.2.2.2.2.2.2.2.2.2.2.2.2.2.1 p.2.2.2.2.2.2.2.2.2.2.2.2.2.2.2.2.2.1 p.2.2.2.2.2.2.2.2.2.2.2.2.2.2.2.2.2.2.1 p.2.2.2.2.2.2.2.2.2.2.2.2.2.2.2.2.2.2.2.1 p.2.2.2.2.2.2.2.2.2.2.2.2.2.2.2.2.2.2.2.2.1 p.2.2.2.2.2.2.2.2.2.2.2.2.2.2.2.2.2.2.2.2.2.1 p.2.2.2.2.2.2.2.2.2.2.2.2.2.2.2.2.2.2.2.2.2.2.1 p.2.2.2.2.2.2.2.2.2.2.2.2.2.2.2.2.2.2.2.2.2.2.2.1 p.2.2.2.2.2.2.2.2.2.2.2.2.2.2.2.2.2.2.2.2.2.2.2.2.1 p.2.2.2.2.2.2.2.2.2.2.2.2.2.2.2.2.2.2.2.2.2.2.2.2.2
def u27{α0 α1 α2 α3 α4 α5 α6 α7 α8 α9 α10 α11 α12 α13 α14 α15 α16 α17 α18 α19 α20 α21 α22 α23 α24 α25 α26 β:Type}(f:α0→α1→α2→α3→α4→α5→α6→α7→α8→α9→α10→α11→α12→α13→α14→α15→α16→α17→α18→α19→α20→α21→α22→α23→α24→α25→α26→β)(p:α0×α1×α2×α3×α4×α5×α6×α7×α8×α9×α10×α11×α12×α13×α14×α15×α16×α17×α18×α19×α20×α21×α22×α23×α24×α25×α26):β:=f p.1 p.2.1 p.2.2.1 p.2.2.2.1 p.2.2.2.2.1 p.2.2.2.2.2.1 p.2.2.2.2.2.2.1 p.2.2.2.2.2.2.2.1 p.2.2.2.2.2.2.2.2.1 p.2.2.2.2.2.2.2.2.2.1 p.2.2.2.2.2.2.2.2.2.2.1 p.2.2.2.2.2.2.2.2.2.2.2.1 p.2.2.2.2.2.2.2.2.2.2.2.2.1 p.2.2.2.2.2.2.2.2.2.2.2.2.2.1 p.2.2.2.2.2.2.2.2.2.2.2.2.2.2.1 p.2.2.2.2.2.2.2.2.2.2.2.2.2.2.2.1 p.2.2.2.2.2.2.2.2.2.2.2.2.2.2.2.2.1 p.2.2.2.2.2.2.2.2.2.2.2.2.2.2.2.2.2.1 p.2.2.2.2.2.2.2.2.2.2.2.2.2.2.2.2.2.2.1 p.2.2.2.2.2.2.2.2.2.2.2.2.2.2.2.2.2.2.2.1 p.2.2.2.2.2.2.2.2.2.2.2.2.2.2.2.2.2.2.2.2.1 p.2.2.2.2.2.2.2.2.2.2.2.2.2.2.2.2.2.2.2.2.2.1 p.2.2.2.2.2.2.2.2.2.2.2.2.2.2.2.2.2.2.2.2.2.2.1 p.2.2.2.2.2.2.2.2.2.2.2.2.2.2.2.2.2.2.2.2.2.2.2.1 p.2.2.2.2.2.2.2.2.2.2.2.2.2.2.2.2.2.2.2.2.2.2.2.2.1 p.2.2.2.2.2.2.2.2.2.2.2.2.2.2.2.2.2.2.2.2.2.2.2.2.2.1 p.2.2.2.2.2.2.2.2.2.2.2.2.2.2.2.2.2.2.2.2.2.2.2.2.2.2
def u28{α0 α1 α2 α3 α4 α5 α6 α7 α8 α9 α10 α11 α12 α13 α14 α15 α16 α17 α18 α19 α20 α21 α22 α23 α24 α25 α26 α27 β:Type}(f:α0→α1→α2→α3→α4→α5→α6→α7→α8→α9→α10→α11→α12→α13→α14→α15→α16→α17→α18→α19→α20→α21→α22→α23→α24→α25→α26→α27→β)(p:α0×α1×α2×α3×α4×α5×α6×α7×α8×α9×α10×α11×α12×α13×α14×α15×α16×α17×α18×α19×α20×α21×α22×α23×α24×α25×α26×α27):β:=f p.1 p.2.1 p.2.2.1 p.2.2.2.1 p.2.2.2.2.1 p.2.2.2.2.2.1 p.2.2.2.2.2.2.1 p.2.2.2.2.2.2.2.1 p.2.2.2.2.2.2.2.2.1 p.2.2.2.2.2.2.2.2.2.1 p.2.2.2.2.2.2.2.2.2.2.1 p.2.2.2.2.2.2.2.2.2.2.2.1 p.2.2.2.2.2.2.2.2.2.2.2.2.1 p.2.2.2.2.2.2.2.2.2.2.2.2.2.1 p.2.2.2.2.2.2.2.2.2.2.2.2.2.2.1 p.2.2.2.2.2.2.2.2.2.2.2.2.2.2.2.1 p.2.2.2.2.2.2.2.2.2.2.2.2.2.2.2.2.1 p.2.2.2.2.2.2.2.2.2.2.2.2.2.2.2.2.2.1 p.2.2.2.2.2.2.2.2.2.2.2.2.2.2.2.2.2.2.1 p.2.2.2.2.2.2.2.2.2.2.2.2.2.2.2.2.2.2.2.1 p.2.2.2.2.2.2.2.2.2.2.2.2.2.2.2.2.2.2.2.2.1 p.2.2.2.2.2.2.2.2.2.2.2.2.2.2.2.2.2.2.2.2.2.1 p.2.2.2.2.2.2.2.2.2.2.2.2.2.2.2.2.2.2.2.2.2.2.1 p.2.2.2.2.2.2.2.2.2.2.2.2.2.2.2.2.2.2.2.2.2.2.2.1 p.2.2.2.2.2.2.2.2.2.2.2.2.2.2.2.2.2.2.2.2.2.2.2.2.1 p.2.2.2.2.2.2.2.2.2.2.2.2.2.2.2.2.2.2.2.2.2.2.2.2.2.1 p.2.2.2.2.2.2.2.2.2.2.2.2.2.2.2.2.2.2.2.2.2.2.2.2.2.2.1 p.2.2.2.2.2.2.2.2.2.2.2.2.2.2.2.2.2.2.2.2.2.2.2.2.2.2.2
def u35{α0 α1 α2 α3 α4 α5 α6 α7 α8 α9 α10 α11 α12 α13 α14 α15 α16 α17 α18 α19 α20 α21 α22 α23 α24 α25 α26 α27 α28 α29 α30 α31 α32 α33 α34 β:Type}(f:α0→α1→α2→α3→α4→α5→α6→α7→α8→α9→α10→α11→α12→α13→α14→α15→α16→α17→α18→α19→α20→α21→α22→α23→α24→α25→α26→α27→α28→α29→α30→α31→α32→α33→α34→β)(p:α0×α1×α2×α3×α4×α5×α6×α7×α8×α9×α10×α11×α12×α13×α14×α15×α16×α17×α18×α19×α20×α21×α22×α23×α24×α25×α26×α27×α28×α29×α30×α31×α32×α33×α34):β:=f p.1 p.2.1 p.2.2.1 p.2.2.2.1 p.2.2.2.2.1 p.2.2.2.2.2.1 p.2.2.2.2.2.2.1 p.2.2.2.2.2.2.2.1 p.2.2.2.2.2.2.2.2.1 p.2.2.2.2.2.2.2.2.2.1 p.2.2.2.2.2.2.2.2.2.2.1 p.2.2.2.2.2.2.2.2.2.2.2.1 p.2.2.2.2.2.2.2.2.2.2.2.2.1 p.2.2.2.2.2.2.2.2.2.2.2.2.2.1 p.2.2.2.2.2.2.2.2.2.2.2.2.2.2.1 p.2.2.2.2.2.2.2.2.2.2.2.2.2.2.2.1 p.2.2.2.2.2.2.2.2.2.2.2.2.2.2.2.2.1 p.2.2.2.2.2.2.2.2.2.2.2.2.2.2.2.2.2.1 p.2.2.2.2.2.2.2.2.2.2.2.2.2.2.2.2.2.2.1 p.2.2.2.2.2.2.2.2.2.2.2.2.2.2.2.2.2.2.2.1 p.2.2.2.2.2.2.2.2.2.2.2.2.2.2.2.2.2.2.2.2.1 p.2.2.2.2.2.2.2.2.2.2.2.2.2.2.2.2.2.2.2.2.2.1 p.2.2.2.2.2.2.2.2.2.2.2.2.2.2.2.2.2.2.2.2.2.2.1 p.2.2.2.2.2.2.2.2.2.2.2.2.2.2.2.2.2.2.2.2.2.2.2.1 p.2.2.2.2.2.2.2.2.2.2.2.2.2.2.2.2.2.2.2.2.2.2.2.2.1 p.2.2.2.2.2.2.2.2.2.2.2.2.2.2.2.2.2.2.2.2.2.2.2.2.2.1 p.2.2.2.2.2.2.2.2.2.2.2.2.2.2.2.2.2.2.2.2.2.2.2.2.2.2.1 p.2.2.2.2.2.2.2.2.2.2.2.2.2.2.2.2.2.2.2.2.2.2.2.2.2.2.2.1 p.2.2.2.2.2.2.2.2.2.2.2.2.2.2.2.2.2.2.2.2.2.2.2.2.2.2.2.2.1 p.2.2.2.2.2.2.2.2.2.2.2.2.2.2.2.2.2.2.2.2.2.2.2.2.2.2.2.2.2.1 p.2.2.2.2.2.2.2.2.2.2.2.2.2.2.2.2.2.2.2.2.2.2.2.2.2.2.2.2.2.2.1 p.2.2.2.2.2.2.2.2.2.2.2.2.2.2.2.2.2.2.2.2.2.2.2.2.2.2.2.2.2.2.2.1 p.2.2.2.2.2.2.2.2.2.2.2.2.2.2.2.2.2.2.2.2.2.2.2.2.2.2.2.2.2.2.2.2.1 p.2.2.2.2.2.2.2.2.2.2.2.2.2.2.2.2.2.2.2.2.2.2.2.2.2.2.2.2.2.2.2.2.2.1 p.2.2.2.2.2.2.2.2.2.2.2.2.2.2.2.2.2.2.2.2.2.2.2.2.2.2.2.2.2.2.2.2.2.2
def u36{α0 α1 α2 α3 α4 α5 α6 α7 α8 α9 α10 α11 α12 α13 α14 α15 α16 α17 α18 α19 α20 α21 α22 α23 α24 α25 α26 α27 α28 α29 α30 α31 α32 α33 α34 α35 β:Type}(f:α0→α1→α2→α3→α4→α5→α6→α7→α8→α9→α10→α11→α12→α13→α14→α15→α16→α17→α18→α19→α20→α21→α22→α23→α24→α25→α26→α27→α28→α29→α30→α31→α32→α33→α34→α35→β)(p:α0×α1×α2×α3×α4×α5×α6×α7×α8×α9×α10×α11×α12×α13×α14×α15×α16×α17×α18×α19×α20×α21×α22×α23×α24×α25×α26×α27×α28×α29×α30×α31×α32×α33×α34×α35):β:=f p.1 p.2.1 p.2.2.1 p.2.2.2.1 p.2.2.2.2.1 p.2.2.2.2.2.1 p.2.2.2.2.2.2.1 p.2.2.2.2.2.2.2.1 p.2.2.2.2.2.2.2.2.1 p.2.2.2.2.2.2.2.2.2.1 p.2.2.2.2.2.2.2.2.2.2.1 p.2.2.2.2.2.2.2.2.2.2.2.1 p.2.2.2.2.2.2.2.2.2.2.2.2.1 p.2.2.2.2.2.2.2.2.2.2.2.2.2.1 p.2.2.2.2.2.2.2.2.2.2.2.2.2.2.1 p.2.2.2.2.2.2.2.2.2.2.2.2.2.2.2.1 p.2.2.2.2.2.2.2.2.2.2.2.2.2.2.2.2.1 p.2.2.2.2.2.2.2.2.2.2.2.2.2.2.2.2.2.1 p.2.2.2.2.2.2.2.2.2.2.2.2.2.2.2.2.2.2.1 p.2.2.2.2.2.2.2.2.2.2.2.2.2.2.2.2.2.2.2.1 p.2.2.2.2.2.2.2.2.2.2.2.2.2.2.2.2.2.2.2.2.1 p.2.2.2.2.2.2.2.2.2.2.2.2.2.2.2.2.2.2.2.2.2.1 p.2.2.2.2.2.2.2.2.2.2.2.2.2.2.2.2.2.2.2.2.2.2.1 p.2.2.2.2.2.2.2.2.2.2.2.2.2.2.2.2.2.2.2.2.2.2.2.1 p.2.2.2.2.2.2.2.2.2.2.2.2.2.2.2.2.2.2.2.2.2.2.2.2.1 p.2.2.2.2.2.2.2.2.2.2.2.2.2.2.2.2.2.2.2.2.2.2.2.2.2.1 p.2.2.2.2.2.2.2.2.2.2.2.2.2.2.2.2.2.2.2.2.2.2.2.2.2.2.1 p.2.2.2.2.2.2.2.2.2.2.2.2.2.2.2.2.2.2.2.2.2.2.2.2.2.2.2.1 p.2.2.2.2.2.2.2.2.2.2.2.2.2.2.2.2.2.2.2.2.2.2.2.2.2.2.2.2.1 p.2.2.2.2.2.2.2.2.2.2.2.2.2.2.2.2.2.2.2.2.2.2.2.2.2.2.2.2.2.1 p.2.2.2.2.2.2.2.2.2.2.2.2.2.2.2.2.2.2.2.2.2.2.2.2.2.2.2.2.2.2.1 p.2.2.2.2.2.2.2.2.2.2.2.2.2.2.2.2.2.2.2.2.2.2.2.2.2.2.2.2.2.2.2.1 p.2.2.2.2.2.2.2.2.2.2.2.2.2.2.2.2.2.2.2.2.2.2.2.2.2.2.2.2.2.2.2.2.1 p.2.2.2.2.2.2.2.2.2.2.2.2.2.2.2.2.2.2.2.2.2.2.2.2.2.2.2.2.2.2.2.2.2.1 p.2.2.2.2.2.2.2.2.2.2.2.2.2.2.2.2.2.2.2.2.2.2.2.2.2.2.2.2.2.2.2.2.2.2.1 p.2.2.2.2.2.2.2.2.2.2.2.2.2.2.2.2.2.2.2.2.2.2.2.2.2.2.2.2.2.2.2.2.2.2.2
def tab:Tab:=[
 ⟨1,.func ⟨[]⟩ ⟨[]⟩ false,.nilFunc,1,8⟩,
 ⟨2,.int .i64,.int .i64 0,1,8⟩,
 ⟨3,.int .i64,.int .i64 0,1,8⟩,
 ⟨4,.bool,.bool false,1,1⟩,
 ⟨5,.int .u8,.int .u8 0,1,1⟩,
 ⟨6,.int .u8,.int .u8 0,1,1⟩,
 ⟨9,.string,Yk [],1,16⟩,
 ⟨22,.slice 104,.slice none 0 0,1,24⟩,
 ⟨23,.slice 76,.slice none 0 0,1,24⟩,
 ⟨24,.slice 80,.slice none 0 0,1,24⟩,
 ⟨25,.slice 128,.slice none 0 0,1,24⟩,
 ⟨26,.slice 3,.slice none 0 0,1,24⟩,
 ⟨27,.slice 85,.slice none 0 0,1,24⟩,
 ⟨29,.struct ⟨[⟨"Events",22,0,false, "", "",0⟩,⟨"Tariffs",23,1,false, "", "",24⟩,⟨"Products",24,2,false, "", "",48⟩,⟨"Taxes",25,3,false, "", "",72⟩,⟨"Holidays",26,4,false, "", "",96⟩,⟨"Agreements",27,5,false, "", "",120⟩]⟩,.agg ⟨[.slice none 0 0,.slice none 0 0,.slice none 0 0,.slice none 0 0,.slice none 0 0,.slice none 0 0]⟩,6,144⟩,
 ⟨30,.slice 34,.slice none 0 0,1,24⟩,
 ⟨34,.struct ⟨[⟨"Id",3,0,false, "", "",0⟩,⟨"Kind",3,1,false, "", "",8⟩,⟨"Account",3,2,false, "", "",16⟩,⟨"Sub",3,3,false, "", "",24⟩,⟨"A",9,4,false, "", "",32⟩,⟨"B",9,5,false, "", "",48⟩,⟨"Start",3,6,false, "", "",64⟩,⟨"Units",3,7,false, "", "",72⟩,⟨"Trunk",3,8,false, "", "",80⟩,⟨"Inbound",4,9,false, "", "",88⟩,⟨"Source",3,10,false, "", "",96⟩,⟨"Serial",3,11,false, "", "",104⟩]⟩,.agg ⟨[.int .i64 0,.int .i64 0,.int .i64 0,.int .i64 0,Yk [],Yk [],.int .i64 0,.int .i64 0,.int .i64 0,.bool false,.int .i64 0,.int .i64 0]⟩,12,112⟩,
 ⟨35,.slice 58,.slice none 0 0,1,24⟩,
 ⟨36,.slice 53,.slice none 0 0,1,24⟩,
 ⟨37,.slice 177,.slice none 0 0,1,24⟩,
 ⟨39,.struct ⟨[⟨"Buckets",35,0,false, "", "",0⟩,⟨"Wallets",36,1,false, "", "",24⟩,⟨"Counters",37,2,false, "", "",48⟩]⟩,.agg ⟨[.slice none 0 0,.slice none 0 0,.slice none 0 0]⟩,3,72⟩,
 ⟨40,.slice 49,.slice none 0 0,1,24⟩,
 ⟨44,.int .i64,.int .i64 0,1,8⟩,
 ⟨45,.slice 60,.slice none 0 0,1,24⟩,
 ⟨46,.slice 69,.slice none 0 0,1,24⟩,
 ⟨47,.slice 116,.slice none 0 0,1,24⟩,
 ⟨49,.struct ⟨[⟨"Usage",34,0,false, "", "",0⟩,⟨"Err",44,12,false, "", "",112⟩,⟨"Plan",9,13,false, "", "",120⟩,⟨"Version",3,14,false, "", "",136⟩,⟨"Zone",9,15,false, "", "",144⟩,⟨"Takes",45,16,false, "", "",160⟩,⟨"Segments",46,17,false, "", "",184⟩,⟨"Setup",3,18,false, "", "",208⟩,⟨"Gross",3,19,false, "", "",216⟩,⟨"Net",3,20,false, "", "",224⟩,⟨"Given",47,21,false, "", "",232⟩,⟨"Paid",3,22,false, "", "",256⟩,⟨"Owed",3,23,false, "", "",264⟩]⟩,.agg ⟨[.int .i64 0,.int .i64 0,.int .i64 0,.int .i64 0,Yk [],Yk [],.int .i64 0,.int .i64 0,.int .i64 0,.bool false,.int .i64 0,.int .i64 0,.int .i64 0,Yk [],.int .i64 0,Yk [],.slice none 0 0,.slice none 0 0,.int .i64 0,.int .i64 0,.int .i64 0,.slice none 0 0,.int .i64 0,.int .i64 0]⟩,24,272⟩,
 ⟨53,.struct ⟨[⟨"Account",3,0,false, "", "",0⟩,⟨"Balance",3,1,false, "", "",8⟩,⟨"Floor",3,2,false, "", "",16⟩,⟨"Held",3,3,false, "", "",24⟩,⟨"Until",3,4,false, "", "",32⟩]⟩,.agg ⟨[.int .i64 0,.int .i64 0,.int .i64 0,.int .i64 0,.int .i64 0]⟩,5,40⟩,
 ⟨54,.slice 9,.slice none 0 0,1,24⟩,
 ⟨56,.struct ⟨[⟨"From",3,0,false, "", "",0⟩,⟨"To",3,1,false, "", "",8⟩]⟩,.agg ⟨[.int .i64 0,.int .i64 0]⟩,2,16⟩,
 ⟨58,.struct ⟨[⟨"Account",3,0,false, "", "",0⟩,⟨"Sub",3,1,false, "", "",8⟩,⟨"Product",9,2,false, "", "",16⟩,⟨"Index",3,3,false, "", "",32⟩,⟨"Kind",3,4,false, "", "",40⟩,⟨"Zones",54,5,false, "", "",48⟩,⟨"Valid",56,6,false, "", "",72⟩,⟨"Units",3,8,false, "", "",88⟩,⟨"Left",3,9,false, "", "",96⟩,⟨"Priority",3,10,false, "", "",104⟩,⟨"Shared",4,11,false, "", "",112⟩]⟩,.agg ⟨[.int .i64 0,.int .i64 0,Yk [],.int .i64 0,.int .i64 0,.slice none 0 0,.int .i64 0,.int .i64 0,.int .i64 0,.int .i64 0,.int .i64 0,.bool false]⟩,12,120⟩,
 ⟨60,.struct ⟨[⟨"Sub",3,0,false, "", "",0⟩,⟨"Product",9,1,false, "", "",8⟩,⟨"Index",3,2,false, "", "",24⟩,⟨"From",3,3,false, "", "",32⟩,⟨"Units",3,4,false, "", "",40⟩]⟩,.agg ⟨[.int .i64 0,Yk [],.int .i64 0,.int .i64 0,.int .i64 0]⟩,5,48⟩,
 ⟨64,.func ⟨[3]⟩ ⟨[4]⟩ false,.nilFunc,1,8⟩,
 ⟨69,.struct ⟨[⟨"Band",9,0,false, "", "",0⟩,⟨"Start",3,1,false, "", "",16⟩,⟨"Units",3,2,false, "", "",24⟩,⟨"Amount",3,3,false, "", "",32⟩]⟩,.agg ⟨[Yk [],.int .i64 0,.int .i64 0,.int .i64 0]⟩,4,40⟩,
 ⟨71,.slice 95,.slice none 0 0,1,24⟩,
 ⟨72,.slice 98,.slice none 0 0,1,24⟩,
 ⟨73,.slice 102,.slice none 0 0,1,24⟩,
 ⟨74,.slice 113,.slice none 0 0,1,24⟩,
 ⟨76,.struct ⟨[⟨"Name",9,0,false, "", "",0⟩,⟨"From",3,1,false, "", "",16⟩,⟨"Split",4,2,false, "", "",24⟩,⟨"Zones",71,3,false, "", "",32⟩,⟨"Bands",72,4,false, "", "",56⟩,⟨"Rates",73,5,false, "", "",80⟩,⟨"Discounts",74,6,false, "", "",104⟩]⟩,.agg ⟨[Yk [],.int .i64 0,.bool false,.slice none 0 0,.slice none 0 0,.slice none 0 0,.slice none 0 0]⟩,7,128⟩,
 ⟨78,.slice 82,.slice none 0 0,1,24⟩,
 ⟨80,.struct ⟨[⟨"Name",9,0,false, "", "",0⟩,⟨"From",3,1,false, "", "",16⟩,⟨"Fee",3,2,false, "", "",24⟩,⟨"Category",9,3,false, "", "",32⟩,⟨"Prorate",4,4,false, "", "",48⟩,⟨"Bundles",78,5,false, "", "",56⟩]⟩,.agg ⟨[Yk [],.int .i64 0,.int .i64 0,Yk [],.bool false,.slice none 0 0]⟩,6,80⟩,
 ⟨82,.struct ⟨[⟨"Kind",3,0,false, "", "",0⟩,⟨"Zones",54,1,false, "", "",8⟩,⟨"Units",3,2,false, "", "",32⟩,⟨"Rollover",3,3,false, "", "",40⟩,⟨"Priority",3,4,false, "", "",48⟩,⟨"Shared",4,5,false, "", "",56⟩]⟩,.agg ⟨[.int .i64 0,.slice none 0 0,.int .i64 0,.int .i64 0,.int .i64 0,.bool false]⟩,6,64⟩,
 ⟨83,.slice 100,.slice none 0 0,1,24⟩,
 ⟨85,.struct ⟨[⟨"Partner",3,0,false, "", "",0⟩,⟨"Kind",3,1,false, "", "",8⟩,⟨"Inbound",4,2,false, "", "",16⟩,⟨"Valid",56,3,false, "", "",24⟩,⟨"Steps",83,5,false, "", "",40⟩,⟨"Cap",3,6,false, "", "",64⟩]⟩,.agg ⟨[.int .i64 0,.int .i64 0,.bool false,.int .i64 0,.int .i64 0,.slice none 0 0,.int .i64 0]⟩,7,72⟩,
 ⟨95,.struct ⟨[⟨"Name",9,0,false, "", "",0⟩,⟨"Prefixes",54,1,false, "", "",16⟩]⟩,.agg ⟨[Yk [],.slice none 0 0]⟩,2,40⟩,
 ⟨96,.slice 262,.slice none 0 0,1,24⟩,
 ⟨98,.struct ⟨[⟨"Name",9,0,false, "", "",0⟩,⟨"Slots",96,1,false, "", "",16⟩]⟩,.agg ⟨[Yk [],.slice none 0 0]⟩,2,40⟩,
 ⟨100,.struct ⟨[⟨"Upto",3,0,false, "", "",0⟩,⟨"Quantum",3,1,false, "", "",8⟩,⟨"Price",3,2,false, "", "",16⟩]⟩,.agg ⟨[.int .i64 0,.int .i64 0,.int .i64 0]⟩,3,24⟩,
 ⟨102,.struct ⟨[⟨"Kind",3,0,false, "", "",0⟩,⟨"Zone",9,1,false, "", "",8⟩,⟨"Band",9,2,false, "", "",24⟩,⟨"Setup",3,3,false, "", "",40⟩,⟨"Steps",83,4,false, "", "",48⟩]⟩,.agg ⟨[.int .i64 0,Yk [],Yk [],.int .i64 0,.slice none 0 0]⟩,5,72⟩,
 ⟨104,.struct ⟨[⟨"At",3,0,false, "", "",0⟩,⟨"Kind",3,1,false, "", "",8⟩,⟨"Account",3,2,false, "", "",16⟩,⟨"Sub",3,3,false, "", "",24⟩,⟨"Number",9,4,false, "", "",32⟩,⟨"Name",9,5,false, "", "",48⟩,⟨"Value",3,6,false, "", "",64⟩]⟩,.agg ⟨[.int .i64 0,.int .i64 0,.int .i64 0,.int .i64 0,Yk [],Yk [],.int .i64 0]⟩,7,72⟩,
 ⟨109,.slice 111,.slice none 0 0,1,24⟩,
 ⟨111,.struct ⟨[⟨"Op",3,0,false, "", "",0⟩,⟨"Num",3,1,false, "", "",8⟩,⟨"Text",9,2,false, "", "",16⟩,⟨"Args",109,3,false, "", "",32⟩]⟩,.agg ⟨[.int .i64 0,.int .i64 0,Yk [],.slice none 0 0]⟩,4,56⟩,
 ⟨113,.struct ⟨[⟨"Name",9,0,false, "", "",0⟩,⟨"When",111,1,false, "", "",16⟩,⟨"Points",3,5,false, "", "",72⟩]⟩,.agg ⟨[Yk [],.int .i64 0,.int .i64 0,Yk [],.slice none 0 0,.int .i64 0]⟩,6,80⟩,
 ⟨116,.struct ⟨[⟨"Name",9,0,false, "", "",0⟩,⟨"Amount",3,1,false, "", "",16⟩]⟩,.agg ⟨[Yk [],.int .i64 0]⟩,2,24⟩,
 ⟨118,.slice 142,.slice none 0 0,1,24⟩,
 ⟨119,.slice 153,.slice none 0 0,1,24⟩,
 ⟨121,.struct ⟨[⟨"Accounts",118,0,false, "", "",0⟩,⟨"Subs",119,1,false, "", "",24⟩,⟨"Ended",26,2,false, "", "",48⟩]⟩,.agg ⟨[.slice none 0 0,.slice none 0 0,.slice none 0 0]⟩,3,72⟩,
 ⟨128,.struct ⟨[⟨"Category",9,0,false, "", "",0⟩,⟨"From",3,1,false, "", "",16⟩,⟨"Points",3,2,false, "", "",24⟩]⟩,.agg ⟨[Yk [],.int .i64 0,.int .i64 0]⟩,3,32⟩,
 ⟨136,.struct ⟨[⟨"start",3,0,false, "", "billing/history",0⟩,⟨"source",3,1,false, "", "billing/history",8⟩,⟨"serial",3,2,false, "", "billing/history",16⟩,⟨"id",3,3,false, "", "billing/history",24⟩]⟩,.agg ⟨[.int .i64 0,.int .i64 0,.int .i64 0,.int .i64 0]⟩,4,32⟩,
 ⟨138,.pointer 144,.pointer none,1,8⟩,
 ⟨140,.struct ⟨[⟨"Period",56,0,false, "", "",0⟩,⟨"Plan",9,2,false, "", "",16⟩,⟨"Products",54,3,false, "", "",32⟩,⟨"Suspended",4,4,false, "", "",56⟩,⟨"Family",4,5,false, "", "",57⟩]⟩,.agg ⟨[.int .i64 0,.int .i64 0,Yk [],.slice none 0 0,.bool false,.bool false]⟩,6,64⟩,
 ⟨142,.struct ⟨[⟨"Id",3,0,false, "", "",0⟩,⟨"Since",3,1,false, "", "",8⟩,⟨"Anchor",3,2,false, "", "",16⟩,⟨"Prepaid",4,3,false, "", "",24⟩,⟨"Closed",4,4,false, "", "",25⟩,⟨"Subs",26,5,false, "", "",32⟩]⟩,.agg ⟨[.int .i64 0,.int .i64 0,.int .i64 0,.bool false,.bool false,.slice none 0 0]⟩,6,56⟩,
 ⟨144,.struct ⟨[⟨"book",29,0,false, "", "billing/rate",0⟩,⟨"state",39,6,false, "", "billing/rate",144⟩,⟨"u",34,9,false, "", "billing/rate",216⟩,⟨"spell",140,21,false, "", "billing/rate",328⟩,⟨"account",142,27,false, "", "billing/rate",392⟩,⟨"tariff",76,33,false, "", "billing/rate",448⟩,⟨"free",3,40,false, "", "billing/rate",576⟩,⟨"r",49,41,false, "", "billing/rate",584⟩]⟩,.agg ⟨[.slice none 0 0,.slice none 0 0,.slice none 0 0,.slice none 0 0,.slice none 0 0,.slice none 0 0,.slice none 0 0,.slice none 0 0,.slice none 0 0,.int .i64 0,.int .i64 0,.int .i64 0,.int .i64 0,Yk [],Yk [],.int .i64 0,.int .i64 0,.int .i64 0,.bool false,.int .i64 0,.int .i64 0,.int .i64 0,.int .i64 0,Yk [],.slice none 0 0,.bool false,.bool false,.int .i64 0,.int .i64 0,.int .i64 0,.bool false,.bool false,.slice none 0 0,Yk [],.int .i64 0,.bool false,.slice none 0 0,.slice none 0 0,.slice none 0 0,.slice none 0 0,.int .i64 0,.int .i64 0,.int .i64 0,.int .i64 0,.int .i64 0,Yk [],Yk [],.int .i64 0,.int .i64 0,.int .i64 0,.bool false,.int .i64 0,.int .i64 0,.int .i64 0,Yk [],.int .i64 0,Yk [],.slice none 0 0,.slice none 0 0,.int .i64 0,.int .i64 0,.int .i64 0,.slice none 0 0,.int .i64 0,.int .i64 0]⟩,65,856⟩,
 ⟨145,.func ⟨[]⟩ ⟨[44]⟩ false,.nilFunc,1,8⟩,
 ⟨148,.array 5 4,.agg ⟨[.bool false,.bool false,.bool false,.bool false,.bool false]⟩,5,5⟩,
 ⟨153,.struct ⟨[⟨"Id",3,0,false, "", "",0⟩,⟨"Account",3,1,false, "", "",8⟩,⟨"Since",3,2,false, "", "",16⟩,⟨"Plan",9,3,false, "", "",24⟩,⟨"Numbers",54,4,false, "", "",40⟩,⟨"Products",54,5,false, "", "",64⟩,⟨"Suspended",4,6,false, "", "",88⟩,⟨"Family",4,7,false, "", "",89⟩]⟩,.agg ⟨[.int .i64 0,.int .i64 0,.int .i64 0,Yk [],.slice none 0 0,.slice none 0 0,.bool false,.bool false]⟩,8,96⟩,
 ⟨158,.slice 56,.slice none 0 0,1,24⟩,
 ⟨177,.struct ⟨[⟨"Sub",3,0,false, "", "",0⟩,⟨"Kind",3,1,false, "", "",8⟩,⟨"From",3,2,false, "", "",16⟩,⟨"Units",3,3,false, "", "",24⟩,⟨"Spent",3,4,false, "", "",32⟩]⟩,.agg ⟨[.int .i64 0,.int .i64 0,.int .i64 0,.int .i64 0,.int .i64 0]⟩,5,40⟩,
 ⟨184,.struct ⟨[⟨"Kind",3,0,false, "", "",0⟩,⟨"Units",3,1,false, "", "",8⟩,⟨"Weekday",3,2,false, "", "",16⟩,⟨"Minute",3,3,false, "", "",24⟩,⟨"Total",3,4,false, "", "",32⟩,⟨"Spent",3,5,false, "", "",40⟩,⟨"Zone",9,6,false, "", "",48⟩,⟨"Band",9,7,false, "", "",64⟩,⟨"Family",4,8,false, "", "",80⟩]⟩,.agg ⟨[.int .i64 0,.int .i64 0,.int .i64 0,.int .i64 0,.int .i64 0,.int .i64 0,Yk [],Yk [],.bool false]⟩,9,88⟩,
 ⟨202,.slice 140,.slice none 0 0,1,24⟩,
 ⟨206,.struct ⟨[⟨"Accounts",118,0,false, "", "",0⟩,⟨"Subs",119,1,false, "", "",24⟩]⟩,.agg ⟨[.slice none 0 0,.slice none 0 0]⟩,2,48⟩,
 ⟨208,.map 9 9,.map none,1,8⟩,
 ⟨218,.pointer 221,.pointer none,1,8⟩,
 ⟨219,.map 224 4,.map none,1,8⟩,
 ⟨221,.struct ⟨[⟨"list",35,0,false, "", "billing/bundle",0⟩,⟨"has",219,1,false, "", "billing/bundle",24⟩]⟩,.agg ⟨[.slice none 0 0,.map none]⟩,2,32⟩,
 ⟨224,.struct ⟨[⟨"sub",3,0,false, "", "billing/bundle",0⟩,⟨"product",9,1,false, "", "billing/bundle",8⟩,⟨"index",3,2,false, "", "billing/bundle",24⟩,⟨"from",3,3,false, "", "billing/bundle",32⟩]⟩,.agg ⟨[.int .i64 0,Yk [],.int .i64 0,.int .i64 0]⟩,4,40⟩,
 ⟨227,.slice 231,.slice none 0 0,1,24⟩,
 ⟨231,.struct ⟨[⟨"account",3,0,false, "", "billing/bundle",0⟩,⟨"sub",3,1,false, "", "billing/bundle",8⟩,⟨"product",9,2,false, "", "billing/bundle",16⟩,⟨"active",158,3,false, "", "billing/bundle",32⟩]⟩,.agg ⟨[.int .i64 0,.int .i64 0,Yk [],.slice none 0 0]⟩,4,56⟩,
 ⟨232,.slice 235,.slice none 0 0,1,24⟩,
 ⟨235,.struct ⟨[⟨"bucket",58,0,false, "", "billing/bundle",0⟩,⟨"rollover",3,12,false, "", "billing/bundle",120⟩]⟩,.agg ⟨[.int .i64 0,.int .i64 0,Yk [],.int .i64 0,.int .i64 0,.slice none 0 0,.int .i64 0,.int .i64 0,.int .i64 0,.int .i64 0,.int .i64 0,.bool false,.int .i64 0]⟩,13,128⟩,
 ⟨250,.array 2 3,.agg ⟨[.int .i64 0,.int .i64 0]⟩,2,16⟩,
 ⟨253,.map 3 3,.map none,1,8⟩,
 ⟨262,.struct ⟨[⟨"Days",3,0,false, "", "",0⟩,⟨"From",3,1,false, "", "",8⟩,⟨"To",3,2,false, "", "",16⟩]⟩,.agg ⟨[.int .i64 0,.int .i64 0,.int .i64 0]⟩,3,24⟩,
 ⟨266,.slice 269,.slice none 0 0,1,24⟩,
 ⟨269,.struct ⟨[⟨"at",3,0,false, "", "billing/subscribe",0⟩,⟨"s",153,1,false, "", "billing/subscribe",8⟩]⟩,.agg ⟨[.int .i64 0,.int .i64 0,.int .i64 0,.int .i64 0,Yk [],.slice none 0 0,.slice none 0 0,.bool false,.bool false]⟩,9,104⟩,
 ⟨272,.func ⟨[269,269]⟩ ⟨[4]⟩ false,.nilFunc,1,8⟩,
 ⟨273,.func ⟨[269,269]⟩ ⟨[269]⟩ false,.nilFunc,1,8⟩,
 ⟨274,.pointer 327,.pointer none,1,8⟩,
 ⟨284,.func ⟨[95]⟩ ⟨[4]⟩ false,.nilFunc,1,8⟩,
 ⟨288,.map 3 4,.map none,1,8⟩,
 ⟨289,.map 9 288,.map none,1,8⟩,
 ⟨302,.struct ⟨[⟨"sub",3,0,false, "", "billing/bucket",0⟩,⟨"product",9,1,false, "", "billing/bucket",8⟩,⟨"index",3,2,false, "", "billing/bucket",24⟩,⟨"from",3,3,false, "", "billing/bucket",32⟩]⟩,.agg ⟨[.int .i64 0,Yk [],.int .i64 0,.int .i64 0]⟩,4,40⟩,
 ⟨305,.slice 308,.slice none 0 0,1,24⟩,
 ⟨308,.struct ⟨[⟨"Band",9,0,false, "", "",0⟩,⟨"Period",56,1,false, "", "",16⟩]⟩,.agg ⟨[Yk [],.int .i64 0,.int .i64 0]⟩,3,32⟩,
 ⟨311,.array 3 250,.agg ⟨[.int .i64 0,.int .i64 0,.int .i64 0,.int .i64 0,.int .i64 0,.int .i64 0]⟩,6,48⟩,
 ⟨314,.func ⟨[98]⟩ ⟨[4]⟩ false,.nilFunc,1,8⟩,
 ⟨316,.func ⟨[262]⟩ ⟨[4]⟩ false,.nilFunc,1,8⟩,
 ⟨323,.map 3 142,.map none,1,8⟩,
 ⟨324,.map 3 153,.map none,1,8⟩,
 ⟨325,.map 9 3,.map none,1,8⟩,
 ⟨327,.struct ⟨[⟨"accounts",323,0,false, "", "billing/customer",0⟩,⟨"subs",324,1,false, "", "billing/customer",8⟩,⟨"ever",288,2,false, "", "billing/customer",16⟩,⟨"owners",325,3,false, "", "billing/customer",24⟩,⟨"live",253,4,false, "", "billing/customer",32⟩,⟨"opened",26,5,false, "", "billing/customer",40⟩,⟨"added",26,6,false, "", "billing/customer",64⟩]⟩,.agg ⟨[.map none,.map none,.map none,.map none,.map none,.slice none 0 0,.slice none 0 0]⟩,7,88⟩,
 ⟨328,.map 3 26,.map none,1,8⟩,
 ⟨331,.func ⟨[140]⟩ ⟨[4]⟩ false,.nilFunc,1,8⟩,
 ⟨333,.func ⟨[4,4]⟩ ⟨[4]⟩ false,.nilFunc,1,8⟩,
 ⟨335,.func ⟨[80]⟩ ⟨[4]⟩ false,.nilFunc,1,8⟩,
 ⟨340,.struct ⟨[⟨"Year",3,0,false, "", "",0⟩,⟨"Month",3,1,false, "", "",8⟩,⟨"Day",3,2,false, "", "",16⟩]⟩,.agg ⟨[.int .i64 0,.int .i64 0,.int .i64 0]⟩,3,24⟩,
 ⟨347,.array 4 3,.agg ⟨[.int .i64 0,.int .i64 0,.int .i64 0,.int .i64 0]⟩,4,32⟩,
 ⟨350,.func ⟨[56,56]⟩ ⟨[4]⟩ false,.nilFunc,1,8⟩,
 ⟨351,.func ⟨[56,56]⟩ ⟨[56]⟩ false,.nilFunc,1,8⟩,
 ⟨352,.slice 354,.slice none 0 0,1,24⟩,
 ⟨354,.struct ⟨[⟨"at",3,0,false, "", "billing/interval",0⟩,⟨"list",3,1,false, "", "billing/interval",8⟩,⟨"by",3,2,false, "", "billing/interval",16⟩]⟩,.agg ⟨[.int .i64 0,.int .i64 0,.int .i64 0]⟩,3,24⟩,
 ⟨357,.func ⟨[354,354]⟩ ⟨[3]⟩ false,.nilFunc,1,8⟩,
 ⟨369,.array 12 3,.agg ⟨[.int .i64 0,.int .i64 0,.int .i64 0,.int .i64 0,.int .i64 0,.int .i64 0,.int .i64 0,.int .i64 0,.int .i64 0,.int .i64 0,.int .i64 0,.int .i64 0]⟩,12,96⟩]
def tx:TX:=⟨tab,[(1,.ref),(2,(.int .i64)),(3,(.int .i64)),(4,.bool),(5,(.int .u8)),(6,(.int .u8)),(9,.str),(22,(.sl Jt)),(23,(.sl J5)),(24,(.sl Yl)),(25,(.sl Cu)),(26,(.sl (.int .i64))),(27,(.sl V2)),(29,Vt),(30,(.sl J0)),(34,J0),(35,(.sl Yj)),(36,(.sl V3)),(37,(.sl Ym)),(39,Zw),(40,(.sl Ls)),(44,(.int .i64)),(45,(.sl Qd0)),(46,(.sl Iw)),(47,(.sl S9)),(49,Ls),(53,V3),(54,(.sl .str)),(56,Ja),(58,Yj),(60,Qd0),(64,.ref),(69,Iw),(71,(.sl Ua)),(72,(.sl Vs)),(73,(.sl Gn)),(74,(.sl Y7)),(76,J5),(78,(.sl Kx)),(80,Yl),(82,Kx),(83,(.sl Gm)),(85,V2),(95,Ua),(96,(.sl Kh)),(98,Vs),(100,Gm),(102,Gn),(104,Jt),(109,(.sl Ki)),(111,Ki),(113,Y7),(116,S9),(118,(.sl Vy)),(119,(.sl Vd)),(121,U1),(128,Cu),(136,Ix),(138,.ref),(140,Bv),(142,Vy),(144,Jav),(145,.ref),(148,(.arr 5 .bool)),(153,Vd),(158,(.sl Ja)),(177,Ym),(184,Rc),(202,(.sl Bv)),(206,Qqa),(208,.ref),(218,.ref),(219,.ref),(221,Qr2),(224,Us),(227,(.sl Ud)),(231,Ud),(232,(.sl Hs)),(235,Hs),(250,(.arr 2 (.int .i64))),(253,.ref),(262,Kh),(266,(.sl Vf)),(269,Vf),(272,.ref),(273,.ref),(274,.ref),(284,.ref),(288,.ref),(289,.ref),(302,Rd),(305,(.sl Qf1)),(308,Qf1),(311,(.arr 3 (.arr 2 (.int .i64)))),(314,.ref),(316,.ref),(323,.ref),(324,.ref),(325,.ref),(327,Qmk),(328,.ref),(331,.ref),(333,.ref),(335,.ref),(340,Qd1),(347,(.arr 4 (.int .i64))),(350,.ref),(351,.ref),(352,(.sl Vu)),(354,Vu),(357,.ref),(369,(.arr 12 (.int .i64)))],[]⟩
theorem Je5:Tryz.prog.follows .mixedOrders=true:=by kernel_rfl
theorem Je6:Q6 Tryz.prog tab:=by repeat (first | exact trivial | refine⟨⟨⟨by kernel_rfl,by kernel_rfl⟩,by kernel_rfl⟩,?_⟩)
abbrev KO(c:Con):Prop:=Qe1 Tryz.prog tx.gl c∧Runs Tryz.prog c.f
abbrev IO(i:It):Prop:=Jan Tryz.prog tx.gl i∧Runs Tryz.prog i.f
abbrev V:={c // KO c}
def kcs(N:Nat)(L:List (Nat→V)):List Con:=L.map fun k=>(k N).1
theorem Q7h(N:Nat):∀L:List (Nat→V),Qzw Tryz.prog tx.gl (kcs N L)
 | []=>Jpc
 | c::L=>Jnp (c N).2.1 (c N).2.2 (Q7h N L)
def Q7i(fn:Func):Bool:=decide (fn.name ≠ "runtime.NumGoroutine")&&!fn.body.isNone
theorem Ij{f:FuncId}{fn:Func}(hf:Tryz.prog.funcs[f]?=some fn)(h:Q7i fn=true):Runs Tryz.prog f:=by
 simp only[Q7i,QQ,decide_eq_true_eq,JL]at h
 exact⟨fn,hf,h.1,h.2⟩
theorem kF(N:Nat){c:Con}(L:List (Nat→V))(ps:List (Nat×Pc)){fn:Func}(hf:Tryz.prog.funcs[c.f]?=some fn)(hg:Q7i fn=true:=by rfl)(h:∀x,c.fn x=Jd7 tx (kcs N L) N fn (Jns ((kcs N L).map Con.f) ps fn.body) c.ro c.Γ c.Δ x:=by intro x; kernel_rfl):KO c :=
 ⟨Jja (Y:=tx) (N:=N) Je6 Je5 (Q7h N L) hf rfl h,Ij hf hg⟩
def ics(L:List {i // IO i}):List It:=L.map (·.1)
theorem Jkx:∀L:List {i // IO i},∀i∈ics L,Jan Tryz.prog tx.gl i∧Runs Tryz.prog i.f
 | [],_,h=>by cases h
 | c::L,i,h=>by
  rcases QJ.1 h with rfl | h
  ·exact c.2
  ·exact Jkx L i h
theorem kR(N:Nat){c:Con}(L:List (Nat→V))(I:List {i // IO i})(an:AnR){fn:Func}(hf:Tryz.prog.funcs[c.f]?=some fn)(hg:Q7i fn=true)(h:∀x,c.fn x=Jez tx (kcs N L) N (ics I) fn an c.ro c.Γ c.Δ x):KO c :=
 ⟨Je0 (Y:=tx) (N:=N) (an:=an) Je6 Je5 (Q7h N L) (Jkx I) hf rfl h,Ij hf hg⟩
def Vv:Con:=⟨243,⟨[(0,.s 5000),(1,.f 244 (.nil))],[(5000,.row 354 Vu)]⟩,[⟨[],[(5000,.row 354 Vu)]⟩],Qe4 (fun x:Q9=>x.1),[]⟩
theorem Ga:KO Vv:=⟨Qt4 (c:=Vv) (e:=354) (u:=Vu) rfl (fun x=>x) (fun y=>y) (ev:=[⟨1,[],.f 244 .nil⟩]) (vx:=[.func (.func 244) #[] #[]]) rfl (fun _=>by kernel_rfl) (fun _=>by kernel_rfl) rfl Q7g (fun _ _=>Jas) (fun p w=>AnyF.slices_SortFunc_none { Tryz.sortFunc243 with } p 0 _ w) (fun _ _ h blk cap w hH hb _=>Qz9 (u:=Vu) rfl (fun x:Q9=>x.1) Tryz.sortFunc243 isAgg354 sizeOf354 (enters_of func244 (by kernel_rfl) rfl) Tryz.clo244 h blk cap w hH hb),Ij func243 rfl⟩
def Ik:Con:=⟨246,⟨[(0,.s 5000)],[(5000,.row 3 (.int .i64))]⟩,[⟨[],[(5000,.row 3 (.int .i64))]⟩],Qtz,[]⟩
theorem Qgc:KO Ik:=⟨Qt4 (c:=Ik) (e:=3) (u:=(.int .i64)) rfl (fun x=>x) (fun y=>y) (ev:=[]) (vx:=[]) rfl (fun _=>by kernel_rfl) (fun _=>by kernel_rfl) rfl Q7f (fun _ _=>Jat) (fun p w=>AnyM.slices_Sort_int_none Tryz.sortInts246 p 0 w) (fun _ _ h blk cap w hH hb _=>Q0a Tryz.sortInts246 h blk cap w hH hb),Ij func246 rfl⟩
def Ab:Con:=⟨247,⟨[(0,.s 5000)],[(5000,.row 3 (.int .i64))]⟩,[⟨[(0,.s 0)],[(0,.row 3 (.int .i64))]⟩],Rb,[]⟩
theorem Qa5:KO Ab:=⟨Qt5 (c:=Ab) (e:=3) (u:=(.int .i64)) rfl (fun x=>x) (fun y=>y) (ev:=[]) (vx:=[]) rfl (fun _=>by kernel_rfl) (fun _=>by kernel_rfl) rfl rfl Q7f (fun _ _=>Qwk) (fun p w=>Any.slices_Compact_int_empty Tryz.compactInts247 p 0 w) (fun _ _ h blk cap w hH hb hc=>Qp9 Tryz.compactInts247 h blk cap w hH hb hc),Ij func247 rfl⟩
def Kz:Con:=⟨248,⟨[(0,.s 5000),(1,.f 249 (.nil))],[(5000,.row 3 (.int .i64))]⟩,[⟨[(0,.s 0)],[(0,.row 3 (.int .i64))]⟩],Qt0 (fun m=>decide (m≥1440)),[]⟩
theorem D0:KO Kz:=⟨Qt5 (c:=Kz) (e:=3) (u:=(.int .i64)) rfl (fun x=>x) (fun y=>y) (ev:=[⟨1,[],.f 249 .nil⟩]) (vx:=[.func (.func 249) #[] #[]]) rfl (fun _=>by kernel_rfl) (fun _=>by kernel_rfl) rfl rfl Q7g (fun _ _=>Jau) (fun p w=>Qr1 Tryz.deleteFunc248 p w) (fun _ _ h blk cap w hH hb hc=>Q0b Tryz.deleteFunc248 Tryz.zeroValue3 (enters_of func249 (by kernel_rfl) rfl) Tryz.clo249 h blk cap w hH hb hc),Ij func248 rfl⟩
def zs1:Shp:=sD [Ki,.i]
def zs2:Shp:=sD [.i]
def zs3:Sk:=.d .i
def zs4:Shp:=⟨[(5,zs3)],[]⟩
def zs5:Shp:=sD [.bool]
def zs6:Shp:=⟨[],[]⟩
def zs7:Sk:=.d .bool
def zs8:Exs:=[(.x 0,zs6),(.r,⟨[(4,zs7)],[]⟩)]
def zs9:Shp:=⟨[(6,zs3)],[]⟩
def Qqc:Shp:=⟨[(7,zs3)],[]⟩
def Qh9:Shp:=⟨[(8,zs3)],[]⟩
def Jph:Exs:=[(.x 6,zs6),(.r,⟨[(4,zs7)],[]⟩)]
def Jnt:Shp:=⟨[(22,zs7)],[]⟩
def Qml:Shp:=sD [.str]
def Vl:Hn:=.n 1 .done
def Tw:Hn:=.nl 3 Vl
def Qcj:Shp:=⟨[(3,zs3)],[]⟩
def Qqd:Exs:=[(.x 0,zs6),(.r,⟨[(2,zs7)],[]⟩)]
def Jnu:Shp:=⟨[(37,zs7)],[]⟩
def Hd:Hn:=.nl 4 Vl
def Jjc:Shp:=⟨[(49,zs7)],[]⟩
def Jnv:Shp:=⟨[(48,zs7)],[]⟩
def Jnw:Hn:=.nl 5 .done
def Jnx:Shp:=⟨[(55,zs7)],[]⟩
def Je7:Shp:=⟨[(19,zs7)],[]⟩
def Qka:Hn:=.nl 8 Vl
def Qr3:Hn:=.nl 1 Vl
def Jjd:Hn:=.nl 4 (.n 3 Qr3)
def Jje:Hn:=.call 1 Qr3
def Je8:Hn:=.nl 2 Jje
def Jjf:Hn:=.call 2 Qr3
def Jjg:Hn:=.n 15 .done
def Jpi:Hn:=.nl 2 (.call 3 Qr3)
def Jjh:Shp:=sD [U1,.i]
def Q4s:Shp:=⟨[(4,zs3)],[]⟩
def Qr4:Exs:=[(.x 0,zs6),(.r,Q4s)]
def Je9:Hn:=.call 0 Qr3
def Jaw:Hn:=.nl 2 Vl
def Jpj:HT:=.a (.a (.a (.a (.a (.a (.tl Jaw))))))
def Jpk:HT:=.a Jpj
def Jny:Shp:=sD [U1,Jt]
def Jji:Hn:=.nl 3 Jje
def Qr5:Hn:=.nl 5 Vl
def Jfa:Shp:=⟨[(41,zs7)],[]⟩
def Q0c:Shp:=sD [.sl .str,.str]
def Jpl:Exs:=[(.n,zs6),(.r,Q4s)]
def Jpm:Exs:=[(.n,⟨[(53,zs7)],[]⟩)]
def Rw:Sk:=.s 1
def Qgd:List (Nat×Sk):=[(0,Rw)]
def Qqe:SkO:=.row 9 .str
def Q4t:Shp:=⟨Qgd,[(1,Qqe)]⟩
def Q0d:Shp:=⟨[(18,zs7)],[]⟩
def Tx:Hn:=.nl 6 Vl
def Rx:Sk:=.s 100000
def Qia:Sk:=.s 100200
def Jjj:List (Nat×Sk):=[(5,Qia)]
def Jnz:Exs:=[(.x 0,⟨Jjj,[(100200,Qqe)]⟩)]
def Qec:Sk:=.s 100100
def Jn0:Exs:=[(.n,⟨[(5,Qec)],[(100100,Qqe)]⟩)]
def Jpn:Shp:=sD [Vd,Jt]
def Ry:Sk:=.p 100000 []
def Yb:Sk:=.d .str
def Jn1:Sk:=.d (.sl .str)
def Jn2:SkO:=.var 153 (.ag (sL [zs3,zs3,zs3,Yb,Jn1,Jn1,zs7,zs7]))
def Q0e:Sk:=.s 2
def Jax:Sk:=.ag (sL [Rw,Q0e,.s 3])
def Q4u:SkO:=.row 142 Vy
def Qr6:SkO:=.row 153 Vd
def Hl:SkO:=.row 3 .i
def Mt:HT:=.tl Vl
def Qa6:Sk:=.p 100100 []
def Jn3:Sk:=.p 100101 []
def Jfb:Sk:=.s 100102
def Jfc:Sk:=.s 100103
def Qkb:Sk:=.p 100200 []
def Q0f:Sk:=.s 100201
def Jjk:Sk:=.s 100202
def Jn4:Sk:=.s 100203
def Q4v:Hn:=.n 3 .done
def Qqf:HT:=.tl Q4v
def Jpo:Exs:=[(.n,⟨[(90,zs7)],[]⟩)]
def Q4w:Hn:=.n 2 .done
def Jay:HT:=.tl Q4w
def Mu:Shp:=sD [.i,.i]
def Qqg:Sk:=.s 100001
def Jjl:Sk:=.s 100002
def Jn5:Sk:=.s 100003
def Jn6:Sk:=.ag (sL [Qqg,Jjl,Jn5])
def Jpp:Exs:=[(.x 0,zs6),(.r,⟨[(2,zs3),(3,zs3)],[]⟩)]
def Q0g:Hn:=.n 6 .done
def Qmm:Hn:=.call 0 Vl
def Jjm:Hn:=.n 5 .done
def Jfd:Hn:=.call 1 Vl
def Qmn:Exs:=[(.x 0,zs6),(.r,⟨[(2,zs3)],[]⟩)]
def Jn7:Exs:=[(.x 2,zs6),(.r,⟨[(2,zs3)],[]⟩)]
def Jjn:Hn:=.n 10 .done
def Jpq:Shp:=sD [Yl]
def Jjo:Hn:=.nl 13 .done
def Jn8:Shp:=sD [.int .u8]
def Qlu:Hn:=.nl 2 Je9
def Jfe:Shp:=⟨[(35,zs7)],[]⟩
def Jff:Exs:=[(.x 0,zs6),(.r,⟨[(6,zs7)],[]⟩)]
def Qlv:Hn:=.n 8 .done
def Jky:Shp:=sD [.sl Ua]
def Jkz:Shp:=sD [.sl Vs]
def Jk0:Shp:=sD [J5,.str]
def Jk1:Shp:=sD [.sl Gm]
def Q0h:Shp:=sD [J5]
def Qqh:Shp:=sD [Ki]
def Qt6:HT:=.a Mt
def Q7j:Hn:=.n 7 .done
def Jk2:Exs:=[(.n,⟨[(42,zs7)],[]⟩)]
def Jfg:List (Nat×SkO):=[(100000,Hl)]
def Jk3:Shp:=⟨[(7,Rx),(8,zs3)],Jfg⟩
def Jfh:Shp:=⟨[(4,zs3),(5,zs3)],[]⟩
def Q0i:Shp:=sD [Ja]
def Q0j:Shp:=sD [.sl .i,.i]
def Jfi:Shp:=⟨Qgd,[(1,Hl)]⟩
def Qqi:Sk:=.s 100400
def Jfj:List (Nat×SkO):=[(100400,Hl)]
def Qlw:Sk:=.s 100300
def Jfk:List (Nat×SkO):=[(100200,Hl)]
def Q7k:Sk:=.s 100500
def Jk4:Shp:=⟨[(0,.d (.sl .i))],[]⟩
def Jk5:Shp:=sD [Ja,.i]
def Dc:SkO:=.row 56 Ja
def Qib:Shp:=⟨Qgd,[(1,Dc)]⟩
def Q7l:List (Nat×SkO):=[(100000,Dc)]
def Jfl:List (Nat×SkO):=[(100400,Dc)]
def Jk6:HT:=.a (.a Jay)
def Q7m:Shp:=sD [Ja,Ja]
def Jk7:Shp:=sD [Ja,.bool]
def Qfb:Hn:=.nl 7 Vl
def Jfm:Shp:=sD [Zw]
def Uj:SkO:=.row 58 Yj
def Qas:SkO:=.row 53 V3
def Qat:SkO:=.row 177 Ym
def Jk8:List (Nat×SkO):=[(1,Uj),(2,Qas),(3,Qat)]
def Q0k:Shp:=⟨[(0,Jax)],Jk8⟩
def Q7n:HT:=.e 3 Mt
def Qt7:List (Nat×Sk):=[(3,Qa6)]
def Qck:Sk:=.s 100101
def Qic:Hn:=.n 4 .done
def Jk9:Shp:=sD [.sl J0]
def Jfn:Hn:=.call 0 Q4w
def Jla:Sk:=.d (.sl J0)
def Jlb:SkO:=.row 34 J0
def Jlc:HT:=.a (.a (.a (.a (.a (.a (.a (.tl Hd)))))))
def Jfo:List (Nat×Sk):=[(5,Rx),(10,zs3)]
def Qfc:Sk:=.p 100300 []
def Jfp:Sk:=.p 100301 []
def Q7o:SkO:=.var 153 (.ag (sL [zs3,zs3,zs3,Yb,.ns,.ns,zs7,zs7]))
def Qt8:Shp:=sD [.sl Jt,.i]
def Qlx:SkO:=.row 269 Vf
def Q0l:Sk:=.p 100001 []
def Jfq:Sk:=.d Vd
def Jfr:SkO:=.var 153 Jfq
def Jfs:Sk:=.p 100201 []
def Q7p:Hn:=.nl 9 Vl
def Jld:Shp:=sD [Vf,Vf]
def Jle:List (Nat×Sk):=[(7,Rx),(13,zs3)]
def Jlf:HT:=.a (.a (.a (.a (.a (.tl Qr3)))))
def Q7q:HT:=.a (.a Jlf)
def Q7r:SkO:=.row 140 Bv
def Qcl:Sk:=.d Ja
def Jft:SkO:=.var 56 Qcl
def Q7s:Shp:=sD [.sl Jt,.i,.i]
def Jlg:SkO:=.var 140 (.ag (sL [Qcl,Yb,.ns,zs7,zs7]))
def Jfu:List (Nat×Sk):=[(6,Qkb),(7,zs7)]
def Ac:Sk:=.d Bv
def Q0m:SkO:=.map .i Vy
def Qly:SkO:=.map .i .bool
def Qau:SkO:=.map .i .i
def Jlh:Sk:=.d (.sl Jt)
def N4:SkO:=.var 3 zs3
def Gb:Sk:=.p 5000 []
def Q7t:Sk:=.m 5001
def Qt9:Sk:=.m 5002
def Q7u:Sk:=.m 5003
def Q7v:Sk:=.m 5004
def Q7w:Sk:=.m 5005
def Qid:Sk:=.s 5006
def Qqj:Sk:=.s 5007
def Jfv:List (Nat×SkO):=[(5000,.var 327 (.ag (sL [Q7t,Qt9,Q7u,Q7v,Q7w,Qid,Qqj]))),(5001,Q0m),(5002,.map .i Vd),(5003,Qly),(5004,.map .str .i),(5005,Qau),(5006,Hl),(5007,Hl)]
def Jfw:List (Nat×SkO):=[(5004,.map .str .i)]
def Qav:List (Nat×Sk):=[(0,Gb)]
def Jli:Hn:=.fz 5006 (.dt 5000 .done)
def Jlj:Shp:=⟨[(0,.ag (sL [Rw,Q0e]))],[(1,Q4u),(2,Qr6)]⟩
def Jfx:SkO:=.mapC .i (.sl 3 .i)
def Q0n:Sk:=.s 100301
def Jfy:Sk:=.s 100302
def Qua:Sk:=.p 100400 []
def Q7x:Sk:=.s 100401
def Jlk:List (Nat×Sk):=[(6,Ry),(15,zs3)]
def Jll:SkO:=.var 142 (.ag (sL [zs3,zs3,zs3,zs7,zs7,.ns]))
def Bg:Sk:=.d Vy
def Hm:Sk:=.d Vt
def Bh:Sk:=.d Zw
def V8:Sk:=.d J0
def Qqk:Sk:=.s 5001
def N5:Sk:=.s 5002
def Rz:Sk:=.s 5003
def Qaw:Sk:=.s 5004
def Qlz:Sk:=.s 5005
def Jlm:Sk:=.ag (sL [V8,zs3,Yb,zs3,Yb,Qqj,.s 5008,zs3,zs3,zs3,.s 5009,zs3,zs3])
def Bi:SkO:=.row 95 Ua
def Wk:SkO:=.row 98 Vs
def G4:SkO:=.row 102 Gn
def E9:SkO:=.row 113 Y7
def Ub:SkO:=.row 60 Qd0
def Uc:SkO:=.row 69 Iw
def Ur:SkO:=.row 116 S9
def Qie:List (Nat×Sk):=[(0,zs3)]
def Q0o:Sk:=.ag (sL [Yb,zs3,zs7,Rw,Q0e,.s 3,.s 4])
def Jln:Sk:=.ag (sL [V8,zs3,Yb,zs3,Yb,.s 5,.s 6,zs3,zs3,zs3,.s 7,zs3,zs3])
def Jlo:SkO:=.var 144 (.ag (sL [Hm,Bh,V8,.ag (sL [Qcl,Yb,Jn1,zs7,zs7]),.ag (sL [zs3,zs3,zs3,zs7,zs7,.d (.sl .i)]),Q0o,zs3,Jln]))
def Jlp:HT:=.e 3 (.f 3 3 Mt)
def Il:Sk:=.p 5001 []
def Ql0:Sk:=sL [Gb]
def Ql1:SkO:=.var 44 zs3
def Jlq:Shp:=sD [.sl Kh]
def Q7y:SkO:=.row 100 Gm
def Q7z:SkO:=.row 111 Ki
def Jfz:List (Nat×SkO):=[(1,Bi),(2,Wk),(3,G4),(4,E9)]
def Jlr:List (Nat×SkO):=[(100000,.var 76 (.ag (sL [Yb,zs3,zs7,Qqg,.ns,.ns,.ns]))),(100001,Bi)]
def Jls:Exs:=[(.x 0,⟨Qt7,[(100100,.var 76 (.ag (sL [Yb,zs3,zs7,Qck,.ns,.ns,.ns]))),(100101,Bi)]⟩)]
def Jlt:List (Nat×SkO):=[(100200,.var 76 (.ag (sL [Yb,zs3,zs7,Q0f,Jjk,.ns,.ns]))),(100201,Bi),(100202,Wk)]
def Jlu:Exs:=[(.x 2,⟨[(3,Qfc)],[(100300,.var 76 (.ag (sL [Yb,zs3,zs7,Q0n,Jfy,.ns,.ns]))),(100301,Bi),(100302,Wk)]⟩)]
def Jlv:List (Nat×SkO):=[(100400,.var 76 (.ag (sL [Yb,zs3,zs7,Q7x,.s 100402,.s 100403,.ns]))),(100401,Bi),(100402,Wk),(100403,G4)]
def Jlw:List (Nat×Sk):=[(3,.p 100500 [])]
def Jf0:Sk:=.s 100501
def Jlx:Exs:=[(.x 4,⟨Jlw,[(100500,.var 76 (.ag (sL [Yb,zs3,zs7,Jf0,.s 100502,.s 100503,.ns]))),(100501,Bi),(100502,Wk),(100503,G4)]⟩)]
def Jf1:Sk:=.s 100601
def Jly:List (Nat×SkO):=[(100600,.var 76 (.ag (sL [Yb,zs3,zs7,Jf1,.s 100602,.s 100603,.s 100604]))),(100601,Bi),(100602,Wk),(100603,G4),(100604,E9)]
def Jlz:List (Nat×Sk):=[(3,.p 100700 [])]
def Jf2:Sk:=.s 100701
def Jl0:Exs:=[(.x 6,⟨Jlz,[(100700,.var 76 (.ag (sL [Yb,zs3,zs7,Jf2,.s 100702,.s 100703,.s 100704]))),(100701,Bi),(100702,Wk),(100703,G4),(100704,E9)]⟩)]
def Jf3:Exs:=[(.n,Qh9)]
def Jl1:List (Nat×SkO):=[(5000,.var 95 (.d Ua))]
def Ql2:Sk:=.d (.sl Ua)
def Jl2:Shp:=⟨[(0,Ql2),(1,.f 164 Ql0)],Jl1⟩
def Qub:SkO:=.map .str .str
def Q70:Sk:=.m 100000
def Q71:Sk:=.m 100100
def Q0p:Hn:=.nl 1 Jje
def Jl3:An:=.two (.reg Q4w) .nil
def Jf4:Sk:=.ag (sL [V8,zs3,Yb,zs3,Yb,Qlz,Qid,zs3,zs3,zs3,Qqj,zs3,zs3])
def Jl4:Sk:=.ag (sL [V8,zs3,Yb,zs3,Yb,.s 4,.s 5,zs3,zs3,zs3,.s 6,zs3,zs3])
def Jf5:SkO:=.var 144 (.ag (sL [Hm,Bh,V8,Ac,Bg,.ag (sL [Yb,zs3,zs7,Ql2,Rw,Q0e,.s 3]),zs3,Jl4]))
def Jl5:Shp:=sD [.sl Yj]
def Jl6:HT:=.b 1 (.c 1 Qqf)
def Jf6:Shp:=⟨[(11,zs3)],[]⟩
def Jl7:Shp:=⟨[(0,.m 1)],[(1,Qau)]⟩
def Q72:Shp:=sD [.i,.i,.i]
def Jf7:Shp:=sD [V3]
def Ql3:Shp:=sD [V3,.i]
def Q0q:SkO:=.var 53 (.d V3)
def Jf8:Hn:=.n 2 (.call 4 .done)
def Q73:Shp:=sD [Yj]
def Jf9:Shp:=⟨[(0,.ag (sL [zs3,zs3,Yb,zs3,zs3,Rw,Qcl,zs3,zs3,zs3,zs7]))],[(1,Qqe)]⟩
def Qif:Shp:=⟨[(9,zs3)],[]⟩
def Q0r:SkO:=.var 9 Yb
def Q74:Sk:=.d (.sl Ja)
def Jl8:Exs:=[(.x 0,⟨[(7,Qia)],[(100200,Dc)]⟩)]
def Jl9:Exs:=[(.n,⟨[(7,Qec)],[(100100,Dc)]⟩)]
def Q75:SkO:=.row 231 Ud
def Quc:SkO:=.mapC .str (.mp .i .bool)
def Jga:Shp:=⟨[(25,zs7)],[]⟩
def Jgb:Hn:=.nl 1 Qmm
def Q76:SkO:=.var 340 (.d Qd1)
def Ql4:SkO:=.row 354 Vu
def Jma:Shp:=⟨[(0,Q74),(1,zs3),(2,Gb)],[(5000,.var 352 Qqk),(5001,Ql4)]⟩
def Jmb:Shp:=⟨[],[(5000,.var 352 Rw),(1,Ql4)]⟩
def Q77:SkO:=.var 250 (.d (.arr 2 .i))
def Jmc:List (Nat×SkO):=[(5000,Q0r),(5001,N4)]
def Qig:SkO:=.row 80 Yl
def Qud:SkO:=.row 82 Kx
def Q78:SkO:=.row 235 Hs
def Jgc:Shp:=sD [Yj,Yj]
def Qax:SkO:=.map Us .bool
def Jmd:HT:=.k 0 [] [] [] [] Mt
def Jme:HT:=.a (.a (.a (.a (.a (.a (.a (.a (.a (.a (.a (.a (.a (.a (.tl Tw))))))))))))))
def Jmf:List (Nat×SkO):=[(5000,.var 98 (.d Vs))]
def Jmg:Sk:=.d (.sl Vs)
def Jmh:Shp:=⟨[(0,Jmg),(1,.f 194 Ql0)],Jmf⟩
def Jmi:List (Nat×SkO):=[(5000,N4),(5001,N4)]
def Jmj:Shp:=⟨[(0,.d (.sl Kh)),(1,.f 196 (sL [Gb,Il]))],Jmi⟩
def Que:SkO:=.row 308 Qf1
def Jmk:SkO:=.var 102 (.ag (sL [zs3,Yb,Yb,zs3,.ns]))
def Jgd:List (Nat×SkO):=[(5000,Q7y)]
def Qql:Shp:=sD [.i,.bool]
def Jml:Shp:=sD [J5,.sl .i,J0,.i]
def Jmm:List (Nat×Sk):=[(0,Rw),(1,zs3),(2,zs3)]
def Jmn:HT:=.a (.a (.a Qt6))
def Quf:Sk:=.d J5
def Jmo:SkO:=.var 144 (.ag (sL [Hm,Jax,V8,Ac,Bg,Quf,zs3,Jl4]))
def Jmp:Sk:=.d (.sl Ym)
def Q79:Sk:=.ag (sL [.d (.sl Yj),.d (.sl V3),Jmp])
def Q8a:Sk:=.ag (sL [V8,zs3,Yb,zs3,Yb,Rw,Q0e,zs3,zs3,zs3,.s 3,zs3,zs3])
def Jge:Shp:=⟨Qav,[(5000,.var 144 (.ag (sL [Hm,Bh,V8,Ac,Bg,Quf,zs3,.ag (sL [V8,zs3,Yb,zs3,Yb,Qqk,N5,zs3,zs3,zs3,Rz,zs3,zs3])]))),(5001,Ub),(5002,Uc),(5003,Ur)]⟩
def Jgf:Shp:=sD [Ym]
def Q0s:SkO:=.var 177 (.d Ym)
def Jmq:SkO:=.var 184 (.d Rc)
def Jmr:Shp:=⟨[(0,zs3),(1,Gb),(2,Il)],[(5000,.var 111 (.d Ki)),(5001,Jmq)]⟩
def Q0t:Shp:=sD [Ki,Rc]
def Jms:HT:=.b 2 (.c 2 (.a (.a (.c 3 (.k 2 [] [] [] [] Jmn)))))
def Jmt:Shp:=⟨[(8,zs3),(9,zs3)],[]⟩
def Jgg:SkO:=.var 144 (.ag (sL [Hm,Bh,V8,Ac,Bg,Quf,zs3,Q8a]))
def Jmu:Shp:=⟨Qav,[(5000,.var 138 Il),(5001,.var 144 (.ag (sL [Hm,Bh,V8,Ac,Bg,Quf,zs3,.ag (sL [V8,zs3,Yb,zs3,Yb,N5,Rz,zs3,zs3,zs3,Qaw,zs3,zs3])]))),(5002,Ub),(5003,Uc),(5004,Ur)]⟩
def Jmv:Shp:=⟨Qie,[(5001,Jgg),(1,Ub),(2,Uc),(3,Ur)]⟩
def Jmw:List (Nat×SkO):=[(5000,.var 138 Il),(5001,.var 144 (.ag (sL [Hm,Bh,V8,Ac,Bg,Quf,zs3,.ag (sL [V8,zs3,Yb,zs3,Yb,N5,Rz,zs3,zs3,zs3,Qaw,zs3,zs3])]))),(5002,Ub),(5003,Uc),(5004,Ur),(5005,Ql1)]
def Jmx:Shp:=⟨[],[(5001,Jgg),(5005,Ql1),(1,Ub),(2,Uc),(3,Ur)]⟩
def Jgh:SkO:=.row 49 Ls
def Jmy:Shp:=⟨[(0,Bh),(1,Rw)],[(1,Jgh)]⟩
def Jmz:Shp:=sD [Vt,.sl J0]
def Jgi:List (Nat×Sk):=[(3,Ry),(4,zs3)]
def Qqm:SkO:=.row 104 Jt
def Qqn:SkO:=.row 76 J5
def Qqo:SkO:=.row 128 Cu
def Jgj:SkO:=.row 85 V2
def Ho(N n:Nat):Con:=⟨30,zs1,[zs2],fun(x0,x1)=>Ye N n x0 x1,[]⟩
theorem Fa(N:Nat):∀n,KO (Ho N n)
 | 0=>⟨Fl fun _=>rfl,Ij func30 rfl⟩
 | n+1=>have ih:=Fa N n; kF N [fun _=>⟨_,ih⟩] [(16,.lp [1,2] [2] ⟨[(5,zs3),(6,zs3)],[]⟩ [(.x 0,zs4)])] func30
def Qcm(N:Nat):V:=⟨Ho N N,Fa N N⟩
def Qcn(N:Nat):V:=⟨⟨20,(sD [J5,.i]),[zs5],u2 (H2 N),[]⟩,kF N [Qcm] [(14,.lp [1,2] [2] zs4 zs8),(35,.lp [1,2] [2] zs9 [(.x 2,zs6),(.r,⟨[(4,zs7)],[]⟩)]),(56,.lp [1,2] [2] Qqc [(.x 4,zs6),(.r,⟨[(4,zs7)],[]⟩)]),(77,.lp [1,2] [2] Qh9 Jph)] func20⟩
def Im(N:Nat):V:=⟨⟨56,zs2,[(sD [.arr 5 .bool])],X4 N,[]⟩,kF N [] [(25,.jn [2,3] [2] [(.n,⟨[(13,zs7)],[]⟩)]),(35,.jn [2,3] [2] [(.n,⟨[(17,zs7)],[]⟩)]),(49,.jn [2] [2] [(.n,Jnt)])] func56⟩
def Qih(N:Nat):V:=⟨⟨85,zs2,[zs5],Ht N,[]⟩,kF N [] [] func85⟩
def Z8(N:Nat):V:=⟨⟨36,Qml,[zs5],Vg N,[]⟩,kF N [] [(4,.rg (.n 9 (.sp 12 4 [0] [] ⟨[(16,zs7)],[]⟩ Tw Tw (.n 1 (.sp 17 4 [0] [] ⟨[(21,zs7)],[]⟩ Tw Tw .done))))),(14,.lp [0] [] Qcj Qqd),(24,.rg (.n 5 (.sp 32 5 [3] [] Jnu Hd Hd (.n 1 (.sp 38 11 [3] [] Jjc (.nl 5 (.sp 43 5 [3,38] [] Jnv Jnw Jnw Vl)) (.nl 10 Vl) (.n 1 (.sp 50 5 [3] [] Jnx Hd Hd .done)))))))] func36⟩
def Dd(N:Nat):V:=⟨⟨86,Qml,[zs5],K5 N,[]⟩,kF N [] [(6,.lp [0] [] Qcj Qqd),(16,.rg (.n 5 (.sp 14 5 [3] [] Je7 Hd Hd .done)))] func86⟩
def Qco(N:Nat):V:=⟨⟨87,(sD [Jt]),[zs5],H3 N,[]⟩,kF N [] [] func87⟩
def Qed(N:Nat):V:=⟨⟨55,(sD [Jt,.i]),[zs2],u2 (Fp N),[]⟩,kF N [Im,Qih,Z8,Dd,Qco] [(30,.rg (.n 9 (.sp 37 9 [2,5] [2,5] ⟨[(46,zs7)],[]⟩ Qka Jjd (.n 1 (.sp 47 9 [2,5] [2,5] ⟨[(56,zs7)],[]⟩ Qka Jjd (.n 1 (.sp 57 9 [2,5] [2,5] ⟨[(66,zs7)],[]⟩ Qka Jjd (.n 1 (.sp 67 9 [2,5] [2,5] ⟨[(76,zs7)],[]⟩ Qka Jjd .done))))))))),(38,.rg (.n 3 (.sp 79 5 [2,5] [2,5] ⟨[(84,zs7)],[]⟩ Je8 Hd (.n 1 (.sp 85 9 [2,5] [2,5] ⟨[(94,zs7)],[]⟩ Qka (.nl 3 (.sp 88 5 [2,5,85] [] ⟨[(93,zs7)],[]⟩ (.nl 2 (.call 1 (.nl 2 .done))) Jnw Vl)) .done))))),(46,.rg (.n 3 (.sp 97 5 [2,5] [2,5] ⟨[(102,zs7)],[]⟩ (.nl 2 Jjf) Hd Jjg))),(54,.rg (.n 3 (.sp 120 5 [2,5] [2,5] ⟨[(125,zs7)],[]⟩ Jpi Hd .done))),(62,.rg (.n 3 (.sp 128 4 [2] [2,5] ⟨[(132,zs7)],[]⟩ (.nl 1 (.call 4 Qr3)) Tw .done)))] func55⟩
def Ad(N:Nat):V:=⟨⟨59,Jjh,[zs2],u2 (Zo N),[]⟩,kF N [] [(6,.lp [1,2] [2] zs4 Qr4)] func59⟩
def Ew(N:Nat):V:=⟨⟨60,Jjh,[zs2],u2 (Kk N),[]⟩,kF N [] [(6,.lp [1,2] [2] zs4 Qr4)] func60⟩
def Df(N:Nat):V:=⟨⟨89,Jjh,[zs5],u2 (K6 N),[]⟩,kF N [] [(6,.lp [1,2] [2] zs4 zs8)] func89⟩
def Qee(N:Nat):V:=⟨⟨88,Jjh,[zs5],u2 (Fq N),[]⟩,kF N [Df] [(6,.lp [1,2] [2] zs4 zs8),(16,.jn [5] [] [(.n,⟨[(31,zs7)],[]⟩)]),(16,.an (.dc 16 [13,14,15,16,17,18,19,20,21,22,23,24,25,26,27,28] [] [2] (.b 2 (.c 2 (.a (.a (.a (.a (.a (.a (.a (.so 21 (.c 2 (.b 2 (.c 2 (.a (.a (.a (.a (.tl Je9)))))))) Jpk))))))))))))] func88⟩
def Pj(N:Nat):V:=⟨⟨57,Jny,[zs2],u2 (K7 N),[]⟩,kF N [Ad,Ew,Qee] [(38,.rg (.n 4 (.sp 26 6 [2,3,5] [2,3] ⟨[(32,zs7)],[]⟩ Jji Qr5 .done))),(46,.rg (.n 4 (.sp 36 5 [2,3,5] [2,3] Jfa (.nl 3 (.call 2 Vl)) Hd (.n 1 (.sp 42 13 [2,3,5] [2,3] Jnx (.nl 12 Vl) (.nl 4 (.sp 46 8 [2,5,42] [] ⟨[(54,zs7)],[]⟩ (.nl 8 .done) (.nl 8 .done) Vl)) .done)))))] func57⟩
def Mv(N:Nat):V:=⟨⟨91,Q0c,[zs5],u2 (Ut N),[]⟩,kF N [] [(6,.lp [0,1] [] zs4 zs8)] func91⟩
def Qcp(N:Nat):V:=⟨⟨90,(sD [U1,.str]),[zs5],u2 (H4 N),[]⟩,kF N [Mv] [(6,.lp [1,2] [2] zs4 zs8)] func90⟩
def Qcq(N:Nat):V:=⟨⟨58,Jny,[zs2],u2 (H5 N),[]⟩,kF N [Ew,Df,Qcp,Mv] [(23,.jn [] [2,3,6] Jpl),(67,.jn [3,6,23] [] Jpm),(81,.jn [3,6] [] [(.n,⟨[(62,zs7)],[]⟩)])] func58⟩
def Qcr(N:Nat):V:=⟨⟨31,(sD [U1,Jt,.i]),[zs2],u3 (H6 N),[]⟩,kF N [Qed,Im,Pj,Qcq] [] func31⟩
def Qef(N:Nat):V:=⟨⟨92,Q0c,[Q4t],u2 (X5 N),[]⟩,kF N [] [(6,.lp [0,1] [] zs4 [(.x 0,zs4)]),(9,.rg (.n 5 (.sp 11 7 [5] [] Q0d Tx Tx .done)))] func92⟩
def Tz(N:Nat):V:=⟨⟨93,Q0c,[Q4t],u2 (Zp N),[]⟩,kF N [] [(8,.lp [0,1] [] ⟨[(5,Rx),(6,zs3)],[(100000,Qqe)]⟩ Jnz),(16,.jn [6] [] Jn0)] func93⟩
def T0(N:Nat):V:=⟨⟨61,Jpn,[(sD [Vd])],u2 (Wu N),[]⟩,kF N [Qef,Tz] [(3,.jn [4] [3,4] [(.n,⟨[(2,Ry)],[(100000,Jn2)]⟩)])] func61⟩
def Qcs(N:Nat):V:=⟨⟨32,Jny,[⟨[(0,Jax)],[(1,Q4u),(2,Qr6),(3,Hl)]⟩],u2 (H7 N),[]⟩,kF N [Ad,Ew,T0] [(3,.an (.dc 14 [7,8,9,10,11,12,13,14,15,16,17,18,19,5] [2] [] (.e 7 (.b 2 (.c 2 (.g [7] [] [10] [10] (.e 11 (.b 2 (.c 2 (.g [11] [] [14] [14] (.e 15 (.b 2 (.c 2 (.g [15] [] [18] [18] (.g [] [] [] [10,14,18] (.e 5 Mt)))))))))))))))),(5,.jn [] [2,3] [(.n,⟨[(4,Qa6),(5,Jn3)],[(100100,.var 121 (.ag (sL [.ns,.ns,.ns]))),(100101,.var 121 (.ag (sL [Jfb,Jfc,.s 100104]))),(100102,Q4u),(100103,Qr6),(100104,Hl)]⟩),(.r,⟨[(4,Qkb)],[(100200,.var 121 (.ag (sL [Q0f,Jjk,Jn4]))),(100201,Q4u),(100202,Qr6),(100203,Hl)]⟩)]),(15,.an (.dc 6 [66,67,68,69,70,71] [5] [2,3] (.b 5 (.d 5 10 (.c 2 (.b 3 (.c 3 (.k 0 [] [] [] [] Qqf)))))))),(21,.jn [2,3,4,5] [4,5,10,14,18] Jpo),(33,.an (.dc 10 [26,27,28,29,30,31,32,33,34,35] [5,14] [3] (.b 5 (.d 5 14 (.a (.b 5 (.d 5 14 (.a (.d 14 14 (.c 14 (.c 3 (.k 2 [] [] [] [] Jay))))))))))))] func32⟩
def Qct(N:Nat):V:=⟨⟨21,(sD [.sl Jt]),[Mu],H8 N,[]⟩,kF N [Qcr,Qcs] [(18,.lp [0] [] ⟨[(4,Ry),(5,zs3),(6,zs3)],[(100000,.var 121 Jn6),(100001,Q4u),(100002,Qr6),(100003,Hl)]⟩ Jpp),(28,.an (.dr 6 Q0g Qmm)),(38,.an (.dr 5 Jjm Jfd))] func21⟩
def Qcu(N:Nat):V:=⟨⟨94,(sD [.sl .str]),[zs2],H9 N,[]⟩,kF N [Z8] [(14,.lp [0] [] Qcj Qmn),(35,.lp [0] [] Q4s Jn7),(45,.an (.dr 10 Jjn .done))] func94⟩
def Qa7(N:Nat):V:=⟨⟨62,(sD [Kx]),[zs2],G6 N,[]⟩,kF N [Qcu] [] func62⟩
def Qge(N:Nat):V:=⟨⟨33,Jpq,[zs2],Bw N,[]⟩,kF N [Z8,Qa7] [(46,.lp [1] [1] Qcj Qmn)] func33⟩
def Qcv(N:Nat):V:=⟨⟨22,(sD [.sl Yl]),[zs2],Ea N,[]⟩,kF N [Qge] [(14,.lp [0] [] Qcj Qmn),(34,.an (.dr 44 (.n 3 (.sp 24 41 [3] [] ⟨[(65,zs7)],[]⟩ (.nl 13 (.sp 37 27 [3,24] [] ⟨[(64,zs7)],[]⟩ (.nl 27 .done) (.nl 13 (.sp 50 13 [3,24,37] [] ⟨[(63,zs7)],[]⟩ Jjo Jjo (.nl 1 .done))) Vl)) (.nl 40 Vl) .done)) .done))] func22⟩
def Qcw(N:Nat):V:=⟨⟨95,Jn8,[zs5],K8 N,[]⟩,kF N [] [] func95⟩
def Qcx(N:Nat):V:=⟨⟨96,Jn8,[zs5],Eb N,[]⟩,kF N [] [] func96⟩
def In(N:Nat):V:=⟨⟨63,Qml,[zs5],X6 N,[]⟩,kF N [Qcw,Qcx] [(4,.rg (.n 9 (.sp 12 5 [0] [] ⟨[(17,zs7)],[]⟩ Hd Qlu .done))),(14,.lp [0] [] Qcj Qqd),(24,.rg (.n 3 (.call 0 (.n 2 (.sp 29 6 [3] [] Jfe Jji Qr5 (.n 1 (.sp 36 5 [3] [] Jfa Hd Hd .done)))))))] func63⟩
def Io(N:Nat):V:=⟨⟨98,Qml,[zs5],X7 N,[]⟩,kF N [] [(4,.rg (.n 9 (.sp 14 4 [0] [] Q0d Tw Tw (.n 1 (.sp 19 4 [0] [] ⟨[(23,zs7)],[]⟩ Tw Tw .done))))),(14,.lp [0] [] Qcj Qqd),(24,.an (.dr 22 (.n 5 (.sp 34 5 [3] [] ⟨[(39,zs7)],[]⟩ Hd Hd (.n 5 (.sp 44 5 [3,39] [] Jjc Hd Hd Q4w)))) .done)),(26,.rg (.n 7 (.sp 56 5 [3] [] ⟨[(61,zs7)],[]⟩ Hd Hd .done)))] func98⟩
def T1(N:Nat):V:=⟨⟨144,(sD [.sl Ua,.i,.i]),[zs5],u3 (Wv N),[]⟩,kF N [] [(6,.lp [0,1,2] [] Qqc Jff),(18,.lp [7] [] Qh9 [(.x 2,zs6),(.r,⟨[(6,zs7)],[]⟩)]),(34,.an (.dr 17 (.n 17 .done) .done))] func144⟩
def Qeg(N:Nat):V:=⟨⟨97,(sD [.sl Ua,.i]),[zs2],u2 (Fr N),[]⟩,kF N [Io,Dd,T1] [(16,.lp [0,1,5] [5] zs9 Qr4),(26,.an (.dr 8 Qlv .done)),(53,.lp [0,1,5] [5] Qqc [(.x 2,zs6),(.r,Q4s)])] func97⟩
def Qcy(N:Nat):V:=⟨⟨64,Jky,[zs2],Ec N,[]⟩,kF N [Qeg] [(14,.lp [0] [] Qcj Qmn)] func64⟩
def Qcz(N:Nat):V:=⟨⟨99,(sD [.sl Kh,.bool]),[zs2],u2 (Ed N),[]⟩,kF N [] [(38,.lp [0] [] zs4 Qr4)] func99⟩
def Qc0(N:Nat):V:=⟨⟨65,Jkz,[zs2],Ee N,[]⟩,kF N [Io,Qcz] [(22,.lp [0] [] Qcj Qmn),(43,.lp [3] [] Q4s Jn7),(53,.an (.dr 11 (.n 11 .done) .done))] func65⟩
def Qeh(N:Nat):V:=⟨⟨100,Jk0,[zs5],u2 (Fs N),[]⟩,kF N [] [(6,.lp [1,2] [2] zs4 zs8)] func100⟩
def Qei(N:Nat):V:=⟨⟨101,Jk0,[zs5],u2 (Ft N),[]⟩,kF N [] [(6,.lp [1,2] [2] zs4 zs8)] func101⟩
def Dg(N:Nat):V:=⟨⟨38,Jk1,[zs2],K9 N,[]⟩,kF N [] [(24,.lp [0] [] ⟨[(3,zs3),(4,zs3)],[]⟩ Qmn)] func38⟩
def Qc1(N:Nat):V:=⟨⟨66,Q0h,[zs2],Ef N,[]⟩,kF N [Qeh,Qei,Dg] [(14,.lp [1] [1] Qcj Qmn),(35,.rg (.n 3 (.call 0 (.n 2 (.sp 35 6 [3,4] [4] Jfa Qr5 Jji .done)))))] func66⟩
def Qc2(N:Nat):V:=⟨⟨233,zs2,[zs2],Eg N,[]⟩,kF N [] [] func233⟩
def Qgf(N:Nat):V:=⟨⟨258,Q0c,[zs5],u2 (Gp N),[]⟩,kF N [] [(6,.lp [0,1] [] zs4 zs8)] func258⟩
def Hp(N:Nat):V:=⟨⟨234,Qml,[zs2],Um N,[]⟩,kF N [Qgf] [] func234⟩
def Qgg(N:Nat):V:=⟨⟨203,Qqh,[zs2],Bx N,[]⟩,kF N [Qc2,Hp] [(4,.an (.dc 6 [3,4,5,6,7,8] [1] [] (.b 1 (.c 1 (.k 0 [] [] [] [] (.b 1 (.c 1 Qt6))))))),(28,.rg (.n 4 (.sp 35 5 [1] [1] ⟨[(40,zs7)],[]⟩ Je8 Hd .done)))] func203⟩
def Qa8(N:Nat):V:=⟨⟨204,(sD [Ki,.sl .i]),[zs2],u2 (G7 N),[]⟩,kF N [Hp] [(41,.an (.dr 7 Q7j .done)),(48,.jn [] [2] Jpl),(52,.jn [1,30] [] [(.n,Jfe)]),(66,.jn [1,30] [] Jk2),(80,.jn [1] [] [(.n,Jjc)])] func204⟩
def Bj(N n:Nat):Con:=⟨145,zs1,[Mu],fun(x0,x1)=>Vh N n x0 x1,[]⟩
theorem Dh(N:Nat):∀n,KO (Bj N n)
 | 0=>⟨Fl fun _=>rfl,Ij func145 rfl⟩
 | n+1=>have ih:=Dh N n; kF N [Qgg,fun _=>⟨_,ih⟩,Qa8] [(26,.lp [1,2] [2] Jk3 [(.x 0,⟨[(7,Qec)],[(100100,Hl)]⟩),(.r,Jfh)])] func145
def Qii(N:Nat):V:=⟨Bj N N,Dh N N⟩
def Qej(N:Nat):V:=⟨⟨102,Qqh,[Mu],Fu N,[]⟩,kF N [Qii] [] func102⟩
def Pk(N:Nat):V:=⟨⟨67,Q0h,[zs2],Xa N,[]⟩,kF N [In,Qej] [(14,.lp [1] [1] Qcj Qmn),(37,.lp [3,4] [4] zs4 Jn7),(47,.an (.dr 9 (.n 9 .done) .done))] func67⟩
def Qa9(N:Nat):V:=⟨⟨34,Q0h,[zs2],G8 N,[]⟩,kF N [In,Qcy,Qc0,Qc1,Pk] [(21,.jn [1] [1] [(.n,Qcj)]),(27,.jn [1] [1] [(.n,Qcj)]),(33,.jn [] [1] [(.n,Qcj)])] func34⟩
def Qc3(N:Nat):V:=⟨⟨35,(sD [J5,J5]),[zs2],u2 (Eh N),[]⟩,kF N [] [] func35⟩
def Qc4(N:Nat):V:=⟨⟨23,(sD [.sl J5]),[zs2],Ei N,[]⟩,kF N [Qa9,Qc3] [(14,.lp [0] [] Qcj Qmn),(34,.jn [3] [] [(.n,⟨[(36,zs7)],[]⟩)]),(34,.an (.dc 12 [22,23,24,25,26,27,28,29,30,31,32,33] [] [] (.a (.a (.a (.so 24 (.a (.a (.a (.a (.a (.a (.a (.a (.a (.tl Jje)))))))))) (.a (.a Jpk))))))))] func23⟩
def Qc5(N:Nat):V:=⟨⟨24,(sD [.sl Cu]),[zs5],Ej N,[]⟩,kF N [Z8] [(6,.lp [0] [] Qcj Qqd),(26,.an (.dr 35 (.n 3 (.sp 41 32 [3,4] [4] ⟨[(73,zs7)],[]⟩ (.nl 10 (.sp 51 21 [3,4,41] [] ⟨[(72,zs7)],[]⟩ (.nl 21 .done) (.nl 10 (.sp 61 10 [3,4,41,51] [] ⟨[(71,zs7)],[]⟩ (.nl 10 .done) (.nl 10 .done) (.nl 1 .done))) Vl)) (.nl 31 Vl) .done)) .done))] func24⟩
def Gc(N:Nat):V:=⟨⟨37,Q0i,[zs5],U2 N,[]⟩,kF N [] [] func37⟩
def Qgh(N:Nat):V:=⟨⟨205,Q0j,[Jfi],u2 (Gq N),[]⟩,kF N [] [(10,.lp [0,1] [] ⟨[(5,Rx),(6,zs7),(7,zs3)],Jfg⟩ [(.x 0,⟨[(5,Qqi),(6,zs7)],Jfj⟩)]),(18,.jn [7] [] [(.n,⟨[(5,Qlw),(6,zs7)],[(100300,Hl)]⟩)]),(20,.jn [7] [] [(.n,⟨[(5,Qia),(6,zs7)],Jfk⟩)]),(21,.rg (.n 3 (.sp 16 7 [5,6,7] [100000] ⟨[(23,zs7)],[]⟩ Tx Tx .done))),(34,.jn [] [] [(.n,⟨[(5,Q7k)],[(100500,Hl)]⟩)])] func205⟩
def Qba(N:Nat):V:=⟨⟨146,(sD [.sl .i,.sl Ja]),[(sD [.sl .i])],u2 (Z7 N),[]⟩,kF N [Gc,Qgh] [(6,.lp [1] [] ⟨[(0,.d (.sl .i)),(5,zs3)],[]⟩ [(.x 0,Jk4)]),(14,.jn [5] [] [(.n,Jk4)]),(18,.an (.dc 12 [17,18,19,20,21,22,23,24,25,26,27,28] [] [] (.a (.a (.a (.a (.a (.a (.k 1 [] [] [12301] [12301] (.a (.a (.a (.a (.a (.tl Jfd)))))))))))))))] func146⟩
def R0(N:Nat):V:=⟨⟨206,Jk5,[zs5],u2 (Xu N),[]⟩,kF N [Gc] [] func206⟩
def Qij(N:Nat):V:=⟨⟨147,(sD [.sl Ja,.i]),[zs5],u2 (Hu N),[]⟩,kF N [R0] [(6,.lp [0,1] [] zs4 zs8)] func147⟩
def Qbb(N:Nat):V:=⟨⟨103,(sD [.sl Ja,.sl Ja,.bool,.bool]),[Qib],u4 (G9 N),[]⟩,kF N [Qba,Qij] [(10,.lp [0,1,2,3,9] [] ⟨[(10,Rx),(11,zs3)],Q7l⟩ [(.x 0,⟨[(10,Q7k)],[(100500,Dc)]⟩)]),(18,.jn [11] [] [(.n,⟨[(10,Qqi)],Jfl⟩)]),(21,.rg (.n 5 (.call 1 (.n 2 (.sp 31 13 [10,11] [100000] ⟨[(44,zs7)],[]⟩ (.nl 12 Vl) (.nl 3 (.sp 34 9 [10,11,31] [] ⟨[(43,zs7)],[]⟩ (.nl 5 (.call 1 (.nl 3 .done))) (.nl 9 .done) Vl)) .done))))),(28,.an (.dr 15 (.n 3 (.sp 49 12 [10,11,12] [100000] ⟨[(61,zs7)],[]⟩ (.nl 11 Vl) (.nl 11 Vl) .done)) .done)),(31,.an (.dc 12 [72,73,74,75,76,77,78,79,80,81,82,83] [] [] (.b 100000 (.a (.a (.a (.a (.a (.a (.a (.a (.a Jk6))))))))))))] func103⟩
def Qbc(N:Nat):V:=⟨⟨68,(sD [.sl Ja,.sl Ja]),[Qib],u2 (Ha N),[]⟩,kF N [Qbb] [] func68⟩
def Pl(N:Nat):V:=⟨⟨39,Q7m,[Jk7],u2 (Xb N),[]⟩,kF N [Qbc] [] func39⟩
def Nc(N:Nat):V:=⟨⟨25,(sD [.sl V2]),[zs5],Kl N,[]⟩,kF N [Gc,Dg,Pl] [(6,.lp [0] [] Qcj Qqd),(19,.rg (.n 19 (.sp 37 5 [3,4] [4] ⟨[(42,zs7)],[]⟩ Hd Qlu (.n 1 (.sp 43 5 [3,4] [4] Jnv Hd Je8 Jjn))))),(28,.lp [3,4] [4] zs4 [(.x 2,zs6),(.r,⟨[(2,zs7)],[]⟩)])] func25⟩
def Qc6(N:Nat):V:=⟨⟨11,(sD [Vt,.i]),[zs5],u2 (Ek N),[]⟩,kF N [Qcn,Qct,Qcv,Qc4,Qc5,Nc] [(14,.lp [1,2] [2] zs4 zs8),(35,.lp [1,2] [2] zs9 [(.x 2,zs6),(.r,⟨[(4,zs7)],[]⟩)]),(56,.lp [1,2] [2] Qqc [(.x 4,zs6),(.r,⟨[(4,zs7)],[]⟩)]),(77,.lp [2] [2] Qh9 Jph),(87,.an (.dr 32 (.n 7 (.sp 111 7 [8] [] ⟨[(118,zs7)],[]⟩ Tx Tx (.n 1 (.sp 119 17 [8] [] ⟨[(136,zs7)],[]⟩ (.nl 16 Vl) (.nl 3 (.sp 122 13 [8,119] [] ⟨[(135,zs7)],[]⟩ Jjo Jjo Vl)) .done)))) .done)),(97,.rg (.n 3 (.sp 145 5 [2] [2] ⟨[(150,zs7)],[]⟩ (.nl 2 Jjf) Hd (.n 1 (.sp 151 5 [2] [2] ⟨[(156,zs7)],[]⟩ Jpi Hd (.n 1 (.sp 157 4 [2] [2] ⟨[(161,zs7)],[]⟩ (.nl 2 (.call 4 Vl)) Tw (.n 1 (.sp 162 4 [2] [2] ⟨[(166,zs7)],[]⟩ (.nl 2 (.call 5 Vl)) Tw Vl)))))))))] func11⟩
def Qbd(N:Nat):V:=⟨⟨12,(sD [J0]),[zs5],Hb N,[]⟩,kF N [] [] func12⟩
def Qek(N:Nat):V:=⟨⟨13,zs2,[zs5],Fx N,[]⟩,kF N [] [] func13⟩
def Qel(N:Nat):V:=⟨⟨5,(sD [Vt,.sl J0,.i]),[zs5],u3 (X8 N),[]⟩,kF N [Qc6,Qbd,Qek] [(4,.rg (.n 5 (.sp 13 5 [1,2,3] [3] Q0d Hd Qlu .done))),(14,.lp [1] [3] Qqc Jff),(25,.rg (.n 4 (.call 1 (.n 2 (.sp 31 8 [7] [] ⟨[(39,zs7)],[]⟩ Qfb (.nl 5 Jjf) (.n 1 (.sp 40 8 [7] [] Jnv Qfb Qfb (.n 1 (.sp 49 8 [7] [] ⟨[(57,zs7)],[]⟩ Qfb Qfb .done))))))))),(34,.lp [7] [] Qh9 [(.x 2,zs6),(.r,⟨[(6,zs7)],[]⟩)]),(44,.an (.dr 11 (.n 11 .done) .done))] func5⟩
def T2(N:Nat):V:=⟨⟨14,(sD []),[(sD [Vt])],fun _=>C7 N,[]⟩,kF N [] [] func14⟩
def Qmo(N:Nat):V:=⟨⟨26,Jfm,[Q0k],On N,[]⟩,kF N [] [(3,.an (.dc 8 [6,7,8,9,10,11,12,3] [1] [] (.b 1 (.c 1 (.e 8 (.b 1 (.c 1 (.e 11 (.g [] [] [] [8,11] Q7n))))))))),(8,.lp [2,14,15] [1,2] ⟨[(3,Ry),(16,zs3)],[(100000,.var 39 Jn6),(100001,Uj),(100002,Qas),(100003,Qat)]⟩ [(.x 0,⟨Qt7,[(100100,.var 39 (.ag (sL [Qck,Jfb,Jfc]))),(100101,Uj),(100102,Qas),(100103,Qat)]⟩)]),(21,.rg (.n 3 (.fz 22 Qic)))] func26⟩
def Qwl(N:Nat):V:=⟨⟨41,(sD [J0]),[(sD [Ix])],By N,[]⟩,kF N [] [] func41⟩
def Qkc(N:Nat):V:=⟨⟨40,(sD [Ix,Ix]),[zs5],u2 (Wy N),[]⟩,kF N [] [] func40⟩
def Ip(N n:Nat):Con:=⟨27,Jk9,[Jk9],fun x0=>Zh N n x0,[]⟩
theorem Mw(N:Nat):∀n,KO (Ip N n)
 | 0=>⟨Fl fun _=>rfl,Ij func27 rfl⟩
 | n+1=>have ih:=Mw N n; kF N [fun _=>⟨_,ih⟩,Qwl,Qkc] [(11,.an (.dc 11 [11,12,13,14,15,16,17,18,19,20,21] [] [] (.a (.a (.a (.a (.a (.k 0 [] [] [] [] (.a (.a (.a (.a (.a (.tl Jfn)))))))))))))),(16,.lp [] [] ⟨[(3,Jla),(4,Jla),(5,Rx)],[(100000,Jlb)]⟩ [(.x 0,⟨Jjj,[(100200,Jlb)]⟩)]),(25,.jn [3,4,5] [100000] Jpm),(25,.an (.dc 15 [34,35,36,37,38,39,40,41,42,43,44,45,46,47,48] [] [] (.a (.a (.a (.a (.so 37 (.a (.a (.a (.a Jlc)))) (.a (.a (.a (.a (.so 41 (.a (.a (.a (.k 1 [] [] [] [] (.a (.a (.a (.tl (.call 1 (.call 2 Jaw)))))))))) Jlc))))))))))))] func27
def Qmp(N:Nat):V:=⟨Ip N N,Mw N N⟩
def Qwm(N:Nat):V:=⟨⟨42,Jfm,[Q0k],Tb N,[]⟩,kF N [] [(3,.an (.dc 8 [6,7,8,9,10,11,12,3] [1] [] (.b 1 (.c 1 (.e 8 (.b 1 (.c 1 (.e 11 (.g [] [] [] [8,11] Q7n))))))))),(8,.lp [2,14,15] [1,2] ⟨[(3,Ry),(16,zs3)],[(100000,.var 39 Jn6),(100001,Uj),(100002,Qas),(100003,Qat)]⟩ [(.x 0,⟨Qt7,[(100100,.var 39 (.ag (sL [Qck,Jfb,Jfc]))),(100101,Uj),(100102,Qas),(100103,Qat)]⟩)]),(21,.rg (.n 3 (.fz 22 Qic)))] func42⟩
def Qkd(N:Nat):V:=⟨⟨235,Q0c,[Q4t],u2 (Lw N),[]⟩,kF N [] [(6,.lp [0,1] [] zs4 [(.x 0,zs4)]),(9,.rg (.n 5 (.sp 11 7 [5] [] Q0d Tx Tx .done)))] func235⟩
def Qem(N:Nat):V:=⟨⟨236,Q0c,[Q4t],u2 (Fy N),[]⟩,kF N [] [(8,.lp [1,8,9] [] ⟨Jfo,[(100000,Qqe)]⟩ Jnz),(16,.jn [10] [] Jn0)] func236⟩
def Qke(N:Nat):V:=⟨⟨207,Jpn,[(sD [Vd])],u2 (Lx N),[]⟩,kF N [Qkd,Qem] [(3,.jn [] [3] [(.n,⟨[(2,Qfc),(4,Jfp)],[(100300,Jn2),(100301,Q7o)]⟩),(.r,⟨[(4,Qkb)],[(100200,Q7o)]⟩)]),(31,.jn [2,3,4,6] [2,4] Jk2),(39,.jn [2,3,4] [2,4] [(.n,Jjc)])] func207⟩
def Qen(N:Nat):V:=⟨⟨149,Qt8,[⟨Qgd,[(1,Qlx)]⟩],u2 (Fz N),[]⟩,kF N [Qke] [(10,.lp [1,10,11] [] ⟨[(5,Rx),(6,Q0l),(12,zs3)],[(100000,Qlx),(100001,Jfr)]⟩ [(.x 0,⟨[(5,Qlw)],[(100300,Qlx)]⟩)]),(18,.jn [12] [] [(.n,⟨[(5,Qia),(6,Jfs)],[(100200,Qlx),(100201,Jfr)]⟩)]),(32,.an (.dr 13 (.n 3 (.sp 31 10 [5,6,8,9,12] [8,100000,100001] Jfa Q7p Q7p .done)) .done))] func149⟩
def Qik(N:Nat):V:=⟨⟨151,(sD [Vd,Vd]),[zs5],u2 (Dt N),[]⟩,kF N [] [(14,.lp [3,43,44] [2,3] ⟨[(45,zs3)],[]⟩ zs8)] func151⟩
def Qc7(N:Nat):V:=⟨⟨150,Jld,[zs5],u2 (El N),[]⟩,kF N [Qik] [] func150⟩
def Qc8(N:Nat):V:=⟨⟨152,Jld,[(sD [Vf])],u2 (Em N),[]⟩,kF N [] [] func152⟩
def Hq(N:Nat):V:=⟨⟨148,⟨[(0,.d (.sl Vf)),(1,.f 150 .nil),(2,.f 152 .nil)],[]⟩,[⟨Qgd,[(1,Qlx)]⟩],Y3 N,[]⟩,kF N [Qc7,Qc8] [(8,.lp [1,2,11,12] [] ⟨Jle,[(100000,Qlx)]⟩ [(.x 0,⟨[(7,Qia)],[(100200,Qlx)]⟩)]),(16,.jn [13] [] [(.n,⟨[(7,Qec)],[(100100,Qlx)]⟩)]),(22,.an (.dc 10 [19,20,21,22,23,24,25,26,27,28] [100000,9] [] (.a (.a (.a (.so 21 (.a (.b 100000 (.a (.a (.d 100000 100000 (.c 100000 (.c 9 (.tl Qmm)))))))) Q7q)))))),(24,.an (.dc 11 [31,32,33,34,35,36,37,38,39,40,41] [100000,9] [] (.b 100000 (.a (.a (.a (.b 100000 (.a (.a (.d 100000 100000 (.c 100000 (.c 9 (.k 1 [] [] [] [] Jay)))))))))))))] func148⟩
def Mx(N:Nat):V:=⟨⟨104,Qt8,[⟨Qgd,[(1,Q7r)]⟩],u2 (Gr N),[]⟩,kF N [Qen,Hq] [(10,.lp [5,14,15] [11201,11301] ⟨[(6,Rx),(16,zs3)],[(100000,Q7r)]⟩ [(.x 0,⟨[(6,Qlw)],[(100300,Q7r)]⟩)]),(18,.jn [16] [] [(.n,⟨[(6,Qia)],[(100200,Q7r)]⟩)]),(30,.jn [6,8,16] [8,100000] [(.n,⟨[(9,Qa6)],[(100100,Jft)]⟩)]),(35,.an (.dc 17 [40,41,42,43,44,45,46,47,48,49,50,51,52,53,54,55,56] [100100,8] [] (.b 100000 (.c 100100 (.b 8 (.b 8 (.c 8 (.b 8 (.b 8 (.c 8 (.e 48 (.b 8 (.b 8 (.c 8 (.b 8 (.b 8 (.c 8 (.b 48 (.op ⟨.fz 48 (.nl 1 .done),[48],[],[],[48]⟩ Jay)))))))))))))))))))] func104⟩
def Kq(N:Nat):V:=⟨⟨153,Q0i,[zs5],V6 N,[]⟩,kF N [] [] func153⟩
def Iq(N:Nat):V:=⟨⟨105,Jk5,[zs5],u2 (X9 N),[]⟩,kF N [Kq] [] func105⟩
def Qqp(N:Nat):V:=⟨⟨69,Q7s,[(sD [Bv,.bool])],u3 (Tc N),[]⟩,kF N [Mx,Iq] [(6,.lp [2,12,13] [11201] ⟨[(6,Ry),(14,zs3)],[(100000,Jlg)]⟩ [(.x 0,⟨[(6,Qa6)],[(100100,Jlg)]⟩),(.r,⟨Jfu,[(100200,.var 140 Ac)]⟩)])] func69⟩
def Qkf(N:Nat):V:=⟨⟨154,(sD []),[⟨[(0,.p 1 [])],[(1,.var 327 (.ag (sL [.m 2,.m 3,.m 4,.m 5,.m 6,.ns,.ns]))),(2,Q0m),(3,.map .i Vd),(4,Qly),(5,.map .str .i),(6,Qau)]⟩],fun _=>Lz N,[]⟩,kF N [] [] func154⟩
def Qmq(N:Nat):V:=⟨⟨155,Qt8,[⟨[(0,.f 208 (sL [.p 1 [],.p 2 []]))],[(1,.var 22 Jlh),(2,N4)]⟩],u2 (Oo N),[]⟩,kF N [] [] func155⟩
def Qgi:AnY:=(.two (.reg (.n 3 .done)) (.un (.lp [2,6,7] [] ⟨[(8,.d .i)],[]⟩ [(.x 0,⟨[],[]⟩),(.r,⟨[],[]⟩)] (.two (.reg (.n 1 .done)) (.two (.two .nil .nil) (.two (.un (.two (.reg (.n 4 .done)) (.two (.yr (.h 5 (.n 5 .done) (.so 16 (.mv (.h 1 (.nl 1 .done) (.yl (.h 2 (.nl 1 (.n 1 .done)) .done)))) (.h 5 (.nl 4 (.n 1 .done)) .done)))) (.two .nil .nil)))) (.reg (.n 2 .done))))))))
def My(N:Nat):It:=⟨208,[(.sl Jt),(.int .i64)],Jt,fun(x1,x2)=>Du N x1 x2⟩
theorem Qeo(N:Nat):IO (My N):=⟨Jjb (Y:=tx) (N:=N) (it:=My N) (an:=Qgi) Je6 Je5 (Q7h N []) func208 rfl (fun x=>by kernel_rfl),Ij func208 rfl⟩
def Qc9(N:Nat):V:=⟨⟨209,Q0j,[Jfi],u2 (Xc N),[]⟩,kF N [] [(6,.lp [0,1] [] zs4 [(.x 0,zs4)]),(9,.rg (.n 5 (.sp 11 7 [5] [] Q0d Tx Tx .done)))] func209⟩
def R2(N:Nat):V:=⟨⟨237,Q0c,[Q4t],u2 (U9 N),[]⟩,kF N [] [(6,.lp [0,1] [] zs4 [(.x 0,zs4)]),(9,.rg (.n 5 (.sp 11 7 [5] [] Q0d Tx Tx .done)))] func237⟩
def Qil(N:Nat):V:=⟨⟨238,Q0c,[Q4t],u2 (Hv N),[]⟩,kF N [] [(8,.lp [1,8,9] [] ⟨Jfo,[(100000,Qqe)]⟩ Jnz),(16,.jn [10] [] Jn0)] func238⟩
def Pm(N:Nat):V:=⟨⟨210,⟨[(0,Gb),(1,Jfq),(2,.d Jt)],Jfv⟩,[⟨[(0,Jfq)],Jfw⟩],u9 (Xd N),[5000,5001,5002,5003,5005,5006,5007]⟩,kF N [R2,Qil] [(3,.jn [6] [5,6] [(.n,⟨[(4,Q0l)],[(5004,.map .str .i),(100001,Jn2)]⟩)]),(10,.an (.dr 8 Qlv Vl)),(16,.an (.dr 6 Q0g Vl))] func210⟩
def Nd(N:Nat):V:=⟨⟨156,⟨[(0,Gb),(1,.d Jt)],Jfv⟩,[⟨[],[(5000,.var 327 (.ag (sL [Q7t,Qt9,Q7u,Q7v,Q7w,Rw,Q0e]))),(5001,Q0m),(5002,.map .i Vd),(5003,Qly),(5004,.map .str .i),(5005,Qau),(1,Hl),(2,Hl)]⟩],u8 (Km N),[]⟩,kF N [Qc9,Pm] [(9,.jn [3] [3] [(.n,⟨Qav,[(5000,.var 327 (.ag (sL [Q7t,Qt9,Q7u,Q7v,Q7w,.s 100006,.s 100007]))),(5001,Q0m),(5002,.map .i Vd),(5003,Qly),(5004,.map .str .i),(5005,Qau),(100006,Hl),(100007,Hl)]⟩)]),(10,.an (.dc 12 [38,39,40,41,42,43,44,37,45,46,4,1000000011] [5000,5001] [3] (.b 5000 (.d 5000 5000 (.b 5000 (.d 5000 5001 (.b 3 (.c 3 (.c 5001 (.a (.a (.a (.e 4 (.f 4 4 Mt)))))))))))))),(14,.gh Jli),(14,.an (.dc 8 [49,50,51,52,53,54,55,56] [5000] [3] (.b 5000 (.b 5000 (.d 5000 5000 (.b 5000 (.c 5000 (.b 3 (.c 3 (.k 0 [] [] [15601] [15601] Qqf)))))))))),(16,.an (.dr 16 (.n 16 .done) Vl)),(21,.an (.dc 8 [77,78,79,80,81,82,83,6] [5000,3,5001] [] (.b 5000 (.d 5000 5000 (.b 5000 (.d 5000 5001 (.b 3 (.c 3 (.c 5001 (.e 6 Mt)))))))))),(24,.an (.dr 7 Q7j Vl)),(29,.jn [3] [3] [(.n,⟨Qav,[(5000,.var 327 (.ag (sL [Q7t,Qt9,Q7u,Q7v,Q7w,.s 100106,.s 100107]))),(5001,Q0m),(5002,.map .i Vd),(5003,Qly),(5004,.map .str .i),(5005,Qau),(100106,Hl),(100107,Hl)]⟩)]),(30,.an (.dr 8 Qlv .done)),(32,.gh (.fz 5007 (.dt 5000 .done))),(32,.an (.dc 8 [102,103,104,105,106,107,108,109] [5000] [3] (.b 5000 (.b 5000 (.d 5000 5000 (.b 5000 (.c 5000 (.b 3 (.c 3 (.k 0 [] [] [20901] [20901] Qqf)))))))))),(35,.an (.dr 6 Q0g Vl)),(37,.an (.dr 8 Qlv Vl)),(38,.an (.dr 15 Jjg Vl)),(43,.an (.dc 8 [143,144,145,146,147,148,149,7] [5000,3,5002] [] (.b 5000 (.d 5000 5000 (.b 5000 (.d 5000 5002 (.b 3 (.c 3 (.c 5002 (.e 7 Mt)))))))))),(48,.lp [0,3,7,151,152] [3,7,5000,5001,5002,5003,5005,5006,5007] ⟨[(153,zs3)],Jfw⟩ [(.x 1,⟨[],Jfw⟩)]),(62,.an (.dr 8 Qlv Vl)),(63,.an (.dr 6 Q0g Vl)),(65,.jn [0,3] [3,5000,5001,5002,5003,5004,5005,5006,5007] [(.n,⟨[(177,zs7)],[]⟩)]),(73,.an (.dc 12 [15,16,17,18,19,20,21,14,22,23,10,1000000011] [5000,3,5002] [] (.b 5000 (.d 5000 5000 (.b 5000 (.d 5000 5002 (.b 3 (.c 3 (.c 5002 (.a (.a (.a (.e 10 (.f 10 10 Mt)))))))))))))),(77,.an (.dc 10 [25,26,27,28,29,30,31,32,33,34] [5000,3,10,5004,5001,5002,5003,5005,5006,5007] [] (.b 5000 (.d 5000 5000 (.b 5000 (.d 5000 5002 (.b 3 (.c 3 (.b 5000 (.c 10 (.c 3 (.k 1 [5004] [5000,5001,5002,5003,5005,5006,5007] [] [5004] Mt))))))))))))] func156⟩
def Mz(N:Nat):V:=⟨⟨157,⟨Qav,Jfv⟩,[Jlj],u7 (Zx N),[5000,5001,5002,5003,5004,5005,5006,5007]⟩,kF N [] [(5,.rg (.br Vl)),(10,.lp [0,2,16,17] [2] ⟨[(3,Ry),(4,.m 100001),(18,zs3)],[(100000,.var 206 (.ag (sL [.ns,Jjl]))),(100001,Jfx),(100002,Qr6)]⟩ [(.x 0,⟨[(3,Qkb),(4,.m 100201)],[(100200,.var 206 (.ag (sL [.ns,Jjk]))),(100201,Jfx),(100202,Qr6)]⟩)]),(18,.jn [18] [] [(.n,⟨[(3,Qa6),(4,.m 100101)],[(100100,.var 206 (.ag (sL [.ns,Jfb]))),(100101,Jfx),(100102,Qr6)]⟩)]),(30,.gh (.op (.v 7 [.f 1 1]) 100001 700000 .done)),(30,.an (.dc 10 [33,34,35,36,37,38,39,40,41,42] [7,100001,700000] [] (.b 100001 (.b 7 (.c 7 (.b 100001 (.b 7 (.c 7 (.op ⟨.br .done,[],[100001,700000],[],[700000]⟩ (.a (.a (.g [700000] [] [42] [42] (.tl (.br .done)))))))))))))),(37,.gh (.fm 100201 .done)),(37,.lp [0,2,4,53,54] [2,100201] ⟨[(3,Qfc),(55,zs3)],[(100300,.var 206 (.ag (sL [Q0n,Jfy]))),(100301,Q4u),(100302,Qr6)]⟩ [(.x 2,⟨[(3,Qua)],[(100400,.var 206 (.ag (sL [Q7x,.s 100402]))),(100401,Q4u),(100402,Qr6)]⟩)])] func157⟩
def Qim:AnR:=(.pre (.reg (.n 1 .done)) (.pre (.reg (.call 0 (.n 2 .done))) (.inn (.pre (.reg (.n 2 (.call 1 .done))) (.un (.rf 0 [4,5] [4,5] ⟨[],[(10701,.var 327 (.ag (sL [.m 100001,.m 100002,.m 100003,.m 100004,.m 100005,.s 100006,.s 100007]))),(100001,.map .i Vy),(100002,.map .i Vd),(100003,.map .i .bool),(100004,.map .str .i),(100005,.map .i .i),(100006,.row 3 .i),(100007,.row 3 .i)]⟩ (.reg (.n 2 .done)) (.un (.reg (.n 2 (.call 2 .done))))))) (.two (.reg (.n 1 (.call 3 (.n 1 .done)))) .nil))))
def R3(N:Nat):V:=⟨⟨106,Qt8,[Jlj],u2 (F0 N),[]⟩,kR N [Qkf,Qmq,Nd,Mz] [⟨_,Qeo N⟩] Qim func106 rfl fun x=>by kernel_rfl⟩
def Qqq(N:Nat):V:=⟨⟨70,Q7s,[(sD [Vd,.bool])],u3 (Td N),[]⟩,kF N [R3] [(6,.lp [1,13,14] [11201,11202] ⟨Jlk,[(100000,Q7o)]⟩ [(.x 0,⟨[(6,Qa6)],[(100100,Q7o)]⟩),(.r,⟨Jfu,[(100200,Jfr)]⟩)])] func70⟩
def Qgj(N:Nat):V:=⟨⟨71,Q7s,[(sD [Vy,.bool])],u3 (Bz N),[]⟩,kF N [R3] [(6,.lp [1,13,14] [11201,11202] ⟨Jlk,[(100000,Jll)]⟩ [(.x 0,⟨[(6,Qa6)],[(100100,Jll)]⟩),(.r,⟨Jfu,[(100200,.var 142 Bg)]⟩)])] func71⟩
def Qep(N:Nat):V:=⟨⟨45,⟨Qav,[(5000,.var 144 (.ag (sL [Hm,Bh,V8,.ag (sL [Qcl,Yb,Qqk,zs7,zs7]),.ag (sL [zs3,zs3,zs3,zs7,zs7,N5]),.ag (sL [Yb,zs3,zs7,Rz,Qaw,Qlz,Qid]),zs3,Jlm]))),(5001,Qqe),(5002,Hl),(5003,Bi),(5004,Wk),(5005,G4),(5006,E9),(5007,Ub),(5008,Uc),(5009,Ur)]⟩,[⟨Qie,[(5000,Jlo),(1,Bi),(2,Wk),(3,G4),(4,E9),(5,Ub),(6,Uc),(7,Ur)]⟩],u35 (F2 N),[]⟩,kF N [Qqp,Qqq,Qgj] [(3,.an (.dc 21 [8,9,10,11,12,13,14,15,16,17,18,19,20,21,22,23,7,24,25,3,1000000020] [5000] [] (.b 5000 (.d 5000 5000 (.b 5000 (.b 5000 (.c 5000 (.b 5000 (.d 5000 5000 (.b 5000 (.b 5000 (.c 5000 (.b 5000 (.d 5000 5000 (.b 5000 (.b 5000 (.c 5000 (.k 0 [] [] [] [] (.a (.a (.a Jlp))))))))))))))))))))),(13,.an (.dc 21 [29,30,31,32,33,34,35,36,37,38,39,40,41,42,43,44,28,45,46,5,1000000020] [5000] [] (.b 5000 (.d 5000 5000 (.b 5000 (.b 5000 (.c 5000 (.b 5000 (.d 5000 5000 (.b 5000 (.b 5000 (.c 5000 (.b 5000 (.d 5000 5000 (.b 5000 (.b 5000 (.c 5000 (.k 1 [] [] [] [] (.a (.a (.a (.e 5 (.f 5 5 Mt))))))))))))))))))))))),(16,.an (.dr 8 Qlv .done)),(33,.an (.dc 20 [62,63,64,65,66,67,68,69,70,71,72,73,74,75,61,76,77,78,79,1000000019] [5000,5] [] (.b 5000 (.b 5000 (.d 5000 5000 (.b 5000 (.b 5000 (.c 5000 (.b 5 (.c 5 (.b 5000 (.d 5000 5000 (.b 5000 (.b 5000 (.c 5000 (.k 2 [] [] [] [] (.a (.a (.a (.d 5000 5000 (.b 5000 (.g [5000] [] [] [5000,5003,5004,5005,5006,5007,5008,5009] (.tl .done)))))))))))))))))))))))] func45⟩
def Qwn(N:Nat):V:=⟨⟨44,⟨Qav,[(5000,.var 138 Il),(5001,.var 144 (.ag (sL [Hm,Bh,V8,.ag (sL [Qcl,Yb,N5,zs7,zs7]),.ag (sL [zs3,zs3,zs3,zs7,zs7,Rz]),.ag (sL [Yb,zs3,zs7,Qaw,Qlz,Qid,Qqj]),zs3,.ag (sL [V8,zs3,Yb,zs3,Yb,.s 5008,.s 5009,zs3,zs3,zs3,.s 5010,zs3,zs3])]))),(5002,Qqe),(5003,Hl),(5004,Bi),(5005,Wk),(5006,G4),(5007,E9),(5008,Ub),(5009,Uc),(5010,Ur)]⟩,[⟨Qie,[(5001,.var 144 (.ag (sL [Hm,Bh,V8,Ac,Bg,Q0o,zs3,Jln]))),(1,Bi),(2,Wk),(3,G4),(4,E9),(5,Ub),(6,Uc),(7,Ur)]⟩],u35 (Qf2 N),[5000]⟩,kF N [Qep] [] func44⟩
def Qwo(N:Nat):V:=⟨⟨43,⟨[(0,.f 44 Ql0),(1,.p 5011 [])],[(5000,.var 138 Il),(5001,.var 144 (.ag (sL [Hm,Bh,V8,.ag (sL [Qcl,Yb,N5,zs7,zs7]),.ag (sL [zs3,zs3,zs3,zs7,zs7,Rz]),.ag (sL [Yb,zs3,zs7,Qaw,Qlz,Qid,Qqj]),zs3,.ag (sL [V8,zs3,Yb,zs3,Yb,.s 5008,.s 5009,zs3,zs3,zs3,.s 5010,zs3,zs3])]))),(5002,Qqe),(5003,Hl),(5004,Bi),(5005,Wk),(5006,G4),(5007,E9),(5008,Ub),(5009,Uc),(5010,Ur),(5011,Ql1)]⟩,[⟨[],[(5001,Jlo),(5011,Ql1),(1,Bi),(2,Wk),(3,G4),(4,E9),(5,Ub),(6,Uc),(7,Ur)]⟩],u36 (Qf3 N),[5000]⟩,kF N [Qwn] [(3,.rg (.n 1 Qmm))] func43⟩
def T3(N:Nat):V:=⟨⟨158,(sD [.sl .str]),[Q4t],W0 N,[]⟩,kF N [] [] func158⟩
def Pn(N:Nat):V:=⟨⟨159,Jlq,[⟨Qgd,[(1,.row 262 Kh)]⟩],Xe N,[]⟩,kF N [] [] func159⟩
def Po(N:Nat):V:=⟨⟨160,Jk1,[⟨Qgd,[(1,Q7y)]⟩],Xf N,[]⟩,kF N [] [] func160⟩
def N6(N n:Nat):Con:=⟨161,Qqh,[Qqh],fun x0=>Zy N n x0,[]⟩
theorem R4(N:Nat):∀n,KO (N6 N n)
 | 0=>⟨Fl fun _=>rfl,Ij func161 rfl⟩
 | n+1=>have ih:=R4 N n; kF N [fun _=>⟨_,ih⟩] [(8,.lp [1,2,7,8] [1,2] ⟨[(3,Rx),(9,zs3)],[(100000,Q7z)]⟩ [(.x 0,⟨[(3,Qec)],[(100100,Q7z)]⟩)])] func161
def Qr7(N:Nat):V:=⟨N6 N N,R4 N N⟩
def Qqr(N:Nat):V:=⟨⟨107,Q0h,[⟨[(0,Q0o)],Jfz⟩],Te N,[]⟩,kF N [T3,Pn,Po,Qr7] [(10,.lp [1,2,18,19] [1,2] ⟨[(3,Ry),(20,zs3)],Jlr⟩ Jls),(21,.an (.dc 9 [24,25,26,27,28,29,30,31,32] [100000,5] [] (.b 100000 (.d 100000 100001 (.b 5 (.c 5 (.b 5 (.c 5 (.k 0 [] [] [13001] [13001] (.b 13001 (.op ⟨.fz 13001 (.nl 1 .done),[13001],[],[],[13001]⟩ Qqf))))))))))),(27,.lp [1,2,37,38] [1,2] ⟨[(3,Qkb),(39,zs3)],Jlt⟩ Jlu),(38,.an (.dc 9 [43,44,45,46,47,48,49,50,51] [100200,7] [] (.b 100200 (.d 100200 100202 (.b 7 (.c 7 (.b 7 (.c 7 (.k 1 [] [] [14901] [14901] (.b 14901 (.op ⟨.fz 14901 (.nl 1 .done),[14901],[],[],[14901]⟩ Qqf))))))))))),(44,.lp [1,2,56,57] [1,2] ⟨[(3,Qua),(58,zs3)],Jlv⟩ Jlx),(57,.rg (.n 3 (.fz 16401 Qic))),(63,.lp [2,74,75] [1,2] ⟨[(3,.p 100600 []),(76,zs3)],Jly⟩ Jl0)] func107⟩
def Q0u(N:Nat):V:=⟨⟨72,(sD [.sl J5,.str,.i]),[⟨[(0,Q0o),(1,zs7)],Jfz⟩],u3 (Qj7 N),[]⟩,kF N [Qqr] [(8,.lp [0,1,2,6,11,12] [6] ⟨[(8,zs3),(13,zs3)],[]⟩ [(.x 0,Qh9)]),(16,.jn [13] [] Jf3)] func72⟩
def Qwp(N:Nat):V:=⟨⟨162,Qml,[zs5],Qf4 N,[]⟩,kF N [] [(6,.lp [0,6] [] Qqc Qqd)] func162⟩
def Qmr(N:Nat):V:=⟨⟨164,⟨[(0,.d Ua),(1,Gb)],Jl1⟩,[zs5],u2 (Oq N),[5000]⟩,kF N [] [] func164⟩
def I1(N:Nat):V:=⟨⟨211,Jl2,[zs2],u2 (Zd N),[5000]⟩,kF N [Qmr] [(6,.lp [0,1,7] [] Qh9 Qr4),(18,.rg (.n 5 (.call 0 .done)))] func211⟩
def Cb(N:Nat):V:=⟨⟨163,Jl2,[zs5],u2 (Ue N),[5000]⟩,kF N [I1] [] func163⟩
def Qqs(N:Nat):V:=⟨⟨165,Jn8,[zs5],Tf N,[]⟩,kF N [] [] func165⟩
def Qda(N:Nat):V:=⟨⟨109,Qml,[zs5],F3 N,[]⟩,kF N [Qqs] [(6,.lp [0,5] [] zs9 Qqd)] func109⟩
def Qr8(N:Nat):V:=⟨⟨108,Jky,[⟨[(0,.m 1),(1,zs3)],[(1,Qub)]⟩,⟨[(0,.nm),(1,zs3)],[]⟩],Qb7 N,[]⟩,kF N [Qwp,Cb,Qda] [(16,.lp [0,15,16] [] ⟨[(4,Q70),(17,zs3)],[(100000,Qub)]⟩ [(.x 0,⟨[(4,.m 100400)],[(100400,Qub)]⟩),(.r,⟨[(2,.nm),(3,zs3)],[]⟩)]),(57,.lp [6,17,44,45] [6] ⟨[(4,Q71),(46,zs3)],[(100100,Qub)]⟩ [(.x 3,⟨[(4,.m 100200)],[(100200,Qub)]⟩),(.r,⟨[(2,.nm),(3,zs3)],[]⟩)])] func108⟩
def Qms(N:Nat):V:=⟨⟨110,⟨[(0,.m 5000),(1,Yb),(2,zs3)],[(5000,Qub)]⟩,[(sD [.str,.bool])],u3 (Or N),[5000]⟩,kF N [] [(4,.lp [0,1] [] ⟨[(2,zs3)],[]⟩ [(.x 0,zs6),(.r,⟨[(6,Yb),(7,zs7)],[]⟩)])] func110⟩
def Qin(N:Nat):V:=⟨⟨73,(sD [.sl Ua,.str]),[(sD [.str,.bool])],u2 (Tg N),[]⟩,kF N [Qr8,Qda,Qms] [(4,.an (.cn 6 (.two (.two (.reg (.n 3 (.sp 15 4 [1,6] [] Je7 Tw Q0p .done))) (.two Jl3 (.gh (.tl .done) .nil))) .nil) (.two (.two (.reg (.n 3 (.sp 15 4 [1,6] [11001] Je7 Tw Q0p .done))) (.two Jl3 .nil)) (.two (.reg (.n 4 (.call 2 Qic))) .nil))))] func73⟩
def Qgk(N:Nat):V:=⟨⟨47,⟨Qav,[(5000,.var 144 (.ag (sL [Hm,Bh,V8,Ac,Bg,.ag (sL [Yb,zs3,zs7,Qqk,N5,Rz,Qaw]),zs3,Jf4]))),(5001,Bi),(5002,Wk),(5003,G4),(5004,E9),(5005,Ub),(5006,Uc),(5007,Ur)]⟩,[⟨Qie,[(5000,Jf5),(1,Wk),(2,G4),(3,E9),(4,Ub),(5,Uc),(6,Ur)]⟩],u26 (B0 N),[]⟩,kF N [Q0u,Qin] [(3,.an (.dc 21 [6,7,8,9,10,11,12,13,14,15,16,17,18,19,20,21,5,22,23,3,1000000020] [5000] [] (.b 5000 (.d 5000 5000 (.b 5000 (.b 5000 (.c 5000 (.b 5000 (.d 5000 5000 (.b 5000 (.b 5000 (.c 5000 (.b 5000 (.d 5000 5000 (.b 5000 (.b 5000 (.c 5000 (.k 0 [] [] [12104,12103,12102,12101] [12101,12102,12103,12104] (.g [] [] [] [12101,12102,12103,12104] (.g [] [] [] [12101,12102,12103,12104] (.a (.e 3 (.g [3] [12101,12102,12103,12104] [] [3,12101,12102,12103,12104] Mt))))))))))))))))))))))),(15,.an (.dc 10 [30,31,32,33,34,35,36,37,38,1000000009] [3,5000] [] (.b 5000 (.b 5000 (.b 3 (.c 3 (.b 3 (.c 3 (.d 5000 5000 (.b 5000 (.b 5000 (.g [5000] [] [] [5000,5005,5006,5007,12101,12102,12103,12104] (.tl Qic))))))))))))),(17,.gh (.fz 12101 (.dt 5000 (.dt 3 .done)))),(17,.an (.dc 16 [43,44,45,46,47,48,49,50,51,42,52,53,54,55,56,1000000015] [3,5000] [] (.b 5000 (.b 3 (.c 3 (.b 5000 (.d 5000 5000 (.b 5000 (.b 5000 (.c 5000 (.k 1 [] [] [] [] (.a (.a (.a (.d 5000 5000 (.b 5000 (.b 5000 (.g [5000] [] [] [5000,5005,5006,5007,12102,12103,12104] (.tl .done)))))))))))))))))))] func47⟩
def Qwq(N:Nat):V:=⟨⟨46,⟨Qav,[(5000,.var 138 Il),(5001,.var 144 (.ag (sL [Hm,Bh,V8,Ac,Bg,.ag (sL [Yb,zs3,zs7,N5,Rz,Qaw,Qlz]),zs3,.ag (sL [V8,zs3,Yb,zs3,Yb,Qid,Qqj,zs3,zs3,zs3,.s 5008,zs3,zs3])]))),(5002,Bi),(5003,Wk),(5004,G4),(5005,E9),(5006,Ub),(5007,Uc),(5008,Ur)]⟩,[⟨Qie,[(5001,Jf5),(1,Wk),(2,G4),(3,E9),(4,Ub),(5,Uc),(6,Ur)]⟩],u26 (Qf5 N),[5000]⟩,kF N [Qgk] [] func46⟩
def Qmt(N:Nat):V:=⟨⟨43,⟨[(0,.f 46 Ql0),(1,.p 5009 [])],[(5000,.var 138 Il),(5001,.var 144 (.ag (sL [Hm,Bh,V8,Ac,Bg,.ag (sL [Yb,zs3,zs7,N5,Rz,Qaw,Qlz]),zs3,.ag (sL [V8,zs3,Yb,zs3,Yb,Qid,Qqj,zs3,zs3,zs3,.s 5008,zs3,zs3])]))),(5002,Bi),(5003,Wk),(5004,G4),(5005,E9),(5006,Ub),(5007,Uc),(5008,Ur),(5009,Ql1)]⟩,[⟨[],[(5001,Jf5),(5009,Ql1),(1,Wk),(2,G4),(3,E9),(4,Ub),(5,Uc),(6,Ur)]⟩],u27 (Ot N),[5000]⟩,kF N [Qwq] [(3,.rg (.n 1 Qmm))] func43⟩
def Qio(N:Nat):V:=⟨⟨166,Jl5,[⟨Qgd,[(1,Uj)]⟩],Dv N,[]⟩,kF N [] [(8,.lp [6,7] [] ⟨[(3,Rx),(8,zs3)],[(100000,Uj)]⟩ [(.x 0,⟨[(3,Qec)],[(100100,Uj)]⟩)]),(21,.rg (.n 2 (.fz 14 Q4v)))] func166⟩
def D1(N:Nat):V:=⟨⟨111,Jfm,[Q0k],Hj N,[]⟩,kF N [Qio] [(3,.an (.dc 8 [3,4,5,6,7,8,9,10] [1] [] (.b 1 (.c 1 (.k 0 [] [] [10501] [10501] (.b 1 (.c 1 (.e 8 Jl6))))))))] func111⟩
def Qkg(N:Nat):V:=⟨⟨112,Q7s,[zs5],u3 (L3 N),[]⟩,kF N [] [(6,.lp [1,2,9,10] [] Jf6 Jff)] func112⟩
def Qkh(N:Nat):V:=⟨⟨137,(sD [.sl V3]),[Jl7],L4 N,[]⟩,kF N [] [(8,.lp [9,10] [] ⟨[(3,Q70),(11,zs3)],[(100000,Qau)]⟩ [(.x 0,⟨[(3,.m 100200)],[(100200,Qau)]⟩)]),(16,.jn [11] [] [(.n,⟨[(3,Q71)],[(100100,Qau)]⟩)])] func137⟩
def Qqt(N:Nat):V:=⟨⟨113,(sD [.sl V3,.i]),[⟨[(0,Rw),(1,zs3)],[(1,Qas)]⟩],u2 (Th N),[]⟩,kF N [Qkh] [(16,.lp [0,1] [11201] Qh9 [(.x 0,Qh9)]),(19,.rg (.n 5 (.sp 25 8 [8] [] ⟨[(33,zs7)],[]⟩ Qfb Qfb .done)))] func113⟩
def Z9(N:Nat):V:=⟨⟨169,Q72,[zs5],u3 (Yn N),[]⟩,kF N [] [] func169⟩
def Ae(N:Nat):V:=⟨⟨170,zs2,[zs5],Gs N,[]⟩,kF N [] [] func170⟩
def Af(N:Nat):V:=⟨⟨167,Jf7,[zs2],Gt N,[]⟩,kF N [Z9,Ae] [(5,.rg (.n 2 (.call 0 (.n 2 (.sp 8 5 [1] [1] ⟨[(13,zs7)],[]⟩ Hd Je8 (.n 1 (.sp 14 5 [1] [1] Je7 Hd Qlu Vl))))))),(11,.rg (.n 2 (.call 0 (.n 2 (.sp 25 5 [1] [1] ⟨[(30,zs7)],[]⟩ Hd Qlu Vl)))))] func167⟩
def D2(N:Nat):V:=⟨⟨168,Ql3,[Ql3],u2 (Y8 N),[]⟩,kF N [] [] func168⟩
def Qmu(N:Nat):V:=⟨⟨115,Ql3,[Ql3],u2 (Ou N),[]⟩,kF N [Af,D2,Z9,Ae] [(14,.rg (.n 1 (.call 2 (.n 2 (.sp 19 7 [1,2,4] [2,4] ⟨[(26,zs7)],[]⟩ Tx (.nl 4 (.call 3 Qr3)) .done)))))] func115⟩
def Qeq(N:Nat):V:=⟨⟨114,⟨[(0,.d V3),(1,zs3),(2,Gb)],[(5000,Q0q)]⟩,[⟨[],[(5000,Q0q)]⟩],u3 (Wd N),[]⟩,kF N [] [] func114⟩
def Qqu(N:Nat):V:=⟨⟨116,Ql3,[Ql3],u2 (Ti N),[]⟩,kF N [Af,D2,Z9] [] func116⟩
def Qip(N:Nat):V:=⟨⟨74,(sD [.sl Jt,Zw,.i,.i]),[Q0k],u4 (Dw N),[]⟩,kF N [D1,Qkg,Qqt,Qmu,Qeq,Qqu] [(6,.rg (.n 7 (.sp 24 6 [0,2,3,8,9] [5,8,9,11701,11702,11703] ⟨[(30,zs7)],[]⟩ Qr5 Jji .done))),(22,.lp [2,3,8,9,10,11,44,45] [5,8,9,11701,11702,11703,13601] ⟨[(12,Qa6),(13,.f 114 (sL [Qa6])),(46,zs3)],[(100100,Q0q)]⟩ [(.x 0,⟨[(12,Qua)],[(100400,Q0q)]⟩)]),(30,.jn [46] [] [(.n,⟨[(12,Qfc),(13,.f 114 (sL [Qfc]))],[(100300,Q0q)]⟩)]),(35,.an (.dr 20 (.n 5 (.sp 54 9 [12,13,15,46] [15,100100] ⟨[(63,zs7)],[]⟩ Qka Qka Q0g)) .done)),(45,.rg (.n 4 (.call 3 Jf8))),(49,.rg (.n 4 (.call 5 Jf8)))] func74⟩
def M2(N:Nat):V:=⟨⟨117,Q73,[Jf9],F4 N,[]⟩,kF N [] [] func117⟩
def Ql5(N:Nat):V:=⟨⟨118,Q73,[(sD [Us])],Rg N,[]⟩,kF N [] [] func118⟩
def Qmv(N:Nat):V:=⟨⟨119,Qt8,[zs2],u2 (Ov N),[]⟩,kF N [] [(6,.lp [1,7,8] [] Qif Qr4)] func119⟩
def Qdb(N:Nat):V:=⟨⟨213,⟨[(0,Ac),(1,Gb)],[(5000,Q0r)]⟩,[zs5],u2 (Eo N),[5000]⟩,kF N [] [(6,.lp [1,7,8] [2] Qif [(.x 0,zs6),(.r,⟨[(3,zs7)],[]⟩)])] func213⟩
def Qdc(N:Nat):V:=⟨⟨240,Q7m,[zs5],u2 (Ep N),[]⟩,kF N [] [] func240⟩
def Qdd(N:Nat):V:=⟨⟨241,Q7m,[Q0i],u2 (Er N),[]⟩,kF N [] [] func241⟩
def Di(N:Nat):V:=⟨⟨239,⟨[(0,Q74),(1,.f 240 .nil),(2,.f 241 .nil)],[]⟩,[Qib],Un N,[]⟩,kF N [Qdc,Qdd] [(8,.lp [1,2,11,12] [] ⟨Jle,Q7l⟩ Jl8),(16,.jn [13] [] Jl9),(22,.an (.dc 10 [19,20,21,22,23,24,25,26,27,28] [100000,9] [] (.a (.a (.a (.so 21 (.a (.b 100000 (.a (.a (.d 100000 100000 (.c 100000 (.c 9 (.tl Qmm)))))))) Q7q)))))),(24,.an (.dc 11 [31,32,33,34,35,36,37,38,39,40,41] [100000,9] [] (.b 100000 (.a (.a (.a (.b 100000 (.a (.a (.d 100000 100000 (.c 100000 (.c 9 (.k 1 [] [] [] [] Jay)))))))))))))] func239⟩
def Qgl(N:Nat):V:=⟨⟨212,⟨[(0,Jlh),(1,zs3),(2,.f 213 Ql0)],[(5000,Q0r)]⟩,[Qib],u3 (B1 N),[5000]⟩,kF N [Mx,Qdb,Di] [(8,.lp [2,12,13] [11201] ⟨[(7,Rx),(14,zs3)],Q7l⟩ Jl8),(16,.jn [14] [] Jl9),(20,.rg (.n 2 (.call 1 .done)))] func212⟩
def Qgm(N:Nat):V:=⟨⟨171,(sD [.sl Jt,.i,.str]),[Qib],u3 (B2 N),[]⟩,kF N [Qgl] [] func171⟩
def Qmw(N:Nat):V:=⟨⟨172,(sD [Ud,Ud]),[zs5],u2 (Ow N),[]⟩,kF N [] [] func172⟩
def Qiq(N:Nat):V:=⟨⟨120,Qt8,[⟨Qgd,[(1,Q75)]⟩],u2 (Dy N),[]⟩,kF N [Qgm,Qmw] [(5,.rg (.br Vl)),(12,.lp [0,1,15,16] [] ⟨[(5,Q70),(6,.m 100001),(7,Jjl),(17,zs3)],[(100000,Qly),(100001,Quc),(100002,Q75)]⟩ [(.x 0,⟨[(7,.s 101100)],[(101100,Q75)]⟩)]),(20,.jn [17] [] [(.n,⟨[(5,.m 101000),(6,.m 101001),(7,.s 101002)],[(101000,Qly),(101001,Quc),(101002,Q75)]⟩)]),(24,.jn [6,7,9,17] [9,100001,100002] [(.n,⟨[(5,Q71)],[(100100,Qly)]⟩)]),(31,.jn [5,7,9,17] [9,100002,100100] [(.n,⟨[(6,.m 100300),(51,zs7)],[(100300,Quc)]⟩)]),(31,.gh (.op (.v 9 [.f 5 5]) 100001 700000 .done)),(31,.rg (.n 11 (.sp 43 8 [5,6,7,9,17] [100001,700000] ⟨[(51,zs7)],[]⟩ Qfb (.nl 3 (.br (.nl 2 (.br Vl)))) (.cl 100001 .done)))),(36,.jn [5,7,9,17] [9,100002,100100] [(.n,⟨[(6,.m 100500)],[(100500,Quc)]⟩)]),(37,.jn [5,7,9,17] [] [(.n,⟨[(6,.m 100400),(56,zs7)],[(100400,Quc)]⟩)]),(37,.gh (.op (.v 9 [.f 5 5]) 100300 700001 .done)),(37,.rg (.n 3 (.br (.n 1 (.cl 100300 .done))))),(39,.rg (.n 4 (.br .done))),(42,.jn [5,7,9,17] [9,100002,100100] [(.n,⟨[(6,.m 100600)],[(100600,Quc)]⟩)]),(42,.gh (.op (.v 9 [.f 5 5]) 100500 700002 .done)),(42,.rg (.n 3 (.br (.n 3 (.cl 100500 .done))))),(44,.an (.dc 13 [67,68,69,70,71,72,73,74,75,76,77,78,10] [9] [] (.a (.b 9 (.c 9 (.b 9 (.c 9 (.a (.b 9 (.c 9 (.b 9 (.c 9 (.k 0 [] [] [17701] [17701] (.b 17701 (.e 10 Mt))))))))))))))),(49,.gh (.fz 17701 .done)),(49,.lp [5,6,7,10,17] [9,10,17701,100002,100100,100600] Jf6 [(.x 2,Jf6)]),(52,.jn [11] [] Jpo),(52,.an (.dc 10 [79,80,81,82,83,84,85,86,87,88] [] [100002,10] (.a (.b 100002 (.c 100002 (.a (.a (.so 83 (.b 100002 (.a (.d 100002 100002 (.c 100002 (.d 10 17701 (.tl Jfd)))))) Jlf)))))))),(59,.rg (.n 2 (.fz 100002 Q4v)))] func120⟩
def Ge(N:Nat):V:=⟨⟨174,Q7m,[Jk7],u2 (U3 N),[]⟩,kF N [Kq] [(6,.rg (.n 1 (.call 0 (.n 2 (.sp 21 4 [3,4,6] [2,3,4,6] Jga Tw (.nl 1 Je9) Q7j)))))] func174⟩
def N7(N:Nat):V:=⟨⟨251,zs2,[zs2],Zi N,[]⟩,kF N [] [(7,.jn [] [] [(.n,Q4s)])] func251⟩
def Qmx(N:Nat):V:=⟨⟨264,zs2,[zs5],Ox N,[]⟩,kF N [] [] func264⟩
def D3(N:Nat):V:=⟨⟨252,Mu,[zs2],u2 (Zz N),[]⟩,kF N [Qmx] [(6,.rg (.n 3 (.sp 9 3 [0,1,5] [5] ⟨[(12,zs7)],[]⟩ Jgb Jaw .done)))] func252⟩
def Qmy(N:Nat):V:=⟨⟨224,zs2,[(sD [Qd1])],Oy N,[]⟩,kF N [N7,D3] [(14,.lp [0,2] [2] ⟨[(3,Ry)],[(100000,Q76)]⟩ [(.x 0,⟨Qt7,[(100100,Q76)]⟩)]),(27,.lp [2] [2] ⟨[(0,zs3),(3,Qkb)],[(100200,Q76)]⟩ [(.x 2,⟨[(0,zs3),(3,Qfc)],[(100300,Q76)]⟩)])] func224⟩
def R5(N:Nat):V:=⟨⟨191,Mu,[zs2],u2 (W5 N),[]⟩,kF N [Qmy] [(7,.jn [] [5] [(.n,zs9)])] func191⟩
def Qir(N:Nat):V:=⟨⟨263,Mu,[zs2],u2 (Dz N),[]⟩,kF N [D3] [] func263⟩
def Qqv(N:Nat):V:=⟨⟨250,(sD [Qd1]),[Mu],Tj N,[]⟩,kF N [Qir,N7,D3] [(4,.jn [1] [1] [(.n,Q0d)]),(4,.an (.dc 11 [6,7,8,9,10,11,12,13,14,15,16] [] [1] (.b 1 (.c 1 (.a (.a (.so 9 Q7q (.b 1 (.c 1 (.b 1 (.c 1 (.b 1 (.c 1 (.k 0 [] [] [] [] (.tl Qr3))))))))))))))),(11,.an (.dc 5 [19,20,21,22,23] [1] [] (.b 1 (.c 1 (.k 1 [] [] [] [] Jl6))))),(16,.lp [1] [1] Jfh [(.x 0,Q4s)])] func250⟩
def Qki(N:Nat):V:=⟨⟨223,Mu,[zs2],u2 (F5 N),[]⟩,kF N [Qqv] [] func223⟩
def Ir(N:Nat):V:=⟨⟨190,Mu,[Q0i],u2 (We N),[]⟩,kF N [Qki] [(5,.jn [4] [4] [(.n,⟨[(5,Ry)],[(100000,Jft)]⟩)])] func190⟩
def N8(N:Nat):V:=⟨⟨175,(sD [.i,Ja]),[Qib],u2 (Hw N),[]⟩,kF N [R5,Ir] [(16,.lp [0,3] [3] ⟨[(5,Rx),(6,zs3)],Q7l⟩ [(.x 0,⟨[(5,Qec)],[(100100,Dc)]⟩)])] func175⟩
def Qde(N:Nat):V:=⟨⟨173,⟨[(0,Qcl),(1,Gb),(2,Il),(3,.p 5003 [])],[(5000,N4),(5001,.var 158 N5),(5002,Dc),(5003,N4)]⟩,[⟨[],[(5001,.var 158 Rw),(1,Dc)]⟩],u4 (Es N),[5000,5003]⟩,kF N [Ge,N8] [(7,.an (.dc 4 [16,17,18,19] [5001,5] [5003] (.d 5001 5002 (.c 5003 (.c 5 (.k 1 [] [] [11901] [11901] Jay))))))] func173⟩
def Qdf(N:Nat):V:=⟨⟨242,Jma,[Jmb],u3 (Et N),[]⟩,kF N [Kq] [(3,.lp [1,7,8] [] ⟨[(2,Gb),(9,zs3)],[(5000,.var 352 Qqg),(100001,Ql4)]⟩ [(.x 0,⟨[],[(5000,.var 352 Q0f),(100201,Ql4)]⟩)]),(11,.jn [9] [] [(.n,⟨[(2,Gb)],[(5000,.var 352 Qck),(100101,Ql4)]⟩)])] func242⟩
def R6(N:Nat):V:=⟨⟨242,Jma,[Jmb],u3 (Xv N),[]⟩,kF N [Kq] [(3,.lp [1,7,8] [] ⟨[(2,Gb),(9,zs3)],[(5000,.var 352 Qqg),(100001,Ql4)]⟩ [(.x 0,⟨[],[(5000,.var 352 Q0f),(100201,Ql4)]⟩)]),(11,.jn [9] [] [(.n,⟨[(2,Gb)],[(5000,.var 352 Qck),(100101,Ql4)]⟩)])] func242⟩
def Qgn(N:Nat):V:=⟨⟨215,(sD [.bool,.bool]),[zs5],u2 (B3 N),[]⟩,kF N [] [] func215⟩
def Qgo(N:Nat):V:=⟨⟨214,⟨[(0,Q74),(1,Q74),(2,.f 215 .nil)],[]⟩,[Qib],u2 (B4 N),[]⟩,kF N [Qdf,R6,fun _=>⟨_,Ga⟩,Qgn] [(7,.rg (.n 2 (.call 0 .done))),(9,.rg (.n 2 (.call 1 .done))),(22,.lp [2,7,24,25] [7,12101] ⟨[(9,Rx),(10,Q0l),(11,zs7),(26,zs3)],[(100000,Dc),(100001,Q77)]⟩ [(.x 0,⟨[(9,Qqi)],Jfl⟩)]),(30,.jn [26] [] [(.n,⟨[(9,Qlw),(10,Jfp),(11,zs7)],[(100300,Dc),(100301,Q77)]⟩)]),(34,.an (.dr 8 Qlv Vl)),(37,.an (.dr 16 (.n 6 (.sp 44 10 [9,10,11,12,13,26] [13,100000,100001] ⟨[(54,zs7)],[]⟩ Q7p Q7p .done)) .done)),(42,.rg (.n 7 (.call 3 Vl))),(44,.jn [10,14,26] [13,100001] [(.n,⟨[(9,Qia)],[(100200,Dc)]⟩)])] func214⟩
def Qkj(N:Nat):V:=⟨⟨176,(sD [.sl Ja]),[Qib],L9 N,[]⟩,kF N [Qgo] [] func176⟩
def Qmz(N:Nat):V:=⟨⟨121,(sD [.sl Ud,.i,.i]),[Qib],u3 (Oz N),[]⟩,kF N [Qde,Qkj,N8] [(10,.lp [17,18] [] ⟨[(4,Ry),(7,Q0l),(8,.f 173 (sL [.p 100002 [],Q0l,Ry])),(19,zs3)],[(100000,N4),(100001,.var 158 Jn5),(100002,N4),(100003,Dc)]⟩ [(.x 0,⟨[(4,Qfc),(7,Jfp)],[(100300,N4),(100301,.var 158 Jfy),(100302,Dc)]⟩)]),(24,.lp [19,24,25] [10] ⟨[(4,Qa6),(7,Jn3),(8,.f 173 (sL [.p 100102 [],Jn3,Qa6])),(26,zs3)],[(100100,N4),(100101,.var 158 Jfc),(100102,N4),(100103,Dc)]⟩ [(.x 2,⟨[(4,Qkb),(7,Jfs),(8,.f 173 (sL [.p 100202 [],Jfs,Qkb]))],[(100200,N4),(100201,.var 158 Jn4),(100202,N4),(100203,Dc)]⟩)]),(35,.rg (.n 2 (.call 0 .done))),(44,.lp [4,36,37] [13601,100300,100301,100302] ⟨[(13,Qqi),(38,zs3)],Jfl⟩ [(.x 4,⟨[(13,Q7k)],[(100500,Dc)]⟩)])] func121⟩
def Qqw(N:Nat):V:=⟨⟨217,⟨[(0,.d Yl),(1,Gb),(2,Il)],Jmc⟩,[zs5],u3 (Tk N),[5000,5001]⟩,kF N [] [] func217⟩
def D4(N:Nat):V:=⟨⟨216,⟨[(0,.d (.sl Yl)),(1,.f 217 (sL [Gb,Il]))],Jmc⟩,[⟨Qgd,[(1,Qig)]⟩],u3 (U4 N),[5000,5001]⟩,kF N [Qqw] [(8,.lp [1,8,9] [] ⟨Jfo,[(100000,Qig)]⟩ [(.x 0,⟨Jjj,[(100200,Qig)]⟩)]),(16,.jn [10] [] [(.n,⟨[(5,Qec)],[(100100,Qig)]⟩)]),(20,.rg (.n 2 (.call 0 .done)))] func216⟩
def Qm0(N:Nat):V:=⟨⟨218,Jpq,[⟨[(0,.ag (sL [Yb,zs3,zs3,Yb,zs7,Rw]))],[(1,Qud)]⟩],O4 N,[]⟩,kF N [] [(8,.lp [1,2,7,8] [1,2] ⟨[(3,Rx),(9,zs3)],[(100000,Qud)]⟩ [(.x 0,⟨[(3,Qec)],[(100100,Qud)]⟩)]),(21,.rg (.n 2 (.fz 15 Q4v)))] func218⟩
def Qwr(N:Nat):V:=⟨⟨177,(sD [.sl Yl,.str,.i]),[⟨[(0,.ag (sL [Yb,zs3,zs3,Yb,zs7,Rw])),(1,zs7)],[(1,Qud)]⟩],u3 (Qf6 N),[]⟩,kF N [D4,Qm0] [] func177⟩
def T4(N:Nat):V:=⟨⟨122,(sD [Ud,.sl Yl,Ja]),[⟨Qgd,[(1,Q78)]⟩],u3 (W6 N),[]⟩,kF N [Ge,Qwr] [(6,.lp [1,3,5,18,19] [3,5] ⟨[(20,zs3)],[]⟩ [(.x 0,zs6),(.r,⟨[(6,Qqi)],[(100400,Q78)]⟩)]),(33,.lp [9,42,43] [8,9,11,13801] ⟨[(13,Qec),(44,zs3)],[(100100,Q78)]⟩ [(.x 2,⟨[(13,Qia)],[(100200,Q78)]⟩)])] func122⟩
def N9(N:Nat):V:=⟨⟨178,Jgc,[zs5],u2 (Hx N),[]⟩,kF N [] [] func178⟩
def Qqx(N:Nat):V:=⟨⟨179,(sD [Yj,Yj,.i]),[Jf9],u3 (Tl N),[]⟩,kF N [M2,N9] [(5,.jn [6] [3,4,6] [(.n,⟨[(7,Ry)],[(100000,.var 58 (.ag (sL [zs3,zs3,Yb,zs3,zs3,Qqg,Qcl,zs3,zs3,zs3,zs7]))),(100001,Qqe)]⟩)])] func179⟩
def Qm1(N:Nat):V:=⟨⟨180,Jgc,[zs5],u2 (O5 N),[]⟩,kF N [] [] func180⟩
def Qgp(N:Nat):V:=⟨⟨123,⟨[(0,Gb),(1,.d Hs)],[(5000,.var 221 (.ag (sL [Qqk,Qt9]))),(5001,Uj),(5002,Qax)]⟩,[⟨[],[(5000,.var 221 (.ag (sL [Rw,Qt9]))),(5002,Qax),(1,Uj)]⟩],u3 (B5 N),[]⟩,kF N [Ql5,M2,N9,Qqx,Qm1] [(4,.an (.dc 7 [9,10,11,12,13,14,15] [5000,3] [] (.b 5000 (.d 5000 5000 (.b 5000 (.d 5000 5002 (.b 3 (.c 3 Jmd)))))))),(14,.gh (.fz 11901 .done)),(14,.lp [0,3,23,24] [3,5000,5001,5002] ⟨[(4,Ry),(25,zs3)],[(100000,.var 58 (.ag (sL [zs3,zs3,Yb,zs3,zs3,Qqg,Qcl,zs3,zs3,zs3,zs7]))),(100001,.tail 9 .str)]⟩ [(.x 0,⟨[(4,Qa6)],[(100100,.var 58 (.ag (sL [zs3,zs3,Yb,zs3,zs3,Qck,Qcl,zs3,zs3,zs3,zs7]))),(100101,.tail 9 .str)]⟩)]),(37,.lp [0,4] [3,5000,5001,5002,100100,100101] Qqc [(.x 2,Qqc)]),(40,.jn [7] [] [(.n,Jnx)]),(40,.an (.dc 16 [38,39,40,41,42,43,44,45,46,47,48,49,50,51,52,53] [] [5000,5001,100100] (.a (.b 5000 (.d 5000 5000 (.b 5000 (.d 5000 5001 (.c 5001 (.a (.a (.so 45 (.b 5000 (.d 5000 5000 (.b 5000 (.d 5000 5001 (.a (.d 5001 5001 (.c 5001 (.d 100100 100101 (.tl (.call 4 Vl)))))))))) (.a Q7q)))))))))))),(47,.rg (.n 5 (.fz 5001 Q4v))),(52,.gh (.dt 100100 .done)),(52,.an (.dc 6 [80,81,82,83,84,85] [5000,100100] [] (.b 5000 (.d 5000 5000 (.b 5000 (.d 5000 5002 (.c 100100 Jmd)))))))] func123⟩
def Qkk(N:Nat):V:=⟨⟨75,(sD [.sl Jt,.sl Yl,Zw,.i,.i]),[Q0k],u5 (Ma N),[]⟩,kF N [M2,Ql5,Qmv,Qiq,Qmz,T4,Qgp] [(8,.lp [0,1,3,4,7,10,27,28] [7,10] ⟨[(11,Ry),(29,zs3)],[(100000,.var 221 (.ag (sL [Qqg,.m 100002]))),(100001,Uj),(100002,Qax)]⟩ [(.x 0,⟨[(11,Qa6)],[(100100,.var 221 (.ag (sL [Qck,.m 100102]))),(100101,Uj),(100102,Qax)]⟩)]),(20,.an (.dc 9 [33,34,35,36,37,38,39,40,41] [100000,13,100001] [] (.b 100000 (.b 100000 (.d 100000 100000 (.b 100000 (.d 100000 100001 (.c 13 (.k 0 [] [] [13901] [13901] (.op ⟨.fz 13901 (.nl 1 .done),[13901],[],[],[13901]⟩ (.g [100001] [] [41] [41] Qqf))))))))))),(21,.an (.dc 6 [44,45,46,47,48,49] [100000,13] [] (.b 100000 (.d 100000 100000 (.b 100000 (.d 100000 100002 (.c 13 (.k 1 [] [] [] [] Mt)))))))),(24,.an (.dc 8 [51,52,53,54,55,56,57,14] [7] [] (.b 7 (.c 7 (.e 53 (.b 7 (.c 7 (.e 56 (.g [] [] [] [53,56] (.e 14 Mt)))))))))),(28,.jn [10,14] [7,10,14,53,56] [(.n,⟨[(11,.p 100900 [])],[(100900,.var 221 (.ag (sL [.s 100901,.m 100902]))),(100901,Uj),(100902,Qax)]⟩)]),(36,.lp [1,4,10,14,16,77,78] [17301,17701] ⟨[(11,Qkb),(79,zs3)],[(100200,.var 221 (.ag (sL [Q0f,.m 100202]))),(100201,Uj),(100202,Qax)]⟩ [(.x 2,⟨[(11,.p 100800 [])],[(100800,.var 221 (.ag (sL [.s 100801,.m 100802]))),(100801,Uj),(100802,Qax)]⟩)]),(50,.lp [18,79,83,84] [18] ⟨[(11,Qfc),(85,zs3)],[(100300,.var 221 (.ag (sL [Q0n,.m 100302]))),(100301,Uj),(100302,Qax)]⟩ [(.x 4,⟨[(11,.p 100700 [])],[(100700,.var 221 (.ag (sL [Jf2,.m 100702]))),(100701,Uj),(100702,Qax)]⟩)]),(64,.lp [85,92,93] [20,19201] ⟨[(11,Qua),(94,zs3)],[(100400,.var 221 (.ag (sL [Q7x,.m 100402]))),(100401,Uj),(100402,Qax)]⟩ [(.x 6,⟨[(11,.p 100600 [])],[(100600,.var 221 (.ag (sL [Jf1,.m 100602]))),(100601,Uj),(100602,Qax)]⟩)]),(72,.jn [94] [] [(.n,⟨[(11,.p 100500 [])],[(100500,.var 221 (.ag (sL [Jf0,.m 100502]))),(100501,Uj),(100502,Qax)]⟩)])] func75⟩
def Qqy(N:Nat):V:=⟨⟨219,Q73,[Jf9],Tm N,[]⟩,kF N [] [] func219⟩
def Qm2(N:Nat):V:=⟨⟨181,Jl5,[⟨Qgd,[(1,Uj)]⟩],O6 N,[]⟩,kF N [Qqy] [(8,.lp [6,7] [] ⟨[(3,Rx),(8,zs3)],[(100000,Uj)]⟩ [(.x 0,⟨[(3,Qec)],[(100100,Uj)]⟩)]),(19,.rg (.n 2 (.call 0 (.fz 11401 Q4v))))] func181⟩
def Qkl(N:Nat):V:=⟨⟨245,Mu,[zs2],u2 (Ko N),[]⟩,kF N [] [] func245⟩
def Qkm(N:Nat):V:=⟨⟨220,Jgc,[zs5],u2 (Mc N),[]⟩,kF N [Qkl] [] func220⟩
def Is(N n:Nat):Con:=⟨182,(sD [.sl Yj,.i,.i]),[(sD [.sl .i])],fun(x0,x1,x2)=>Uf N n x0 x1 x2,[]⟩
theorem M3(N:Nat):∀n,KO (Is N n)
 | 0=>⟨Fl fun _=>rfl,Ij func182 rfl⟩
 | n+1=>have ih:=M3 N n; kF N [fun _=>⟨_,ih⟩,Qkm] [(12,.lp [2] [] Jk3 [(.x 0,⟨[(7,Qec)],[(100100,Hl)]⟩)]),(37,.lp [0,10,11] [] ⟨[(12,Qia),(13,zs3),(14,zs3)],Jfk⟩ [(.x 2,⟨[(12,Qqi)],Jfj⟩)]),(46,.jn [12,13,14] [100200] [(.n,⟨[(85,zs7)],[]⟩)]),(46,.an (.dc 24 [58,59,60,61,62,63,64,65,66,67,68,69,70,71,72,73,74,75,76,77,78,79,80,81] [] [] (.a (.a (.a (.a (.a (.so 62 (.a (.a (.a (.a (.a Jme))))) (.a (.a (.a (.a (.a (.so 67 (.a (.a (.a (.a (.a (.a (.a (.a (.a (.a (.a (.a (.a (.a (.tl (.call 1 Jaw)))))))))))))))) Jme))))))))))))))] func182
def Qm3(N:Nat):V:=⟨Is N N,M3 N N⟩
def Qm4(N:Nat):V:=⟨⟨183,(sD [Yj,.i,.i,.i,.str,.bool,.i]),[zs5],u7 (O7 N),[]⟩,kF N [Iq] [(4,.rg (.n 10 (.sp 26 6 [1,2,4,5,6,7] [7] ⟨[(32,zs7)],[]⟩ Qr5 (.nl 3 Je9) .done))),(22,.lp [4,7,53,54] [7] ⟨[(55,zs3)],[]⟩ [(.x 0,zs6),(.r,⟨[(14,zs7)],[]⟩)])] func183⟩
def Q0v(N:Nat):V:=⟨⟨184,Q73,[(sD [Rd])],Qj8 N,[]⟩,kF N [] [] func184⟩
def Qr9(N:Nat):V:=⟨⟨124,(sD [.sl Yj,.i,.i,.i,.str,.bool,.i,.i]),[⟨[(0,Rw),(1,Q0e),(2,zs3)],[(1,Uj),(2,Ub)]⟩],u8 (Qb9 N),[]⟩,kF N [Qm2,Qm3,Qm4,Q0v] [(12,.lp [0,1,2,3,4,5,6,32,33] [] ⟨[(7,zs3),(19,Rx),(20,Qqg),(34,zs3)],[(100000,Uj),(100001,Ub)]⟩ [(.x 0,⟨[(7,zs3),(19,Qlw),(20,Q0n)],[(100300,Uj),(100301,Ub)]⟩)]),(20,.jn [34] [] [(.n,⟨[(7,zs3),(19,Qia),(20,Q0f)],[(100200,Uj),(100201,Ub)]⟩),(.x 0,⟨[(7,zs3),(19,Qec),(20,Qck)],[(100100,Uj),(100101,Ub)]⟩)])] func124⟩
def Qm5(N:Nat):V:=⟨⟨76,(sD [Zw,J0,.str,.bool]),[⟨[(0,Jax),(1,.s 4),(2,zs3)],[(1,Uj),(2,Qas),(3,Qat),(4,Ub)]⟩],u4 (O8 N),[]⟩,kF N [D1,Qr9] [] func76⟩
def Qkn(N:Nat):V:=⟨⟨49,⟨Qav,[(5000,.var 144 (.ag (sL [Hm,Bh,V8,Ac,Bg,.ag (sL [Yb,zs3,zs7,Ql2,Qqk,N5,Rz]),zs3,.ag (sL [V8,zs3,Yb,zs3,Yb,Qaw,Qlz,zs3,zs3,zs3,Qid,zs3,zs3])]))),(5001,Wk),(5002,G4),(5003,E9),(5004,Ub),(5005,Uc),(5006,Ur)]⟩,[⟨[],[(5000,.var 144 (.ag (sL [Hm,Jax,V8,Ac,Bg,.ag (sL [Yb,zs3,zs7,Ql2,.s 4,.s 5,.s 6]),zs3,.ag (sL [V8,zs3,Yb,zs3,Yb,.s 7,.s 8,zs3,zs3,zs3,.s 9,zs3,zs3])]))),(1,Uj),(2,Qas),(3,Qat),(4,Wk),(5,G4),(6,E9),(7,Ub),(8,Uc),(9,Ur)]⟩],u26 (Md N),[5004]⟩,kF N [Qip,Qkk,Qm5] [(1,.an (.dc 21 [5,6,7,8,9,10,11,12,13,14,15,16,17,18,19,20,21,22,23,24,2] [5000] [] (.b 5000 (.d 5000 5000 (.b 5000 (.b 5000 (.c 5000 (.b 5000 (.d 5000 5000 (.b 5000 (.c 5000 (.b 5000 (.d 5000 5000 (.b 5000 (.b 5000 (.c 5000 (.b 5000 (.d 5000 5000 (.b 5000 (.b 5000 (.c 5000 (.k 0 [] [] [12403,12402,12401] [12401,12402,12403] (.e 2 Mt))))))))))))))))))))))),(3,.an (.dr 21 (.n 21 .done) Jfd)),(5,.gh (.fz 14601 (.dt 2 (.fz 14602 (.dt 2 (.fz 14603 (.dt 2 .done))))))),(5,.an (.dc 22 [48,49,50,51,52,53,54,55,56,57,58,59,60,61,62,63,47,64,65,66,1000000020,3] [2,5000] [] (.c 2 (.b 5000 (.d 5000 5000 (.b 5000 (.c 5000 (.b 5000 (.d 5000 5000 (.b 5000 (.b 5000 (.c 5000 (.b 5000 (.d 5000 5000 (.b 5000 (.b 5000 (.c 5000 (.k 2 [] [] [16304,16303,16302,16301] [16301,16302,16303,16304] (.g [] [] [] [16301,16302,16303,16304] (.g [] [] [] [16301,16302,16303] (.b 16304 (.a (.g [2] [16301,16302,16303] [] [2,16301,16302,16303] (.b 16304 Mt))))))))))))))))))))))))] func49⟩
def Qko(N:Nat):V:=⟨⟨185,(sD [J0,.i]),[zs5],u2 (Me N),[]⟩,kF N [] [] func185⟩
def Qws(N:Nat):V:=⟨⟨192,Qml,[zs5],Qf7 N,[]⟩,kF N [] [(6,.lp [0,6] [] Qqc Qqd)] func192⟩
def Qm6(N:Nat):V:=⟨⟨194,⟨[(0,.d Vs),(1,Gb)],Jmf⟩,[zs5],u2 (O9 N),[5000]⟩,kF N [] [] func194⟩
def I2(N:Nat):V:=⟨⟨225,Jmh,[zs2],u2 (Ze N),[5000]⟩,kF N [Qm6] [(6,.lp [0,1,7] [] Qh9 Qr4),(18,.rg (.n 5 (.call 0 .done)))] func225⟩
def Cc(N:Nat):V:=⟨⟨193,Jmh,[zs5],u2 (Ug N),[5000]⟩,kF N [I2] [] func193⟩
def Qsa(N:Nat):V:=⟨⟨195,Jlq,[zs2],Qcb N,[]⟩,kF N [] [(22,.lp [11,12] [] ⟨[(13,zs3)],[]⟩ Qmn)] func195⟩
def Pp(N:Nat):V:=⟨⟨130,Jkz,[zs2],Da N,[]⟩,kF N [Qws,Cc,Qsa] [(22,.lp [0,12,13] [] ⟨[(14,zs3)],[]⟩ Qmn),(30,.jn [14] [] [(.n,zs6),(.r,⟨[(2,zs3)],[]⟩)])] func130⟩
def Qgq(N:Nat):V:=⟨⟨227,Q0j,[zs2],u2 (B7 N),[]⟩,kF N [] [(6,.lp [0,1,7] [] Qh9 Qr4)] func227⟩
def Qbe(N:Nat):V:=⟨⟨198,Q0j,[zs5],u2 (Hc N),[]⟩,kF N [Qgq] [] func198⟩
def M4(N:Nat):V:=⟨⟨136,zs2,[zs2],Gu N,[]⟩,kF N [] [] func136⟩
def Ql6(N:Nat):V:=⟨⟨132,Q0j,[zs2],u2 (Qd2 N),[]⟩,kF N [Qbe,M4] [] func132⟩
def Qqz(N:Nat):V:=⟨⟨196,⟨[(0,.d Kh),(1,Gb),(2,Il)],Jmi⟩,[zs5],u3 (Tn N),[5000,5001]⟩,kF N [] [] func196⟩
def I3(N:Nat):V:=⟨⟨226,Jmj,[zs2],u3 (Zf N),[5000,5001]⟩,kF N [Qqz] [(6,.lp [0,1,7] [] Qh9 Qr4),(18,.rg (.n 5 (.call 0 .done)))] func226⟩
def Cd(N:Nat):V:=⟨⟨197,Jmj,[zs5],u3 (Uh N),[5000,5001]⟩,kF N [I3] [] func197⟩
def Qis(N:Nat):V:=⟨⟨131,(sD [.sl Vs,.i,.i]),[Qml],u3 (To N),[]⟩,kF N [Cd] [(8,.lp [0,7,11,12] [4,5] ⟨[(13,zs3)],[]⟩ [(.x 0,zs6),(.r,⟨[(6,Yb)],[]⟩)])] func131⟩
def Qq0(N:Nat):V:=⟨⟨80,(sD [.sl Vs,.sl .i,.i]),[Qml],u3 (Qh4 N),[]⟩,kF N [Pp,Ql6,Qis] [] func80⟩
def Qq1(N:Nat):V:=⟨⟨221,(sD [.sl Vs,.i]),[Jfi],u2 (Tp N),[]⟩,kF N [fun _=>⟨_,Qgc⟩,fun _=>⟨_,Qa5⟩,fun _=>⟨_,D0⟩] [(3,.rg (.br Vl)),(8,.lp [1,11,12] [] ⟨[(5,Rx),(13,zs3)],Jfg⟩ [(.x 0,⟨[(5,Qqi)],Jfj⟩)]),(22,.lp [13,18,19] [7] ⟨[(5,Qec),(20,zs3)],[(100100,Hl)]⟩ [(.x 2,⟨[(5,Qlw)],[(100300,Hl)]⟩)]),(30,.jn [20] [] [(.n,⟨Jjj,Jfk⟩)]),(36,.rg (.n 5 (.br Q4w)))] func221⟩
def Q0w(N:Nat):V:=⟨⟨186,(sD [.sl Vs,.sl .i,Ja]),[⟨Qgd,[(1,Que)]⟩],u3 (Qj9 N),[]⟩,kF N [Pp,Kq,Ql6,Qq1,Ge,Qis] [(4,.rg (.n 1 (.call 0 (.n 2 (.sp 21 4 [0,1,5] [5] Jga Tw Q0p Qlv))))),(16,.lp [0,1,5] [5] ⟨[(7,Qec),(8,zs3)],[(100100,Que)]⟩ [(.x 0,⟨[(7,.s 100700)],[(100700,Que)]⟩)]),(32,.lp [8,9,10,51,52] [15001] ⟨[(7,Qia),(53,zs3)],[(100200,Que)]⟩ [(.x 2,⟨[(7,.s 100600)],[(100600,Que)]⟩)]),(40,.jn [53] [] [(.n,⟨[(7,Q7k)],[(100500,Que)]⟩)]),(46,.jn [7,12,53] [100200] [(.n,⟨[(13,Qfc)],[(100300,Jft)]⟩)]),(60,.an (.dc 7 [90,91,92,93,94,95,16] [14] [] (.a (.a (.a (.k 5 [] [] [] [] (.c 14 (.a (.e 16 Mt))))))))),(64,.an (.dr 12 (.n 3 (.sp 101 9 [7,14,16,17,53] [14,16,100200,100300] ⟨[(110,zs7)],[]⟩ Qka Qka .done)) .done))] func186⟩
def Qkp(N:Nat):V:=⟨⟨187,⟨[(0,.d Gn),(1,Gb),(2,Il),(3,.p 5002 [])],[(5000,N4),(5001,Q0r),(5002,Q0r)]⟩,[zs5],u4 (Mf N),[5000,5001,5002]⟩,kF N [] [] func187⟩
def Qq2(N:Nat):V:=⟨⟨126,(sD [J5,.i,.str,.str]),[⟨[(0,.ag (sL [zs3,Yb,Yb,zs3,Rw])),(1,zs7)],[(1,Q7y)]⟩],u4 (Tq N),[]⟩,kF N [Qkp] [(8,.lp [10,15,16] [4,5,6,7] ⟨[(8,Ry),(17,zs3)],[(100000,Jmk)]⟩ [(.x 0,⟨[(8,Qa6)],[(100100,Jmk)]⟩),(.r,⟨[(8,Qkb),(9,zs7)],[(100200,.var 102 (.ag (sL [zs3,Yb,Yb,zs3,Q0f]))),(100201,Q7y)]⟩)]),(20,.rg (.n 2 (.call 0 .done)))] func126⟩
def R7(N:Nat):V:=⟨⟨222,(sD [.i,.sl .i]),[zs5],u2 (W7 N),[]⟩,kF N [] [(6,.lp [0,7,8] [] Qif zs8)] func222⟩
def Qgr(N:Nat):V:=⟨⟨188,⟨[(0,.s 5000)],Jgd⟩,[zs2],B8 N,[5000]⟩,kF N [R7] [(24,.lp [0,12,13] [] ⟨[(3,zs3),(14,zs3)],[]⟩ Qmn),(37,.rg (.n 5 (.call 0 (.n 7 (.sp 31 6 [3,4,5,14] [5] Jnu Qr5 (.nl 3 Je9) .done)))))] func188⟩
def Qit(N:Nat):V:=⟨⟨189,⟨[(0,.s 5000),(1,zs3)],Jgd⟩,[Qql],u2 (Hy N),[5000]⟩,kF N [] [(8,.lp [1,12,13] [] ⟨[(6,zs3),(7,zs3),(14,zs3)],[]⟩ [(.x 0,zs9),(.r,⟨[(4,zs3),(5,zs7)],[]⟩)]),(22,.jn [6,7,9,14] [9] [(.n,⟨[(10,zs3)],[]⟩)]),(37,.an (.dr 7 Q7j .done))] func189⟩
def Qer(N:Nat):V:=⟨⟨127,⟨[(0,.s 5000),(1,zs3),(2,zs3)],Jgd⟩,[Mu],u3 (F6 N),[5000]⟩,kF N [Qgr,Qit] [] func127⟩
def Qkq(N:Nat):V:=⟨⟨125,Jml,[⟨Qgd,[(1,Uc)]⟩],u4 (Mh N),[]⟩,kF N [Qko,Pp,Qq0,Q0w] [(4,.rg (.n 2 (.call 0 (.n 2 (.sp 17 5 [1,3,4,6] [4,6] Jnt Hd Je8 .done))))),(13,.jn [1,3,4,6] [4,6] [(.n,Qif)]),(23,.an (.dc 10 [39,40,41,42,43,44,45,46,47,48] [4,6] [] (.b 4 (.c 4 (.a (.a (.k 2 [] [] [] [] (.a (.b 6 (.c 6 (.a (.a (.tl (.n 1 (.br Vl))))))))))))))),(32,.lp [61,62] [4,6,16101] ⟨[(10,Qia),(63,zs3)],[(100200,Uc)]⟩ [(.x 0,⟨[(10,Qlw)],[(100300,Uc)]⟩)]),(43,.rg (.n 14 (.br Q4w)))] func125⟩
def Qm7(N:Nat):V:=⟨⟨77,Jml,[⟨Jmm,[(1,Uc)]⟩],u4 (Pa N),[]⟩,kF N [Qin,Qkq,Qq2,Qer] [(15,.lp [4,6,11,37] [4,6] ⟨[(13,Rx),(14,zs3),(15,zs3),(16,zs3),(17,zs3),(38,zs3)],[(100000,Uc)]⟩ [(.x 0,⟨[(13,Qia),(14,zs3),(15,zs3),(17,zs3)],[(100200,Uc)]⟩)]),(27,.an (.dc 15 [42,43,44,45,46,47,48,49,50,51,41,52,53,19,1000000014] [100000] [4,6] (.c 4 (.b 6 (.c 6 (.a (.b 100000 (.a (.d 100000 100000 (.b 100000 (.c 100000 (.k 2 [] [] [15101] [15101] (.b 15101 (.b 15101 (.a (.e 19 (.g [19] [15101] [] [19,15101] Mt))))))))))))))))),(37,.jn [13,15,16,17,18,19,38] [19,15101,100000] [(.n,⟨[(14,zs3)],[]⟩)]),(43,.an (.dc 13 [61,62,63,64,65,66,67,68,69,60,70,71,21] [19,100000,15101] [] (.b 19 (.d 19 15101 (.a (.b 100000 (.a (.d 100000 100000 (.b 100000 (.c 100000 (.k 3 [] [15101] [] [] Jmn))))))))))),(59,.jn [13,14] [4,6,100200] [(.n,⟨[(17,zs3)],[]⟩)])] func77⟩
def Qkr(N:Nat):V:=⟨⟨50,⟨Qav,[(5000,.var 144 (.ag (sL [Hm,.ag (sL [Qqk,N5,Rz]),V8,Ac,Bg,.ag (sL [Yb,zs3,zs7,Ql2,Qaw,Qlz,Qid]),zs3,Jlm]))),(5001,Uj),(5002,Qas),(5003,Qat),(5004,Wk),(5005,G4),(5006,E9),(5007,Ub),(5008,Uc),(5009,Ur)]⟩,[⟨Qie,[(5000,Jmo),(1,Uj),(2,Qas),(3,Qat),(4,Ub),(5,Uc),(6,Ur)]⟩],u28 (Mi N),[]⟩,kF N [Qm7] [(3,.gh (.fz 5004 (.dt 5000 (.fz 5005 (.dt 5000 Jli))))),(3,.an (.dc 24 [10,11,12,13,14,15,16,17,18,19,20,21,22,23,24,25,26,27,9,28,29,30,3,4] [5000] [] (.b 5000 (.d 5000 5000 (.b 5000 (.c 5000 (.b 5000 (.d 5000 5000 (.b 5000 (.b 5000 (.c 5000 (.b 5000 (.d 5000 5000 (.b 5000 (.c 5000 (.b 5000 (.d 5000 5000 (.b 5000 (.c 5000 (.k 0 [] [] [12701] [12701] (.b 12701 (.b 12701 (.a (.a (.b 12701 Qt6))))))))))))))))))))))))),(18,.lp [0,3,4,35,36] [5000,5001,5002,5003,5004,5005,5006,5007,5008,5009,12701] ⟨[(6,zs3),(37,zs3)],[]⟩ [(.x 0,zs9)]),(26,.jn [37] [] [(.n,zs9)])] func50⟩
def Qwt(N:Nat):V:=⟨⟨48,⟨Qav,[(5000,.var 138 Il),(5001,.var 144 (.ag (sL [Hm,Bh,V8,Ac,Bg,.ag (sL [Yb,zs3,zs7,Ql2,N5,Rz,Qaw]),zs3,Jf4]))),(5002,Wk),(5003,G4),(5004,E9),(5005,Ub),(5006,Uc),(5007,Ur)]⟩,[⟨Qie,[(5001,Jmo),(1,Uj),(2,Qas),(3,Qat),(4,Ub),(5,Uc),(6,Ur)]⟩],u26 (Qf8 N),[5000,5005]⟩,kF N [Qkn,Qkr] [] func48⟩
def Qm8(N:Nat):V:=⟨⟨43,⟨[(0,.f 48 Ql0),(1,.p 5008 [])],[(5000,.var 138 Il),(5001,.var 144 (.ag (sL [Hm,Bh,V8,Ac,Bg,.ag (sL [Yb,zs3,zs7,Ql2,N5,Rz,Qaw]),zs3,Jf4]))),(5002,Wk),(5003,G4),(5004,E9),(5005,Ub),(5006,Uc),(5007,Ur),(5008,Ql1)]⟩,[⟨[],[(5001,.var 144 (.ag (sL [Hm,Q79,V8,Ac,Bg,.ag (sL [Yb,zs3,zs7,Ql2,Jmg,.d (.sl Gn),.d (.sl Y7)]),zs3,Q8a]))),(5008,Ql1),(1,Ub),(2,Uc),(3,Ur)]⟩],u27 (Pb N),[5000]⟩,kF N [Qwt] [(3,.rg (.n 1 Qmm))] func43⟩
def Qks(N:Nat):V:=⟨⟨129,Mu,[Q0i],u2 (Mj N),[]⟩,kF N [R5,Ir] [] func129⟩
def R8(N:Nat):V:=⟨⟨79,Jge,[zs2],u20 (F7 N),[5000,5001,5002,5003]⟩,kF N [Qks] [(3,.an (.dr 10 Jjn Jfn))] func79⟩
def Ag(N:Nat):V:=⟨⟨128,(sD [Ym,Ym]),[zs2],u2 (Xm N),[]⟩,kF N [] [(6,.lp [22] [2,3] ⟨[(23,zs3)],[]⟩ Qr4)] func128⟩
def Qsb(N:Nat):V:=⟨⟨78,(sD [.sl Ym,.i,.i,.i]),[Jgf],u4 (Qce N),[]⟩,kF N [Ag] [(8,.lp [9,16,17] [9] ⟨[(8,Ry),(18,zs3)],[(100000,Q0s)]⟩ [(.x 0,⟨[(8,Qa6)],[(100100,Q0s)]⟩),(.r,⟨[(8,Qkb)],[(100200,Q0s)]⟩)])] func78⟩
def Qq3(N:Nat):V:=⟨⟨82,(sD [J0,.str,.str,Ym,.bool]),[(sD [Rc])],u5 (Iy N),[]⟩,kF N [M4] [(17,.an (.dr 9 (.n 9 .done) Vl))] func82⟩
def Qgs(N:Nat):V:=⟨⟨253,zs2,[zs2],Kp N,[]⟩,kF N [] [] func253⟩
def Qes(N:Nat):V:=⟨⟨254,Qml,[zs2],J9 N,[]⟩,kF N [] [(7,.jn [3] [] [(.n,⟨[(4,zs7)],[]⟩)]),(33,.jn [3] [] [(.n,⟨[(11,zs7)],[]⟩)])] func254⟩
def Qgt(N:Nat):V:=⟨⟨255,(sD [.i,.arr 2 .i]),[Mu],u2 (B9 N),[]⟩,kF N [] [(3,.an (.dr 6 Q0g .done)),(7,.jn [] [3] [(.n,⟨[(8,zs3),(9,zs7)],[]⟩)]),(15,.jn [6,7,8,14] [] [(.n,Jga)]),(23,.jn [6,7,8,14] [] [(.n,⟨[(34,zs7)],[]⟩)]),(31,.jn [6,7,8] [] [(.n,⟨[(44,zs7)],[]⟩)])] func255⟩
def M5(N n:Nat):Con:=⟨228,zs1,[Mu],fun(x0,x1)=>V7 N n x0 x1,[]⟩
theorem Oa(N:Nat):∀n,KO (M5 N n)
 | 0=>⟨Fl fun _=>rfl,Ij func228 rfl⟩
 | n+1=>have ih:=Oa N n; kF N [Qgs,R7,Qes,fun _=>⟨_,ih⟩,Qgt] [(12,.an (.dc 6 [14,15,16,17,18,19] [2] [] (.b 2 (.c 2 (.k 0 [] [] [] [] (.b 2 (.c 2 Qt6))))))),(73,.lp [1,2,46,47] [2] ⟨[(7,Ry),(48,zs3)],[(100000,Q77)]⟩ [(.x 1,⟨[(7,Qa6)],[(100100,Q77)]⟩),(.r,Jfh)])] func228
def Qq4(N:Nat):V:=⟨M5 N N,Oa N N⟩
def Qdg(N:Nat):V:=⟨⟨199,Qqh,[Mu],Gv N,[]⟩,kF N [Qq4] [] func199⟩
def He(N n:Nat):Con:=⟨200,Q0t,[zs5],fun(x0,x1)=>Yg N n x0 x1,[]⟩
theorem Qm9(N n:Nat)(ih:KO (He N n)):KO ⟨229,Jmr,[zs5],fun(x0,c7,ca)=>Uo N (Yg N n) x0 c7 ca,[5000,5001]⟩:=kF N [fun _=>⟨_,ih⟩] [(3,.an (.dr 6 Q0g Qmm))] func229
def Q0x(N:Nat):V:=⟨⟨256,Q0t,[Qml],u2 (Qd3 N),[]⟩,kF N [] [] func256⟩
def Qsc(N:Nat):V:=⟨⟨265,zs2,[Qql],E8 N,[]⟩,kF N [] [] func265⟩
def Qkt(N:Nat):V:=⟨⟨266,(sD [.str,Rc]),[zs2],u2 (Mk N),[]⟩,kF N [] [] func266⟩
def Ah(N n:Nat):Con:=⟨257,Q0t,[Qql],fun(x0,x1)=>Uq N n x0 x1,[]⟩
theorem Qku(N n:Nat)(ih:KO (Ah N n)):KO ⟨267,Jmr,[Qql],fun(x0,c7,ca)=>Xr N (Uq N n) x0 c7 ca,[5000,5001]⟩:=kF N [fun _=>⟨_,ih⟩] [(3,.an (.dc 9 [6,7,8,9,10,11,12,13,14] [] [5000,5001] (.b 5000 (.c 5000 (.a (.a (.a (.c 5001 (.k 0 [] [] [] [] Jk6)))))))))] func267
def Q4x(N:Nat):V:=⟨⟨268,Mu,[Qql],u2 (Qh7 N),[]⟩,kF N [] [] func268⟩
def Qq5(N:Nat):V:=⟨⟨269,Mu,[Qql],u2 (Iz N),[]⟩,kF N [] [] func269⟩
theorem R9(N:Nat):∀n,KO (Ah N n)
 | 0=>⟨Fl fun _=>rfl,Ij func257 rfl⟩
 | n+1=>have ih:=R9 N n; kF N [Qsc,Qkt,fun _=>⟨_,Qku N n ih⟩,Q4x,Qq5] [(22,.rg (.n 1 (.call 2 Jjm))),(24,.rg (.n 1 (.call 2 Jjm))),(40,.jn [2,7] [2,3] [(.n,Qif),(.x 1,Qif),(.x 4,Qif)])] func257
def Qsd(N:Nat):V:=⟨Ah N N,R9 N N⟩
def Qq6(N:Nat):V:=⟨⟨230,Q0t,[Qql],u2 (I0 N),[]⟩,kF N [Qdg,Q0x,Qsd] [(9,.an (.dc 11 [24,25,26,27,28,29,30,31,32,33,34] [2,3] [] (.b 2 (.c 2 (.a (.a (.c 3 (.k 1 [] [] [] [] (.b 2 (.c 2 (.a (.a (.c 3 (.tl (.call 1 Q4w))))))))))))))),(30,.an (.dc 10 [45,46,47,48,49,50,44,51,52,10] [2,3] [] Jms)),(32,.an (.dc 10 [54,55,56,57,58,59,53,60,61,12] [2,3] [] Jms))] func230⟩
theorem M6(N:Nat):∀n,KO (He N n)
 | 0=>⟨Fl fun _=>rfl,Ij func200 rfl⟩
 | n+1=>have ih:=M6 N n; kF N [fun _=>⟨_,Qm9 N n ih⟩,Qq6] [(18,.rg (.n 1 Jfn)),(24,.rg (.n 1 (.call 0 (.n 1 (.sp 24 3 [5] [2,3] ⟨[(27,zs7)],[]⟩ Jgb Jaw Vl))))),(30,.rg (.n 1 (.call 0 (.n 1 (.sp 32 3 [5] [2,3] Jfe Jaw Jgb Vl)))))] func200
def Qna(N:Nat):V:=⟨He N N,M6 N N⟩
def Qwu(N:Nat):V:=⟨⟨134,Q0t,[zs5],u2 (Qf9 N),[]⟩,kF N [Qdg,Qna] [] func134⟩
def Qgu(N:Nat):V:=⟨⟨133,⟨[(0,.d Y7),(1,Gb)],[(5000,Jmq)]⟩,[zs5],u2 (Ca N),[5000]⟩,kF N [Qwu] [] func133⟩
def Qnb(N:Nat):V:=⟨⟨231,Q72,[Mu],u3 (Pd N),[]⟩,kF N [] [(8,.lp [0,1,2] [] ⟨[(8,zs3),(9,zs3),(10,zs3)],[]⟩ [(.x 0,Jmt),(.r,⟨[(6,zs3),(7,zs3)],[]⟩)]),(20,.jn [10] [] [(.n,Jmt)])] func231⟩
def Qkv(N:Nat):V:=⟨⟨232,zs2,[Mu],Mm N,[]⟩,kF N [Ae] [] func232⟩
def Qq7(N:Nat):V:=⟨⟨201,Q72,[Mu],u3 (Tt N),[]⟩,kF N [Ae,Qnb,Qkv] [(13,.jn [0] [] Jf3),(19,.jn [] [] Jf3)] func201⟩
def Qkw(N:Nat):V:=⟨⟨135,Mu,[Mu],u2 (Mp N),[]⟩,kF N [Qq7] [] func135⟩
def Qkx(N:Nat):V:=⟨⟨81,(sD [.sl Y7,Rc,.i]),[⟨Jmm,[(1,Ur)]⟩],u3 (Mq N),[]⟩,kF N [Qgu,Qkw] [(20,.lp [9,24,25] [4] ⟨[(10,Rx),(11,zs3),(26,zs3)],[(100000,Ur)]⟩ [(.x 0,⟨[(10,Qlw),(11,zs3)],[(100300,Ur)]⟩),(.r,⟨[(6,.ns),(7,zs3),(8,zs3)],[]⟩)]),(28,.jn [26] [] [(.n,⟨[(10,Qec),(11,zs3)],[(100100,Ur)]⟩),(.r,⟨[(6,.ns),(7,zs3),(8,zs3)],[]⟩)]),(33,.rg (.n 2 Qmm))] func81⟩
def Qdh(N:Nat):V:=⟨⟨52,Jge,[⟨Qie,[(5000,Jgg),(1,Ub),(2,Uc),(3,Ur)]⟩],u20 (Eu N),[]⟩,kF N [R8,Qsb,Qq0,Qq3,Qkx] [(3,.an (.dc 19 [8,9,10,11,12,13,14,15,16,17,18,19,20,21,22,23,24,25,3] [5000,5001,5002,5003] [] (.b 5000 (.d 5000 5000 (.b 5000 (.b 5000 (.c 5000 (.b 5000 (.d 5000 5000 (.b 5000 (.b 5000 (.c 5000 (.b 5000 (.d 5000 5000 (.b 5000 (.b 5000 (.c 5000 (.b 5000 (.k 0 [] [5000,5001,5002,5003] [] [] (.k 1 [] [] [] [] Q7n)))))))))))))))))))),(5,.an (.dr 15 Jjg (.call 2 Vl))),(7,.an (.dc 34 [43,44,45,46,47,48,49,50,51,52,53,54,55,56,57,58,59,60,61,62,63,64,65,66,67,68,69,70,42,71,72,73,5,6] [5000,3] [] (.b 5000 (.d 5000 5000 (.b 5000 (.b 5000 (.c 5000 (.b 5000 (.d 5000 5000 (.b 5000 (.c 5000 (.b 5000 (.d 5000 5000 (.b 5000 (.b 5000 (.c 5000 (.a (.c 3 (.b 5000 (.d 5000 5000 (.b 5000 (.b 5000 (.c 5000 (.k 3 [] [] [] [] (.b 5000 (.d 5000 5000 (.b 5000 (.b 5000 (.c 5000 (.k 4 [] [] [17001] [17001] (.b 17001 (.b 17001 (.a (.a (.b 17001 Qt6)))))))))))))))))))))))))))))))))))] func52⟩
def Qwv(N:Nat):V:=⟨⟨51,Jmu,[Jmv],u20 (Qga N),[5000]⟩,kF N [Qdh] [] func51⟩
def Qnc(N:Nat):V:=⟨⟨43,⟨[(0,.f 51 Ql0),(1,.p 5005 [])],Jmw⟩,[Jmx],u21 (Pe N),[5000]⟩,kF N [Qwv] [(3,.rg (.n 1 Qmm))] func43⟩
def Qfd(N:Nat):V:=⟨⟨138,Jf7,[zs2],N3 N,[]⟩,kF N [Af] [] func138⟩
def Qq8(N:Nat):V:=⟨⟨139,Ql3,[Ql3],u2 (Tu N),[]⟩,kF N [Af,D2,Z9,Qfd] [] func139⟩
def Qet(N:Nat):V:=⟨⟨137,⟨[(0,.s 5000)],[(5000,Qas)]⟩,[Jl7],F8 N,[5000]⟩,kF N [] [(8,.lp [9,10] [] ⟨[(3,Q70),(11,zs3)],[(100000,Qau)]⟩ [(.x 0,⟨[(3,.m 100200)],[(100200,Qau)]⟩)]),(16,.jn [11] [] [(.n,⟨[(3,Q71)],[(100100,Qau)]⟩)])] func137⟩
def Qse(N:Nat):V:=⟨⟨83,(sD [Zw,.i,.i,.bool]),[⟨[(0,Jax),(1,zs3),(2,zs3)],Jk8⟩],u4 (Qcg N),[]⟩,kF N [D1,Qet,Qfd,Qq8] [] func83⟩
def Qnd(N:Nat):V:=⟨⟨202,zs2,[zs5],Pf N,[]⟩,kF N [] [(6,.lp [0,5] [] zs9 Qqd)] func202⟩
def Iu(N:Nat):V:=⟨⟨141,Jgf,[zs5],Wf N,[]⟩,kF N [Qnd] [(3,.rg (.n 9 (.sp 11 4 [1] [1] ⟨[(15,zs7)],[]⟩ (.nl 2 Qmm) Tw (.n 11 .done))))] func141⟩
def Sa(N:Nat):V:=⟨⟨142,Jgf,[zs5],W8 N,[]⟩,kF N [] [] func142⟩
def Qne(N:Nat):V:=⟨⟨140,(sD [.sl Ym]),[zs5],Pg N,[]⟩,kF N [Iu,Sa,Ag] [(6,.lp [0,5,6] [] Qqc Qqd),(19,.rg (.n 1 (.call 0 (.n 2 (.sp 15 4 [3,4,7] [4] Je7 Tw Q0p Jjn))))),(26,.jn [7] [4] [(.n,Jfa)]),(26,.an (.dc 9 [30,31,32,33,34,35,36,37,38] [] [4] (.a (.a (.a (.so 32 (.a (.a (.a (.a (.a (.c 4 (.tl Jjf))))))) Jpj))))))] func140⟩
def Qnf(N:Nat):V:=⟨⟨143,⟨[(0,Gb),(1,Il)],[(5000,.var 37 Jmp),(5001,Q0s)]⟩,[Mu],u2 (Ph N),[5000,5001]⟩,kF N [Ag] [(6,.lp [0,1,6,7] [] Qh9 Jpp),(35,.an (.dr 6 Q0g .done))] func143⟩
def Qsf(N:Nat):V:=⟨⟨84,(sD [.sl Ym,Ym]),[⟨[(0,Rw),(1,zs3)],[(1,Qat)]⟩],u2 (Qch N),[]⟩,kF N [Qne,Iu,Sa,Qnf] [(4,.rg (.n 1 (.call 0 (.n 2 (.sp 14 4 [2,3] [2,3] Q0d Tw Q0p .done))))),(21,.rg (.n 1 (.call 3 Jjm))),(25,.jn [2,7,8] [2,3] [(.n,⟨[(9,Qa6)],[(100100,Q0s)]⟩)]),(29,.an (.dr 9 (.n 9 .done) Vl)),(30,.an (.dr 9 (.n 9 .done) Vl)),(43,.jn [2,8] [2,3,100100] [(.n,⟨[(10,Qia)],[(100200,Qat)]⟩)])] func84⟩
def Qq9(N:Nat):V:=⟨⟨54,Jge,[⟨Qie,[(5000,.var 144 (.ag (sL [Hm,Q79,V8,Ac,Bg,Quf,zs3,Q8a]))),(1,Ub),(2,Uc),(3,Ur)]⟩],u20 (Tv N),[]⟩,kF N [Qse,R8,Qsf] [(3,.an (.dc 27 [9,10,11,12,13,14,15,16,17,18,19,20,21,22,23,24,25,26,27,28,8,29,30,31,3,1000000025,4] [5000] [] (.b 5000 (.d 5000 5000 (.b 5000 (.c 5000 (.b 5000 (.d 5000 5000 (.b 5000 (.b 5000 (.c 5000 (.b 5000 (.d 5000 5000 (.b 5000 (.b 5000 (.c 5000 (.b 5000 (.d 5000 5000 (.b 5000 (.b 5000 (.c 5000 (.k 0 [] [] [12803,12802,12801] [12801,12802,12803] (.g [] [] [] [12801,12802,12803] (.g [] [] [] [12801,12802,12803] (.a (.a (.e 3 (.g [3] [12801,12802,12803] [] [3,12801,12802,12803] Qt6)))))))))))))))))))))))))))),(5,.gh (.fz 12803 (.dt 3 .done))),(5,.an (.dc 30 [33,34,35,36,37,38,39,40,41,42,43,44,45,46,47,48,49,50,51,52,53,54,55,56,57,58,32,59,60,6] [3,5000,5001,5002,5003] [] (.b 3 (.c 3 (.b 5000 (.d 5000 5000 (.b 5000 (.b 5000 (.c 5000 (.b 5000 (.d 5000 5000 (.b 5000 (.b 5000 (.c 5000 (.b 5000 (.k 1 [] [5000,5001,5002,5003] [] [] (.b 5000 (.d 5000 5000 (.b 5000 (.b 5000 (.c 5000 (.b 5000 (.d 5000 5000 (.b 5000 (.b 5000 (.c 5000 (.a (.k 2 [] [] [15801] [15801] (.b 15801 (.b 15801 (.a (.b 15801 Mt))))))))))))))))))))))))))))))))] func54⟩
def Qww(N:Nat):V:=⟨⟨53,Jmu,[Jmv],u20 (Qgb N),[5000]⟩,kF N [Qq9] [] func53⟩
def Qng(N:Nat):V:=⟨⟨43,⟨[(0,.f 53 Ql0),(1,.p 5005 [])],Jmw⟩,[Jmx],u21 (Pi N),[5000]⟩,kF N [Qww] [(3,.rg (.n 1 Qmm))] func43⟩
def Q4y(N:Nat):V:=⟨⟨28,(sD [Vt,Zw,J0]),[⟨[(0,Q79),(1,Q8a)],[(1,Ub),(2,Uc),(3,Ur)]⟩],u3 (Ms N),[]⟩,kF N [Qwm,Qwo,Qmt,Qm8,Qnc,Qng] [(7,.an (.dc 5 [18,19,20,21,1000000004] [4,5,6] [] (.c 4 (.k 0 [] [] [11903,11902,11901] [11901,11902,11903] (.c 5 (.a (.g [6] [11901,11902,11903] [] [6,11901,11902,11903] Mt))))))),(17,.rg (.n 2 (.call 1 .done))),(19,.rg (.n 2 (.call 2 .done))),(21,.rg (.n 2 (.call 3 .done))),(23,.rg Jf8),(25,.rg (.n 2 (.call 5 .done))),(31,.an (.dc 6 [47,48,49,50,51,1000000005] [4,5,9,6] [] (.c 4 (.k 0 [] [] [14803,14802,14801] [14801,14802,14803] (.c 5 (.c 9 (.a (.g [6] [14801,14802,14803] [] [6,14801,14802,14803] Mt)))))))),(35,.an (.dc 9 [52,53,54,55,56,57,58,59,1000000008] [8,28,6] [] (.d 8 28 (.d 28 28 (.b 28 (.c 28 (.d 8 28 (.d 28 28 (.b 28 (.g [] [28] [] [14401,14402,14403] (.f 6 6 Mt)))))))))))] func28⟩
def Qky(N:Nat):V:=⟨⟨16,(sD [Vt,Zw,.sl J0]),[Jmy],u3 (F9 N),[]⟩,kF N [Qmo,Qmp,Q4y] [(10,.gh (.fz 11501 (.fz 11502 (.fz 11503 .done)))),(10,.lp [3,6,17,18] [3,4,6] ⟨[(8,Ry),(9,Qqg),(19,zs3)],[(100000,.var 39 Q79),(100001,Jgh)]⟩ [(.x 0,⟨[(8,Qa6),(9,Qck)],[(100100,.var 39 Bh),(100101,Jgh)]⟩)]),(25,.rg (.n 2 (.fz 12701 (.fz 12702 (.fz 12703 Q4v)))))] func16⟩
def Qfe(N:Nat):V:=⟨⟨7,Jmz,[Jmy],u2 (W9 N),[]⟩,kF N [Qky] [] func7⟩
def Qkz(N:Nat):V:=⟨⟨15,(sD [.sl Ls]),[Q72],Qci N,[]⟩,kF N [] [(8,.lp [10,11] [] ⟨[(5,zs3),(6,zs3),(7,zs3),(12,zs3)],[]⟩ [(.x 0,⟨[(5,zs3),(6,zs3),(7,zs3)],[]⟩)])] func15⟩
def Qdi(N:Nat):V:=⟨⟨6,(sD []),[zs5],fun _=>U6 N,[]⟩,kF N [T2,Qfe,Qkz] [(13,.an (.dc 10 [14,15,16,17,18,13,19,20,3,1000000009] [1,2] [] (.k 0 [] [] [] [] (.c 1 (.c 2 (.a (.k 1 [] [] [11801] [11801] (.b 11801 (.a (.b 11801 Jlp)))))))))),(16,.rg (.n 10 (.sp 30 7 [3,4] [1,2,3,11801] Jnu Tx Tx (.n 1 (.sp 38 7 [3,4] [1,2,3,11801] ⟨[(45,zs7)],[]⟩ Tx Tx .done))))),(25,.rg (.n 7 (.sp 58 6 [3,4,5,6,7] [1,2,3,11801] ⟨[(64,zs7)],[]⟩ Qr5 Qr5 (.n 1 (.sp 65 9 [3,4,5,6,7] [1,2,3,11801] ⟨[(74,zs7)],[]⟩ Qka Qka (.n 1 (.sp 75 6 [3,4,5,6,7] [1,2,3,11801] ⟨[(81,zs7)],[]⟩ Qr5 Qr5 (.n 1 (.sp 82 9 [3,4,5,6,7] [1,2,3,11801] ⟨[(91,zs7)],[]⟩ Qka Qka (.n 13 (.sp 104 7 [3] [1,2,3,11801] ⟨[(111,zs7)],[]⟩ Tx Tx Vl)))))))))))] func6⟩
def Xo(N n:Nat):Con:=⟨29,Qqh,[Qqh],fun x0=>J2 N n x0,[]⟩
theorem Wl(N:Nat):∀n,KO (Xo N n)
 | 0=>⟨Fl fun _=>rfl,Ij func29 rfl⟩
 | n+1=>have ih:=Wl N n; kF N [fun _=>⟨_,ih⟩] [(8,.lp [1,2] [1,2] ⟨Jgi,[(100000,.var 111 (.ag (sL [zs3,zs3,Yb,Qqg]))),(100001,Q7z)]⟩ [(.x 0,⟨Qt7,[(100100,.var 111 (.ag (sL [zs3,zs3,Yb,Qck]))),(100101,Q7z)]⟩)]),(17,.an (.dc 9 [19,20,21,22,23,24,25,26,27] [100000] [1] (.b 100000 (.d 100000 100001 (.b 1 (.c 1 (.a (.a (.a (.k 0 [] [] [] [] (.a Qqf)))))))))))] func29
def Pq(N:Nat):V:=⟨Xo N N,Wl N N⟩
def M7(N:Nat):V:=⟨⟨17,Q0h,[⟨[(0,Q0o)],Jfz⟩],Z0 N,[]⟩,kF N [Pq] [(8,.lp [1,2] [1,2] ⟨Jgi,Jlr⟩ Jls),(17,.an (.dc 18 [24,25,26,27,28,29,30,31,32,33,34,35,36,37,38,39,40,41] [100000] [1] (.b 100000 (.d 100000 100001 (.b 1 (.c 1 (.a (.a (.a (.a (.e 32 (.b 1 (.c 1 (.a (.a (.a (.a (.g [32] [] [39] [39] (.b 39 (.op ⟨.fz 39 (.nl 1 .done),[39],[],[],[39]⟩ Qqf)))))))))))))))))))),(23,.lp [1,2] [1,2] ⟨[(3,Qkb),(5,zs3)],Jlt⟩ Jlu),(32,.an (.dc 18 [51,52,53,54,55,56,57,58,59,60,61,62,63,64,65,66,67,68] [100200] [1] (.b 100200 (.d 100200 100202 (.b 1 (.c 1 (.a (.a (.a (.a (.e 59 (.b 1 (.c 1 (.a (.a (.a (.a (.g [59] [] [66] [66] (.b 66 (.op ⟨.fz 66 (.nl 1 .done),[66],[],[],[66]⟩ Qqf)))))))))))))))))))),(38,.lp [1,2] [1,2] ⟨[(3,Qua),(6,zs3)],Jlv⟩ Jlx),(51,.rg (.n 3 (.fz 86 Qic))),(57,.lp [1,2] [1,2] ⟨[(3,.p 100600 []),(8,zs3)],Jly⟩ Jl0)] func17⟩
def Pr(N:Nat):V:=⟨⟨8,(sD [Vt]),[⟨[(0,.ag (sL [Rw,Q0e,.s 3,.s 4,.s 5,.s 6]))],[(1,Qqm),(2,Qqn),(3,Qig),(4,Qqo),(5,Hl),(6,Jgj)]⟩],Up N,[]⟩,kF N [M7] [(3,.an (.dc 14 [11,12,13,14,15,16,17,18,19,20,21,22,23,3] [1] [] (.e 11 (.b 1 (.c 1 (.g [11] [] [14] [14] (.e 15 (.b 1 (.c 1 (.g [15] [] [18] [18] (.e 19 (.b 1 (.c 1 (.g [19] [] [22] [22] (.g [] [] [] [14,18,22] Q7n))))))))))))))),(8,.lp [1,2] [1,2] ⟨Jgi,[(100000,.var 29 (.ag (sL [Qqg,Jjl,.ns,Jn5,.s 100004,.ns]))),(100001,Qqm),(100002,Qqn),(100003,Qqo),(100004,Hl)]⟩ [(.x 0,⟨Qt7,[(100100,.var 29 (.ag (sL [Qck,Jfb,.ns,Jfc,.s 100104,.ns]))),(100101,Qqm),(100102,Qqn),(100103,Qqo),(100104,Hl)]⟩)]),(17,.an (.dc 9 [31,32,33,34,35,36,37,38,39] [100000] [1] (.b 100000 (.d 100000 100002 (.b 1 (.c 1 (.a (.a (.a (.k 0 [] [] [13804,13803,13802,13801] [13801,13802,13803,13804] (.op ⟨.fz 13801 (.fz 13802 (.fz 13803 (.fz 13804 (.nl 1 .done)))),[13801,13802,13803,13804],[],[],[13801,13802,13803,13804]⟩ Qqf))))))))))),(23,.lp [1,2] [1,2] ⟨[(3,Qkb),(5,zs3)],[(100200,.var 29 (.ag (sL [Q0f,Jjk,Jn4,.s 100204,.s 100205,.ns]))),(100201,Qqm),(100202,Qqn),(100203,Qig),(100204,Qqo),(100205,Hl)]⟩ [(.x 2,⟨Jlw,[(100500,.var 29 (.ag (sL [Jf0,.s 100502,.s 100503,.s 100504,.s 100505,.ns]))),(100501,Qqm),(100502,Qqn),(100503,Qig),(100504,Qqo),(100505,Hl)]⟩)]),(40,.lp [3,5] [100200,100201,100202,100203,100204,100205] ⟨[(6,Qfc),(7,zs3)],[(100300,.var 80 (.ag (sL [Yb,zs3,zs3,Yb,zs7,Q0n]))),(100301,Qud)]⟩ [(.x 4,⟨[(6,Qua)],[(100400,.var 80 (.ag (sL [Yb,zs3,zs3,Yb,zs7,Q7x]))),(100401,Qud)]⟩)]),(53,.rg (.n 3 (.fz 78 Qic))),(55,.rg (.n 3 (.fz 100401 Qic))),(61,.lp [1,2] [1,2] ⟨[(3,.p 100600 []),(9,zs3)],[(100600,.var 29 (.ag (sL [Jf1,.s 100602,.s 100603,.s 100604,.s 100605,.s 100606]))),(100601,Qqm),(100602,Qqn),(100603,Qig),(100604,Qqo),(100605,Hl),(100606,Jgj)]⟩ [(.x 6,⟨Jlz,[(100700,.var 29 (.ag (sL [Jf2,.s 100702,.s 100703,.s 100704,.s 100705,.s 100706]))),(100701,Qqm),(100702,Qqn),(100703,Qig),(100704,Qqo),(100705,Hl),(100706,Jgj)]⟩)]),(74,.rg (.n 3 (.fz 107 Qic)))] func8⟩
def Qdj(N:Nat):V:=⟨⟨19,zs2,[zs5],U7 N,[]⟩,kF N [] [] func19⟩
def Qdk(N:Nat):V:=⟨⟨10,Jf7,[zs2],Ev N,[]⟩,kF N [Qdj] [(4,.rg (.n 9 (.sp 11 5 [1] [1] ⟨[(16,zs7)],[]⟩ Hd Qlu (.n 1 (.sp 17 5 [1] [1] Jnt Hd Qlu (.n 6 (.sp 28 5 [1] [1] ⟨[(33,zs7)],[]⟩ Hd Qlu Jjg)))))))] func10⟩
def Wm(N:Nat):V:=⟨⟨4,Jmz,[zs5],u2 (Vo N),[]⟩,kF N [Qel,Qdi,Pr,Qfe,Qdk] [(16,.lp [5,6] [2,5,24,12101,12102,12103,12104,12105,12106,12501] Qqc zs8),(26,.rg (.n 5 (.call 4 (.n 2 (.sp 42 8 [7] [] ⟨[(50,zs7)],[]⟩ Qfb Qfb .done))))),(39,.lp [5,6,9] [2,5,24,12101,12102,12103,12104,12105,12106,12501] ⟨[(8,zs3),(10,zs3)],[]⟩ [(.x 2,Qh9),(.r,⟨[(4,zs7)],[]⟩)]),(64,.lp [6,8] [2,5,24,12101,12102,12103,12104,12105,12106,12501] ⟨[(9,zs3),(12,zs3)],[]⟩ [(.x 4,Qif)]),(76,.lp [12] [] ⟨[(9,zs3),(13,zs3)],[]⟩ [(.x 6,Qif)]),(89,.rg (.n 4 (.sp 115 2 [] [2,5,24,12101,12102,12103,12104,12105,12106,12501] ⟨[(117,zs7)],[]⟩ Jfd Qr3 Vl)))] func4⟩
end Gx
