/- The interpreter gives these functions. -/
import Derived.Test.YtfkpgpibpnghiaaGreatXFns
import Derived.Test.YtfkpgpibpnghiaaGreatProg
import Derived.Test.YtfkpgpibpnghiaaGreatXQ2
import Derived.Test.YtfkpgpibpnghiaaGreatXShelf
namespace Gx
open Go Gd Go.Proofs Tryz
set_option linter.unusedVariables false
def HT.a(r:HT):HT:=.op ⟨.nl 1 .done,[],[],[],[]⟩ r
def HT.b(x:Nat)(r:HT):HT:=.op ⟨.nl 1 .done,[],[],[],[x]⟩ r
def HT.c(x:Nat)(r:HT):HT:=.op ⟨.nl 1 .done,[],[x],[],[]⟩ r
def HT.d(x y:Nat)(r:HT):HT:=.op ⟨.nl 1 .done,[],[x],[],[y]⟩ r
def HT.e(x:Nat)(r:HT):HT:=.op ⟨.nl 1 .done,[],[],[x],[x]⟩ r
def HT.f(x y:Nat)(r:HT):HT:=.op ⟨.nl 1 .done,[x],[],[],[y]⟩ r
def HT.g(a b c d:List Nat)(r:HT):HT:=.op ⟨.nl 1 .done,a,b,c,d⟩ r
def HT.k(n:Nat)(a b c d:List Nat)(r:HT):HT:=.op ⟨.call n .done,a,b,c,d⟩ r
def u2{α0 α1 β:Type}(f:α0→α1→β)(p:α0×α1):β:=f p.1 p.2
def u3{α0 α1 α2 β:Type}(f:α0→α1→α2→β)(p:α0×α1×α2):β:=f p.1 p.2.1 p.2.2
def u4{α0 α1 α2 α3 β:Type}(f:α0→α1→α2→α3→β)(p:α0×α1×α2×α3):β:=f p.1 p.2.1 p.2.2.1 p.2.2.2
def u5{α0 α1 α2 α3 α4 β:Type}(f:α0→α1→α2→α3→α4→β)(p:α0×α1×α2×α3×α4):β:=f p.1 p.2.1 p.2.2.1 p.2.2.2.1 p.2.2.2.2
def u7{α0 α1 α2 α3 α4 α5 α6 β:Type}(f:α0→α1→α2→α3→α4→α5→α6→β)(p:α0×α1×α2×α3×α4×α5×α6):β:=f p.1 p.2.1 p.2.2.1 p.2.2.2.1 p.2.2.2.2.1 p.2.2.2.2.2.1 p.2.2.2.2.2.2
def u8{α0 α1 α2 α3 α4 α5 α6 α7 β:Type}(f:α0→α1→α2→α3→α4→α5→α6→α7→β)(p:α0×α1×α2×α3×α4×α5×α6×α7):β:=f p.1 p.2.1 p.2.2.1 p.2.2.2.1 p.2.2.2.2.1 p.2.2.2.2.2.1 p.2.2.2.2.2.2.1 p.2.2.2.2.2.2.2
def u9{α0 α1 α2 α3 α4 α5 α6 α7 α8 β:Type}(f:α0→α1→α2→α3→α4→α5→α6→α7→α8→β)(p:α0×α1×α2×α3×α4×α5×α6×α7×α8):β:=f p.1 p.2.1 p.2.2.1 p.2.2.2.1 p.2.2.2.2.1 p.2.2.2.2.2.1 p.2.2.2.2.2.2.1 p.2.2.2.2.2.2.2.1 p.2.2.2.2.2.2.2.2
def u20{α0 α1 α2 α3 α4 α5 α6 α7 α8 α9 α10 α11 α12 α13 α14 α15 α16 α17 α18 α19 β:Type}(f:α0→α1→α2→α3→α4→α5→α6→α7→α8→α9→α10→α11→α12→α13→α14→α15→α16→α17→α18→α19→β)(p:α0×α1×α2×α3×α4×α5×α6×α7×α8×α9×α10×α11×α12×α13×α14×α15×α16×α17×α18×α19):β:=f p.1 p.2.1 p.2.2.1 p.2.2.2.1 p.2.2.2.2.1 p.2.2.2.2.2.1 p.2.2.2.2.2.2.1 p.2.2.2.2.2.2.2.1 p.2.2.2.2.2.2.2.2.1 p.2.2.2.2.2.2.2.2.2.1 p.2.2.2.2.2.2.2.2.2.2.1 p.2.2.2.2.2.2.2.2.2.2.2.1 p.2.2.2.2.2.2.2.2.2.2.2.2.1 p.2.2.2.2.2.2.2.2.2.2.2.2.2.1 p.2.2.2.2.2.2.2.2.2.2.2.2.2.2.1 p.2.2.2.2.2.2.2.2.2.2.2.2.2.2.2.1 p.2.2.2.2.2.2.2.2.2.2.2.2.2.2.2.2.1 p.2.2.2.2.2.2.2.2.2.2.2.2.2.2.2.2.2.1 p.2.2.2.2.2.2.2.2.2.2.2.2.2.2.2.2.2.2.1 p.2.2.2.2.2.2.2.2.2.2.2.2.2.2.2.2.2.2.2
def u21{α0 α1 α2 α3 α4 α5 α6 α7 α8 α9 α10 α11 α12 α13 α14 α15 α16 α17 α18 α19 α20 β:Type}(f:α0→α1→α2→α3→α4→α5→α6→α7→α8→α9→α10→α11→α12→α13→α14→α15→α16→α17→α18→α19→α20→β)(p:α0×α1×α2×α3×α4×α5×α6×α7×α8×α9×α10×α11×α12×α13×α14×α15×α16×α17×α18×α19×α20):β:=f p.1 p.2.1 p.2.2.1 p.2.2.2.1 p.2.2.2.2.1 p.2.2.2.2.2.1 p.2.2.2.2.2.2.1 p.2.2.2.2.2.2.2.1 p.2.2.2.2.2.2.2.2.1 p.2.2.2.2.2.2.2.2.2.1 p.2.2.2.2.2.2.2.2.2.2.1 p.2.2.2.2.2.2.2.2.2.2.2.1 p.2.2.2.2.2.2.2.2.2.2.2.2.1 p.2.2.2.2.2.2.2.2.2.2.2.2.2.1 p.2.2.2.2.2.2.2.2.2.2.2.2.2.2.1 p.2.2.2.2.2.2.2.2.2.2.2.2.2.2.2.1 p.2.2.2.2.2.2.2.2.2.2.2.2.2.2.2.2.1 p.2.2.2.2.2.2.2.2.2.2.2.2.2.2.2.2.2.1 p.2.2.2.2.2.2.2.2.2.2.2.2.2.2.2.2.2.2.1 p.2.2.2.2.2.2.2.2.2.2.2.2.2.2.2.2.2.2.2.1 p.2.2.2.2.2.2.2.2.2.2.2.2.2.2.2.2.2.2.2.2
def u26{α0 α1 α2 α3 α4 α5 α6 α7 α8 α9 α10 α11 α12 α13 α14 α15 α16 α17 α18 α19 α20 α21 α22 α23 α24 α25 β:Type}(f:α0→α1→α2→α3→α4→α5→α6→α7→α8→α9→α10→α11→α12→α13→α14→α15→α16→α17→α18→α19→α20→α21→α22→α23→α24→α25→β)(p:α0×α1×α2×α3×α4×α5×α6×α7×α8×α9×α10×α11×α12×α13×α14×α15×α16×α17×α18×α19×α20×α21×α22×α23×α24×α25):β:=f p.1 p.2.1 p.2.2.1 p.2.2.2.1 p.2.2.2.2.1 p.2.2.2.2.2.1 p.2.2.2.2.2.2.1 p.2.2.2.2.2.2.2.1 p.2.2.2.2.2.2.2.2.1 p.2.2.2.2.2.2.2.2.2.1 p.2.2.2.2.2.2.2.2.2.2.1 p.2.2.2.2.2.2.2.2.2.2.2.1 p.2.2.2.2.2.2.2.2.2.2.2.2.1 p.2.2.2.2.2.2.2.2.2.2.2.2.2.1 p.2.2.2.2.2.2.2.2.2.2.2.2.2.2.1 p.2.2.2.2.2.2.2.2.2.2.2.2.2.2.2.1 p.2.2.2.2.2.2.2.2.2.2.2.2.2.2.2.2.1 p.2.2.2.2.2.2.2.2.2.2.2.2.2.2.2.2.2.1 p.2.2.2.2.2.2.2.2.2.2.2.2.2.2.2.2.2.2.1 p.2.2.2.2.2.2.2.2.2.2.2.2.2.2.2.2.2.2.2.1 p.2.2.2.2.2.2.2.2.2.2.2.2.2.2.2.2.2.2.2.2.1 p.2.2.2.2.2.2.2.2.2.2.2.2.2.2.2.2.2.2.2.2.2.1 p.2.2.2.2.2.2.2.2.2.2.2.2.2.2.2.2.2.2.2.2.2.2.1 p.2.2.2.2.2.2.2.2.2.2.2.2.2.2.2.2.2.2.2.2.2.2.2.1 p.2.2.2.2.2.2.2.2.2.2.2.2.2.2.2.2.2.2.2.2.2.2.2.2.1 p.2.2.2.2.2.2.2.2.2.2.2.2.2.2.2.2.2.2.2.2.2.2.2.2.2
def u27{α0 α1 α2 α3 α4 α5 α6 α7 α8 α9 α10 α11 α12 α13 α14 α15 α16 α17 α18 α19 α20 α21 α22 α23 α24 α25 α26 β:Type}(f:α0→α1→α2→α3→α4→α5→α6→α7→α8→α9→α10→α11→α12→α13→α14→α15→α16→α17→α18→α19→α20→α21→α22→α23→α24→α25→α26→β)(p:α0×α1×α2×α3×α4×α5×α6×α7×α8×α9×α10×α11×α12×α13×α14×α15×α16×α17×α18×α19×α20×α21×α22×α23×α24×α25×α26):β:=f p.1 p.2.1 p.2.2.1 p.2.2.2.1 p.2.2.2.2.1 p.2.2.2.2.2.1 p.2.2.2.2.2.2.1 p.2.2.2.2.2.2.2.1 p.2.2.2.2.2.2.2.2.1 p.2.2.2.2.2.2.2.2.2.1 p.2.2.2.2.2.2.2.2.2.2.1 p.2.2.2.2.2.2.2.2.2.2.2.1 p.2.2.2.2.2.2.2.2.2.2.2.2.1 p.2.2.2.2.2.2.2.2.2.2.2.2.2.1 p.2.2.2.2.2.2.2.2.2.2.2.2.2.2.1 p.2.2.2.2.2.2.2.2.2.2.2.2.2.2.2.1 p.2.2.2.2.2.2.2.2.2.2.2.2.2.2.2.2.1 p.2.2.2.2.2.2.2.2.2.2.2.2.2.2.2.2.2.1 p.2.2.2.2.2.2.2.2.2.2.2.2.2.2.2.2.2.2.1 p.2.2.2.2.2.2.2.2.2.2.2.2.2.2.2.2.2.2.2.1 p.2.2.2.2.2.2.2.2.2.2.2.2.2.2.2.2.2.2.2.2.1 p.2.2.2.2.2.2.2.2.2.2.2.2.2.2.2.2.2.2.2.2.2.1 p.2.2.2.2.2.2.2.2.2.2.2.2.2.2.2.2.2.2.2.2.2.2.1 p.2.2.2.2.2.2.2.2.2.2.2.2.2.2.2.2.2.2.2.2.2.2.2.1 p.2.2.2.2.2.2.2.2.2.2.2.2.2.2.2.2.2.2.2.2.2.2.2.2.1 p.2.2.2.2.2.2.2.2.2.2.2.2.2.2.2.2.2.2.2.2.2.2.2.2.2.1 p.2.2.2.2.2.2.2.2.2.2.2.2.2.2.2.2.2.2.2.2.2.2.2.2.2.2
def u28{α0 α1 α2 α3 α4 α5 α6 α7 α8 α9 α10 α11 α12 α13 α14 α15 α16 α17 α18 α19 α20 α21 α22 α23 α24 α25 α26 α27 β:Type}(f:α0→α1→α2→α3→α4→α5→α6→α7→α8→α9→α10→α11→α12→α13→α14→α15→α16→α17→α18→α19→α20→α21→α22→α23→α24→α25→α26→α27→β)(p:α0×α1×α2×α3×α4×α5×α6×α7×α8×α9×α10×α11×α12×α13×α14×α15×α16×α17×α18×α19×α20×α21×α22×α23×α24×α25×α26×α27):β:=f p.1 p.2.1 p.2.2.1 p.2.2.2.1 p.2.2.2.2.1 p.2.2.2.2.2.1 p.2.2.2.2.2.2.1 p.2.2.2.2.2.2.2.1 p.2.2.2.2.2.2.2.2.1 p.2.2.2.2.2.2.2.2.2.1 p.2.2.2.2.2.2.2.2.2.2.1 p.2.2.2.2.2.2.2.2.2.2.2.1 p.2.2.2.2.2.2.2.2.2.2.2.2.1 p.2.2.2.2.2.2.2.2.2.2.2.2.2.1 p.2.2.2.2.2.2.2.2.2.2.2.2.2.2.1 p.2.2.2.2.2.2.2.2.2.2.2.2.2.2.2.1 p.2.2.2.2.2.2.2.2.2.2.2.2.2.2.2.2.1 p.2.2.2.2.2.2.2.2.2.2.2.2.2.2.2.2.2.1 p.2.2.2.2.2.2.2.2.2.2.2.2.2.2.2.2.2.2.1 p.2.2.2.2.2.2.2.2.2.2.2.2.2.2.2.2.2.2.2.1 p.2.2.2.2.2.2.2.2.2.2.2.2.2.2.2.2.2.2.2.2.1 p.2.2.2.2.2.2.2.2.2.2.2.2.2.2.2.2.2.2.2.2.2.1 p.2.2.2.2.2.2.2.2.2.2.2.2.2.2.2.2.2.2.2.2.2.2.1 p.2.2.2.2.2.2.2.2.2.2.2.2.2.2.2.2.2.2.2.2.2.2.2.1 p.2.2.2.2.2.2.2.2.2.2.2.2.2.2.2.2.2.2.2.2.2.2.2.2.1 p.2.2.2.2.2.2.2.2.2.2.2.2.2.2.2.2.2.2.2.2.2.2.2.2.2.1 p.2.2.2.2.2.2.2.2.2.2.2.2.2.2.2.2.2.2.2.2.2.2.2.2.2.2.1 p.2.2.2.2.2.2.2.2.2.2.2.2.2.2.2.2.2.2.2.2.2.2.2.2.2.2.2
def u35{α0 α1 α2 α3 α4 α5 α6 α7 α8 α9 α10 α11 α12 α13 α14 α15 α16 α17 α18 α19 α20 α21 α22 α23 α24 α25 α26 α27 α28 α29 α30 α31 α32 α33 α34 β:Type}(f:α0→α1→α2→α3→α4→α5→α6→α7→α8→α9→α10→α11→α12→α13→α14→α15→α16→α17→α18→α19→α20→α21→α22→α23→α24→α25→α26→α27→α28→α29→α30→α31→α32→α33→α34→β)(p:α0×α1×α2×α3×α4×α5×α6×α7×α8×α9×α10×α11×α12×α13×α14×α15×α16×α17×α18×α19×α20×α21×α22×α23×α24×α25×α26×α27×α28×α29×α30×α31×α32×α33×α34):β:=f p.1 p.2.1 p.2.2.1 p.2.2.2.1 p.2.2.2.2.1 p.2.2.2.2.2.1 p.2.2.2.2.2.2.1 p.2.2.2.2.2.2.2.1 p.2.2.2.2.2.2.2.2.1 p.2.2.2.2.2.2.2.2.2.1 p.2.2.2.2.2.2.2.2.2.2.1 p.2.2.2.2.2.2.2.2.2.2.2.1 p.2.2.2.2.2.2.2.2.2.2.2.2.1 p.2.2.2.2.2.2.2.2.2.2.2.2.2.1 p.2.2.2.2.2.2.2.2.2.2.2.2.2.2.1 p.2.2.2.2.2.2.2.2.2.2.2.2.2.2.2.1 p.2.2.2.2.2.2.2.2.2.2.2.2.2.2.2.2.1 p.2.2.2.2.2.2.2.2.2.2.2.2.2.2.2.2.2.1 p.2.2.2.2.2.2.2.2.2.2.2.2.2.2.2.2.2.2.1 p.2.2.2.2.2.2.2.2.2.2.2.2.2.2.2.2.2.2.2.1 p.2.2.2.2.2.2.2.2.2.2.2.2.2.2.2.2.2.2.2.2.1 p.2.2.2.2.2.2.2.2.2.2.2.2.2.2.2.2.2.2.2.2.2.1 p.2.2.2.2.2.2.2.2.2.2.2.2.2.2.2.2.2.2.2.2.2.2.1 p.2.2.2.2.2.2.2.2.2.2.2.2.2.2.2.2.2.2.2.2.2.2.2.1 p.2.2.2.2.2.2.2.2.2.2.2.2.2.2.2.2.2.2.2.2.2.2.2.2.1 p.2.2.2.2.2.2.2.2.2.2.2.2.2.2.2.2.2.2.2.2.2.2.2.2.2.1 p.2.2.2.2.2.2.2.2.2.2.2.2.2.2.2.2.2.2.2.2.2.2.2.2.2.2.1 p.2.2.2.2.2.2.2.2.2.2.2.2.2.2.2.2.2.2.2.2.2.2.2.2.2.2.2.1 p.2.2.2.2.2.2.2.2.2.2.2.2.2.2.2.2.2.2.2.2.2.2.2.2.2.2.2.2.1 p.2.2.2.2.2.2.2.2.2.2.2.2.2.2.2.2.2.2.2.2.2.2.2.2.2.2.2.2.2.1 p.2.2.2.2.2.2.2.2.2.2.2.2.2.2.2.2.2.2.2.2.2.2.2.2.2.2.2.2.2.2.1 p.2.2.2.2.2.2.2.2.2.2.2.2.2.2.2.2.2.2.2.2.2.2.2.2.2.2.2.2.2.2.2.1 p.2.2.2.2.2.2.2.2.2.2.2.2.2.2.2.2.2.2.2.2.2.2.2.2.2.2.2.2.2.2.2.2.1 p.2.2.2.2.2.2.2.2.2.2.2.2.2.2.2.2.2.2.2.2.2.2.2.2.2.2.2.2.2.2.2.2.2.1 p.2.2.2.2.2.2.2.2.2.2.2.2.2.2.2.2.2.2.2.2.2.2.2.2.2.2.2.2.2.2.2.2.2.2
def u36{α0 α1 α2 α3 α4 α5 α6 α7 α8 α9 α10 α11 α12 α13 α14 α15 α16 α17 α18 α19 α20 α21 α22 α23 α24 α25 α26 α27 α28 α29 α30 α31 α32 α33 α34 α35 β:Type}(f:α0→α1→α2→α3→α4→α5→α6→α7→α8→α9→α10→α11→α12→α13→α14→α15→α16→α17→α18→α19→α20→α21→α22→α23→α24→α25→α26→α27→α28→α29→α30→α31→α32→α33→α34→α35→β)(p:α0×α1×α2×α3×α4×α5×α6×α7×α8×α9×α10×α11×α12×α13×α14×α15×α16×α17×α18×α19×α20×α21×α22×α23×α24×α25×α26×α27×α28×α29×α30×α31×α32×α33×α34×α35):β:=f p.1 p.2.1 p.2.2.1 p.2.2.2.1 p.2.2.2.2.1 p.2.2.2.2.2.1 p.2.2.2.2.2.2.1 p.2.2.2.2.2.2.2.1 p.2.2.2.2.2.2.2.2.1 p.2.2.2.2.2.2.2.2.2.1 p.2.2.2.2.2.2.2.2.2.2.1 p.2.2.2.2.2.2.2.2.2.2.2.1 p.2.2.2.2.2.2.2.2.2.2.2.2.1 p.2.2.2.2.2.2.2.2.2.2.2.2.2.1 p.2.2.2.2.2.2.2.2.2.2.2.2.2.2.1 p.2.2.2.2.2.2.2.2.2.2.2.2.2.2.2.1 p.2.2.2.2.2.2.2.2.2.2.2.2.2.2.2.2.1 p.2.2.2.2.2.2.2.2.2.2.2.2.2.2.2.2.2.1 p.2.2.2.2.2.2.2.2.2.2.2.2.2.2.2.2.2.2.1 p.2.2.2.2.2.2.2.2.2.2.2.2.2.2.2.2.2.2.2.1 p.2.2.2.2.2.2.2.2.2.2.2.2.2.2.2.2.2.2.2.2.1 p.2.2.2.2.2.2.2.2.2.2.2.2.2.2.2.2.2.2.2.2.2.1 p.2.2.2.2.2.2.2.2.2.2.2.2.2.2.2.2.2.2.2.2.2.2.1 p.2.2.2.2.2.2.2.2.2.2.2.2.2.2.2.2.2.2.2.2.2.2.2.1 p.2.2.2.2.2.2.2.2.2.2.2.2.2.2.2.2.2.2.2.2.2.2.2.2.1 p.2.2.2.2.2.2.2.2.2.2.2.2.2.2.2.2.2.2.2.2.2.2.2.2.2.1 p.2.2.2.2.2.2.2.2.2.2.2.2.2.2.2.2.2.2.2.2.2.2.2.2.2.2.1 p.2.2.2.2.2.2.2.2.2.2.2.2.2.2.2.2.2.2.2.2.2.2.2.2.2.2.2.1 p.2.2.2.2.2.2.2.2.2.2.2.2.2.2.2.2.2.2.2.2.2.2.2.2.2.2.2.2.1 p.2.2.2.2.2.2.2.2.2.2.2.2.2.2.2.2.2.2.2.2.2.2.2.2.2.2.2.2.2.1 p.2.2.2.2.2.2.2.2.2.2.2.2.2.2.2.2.2.2.2.2.2.2.2.2.2.2.2.2.2.2.1 p.2.2.2.2.2.2.2.2.2.2.2.2.2.2.2.2.2.2.2.2.2.2.2.2.2.2.2.2.2.2.2.1 p.2.2.2.2.2.2.2.2.2.2.2.2.2.2.2.2.2.2.2.2.2.2.2.2.2.2.2.2.2.2.2.2.1 p.2.2.2.2.2.2.2.2.2.2.2.2.2.2.2.2.2.2.2.2.2.2.2.2.2.2.2.2.2.2.2.2.2.1 p.2.2.2.2.2.2.2.2.2.2.2.2.2.2.2.2.2.2.2.2.2.2.2.2.2.2.2.2.2.2.2.2.2.2.1 p.2.2.2.2.2.2.2.2.2.2.2.2.2.2.2.2.2.2.2.2.2.2.2.2.2.2.2.2.2.2.2.2.2.2.2
def tab:Tab:=[
 ⟨1,.func ⟨[]⟩ ⟨[]⟩ false,.nilFunc,1,8⟩,
 ⟨2,.int .i64,.int .i64 0,1,8⟩,
 ⟨3,.int .i64,.int .i64 0,1,8⟩,
 ⟨4,.bool,.bool false,1,1⟩,
 ⟨5,.int .u8,.int .u8 0,1,1⟩,
 ⟨6,.int .u8,.int .u8 0,1,1⟩,
 ⟨9,.string,Yo [],1,16⟩,
 ⟨22,.slice 104,.slice none 0 0,1,24⟩,
 ⟨23,.slice 76,.slice none 0 0,1,24⟩,
 ⟨24,.slice 80,.slice none 0 0,1,24⟩,
 ⟨25,.slice 128,.slice none 0 0,1,24⟩,
 ⟨26,.slice 3,.slice none 0 0,1,24⟩,
 ⟨27,.slice 85,.slice none 0 0,1,24⟩,
 ⟨29,.struct ⟨[⟨"Events",22,0,false, "", "",0⟩,⟨"Tariffs",23,1,false, "", "",24⟩,⟨"Products",24,2,false, "", "",48⟩,⟨"Taxes",25,3,false, "", "",72⟩,⟨"Holidays",26,4,false, "", "",96⟩,⟨"Agreements",27,5,false, "", "",120⟩]⟩,.agg ⟨[.slice none 0 0,.slice none 0 0,.slice none 0 0,.slice none 0 0,.slice none 0 0,.slice none 0 0]⟩,6,144⟩,
 ⟨30,.slice 34,.slice none 0 0,1,24⟩,
 ⟨34,.struct ⟨[⟨"Id",3,0,false, "", "",0⟩,⟨"Kind",3,1,false, "", "",8⟩,⟨"Account",3,2,false, "", "",16⟩,⟨"Sub",3,3,false, "", "",24⟩,⟨"A",9,4,false, "", "",32⟩,⟨"B",9,5,false, "", "",48⟩,⟨"Start",3,6,false, "", "",64⟩,⟨"Units",3,7,false, "", "",72⟩,⟨"Trunk",3,8,false, "", "",80⟩,⟨"Inbound",4,9,false, "", "",88⟩,⟨"Source",3,10,false, "", "",96⟩,⟨"Serial",3,11,false, "", "",104⟩]⟩,.agg ⟨[.int .i64 0,.int .i64 0,.int .i64 0,.int .i64 0,Yo [],Yo [],.int .i64 0,.int .i64 0,.int .i64 0,.bool false,.int .i64 0,.int .i64 0]⟩,12,112⟩,
 ⟨35,.slice 58,.slice none 0 0,1,24⟩,
 ⟨36,.slice 53,.slice none 0 0,1,24⟩,
 ⟨37,.slice 177,.slice none 0 0,1,24⟩,
 ⟨39,.struct ⟨[⟨"Buckets",35,0,false, "", "",0⟩,⟨"Wallets",36,1,false, "", "",24⟩,⟨"Counters",37,2,false, "", "",48⟩]⟩,.agg ⟨[.slice none 0 0,.slice none 0 0,.slice none 0 0]⟩,3,72⟩,
 ⟨40,.slice 49,.slice none 0 0,1,24⟩,
 ⟨44,.int .i64,.int .i64 0,1,8⟩,
 ⟨45,.slice 60,.slice none 0 0,1,24⟩,
 ⟨46,.slice 69,.slice none 0 0,1,24⟩,
 ⟨47,.slice 116,.slice none 0 0,1,24⟩,
 ⟨49,.struct ⟨[⟨"Usage",34,0,false, "", "",0⟩,⟨"Err",44,12,false, "", "",112⟩,⟨"Plan",9,13,false, "", "",120⟩,⟨"Version",3,14,false, "", "",136⟩,⟨"Zone",9,15,false, "", "",144⟩,⟨"Takes",45,16,false, "", "",160⟩,⟨"Segments",46,17,false, "", "",184⟩,⟨"Setup",3,18,false, "", "",208⟩,⟨"Gross",3,19,false, "", "",216⟩,⟨"Net",3,20,false, "", "",224⟩,⟨"Given",47,21,false, "", "",232⟩,⟨"Paid",3,22,false, "", "",256⟩,⟨"Owed",3,23,false, "", "",264⟩]⟩,.agg ⟨[.int .i64 0,.int .i64 0,.int .i64 0,.int .i64 0,Yo [],Yo [],.int .i64 0,.int .i64 0,.int .i64 0,.bool false,.int .i64 0,.int .i64 0,.int .i64 0,Yo [],.int .i64 0,Yo [],.slice none 0 0,.slice none 0 0,.int .i64 0,.int .i64 0,.int .i64 0,.slice none 0 0,.int .i64 0,.int .i64 0]⟩,24,272⟩,
 ⟨53,.struct ⟨[⟨"Account",3,0,false, "", "",0⟩,⟨"Balance",3,1,false, "", "",8⟩,⟨"Floor",3,2,false, "", "",16⟩,⟨"Held",3,3,false, "", "",24⟩,⟨"Until",3,4,false, "", "",32⟩]⟩,.agg ⟨[.int .i64 0,.int .i64 0,.int .i64 0,.int .i64 0,.int .i64 0]⟩,5,40⟩,
 ⟨54,.slice 9,.slice none 0 0,1,24⟩,
 ⟨56,.struct ⟨[⟨"From",3,0,false, "", "",0⟩,⟨"To",3,1,false, "", "",8⟩]⟩,.agg ⟨[.int .i64 0,.int .i64 0]⟩,2,16⟩,
 ⟨58,.struct ⟨[⟨"Account",3,0,false, "", "",0⟩,⟨"Sub",3,1,false, "", "",8⟩,⟨"Product",9,2,false, "", "",16⟩,⟨"Index",3,3,false, "", "",32⟩,⟨"Kind",3,4,false, "", "",40⟩,⟨"Zones",54,5,false, "", "",48⟩,⟨"Valid",56,6,false, "", "",72⟩,⟨"Units",3,8,false, "", "",88⟩,⟨"Left",3,9,false, "", "",96⟩,⟨"Priority",3,10,false, "", "",104⟩,⟨"Shared",4,11,false, "", "",112⟩]⟩,.agg ⟨[.int .i64 0,.int .i64 0,Yo [],.int .i64 0,.int .i64 0,.slice none 0 0,.int .i64 0,.int .i64 0,.int .i64 0,.int .i64 0,.int .i64 0,.bool false]⟩,12,120⟩,
 ⟨60,.struct ⟨[⟨"Sub",3,0,false, "", "",0⟩,⟨"Product",9,1,false, "", "",8⟩,⟨"Index",3,2,false, "", "",24⟩,⟨"From",3,3,false, "", "",32⟩,⟨"Units",3,4,false, "", "",40⟩]⟩,.agg ⟨[.int .i64 0,Yo [],.int .i64 0,.int .i64 0,.int .i64 0]⟩,5,48⟩,
 ⟨64,.func ⟨[3]⟩ ⟨[4]⟩ false,.nilFunc,1,8⟩,
 ⟨69,.struct ⟨[⟨"Band",9,0,false, "", "",0⟩,⟨"Start",3,1,false, "", "",16⟩,⟨"Units",3,2,false, "", "",24⟩,⟨"Amount",3,3,false, "", "",32⟩]⟩,.agg ⟨[Yo [],.int .i64 0,.int .i64 0,.int .i64 0]⟩,4,40⟩,
 ⟨71,.slice 95,.slice none 0 0,1,24⟩,
 ⟨72,.slice 98,.slice none 0 0,1,24⟩,
 ⟨73,.slice 102,.slice none 0 0,1,24⟩,
 ⟨74,.slice 113,.slice none 0 0,1,24⟩,
 ⟨76,.struct ⟨[⟨"Name",9,0,false, "", "",0⟩,⟨"From",3,1,false, "", "",16⟩,⟨"Split",4,2,false, "", "",24⟩,⟨"Zones",71,3,false, "", "",32⟩,⟨"Bands",72,4,false, "", "",56⟩,⟨"Rates",73,5,false, "", "",80⟩,⟨"Discounts",74,6,false, "", "",104⟩]⟩,.agg ⟨[Yo [],.int .i64 0,.bool false,.slice none 0 0,.slice none 0 0,.slice none 0 0,.slice none 0 0]⟩,7,128⟩,
 ⟨78,.slice 82,.slice none 0 0,1,24⟩,
 ⟨80,.struct ⟨[⟨"Name",9,0,false, "", "",0⟩,⟨"From",3,1,false, "", "",16⟩,⟨"Fee",3,2,false, "", "",24⟩,⟨"Category",9,3,false, "", "",32⟩,⟨"Prorate",4,4,false, "", "",48⟩,⟨"Bundles",78,5,false, "", "",56⟩]⟩,.agg ⟨[Yo [],.int .i64 0,.int .i64 0,Yo [],.bool false,.slice none 0 0]⟩,6,80⟩,
 ⟨82,.struct ⟨[⟨"Kind",3,0,false, "", "",0⟩,⟨"Zones",54,1,false, "", "",8⟩,⟨"Units",3,2,false, "", "",32⟩,⟨"Rollover",3,3,false, "", "",40⟩,⟨"Priority",3,4,false, "", "",48⟩,⟨"Shared",4,5,false, "", "",56⟩]⟩,.agg ⟨[.int .i64 0,.slice none 0 0,.int .i64 0,.int .i64 0,.int .i64 0,.bool false]⟩,6,64⟩,
 ⟨83,.slice 100,.slice none 0 0,1,24⟩,
 ⟨85,.struct ⟨[⟨"Partner",3,0,false, "", "",0⟩,⟨"Kind",3,1,false, "", "",8⟩,⟨"Inbound",4,2,false, "", "",16⟩,⟨"Valid",56,3,false, "", "",24⟩,⟨"Steps",83,5,false, "", "",40⟩,⟨"Cap",3,6,false, "", "",64⟩]⟩,.agg ⟨[.int .i64 0,.int .i64 0,.bool false,.int .i64 0,.int .i64 0,.slice none 0 0,.int .i64 0]⟩,7,72⟩,
 ⟨95,.struct ⟨[⟨"Name",9,0,false, "", "",0⟩,⟨"Prefixes",54,1,false, "", "",16⟩]⟩,.agg ⟨[Yo [],.slice none 0 0]⟩,2,40⟩,
 ⟨96,.slice 262,.slice none 0 0,1,24⟩,
 ⟨98,.struct ⟨[⟨"Name",9,0,false, "", "",0⟩,⟨"Slots",96,1,false, "", "",16⟩]⟩,.agg ⟨[Yo [],.slice none 0 0]⟩,2,40⟩,
 ⟨100,.struct ⟨[⟨"Upto",3,0,false, "", "",0⟩,⟨"Quantum",3,1,false, "", "",8⟩,⟨"Price",3,2,false, "", "",16⟩]⟩,.agg ⟨[.int .i64 0,.int .i64 0,.int .i64 0]⟩,3,24⟩,
 ⟨102,.struct ⟨[⟨"Kind",3,0,false, "", "",0⟩,⟨"Zone",9,1,false, "", "",8⟩,⟨"Band",9,2,false, "", "",24⟩,⟨"Setup",3,3,false, "", "",40⟩,⟨"Steps",83,4,false, "", "",48⟩]⟩,.agg ⟨[.int .i64 0,Yo [],Yo [],.int .i64 0,.slice none 0 0]⟩,5,72⟩,
 ⟨104,.struct ⟨[⟨"At",3,0,false, "", "",0⟩,⟨"Kind",3,1,false, "", "",8⟩,⟨"Account",3,2,false, "", "",16⟩,⟨"Sub",3,3,false, "", "",24⟩,⟨"Number",9,4,false, "", "",32⟩,⟨"Name",9,5,false, "", "",48⟩,⟨"Value",3,6,false, "", "",64⟩]⟩,.agg ⟨[.int .i64 0,.int .i64 0,.int .i64 0,.int .i64 0,Yo [],Yo [],.int .i64 0]⟩,7,72⟩,
 ⟨109,.slice 111,.slice none 0 0,1,24⟩,
 ⟨111,.struct ⟨[⟨"Op",3,0,false, "", "",0⟩,⟨"Num",3,1,false, "", "",8⟩,⟨"Text",9,2,false, "", "",16⟩,⟨"Args",109,3,false, "", "",32⟩]⟩,.agg ⟨[.int .i64 0,.int .i64 0,Yo [],.slice none 0 0]⟩,4,56⟩,
 ⟨113,.struct ⟨[⟨"Name",9,0,false, "", "",0⟩,⟨"When",111,1,false, "", "",16⟩,⟨"Points",3,5,false, "", "",72⟩]⟩,.agg ⟨[Yo [],.int .i64 0,.int .i64 0,Yo [],.slice none 0 0,.int .i64 0]⟩,6,80⟩,
 ⟨116,.struct ⟨[⟨"Name",9,0,false, "", "",0⟩,⟨"Amount",3,1,false, "", "",16⟩]⟩,.agg ⟨[Yo [],.int .i64 0]⟩,2,24⟩,
 ⟨118,.slice 142,.slice none 0 0,1,24⟩,
 ⟨119,.slice 153,.slice none 0 0,1,24⟩,
 ⟨121,.struct ⟨[⟨"Accounts",118,0,false, "", "",0⟩,⟨"Subs",119,1,false, "", "",24⟩,⟨"Ended",26,2,false, "", "",48⟩]⟩,.agg ⟨[.slice none 0 0,.slice none 0 0,.slice none 0 0]⟩,3,72⟩,
 ⟨128,.struct ⟨[⟨"Category",9,0,false, "", "",0⟩,⟨"From",3,1,false, "", "",16⟩,⟨"Points",3,2,false, "", "",24⟩]⟩,.agg ⟨[Yo [],.int .i64 0,.int .i64 0]⟩,3,32⟩,
 ⟨136,.struct ⟨[⟨"start",3,0,false, "", "billing/history",0⟩,⟨"source",3,1,false, "", "billing/history",8⟩,⟨"serial",3,2,false, "", "billing/history",16⟩,⟨"id",3,3,false, "", "billing/history",24⟩]⟩,.agg ⟨[.int .i64 0,.int .i64 0,.int .i64 0,.int .i64 0]⟩,4,32⟩,
 ⟨138,.pointer 144,.pointer none,1,8⟩,
 ⟨140,.struct ⟨[⟨"Period",56,0,false, "", "",0⟩,⟨"Plan",9,2,false, "", "",16⟩,⟨"Products",54,3,false, "", "",32⟩,⟨"Suspended",4,4,false, "", "",56⟩,⟨"Family",4,5,false, "", "",57⟩]⟩,.agg ⟨[.int .i64 0,.int .i64 0,Yo [],.slice none 0 0,.bool false,.bool false]⟩,6,64⟩,
 ⟨142,.struct ⟨[⟨"Id",3,0,false, "", "",0⟩,⟨"Since",3,1,false, "", "",8⟩,⟨"Anchor",3,2,false, "", "",16⟩,⟨"Prepaid",4,3,false, "", "",24⟩,⟨"Closed",4,4,false, "", "",25⟩,⟨"Subs",26,5,false, "", "",32⟩]⟩,.agg ⟨[.int .i64 0,.int .i64 0,.int .i64 0,.bool false,.bool false,.slice none 0 0]⟩,6,56⟩,
 ⟨144,.struct ⟨[⟨"book",29,0,false, "", "billing/rate",0⟩,⟨"state",39,6,false, "", "billing/rate",144⟩,⟨"u",34,9,false, "", "billing/rate",216⟩,⟨"spell",140,21,false, "", "billing/rate",328⟩,⟨"account",142,27,false, "", "billing/rate",392⟩,⟨"tariff",76,33,false, "", "billing/rate",448⟩,⟨"free",3,40,false, "", "billing/rate",576⟩,⟨"r",49,41,false, "", "billing/rate",584⟩]⟩,.agg ⟨[.slice none 0 0,.slice none 0 0,.slice none 0 0,.slice none 0 0,.slice none 0 0,.slice none 0 0,.slice none 0 0,.slice none 0 0,.slice none 0 0,.int .i64 0,.int .i64 0,.int .i64 0,.int .i64 0,Yo [],Yo [],.int .i64 0,.int .i64 0,.int .i64 0,.bool false,.int .i64 0,.int .i64 0,.int .i64 0,.int .i64 0,Yo [],.slice none 0 0,.bool false,.bool false,.int .i64 0,.int .i64 0,.int .i64 0,.bool false,.bool false,.slice none 0 0,Yo [],.int .i64 0,.bool false,.slice none 0 0,.slice none 0 0,.slice none 0 0,.slice none 0 0,.int .i64 0,.int .i64 0,.int .i64 0,.int .i64 0,.int .i64 0,Yo [],Yo [],.int .i64 0,.int .i64 0,.int .i64 0,.bool false,.int .i64 0,.int .i64 0,.int .i64 0,Yo [],.int .i64 0,Yo [],.slice none 0 0,.slice none 0 0,.int .i64 0,.int .i64 0,.int .i64 0,.slice none 0 0,.int .i64 0,.int .i64 0]⟩,65,856⟩,
 ⟨145,.func ⟨[]⟩ ⟨[44]⟩ false,.nilFunc,1,8⟩,
 ⟨148,.array 5 4,.agg ⟨[.bool false,.bool false,.bool false,.bool false,.bool false]⟩,5,5⟩,
 ⟨153,.struct ⟨[⟨"Id",3,0,false, "", "",0⟩,⟨"Account",3,1,false, "", "",8⟩,⟨"Since",3,2,false, "", "",16⟩,⟨"Plan",9,3,false, "", "",24⟩,⟨"Numbers",54,4,false, "", "",40⟩,⟨"Products",54,5,false, "", "",64⟩,⟨"Suspended",4,6,false, "", "",88⟩,⟨"Family",4,7,false, "", "",89⟩]⟩,.agg ⟨[.int .i64 0,.int .i64 0,.int .i64 0,Yo [],.slice none 0 0,.slice none 0 0,.bool false,.bool false]⟩,8,96⟩,
 ⟨158,.slice 56,.slice none 0 0,1,24⟩,
 ⟨177,.struct ⟨[⟨"Sub",3,0,false, "", "",0⟩,⟨"Kind",3,1,false, "", "",8⟩,⟨"From",3,2,false, "", "",16⟩,⟨"Units",3,3,false, "", "",24⟩,⟨"Spent",3,4,false, "", "",32⟩]⟩,.agg ⟨[.int .i64 0,.int .i64 0,.int .i64 0,.int .i64 0,.int .i64 0]⟩,5,40⟩,
 ⟨184,.struct ⟨[⟨"Kind",3,0,false, "", "",0⟩,⟨"Units",3,1,false, "", "",8⟩,⟨"Weekday",3,2,false, "", "",16⟩,⟨"Minute",3,3,false, "", "",24⟩,⟨"Total",3,4,false, "", "",32⟩,⟨"Spent",3,5,false, "", "",40⟩,⟨"Zone",9,6,false, "", "",48⟩,⟨"Band",9,7,false, "", "",64⟩,⟨"Family",4,8,false, "", "",80⟩]⟩,.agg ⟨[.int .i64 0,.int .i64 0,.int .i64 0,.int .i64 0,.int .i64 0,.int .i64 0,Yo [],Yo [],.bool false]⟩,9,88⟩,
 ⟨202,.slice 140,.slice none 0 0,1,24⟩,
 ⟨206,.struct ⟨[⟨"Accounts",118,0,false, "", "",0⟩,⟨"Subs",119,1,false, "", "",24⟩]⟩,.agg ⟨[.slice none 0 0,.slice none 0 0]⟩,2,48⟩,
 ⟨208,.map 9 9,.map none,1,8⟩,
 ⟨218,.pointer 221,.pointer none,1,8⟩,
 ⟨219,.map 224 4,.map none,1,8⟩,
 ⟨221,.struct ⟨[⟨"list",35,0,false, "", "billing/bundle",0⟩,⟨"has",219,1,false, "", "billing/bundle",24⟩]⟩,.agg ⟨[.slice none 0 0,.map none]⟩,2,32⟩,
 ⟨224,.struct ⟨[⟨"sub",3,0,false, "", "billing/bundle",0⟩,⟨"product",9,1,false, "", "billing/bundle",8⟩,⟨"index",3,2,false, "", "billing/bundle",24⟩,⟨"from",3,3,false, "", "billing/bundle",32⟩]⟩,.agg ⟨[.int .i64 0,Yo [],.int .i64 0,.int .i64 0]⟩,4,40⟩,
 ⟨227,.slice 231,.slice none 0 0,1,24⟩,
 ⟨231,.struct ⟨[⟨"account",3,0,false, "", "billing/bundle",0⟩,⟨"sub",3,1,false, "", "billing/bundle",8⟩,⟨"product",9,2,false, "", "billing/bundle",16⟩,⟨"active",158,3,false, "", "billing/bundle",32⟩]⟩,.agg ⟨[.int .i64 0,.int .i64 0,Yo [],.slice none 0 0]⟩,4,56⟩,
 ⟨232,.slice 235,.slice none 0 0,1,24⟩,
 ⟨235,.struct ⟨[⟨"bucket",58,0,false, "", "billing/bundle",0⟩,⟨"rollover",3,12,false, "", "billing/bundle",120⟩]⟩,.agg ⟨[.int .i64 0,.int .i64 0,Yo [],.int .i64 0,.int .i64 0,.slice none 0 0,.int .i64 0,.int .i64 0,.int .i64 0,.int .i64 0,.int .i64 0,.bool false,.int .i64 0]⟩,13,128⟩,
 ⟨250,.array 2 3,.agg ⟨[.int .i64 0,.int .i64 0]⟩,2,16⟩,
 ⟨253,.map 3 3,.map none,1,8⟩,
 ⟨262,.struct ⟨[⟨"Days",3,0,false, "", "",0⟩,⟨"From",3,1,false, "", "",8⟩,⟨"To",3,2,false, "", "",16⟩]⟩,.agg ⟨[.int .i64 0,.int .i64 0,.int .i64 0]⟩,3,24⟩,
 ⟨266,.slice 269,.slice none 0 0,1,24⟩,
 ⟨269,.struct ⟨[⟨"at",3,0,false, "", "billing/subscribe",0⟩,⟨"s",153,1,false, "", "billing/subscribe",8⟩]⟩,.agg ⟨[.int .i64 0,.int .i64 0,.int .i64 0,.int .i64 0,Yo [],.slice none 0 0,.slice none 0 0,.bool false,.bool false]⟩,9,104⟩,
 ⟨272,.func ⟨[269,269]⟩ ⟨[4]⟩ false,.nilFunc,1,8⟩,
 ⟨273,.func ⟨[269,269]⟩ ⟨[269]⟩ false,.nilFunc,1,8⟩,
 ⟨274,.pointer 327,.pointer none,1,8⟩,
 ⟨284,.func ⟨[95]⟩ ⟨[4]⟩ false,.nilFunc,1,8⟩,
 ⟨288,.map 3 4,.map none,1,8⟩,
 ⟨289,.map 9 288,.map none,1,8⟩,
 ⟨302,.struct ⟨[⟨"sub",3,0,false, "", "billing/bucket",0⟩,⟨"product",9,1,false, "", "billing/bucket",8⟩,⟨"index",3,2,false, "", "billing/bucket",24⟩,⟨"from",3,3,false, "", "billing/bucket",32⟩]⟩,.agg ⟨[.int .i64 0,Yo [],.int .i64 0,.int .i64 0]⟩,4,40⟩,
 ⟨305,.slice 308,.slice none 0 0,1,24⟩,
 ⟨308,.struct ⟨[⟨"Band",9,0,false, "", "",0⟩,⟨"Period",56,1,false, "", "",16⟩]⟩,.agg ⟨[Yo [],.int .i64 0,.int .i64 0]⟩,3,32⟩,
 ⟨311,.array 3 250,.agg ⟨[.int .i64 0,.int .i64 0,.int .i64 0,.int .i64 0,.int .i64 0,.int .i64 0]⟩,6,48⟩,
 ⟨314,.func ⟨[98]⟩ ⟨[4]⟩ false,.nilFunc,1,8⟩,
 ⟨316,.func ⟨[262]⟩ ⟨[4]⟩ false,.nilFunc,1,8⟩,
 ⟨323,.map 3 142,.map none,1,8⟩,
 ⟨324,.map 3 153,.map none,1,8⟩,
 ⟨325,.map 9 3,.map none,1,8⟩,
 ⟨327,.struct ⟨[⟨"accounts",323,0,false, "", "billing/customer",0⟩,⟨"subs",324,1,false, "", "billing/customer",8⟩,⟨"ever",288,2,false, "", "billing/customer",16⟩,⟨"owners",325,3,false, "", "billing/customer",24⟩,⟨"live",253,4,false, "", "billing/customer",32⟩,⟨"opened",26,5,false, "", "billing/customer",40⟩,⟨"added",26,6,false, "", "billing/customer",64⟩]⟩,.agg ⟨[.map none,.map none,.map none,.map none,.map none,.slice none 0 0,.slice none 0 0]⟩,7,88⟩,
 ⟨328,.map 3 26,.map none,1,8⟩,
 ⟨331,.func ⟨[140]⟩ ⟨[4]⟩ false,.nilFunc,1,8⟩,
 ⟨333,.func ⟨[4,4]⟩ ⟨[4]⟩ false,.nilFunc,1,8⟩,
 ⟨335,.func ⟨[80]⟩ ⟨[4]⟩ false,.nilFunc,1,8⟩,
 ⟨340,.struct ⟨[⟨"Year",3,0,false, "", "",0⟩,⟨"Month",3,1,false, "", "",8⟩,⟨"Day",3,2,false, "", "",16⟩]⟩,.agg ⟨[.int .i64 0,.int .i64 0,.int .i64 0]⟩,3,24⟩,
 ⟨347,.array 4 3,.agg ⟨[.int .i64 0,.int .i64 0,.int .i64 0,.int .i64 0]⟩,4,32⟩,
 ⟨350,.func ⟨[56,56]⟩ ⟨[4]⟩ false,.nilFunc,1,8⟩,
 ⟨351,.func ⟨[56,56]⟩ ⟨[56]⟩ false,.nilFunc,1,8⟩,
 ⟨352,.slice 354,.slice none 0 0,1,24⟩,
 ⟨354,.struct ⟨[⟨"at",3,0,false, "", "billing/interval",0⟩,⟨"list",3,1,false, "", "billing/interval",8⟩,⟨"by",3,2,false, "", "billing/interval",16⟩]⟩,.agg ⟨[.int .i64 0,.int .i64 0,.int .i64 0]⟩,3,24⟩,
 ⟨357,.func ⟨[354,354]⟩ ⟨[3]⟩ false,.nilFunc,1,8⟩,
 ⟨369,.array 12 3,.agg ⟨[.int .i64 0,.int .i64 0,.int .i64 0,.int .i64 0,.int .i64 0,.int .i64 0,.int .i64 0,.int .i64 0,.int .i64 0,.int .i64 0,.int .i64 0,.int .i64 0]⟩,12,96⟩]
def tx:TX:=⟨tab,[(1,.ref),(2,(.int .i64)),(3,(.int .i64)),(4,.bool),(5,(.int .u8)),(6,(.int .u8)),(9,.str),(22,(.sl Jy)),(23,(.sl Ye)),(24,(.sl Yv)),(25,(.sl I1)),(26,(.sl (.int .i64))),(27,(.sl Ur)),(29,Ui),(30,(.sl J9)),(34,J9),(35,(.sl Yu)),(36,(.sl V7)),(37,(.sl Yw)),(39,Xe),(40,(.sl Wr)),(44,(.int .i64)),(45,(.sl Qfm)),(46,(.sl M5)),(47,(.sl Qau)),(49,Wr),(53,V7),(54,(.sl .str)),(56,Jf),(58,Yu),(60,Qfm),(64,.ref),(69,M5),(71,(.sl Uz)),(72,(.sl Uh)),(73,(.sl H9)),(74,(.sl Vo)),(76,Ye),(78,(.sl Wk)),(80,Yv),(82,Wk),(83,(.sl H8)),(85,Ur),(95,Uz),(96,(.sl Xx)),(98,Uh),(100,H8),(102,H9),(104,Jy),(109,(.sl Xy)),(111,Xy),(113,Vo),(116,Qau),(118,(.sl Un)),(119,(.sl Vv)),(121,Z8),(128,I1),(136,M6),(138,.ref),(140,D3),(142,Un),(144,Je5),(145,.ref),(148,(.arr 5 .bool)),(153,Vv),(158,(.sl Jf)),(177,Yw),(184,S7),(202,(.sl D3)),(206,Qsh),(208,.ref),(218,.ref),(219,.ref),(221,Qun),(224,Q5),(227,(.sl U6)),(231,U6),(232,(.sl Fl)),(235,Fl),(250,(.arr 2 (.int .i64))),(253,.ref),(262,Xx),(266,(.sl Vw)),(269,Vw),(272,.ref),(273,.ref),(274,.ref),(284,.ref),(288,.ref),(289,.ref),(302,S8),(305,(.sl Qhv)),(308,Qhv),(311,(.arr 3 (.arr 2 (.int .i64)))),(314,.ref),(316,.ref),(323,.ref),(324,.ref),(325,.ref),(327,Qon),(328,.ref),(331,.ref),(333,.ref),(335,.ref),(340,Qfn),(347,(.arr 4 (.int .i64))),(350,.ref),(351,.ref),(352,(.sl Uj)),(354,Uj),(357,.ref),(369,(.arr 12 (.int .i64)))],[]⟩
theorem Jjr:Tryz.prog.follows .mixedOrders=true:=by kernel_rfl
theorem Jjs:Q9 Tryz.prog tab:=by repeat (first | exact trivial | refine⟨⟨⟨by kernel_rfl,by kernel_rfl⟩,by kernel_rfl⟩,?_⟩)
abbrev KO(c:Con):Prop:=Qgv Tryz.prog tx.gl c∧Runs Tryz.prog c.f
abbrev IO(i:It):Prop:=Jeu Tryz.prog tx.gl i∧Runs Tryz.prog i.f
abbrev V:={c // KO c}
def kcs(N:Nat)(L:List (Nat→V)):List Con:=L.map fun k=>(k N).1
theorem Jbi(N:Nat):∀L:List (Nat→V),Q26 Tryz.prog tx.gl (kcs N L)
 | []=>Ju9
 | c::L=>Jtc (c N).2.1 (c N).2.2 (Jbi N L)
def Jbj(fn:Func):Bool:=decide (fn.name ≠ "runtime.NumGoroutine")&&!fn.body.isNone
theorem Ms{f:FuncId}{fn:Func}(hf:Tryz.prog.funcs[f]?=some fn)(h:Jbj fn=true):Runs Tryz.prog f:=by
 simp only[Jbj,QJ,decide_eq_true_eq,JN]at h
 exact⟨fn,hf,h.1,h.2⟩
theorem kF(N:Nat){c:Con}(L:List (Nat→V))(ps:List (Nat×Pc)){fn:Func}(hf:Tryz.prog.funcs[c.f]?=some fn)(hg:Jbj fn=true:=by rfl)(h:∀x,c.fn x=Jiv tx (kcs N L) N fn (Jtf ((kcs N L).map Con.f) ps fn.body) c.ro c.Γ c.Δ x:=by intro x; kernel_rfl):KO c :=
 ⟨Jop (Y:=tx) (N:=N) Jjs Jjr (Jbi N L) hf rfl h,Ms hf hg⟩
def ics(L:List {i // IO i}):List It:=L.map (·.1)
theorem Jqi:∀L:List {i // IO i},∀i∈ics L,Jeu Tryz.prog tx.gl i∧Runs Tryz.prog i.f
 | [],_,h=>by cases h
 | c::L,i,h=>by
  rcases QX.1 h with rfl | h
  ·exact c.2
  ·exact Jqi L i h
theorem kR(N:Nat){c:Con}(L:List (Nat→V))(I:List {i // IO i})(an:AnR){fn:Func}(hf:Tryz.prog.funcs[c.f]?=some fn)(hg:Jbj fn=true)(h:∀x,c.fn x=Jjm tx (kcs N L) N (ics I) fn an c.ro c.Γ c.Δ x):KO c :=
 ⟨Jjn (Y:=tx) (N:=N) (an:=an) Jjs Jjr (Jbi N L) (Jqi I) hf rfl h,Ms hf hg⟩
def Ul:Con:=⟨243,⟨[(0,.s 5000),(1,.f 244 (.nil))],[(5000,.row 354 Uj)]⟩,[⟨[],[(5000,.row 354 Uj)]⟩],Qgy (fun x:Jd=>x.1),[]⟩
theorem Hy:KO Ul:=⟨Qws (c:=Ul) (e:=354) (u:=Uj) rfl (fun x=>x) (fun y=>y) (ev:=[⟨1,[],.f 244 .nil⟩]) (vx:=[.func (.func 244) #[] #[]]) rfl (fun _=>by kernel_rfl) (fun _=>by kernel_rfl) rfl Jbh (fun _ _=>Je2) (fun p w=>AnyF.slices_SortFunc_none { Tryz.sortFunc243 with } p 0 _ w) (fun _ _ h blk cap w hH hb _=>Q3k (u:=Uj) rfl (fun x:Jd=>x.1) Tryz.sortFunc243 isAgg354 sizeOf354 (enters_of func244 (by kernel_rfl) rfl) Tryz.clo244 h blk cap w hH hb),Ms func243 rfl⟩
def Mt:Con:=⟨246,⟨[(0,.s 5000)],[(5000,.row 3 (.int .i64))]⟩,[⟨[],[(5000,.row 3 (.int .i64))]⟩],Qwn,[]⟩
theorem Qh0:KO Mt:=⟨Qws (c:=Mt) (e:=3) (u:=(.int .i64)) rfl (fun x=>x) (fun y=>y) (ev:=[]) (vx:=[]) rfl (fun _=>by kernel_rfl) (fun _=>by kernel_rfl) rfl Jbg (fun _ _=>Je3) (fun p w=>AnyM.slices_Sort_int_none Tryz.sortInts246 p 0 w) (fun _ _ h blk cap w hH hb _=>Q3l Tryz.sortInts246 h blk cap w hH hb),Ms func246 rfl⟩
def Cc:Con:=⟨247,⟨[(0,.s 5000)],[(5000,.row 3 (.int .i64))]⟩,[⟨[(0,.s 0)],[(0,.row 3 (.int .i64))]⟩],S6,[]⟩
theorem Qcn:KO Cc:=⟨Qwt (c:=Cc) (e:=3) (u:=(.int .i64)) rfl (fun x=>x) (fun y=>y) (ev:=[]) (vx:=[]) rfl (fun _=>by kernel_rfl) (fun _=>by kernel_rfl) rfl rfl Jbg (fun _ _=>Qzg) (fun p w=>Any.slices_Compact_int_empty Tryz.compactInts247 p 0 w) (fun _ _ h blk cap w hH hb hc=>Qsg Tryz.compactInts247 h blk cap w hH hb hc),Ms func247 rfl⟩
def Wm:Con:=⟨248,⟨[(0,.s 5000),(1,.f 249 (.nil))],[(5000,.row 3 (.int .i64))]⟩,[⟨[(0,.s 0)],[(0,.row 3 (.int .i64))]⟩],Qwo (fun m=>decide (m≥1440)),[]⟩
theorem L7:KO Wm:=⟨Qwt (c:=Wm) (e:=3) (u:=(.int .i64)) rfl (fun x=>x) (fun y=>y) (ev:=[⟨1,[],.f 249 .nil⟩]) (vx:=[.func (.func 249) #[] #[]]) rfl (fun _=>by kernel_rfl) (fun _=>by kernel_rfl) rfl rfl Jbh (fun _ _=>Je4) (fun p w=>Qum Tryz.deleteFunc248 p w) (fun _ _ h blk cap w hH hb hc=>Q3m Tryz.deleteFunc248 Tryz.zeroValue3 (enters_of func249 (by kernel_rfl) rfl) Tryz.clo249 h blk cap w hH hb hc),Ms func248 rfl⟩
def zs1:Shp:=sD [Xy,.i]
def zs2:Shp:=sD [.i]
def zs3:Sk:=.d .i
def zs4:Shp:=⟨[(5,zs3)],[]⟩
def zs5:Shp:=sD [.bool]
def zs6:Shp:=⟨[],[]⟩
def zs7:Sk:=.d .bool
def zs8:Exs:=[(.x 0,zs6),(.r,⟨[(4,zs7)],[]⟩)]
def zs9:Shp:=⟨[(6,zs3)],[]⟩
def Jtg:Exs:=[(.x 2,zs6),(.r,⟨[(4,zs7)],[]⟩)]
def Qsj:Shp:=⟨[(7,zs3)],[]⟩
def Jth:Exs:=[(.x 4,zs6),(.r,⟨[(4,zs7)],[]⟩)]
def Ql4:Shp:=⟨[(8,zs3)],[]⟩
def Jvf:Exs:=[(.x 6,zs6),(.r,⟨[(4,zs7)],[]⟩)]
def Qoo:Shp:=sD [.str]
def V6:Hn:=.n 1 .done
def Qbd:Hn:=.nl 3 V6
def Qdx:Shp:=⟨[(3,zs3)],[]⟩
def Qsk:Exs:=[(.x 0,zs6),(.r,⟨[(2,zs7)],[]⟩)]
def Jti:Shp:=⟨[(37,zs7)],[]⟩
def Ba:Hn:=.nl 4 V6
def Jor:Shp:=⟨[(49,zs7)],[]⟩
def Jtj:Shp:=⟨[(48,zs7)],[]⟩
def Jtk:Hn:=.nl 5 .done
def Jtl:Shp:=⟨[(55,zs7)],[]⟩
def Jjt:Shp:=⟨[(19,zs7)],[]⟩
def Ql5:Hn:=.nl 8 V6
def Quo:Hn:=.nl 1 V6
def Jos:Hn:=.nl 4 (.n 3 Quo)
def Jot:Hn:=.call 1 Quo
def Jju:Hn:=.nl 2 Jot
def Jou:Hn:=.call 2 Quo
def Jtm:Hn:=.n 15 .done
def Jvg:Hn:=.nl 2 (.call 3 Quo)
def Jov:Shp:=sD [Z8,.i]
def Q8m:Shp:=⟨[(4,zs3)],[]⟩
def Qup:Exs:=[(.x 0,zs6),(.r,Q8m)]
def Jjv:Hn:=.call 0 Quo
def Je6:Hn:=.nl 2 V6
def Jvh:HT:=.a (.a (.a (.a (.a (.a (.tl Je6))))))
def Jvi:HT:=.a Jvh
def Jtn:Shp:=sD [Z8,Jy]
def Jow:Hn:=.nl 3 Jot
def Quq:Hn:=.nl 5 V6
def Jjw:Shp:=⟨[(41,zs7)],[]⟩
def Q3n:Shp:=sD [.sl .str,.str]
def Jvj:Exs:=[(.n,zs6),(.r,Q8m)]
def Jvk:Exs:=[(.n,⟨[(53,zs7)],[]⟩)]
def Tm:Sk:=.s 1
def Qh1:List (Nat×Sk):=[(0,Tm)]
def Qsl:SkO:=.row 9 .str
def Q8n:Shp:=⟨Qh1,[(1,Qsl)]⟩
def Q3o:Shp:=⟨[(18,zs7)],[]⟩
def Qbe:Hn:=.nl 6 V6
def Rz:Sk:=.s 100000
def Qh2:Sk:=.s 100200
def Jox:List (Nat×Sk):=[(5,Qh2)]
def Jto:Exs:=[(.x 0,⟨Jox,[(100200,Qsl)]⟩)]
def Ql6:Sk:=.s 100100
def Jtp:Exs:=[(.n,⟨[(5,Ql6)],[(100100,Qsl)]⟩)]
def Jvl:Shp:=sD [Vv,Jy]
def Tn:Sk:=.p 100000 []
def Yi:Sk:=.d .str
def Jtq:Sk:=.d (.sl .str)
def Jtr:SkO:=.var 153 (.ag (sL [zs3,zs3,zs3,Yi,Jtq,Jtq,zs7,zs7]))
def Q3p:Sk:=.s 2
def Je7:Sk:=.ag (sL [Tm,Q3p,.s 3])
def Q8o:SkO:=.row 142 Un
def Qur:SkO:=.row 153 Vv
def Fd:SkO:=.row 3 .i
def Ov:HT:=.tl V6
def Qco:Sk:=.p 100100 []
def Jts:Sk:=.p 100101 []
def Jjx:Sk:=.s 100102
def Jjy:Sk:=.s 100103
def Ql7:Sk:=.p 100200 []
def Q3q:Sk:=.s 100201
def Joy:Sk:=.s 100202
def Jtt:Sk:=.s 100203
def Q8p:Hn:=.n 3 .done
def Qsm:HT:=.tl Q8p
def Jvm:Exs:=[(.n,⟨[(90,zs7)],[]⟩)]
def Q8q:Hn:=.n 2 .done
def Je8:HT:=.tl Q8q
def Ow:Shp:=sD [.i,.i]
def Qsn:Sk:=.s 100001
def Joz:Sk:=.s 100002
def Jtu:Sk:=.s 100003
def Jtv:Sk:=.ag (sL [Qsn,Joz,Jtu])
def Jvn:Exs:=[(.x 0,zs6),(.r,⟨[(2,zs3),(3,zs3)],[]⟩)]
def Q3r:Hn:=.n 6 .done
def Ql8:Hn:=.call 0 V6
def Jo0:Hn:=.n 5 .done
def Jjz:Hn:=.call 1 V6
def Qop:Exs:=[(.x 0,zs6),(.r,⟨[(2,zs3)],[]⟩)]
def Jtw:Exs:=[(.x 2,zs6),(.r,⟨[(2,zs3)],[]⟩)]
def Jo1:Hn:=.n 10 .done
def Jvo:Shp:=sD [Yv]
def Jo2:Hn:=.nl 13 .done
def Jj0:Shp:=sD [.int .u8]
def Q3s:Hn:=.nl 2 Jjv
def Jj1:Shp:=⟨[(35,zs7)],[]⟩
def Jj2:Exs:=[(.x 0,zs6),(.r,⟨[(6,zs7)],[]⟩)]
def Qj4:Hn:=.n 8 .done
def Jqj:Shp:=sD [.sl Uz]
def Jqk:Shp:=sD [.sl Uh]
def Jql:Shp:=sD [Ye,.str]
def Jqm:Shp:=sD [.sl H8]
def Q3t:Shp:=sD [Ye]
def Qso:Shp:=sD [Xy]
def Qwu:HT:=.a Ov
def Jbk:Hn:=.n 7 .done
def Jqn:Exs:=[(.n,⟨[(42,zs7)],[]⟩)]
def Jj3:List (Nat×SkO):=[(100000,Fd)]
def Jqo:Shp:=⟨[(7,Rz),(8,zs3)],Jj3⟩
def Q3u:List (Nat×Sk):=[(7,Ql6)]
def Jj4:Shp:=⟨[(4,zs3),(5,zs3)],[]⟩
def Q3v:Shp:=sD [Jf]
def Q3w:Shp:=sD [.sl .i,.i]
def Jj5:Shp:=⟨Qh1,[(1,Fd)]⟩
def Qny:Sk:=.s 100400
def Jj6:List (Nat×SkO):=[(100400,Fd)]
def Qj5:Sk:=.s 100300
def Jj7:List (Nat×SkO):=[(100200,Fd)]
def Q3x:Sk:=.s 100500
def Jqp:Shp:=⟨[(0,.d (.sl .i))],[]⟩
def Jqq:Shp:=sD [Jf,.i]
def Ll:SkO:=.row 56 Jf
def Qj6:Shp:=⟨Qh1,[(1,Ll)]⟩
def Jbl:List (Nat×SkO):=[(100000,Ll)]
def Jj8:List (Nat×SkO):=[(100400,Ll)]
def Jqr:HT:=.a (.a Je8)
def Jbm:Shp:=sD [Jf,Jf]
def Jqs:Shp:=sD [Jf,.bool]
def Jqt:Shp:=sD [Ui,.sl J9,.i]
def Qnz:Hn:=.nl 7 V6
def Jj9:Shp:=sD [Xe]
def Ze:SkO:=.row 58 Yu
def Qcb:SkO:=.row 53 V7
def Qcc:SkO:=.row 177 Yw
def Jqu:List (Nat×SkO):=[(1,Ze),(2,Qcb),(3,Qcc)]
def Q3y:Shp:=⟨[(0,Je7)],Jqu⟩
def Jbn:HT:=.e 3 Ov
def Qwv:List (Nat×Sk):=[(3,Qco)]
def Qdy:Sk:=.s 100101
def Qj7:Hn:=.n 4 .done
def Jqv:Shp:=sD [.sl J9]
def Jka:Hn:=.call 0 Q8q
def Jqw:Sk:=.d (.sl J9)
def Q3z:SkO:=.row 34 J9
def Jqx:HT:=.a (.a (.a (.a (.a (.a (.a (.tl Ba)))))))
def Jkb:List (Nat×Sk):=[(5,Rz),(10,zs3)]
def Qg4:Sk:=.p 100300 []
def Jkc:Sk:=.p 100301 []
def Jbo:SkO:=.var 153 (.ag (sL [zs3,zs3,zs3,Yi,.ns,.ns,zs7,zs7]))
def Qww:Shp:=sD [.sl Jy,.i]
def Qn0:SkO:=.row 269 Vw
def Q30:Sk:=.p 100001 []
def Jkd:Sk:=.d Vv
def Jke:SkO:=.var 153 Jkd
def Jkf:Sk:=.p 100201 []
def Jbp:Hn:=.nl 9 V6
def Jqy:Shp:=sD [Vw,Vw]
def Jqz:List (Nat×Sk):=[(7,Rz),(13,zs3)]
def Jq0:HT:=.a (.a (.a (.a (.a (.tl Quo)))))
def Jbq:HT:=.a (.a Jq0)
def Jbr:SkO:=.row 140 D3
def Qdz:Sk:=.d Jf
def Jkg:SkO:=.var 56 Qdz
def Jbs:Shp:=sD [.sl Jy,.i,.i]
def Jq1:SkO:=.var 140 (.ag (sL [Qdz,Yi,.ns,zs7,zs7]))
def Jkh:List (Nat×Sk):=[(6,Ql7),(7,zs7)]
def Cd:Sk:=.d D3
def Q31:SkO:=.map .i Un
def Qn1:SkO:=.map .i .bool
def Qcd:SkO:=.map .i .i
def Jq2:Sk:=.d (.sl Jy)
def P1:SkO:=.var 3 zs3
def Hz:Sk:=.p 5000 []
def Jbt:Sk:=.m 5001
def Qwx:Sk:=.m 5002
def Jbu:Sk:=.m 5003
def Jbv:Sk:=.m 5004
def Jbw:Sk:=.m 5005
def Qj8:Sk:=.s 5006
def Qsp:Sk:=.s 5007
def Jki:List (Nat×SkO):=[(5000,.var 327 (.ag (sL [Jbt,Qwx,Jbu,Jbv,Jbw,Qj8,Qsp]))),(5001,Q31),(5002,.map .i Vv),(5003,Qn1),(5004,.map .str .i),(5005,Qcd),(5006,Fd),(5007,Fd)]
def Jkj:List (Nat×SkO):=[(5004,.map .str .i)]
def Qce:List (Nat×Sk):=[(0,Hz)]
def Jq3:Hn:=.fz 5006 (.dt 5000 .done)
def Jq4:Shp:=⟨[(0,.ag (sL [Tm,Q3p]))],[(1,Q8o),(2,Qur)]⟩
def Jkk:SkO:=.mapC .i (.sl 3 .i)
def Q32:Sk:=.s 100301
def Jkl:Sk:=.s 100302
def Qwy:Sk:=.p 100400 []
def Jbx:Sk:=.s 100401
def Jq5:List (Nat×Sk):=[(6,Tn),(15,zs3)]
def Jq6:SkO:=.var 142 (.ag (sL [zs3,zs3,zs3,zs7,zs7,.ns]))
def Dm:Sk:=.d Un
def Ff:Sk:=.d Ui
def Dn:Sk:=.d Xe
def Ux:Sk:=.d J9
def Qsq:Sk:=.s 5001
def P2:Sk:=.s 5002
def To:Sk:=.s 5003
def Qcf:Sk:=.s 5004
def Qn2:Sk:=.s 5005
def Jq7:Sk:=.ag (sL [Ux,zs3,Yi,zs3,Yi,Qsp,.s 5008,zs3,zs3,zs3,.s 5009,zs3,zs3])
def Do:SkO:=.row 95 Uz
def Hb:SkO:=.row 98 Uh
def Et:SkO:=.row 102 H9
def A6:SkO:=.row 113 Vo
def U4:SkO:=.row 60 Qfm
def U5:SkO:=.row 69 M5
def Zo:SkO:=.row 116 Qau
def Qj9:List (Nat×Sk):=[(0,zs3)]
def Q33:Sk:=.ag (sL [Yi,zs3,zs7,Tm,Q3p,.s 3,.s 4])
def Jq8:Sk:=.ag (sL [Ux,zs3,Yi,zs3,Yi,.s 5,.s 6,zs3,zs3,zs3,.s 7,zs3,zs3])
def Jq9:SkO:=.var 144 (.ag (sL [Ff,Dn,Ux,.ag (sL [Qdz,Yi,Jtq,zs7,zs7]),.ag (sL [zs3,zs3,zs3,zs7,zs7,.d (.sl .i)]),Q33,zs3,Jq8]))
def Jra:HT:=.e 3 (.f 3 3 Ov)
def Mu:Sk:=.p 5001 []
def Qn3:Sk:=sL [Hz]
def Qn4:SkO:=.var 44 zs3
def Jrb:Shp:=sD [.sl Xx]
def Jby:SkO:=.row 100 H8
def Jbz:SkO:=.row 111 Xy
def Jkm:List (Nat×SkO):=[(1,Do),(2,Hb),(3,Et),(4,A6)]
def Jrc:List (Nat×SkO):=[(100000,.var 76 (.ag (sL [Yi,zs3,zs7,Qsn,.ns,.ns,.ns]))),(100001,Do)]
def Jrd:Exs:=[(.x 0,⟨Qwv,[(100100,.var 76 (.ag (sL [Yi,zs3,zs7,Qdy,.ns,.ns,.ns]))),(100101,Do)]⟩)]
def Jre:List (Nat×SkO):=[(100200,.var 76 (.ag (sL [Yi,zs3,zs7,Q3q,Joy,.ns,.ns]))),(100201,Do),(100202,Hb)]
def Jrf:Exs:=[(.x 2,⟨[(3,Qg4)],[(100300,.var 76 (.ag (sL [Yi,zs3,zs7,Q32,Jkl,.ns,.ns]))),(100301,Do),(100302,Hb)]⟩)]
def Jrg:List (Nat×SkO):=[(100400,.var 76 (.ag (sL [Yi,zs3,zs7,Jbx,.s 100402,.s 100403,.ns]))),(100401,Do),(100402,Hb),(100403,Et)]
def Jrh:List (Nat×Sk):=[(3,.p 100500 [])]
def Jkn:Sk:=.s 100501
def Jri:Exs:=[(.x 4,⟨Jrh,[(100500,.var 76 (.ag (sL [Yi,zs3,zs7,Jkn,.s 100502,.s 100503,.ns]))),(100501,Do),(100502,Hb),(100503,Et)]⟩)]
def Jko:Sk:=.s 100601
def Jrj:List (Nat×SkO):=[(100600,.var 76 (.ag (sL [Yi,zs3,zs7,Jko,.s 100602,.s 100603,.s 100604]))),(100601,Do),(100602,Hb),(100603,Et),(100604,A6)]
def Jrk:List (Nat×Sk):=[(3,.p 100700 [])]
def Jkp:Sk:=.s 100701
def Jrl:Exs:=[(.x 6,⟨Jrk,[(100700,.var 76 (.ag (sL [Yi,zs3,zs7,Jkp,.s 100702,.s 100703,.s 100704]))),(100701,Do),(100702,Hb),(100703,Et),(100704,A6)]⟩)]
def Jkq:Exs:=[(.n,Ql4)]
def Jrm:List (Nat×SkO):=[(5000,.var 95 (.d Uz))]
def Qn5:Sk:=.d (.sl Uz)
def Jrn:Shp:=⟨[(0,Qn5),(1,.f 164 Qn3)],Jrm⟩
def Qwz:SkO:=.map .str .str
def Jb0:Sk:=.m 100000
def Jb1:Sk:=.m 100100
def Q34:Hn:=.nl 1 Jot
def Jro:An:=.two (.reg Q8q) .nil
def Jkr:Sk:=.ag (sL [Ux,zs3,Yi,zs3,Yi,Qn2,Qj8,zs3,zs3,zs3,Qsp,zs3,zs3])
def Jrp:Sk:=.ag (sL [Ux,zs3,Yi,zs3,Yi,.s 4,.s 5,zs3,zs3,zs3,.s 6,zs3,zs3])
def Jks:SkO:=.var 144 (.ag (sL [Ff,Dn,Ux,Cd,Dm,.ag (sL [Yi,zs3,zs7,Qn5,Tm,Q3p,.s 3]),zs3,Jrp]))
def Jrq:Shp:=sD [.sl Yu]
def Jrr:HT:=.b 1 (.c 1 Qsm)
def Jkt:Shp:=⟨[(11,zs3)],[]⟩
def Jrs:Shp:=⟨[(0,.m 1)],[(1,Qcd)]⟩
def Jb2:Shp:=sD [.i,.i,.i]
def Qn6:Shp:=sD [V7,.i]
def Q35:SkO:=.var 53 (.d V7)
def Jku:Hn:=.n 2 (.call 4 .done)
def Jb3:Shp:=sD [Yu]
def Jkv:Shp:=⟨[(0,.ag (sL [zs3,zs3,Yi,zs3,zs3,Tm,Qdz,zs3,zs3,zs3,zs7]))],[(1,Qsl)]⟩
def Qsr:Shp:=⟨[(9,zs3)],[]⟩
def Q36:SkO:=.var 9 Yi
def Jb4:Sk:=.d (.sl Jf)
def Jrt:Exs:=[(.x 0,⟨[(7,Qh2)],[(100200,Ll)]⟩)]
def Jru:Exs:=[(.n,⟨Q3u,[(100100,Ll)]⟩)]
def Jb5:SkO:=.row 231 U6
def Qw0:SkO:=.mapC .str (.mp .i .bool)
def Jkw:Shp:=⟨[(25,zs7)],[]⟩
def Jkx:Hn:=.nl 1 Ql8
def Jb6:SkO:=.var 340 (.d Qfn)
def Qn7:SkO:=.row 354 Uj
def Jrv:Shp:=⟨[(0,Jb4),(1,zs3),(2,Hz)],[(5000,.var 352 Qsq),(5001,Qn7)]⟩
def Jrw:Shp:=⟨[],[(5000,.var 352 Tm),(1,Qn7)]⟩
def Jb7:SkO:=.var 250 (.d (.arr 2 .i))
def Jrx:List (Nat×SkO):=[(5000,Q36),(5001,P1)]
def Qka:SkO:=.row 80 Yv
def Qw1:SkO:=.row 82 Wk
def Jb8:SkO:=.row 235 Fl
def Jky:Shp:=sD [Yu,Yu]
def Qcg:SkO:=.map Q5 .bool
def Jry:HT:=.k 0 [] [] [] [] Ov
def Jrz:HT:=.a (.a (.a (.a (.a (.a (.a (.a (.a (.a (.a (.a (.a (.a (.tl Qbd))))))))))))))
def Jr0:List (Nat×SkO):=[(5000,.var 98 (.d Uh))]
def Jr1:Sk:=.d (.sl Uh)
def Jr2:Shp:=⟨[(0,Jr1),(1,.f 194 Qn3)],Jr0⟩
def Jr3:List (Nat×SkO):=[(5000,P1),(5001,P1)]
def Jr4:Shp:=⟨[(0,.d (.sl Xx)),(1,.f 196 (sL [Hz,Mu]))],Jr3⟩
def Qw2:SkO:=.row 308 Qhv
def Jr5:SkO:=.var 102 (.ag (sL [zs3,Yi,Yi,zs3,.ns]))
def Jkz:List (Nat×SkO):=[(5000,Jby)]
def Qss:Shp:=sD [.i,.bool]
def Jr6:Shp:=sD [Ye,.sl .i,J9,.i]
def Jr7:List (Nat×Sk):=[(0,Tm),(1,zs3),(2,zs3)]
def Jr8:HT:=.a (.a (.a Qwu))
def Qw3:Sk:=.d Ye
def Jr9:SkO:=.var 144 (.ag (sL [Ff,Je7,Ux,Cd,Dm,Qw3,zs3,Jrp]))
def Jsa:Sk:=.d (.sl Yw)
def Jb9:Sk:=.ag (sL [.d (.sl Yu),.d (.sl V7),Jsa])
def Jca:Sk:=.ag (sL [Ux,zs3,Yi,zs3,Yi,Tm,Q3p,zs3,zs3,zs3,.s 3,zs3,zs3])
def Jk0:Shp:=⟨Qce,[(5000,.var 144 (.ag (sL [Ff,Dn,Ux,Cd,Dm,Qw3,zs3,.ag (sL [Ux,zs3,Yi,zs3,Yi,Qsq,P2,zs3,zs3,zs3,To,zs3,zs3])]))),(5001,U4),(5002,U5),(5003,Zo)]⟩
def Jk1:Shp:=sD [Yw]
def Q37:SkO:=.var 177 (.d Yw)
def Jsb:SkO:=.var 184 (.d S7)
def Jsc:Shp:=⟨[(0,zs3),(1,Hz),(2,Mu)],[(5000,.var 111 (.d Xy)),(5001,Jsb)]⟩
def Q38:Shp:=sD [Xy,S7]
def Jsd:HT:=.b 2 (.c 2 (.a (.a (.c 3 (.k 2 [] [] [] [] Jr8)))))
def Jse:Shp:=⟨[(8,zs3),(9,zs3)],[]⟩
def Jk2:SkO:=.var 144 (.ag (sL [Ff,Dn,Ux,Cd,Dm,Qw3,zs3,Jca]))
def Jsf:Shp:=⟨Qce,[(5000,.var 138 Mu),(5001,.var 144 (.ag (sL [Ff,Dn,Ux,Cd,Dm,Qw3,zs3,.ag (sL [Ux,zs3,Yi,zs3,Yi,P2,To,zs3,zs3,zs3,Qcf,zs3,zs3])]))),(5002,U4),(5003,U5),(5004,Zo)]⟩
def Jsg:Shp:=⟨Qj9,[(5001,Jk2),(1,U4),(2,U5),(3,Zo)]⟩
def Jsh:List (Nat×SkO):=[(5000,.var 138 Mu),(5001,.var 144 (.ag (sL [Ff,Dn,Ux,Cd,Dm,Qw3,zs3,.ag (sL [Ux,zs3,Yi,zs3,Yi,P2,To,zs3,zs3,zs3,Qcf,zs3,zs3])]))),(5002,U4),(5003,U5),(5004,Zo),(5005,Qn4)]
def Jsi:Shp:=⟨[],[(5001,Jk2),(5005,Qn4),(1,U4),(2,U5),(3,Zo)]⟩
def Qw4:SkO:=.row 49 Wr
def Jsj:Shp:=⟨[(0,Dn),(1,Tm)],[(1,Qw4)]⟩
def Jk3:List (Nat×Sk):=[(3,Tn),(4,zs3)]
def Qst:SkO:=.row 104 Jy
def Qsu:SkO:=.row 76 Ye
def Qsv:SkO:=.row 128 I1
def Jk4:SkO:=.row 85 Ur
def Fg(N n:Nat):Con:=⟨30,zs1,[zs2],fun(x0,x1)=>Ym N n x0 x1,[]⟩
theorem A7(N:Nat):∀n,KO (Fg N n)
 | 0=>⟨Bl fun _=>rfl,Ms func30 rfl⟩
 | n+1=>have ih:=A7 N n; kF N [fun _=>⟨_,ih⟩] [(16,.lp [1,2] [2] ⟨[(5,zs3),(6,zs3)],[]⟩ [(.x 0,zs4)])] func30
def Qd0(N:Nat):V:=⟨Fg N N,A7 N N⟩
def Qd1(N:Nat):V:=⟨⟨20,(sD [Ye,.i]),[zs5],u2 (Fw N),[]⟩,kF N [Qd0] [(14,.lp [1,2] [2] zs4 zs8),(35,.lp [1,2] [2] zs9 Jtg),(56,.lp [1,2] [2] Qsj Jth),(77,.lp [1,2] [2] Ql4 Jvf)] func20⟩
def Mv(N:Nat):V:=⟨⟨56,zs2,[(sD [.arr 5 .bool])],Gu N,[]⟩,kF N [] [(25,.jn [2,3] [2] [(.n,⟨[(13,zs7)],[]⟩)]),(35,.jn [2,3] [2] [(.n,⟨[(17,zs7)],[]⟩)]),(49,.jn [2] [2] [(.n,⟨[(22,zs7)],[]⟩)])] func56⟩
def Qkb(N:Nat):V:=⟨⟨85,zs2,[zs5],Fn N,[]⟩,kF N [] [] func85⟩
def Xq(N:Nat):V:=⟨⟨36,Qoo,[zs5],Vx N,[]⟩,kF N [] [(4,.rg (.n 9 (.sp 12 4 [0] [] ⟨[(16,zs7)],[]⟩ Qbd Qbd (.n 1 (.sp 17 4 [0] [] ⟨[(21,zs7)],[]⟩ Qbd Qbd .done))))),(14,.lp [0] [] Qdx Qsk),(24,.rg (.n 5 (.sp 32 5 [3] [] Jti Ba Ba (.n 1 (.sp 38 11 [3] [] Jor (.nl 5 (.sp 43 5 [3,38] [] Jtj Jtk Jtk V6)) (.nl 10 V6) (.n 1 (.sp 50 5 [3] [] Jtl Ba Ba .done)))))))] func36⟩
def Lm(N:Nat):V:=⟨⟨86,Qoo,[zs5],Ws N,[]⟩,kF N [] [(6,.lp [0] [] Qdx Qsk),(16,.rg (.n 5 (.sp 14 5 [3] [] Jjt Ba Ba .done)))] func86⟩
def Qd2(N:Nat):V:=⟨⟨87,(sD [Jy]),[zs5],Fx N,[]⟩,kF N [] [] func87⟩
def Qf3(N:Nat):V:=⟨⟨55,(sD [Jy,.i]),[zs2],u2 (Bo N),[]⟩,kF N [Mv,Qkb,Xq,Lm,Qd2] [(30,.rg (.n 9 (.sp 37 9 [2,5] [2,5] ⟨[(46,zs7)],[]⟩ Ql5 Jos (.n 1 (.sp 47 9 [2,5] [2,5] ⟨[(56,zs7)],[]⟩ Ql5 Jos (.n 1 (.sp 57 9 [2,5] [2,5] ⟨[(66,zs7)],[]⟩ Ql5 Jos (.n 1 (.sp 67 9 [2,5] [2,5] ⟨[(76,zs7)],[]⟩ Ql5 Jos .done))))))))),(38,.rg (.n 3 (.sp 79 5 [2,5] [2,5] ⟨[(84,zs7)],[]⟩ Jju Ba (.n 1 (.sp 85 9 [2,5] [2,5] ⟨[(94,zs7)],[]⟩ Ql5 (.nl 3 (.sp 88 5 [2,5,85] [] ⟨[(93,zs7)],[]⟩ (.nl 2 (.call 1 (.nl 2 .done))) Jtk V6)) .done))))),(46,.rg (.n 3 (.sp 97 5 [2,5] [2,5] ⟨[(102,zs7)],[]⟩ (.nl 2 Jou) Ba Jtm))),(54,.rg (.n 3 (.sp 120 5 [2,5] [2,5] ⟨[(125,zs7)],[]⟩ Jvg Ba .done))),(62,.rg (.n 3 (.sp 128 4 [2] [2,5] ⟨[(132,zs7)],[]⟩ (.nl 1 (.call 4 Quo)) Qbd .done)))] func55⟩
def Ce(N:Nat):V:=⟨⟨59,Jov,[zs2],u2 (K3 N),[]⟩,kF N [] [(6,.lp [1,2] [2] zs4 Qup)] func59⟩
def Ao(N:Nat):V:=⟨⟨60,Jov,[zs2],u2 (X4 N),[]⟩,kF N [] [(6,.lp [1,2] [2] zs4 Qup)] func60⟩
def Ln(N:Nat):V:=⟨⟨89,Jov,[zs5],u2 (Wt N),[]⟩,kF N [] [(6,.lp [1,2] [2] zs4 zs8)] func89⟩
def Qf4(N:Nat):V:=⟨⟨88,Jov,[zs5],u2 (Bp N),[]⟩,kF N [Ln] [(6,.lp [1,2] [2] zs4 zs8),(16,.jn [5] [] [(.n,⟨[(31,zs7)],[]⟩)]),(16,.an (.dc 16 [13,14,15,16,17,18,19,20,21,22,23,24,25,26,27,28] [] [2] (.b 2 (.c 2 (.a (.a (.a (.a (.a (.a (.a (.so 21 (.c 2 (.b 2 (.c 2 (.a (.a (.a (.a (.tl Jjv)))))))) Jvi))))))))))))] func88⟩
def R0(N:Nat):V:=⟨⟨57,Jtn,[zs2],u2 (Wu N),[]⟩,kF N [Ce,Ao,Qf4] [(38,.rg (.n 4 (.sp 26 6 [2,3,5] [2,3] ⟨[(32,zs7)],[]⟩ Jow Quq .done))),(46,.rg (.n 4 (.sp 36 5 [2,3,5] [2,3] Jjw (.nl 3 (.call 2 V6)) Ba (.n 1 (.sp 42 13 [2,3,5] [2,3] Jtl (.nl 12 V6) (.nl 4 (.sp 46 8 [2,5,42] [] ⟨[(54,zs7)],[]⟩ (.nl 8 .done) (.nl 8 .done) V6)) .done)))))] func57⟩
def Oy(N:Nat):V:=⟨⟨91,Q3n,[zs5],u2 (Zq N),[]⟩,kF N [] [(6,.lp [0,1] [] zs4 zs8)] func91⟩
def Qd3(N:Nat):V:=⟨⟨90,(sD [Z8,.str]),[zs5],u2 (Fy N),[]⟩,kF N [Oy] [(6,.lp [1,2] [2] zs4 zs8)] func90⟩
def Qd4(N:Nat):V:=⟨⟨58,Jtn,[zs2],u2 (Fz N),[]⟩,kF N [Ao,Ln,Qd3,Oy] [(23,.jn [] [2,3,6] Jvj),(67,.jn [3,6,23] [] Jvk),(81,.jn [3,6] [] [(.n,⟨[(62,zs7)],[]⟩)])] func58⟩
def Qd5(N:Nat):V:=⟨⟨31,(sD [Z8,Jy,.i]),[zs2],u3 (F0 N),[]⟩,kF N [Qf3,Mv,R0,Qd4] [] func31⟩
def Qf5(N:Nat):V:=⟨⟨92,Q3n,[Q8n],u2 (Gv N),[]⟩,kF N [] [(6,.lp [0,1] [] zs4 [(.x 0,zs4)]),(9,.rg (.n 5 (.sp 11 7 [5] [] Q3o Qbe Qbe .done)))] func92⟩
def Qbf(N:Nat):V:=⟨⟨93,Q3n,[Q8n],u2 (K4 N),[]⟩,kF N [] [(8,.lp [0,1] [] ⟨[(5,Rz),(6,zs3)],[(100000,Qsl)]⟩ Jto),(16,.jn [6] [] Jtp)] func93⟩
def Qbg(N:Nat):V:=⟨⟨61,Jvl,[(sD [Vv])],u2 (Hl N),[]⟩,kF N [Qf5,Qbf] [(3,.jn [4] [3,4] [(.n,⟨[(2,Tn)],[(100000,Jtr)]⟩)])] func61⟩
def Qd6(N:Nat):V:=⟨⟨32,Jtn,[⟨[(0,Je7)],[(1,Q8o),(2,Qur),(3,Fd)]⟩],u2 (F2 N),[]⟩,kF N [Ce,Ao,Qbg] [(3,.an (.dc 14 [7,8,9,10,11,12,13,14,15,16,17,18,19,5] [2] [] (.e 7 (.b 2 (.c 2 (.g [7] [] [10] [10] (.e 11 (.b 2 (.c 2 (.g [11] [] [14] [14] (.e 15 (.b 2 (.c 2 (.g [15] [] [18] [18] (.g [] [] [] [10,14,18] (.e 5 Ov)))))))))))))))),(5,.jn [] [2,3] [(.n,⟨[(4,Qco),(5,Jts)],[(100100,.var 121 (.ag (sL [.ns,.ns,.ns]))),(100101,.var 121 (.ag (sL [Jjx,Jjy,.s 100104]))),(100102,Q8o),(100103,Qur),(100104,Fd)]⟩),(.r,⟨[(4,Ql7)],[(100200,.var 121 (.ag (sL [Q3q,Joy,Jtt]))),(100201,Q8o),(100202,Qur),(100203,Fd)]⟩)]),(15,.an (.dc 6 [66,67,68,69,70,71] [5] [2,3] (.b 5 (.d 5 10 (.c 2 (.b 3 (.c 3 (.k 0 [] [] [] [] Qsm)))))))),(21,.jn [2,3,4,5] [4,5,10,14,18] Jvm),(33,.an (.dc 10 [26,27,28,29,30,31,32,33,34,35] [5,14] [3] (.b 5 (.d 5 14 (.a (.b 5 (.d 5 14 (.a (.d 14 14 (.c 14 (.c 3 (.k 2 [] [] [] [] Je8))))))))))))] func32⟩
def Qd7(N:Nat):V:=⟨⟨21,(sD [.sl Jy]),[Ow],F3 N,[]⟩,kF N [Qd5,Qd6] [(18,.lp [0] [] ⟨[(4,Tn),(5,zs3),(6,zs3)],[(100000,.var 121 Jtv),(100001,Q8o),(100002,Qur),(100003,Fd)]⟩ Jvn),(28,.an (.dr 6 Q3r Ql8)),(38,.an (.dr 5 Jo0 Jjz))] func21⟩
def Qd8(N:Nat):V:=⟨⟨94,(sD [.sl .str]),[zs2],F4 N,[]⟩,kF N [Xq] [(14,.lp [0] [] Qdx Qop),(35,.lp [0] [] Q8m Jtw),(45,.an (.dr 10 Jo1 .done))] func94⟩
def Qcp(N:Nat):V:=⟨⟨62,(sD [Wk]),[zs2],Ew N,[]⟩,kF N [Qd8] [] func62⟩
def Qh3(N:Nat):V:=⟨⟨33,Jvo,[zs2],D4 N,[]⟩,kF N [Xq,Qcp] [(46,.lp [1] [1] Qdx Qop)] func33⟩
def Qd9(N:Nat):V:=⟨⟨22,(sD [.sl Yv]),[zs2],F5 N,[]⟩,kF N [Qh3] [(14,.lp [0] [] Qdx Qop),(34,.an (.dr 44 (.n 3 (.sp 24 41 [3] [] ⟨[(65,zs7)],[]⟩ (.nl 13 (.sp 37 27 [3,24] [] ⟨[(64,zs7)],[]⟩ (.nl 27 .done) (.nl 13 (.sp 50 13 [3,24,37] [] ⟨[(63,zs7)],[]⟩ Jo2 Jo2 (.nl 1 .done))) V6)) (.nl 40 V6) .done)) .done))] func22⟩
def Qea(N:Nat):V:=⟨⟨95,Jj0,[zs5],Wv N,[]⟩,kF N [] [] func95⟩
def Qeb(N:Nat):V:=⟨⟨96,Jj0,[zs5],F6 N,[]⟩,kF N [] [] func96⟩
def Mw(N:Nat):V:=⟨⟨63,Qoo,[zs5],Gw N,[]⟩,kF N [Qea,Qeb] [(4,.rg (.n 9 (.sp 12 5 [0] [] ⟨[(17,zs7)],[]⟩ Ba Q3s .done))),(14,.lp [0] [] Qdx Qsk),(24,.rg (.n 3 (.call 0 (.n 2 (.sp 29 6 [3] [] Jj1 Jow Quq (.n 1 (.sp 36 5 [3] [] Jjw Ba Ba .done)))))))] func63⟩
def Mx(N:Nat):V:=⟨⟨98,Qoo,[zs5],Gy N,[]⟩,kF N [] [(4,.rg (.n 9 (.sp 14 4 [0] [] Q3o Qbd Qbd (.n 1 (.sp 19 4 [0] [] ⟨[(23,zs7)],[]⟩ Qbd Qbd .done))))),(14,.lp [0] [] Qdx Qsk),(24,.an (.dr 22 (.n 5 (.sp 34 5 [3] [] ⟨[(39,zs7)],[]⟩ Ba Ba (.n 5 (.sp 44 5 [3,39] [] Jor Ba Ba Q8q)))) .done)),(26,.rg (.n 7 (.sp 56 5 [3] [] ⟨[(61,zs7)],[]⟩ Ba Ba .done)))] func98⟩
def Qbh(N:Nat):V:=⟨⟨144,(sD [.sl Uz,.i,.i]),[zs5],u3 (Hm N),[]⟩,kF N [] [(6,.lp [0,1,2] [] Qsj Jj2),(18,.lp [7] [] Ql4 [(.x 2,zs6),(.r,⟨[(6,zs7)],[]⟩)]),(34,.an (.dr 17 (.n 17 .done) .done))] func144⟩
def Qf6(N:Nat):V:=⟨⟨97,(sD [.sl Uz,.i]),[zs2],u2 (Bq N),[]⟩,kF N [Mx,Lm,Qbh] [(16,.lp [0,1,5] [5] zs9 Qup),(26,.an (.dr 8 Qj4 .done)),(53,.lp [0,1,5] [5] Qsj [(.x 2,zs6),(.r,Q8m)])] func97⟩
def Qec(N:Nat):V:=⟨⟨64,Jqj,[zs2],F7 N,[]⟩,kF N [Qf6] [(14,.lp [0] [] Qdx Qop)] func64⟩
def Qed(N:Nat):V:=⟨⟨99,(sD [.sl Xx,.bool]),[zs2],u2 (F8 N),[]⟩,kF N [] [(38,.lp [0] [] zs4 Qup)] func99⟩
def Qee(N:Nat):V:=⟨⟨65,Jqk,[zs2],F9 N,[]⟩,kF N [Mx,Qed] [(22,.lp [0] [] Qdx Qop),(43,.lp [3] [] Q8m Jtw),(53,.an (.dr 11 (.n 11 .done) .done))] func65⟩
def Qf7(N:Nat):V:=⟨⟨100,Jql,[zs5],u2 (Br N),[]⟩,kF N [] [(6,.lp [1,2] [2] zs4 zs8)] func100⟩
def Qf8(N:Nat):V:=⟨⟨101,Jql,[zs5],u2 (Bt N),[]⟩,kF N [] [(6,.lp [1,2] [2] zs4 zs8)] func101⟩
def Lo(N:Nat):V:=⟨⟨38,Jqm,[zs2],Ww N,[]⟩,kF N [] [(24,.lp [0] [] ⟨[(3,zs3),(4,zs3)],[]⟩ Qop)] func38⟩
def Qef(N:Nat):V:=⟨⟨66,Q3t,[zs2],Aa N,[]⟩,kF N [Qf7,Qf8,Lo] [(14,.lp [1] [1] Qdx Qop),(35,.rg (.n 3 (.call 0 (.n 2 (.sp 35 6 [3,4] [4] Jjw Quq Jow .done)))))] func66⟩
def Qeg(N:Nat):V:=⟨⟨233,zs2,[zs2],Ab N,[]⟩,kF N [] [] func233⟩
def Qh4(N:Nat):V:=⟨⟨258,Q3n,[zs5],u2 (Ea N),[]⟩,kF N [] [(6,.lp [0,1] [] zs4 zs8)] func258⟩
def Fh(N:Nat):V:=⟨⟨234,Qoo,[zs2],Zg N,[]⟩,kF N [Qh4] [] func234⟩
def Qh5(N:Nat):V:=⟨⟨203,Qso,[zs2],D5 N,[]⟩,kF N [Qeg,Fh] [(4,.an (.dc 6 [3,4,5,6,7,8] [1] [] (.b 1 (.c 1 (.k 0 [] [] [] [] (.b 1 (.c 1 Qwu))))))),(28,.rg (.n 4 (.sp 35 5 [1] [1] ⟨[(40,zs7)],[]⟩ Jju Ba .done)))] func203⟩
def Qcq(N:Nat):V:=⟨⟨204,(sD [Xy,.sl .i]),[zs2],u2 (Ey N),[]⟩,kF N [Fh] [(41,.an (.dr 7 Jbk .done)),(48,.jn [] [2] Jvj),(52,.jn [1,30] [] [(.n,Jj1)]),(66,.jn [1,30] [] Jqn),(80,.jn [1] [] [(.n,Jor)])] func204⟩
def Dp(N n:Nat):Con:=⟨145,zs1,[Ow],fun(x0,x1)=>Vy N n x0 x1,[]⟩
theorem Lp(N:Nat):∀n,KO (Dp N n)
 | 0=>⟨Bl fun _=>rfl,Ms func145 rfl⟩
 | n+1=>have ih:=Lp N n; kF N [Qh5,fun _=>⟨_,ih⟩,Qcq] [(26,.lp [1,2] [2] Jqo [(.x 0,⟨Q3u,[(100100,Fd)]⟩),(.r,Jj4)])] func145
def Qkc(N:Nat):V:=⟨Dp N N,Lp N N⟩
def Qf9(N:Nat):V:=⟨⟨102,Qso,[Ow],Bu N,[]⟩,kF N [Qkc] [] func102⟩
def R2(N:Nat):V:=⟨⟨67,Q3t,[zs2],Wx N,[]⟩,kF N [Mw,Qf9] [(14,.lp [1] [1] Qdx Qop),(37,.lp [3,4] [4] zs4 Jtw),(47,.an (.dr 9 (.n 9 .done) .done))] func67⟩
def Qcr(N:Nat):V:=⟨⟨34,Q3t,[zs2],Ez N,[]⟩,kF N [Mw,Qec,Qee,Qef,R2] [(21,.jn [1] [1] [(.n,Qdx)]),(27,.jn [1] [1] [(.n,Qdx)]),(33,.jn [] [1] [(.n,Qdx)])] func34⟩
def Qeh(N:Nat):V:=⟨⟨35,(sD [Ye,Ye]),[zs2],u2 (Ac N),[]⟩,kF N [] [] func35⟩
def Qei(N:Nat):V:=⟨⟨23,(sD [.sl Ye]),[zs2],Ad N,[]⟩,kF N [Qcr,Qeh] [(14,.lp [0] [] Qdx Qop),(34,.jn [3] [] [(.n,⟨[(36,zs7)],[]⟩)]),(34,.an (.dc 12 [22,23,24,25,26,27,28,29,30,31,32,33] [] [] (.a (.a (.a (.so 24 (.a (.a (.a (.a (.a (.a (.a (.a (.a (.tl Jot)))))))))) (.a (.a Jvi))))))))] func23⟩
def Qej(N:Nat):V:=⟨⟨24,(sD [.sl I1]),[zs5],Ae N,[]⟩,kF N [Xq] [(6,.lp [0] [] Qdx Qsk),(26,.an (.dr 35 (.n 3 (.sp 41 32 [3,4] [4] ⟨[(73,zs7)],[]⟩ (.nl 10 (.sp 51 21 [3,4,41] [] ⟨[(72,zs7)],[]⟩ (.nl 21 .done) (.nl 10 (.sp 61 10 [3,4,41,51] [] ⟨[(71,zs7)],[]⟩ (.nl 10 .done) (.nl 10 .done) (.nl 1 .done))) V6)) (.nl 31 V6) .done)) .done))] func24⟩
def H0(N:Nat):V:=⟨⟨37,Q3v,[zs5],Z9 N,[]⟩,kF N [] [] func37⟩
def Qh6(N:Nat):V:=⟨⟨205,Q3w,[Jj5],u2 (Eb N),[]⟩,kF N [] [(10,.lp [0,1] [] ⟨[(5,Rz),(6,zs7),(7,zs3)],Jj3⟩ [(.x 0,⟨[(5,Qny),(6,zs7)],Jj6⟩)]),(18,.jn [7] [] [(.n,⟨[(5,Qj5),(6,zs7)],[(100300,Fd)]⟩)]),(20,.jn [7] [] [(.n,⟨[(5,Qh2),(6,zs7)],Jj7⟩)]),(21,.rg (.n 3 (.sp 16 7 [5,6,7] [100000] ⟨[(23,zs7)],[]⟩ Qbe Qbe .done))),(34,.jn [] [] [(.n,⟨[(5,Q3x)],[(100500,Fd)]⟩)])] func205⟩
def Qcs(N:Nat):V:=⟨⟨146,(sD [.sl .i,.sl Jf]),[(sD [.sl .i])],u2 (Xp N),[]⟩,kF N [H0,Qh6] [(6,.lp [1] [] ⟨[(0,.d (.sl .i)),(5,zs3)],[]⟩ [(.x 0,Jqp)]),(14,.jn [5] [] [(.n,Jqp)]),(18,.an (.dc 12 [17,18,19,20,21,22,23,24,25,26,27,28] [] [] (.a (.a (.a (.a (.a (.a (.k 1 [] [] [12301] [12301] (.a (.a (.a (.a (.a (.tl Jjz)))))))))))))))] func146⟩
def Tp(N:Nat):V:=⟨⟨206,Jqq,[zs5],u2 (Gq N),[]⟩,kF N [H0] [] func206⟩
def Qkd(N:Nat):V:=⟨⟨147,(sD [.sl Jf,.i]),[zs5],u2 (Fp N),[]⟩,kF N [Tp] [(6,.lp [0,1] [] zs4 zs8)] func147⟩
def Qct(N:Nat):V:=⟨⟨103,(sD [.sl Jf,.sl Jf,.bool,.bool]),[Qj6],u4 (E0 N),[]⟩,kF N [Qcs,Qkd] [(10,.lp [0,1,2,3,9] [] ⟨[(10,Rz),(11,zs3)],Jbl⟩ [(.x 0,⟨[(10,Q3x)],[(100500,Ll)]⟩)]),(18,.jn [11] [] [(.n,⟨[(10,Qny)],Jj8⟩)]),(21,.rg (.n 5 (.call 1 (.n 2 (.sp 31 13 [10,11] [100000] ⟨[(44,zs7)],[]⟩ (.nl 12 V6) (.nl 3 (.sp 34 9 [10,11,31] [] ⟨[(43,zs7)],[]⟩ (.nl 5 (.call 1 (.nl 3 .done))) (.nl 9 .done) V6)) .done))))),(28,.an (.dr 15 (.n 3 (.sp 49 12 [10,11,12] [100000] ⟨[(61,zs7)],[]⟩ (.nl 11 V6) (.nl 11 V6) .done)) .done)),(31,.an (.dc 12 [72,73,74,75,76,77,78,79,80,81,82,83] [] [] (.b 100000 (.a (.a (.a (.a (.a (.a (.a (.a (.a Jqr))))))))))))] func103⟩
def Qcu(N:Nat):V:=⟨⟨68,(sD [.sl Jf,.sl Jf]),[Qj6],u2 (E1 N),[]⟩,kF N [Qct] [] func68⟩
def R3(N:Nat):V:=⟨⟨39,Jbm,[Jqs],u2 (Wy N),[]⟩,kF N [Qcu] [] func39⟩
def Ph(N:Nat):V:=⟨⟨25,(sD [.sl Ur]),[zs5],X5 N,[]⟩,kF N [H0,Lo,R3] [(6,.lp [0] [] Qdx Qsk),(19,.rg (.n 19 (.sp 37 5 [3,4] [4] ⟨[(42,zs7)],[]⟩ Ba Q3s (.n 1 (.sp 43 5 [3,4] [4] Jtj Ba Jju Jo1))))),(28,.lp [3,4] [4] zs4 [(.x 2,zs6),(.r,⟨[(2,zs7)],[]⟩)])] func25⟩
def Qek(N:Nat):V:=⟨⟨11,(sD [Ui,.i]),[zs5],u2 (Af N),[]⟩,kF N [Qd1,Qd7,Qd9,Qei,Qej,Ph] [(14,.lp [1,2] [2] zs4 zs8),(35,.lp [1,2] [2] zs9 Jtg),(56,.lp [1,2] [2] Qsj Jth),(77,.lp [2] [2] Ql4 Jvf),(87,.an (.dr 32 (.n 7 (.sp 111 7 [8] [] ⟨[(118,zs7)],[]⟩ Qbe Qbe (.n 1 (.sp 119 17 [8] [] ⟨[(136,zs7)],[]⟩ (.nl 16 V6) (.nl 3 (.sp 122 13 [8,119] [] ⟨[(135,zs7)],[]⟩ Jo2 Jo2 V6)) .done)))) .done)),(97,.rg (.n 3 (.sp 145 5 [2] [2] ⟨[(150,zs7)],[]⟩ (.nl 2 Jou) Ba (.n 1 (.sp 151 5 [2] [2] ⟨[(156,zs7)],[]⟩ Jvg Ba (.n 1 (.sp 157 4 [2] [2] ⟨[(161,zs7)],[]⟩ (.nl 2 (.call 4 V6)) Qbd (.n 1 (.sp 162 4 [2] [2] ⟨[(166,zs7)],[]⟩ (.nl 2 (.call 5 V6)) Qbd V6)))))))))] func11⟩
def Qcv(N:Nat):V:=⟨⟨12,(sD [J9]),[zs5],E2 N,[]⟩,kF N [] [] func12⟩
def Qga(N:Nat):V:=⟨⟨13,zs2,[zs5],Bx N,[]⟩,kF N [] [] func13⟩
def Qgb(N:Nat):V:=⟨⟨5,Jqt,[zs5],u3 (Gz N),[]⟩,kF N [Qek,Qcv,Qga] [(4,.rg (.n 5 (.sp 13 5 [1,2,3] [3] Q3o Ba Q3s .done))),(14,.lp [1] [3] Qsj Jj2),(25,.rg (.n 4 (.call 1 (.n 2 (.sp 31 8 [7] [] ⟨[(39,zs7)],[]⟩ Qnz (.nl 5 Jou) (.n 1 (.sp 40 8 [7] [] Jtj Qnz Qnz (.n 1 (.sp 49 8 [7] [] ⟨[(57,zs7)],[]⟩ Qnz Qnz .done))))))))),(34,.lp [7] [] Ql4 [(.x 2,zs6),(.r,⟨[(6,zs7)],[]⟩)]),(44,.an (.dr 11 (.n 11 .done) .done))] func5⟩
def Qbi(N:Nat):V:=⟨⟨14,(sD []),[(sD [Ui])],fun _=>Ld N,[]⟩,kF N [] [] func14⟩
def Qoq(N:Nat):V:=⟨⟨26,Jj9,[Q3y],Rk N,[]⟩,kF N [] [(3,.an (.dc 8 [6,7,8,9,10,11,12,3] [1] [] (.b 1 (.c 1 (.e 8 (.b 1 (.c 1 (.e 11 (.g [] [] [] [8,11] Jbn))))))))),(8,.lp [2,14,15] [1,2] ⟨[(3,Tn),(16,zs3)],[(100000,.var 39 Jtv),(100001,Ze),(100002,Qcb),(100003,Qcc)]⟩ [(.x 0,⟨Qwv,[(100100,.var 39 (.ag (sL [Qdy,Jjx,Jjy]))),(100101,Ze),(100102,Qcb),(100103,Qcc)]⟩)]),(21,.rg (.n 3 (.fz 22 Qj7)))] func26⟩
def Qzh(N:Nat):V:=⟨⟨41,(sD [J9]),[(sD [M6])],D6 N,[]⟩,kF N [] [] func41⟩
def Ql9(N:Nat):V:=⟨⟨40,(sD [M6,M6]),[zs5],u2 (Hq N),[]⟩,kF N [] [] func40⟩
def My(N n:Nat):Con:=⟨27,Jqv,[Jqv],fun x0=>Ku N n x0,[]⟩
theorem Oz(N:Nat):∀n,KO (My N n)
 | 0=>⟨Bl fun _=>rfl,Ms func27 rfl⟩
 | n+1=>have ih:=Oz N n; kF N [fun _=>⟨_,ih⟩,Qzh,Ql9] [(11,.an (.dc 11 [11,12,13,14,15,16,17,18,19,20,21] [] [] (.a (.a (.a (.a (.a (.k 0 [] [] [] [] (.a (.a (.a (.a (.a (.tl Jka)))))))))))))),(16,.lp [] [] ⟨[(3,Jqw),(4,Jqw),(5,Rz)],[(100000,Q3z)]⟩ [(.x 0,⟨Jox,[(100200,Q3z)]⟩)]),(25,.jn [3,4,5] [100000] Jvk),(25,.an (.dc 15 [34,35,36,37,38,39,40,41,42,43,44,45,46,47,48] [] [] (.a (.a (.a (.a (.so 37 (.a (.a (.a (.a Jqx)))) (.a (.a (.a (.a (.so 41 (.a (.a (.a (.k 1 [] [] [] [] (.a (.a (.a (.tl (.call 1 (.call 2 Je6)))))))))) Jqx))))))))))))] func27
def Qor(N:Nat):V:=⟨My N N,Oz N N⟩
def Qzi(N:Nat):V:=⟨⟨42,Jj9,[Q3y],D7 N,[]⟩,kF N [] [(3,.an (.dc 8 [6,7,8,9,10,11,12,3] [1] [] (.b 1 (.c 1 (.e 8 (.b 1 (.c 1 (.e 11 (.g [] [] [] [8,11] Jbn))))))))),(8,.lp [2,14,15] [1,2] ⟨[(3,Tn),(16,zs3)],[(100000,.var 39 Jtv),(100001,Ze),(100002,Qcb),(100003,Qcc)]⟩ [(.x 0,⟨Qwv,[(100100,.var 39 (.ag (sL [Qdy,Jjx,Jjy]))),(100101,Ze),(100102,Qcb),(100103,Qcc)]⟩)]),(21,.rg (.n 3 (.fz 22 Qj7)))] func42⟩
def Qma(N:Nat):V:=⟨⟨235,Q3n,[Q8n],u2 (N8 N),[]⟩,kF N [] [(6,.lp [0,1] [] zs4 [(.x 0,zs4)]),(9,.rg (.n 5 (.sp 11 7 [5] [] Q3o Qbe Qbe .done)))] func235⟩
def Qgc(N:Nat):V:=⟨⟨236,Q3n,[Q8n],u2 (By N),[]⟩,kF N [] [(8,.lp [1,8,9] [] ⟨Jkb,[(100000,Qsl)]⟩ Jto),(16,.jn [10] [] Jtp)] func236⟩
def Qmb(N:Nat):V:=⟨⟨207,Jvl,[(sD [Vv])],u2 (N9 N),[]⟩,kF N [Qma,Qgc] [(3,.jn [] [3] [(.n,⟨[(2,Qg4),(4,Jkc)],[(100300,Jtr),(100301,Jbo)]⟩),(.r,⟨[(4,Ql7)],[(100200,Jbo)]⟩)]),(31,.jn [2,3,4,6] [2,4] Jqn),(39,.jn [2,3,4] [2,4] [(.n,Jor)])] func207⟩
def Qgd(N:Nat):V:=⟨⟨149,Qww,[⟨Qh1,[(1,Qn0)]⟩],u2 (Bz N),[]⟩,kF N [Qmb] [(10,.lp [1,10,11] [] ⟨[(5,Rz),(6,Q30),(12,zs3)],[(100000,Qn0),(100001,Jke)]⟩ [(.x 0,⟨[(5,Qj5)],[(100300,Qn0)]⟩)]),(18,.jn [12] [] [(.n,⟨[(5,Qh2),(6,Jkf)],[(100200,Qn0),(100201,Jke)]⟩)]),(32,.an (.dr 13 (.n 3 (.sp 31 10 [5,6,8,9,12] [8,100000,100001] Jjw Jbp Jbp .done)) .done))] func149⟩
def Qke(N:Nat):V:=⟨⟨151,(sD [Vv,Vv]),[zs5],u2 (L2 N),[]⟩,kF N [] [(14,.lp [3,43,44] [2,3] ⟨[(45,zs3)],[]⟩ zs8)] func151⟩
def Qel(N:Nat):V:=⟨⟨150,Jqy,[zs5],u2 (Ag N),[]⟩,kF N [Qke] [] func150⟩
def Qem(N:Nat):V:=⟨⟨152,Jqy,[(sD [Vw])],u2 (Ah N),[]⟩,kF N [] [] func152⟩
def Fi(N:Nat):V:=⟨⟨148,⟨[(0,.d (.sl Vw)),(1,.f 150 .nil),(2,.f 152 .nil)],[]⟩,[⟨Qh1,[(1,Qn0)]⟩],Vj N,[]⟩,kF N [Qel,Qem] [(8,.lp [1,2,11,12] [] ⟨Jqz,[(100000,Qn0)]⟩ [(.x 0,⟨[(7,Qh2)],[(100200,Qn0)]⟩)]),(16,.jn [13] [] [(.n,⟨Q3u,[(100100,Qn0)]⟩)]),(22,.an (.dc 10 [19,20,21,22,23,24,25,26,27,28] [100000,9] [] (.a (.a (.a (.so 21 (.a (.b 100000 (.a (.a (.d 100000 100000 (.c 100000 (.c 9 (.tl Ql8)))))))) Jbq)))))),(24,.an (.dc 11 [31,32,33,34,35,36,37,38,39,40,41] [100000,9] [] (.b 100000 (.a (.a (.a (.b 100000 (.a (.a (.d 100000 100000 (.c 100000 (.c 9 (.k 1 [] [] [] [] Je8)))))))))))))] func148⟩
def O4(N:Nat):V:=⟨⟨104,Qww,[⟨Qh1,[(1,Jbr)]⟩],u2 (Ec N),[]⟩,kF N [Qgd,Fi] [(10,.lp [5,14,15] [11201,11301] ⟨[(6,Rz),(16,zs3)],[(100000,Jbr)]⟩ [(.x 0,⟨[(6,Qj5)],[(100300,Jbr)]⟩)]),(18,.jn [16] [] [(.n,⟨[(6,Qh2)],[(100200,Jbr)]⟩)]),(30,.jn [6,8,16] [8,100000] [(.n,⟨[(9,Qco)],[(100100,Jkg)]⟩)]),(35,.an (.dc 17 [40,41,42,43,44,45,46,47,48,49,50,51,52,53,54,55,56] [100100,8] [] (.b 100000 (.c 100100 (.b 8 (.b 8 (.c 8 (.b 8 (.b 8 (.c 8 (.e 48 (.b 8 (.b 8 (.c 8 (.b 8 (.b 8 (.c 8 (.b 48 (.op ⟨.fz 48 (.nl 1 .done),[48],[],[],[48]⟩ Je8)))))))))))))))))))] func104⟩
def Wd(N:Nat):V:=⟨⟨153,Q3v,[zs5],Ut N,[]⟩,kF N [] [] func153⟩
def Mz(N:Nat):V:=⟨⟨105,Jqq,[zs5],u2 (G0 N),[]⟩,kF N [Wd] [] func105⟩
def Qsw(N:Nat):V:=⟨⟨69,Jbs,[(sD [D3,.bool])],u3 (Wz N),[]⟩,kF N [O4,Mz] [(6,.lp [2,12,13] [11201] ⟨[(6,Tn),(14,zs3)],[(100000,Jq1)]⟩ [(.x 0,⟨[(6,Qco)],[(100100,Jq1)]⟩),(.r,⟨Jkh,[(100200,.var 140 Cd)]⟩)])] func69⟩
def Qmc(N:Nat):V:=⟨⟨154,(sD []),[⟨[(0,.p 1 [])],[(1,.var 327 (.ag (sL [.m 2,.m 3,.m 4,.m 5,.m 6,.ns,.ns]))),(2,Q31),(3,.map .i Vv),(4,Qn1),(5,.map .str .i),(6,Qcd)]⟩],fun _=>Oc N,[]⟩,kF N [] [] func154⟩
def Qos(N:Nat):V:=⟨⟨155,Qww,[⟨[(0,.f 208 (sL [.p 1 [],.p 2 []]))],[(1,.var 22 Jq2),(2,P1)]⟩],u2 (Rl N),[]⟩,kF N [] [] func155⟩
def Qh7:AnY:=(.two (.reg (.n 3 .done)) (.un (.lp [2,6,7] [] ⟨[(8,.d .i)],[]⟩ [(.x 0,⟨[],[]⟩),(.r,⟨[],[]⟩)] (.two (.reg (.n 1 .done)) (.two (.two .nil .nil) (.two (.un (.two (.reg (.n 4 .done)) (.two (.yr (.h 5 (.n 5 .done) (.so 16 (.mv (.h 1 (.nl 1 .done) (.yl (.h 2 (.nl 1 (.n 1 .done)) .done)))) (.h 5 (.nl 4 (.n 1 .done)) .done)))) (.two .nil .nil)))) (.reg (.n 2 .done))))))))
def O5(N:Nat):It:=⟨208,[(.sl Jy),(.int .i64)],Jy,fun(x1,x2)=>L3 N x1 x2⟩
theorem Qge(N:Nat):IO (O5 N):=⟨Joq (Y:=tx) (N:=N) (it:=O5 N) (an:=Qh7) Jjs Jjr (Jbi N []) func208 rfl (fun x=>by kernel_rfl),Ms func208 rfl⟩
def Qen(N:Nat):V:=⟨⟨209,Q3w,[Jj5],u2 (W0 N),[]⟩,kF N [] [(6,.lp [0,1] [] zs4 [(.x 0,zs4)]),(9,.rg (.n 5 (.sp 11 7 [5] [] Q3o Qbe Qbe .done)))] func209⟩
def Tq(N:Nat):V:=⟨⟨237,Q3n,[Q8n],u2 (Kl N),[]⟩,kF N [] [(6,.lp [0,1] [] zs4 [(.x 0,zs4)]),(9,.rg (.n 5 (.sp 11 7 [5] [] Q3o Qbe Qbe .done)))] func237⟩
def Qkf(N:Nat):V:=⟨⟨238,Q3n,[Q8n],u2 (Fq N),[]⟩,kF N [] [(8,.lp [1,8,9] [] ⟨Jkb,[(100000,Qsl)]⟩ Jto),(16,.jn [10] [] Jtp)] func238⟩
def R4(N:Nat):V:=⟨⟨210,⟨[(0,Hz),(1,Jkd),(2,.d Jy)],Jki⟩,[⟨[(0,Jkd)],Jkj⟩],u9 (W5 N),[5000,5001,5002,5003,5005,5006,5007]⟩,kF N [Tq,Qkf] [(3,.jn [6] [5,6] [(.n,⟨[(4,Q30)],[(5004,.map .str .i),(100001,Jtr)]⟩)]),(10,.an (.dr 8 Qj4 V6)),(16,.an (.dr 6 Q3r V6))] func210⟩
def Pi(N:Nat):V:=⟨⟨156,⟨[(0,Hz),(1,.d Jy)],Jki⟩,[⟨[],[(5000,.var 327 (.ag (sL [Jbt,Qwx,Jbu,Jbv,Jbw,Tm,Q3p]))),(5001,Q31),(5002,.map .i Vv),(5003,Qn1),(5004,.map .str .i),(5005,Qcd),(1,Fd),(2,Fd)]⟩],u8 (X6 N),[]⟩,kF N [Qen,R4] [(9,.jn [3] [3] [(.n,⟨Qce,[(5000,.var 327 (.ag (sL [Jbt,Qwx,Jbu,Jbv,Jbw,.s 100006,.s 100007]))),(5001,Q31),(5002,.map .i Vv),(5003,Qn1),(5004,.map .str .i),(5005,Qcd),(100006,Fd),(100007,Fd)]⟩)]),(10,.an (.dc 12 [38,39,40,41,42,43,44,37,45,46,4,1000000011] [5000,5001] [3] (.b 5000 (.d 5000 5000 (.b 5000 (.d 5000 5001 (.b 3 (.c 3 (.c 5001 (.a (.a (.a (.e 4 (.f 4 4 Ov)))))))))))))),(14,.gh Jq3),(14,.an (.dc 8 [49,50,51,52,53,54,55,56] [5000] [3] (.b 5000 (.b 5000 (.d 5000 5000 (.b 5000 (.c 5000 (.b 3 (.c 3 (.k 0 [] [] [15601] [15601] Qsm)))))))))),(16,.an (.dr 16 (.n 16 .done) V6)),(21,.an (.dc 8 [77,78,79,80,81,82,83,6] [5000,3,5001] [] (.b 5000 (.d 5000 5000 (.b 5000 (.d 5000 5001 (.b 3 (.c 3 (.c 5001 (.e 6 Ov)))))))))),(24,.an (.dr 7 Jbk V6)),(29,.jn [3] [3] [(.n,⟨Qce,[(5000,.var 327 (.ag (sL [Jbt,Qwx,Jbu,Jbv,Jbw,.s 100106,.s 100107]))),(5001,Q31),(5002,.map .i Vv),(5003,Qn1),(5004,.map .str .i),(5005,Qcd),(100106,Fd),(100107,Fd)]⟩)]),(30,.an (.dr 8 Qj4 .done)),(32,.gh (.fz 5007 (.dt 5000 .done))),(32,.an (.dc 8 [102,103,104,105,106,107,108,109] [5000] [3] (.b 5000 (.b 5000 (.d 5000 5000 (.b 5000 (.c 5000 (.b 3 (.c 3 (.k 0 [] [] [20901] [20901] Qsm)))))))))),(35,.an (.dr 6 Q3r V6)),(37,.an (.dr 8 Qj4 V6)),(38,.an (.dr 15 Jtm V6)),(43,.an (.dc 8 [143,144,145,146,147,148,149,7] [5000,3,5002] [] (.b 5000 (.d 5000 5000 (.b 5000 (.d 5000 5002 (.b 3 (.c 3 (.c 5002 (.e 7 Ov)))))))))),(48,.lp [0,3,7,151,152] [3,7,5000,5001,5002,5003,5005,5006,5007] ⟨[(153,zs3)],Jkj⟩ [(.x 1,⟨[],Jkj⟩)]),(62,.an (.dr 8 Qj4 V6)),(63,.an (.dr 6 Q3r V6)),(65,.jn [0,3] [3,5000,5001,5002,5003,5004,5005,5006,5007] [(.n,⟨[(177,zs7)],[]⟩)]),(73,.an (.dc 12 [15,16,17,18,19,20,21,14,22,23,10,1000000011] [5000,3,5002] [] (.b 5000 (.d 5000 5000 (.b 5000 (.d 5000 5002 (.b 3 (.c 3 (.c 5002 (.a (.a (.a (.e 10 (.f 10 10 Ov)))))))))))))),(77,.an (.dc 10 [25,26,27,28,29,30,31,32,33,34] [5000,3,10,5004,5001,5002,5003,5005,5006,5007] [] (.b 5000 (.d 5000 5000 (.b 5000 (.d 5000 5002 (.b 3 (.c 3 (.b 5000 (.c 10 (.c 3 (.k 1 [5004] [5000,5001,5002,5003,5005,5006,5007] [] [5004] Ov))))))))))))] func156⟩
def O6(N:Nat):V:=⟨⟨157,⟨Qce,Jki⟩,[Jq4],u7 (Xf N),[5000,5001,5002,5003,5004,5005,5006,5007]⟩,kF N [] [(5,.rg (.br V6)),(10,.lp [0,2,16,17] [2] ⟨[(3,Tn),(4,.m 100001),(18,zs3)],[(100000,.var 206 (.ag (sL [.ns,Joz]))),(100001,Jkk),(100002,Qur)]⟩ [(.x 0,⟨[(3,Ql7),(4,.m 100201)],[(100200,.var 206 (.ag (sL [.ns,Joy]))),(100201,Jkk),(100202,Qur)]⟩)]),(18,.jn [18] [] [(.n,⟨[(3,Qco),(4,.m 100101)],[(100100,.var 206 (.ag (sL [.ns,Jjx]))),(100101,Jkk),(100102,Qur)]⟩)]),(30,.gh (.op (.v 7 [.f 1 1]) 100001 700000 .done)),(30,.an (.dc 10 [33,34,35,36,37,38,39,40,41,42] [7,100001,700000] [] (.b 100001 (.b 7 (.c 7 (.b 100001 (.b 7 (.c 7 (.op ⟨.br .done,[],[100001,700000],[],[700000]⟩ (.a (.a (.g [700000] [] [42] [42] (.tl (.br .done)))))))))))))),(37,.gh (.fm 100201 .done)),(37,.lp [0,2,4,53,54] [2,100201] ⟨[(3,Qg4),(55,zs3)],[(100300,.var 206 (.ag (sL [Q32,Jkl]))),(100301,Q8o),(100302,Qur)]⟩ [(.x 2,⟨[(3,Qwy)],[(100400,.var 206 (.ag (sL [Jbx,.s 100402]))),(100401,Q8o),(100402,Qur)]⟩)])] func157⟩
def Qkg:AnR:=(.pre (.reg (.n 1 .done)) (.pre (.reg (.call 0 (.n 2 .done))) (.inn (.pre (.reg (.n 2 (.call 1 .done))) (.un (.rf 0 [4,5] [4,5] ⟨[],[(10701,.var 327 (.ag (sL [.m 100001,.m 100002,.m 100003,.m 100004,.m 100005,.s 100006,.s 100007]))),(100001,.map .i Un),(100002,.map .i Vv),(100003,.map .i .bool),(100004,.map .str .i),(100005,.map .i .i),(100006,.row 3 .i),(100007,.row 3 .i)]⟩ (.reg (.n 2 .done)) (.un (.reg (.n 2 (.call 2 .done))))))) (.two (.reg (.n 1 (.call 3 (.n 1 .done)))) .nil))))
def Tr(N:Nat):V:=⟨⟨106,Qww,[Jq4],u2 (B0 N),[]⟩,kR N [Qmc,Qos,Pi,O6] [⟨_,Qge N⟩] Qkg func106 rfl fun x=>by kernel_rfl⟩
def Qsx(N:Nat):V:=⟨⟨70,Jbs,[(sD [Vv,.bool])],u3 (K5 N),[]⟩,kF N [Tr] [(6,.lp [1,13,14] [11201,11202] ⟨Jq5,[(100000,Jbo)]⟩ [(.x 0,⟨[(6,Qco)],[(100100,Jbo)]⟩),(.r,⟨Jkh,[(100200,Jke)]⟩)])] func70⟩
def Qh8(N:Nat):V:=⟨⟨71,Jbs,[(sD [Un,.bool])],u3 (Uk N),[]⟩,kF N [Tr] [(6,.lp [1,13,14] [11201,11202] ⟨Jq5,[(100000,Jq6)]⟩ [(.x 0,⟨[(6,Qco)],[(100100,Jq6)]⟩),(.r,⟨Jkh,[(100200,.var 142 Dm)]⟩)])] func71⟩
def Qgf(N:Nat):V:=⟨⟨45,⟨Qce,[(5000,.var 144 (.ag (sL [Ff,Dn,Ux,.ag (sL [Qdz,Yi,Qsq,zs7,zs7]),.ag (sL [zs3,zs3,zs3,zs7,zs7,P2]),.ag (sL [Yi,zs3,zs7,To,Qcf,Qn2,Qj8]),zs3,Jq7]))),(5001,Qsl),(5002,Fd),(5003,Do),(5004,Hb),(5005,Et),(5006,A6),(5007,U4),(5008,U5),(5009,Zo)]⟩,[⟨Qj9,[(5000,Jq9),(1,Do),(2,Hb),(3,Et),(4,A6),(5,U4),(6,U5),(7,Zo)]⟩],u35 (G4 N),[]⟩,kF N [Qsw,Qsx,Qh8] [(3,.an (.dc 21 [8,9,10,11,12,13,14,15,16,17,18,19,20,21,22,23,7,24,25,3,1000000020] [5000] [] (.b 5000 (.d 5000 5000 (.b 5000 (.b 5000 (.c 5000 (.b 5000 (.d 5000 5000 (.b 5000 (.b 5000 (.c 5000 (.b 5000 (.d 5000 5000 (.b 5000 (.b 5000 (.c 5000 (.k 0 [] [] [] [] (.a (.a (.a Jra))))))))))))))))))))),(13,.an (.dc 21 [29,30,31,32,33,34,35,36,37,38,39,40,41,42,43,44,28,45,46,5,1000000020] [5000] [] (.b 5000 (.d 5000 5000 (.b 5000 (.b 5000 (.c 5000 (.b 5000 (.d 5000 5000 (.b 5000 (.b 5000 (.c 5000 (.b 5000 (.d 5000 5000 (.b 5000 (.b 5000 (.c 5000 (.k 1 [] [] [] [] (.a (.a (.a (.e 5 (.f 5 5 Ov))))))))))))))))))))))),(16,.an (.dr 8 Qj4 .done)),(33,.an (.dc 20 [62,63,64,65,66,67,68,69,70,71,72,73,74,75,61,76,77,78,79,1000000019] [5000,5] [] (.b 5000 (.b 5000 (.d 5000 5000 (.b 5000 (.b 5000 (.c 5000 (.b 5 (.c 5 (.b 5000 (.d 5000 5000 (.b 5000 (.b 5000 (.c 5000 (.k 2 [] [] [] [] (.a (.a (.a (.d 5000 5000 (.b 5000 (.g [5000] [] [] [5000,5003,5004,5005,5006,5007,5008,5009] (.tl .done)))))))))))))))))))))))] func45⟩
def Qzj(N:Nat):V:=⟨⟨44,⟨Qce,[(5000,.var 138 Mu),(5001,.var 144 (.ag (sL [Ff,Dn,Ux,.ag (sL [Qdz,Yi,P2,zs7,zs7]),.ag (sL [zs3,zs3,zs3,zs7,zs7,To]),.ag (sL [Yi,zs3,zs7,Qcf,Qn2,Qj8,Qsp]),zs3,.ag (sL [Ux,zs3,Yi,zs3,Yi,.s 5008,.s 5009,zs3,zs3,zs3,.s 5010,zs3,zs3])]))),(5002,Qsl),(5003,Fd),(5004,Do),(5005,Hb),(5006,Et),(5007,A6),(5008,U4),(5009,U5),(5010,Zo)]⟩,[⟨Qj9,[(5001,.var 144 (.ag (sL [Ff,Dn,Ux,Cd,Dm,Q33,zs3,Jq8]))),(1,Do),(2,Hb),(3,Et),(4,A6),(5,U4),(6,U5),(7,Zo)]⟩],u35 (Qaw N),[5000]⟩,kF N [Qgf] [] func44⟩
def Qzk(N:Nat):V:=⟨⟨43,⟨[(0,.f 44 Qn3),(1,.p 5011 [])],[(5000,.var 138 Mu),(5001,.var 144 (.ag (sL [Ff,Dn,Ux,.ag (sL [Qdz,Yi,P2,zs7,zs7]),.ag (sL [zs3,zs3,zs3,zs7,zs7,To]),.ag (sL [Yi,zs3,zs7,Qcf,Qn2,Qj8,Qsp]),zs3,.ag (sL [Ux,zs3,Yi,zs3,Yi,.s 5008,.s 5009,zs3,zs3,zs3,.s 5010,zs3,zs3])]))),(5002,Qsl),(5003,Fd),(5004,Do),(5005,Hb),(5006,Et),(5007,A6),(5008,U4),(5009,U5),(5010,Zo),(5011,Qn4)]⟩,[⟨[],[(5001,Jq9),(5011,Qn4),(1,Do),(2,Hb),(3,Et),(4,A6),(5,U4),(6,U5),(7,Zo)]⟩],u36 (Qax N),[5000]⟩,kF N [Qzj] [(3,.rg (.n 1 Ql8))] func43⟩
def Qbj(N:Nat):V:=⟨⟨158,(sD [.sl .str]),[Q8n],Hs N,[]⟩,kF N [] [] func158⟩
def R5(N:Nat):V:=⟨⟨159,Jrb,[⟨Qh1,[(1,.row 262 Xx)]⟩],W6 N,[]⟩,kF N [] [] func159⟩
def R6(N:Nat):V:=⟨⟨160,Jqm,[⟨Qh1,[(1,Jby)]⟩],W7 N,[]⟩,kF N [] [] func160⟩
def P3(N n:Nat):Con:=⟨161,Qso,[Qso],fun x0=>Xg N n x0,[]⟩
theorem Tt(N:Nat):∀n,KO (P3 N n)
 | 0=>⟨Bl fun _=>rfl,Ms func161 rfl⟩
 | n+1=>have ih:=Tt N n; kF N [fun _=>⟨_,ih⟩] [(8,.lp [1,2,7,8] [1,2] ⟨[(3,Rz),(9,zs3)],[(100000,Jbz)]⟩ [(.x 0,⟨[(3,Ql6)],[(100100,Jbz)]⟩)])] func161
def Qus(N:Nat):V:=⟨P3 N N,Tt N N⟩
def Qsy(N:Nat):V:=⟨⟨107,Q3t,[⟨[(0,Q33)],Jkm⟩],Qay N,[]⟩,kF N [Qbj,R5,R6,Qus] [(10,.lp [1,2,18,19] [1,2] ⟨[(3,Tn),(20,zs3)],Jrc⟩ Jrd),(21,.an (.dc 9 [24,25,26,27,28,29,30,31,32] [100000,5] [] (.b 100000 (.d 100000 100001 (.b 5 (.c 5 (.b 5 (.c 5 (.k 0 [] [] [13001] [13001] (.b 13001 (.op ⟨.fz 13001 (.nl 1 .done),[13001],[],[],[13001]⟩ Qsm))))))))))),(27,.lp [1,2,37,38] [1,2] ⟨[(3,Ql7),(39,zs3)],Jre⟩ Jrf),(38,.an (.dc 9 [43,44,45,46,47,48,49,50,51] [100200,7] [] (.b 100200 (.d 100200 100202 (.b 7 (.c 7 (.b 7 (.c 7 (.k 1 [] [] [14901] [14901] (.b 14901 (.op ⟨.fz 14901 (.nl 1 .done),[14901],[],[],[14901]⟩ Qsm))))))))))),(44,.lp [1,2,56,57] [1,2] ⟨[(3,Qwy),(58,zs3)],Jrg⟩ Jri),(57,.rg (.n 3 (.fz 16401 Qj7))),(63,.lp [2,74,75] [1,2] ⟨[(3,.p 100600 []),(76,zs3)],Jrj⟩ Jrl)] func107⟩
def Q39(N:Nat):V:=⟨⟨72,(sD [.sl Ye,.str,.i]),[⟨[(0,Q33),(1,zs7)],Jkm⟩],u3 (D8 N),[]⟩,kF N [Qsy] [(8,.lp [0,1,2,6,11,12] [6] ⟨[(8,zs3),(13,zs3)],[]⟩ [(.x 0,Ql4)]),(16,.jn [13] [] Jkq)] func72⟩
def Qzl(N:Nat):V:=⟨⟨162,Qoo,[zs5],Qhw N,[]⟩,kF N [] [(6,.lp [0,6] [] Qsj Qsk)] func162⟩
def Qot(N:Nat):V:=⟨⟨164,⟨[(0,.d Uz),(1,Hz)],Jrm⟩,[zs5],u2 (Rm N),[5000]⟩,kF N [] [] func164⟩
def Nb(N:Nat):V:=⟨⟨211,Jrn,[zs2],u2 (Kq N),[5000]⟩,kF N [Qot] [(6,.lp [0,1,7] [] Ql4 Qup),(18,.rg (.n 5 (.call 0 .done)))] func211⟩
def Ih(N:Nat):V:=⟨⟨163,Jrn,[zs5],u2 (U7 N),[5000]⟩,kF N [Nb] [] func163⟩
def Qsz(N:Nat):V:=⟨⟨165,Jj0,[zs5],Qaz N,[]⟩,kF N [] [] func165⟩
def Qeo(N:Nat):V:=⟨⟨109,Qoo,[zs5],B1 N,[]⟩,kF N [Qsz] [(6,.lp [0,5] [] zs9 Qsk)] func109⟩
def Qut(N:Nat):V:=⟨⟨108,Jqj,[⟨[(0,.m 1),(1,zs3)],[(1,Qwz)]⟩,⟨[(0,.nm),(1,zs3)],[]⟩],Qdr N,[]⟩,kF N [Qzl,Ih,Qeo] [(16,.lp [0,15,16] [] ⟨[(4,Jb0),(17,zs3)],[(100000,Qwz)]⟩ [(.x 0,⟨[(4,.m 100400)],[(100400,Qwz)]⟩),(.r,⟨[(2,.nm),(3,zs3)],[]⟩)]),(57,.lp [6,17,44,45] [6] ⟨[(4,Jb1),(46,zs3)],[(100100,Qwz)]⟩ [(.x 3,⟨[(4,.m 100200)],[(100200,Qwz)]⟩),(.r,⟨[(2,.nm),(3,zs3)],[]⟩)])] func108⟩
def Qou(N:Nat):V:=⟨⟨110,⟨[(0,.m 5000),(1,Yi),(2,zs3)],[(5000,Qwz)]⟩,[(sD [.str,.bool])],u3 (Rn N),[5000]⟩,kF N [] [(4,.lp [0,1] [] ⟨[(2,zs3)],[]⟩ [(.x 0,zs6),(.r,⟨[(6,Yi),(7,zs7)],[]⟩)])] func110⟩
def Qkh(N:Nat):V:=⟨⟨73,(sD [.sl Uz,.str]),[(sD [.str,.bool])],u2 (Ht N),[]⟩,kF N [Qut,Qeo,Qou] [(4,.an (.cn 6 (.two (.two (.reg (.n 3 (.sp 15 4 [1,6] [] Jjt Qbd Q34 .done))) (.two Jro (.gh (.tl .done) .nil))) .nil) (.two (.two (.reg (.n 3 (.sp 15 4 [1,6] [11001] Jjt Qbd Q34 .done))) (.two Jro .nil)) (.two (.reg (.n 4 (.call 2 Qj7))) .nil))))] func73⟩
def Qh9(N:Nat):V:=⟨⟨47,⟨Qce,[(5000,.var 144 (.ag (sL [Ff,Dn,Ux,Cd,Dm,.ag (sL [Yi,zs3,zs7,Qsq,P2,To,Qcf]),zs3,Jkr]))),(5001,Do),(5002,Hb),(5003,Et),(5004,A6),(5005,U4),(5006,U5),(5007,Zo)]⟩,[⟨Qj9,[(5000,Jks),(1,Hb),(2,Et),(3,A6),(4,U4),(5,U5),(6,Zo)]⟩],u26 (Ed N),[]⟩,kF N [Q39,Qkh] [(3,.an (.dc 21 [6,7,8,9,10,11,12,13,14,15,16,17,18,19,20,21,5,22,23,3,1000000020] [5000] [] (.b 5000 (.d 5000 5000 (.b 5000 (.b 5000 (.c 5000 (.b 5000 (.d 5000 5000 (.b 5000 (.b 5000 (.c 5000 (.b 5000 (.d 5000 5000 (.b 5000 (.b 5000 (.c 5000 (.k 0 [] [] [12104,12103,12102,12101] [12101,12102,12103,12104] (.g [] [] [] [12101,12102,12103,12104] (.g [] [] [] [12101,12102,12103,12104] (.a (.e 3 (.g [3] [12101,12102,12103,12104] [] [3,12101,12102,12103,12104] Ov))))))))))))))))))))))),(15,.an (.dc 10 [30,31,32,33,34,35,36,37,38,1000000009] [3,5000] [] (.b 5000 (.b 5000 (.b 3 (.c 3 (.b 3 (.c 3 (.d 5000 5000 (.b 5000 (.b 5000 (.g [5000] [] [] [5000,5005,5006,5007,12101,12102,12103,12104] (.tl Qj7))))))))))))),(17,.gh (.fz 12101 (.dt 5000 (.dt 3 .done)))),(17,.an (.dc 16 [43,44,45,46,47,48,49,50,51,42,52,53,54,55,56,1000000015] [3,5000] [] (.b 5000 (.b 3 (.c 3 (.b 5000 (.d 5000 5000 (.b 5000 (.b 5000 (.c 5000 (.k 1 [] [] [] [] (.a (.a (.a (.d 5000 5000 (.b 5000 (.b 5000 (.g [5000] [] [] [5000,5005,5006,5007,12102,12103,12104] (.tl .done)))))))))))))))))))] func47⟩
def Qzm(N:Nat):V:=⟨⟨46,⟨Qce,[(5000,.var 138 Mu),(5001,.var 144 (.ag (sL [Ff,Dn,Ux,Cd,Dm,.ag (sL [Yi,zs3,zs7,P2,To,Qcf,Qn2]),zs3,.ag (sL [Ux,zs3,Yi,zs3,Yi,Qj8,Qsp,zs3,zs3,zs3,.s 5008,zs3,zs3])]))),(5002,Do),(5003,Hb),(5004,Et),(5005,A6),(5006,U4),(5007,U5),(5008,Zo)]⟩,[⟨Qj9,[(5001,Jks),(1,Hb),(2,Et),(3,A6),(4,U4),(5,U5),(6,Zo)]⟩],u26 (Qa0 N),[5000]⟩,kF N [Qh9] [] func46⟩
def Qov(N:Nat):V:=⟨⟨43,⟨[(0,.f 46 Qn3),(1,.p 5009 [])],[(5000,.var 138 Mu),(5001,.var 144 (.ag (sL [Ff,Dn,Ux,Cd,Dm,.ag (sL [Yi,zs3,zs7,P2,To,Qcf,Qn2]),zs3,.ag (sL [Ux,zs3,Yi,zs3,Yi,Qj8,Qsp,zs3,zs3,zs3,.s 5008,zs3,zs3])]))),(5002,Do),(5003,Hb),(5004,Et),(5005,A6),(5006,U4),(5007,U5),(5008,Zo),(5009,Qn4)]⟩,[⟨[],[(5001,Jks),(5009,Qn4),(1,Hb),(2,Et),(3,A6),(4,U4),(5,U5),(6,Zo)]⟩],u27 (Xh N),[5000]⟩,kF N [Qzm] [(3,.rg (.n 1 Ql8))] func43⟩
def Qki(N:Nat):V:=⟨⟨166,Jrq,[⟨Qh1,[(1,Ze)]⟩],L4 N,[]⟩,kF N [] [(8,.lp [6,7] [] ⟨[(3,Rz),(8,zs3)],[(100000,Ze)]⟩ [(.x 0,⟨[(3,Ql6)],[(100100,Ze)]⟩)]),(21,.rg (.n 2 (.fz 14 Q8p)))] func166⟩
def L8(N:Nat):V:=⟨⟨111,Jj9,[Q3y],Gl N,[]⟩,kF N [Qki] [(3,.an (.dc 8 [3,4,5,6,7,8,9,10] [1] [] (.b 1 (.c 1 (.k 0 [] [] [10501] [10501] (.b 1 (.c 1 (.e 8 Jrr))))))))] func111⟩
def Qmd(N:Nat):V:=⟨⟨112,Jbs,[zs5],u3 (Og N),[]⟩,kF N [] [(6,.lp [1,2,9,10] [] Jkt Jj2)] func112⟩
def Qme(N:Nat):V:=⟨⟨137,(sD [.sl V7]),[Jrs],Hu N,[]⟩,kF N [] [(8,.lp [9,10] [] ⟨[(3,Jb0),(11,zs3)],[(100000,Qcd)]⟩ [(.x 0,⟨[(3,.m 100200)],[(100200,Qcd)]⟩)]),(16,.jn [11] [] [(.n,⟨[(3,Jb1)],[(100100,Qcd)]⟩)])] func137⟩
def Qs0(N:Nat):V:=⟨⟨113,(sD [.sl V7,.i]),[⟨[(0,Tm),(1,zs3)],[(1,Qcb)]⟩],u2 (Ee N),[]⟩,kF N [Qme] [(16,.lp [0,1] [11201] Ql4 [(.x 0,Ql4)]),(19,.rg (.n 5 (.sp 25 8 [8] [] ⟨[(33,zs7)],[]⟩ Qnz Qnz .done)))] func113⟩
def Xr(N:Nat):V:=⟨⟨169,Jb2,[zs5],u3 (Yx N),[]⟩,kF N [] [] func169⟩
def Cf(N:Nat):V:=⟨⟨170,zs2,[zs5],Ef N,[]⟩,kF N [] [] func170⟩
def Cg(N:Nat):V:=⟨⟨167,(sD [V7]),[zs2],Eg N,[]⟩,kF N [Xr,Cf] [(5,.rg (.n 2 (.call 0 (.n 2 (.sp 8 5 [1] [1] ⟨[(13,zs7)],[]⟩ Ba Jju (.n 1 (.sp 14 5 [1] [1] Jjt Ba Q3s V6))))))),(11,.rg (.n 2 (.call 0 (.n 2 (.sp 25 5 [1] [1] ⟨[(30,zs7)],[]⟩ Ba Q3s V6)))))] func167⟩
def L9(N:Nat):V:=⟨⟨168,Qn6,[Qn6],u2 (Vp N),[]⟩,kF N [] [] func168⟩
def Qow(N:Nat):V:=⟨⟨115,Qn6,[Qn6],u2 (Ro N),[]⟩,kF N [Cg,L9,Xr,Cf] [(14,.rg (.n 1 (.call 2 (.n 2 (.sp 19 7 [1,2,4] [2,4] ⟨[(26,zs7)],[]⟩ Qbe (.nl 4 (.call 3 Quo)) .done)))))] func115⟩
def Qgg(N:Nat):V:=⟨⟨114,⟨[(0,.d V7),(1,zs3),(2,Hz)],[(5000,Q35)]⟩,[⟨[],[(5000,Q35)]⟩],u3 (G5 N),[]⟩,kF N [] [] func114⟩
def Qs1(N:Nat):V:=⟨⟨116,Qn6,[Qn6],u2 (Qa1 N),[]⟩,kF N [Cg,L9,Xr] [] func116⟩
def Qkj(N:Nat):V:=⟨⟨74,(sD [.sl Jy,Xe,.i,.i]),[Q3y],u4 (J5 N),[]⟩,kF N [L8,Qmd,Qs0,Qow,Qgg,Qs1] [(6,.rg (.n 7 (.sp 24 6 [0,2,3,8,9] [5,8,9,11701,11702,11703] ⟨[(30,zs7)],[]⟩ Quq Jow .done))),(22,.lp [2,3,8,9,10,11,44,45] [5,8,9,11701,11702,11703,13601] ⟨[(12,Qco),(13,.f 114 (sL [Qco])),(46,zs3)],[(100100,Q35)]⟩ [(.x 0,⟨[(12,Qwy)],[(100400,Q35)]⟩)]),(30,.jn [46] [] [(.n,⟨[(12,Qg4),(13,.f 114 (sL [Qg4]))],[(100300,Q35)]⟩)]),(35,.an (.dr 20 (.n 5 (.sp 54 9 [12,13,15,46] [15,100100] ⟨[(63,zs7)],[]⟩ Ql5 Ql5 Q3r)) .done)),(45,.rg (.n 4 (.call 3 Jku))),(49,.rg (.n 4 (.call 5 Jku)))] func74⟩
def O7(N:Nat):V:=⟨⟨117,Jb3,[Jkv],W8 N,[]⟩,kF N [] [] func117⟩
def Qn8(N:Nat):V:=⟨⟨118,Jb3,[(sD [Q5])],Ay N,[]⟩,kF N [] [] func118⟩
def Qox(N:Nat):V:=⟨⟨119,Qww,[zs2],u2 (Rp N),[]⟩,kF N [] [(6,.lp [1,7,8] [] Qsr Qup)] func119⟩
def Qep(N:Nat):V:=⟨⟨213,⟨[(0,Cd),(1,Hz)],[(5000,Q36)]⟩,[zs5],u2 (Ai N),[5000]⟩,kF N [] [(6,.lp [1,7,8] [2] Qsr [(.x 0,zs6),(.r,⟨[(3,zs7)],[]⟩)])] func213⟩
def Qeq(N:Nat):V:=⟨⟨240,Jbm,[zs5],u2 (Aj N),[]⟩,kF N [] [] func240⟩
def Qer(N:Nat):V:=⟨⟨241,Jbm,[Q3v],u2 (Ak N),[]⟩,kF N [] [] func241⟩
def Lq(N:Nat):V:=⟨⟨239,⟨[(0,Jb4),(1,.f 240 .nil),(2,.f 241 .nil)],[]⟩,[Qj6],Zh N,[]⟩,kF N [Qeq,Qer] [(8,.lp [1,2,11,12] [] ⟨Jqz,Jbl⟩ Jrt),(16,.jn [13] [] Jru),(22,.an (.dc 10 [19,20,21,22,23,24,25,26,27,28] [100000,9] [] (.a (.a (.a (.so 21 (.a (.b 100000 (.a (.a (.d 100000 100000 (.c 100000 (.c 9 (.tl Ql8)))))))) Jbq)))))),(24,.an (.dc 11 [31,32,33,34,35,36,37,38,39,40,41] [100000,9] [] (.b 100000 (.a (.a (.a (.b 100000 (.a (.a (.d 100000 100000 (.c 100000 (.c 9 (.k 1 [] [] [] [] Je8)))))))))))))] func239⟩
def Qia(N:Nat):V:=⟨⟨212,⟨[(0,Jq2),(1,zs3),(2,.f 213 Qn3)],[(5000,Q36)]⟩,[Qj6],u3 (D9 N),[5000]⟩,kF N [O4,Qep,Lq] [(8,.lp [2,12,13] [11201] ⟨[(7,Rz),(14,zs3)],Jbl⟩ Jrt),(16,.jn [14] [] Jru),(20,.rg (.n 2 (.call 1 .done)))] func212⟩
def Qib(N:Nat):V:=⟨⟨171,(sD [.sl Jy,.i,.str]),[Qj6],u3 (Ia N),[]⟩,kF N [Qia] [] func171⟩
def Qoy(N:Nat):V:=⟨⟨172,(sD [U6,U6]),[zs5],u2 (Rq N),[]⟩,kF N [] [] func172⟩
def Qkk(N:Nat):V:=⟨⟨120,Qww,[⟨Qh1,[(1,Jb5)]⟩],u2 (L5 N),[]⟩,kF N [Qib,Qoy] [(5,.rg (.br V6)),(12,.lp [0,1,15,16] [] ⟨[(5,Jb0),(6,.m 100001),(7,Joz),(17,zs3)],[(100000,Qn1),(100001,Qw0),(100002,Jb5)]⟩ [(.x 0,⟨[(7,.s 101100)],[(101100,Jb5)]⟩)]),(20,.jn [17] [] [(.n,⟨[(5,.m 101000),(6,.m 101001),(7,.s 101002)],[(101000,Qn1),(101001,Qw0),(101002,Jb5)]⟩)]),(24,.jn [6,7,9,17] [9,100001,100002] [(.n,⟨[(5,Jb1)],[(100100,Qn1)]⟩)]),(31,.jn [5,7,9,17] [9,100002,100100] [(.n,⟨[(6,.m 100300),(51,zs7)],[(100300,Qw0)]⟩)]),(31,.gh (.op (.v 9 [.f 5 5]) 100001 700000 .done)),(31,.rg (.n 11 (.sp 43 8 [5,6,7,9,17] [100001,700000] ⟨[(51,zs7)],[]⟩ Qnz (.nl 3 (.br (.nl 2 (.br V6)))) (.cl 100001 .done)))),(36,.jn [5,7,9,17] [9,100002,100100] [(.n,⟨[(6,.m 100500)],[(100500,Qw0)]⟩)]),(37,.jn [5,7,9,17] [] [(.n,⟨[(6,.m 100400),(56,zs7)],[(100400,Qw0)]⟩)]),(37,.gh (.op (.v 9 [.f 5 5]) 100300 700001 .done)),(37,.rg (.n 3 (.br (.n 1 (.cl 100300 .done))))),(39,.rg (.n 4 (.br .done))),(42,.jn [5,7,9,17] [9,100002,100100] [(.n,⟨[(6,.m 100600)],[(100600,Qw0)]⟩)]),(42,.gh (.op (.v 9 [.f 5 5]) 100500 700002 .done)),(42,.rg (.n 3 (.br (.n 3 (.cl 100500 .done))))),(44,.an (.dc 13 [67,68,69,70,71,72,73,74,75,76,77,78,10] [9] [] (.a (.b 9 (.c 9 (.b 9 (.c 9 (.a (.b 9 (.c 9 (.b 9 (.c 9 (.k 0 [] [] [17701] [17701] (.b 17701 (.e 10 Ov))))))))))))))),(49,.gh (.fz 17701 .done)),(49,.lp [5,6,7,10,17] [9,10,17701,100002,100100,100600] Jkt [(.x 2,Jkt)]),(52,.jn [11] [] Jvm),(52,.an (.dc 10 [79,80,81,82,83,84,85,86,87,88] [] [100002,10] (.a (.b 100002 (.c 100002 (.a (.a (.so 83 (.b 100002 (.a (.d 100002 100002 (.c 100002 (.d 10 17701 (.tl Jjz)))))) Jq0)))))))),(59,.rg (.n 2 (.fz 100002 Q8p)))] func120⟩
def H1(N:Nat):V:=⟨⟨174,Jbm,[Jqs],u2 (Ka N),[]⟩,kF N [Wd] [(6,.rg (.n 1 (.call 0 (.n 2 (.sp 21 4 [3,4,6] [2,3,4,6] Jkw Qbd (.nl 1 Jjv) Jbk)))))] func174⟩
def P4(N:Nat):V:=⟨⟨251,zs2,[zs2],Kw N,[]⟩,kF N [] [(7,.jn [] [] [(.n,Q8m)])] func251⟩
def Qoz(N:Nat):V:=⟨⟨264,zs2,[zs5],Rr N,[]⟩,kF N [] [] func264⟩
def Ma(N:Nat):V:=⟨⟨252,Ow,[zs2],u2 (Xi N),[]⟩,kF N [Qoz] [(6,.rg (.n 3 (.sp 9 3 [0,1,5] [5] ⟨[(12,zs7)],[]⟩ Jkx Je6 .done)))] func252⟩
def Qo0(N:Nat):V:=⟨⟨224,zs2,[(sD [Qfn])],Rs N,[]⟩,kF N [P4,Ma] [(14,.lp [0,2] [2] ⟨[(3,Tn)],[(100000,Jb6)]⟩ [(.x 0,⟨Qwv,[(100100,Jb6)]⟩)]),(27,.lp [2] [2] ⟨[(0,zs3),(3,Ql7)],[(100200,Jb6)]⟩ [(.x 2,⟨[(0,zs3),(3,Qg4)],[(100300,Jb6)]⟩)])] func224⟩
def Tu(N:Nat):V:=⟨⟨191,Ow,[zs2],u2 (Hv N),[]⟩,kF N [Qo0] [(7,.jn [] [5] [(.n,zs9)])] func191⟩
def Qkl(N:Nat):V:=⟨⟨263,Ow,[zs2],u2 (L6 N),[]⟩,kF N [Ma] [] func263⟩
def Qs2(N:Nat):V:=⟨⟨250,(sD [Qfn]),[Ow],Qa2 N,[]⟩,kF N [Qkl,P4,Ma] [(4,.jn [1] [1] [(.n,Q3o)]),(4,.an (.dc 11 [6,7,8,9,10,11,12,13,14,15,16] [] [1] (.b 1 (.c 1 (.a (.a (.so 9 Jbq (.b 1 (.c 1 (.b 1 (.c 1 (.b 1 (.c 1 (.k 0 [] [] [] [] (.tl Quo))))))))))))))),(11,.an (.dc 5 [19,20,21,22,23] [1] [] (.b 1 (.c 1 (.k 1 [] [] [] [] Jrr))))),(16,.lp [1] [1] Jj4 [(.x 0,Q8m)])] func250⟩
def Qmf(N:Nat):V:=⟨⟨223,Ow,[zs2],u2 (B2 N),[]⟩,kF N [Qs2] [] func223⟩
def M2(N:Nat):V:=⟨⟨190,Ow,[Q3v],u2 (G6 N),[]⟩,kF N [Qmf] [(5,.jn [4] [4] [(.n,⟨[(5,Tn)],[(100000,Jkg)]⟩)])] func190⟩
def P5(N:Nat):V:=⟨⟨175,(sD [.i,Jf]),[Qj6],u2 (Fr N),[]⟩,kF N [Tu,M2] [(16,.lp [0,3] [3] ⟨[(5,Rz),(6,zs3)],Jbl⟩ [(.x 0,⟨[(5,Ql6)],[(100100,Ll)]⟩)])] func175⟩
def Qes(N:Nat):V:=⟨⟨173,⟨[(0,Qdz),(1,Hz),(2,Mu),(3,.p 5003 [])],[(5000,P1),(5001,.var 158 P2),(5002,Ll),(5003,P1)]⟩,[⟨[],[(5001,.var 158 Tm),(1,Ll)]⟩],u4 (Al N),[5000,5003]⟩,kF N [H1,P5] [(7,.an (.dc 4 [16,17,18,19] [5001,5] [5003] (.d 5001 5002 (.c 5003 (.c 5 (.k 1 [] [] [11901] [11901] Je8))))))] func173⟩
def Qet(N:Nat):V:=⟨⟨242,Jrv,[Jrw],u3 (Am N),[]⟩,kF N [Wd] [(3,.lp [1,7,8] [] ⟨[(2,Hz),(9,zs3)],[(5000,.var 352 Qsn),(100001,Qn7)]⟩ [(.x 0,⟨[],[(5000,.var 352 Q3q),(100201,Qn7)]⟩)]),(11,.jn [9] [] [(.n,⟨[(2,Hz)],[(5000,.var 352 Qdy),(100101,Qn7)]⟩)])] func242⟩
def Tv(N:Nat):V:=⟨⟨242,Jrv,[Jrw],u3 (Gr N),[]⟩,kF N [Wd] [(3,.lp [1,7,8] [] ⟨[(2,Hz),(9,zs3)],[(5000,.var 352 Qsn),(100001,Qn7)]⟩ [(.x 0,⟨[],[(5000,.var 352 Q3q),(100201,Qn7)]⟩)]),(11,.jn [9] [] [(.n,⟨[(2,Hz)],[(5000,.var 352 Qdy),(100101,Qn7)]⟩)])] func242⟩
def Qic(N:Nat):V:=⟨⟨215,(sD [.bool,.bool]),[zs5],u2 (Ib N),[]⟩,kF N [] [] func215⟩
def Qid(N:Nat):V:=⟨⟨214,⟨[(0,Jb4),(1,Jb4),(2,.f 215 .nil)],[]⟩,[Qj6],u2 (Ic N),[]⟩,kF N [Qet,Tv,fun _=>⟨_,Hy⟩,Qic] [(7,.rg (.n 2 (.call 0 .done))),(9,.rg (.n 2 (.call 1 .done))),(22,.lp [2,7,24,25] [7,12101] ⟨[(9,Rz),(10,Q30),(11,zs7),(26,zs3)],[(100000,Ll),(100001,Jb7)]⟩ [(.x 0,⟨[(9,Qny)],Jj8⟩)]),(30,.jn [26] [] [(.n,⟨[(9,Qj5),(10,Jkc),(11,zs7)],[(100300,Ll),(100301,Jb7)]⟩)]),(34,.an (.dr 8 Qj4 V6)),(37,.an (.dr 16 (.n 6 (.sp 44 10 [9,10,11,12,13,26] [13,100000,100001] ⟨[(54,zs7)],[]⟩ Jbp Jbp .done)) .done)),(42,.rg (.n 7 (.call 3 V6))),(44,.jn [10,14,26] [13,100001] [(.n,⟨[(9,Qh2)],[(100200,Ll)]⟩)])] func214⟩
def Qmg(N:Nat):V:=⟨⟨176,(sD [.sl Jf]),[Qj6],Ol N,[]⟩,kF N [Qid] [] func176⟩
def Qo1(N:Nat):V:=⟨⟨121,(sD [.sl U6,.i,.i]),[Qj6],u3 (Rt N),[]⟩,kF N [Qes,Qmg,P5] [(10,.lp [17,18] [] ⟨[(4,Tn),(7,Q30),(8,.f 173 (sL [.p 100002 [],Q30,Tn])),(19,zs3)],[(100000,P1),(100001,.var 158 Jtu),(100002,P1),(100003,Ll)]⟩ [(.x 0,⟨[(4,Qg4),(7,Jkc)],[(100300,P1),(100301,.var 158 Jkl),(100302,Ll)]⟩)]),(24,.lp [19,24,25] [10] ⟨[(4,Qco),(7,Jts),(8,.f 173 (sL [.p 100102 [],Jts,Qco])),(26,zs3)],[(100100,P1),(100101,.var 158 Jjy),(100102,P1),(100103,Ll)]⟩ [(.x 2,⟨[(4,Ql7),(7,Jkf),(8,.f 173 (sL [.p 100202 [],Jkf,Ql7]))],[(100200,P1),(100201,.var 158 Jtt),(100202,P1),(100203,Ll)]⟩)]),(35,.rg (.n 2 (.call 0 .done))),(44,.lp [4,36,37] [13601,100300,100301,100302] ⟨[(13,Qny),(38,zs3)],Jj8⟩ [(.x 4,⟨[(13,Q3x)],[(100500,Ll)]⟩)])] func121⟩
def Qs3(N:Nat):V:=⟨⟨217,⟨[(0,.d Yv),(1,Hz),(2,Mu)],Jrx⟩,[zs5],u3 (Qa3 N),[5000,5001]⟩,kF N [] [] func217⟩
def Mc(N:Nat):V:=⟨⟨216,⟨[(0,.d (.sl Yv)),(1,.f 217 (sL [Hz,Mu]))],Jrx⟩,[⟨Qh1,[(1,Qka)]⟩],u3 (Kb N),[5000,5001]⟩,kF N [Qs3] [(8,.lp [1,8,9] [] ⟨Jkb,[(100000,Qka)]⟩ [(.x 0,⟨Jox,[(100200,Qka)]⟩)]),(16,.jn [10] [] [(.n,⟨[(5,Ql6)],[(100100,Qka)]⟩)]),(20,.rg (.n 2 (.call 0 .done)))] func216⟩
def Qo2(N:Nat):V:=⟨⟨218,Jvo,[⟨[(0,.ag (sL [Yi,zs3,zs3,Yi,zs7,Tm]))],[(1,Qw1)]⟩],Ru N,[]⟩,kF N [] [(8,.lp [1,2,7,8] [1,2] ⟨[(3,Rz),(9,zs3)],[(100000,Qw1)]⟩ [(.x 0,⟨[(3,Ql6)],[(100100,Qw1)]⟩)]),(21,.rg (.n 2 (.fz 15 Q8p)))] func218⟩
def Qzn(N:Nat):V:=⟨⟨177,(sD [.sl Yv,.str,.i]),[⟨[(0,.ag (sL [Yi,zs3,zs3,Yi,zs7,Tm])),(1,zs7)],[(1,Qw1)]⟩],u3 (Qhx N),[]⟩,kF N [Mc,Qo2] [] func177⟩
def Qbk(N:Nat):V:=⟨⟨122,(sD [U6,.sl Yv,Jf]),[⟨Qh1,[(1,Jb8)]⟩],u3 (Uu N),[]⟩,kF N [H1,Qzn] [(6,.lp [1,3,5,18,19] [3,5] ⟨[(20,zs3)],[]⟩ [(.x 0,zs6),(.r,⟨[(6,Qny)],[(100400,Jb8)]⟩)]),(33,.lp [9,42,43] [8,9,11,13801] ⟨[(13,Ql6),(44,zs3)],[(100100,Jb8)]⟩ [(.x 2,⟨[(13,Qh2)],[(100200,Jb8)]⟩)])] func122⟩
def P6(N:Nat):V:=⟨⟨178,Jky,[zs5],u2 (Kx N),[]⟩,kF N [] [] func178⟩
def Qs4(N:Nat):V:=⟨⟨179,(sD [Yu,Yu,.i]),[Jkv],u3 (B3 N),[]⟩,kF N [O7,P6] [(5,.jn [6] [3,4,6] [(.n,⟨[(7,Tn)],[(100000,.var 58 (.ag (sL [zs3,zs3,Yi,zs3,zs3,Qsn,Qdz,zs3,zs3,zs3,zs7]))),(100001,Qsl)]⟩)])] func179⟩
def Qo3(N:Nat):V:=⟨⟨180,Jky,[zs5],u2 (Fa N),[]⟩,kF N [] [] func180⟩
def Qie(N:Nat):V:=⟨⟨123,⟨[(0,Hz),(1,.d Fl)],[(5000,.var 221 (.ag (sL [Qsq,Qwx]))),(5001,Ze),(5002,Qcg)]⟩,[⟨[],[(5000,.var 221 (.ag (sL [Tm,Qwx]))),(5002,Qcg),(1,Ze)]⟩],u3 (X8 N),[]⟩,kF N [Qn8,O7,P6,Qs4,Qo3] [(4,.an (.dc 7 [9,10,11,12,13,14,15] [5000,3] [] (.b 5000 (.d 5000 5000 (.b 5000 (.d 5000 5002 (.b 3 (.c 3 Jry)))))))),(14,.gh (.fz 11901 .done)),(14,.lp [0,3,23,24] [3,5000,5001,5002] ⟨[(4,Tn),(25,zs3)],[(100000,.var 58 (.ag (sL [zs3,zs3,Yi,zs3,zs3,Qsn,Qdz,zs3,zs3,zs3,zs7]))),(100001,.tail 9 .str)]⟩ [(.x 0,⟨[(4,Qco)],[(100100,.var 58 (.ag (sL [zs3,zs3,Yi,zs3,zs3,Qdy,Qdz,zs3,zs3,zs3,zs7]))),(100101,.tail 9 .str)]⟩)]),(37,.lp [0,4] [3,5000,5001,5002,100100,100101] Qsj [(.x 2,Qsj)]),(40,.jn [7] [] [(.n,Jtl)]),(40,.an (.dc 16 [38,39,40,41,42,43,44,45,46,47,48,49,50,51,52,53] [] [5000,5001,100100] (.a (.b 5000 (.d 5000 5000 (.b 5000 (.d 5000 5001 (.c 5001 (.a (.a (.so 45 (.b 5000 (.d 5000 5000 (.b 5000 (.d 5000 5001 (.a (.d 5001 5001 (.c 5001 (.d 100100 100101 (.tl (.call 4 V6)))))))))) (.a Jbq)))))))))))),(47,.rg (.n 5 (.fz 5001 Q8p))),(52,.gh (.dt 100100 .done)),(52,.an (.dc 6 [80,81,82,83,84,85] [5000,100100] [] (.b 5000 (.d 5000 5000 (.b 5000 (.d 5000 5002 (.c 100100 Jry)))))))] func123⟩
def Qmh(N:Nat):V:=⟨⟨75,(sD [.sl Jy,.sl Yv,Xe,.i,.i]),[Q3y],u5 (Jz N),[]⟩,kF N [O7,Qn8,Qox,Qkk,Qo1,Qbk,Qie] [(8,.lp [0,1,3,4,7,10,27,28] [7,10] ⟨[(11,Tn),(29,zs3)],[(100000,.var 221 (.ag (sL [Qsn,.m 100002]))),(100001,Ze),(100002,Qcg)]⟩ [(.x 0,⟨[(11,Qco)],[(100100,.var 221 (.ag (sL [Qdy,.m 100102]))),(100101,Ze),(100102,Qcg)]⟩)]),(20,.an (.dc 9 [33,34,35,36,37,38,39,40,41] [100000,13,100001] [] (.b 100000 (.b 100000 (.d 100000 100000 (.b 100000 (.d 100000 100001 (.c 13 (.k 0 [] [] [13901] [13901] (.op ⟨.fz 13901 (.nl 1 .done),[13901],[],[],[13901]⟩ (.g [100001] [] [41] [41] Qsm))))))))))),(21,.an (.dc 6 [44,45,46,47,48,49] [100000,13] [] (.b 100000 (.d 100000 100000 (.b 100000 (.d 100000 100002 (.c 13 (.k 1 [] [] [] [] Ov)))))))),(24,.an (.dc 8 [51,52,53,54,55,56,57,14] [7] [] (.b 7 (.c 7 (.e 53 (.b 7 (.c 7 (.e 56 (.g [] [] [] [53,56] (.e 14 Ov)))))))))),(28,.jn [10,14] [7,10,14,53,56] [(.n,⟨[(11,.p 100900 [])],[(100900,.var 221 (.ag (sL [.s 100901,.m 100902]))),(100901,Ze),(100902,Qcg)]⟩)]),(36,.lp [1,4,10,14,16,77,78] [17301,17701] ⟨[(11,Ql7),(79,zs3)],[(100200,.var 221 (.ag (sL [Q3q,.m 100202]))),(100201,Ze),(100202,Qcg)]⟩ [(.x 2,⟨[(11,.p 100800 [])],[(100800,.var 221 (.ag (sL [.s 100801,.m 100802]))),(100801,Ze),(100802,Qcg)]⟩)]),(50,.lp [18,79,83,84] [18] ⟨[(11,Qg4),(85,zs3)],[(100300,.var 221 (.ag (sL [Q32,.m 100302]))),(100301,Ze),(100302,Qcg)]⟩ [(.x 4,⟨[(11,.p 100700 [])],[(100700,.var 221 (.ag (sL [Jkp,.m 100702]))),(100701,Ze),(100702,Qcg)]⟩)]),(64,.lp [85,92,93] [20,19201] ⟨[(11,Qwy),(94,zs3)],[(100400,.var 221 (.ag (sL [Jbx,.m 100402]))),(100401,Ze),(100402,Qcg)]⟩ [(.x 6,⟨[(11,.p 100600 [])],[(100600,.var 221 (.ag (sL [Jko,.m 100602]))),(100601,Ze),(100602,Qcg)]⟩)]),(72,.jn [94] [] [(.n,⟨[(11,.p 100500 [])],[(100500,.var 221 (.ag (sL [Jkn,.m 100502]))),(100501,Ze),(100502,Qcg)]⟩)])] func75⟩
def Qs5(N:Nat):V:=⟨⟨219,Jb3,[Jkv],M7 N,[]⟩,kF N [] [] func219⟩
def Qo4(N:Nat):V:=⟨⟨181,Jrq,[⟨Qh1,[(1,Ze)]⟩],Fb N,[]⟩,kF N [Qs5] [(8,.lp [6,7] [] ⟨[(3,Rz),(8,zs3)],[(100000,Ze)]⟩ [(.x 0,⟨[(3,Ql6)],[(100100,Ze)]⟩)]),(19,.rg (.n 2 (.call 0 (.fz 11401 Q8p))))] func181⟩
def Qmi(N:Nat):V:=⟨⟨245,Ow,[zs2],u2 (Uv N),[]⟩,kF N [] [] func245⟩
def Qmj(N:Nat):V:=⟨⟨220,Jky,[zs5],u2 (Hw N),[]⟩,kF N [Qmi] [] func220⟩
def M3(N n:Nat):Con:=⟨182,(sD [.sl Yu,.i,.i]),[(sD [.sl .i])],fun(x0,x1,x2)=>Va N n x0 x1 x2,[]⟩
theorem O8(N:Nat):∀n,KO (M3 N n)
 | 0=>⟨Bl fun _=>rfl,Ms func182 rfl⟩
 | n+1=>have ih:=O8 N n; kF N [fun _=>⟨_,ih⟩,Qmj] [(12,.lp [2] [] Jqo [(.x 0,⟨Q3u,[(100100,Fd)]⟩)]),(37,.lp [0,10,11] [] ⟨[(12,Qh2),(13,zs3),(14,zs3)],Jj7⟩ [(.x 2,⟨[(12,Qny)],Jj6⟩)]),(46,.jn [12,13,14] [100200] [(.n,⟨[(85,zs7)],[]⟩)]),(46,.an (.dc 24 [58,59,60,61,62,63,64,65,66,67,68,69,70,71,72,73,74,75,76,77,78,79,80,81] [] [] (.a (.a (.a (.a (.a (.so 62 (.a (.a (.a (.a (.a Jrz))))) (.a (.a (.a (.a (.a (.so 67 (.a (.a (.a (.a (.a (.a (.a (.a (.a (.a (.a (.a (.a (.a (.tl (.call 1 Je6)))))))))))))))) Jrz))))))))))))))] func182
def Qo5(N:Nat):V:=⟨M3 N N,O8 N N⟩
def Qo6(N:Nat):V:=⟨⟨183,(sD [Yu,.i,.i,.i,.str,.bool,.i]),[zs5],u7 (Vq N),[]⟩,kF N [Mz] [(4,.rg (.n 10 (.sp 26 6 [1,2,4,5,6,7] [7] ⟨[(32,zs7)],[]⟩ Quq (.nl 3 Jjv) .done))),(22,.lp [4,7,53,54] [7] ⟨[(55,zs3)],[]⟩ [(.x 0,zs6),(.r,⟨[(14,zs7)],[]⟩)])] func183⟩
def Q4a(N:Nat):V:=⟨⟨184,Jb3,[(sD [S8])],Qfo N,[]⟩,kF N [] [] func184⟩
def Quu(N:Nat):V:=⟨⟨124,(sD [.sl Yu,.i,.i,.i,.str,.bool,.i,.i]),[⟨[(0,Tm),(1,Q3p),(2,zs3)],[(1,Ze),(2,U4)]⟩],u8 (A3 N),[]⟩,kF N [Qo4,Qo5,Qo6,Q4a] [(12,.lp [0,1,2,3,4,5,6,32,33] [] ⟨[(7,zs3),(19,Rz),(20,Qsn),(34,zs3)],[(100000,Ze),(100001,U4)]⟩ [(.x 0,⟨[(7,zs3),(19,Qj5),(20,Q32)],[(100300,Ze),(100301,U4)]⟩)]),(20,.jn [34] [] [(.n,⟨[(7,zs3),(19,Qh2),(20,Q3q)],[(100200,Ze),(100201,U4)]⟩),(.x 0,⟨[(7,zs3),(19,Ql6),(20,Qdy)],[(100100,Ze),(100101,U4)]⟩)])] func124⟩
def Qo7(N:Nat):V:=⟨⟨76,(sD [Xe,J9,.str,.bool]),[⟨[(0,Je7),(1,.s 4),(2,zs3)],[(1,Ze),(2,Qcb),(3,Qcc),(4,U4)]⟩],u4 (Ys N),[]⟩,kF N [L8,Quu] [] func76⟩
def Qmk(N:Nat):V:=⟨⟨49,⟨Qce,[(5000,.var 144 (.ag (sL [Ff,Dn,Ux,Cd,Dm,.ag (sL [Yi,zs3,zs7,Qn5,Qsq,P2,To]),zs3,.ag (sL [Ux,zs3,Yi,zs3,Yi,Qcf,Qn2,zs3,zs3,zs3,Qj8,zs3,zs3])]))),(5001,Hb),(5002,Et),(5003,A6),(5004,U4),(5005,U5),(5006,Zo)]⟩,[⟨[],[(5000,.var 144 (.ag (sL [Ff,Je7,Ux,Cd,Dm,.ag (sL [Yi,zs3,zs7,Qn5,.s 4,.s 5,.s 6]),zs3,.ag (sL [Ux,zs3,Yi,zs3,Yi,.s 7,.s 8,zs3,zs3,zs3,.s 9,zs3,zs3])]))),(1,Ze),(2,Qcb),(3,Qcc),(4,Hb),(5,Et),(6,A6),(7,U4),(8,U5),(9,Zo)]⟩],u26 (B4 N),[5004]⟩,kF N [Qkj,Qmh,Qo7] [(1,.an (.dc 21 [5,6,7,8,9,10,11,12,13,14,15,16,17,18,19,20,21,22,23,24,2] [5000] [] (.b 5000 (.d 5000 5000 (.b 5000 (.b 5000 (.c 5000 (.b 5000 (.d 5000 5000 (.b 5000 (.c 5000 (.b 5000 (.d 5000 5000 (.b 5000 (.b 5000 (.c 5000 (.b 5000 (.d 5000 5000 (.b 5000 (.b 5000 (.c 5000 (.k 0 [] [] [12403,12402,12401] [12401,12402,12403] (.e 2 Ov))))))))))))))))))))))),(3,.an (.dr 21 (.n 21 .done) Jjz)),(5,.gh (.fz 14601 (.dt 2 (.fz 14602 (.dt 2 (.fz 14603 (.dt 2 .done))))))),(5,.an (.dc 22 [48,49,50,51,52,53,54,55,56,57,58,59,60,61,62,63,47,64,65,66,1000000020,3] [2,5000] [] (.c 2 (.b 5000 (.d 5000 5000 (.b 5000 (.c 5000 (.b 5000 (.d 5000 5000 (.b 5000 (.b 5000 (.c 5000 (.b 5000 (.d 5000 5000 (.b 5000 (.b 5000 (.c 5000 (.k 2 [] [] [16304,16303,16302,16301] [16301,16302,16303,16304] (.g [] [] [] [16301,16302,16303,16304] (.g [] [] [] [16301,16302,16303] (.b 16304 (.a (.g [2] [16301,16302,16303] [] [2,16301,16302,16303] (.b 16304 Ov))))))))))))))))))))))))] func49⟩
def Qml(N:Nat):V:=⟨⟨185,(sD [J9,.i]),[zs5],u2 (Om N),[]⟩,kF N [] [] func185⟩
def Qzo(N:Nat):V:=⟨⟨192,Qoo,[zs5],Qhy N,[]⟩,kF N [] [(6,.lp [0,6] [] Qsj Qsk)] func192⟩
def Qo8(N:Nat):V:=⟨⟨194,⟨[(0,.d Uh),(1,Hz)],Jr0⟩,[zs5],u2 (Rw N),[5000]⟩,kF N [] [] func194⟩
def Nc(N:Nat):V:=⟨⟨225,Jr2,[zs2],u2 (Kr N),[5000]⟩,kF N [Qo8] [(6,.lp [0,1,7] [] Ql4 Qup),(18,.rg (.n 5 (.call 0 .done)))] func225⟩
def Ii(N:Nat):V:=⟨⟨193,Jr2,[zs5],u2 (U8 N),[5000]⟩,kF N [Nc] [] func193⟩
def Quv(N:Nat):V:=⟨⟨195,Jrb,[zs2],Qdt N,[]⟩,kF N [] [(22,.lp [11,12] [] ⟨[(13,zs3)],[]⟩ Qop)] func195⟩
def R7(N:Nat):V:=⟨⟨130,Jqk,[zs2],Lg N,[]⟩,kF N [Qzo,Ii,Quv] [(22,.lp [0,12,13] [] ⟨[(14,zs3)],[]⟩ Qop),(30,.jn [14] [] [(.n,zs6),(.r,⟨[(2,zs3)],[]⟩)])] func130⟩
def Qif(N:Nat):V:=⟨⟨227,Q3w,[zs2],u2 (Id N),[]⟩,kF N [] [(6,.lp [0,1,7] [] Ql4 Qup)] func227⟩
def Qcw(N:Nat):V:=⟨⟨198,Q3w,[zs5],u2 (E3 N),[]⟩,kF N [Qif] [] func198⟩
def O9(N:Nat):V:=⟨⟨136,zs2,[zs2],Eh N,[]⟩,kF N [] [] func136⟩
def Qn9(N:Nat):V:=⟨⟨132,Q3w,[zs2],u2 (Qfp N),[]⟩,kF N [Qcw,O9] [] func132⟩
def Qs6(N:Nat):V:=⟨⟨196,⟨[(0,.d Xx),(1,Hz),(2,Mu)],Jr3⟩,[zs5],u3 (Qa4 N),[5000,5001]⟩,kF N [] [] func196⟩
def Nd(N:Nat):V:=⟨⟨226,Jr4,[zs2],u3 (Ks N),[5000,5001]⟩,kF N [Qs6] [(6,.lp [0,1,7] [] Ql4 Qup),(18,.rg (.n 5 (.call 0 .done)))] func226⟩
def Ij(N:Nat):V:=⟨⟨197,Jr4,[zs5],u3 (U9 N),[5000,5001]⟩,kF N [Nd] [] func197⟩
def Qkm(N:Nat):V:=⟨⟨131,(sD [.sl Uh,.i,.i]),[Qoo],u3 (Qa5 N),[]⟩,kF N [Ij] [(8,.lp [0,7,11,12] [4,5] ⟨[(13,zs3)],[]⟩ [(.x 0,zs6),(.r,⟨[(6,Yi)],[]⟩)])] func131⟩
def Qs7(N:Nat):V:=⟨⟨80,(sD [.sl Uh,.sl .i,.i]),[Qoo],u3 (Lh N),[]⟩,kF N [R7,Qn9,Qkm] [] func80⟩
def Qs8(N:Nat):V:=⟨⟨221,(sD [.sl Uh,.i]),[Jj5],u2 (Qa6 N),[]⟩,kF N [fun _=>⟨_,Qh0⟩,fun _=>⟨_,Qcn⟩,fun _=>⟨_,L7⟩] [(3,.rg (.br V6)),(8,.lp [1,11,12] [] ⟨[(5,Rz),(13,zs3)],Jj3⟩ [(.x 0,⟨[(5,Qny)],Jj6⟩)]),(22,.lp [13,18,19] [7] ⟨[(5,Ql6),(20,zs3)],[(100100,Fd)]⟩ [(.x 2,⟨[(5,Qj5)],[(100300,Fd)]⟩)]),(30,.jn [20] [] [(.n,⟨Jox,Jj7⟩)]),(36,.rg (.n 5 (.br Q8q)))] func221⟩
def Q4b(N:Nat):V:=⟨⟨186,(sD [.sl Uh,.sl .i,Jf]),[⟨Qh1,[(1,Qw2)]⟩],u3 (Ql3 N),[]⟩,kF N [R7,Wd,Qn9,Qs8,H1,Qkm] [(4,.rg (.n 1 (.call 0 (.n 2 (.sp 21 4 [0,1,5] [5] Jkw Qbd Q34 Qj4))))),(16,.lp [0,1,5] [5] ⟨[(7,Ql6),(8,zs3)],[(100100,Qw2)]⟩ [(.x 0,⟨[(7,.s 100700)],[(100700,Qw2)]⟩)]),(32,.lp [8,9,10,51,52] [15001] ⟨[(7,Qh2),(53,zs3)],[(100200,Qw2)]⟩ [(.x 2,⟨[(7,.s 100600)],[(100600,Qw2)]⟩)]),(40,.jn [53] [] [(.n,⟨[(7,Q3x)],[(100500,Qw2)]⟩)]),(46,.jn [7,12,53] [100200] [(.n,⟨[(13,Qg4)],[(100300,Jkg)]⟩)]),(60,.an (.dc 7 [90,91,92,93,94,95,16] [14] [] (.a (.a (.a (.k 5 [] [] [] [] (.c 14 (.a (.e 16 Ov))))))))),(64,.an (.dr 12 (.n 3 (.sp 101 9 [7,14,16,17,53] [14,16,100200,100300] ⟨[(110,zs7)],[]⟩ Ql5 Ql5 .done)) .done))] func186⟩
def Qmm(N:Nat):V:=⟨⟨187,⟨[(0,.d H9),(1,Hz),(2,Mu),(3,.p 5002 [])],[(5000,P1),(5001,Q36),(5002,Q36)]⟩,[zs5],u4 (On N),[5000,5001,5002]⟩,kF N [] [] func187⟩
def Qs9(N:Nat):V:=⟨⟨126,(sD [Ye,.i,.str,.str]),[⟨[(0,.ag (sL [zs3,Yi,Yi,zs3,Tm])),(1,zs7)],[(1,Jby)]⟩],u4 (Qa7 N),[]⟩,kF N [Qmm] [(8,.lp [10,15,16] [4,5,6,7] ⟨[(8,Tn),(17,zs3)],[(100000,Jr5)]⟩ [(.x 0,⟨[(8,Qco)],[(100100,Jr5)]⟩),(.r,⟨[(8,Ql7),(9,zs7)],[(100200,.var 102 (.ag (sL [zs3,Yi,Yi,zs3,Q3q]))),(100201,Jby)]⟩)]),(20,.rg (.n 2 (.call 0 .done)))] func126⟩
def Tw(N:Nat):V:=⟨⟨222,(sD [.i,.sl .i]),[zs5],u2 (Hx N),[]⟩,kF N [] [(6,.lp [0,7,8] [] Qsr zs8)] func222⟩
def Qig(N:Nat):V:=⟨⟨188,⟨[(0,.s 5000)],Jkz⟩,[zs2],Ie N,[5000]⟩,kF N [Tw] [(24,.lp [0,12,13] [] ⟨[(3,zs3),(14,zs3)],[]⟩ Qop),(37,.rg (.n 5 (.call 0 (.n 7 (.sp 31 6 [3,4,5,14] [5] Jti Quq (.nl 3 Jjv) .done)))))] func188⟩
def Qkn(N:Nat):V:=⟨⟨189,⟨[(0,.s 5000),(1,zs3)],Jkz⟩,[Qss],u2 (Fs N),[5000]⟩,kF N [] [(8,.lp [1,12,13] [] ⟨[(6,zs3),(7,zs3),(14,zs3)],[]⟩ [(.x 0,zs9),(.r,⟨[(4,zs3),(5,zs7)],[]⟩)]),(22,.jn [6,7,9,14] [9] [(.n,⟨[(10,zs3)],[]⟩)]),(37,.an (.dr 7 Jbk .done))] func189⟩
def Qgh(N:Nat):V:=⟨⟨127,⟨[(0,.s 5000),(1,zs3),(2,zs3)],Jkz⟩,[Ow],u3 (B5 N),[5000]⟩,kF N [Qig,Qkn] [] func127⟩
def Qmn(N:Nat):V:=⟨⟨125,Jr6,[⟨Qh1,[(1,U5)]⟩],u4 (Oq N),[]⟩,kF N [Qml,R7,Qs7,Q4b] [(4,.rg (.n 2 (.call 0 (.n 2 (.sp 17 5 [1,3,4,6] [4,6] ⟨[(22,zs7)],[]⟩ Ba Jju .done))))),(13,.jn [1,3,4,6] [4,6] [(.n,Qsr)]),(23,.an (.dc 10 [39,40,41,42,43,44,45,46,47,48] [4,6] [] (.b 4 (.c 4 (.a (.a (.k 2 [] [] [] [] (.a (.b 6 (.c 6 (.a (.a (.tl (.n 1 (.br V6))))))))))))))),(32,.lp [61,62] [4,6,16101] ⟨[(10,Qh2),(63,zs3)],[(100200,U5)]⟩ [(.x 0,⟨[(10,Qj5)],[(100300,U5)]⟩)]),(43,.rg (.n 14 (.br Q8q)))] func125⟩
def Qo9(N:Nat):V:=⟨⟨77,Jr6,[⟨Jr7,[(1,U5)]⟩],u4 (Xj N),[]⟩,kF N [Qkh,Qmn,Qs9,Qgh] [(15,.lp [4,6,11,37] [4,6] ⟨[(13,Rz),(14,zs3),(15,zs3),(16,zs3),(17,zs3),(38,zs3)],[(100000,U5)]⟩ [(.x 0,⟨[(13,Qh2),(14,zs3),(15,zs3),(17,zs3)],[(100200,U5)]⟩)]),(27,.an (.dc 15 [42,43,44,45,46,47,48,49,50,51,41,52,53,19,1000000014] [100000] [4,6] (.c 4 (.b 6 (.c 6 (.a (.b 100000 (.a (.d 100000 100000 (.b 100000 (.c 100000 (.k 2 [] [] [15101] [15101] (.b 15101 (.b 15101 (.a (.e 19 (.g [19] [15101] [] [19,15101] Ov))))))))))))))))),(37,.jn [13,15,16,17,18,19,38] [19,15101,100000] [(.n,⟨[(14,zs3)],[]⟩)]),(43,.an (.dc 13 [61,62,63,64,65,66,67,68,69,60,70,71,21] [19,100000,15101] [] (.b 19 (.d 19 15101 (.a (.b 100000 (.a (.d 100000 100000 (.b 100000 (.c 100000 (.k 3 [] [15101] [] [] Jr8))))))))))),(59,.jn [13,14] [4,6,100200] [(.n,⟨[(17,zs3)],[]⟩)])] func77⟩
def Qmo(N:Nat):V:=⟨⟨50,⟨Qce,[(5000,.var 144 (.ag (sL [Ff,.ag (sL [Qsq,P2,To]),Ux,Cd,Dm,.ag (sL [Yi,zs3,zs7,Qn5,Qcf,Qn2,Qj8]),zs3,Jq7]))),(5001,Ze),(5002,Qcb),(5003,Qcc),(5004,Hb),(5005,Et),(5006,A6),(5007,U4),(5008,U5),(5009,Zo)]⟩,[⟨Qj9,[(5000,Jr9),(1,Ze),(2,Qcb),(3,Qcc),(4,U4),(5,U5),(6,Zo)]⟩],u28 (B6 N),[]⟩,kF N [Qo9] [(3,.gh (.fz 5004 (.dt 5000 (.fz 5005 (.dt 5000 Jq3))))),(3,.an (.dc 24 [10,11,12,13,14,15,16,17,18,19,20,21,22,23,24,25,26,27,9,28,29,30,3,4] [5000] [] (.b 5000 (.d 5000 5000 (.b 5000 (.c 5000 (.b 5000 (.d 5000 5000 (.b 5000 (.b 5000 (.c 5000 (.b 5000 (.d 5000 5000 (.b 5000 (.c 5000 (.b 5000 (.d 5000 5000 (.b 5000 (.c 5000 (.k 0 [] [] [12701] [12701] (.b 12701 (.b 12701 (.a (.a (.b 12701 Qwu))))))))))))))))))))))))),(18,.lp [0,3,4,35,36] [5000,5001,5002,5003,5004,5005,5006,5007,5008,5009,12701] ⟨[(6,zs3),(37,zs3)],[]⟩ [(.x 0,zs9)]),(26,.jn [37] [] [(.n,zs9)])] func50⟩
def Qzp(N:Nat):V:=⟨⟨48,⟨Qce,[(5000,.var 138 Mu),(5001,.var 144 (.ag (sL [Ff,Dn,Ux,Cd,Dm,.ag (sL [Yi,zs3,zs7,Qn5,P2,To,Qcf]),zs3,Jkr]))),(5002,Hb),(5003,Et),(5004,A6),(5005,U4),(5006,U5),(5007,Zo)]⟩,[⟨Qj9,[(5001,Jr9),(1,Ze),(2,Qcb),(3,Qcc),(4,U4),(5,U5),(6,Zo)]⟩],u26 (Qa8 N),[5000,5005]⟩,kF N [Qmk,Qmo] [] func48⟩
def Qpa(N:Nat):V:=⟨⟨43,⟨[(0,.f 48 Qn3),(1,.p 5008 [])],[(5000,.var 138 Mu),(5001,.var 144 (.ag (sL [Ff,Dn,Ux,Cd,Dm,.ag (sL [Yi,zs3,zs7,Qn5,P2,To,Qcf]),zs3,Jkr]))),(5002,Hb),(5003,Et),(5004,A6),(5005,U4),(5006,U5),(5007,Zo),(5008,Qn4)]⟩,[⟨[],[(5001,.var 144 (.ag (sL [Ff,Jb9,Ux,Cd,Dm,.ag (sL [Yi,zs3,zs7,Qn5,Jr1,.d (.sl H9),.d (.sl Vo)]),zs3,Jca]))),(5008,Qn4),(1,U4),(2,U5),(3,Zo)]⟩],u27 (Zl N),[5000]⟩,kF N [Qzp] [(3,.rg (.n 1 Ql8))] func43⟩
def Qmp(N:Nat):V:=⟨⟨129,Ow,[Q3v],u2 (Ke N),[]⟩,kF N [Tu,M2] [] func129⟩
def Tx(N:Nat):V:=⟨⟨79,Jk0,[zs2],u20 (X9 N),[5000,5001,5002,5003]⟩,kF N [Qmp] [(3,.an (.dr 10 Jo1 Jka))] func79⟩
def Ch(N:Nat):V:=⟨⟨128,(sD [Yw,Yw]),[zs2],u2 (Za N),[]⟩,kF N [] [(6,.lp [22] [2,3] ⟨[(23,zs3)],[]⟩ Qup)] func128⟩
def Quw(N:Nat):V:=⟨⟨78,(sD [.sl Yw,.i,.i,.i]),[Jk1],u4 (V8 N),[]⟩,kF N [Ch] [(8,.lp [9,16,17] [9] ⟨[(8,Tn),(18,zs3)],[(100000,Q37)]⟩ [(.x 0,⟨[(8,Qco)],[(100100,Q37)]⟩),(.r,⟨[(8,Ql7)],[(100200,Q37)]⟩)])] func78⟩
def Qta(N:Nat):V:=⟨⟨82,(sD [J9,.str,.str,Yw,.bool]),[(sD [S7])],u5 (K6 N),[]⟩,kF N [O9] [(17,.an (.dr 9 (.n 9 .done) V6))] func82⟩
def Qih(N:Nat):V:=⟨⟨253,zs2,[zs2],Wb N,[]⟩,kF N [] [] func253⟩
def Qgi(N:Nat):V:=⟨⟨254,Qoo,[zs2],Yh N,[]⟩,kF N [] [(7,.jn [3] [] [(.n,⟨[(4,zs7)],[]⟩)]),(33,.jn [3] [] [(.n,⟨[(11,zs7)],[]⟩)])] func254⟩
def Qii(N:Nat):V:=⟨⟨255,(sD [.i,.arr 2 .i]),[Ow],u2 (If N),[]⟩,kF N [] [(3,.an (.dr 6 Q3r .done)),(7,.jn [] [3] [(.n,⟨[(8,zs3),(9,zs7)],[]⟩)]),(15,.jn [6,7,8,14] [] [(.n,Jkw)]),(23,.jn [6,7,8,14] [] [(.n,⟨[(34,zs7)],[]⟩)]),(31,.jn [6,7,8] [] [(.n,⟨[(44,zs7)],[]⟩)])] func255⟩
def Pa(N n:Nat):Con:=⟨228,zs1,[Ow],fun(x0,x1)=>Uw N n x0 x1,[]⟩
theorem P7(N:Nat):∀n,KO (Pa N n)
 | 0=>⟨Bl fun _=>rfl,Ms func228 rfl⟩
 | n+1=>have ih:=P7 N n; kF N [Qih,Tw,Qgi,fun _=>⟨_,ih⟩,Qii] [(12,.an (.dc 6 [14,15,16,17,18,19] [2] [] (.b 2 (.c 2 (.k 0 [] [] [] [] (.b 2 (.c 2 Qwu))))))),(73,.lp [1,2,46,47] [2] ⟨[(7,Tn),(48,zs3)],[(100000,Jb7)]⟩ [(.x 1,⟨[(7,Qco)],[(100100,Jb7)]⟩),(.r,Jj4)])] func228
def Qtb(N:Nat):V:=⟨Pa N N,P7 N N⟩
def Qeu(N:Nat):V:=⟨⟨199,Qso,[Ow],Ei N,[]⟩,kF N [Qtb] [] func199⟩
def E4(N n:Nat):Con:=⟨200,Q38,[zs5],fun(x0,x1)=>Yp N n x0 x1,[]⟩
theorem Qpb(N n:Nat)(ih:KO (E4 N n)):KO ⟨229,Jsc,[zs5],fun(x0,ca,ce)=>Zi N (Yp N n) x0 ca ce,[5000,5001]⟩:=kF N [fun _=>⟨_,ih⟩] [(3,.an (.dr 6 Q3r Ql8))] func229
def Q4c(N:Nat):V:=⟨⟨256,Q38,[Qoo],u2 (Qfq N),[]⟩,kF N [] [] func256⟩
def Qux(N:Nat):V:=⟨⟨265,zs2,[Qss],A4 N,[]⟩,kF N [] [] func265⟩
def Qmq(N:Nat):V:=⟨⟨266,(sD [.str,S7]),[zs2],u2 (Or N),[]⟩,kF N [] [] func266⟩
def Ci(N n:Nat):Con:=⟨257,Q38,[Qss],fun(x0,x1)=>Zm N n x0 x1,[]⟩
theorem Qmr(N n:Nat)(ih:KO (Ci N n)):KO ⟨267,Jsc,[Qss],fun(x0,ca,ce)=>Gm N (Zm N n) x0 ca ce,[5000,5001]⟩:=kF N [fun _=>⟨_,ih⟩] [(3,.an (.dc 9 [6,7,8,9,10,11,12,13,14] [] [5000,5001] (.b 5000 (.c 5000 (.a (.a (.a (.c 5001 (.k 0 [] [] [] [] Jqr)))))))))] func267
def Q8r(N:Nat):V:=⟨⟨268,Ow,[Qss],u2 (Qj2 N),[]⟩,kF N [] [] func268⟩
def Qtc(N:Nat):V:=⟨⟨269,Ow,[Qss],u2 (M8 N),[]⟩,kF N [] [] func269⟩
theorem Tz(N:Nat):∀n,KO (Ci N n)
 | 0=>⟨Bl fun _=>rfl,Ms func257 rfl⟩
 | n+1=>have ih:=Tz N n; kF N [Qux,Qmq,fun _=>⟨_,Qmr N n ih⟩,Q8r,Qtc] [(22,.rg (.n 1 (.call 2 Jo0))),(24,.rg (.n 1 (.call 2 Jo0))),(40,.jn [2,7] [2,3] [(.n,Qsr),(.x 1,Qsr),(.x 4,Qsr)])] func257
def Quy(N:Nat):V:=⟨Ci N N,Tz N N⟩
def Qtd(N:Nat):V:=⟨⟨230,Q38,[Qss],u2 (M9 N),[]⟩,kF N [Qeu,Q4c,Quy] [(9,.an (.dc 11 [24,25,26,27,28,29,30,31,32,33,34] [2,3] [] (.b 2 (.c 2 (.a (.a (.c 3 (.k 1 [] [] [] [] (.b 2 (.c 2 (.a (.a (.c 3 (.tl (.call 1 Q8q))))))))))))))),(30,.an (.dc 10 [45,46,47,48,49,50,44,51,52,10] [2,3] [] Jsd)),(32,.an (.dc 10 [54,55,56,57,58,59,53,60,61,12] [2,3] [] Jsd))] func230⟩
theorem Pb(N:Nat):∀n,KO (E4 N n)
 | 0=>⟨Bl fun _=>rfl,Ms func200 rfl⟩
 | n+1=>have ih:=Pb N n; kF N [fun _=>⟨_,Qpb N n ih⟩,Qtd] [(18,.rg (.n 1 Jka)),(24,.rg (.n 1 (.call 0 (.n 1 (.sp 24 3 [5] [2,3] ⟨[(27,zs7)],[]⟩ Jkx Je6 V6))))),(30,.rg (.n 1 (.call 0 (.n 1 (.sp 32 3 [5] [2,3] Jj1 Je6 Jkx V6)))))] func200
def Qpc(N:Nat):V:=⟨E4 N N,Pb N N⟩
def Qzq(N:Nat):V:=⟨⟨134,Q38,[zs5],u2 (Qhz N),[]⟩,kF N [Qeu,Qpc] [] func134⟩
def Qij(N:Nat):V:=⟨⟨133,⟨[(0,.d Vo),(1,Hz)],[(5000,Jsb)]⟩,[zs5],u2 (Ig N),[5000]⟩,kF N [Qzq] [] func133⟩
def Qpd(N:Nat):V:=⟨⟨231,Jb2,[Ow],u3 (Rx N),[]⟩,kF N [] [(8,.lp [0,1,2] [] ⟨[(8,zs3),(9,zs3),(10,zs3)],[]⟩ [(.x 0,Jse),(.r,⟨[(6,zs3),(7,zs3)],[]⟩)]),(20,.jn [10] [] [(.n,Jse)])] func231⟩
def Qms(N:Nat):V:=⟨⟨232,zs2,[Ow],Ot N,[]⟩,kF N [Cf] [] func232⟩
def Qte(N:Nat):V:=⟨⟨201,Jb2,[Ow],u3 (Qba N),[]⟩,kF N [Cf,Qpd,Qms] [(13,.jn [0] [] Jkq),(19,.jn [] [] Jkq)] func201⟩
def Qmt(N:Nat):V:=⟨⟨135,Ow,[Ow],u2 (Ou N),[]⟩,kF N [Qte] [] func135⟩
def Qmu(N:Nat):V:=⟨⟨81,(sD [.sl Vo,S7,.i]),[⟨Jr7,[(1,Zo)]⟩],u3 (Kf N),[]⟩,kF N [Qij,Qmt] [(20,.lp [9,24,25] [4] ⟨[(10,Rz),(11,zs3),(26,zs3)],[(100000,Zo)]⟩ [(.x 0,⟨[(10,Qj5),(11,zs3)],[(100300,Zo)]⟩),(.r,⟨[(6,.ns),(7,zs3),(8,zs3)],[]⟩)]),(28,.jn [26] [] [(.n,⟨[(10,Ql6),(11,zs3)],[(100100,Zo)]⟩),(.r,⟨[(6,.ns),(7,zs3),(8,zs3)],[]⟩)]),(33,.rg (.n 2 Ql8))] func81⟩
def Qev(N:Nat):V:=⟨⟨52,Jk0,[⟨Qj9,[(5000,Jk2),(1,U4),(2,U5),(3,Zo)]⟩],u20 (W9 N),[]⟩,kF N [Tx,Quw,Qs7,Qta,Qmu] [(3,.an (.dc 19 [8,9,10,11,12,13,14,15,16,17,18,19,20,21,22,23,24,25,3] [5000,5001,5002,5003] [] (.b 5000 (.d 5000 5000 (.b 5000 (.b 5000 (.c 5000 (.b 5000 (.d 5000 5000 (.b 5000 (.b 5000 (.c 5000 (.b 5000 (.d 5000 5000 (.b 5000 (.b 5000 (.c 5000 (.b 5000 (.k 0 [] [5000,5001,5002,5003] [] [] (.k 1 [] [] [] [] Jbn)))))))))))))))))))),(5,.an (.dr 15 Jtm (.call 2 V6))),(7,.an (.dc 34 [43,44,45,46,47,48,49,50,51,52,53,54,55,56,57,58,59,60,61,62,63,64,65,66,67,68,69,70,42,71,72,73,5,6] [5000,3] [] (.b 5000 (.d 5000 5000 (.b 5000 (.b 5000 (.c 5000 (.b 5000 (.d 5000 5000 (.b 5000 (.c 5000 (.b 5000 (.d 5000 5000 (.b 5000 (.b 5000 (.c 5000 (.a (.c 3 (.b 5000 (.d 5000 5000 (.b 5000 (.b 5000 (.c 5000 (.k 3 [] [] [] [] (.b 5000 (.d 5000 5000 (.b 5000 (.b 5000 (.c 5000 (.k 4 [] [] [17001] [17001] (.b 17001 (.b 17001 (.a (.a (.b 17001 Qwu)))))))))))))))))))))))))))))))))))] func52⟩
def Qzr(N:Nat):V:=⟨⟨51,Jsf,[Jsg],u20 (Qbb N),[5000]⟩,kF N [Qev] [] func51⟩
def Qpe(N:Nat):V:=⟨⟨43,⟨[(0,.f 51 Qn3),(1,.p 5005 [])],Jsh⟩,[Jsi],u21 (Vr N),[5000]⟩,kF N [Qzr] [(3,.rg (.n 1 Ql8))] func43⟩
def Qg5(N:Nat):V:=⟨⟨138,(sD [V7]),[zs2],A5 N,[]⟩,kF N [Cg] [] func138⟩
def Qtf(N:Nat):V:=⟨⟨139,Qn6,[Qn6],u2 (B7 N),[]⟩,kF N [Cg,L9,Xr,Qg5] [] func139⟩
def Qgj(N:Nat):V:=⟨⟨137,⟨[(0,.s 5000)],[(5000,Qcb)]⟩,[Jrs],K8 N,[5000]⟩,kF N [] [(8,.lp [9,10] [] ⟨[(3,Jb0),(11,zs3)],[(100000,Qcd)]⟩ [(.x 0,⟨[(3,.m 100200)],[(100200,Qcd)]⟩)]),(16,.jn [11] [] [(.n,⟨[(3,Jb1)],[(100100,Qcd)]⟩)])] func137⟩
def Quz(N:Nat):V:=⟨⟨83,(sD [Xe,.i,.i,.bool]),[⟨[(0,Je7),(1,zs3),(2,zs3)],Jqu⟩],u4 (Vg N),[]⟩,kF N [L8,Qgj,Qg5,Qtf] [] func83⟩
def Qpf(N:Nat):V:=⟨⟨202,zs2,[zs5],Ry N,[]⟩,kF N [] [(6,.lp [0,5] [] zs9 Qsk)] func202⟩
def M4(N:Nat):V:=⟨⟨141,Jk1,[zs5],U3 N,[]⟩,kF N [Qpf] [(3,.rg (.n 9 (.sp 11 4 [1] [1] ⟨[(15,zs7)],[]⟩ (.nl 2 Ql8) Qbd (.n 11 .done))))] func141⟩
def T0(N:Nat):V:=⟨⟨142,Jk1,[zs5],Wc N,[]⟩,kF N [] [] func142⟩
def Qpg(N:Nat):V:=⟨⟨140,(sD [.sl Yw]),[zs5],Fc N,[]⟩,kF N [M4,T0,Ch] [(6,.lp [0,5,6] [] Qsj Qsk),(19,.rg (.n 1 (.call 0 (.n 2 (.sp 15 4 [3,4,7] [4] Jjt Qbd Q34 Jo1))))),(26,.jn [7] [4] [(.n,Jjw)]),(26,.an (.dc 9 [30,31,32,33,34,35,36,37,38] [] [4] (.a (.a (.a (.so 32 (.a (.a (.a (.a (.a (.c 4 (.tl Jou))))))) Jvh))))))] func140⟩
def Qph(N:Nat):V:=⟨⟨143,⟨[(0,Hz),(1,Mu)],[(5000,.var 37 Jsa),(5001,Q37)]⟩,[Ow],u2 (Io N),[5000,5001]⟩,kF N [Ch] [(6,.lp [0,1,6,7] [] Ql4 Jvn),(35,.an (.dr 6 Q3r .done))] func143⟩
def Qu0(N:Nat):V:=⟨⟨84,(sD [.sl Yw,Yw]),[⟨[(0,Tm),(1,zs3)],[(1,Qcc)]⟩],u2 (V9 N),[]⟩,kF N [Qpg,M4,T0,Qph] [(4,.rg (.n 1 (.call 0 (.n 2 (.sp 14 4 [2,3] [2,3] Q3o Qbd Q34 .done))))),(21,.rg (.n 1 (.call 3 Jo0))),(25,.jn [2,7,8] [2,3] [(.n,⟨[(9,Qco)],[(100100,Q37)]⟩)]),(29,.an (.dr 9 (.n 9 .done) V6)),(30,.an (.dr 9 (.n 9 .done) V6)),(43,.jn [2,8] [2,3,100100] [(.n,⟨[(10,Qh2)],[(100200,Qcc)]⟩)])] func84⟩
def Qtg(N:Nat):V:=⟨⟨54,Jk0,[⟨Qj9,[(5000,.var 144 (.ag (sL [Ff,Jb9,Ux,Cd,Dm,Qw3,zs3,Jca]))),(1,U4),(2,U5),(3,Zo)]⟩],u20 (Na N),[]⟩,kF N [Quz,Tx,Qu0] [(3,.an (.dc 27 [9,10,11,12,13,14,15,16,17,18,19,20,21,22,23,24,25,26,27,28,8,29,30,31,3,1000000025,4] [5000] [] (.b 5000 (.d 5000 5000 (.b 5000 (.c 5000 (.b 5000 (.d 5000 5000 (.b 5000 (.b 5000 (.c 5000 (.b 5000 (.d 5000 5000 (.b 5000 (.b 5000 (.c 5000 (.b 5000 (.d 5000 5000 (.b 5000 (.b 5000 (.c 5000 (.k 0 [] [] [12803,12802,12801] [12801,12802,12803] (.g [] [] [] [12801,12802,12803] (.g [] [] [] [12801,12802,12803] (.a (.a (.e 3 (.g [3] [12801,12802,12803] [] [3,12801,12802,12803] Qwu)))))))))))))))))))))))))))),(5,.gh (.fz 12803 (.dt 3 .done))),(5,.an (.dc 30 [33,34,35,36,37,38,39,40,41,42,43,44,45,46,47,48,49,50,51,52,53,54,55,56,57,58,32,59,60,6] [3,5000,5001,5002,5003] [] (.b 3 (.c 3 (.b 5000 (.d 5000 5000 (.b 5000 (.b 5000 (.c 5000 (.b 5000 (.d 5000 5000 (.b 5000 (.b 5000 (.c 5000 (.b 5000 (.k 1 [] [5000,5001,5002,5003] [] [] (.b 5000 (.d 5000 5000 (.b 5000 (.b 5000 (.c 5000 (.b 5000 (.d 5000 5000 (.b 5000 (.b 5000 (.c 5000 (.a (.k 2 [] [] [15801] [15801] (.b 15801 (.b 15801 (.a (.b 15801 Ov))))))))))))))))))))))))))))))))] func54⟩
def Qzs(N:Nat):V:=⟨⟨53,Jsf,[Jsg],u20 (Qbc N),[5000]⟩,kF N [Qtg] [] func53⟩
def Qpi(N:Nat):V:=⟨⟨43,⟨[(0,.f 53 Qn3),(1,.p 5005 [])],Jsh⟩,[Jsi],u21 (Y8 N),[5000]⟩,kF N [Qzs] [(3,.rg (.n 1 Ql8))] func43⟩
def Q8s(N:Nat):V:=⟨⟨28,(sD [Ui,Xe,J9]),[⟨[(0,Jb9),(1,Jca)],[(1,U4),(2,U5),(3,Zo)]⟩],u3 (B8 N),[]⟩,kF N [Qzi,Qzk,Qov,Qpa,Qpe,Qpi] [(7,.an (.dc 5 [18,19,20,21,1000000004] [4,5,6] [] (.c 4 (.k 0 [] [] [11903,11902,11901] [11901,11902,11903] (.c 5 (.a (.g [6] [11901,11902,11903] [] [6,11901,11902,11903] Ov))))))),(17,.rg (.n 2 (.call 1 .done))),(19,.rg (.n 2 (.call 2 .done))),(21,.rg (.n 2 (.call 3 .done))),(23,.rg Jku),(25,.rg (.n 2 (.call 5 .done))),(31,.an (.dc 6 [47,48,49,50,51,1000000005] [4,5,9,6] [] (.c 4 (.k 0 [] [] [14803,14802,14801] [14801,14802,14803] (.c 5 (.c 9 (.a (.g [6] [14801,14802,14803] [] [6,14801,14802,14803] Ov)))))))),(35,.an (.dc 9 [52,53,54,55,56,57,58,59,1000000008] [8,28,6] [] (.d 8 28 (.d 28 28 (.b 28 (.c 28 (.d 8 28 (.d 28 28 (.b 28 (.g [] [28] [] [14401,14402,14403] (.f 6 6 Ov)))))))))))] func28⟩
def Qmv(N:Nat):V:=⟨⟨16,(sD [Ui,Xe,.sl J9]),[Jsj],u3 (B9 N),[]⟩,kF N [Qoq,Qor,Q8s] [(10,.gh (.fz 11501 (.fz 11502 (.fz 11503 .done)))),(10,.lp [3,6,17,18] [3,4,6] ⟨[(8,Tn),(9,Qsn),(19,zs3)],[(100000,.var 39 Jb9),(100001,Qw4)]⟩ [(.x 0,⟨[(8,Qco),(9,Qdy)],[(100100,.var 39 Dn),(100101,Qw4)]⟩)]),(25,.rg (.n 2 (.fz 12701 (.fz 12702 (.fz 12703 Q8p)))))] func16⟩
def Qg6(N:Nat):V:=⟨⟨7,(sD [Ui,.sl J9]),[Jsj],u2 (Zn N),[]⟩,kF N [Qmv] [] func7⟩
def Qmw(N:Nat):V:=⟨⟨15,(sD [.sl Wr]),[Jb2],Qdw N,[]⟩,kF N [] [(8,.lp [10,11] [] ⟨[(5,zs3),(6,zs3),(7,zs3),(12,zs3)],[]⟩ [(.x 0,⟨[(5,zs3),(6,zs3),(7,zs3)],[]⟩)])] func15⟩
def Qew(N:Nat):V:=⟨⟨6,(sD []),[zs5],fun _=>Kg N,[]⟩,kF N [Qbi,Qg6,Qmw] [(13,.an (.dc 10 [14,15,16,17,18,13,19,20,3,1000000009] [1,2] [] (.k 0 [] [] [] [] (.c 1 (.c 2 (.a (.k 1 [] [] [11801] [11801] (.b 11801 (.a (.b 11801 Jra)))))))))),(16,.rg (.n 10 (.sp 30 7 [3,4] [1,2,3,11801] Jti Qbe Qbe (.n 1 (.sp 38 7 [3,4] [1,2,3,11801] ⟨[(45,zs7)],[]⟩ Qbe Qbe .done))))),(25,.rg (.n 7 (.sp 58 6 [3,4,5,6,7] [1,2,3,11801] ⟨[(64,zs7)],[]⟩ Quq Quq (.n 1 (.sp 65 9 [3,4,5,6,7] [1,2,3,11801] ⟨[(74,zs7)],[]⟩ Ql5 Ql5 (.n 1 (.sp 75 6 [3,4,5,6,7] [1,2,3,11801] ⟨[(81,zs7)],[]⟩ Quq Quq (.n 1 (.sp 82 9 [3,4,5,6,7] [1,2,3,11801] ⟨[(91,zs7)],[]⟩ Ql5 Ql5 (.n 13 (.sp 104 7 [3] [1,2,3,11801] ⟨[(111,zs7)],[]⟩ Qbe Qbe V6)))))))))))] func6⟩
def Gi(N n:Nat):Con:=⟨29,Qso,[Qso],fun x0=>Ya N n x0,[]⟩
theorem Hc(N:Nat):∀n,KO (Gi N n)
 | 0=>⟨Bl fun _=>rfl,Ms func29 rfl⟩
 | n+1=>have ih:=Hc N n; kF N [fun _=>⟨_,ih⟩] [(8,.lp [1,2] [1,2] ⟨Jk3,[(100000,.var 111 (.ag (sL [zs3,zs3,Yi,Qsn]))),(100001,Jbz)]⟩ [(.x 0,⟨Qwv,[(100100,.var 111 (.ag (sL [zs3,zs3,Yi,Qdy]))),(100101,Jbz)]⟩)]),(17,.an (.dc 9 [19,20,21,22,23,24,25,26,27] [100000] [1] (.b 100000 (.d 100000 100001 (.b 1 (.c 1 (.a (.a (.a (.k 0 [] [] [] [] (.a Qsm)))))))))))] func29
def R8(N:Nat):V:=⟨Gi N N,Hc N N⟩
def Pd(N:Nat):V:=⟨⟨17,Q3t,[⟨[(0,Q33)],Jkm⟩],Xk N,[]⟩,kF N [R8] [(8,.lp [1,2] [1,2] ⟨Jk3,Jrc⟩ Jrd),(17,.an (.dc 18 [24,25,26,27,28,29,30,31,32,33,34,35,36,37,38,39,40,41] [100000] [1] (.b 100000 (.d 100000 100001 (.b 1 (.c 1 (.a (.a (.a (.a (.e 32 (.b 1 (.c 1 (.a (.a (.a (.a (.g [32] [] [39] [39] (.b 39 (.op ⟨.fz 39 (.nl 1 .done),[39],[],[],[39]⟩ Qsm)))))))))))))))))))),(23,.lp [1,2] [1,2] ⟨[(3,Ql7),(5,zs3)],Jre⟩ Jrf),(32,.an (.dc 18 [51,52,53,54,55,56,57,58,59,60,61,62,63,64,65,66,67,68] [100200] [1] (.b 100200 (.d 100200 100202 (.b 1 (.c 1 (.a (.a (.a (.a (.e 59 (.b 1 (.c 1 (.a (.a (.a (.a (.g [59] [] [66] [66] (.b 66 (.op ⟨.fz 66 (.nl 1 .done),[66],[],[],[66]⟩ Qsm)))))))))))))))))))),(38,.lp [1,2] [1,2] ⟨[(3,Qwy),(6,zs3)],Jrg⟩ Jri),(51,.rg (.n 3 (.fz 86 Qj7))),(57,.lp [1,2] [1,2] ⟨[(3,.p 100600 []),(8,zs3)],Jrj⟩ Jrl)] func17⟩
def R9(N:Nat):V:=⟨⟨8,(sD [Ui]),[⟨[(0,.ag (sL [Tm,Q3p,.s 3,.s 4,.s 5,.s 6]))],[(1,Qst),(2,Qsu),(3,Qka),(4,Qsv),(5,Fd),(6,Jk4)]⟩],V3 N,[]⟩,kF N [Pd] [(3,.an (.dc 14 [11,12,13,14,15,16,17,18,19,20,21,22,23,3] [1] [] (.e 11 (.b 1 (.c 1 (.g [11] [] [14] [14] (.e 15 (.b 1 (.c 1 (.g [15] [] [18] [18] (.e 19 (.b 1 (.c 1 (.g [19] [] [22] [22] (.g [] [] [] [14,18,22] Jbn))))))))))))))),(8,.lp [1,2] [1,2] ⟨Jk3,[(100000,.var 29 (.ag (sL [Qsn,Joz,.ns,Jtu,.s 100004,.ns]))),(100001,Qst),(100002,Qsu),(100003,Qsv),(100004,Fd)]⟩ [(.x 0,⟨Qwv,[(100100,.var 29 (.ag (sL [Qdy,Jjx,.ns,Jjy,.s 100104,.ns]))),(100101,Qst),(100102,Qsu),(100103,Qsv),(100104,Fd)]⟩)]),(17,.an (.dc 9 [31,32,33,34,35,36,37,38,39] [100000] [1] (.b 100000 (.d 100000 100002 (.b 1 (.c 1 (.a (.a (.a (.k 0 [] [] [13804,13803,13802,13801] [13801,13802,13803,13804] (.op ⟨.fz 13801 (.fz 13802 (.fz 13803 (.fz 13804 (.nl 1 .done)))),[13801,13802,13803,13804],[],[],[13801,13802,13803,13804]⟩ Qsm))))))))))),(23,.lp [1,2] [1,2] ⟨[(3,Ql7),(5,zs3)],[(100200,.var 29 (.ag (sL [Q3q,Joy,Jtt,.s 100204,.s 100205,.ns]))),(100201,Qst),(100202,Qsu),(100203,Qka),(100204,Qsv),(100205,Fd)]⟩ [(.x 2,⟨Jrh,[(100500,.var 29 (.ag (sL [Jkn,.s 100502,.s 100503,.s 100504,.s 100505,.ns]))),(100501,Qst),(100502,Qsu),(100503,Qka),(100504,Qsv),(100505,Fd)]⟩)]),(40,.lp [3,5] [100200,100201,100202,100203,100204,100205] ⟨[(6,Qg4),(7,zs3)],[(100300,.var 80 (.ag (sL [Yi,zs3,zs3,Yi,zs7,Q32]))),(100301,Qw1)]⟩ [(.x 4,⟨[(6,Qwy)],[(100400,.var 80 (.ag (sL [Yi,zs3,zs3,Yi,zs7,Jbx]))),(100401,Qw1)]⟩)]),(53,.rg (.n 3 (.fz 78 Qj7))),(55,.rg (.n 3 (.fz 100401 Qj7))),(61,.lp [1,2] [1,2] ⟨[(3,.p 100600 []),(9,zs3)],[(100600,.var 29 (.ag (sL [Jko,.s 100602,.s 100603,.s 100604,.s 100605,.s 100606]))),(100601,Qst),(100602,Qsu),(100603,Qka),(100604,Qsv),(100605,Fd),(100606,Jk4)]⟩ [(.x 6,⟨Jrk,[(100700,.var 29 (.ag (sL [Jkp,.s 100702,.s 100703,.s 100704,.s 100705,.s 100706]))),(100701,Qst),(100702,Qsu),(100703,Qka),(100704,Qsv),(100705,Fd),(100706,Jk4)]⟩)]),(74,.rg (.n 3 (.fz 107 Qj7)))] func8⟩
def Qgk(N:Nat):V:=⟨⟨18,(sD [Wr,Wr]),[zs5],u2 (Cb N),[]⟩,kF N [] [(22,.lp [2,3] [2,3] zs4 zs8),(32,.an (.dr 11 (.n 11 .done) .done)),(43,.lp [2,3] [2,3] zs9 Jtg),(53,.an (.dr 11 (.n 11 .done) .done)),(64,.lp [2,3] [2,3] Qsj Jth),(74,.an (.dr 11 (.n 11 .done) .done))] func18⟩
def Sa(N:Nat):V:=⟨⟨9,(sD [.sl Wr,.sl Wr]),[zs5],u2 (Zj N),[]⟩,kF N [Qgk] [(14,.lp [0,1] [] zs4 zs8),(24,.an (.dr 8 Qj4 Ql8))] func9⟩
def Hd(N:Nat):V:=⟨⟨3,Jqt,[zs5],u3 (Ub N),[]⟩,kF N [Qgb,Qew,R9,Qg6,Sa] [(16,.lp [1,2,3] [3] ⟨[(7,Rz),(8,zs3)],[(100000,Q3z)]⟩ [(.x 0,⟨[(7,Qh2)],[(100200,Q3z)]⟩)]),(24,.jn [8] [] [(.n,⟨Q3u,[(100100,Q3z)]⟩)]),(41,.lp [2,10,12] [3,9,11,53,14301,14302,14303,14304,14305,14306,14501,15001,15002,15003,15004,15005,15006,15401,100200] ⟨[(13,Qj5),(14,zs3)],[(100300,Qw4)]⟩ [(.x 2,⟨[(13,Q3x)],[(100500,Qw4)]⟩)]),(49,.jn [14] [] [(.n,⟨[(13,Qny)],[(100400,Qw4)]⟩)]),(57,.rg (.n 2 (.call 4 (.n 1 (.sp 82 2 [] [3,9,11,53,14301,14302,14303,14304,14305,14306,14501,15001,15002,15003,15004,15005,15006,15401,100200,100500] ⟨[(84,zs7)],[]⟩ Jjz Quo V6)))))] func3⟩
end Gx
