/- The interpreter gives these functions. -/
import Derived.Test.YtfkpgpibpnghiaaGreatXFns
import Derived.Test.YtfkpgpibpnghiaaGreatProg
import Derived.Test.YtfkpgpibpnghiaaGreatXQ2
import Derived.Test.YtfkpgpibpnghiaaGreatXShelf
namespace Gx
open Go Gd Go.Proofs Tryz
set_option linter.unusedVariables false
def HT.a(r:HT):HT:=.op ⟨.nl 1 .done,[],[],[],[]⟩ r
def HT.b(x:Nat)(r:HT):HT:=.op ⟨.nl 1 .done,[],[],[],[x]⟩ r
def HT.c(x:Nat)(r:HT):HT:=.op ⟨.nl 1 .done,[],[x],[],[]⟩ r
def HT.d(x y:Nat)(r:HT):HT:=.op ⟨.nl 1 .done,[],[x],[],[y]⟩ r
def HT.e(x:Nat)(r:HT):HT:=.op ⟨.nl 1 .done,[],[],[x],[x]⟩ r
def HT.f(x y:Nat)(r:HT):HT:=.op ⟨.nl 1 .done,[x],[],[],[y]⟩ r
def HT.g(a b c d:List Nat)(r:HT):HT:=.op ⟨.nl 1 .done,a,b,c,d⟩ r
def HT.k(n:Nat)(a b c d:List Nat)(r:HT):HT:=.op ⟨.call n .done,a,b,c,d⟩ r
def u2{α0 α1 β:Type}(f:α0→α1→β)(p:α0×α1):β:=f p.1 p.2
def u3{α0 α1 α2 β:Type}(f:α0→α1→α2→β)(p:α0×α1×α2):β:=f p.1 p.2.1 p.2.2
def u4{α0 α1 α2 α3 β:Type}(f:α0→α1→α2→α3→β)(p:α0×α1×α2×α3):β:=f p.1 p.2.1 p.2.2.1 p.2.2.2
def u5{α0 α1 α2 α3 α4 β:Type}(f:α0→α1→α2→α3→α4→β)(p:α0×α1×α2×α3×α4):β:=f p.1 p.2.1 p.2.2.1 p.2.2.2.1 p.2.2.2.2
def u7{α0 α1 α2 α3 α4 α5 α6 β:Type}(f:α0→α1→α2→α3→α4→α5→α6→β)(p:α0×α1×α2×α3×α4×α5×α6):β:=f p.1 p.2.1 p.2.2.1 p.2.2.2.1 p.2.2.2.2.1 p.2.2.2.2.2.1 p.2.2.2.2.2.2
def u8{α0 α1 α2 α3 α4 α5 α6 α7 β:Type}(f:α0→α1→α2→α3→α4→α5→α6→α7→β)(p:α0×α1×α2×α3×α4×α5×α6×α7):β:=f p.1 p.2.1 p.2.2.1 p.2.2.2.1 p.2.2.2.2.1 p.2.2.2.2.2.1 p.2.2.2.2.2.2.1 p.2.2.2.2.2.2.2
def u9{α0 α1 α2 α3 α4 α5 α6 α7 α8 β:Type}(f:α0→α1→α2→α3→α4→α5→α6→α7→α8→β)(p:α0×α1×α2×α3×α4×α5×α6×α7×α8):β:=f p.1 p.2.1 p.2.2.1 p.2.2.2.1 p.2.2.2.2.1 p.2.2.2.2.2.1 p.2.2.2.2.2.2.1 p.2.2.2.2.2.2.2.1 p.2.2.2.2.2.2.2.2
def u20{α0 α1 α2 α3 α4 α5 α6 α7 α8 α9 α10 α11 α12 α13 α14 α15 α16 α17 α18 α19 β:Type}(f:α0→α1→α2→α3→α4→α5→α6→α7→α8→α9→α10→α11→α12→α13→α14→α15→α16→α17→α18→α19→β)(p:α0×α1×α2×α3×α4×α5×α6×α7×α8×α9×α10×α11×α12×α13×α14×α15×α16×α17×α18×α19):β:=f p.1 p.2.1 p.2.2.1 p.2.2.2.1 p.2.2.2.2.1 p.2.2.2.2.2.1 p.2.2.2.2.2.2.1 p.2.2.2.2.2.2.2.1 p.2.2.2.2.2.2.2.2.1 p.2.2.2.2.2.2.2.2.2.1 p.2.2.2.2.2.2.2.2.2.2.1 p.2.2.2.2.2.2.2.2.2.2.2.1 p.2.2.2.2.2.2.2.2.2.2.2.2.1 p.2.2.2.2.2.2.2.2.2.2.2.2.2.1 p.2.2.2.2.2.2.2.2.2.2.2.2.2.2.1 p.2.2.2.2.2.2.2.2.2.2.2.2.2.2.2.1 p.2.2.2.2.2.2.2.2.2.2.2.2.2.2.2.2.1 p.2.2.2.2.2.2.2.2.2.2.2.2.2.2.2.2.2.1 p.2.2.2.2.2.2.2.2.2.2.2.2.2.2.2.2.2.2.1 p.2.2.2.2.2.2.2.2.2.2.2.2.2.2.2.2.2.2.2
def u21{α0 α1 α2 α3 α4 α5 α6 α7 α8 α9 α10 α11 α12 α13 α14 α15 α16 α17 α18 α19 α20 β:Type}(f:α0→α1→α2→α3→α4→α5→α6→α7→α8→α9→α10→α11→α12→α13→α14→α15→α16→α17→α18→α19→α20→β)(p:α0×α1×α2×α3×α4×α5×α6×α7×α8×α9×α10×α11×α12×α13×α14×α15×α16×α17×α18×α19×α20):β:=f p.1 p.2.1 p.2.2.1 p.2.2.2.1 p.2.2.2.2.1 p.2.2.2.2.2.1 p.2.2.2.2.2.2.1 p.2.2.2.2.2.2.2.1 p.2.2.2.2.2.2.2.2.1 p.2.2.2.2.2.2.2.2.2.1 p.2.2.2.2.2.2.2.2.2.2.1 p.2.2.2.2.2.2.2.2.2.2.2.1 p.2.2.2.2.2.2.2.2.2.2.2.2.1 p.2.2.2.2.2.2.2.2.2.2.2.2.2.1 p.2.2.2.2.2.2.2.2.2.2.2.2.2.2.1 p.2.2.2.2.2.2.2.2.2.2.2.2.2.2.2.1 p.2.2.2.2.2.2.2.2.2.2.2.2.2.2.2.2.1 p.2.2.2.2.2.2.2.2.2.2.2.2.2.2.2.2.2.1 p.2.2.2.2.2.2.2.2.2.2.2.2.2.2.2.2.2.2.1 p.2.2.2.2.2.2.2.2.2.2.2.2.2.2.2.2.2.2.2.1 p.2.2.2.2.2.2.2.2.2.2.2.2.2.2.2.2.2.2.2.2
def u26{α0 α1 α2 α3 α4 α5 α6 α7 α8 α9 α10 α11 α12 α13 α14 α15 α16 α17 α18 α19 α20 α21 α22 α23 α24 α25 β:Type}(f:α0→α1→α2→α3→α4→α5→α6→α7→α8→α9→α10→α11→α12→α13→α14→α15→α16→α17→α18→α19→α20→α21→α22→α23→α24→α25→β)(p:α0×α1×α2×α3×α4×α5×α6×α7×α8×α9×α10×α11×α12×α13×α14×α15×α16×α17×α18×α19×α20×α21×α22×α23×α24×α25):β:=f p.1 p.2.1 p.2.2.1 p.2.2.2.1 p.2.2.2.2.1 p.2.2.2.2.2.1 p.2.2.2.2.2.2.1 p.2.2.2.2.2.2.2.1 p.2.2.2.2.2.2.2.2.1 p.2.2.2.2.2.2.2.2.2.1 p.2.2.2.2.2.2.2.2.2.2.1 p.2.2.2.2.2.2.2.2.2.2.2.1 p.2.2.2.2.2.2.2.2.2.2.2.2.1 p.2.2.2.2.2.2.2.2.2.2.2.2.2.1 p.2.2.2.2.2.2.2.2.2.2.2.2.2.2.1 p.2.2.2.2.2.2.2.2.2.2.2.2.2.2.2.1 p.2.2.2.2.2.2.2.2.2.2.2.2.2.2.2.2.1 p.2.2.2.2.2.2.2.2.2.2.2.2.2.2.2.2.2.1 p.2.2.2.2.2.2.2.2.2.2.2.2.2.2.2.2.2.2.1 p.2.2.2.2.2.2.2.2.2.2.2.2.2.2.2.2.2.2.2.1 p.2.2.2.2.2.2.2.2.2.2.2.2.2.2.2.2.2.2.2.2.1 p.2.2.2.2.2.2.2.2.2.2.2.2.2.2.2.2.2.2.2.2.2.1 p.2.2.2.2.2.2.2.2.2.2.2.2.2.2.2.2.2.2.2.2.2.2.1 p.2.2.2.2.2.2.2.2.2.2.2.2.2.2.2.2.2.2.2.2.2.2.2.1 p.2.2.2.2.2.2.2.2.2.2.2.2.2.2.2.2.2.2.2.2.2.2.2.2.1 p.2.2.2.2.2.2.2.2.2.2.2.2.2.2.2.2.2.2.2.2.2.2.2.2.2
def u27{α0 α1 α2 α3 α4 α5 α6 α7 α8 α9 α10 α11 α12 α13 α14 α15 α16 α17 α18 α19 α20 α21 α22 α23 α24 α25 α26 β:Type}(f:α0→α1→α2→α3→α4→α5→α6→α7→α8→α9→α10→α11→α12→α13→α14→α15→α16→α17→α18→α19→α20→α21→α22→α23→α24→α25→α26→β)(p:α0×α1×α2×α3×α4×α5×α6×α7×α8×α9×α10×α11×α12×α13×α14×α15×α16×α17×α18×α19×α20×α21×α22×α23×α24×α25×α26):β:=f p.1 p.2.1 p.2.2.1 p.2.2.2.1 p.2.2.2.2.1 p.2.2.2.2.2.1 p.2.2.2.2.2.2.1 p.2.2.2.2.2.2.2.1 p.2.2.2.2.2.2.2.2.1 p.2.2.2.2.2.2.2.2.2.1 p.2.2.2.2.2.2.2.2.2.2.1 p.2.2.2.2.2.2.2.2.2.2.2.1 p.2.2.2.2.2.2.2.2.2.2.2.2.1 p.2.2.2.2.2.2.2.2.2.2.2.2.2.1 p.2.2.2.2.2.2.2.2.2.2.2.2.2.2.1 p.2.2.2.2.2.2.2.2.2.2.2.2.2.2.2.1 p.2.2.2.2.2.2.2.2.2.2.2.2.2.2.2.2.1 p.2.2.2.2.2.2.2.2.2.2.2.2.2.2.2.2.2.1 p.2.2.2.2.2.2.2.2.2.2.2.2.2.2.2.2.2.2.1 p.2.2.2.2.2.2.2.2.2.2.2.2.2.2.2.2.2.2.2.1 p.2.2.2.2.2.2.2.2.2.2.2.2.2.2.2.2.2.2.2.2.1 p.2.2.2.2.2.2.2.2.2.2.2.2.2.2.2.2.2.2.2.2.2.1 p.2.2.2.2.2.2.2.2.2.2.2.2.2.2.2.2.2.2.2.2.2.2.1 p.2.2.2.2.2.2.2.2.2.2.2.2.2.2.2.2.2.2.2.2.2.2.2.1 p.2.2.2.2.2.2.2.2.2.2.2.2.2.2.2.2.2.2.2.2.2.2.2.2.1 p.2.2.2.2.2.2.2.2.2.2.2.2.2.2.2.2.2.2.2.2.2.2.2.2.2.1 p.2.2.2.2.2.2.2.2.2.2.2.2.2.2.2.2.2.2.2.2.2.2.2.2.2.2
def u28{α0 α1 α2 α3 α4 α5 α6 α7 α8 α9 α10 α11 α12 α13 α14 α15 α16 α17 α18 α19 α20 α21 α22 α23 α24 α25 α26 α27 β:Type}(f:α0→α1→α2→α3→α4→α5→α6→α7→α8→α9→α10→α11→α12→α13→α14→α15→α16→α17→α18→α19→α20→α21→α22→α23→α24→α25→α26→α27→β)(p:α0×α1×α2×α3×α4×α5×α6×α7×α8×α9×α10×α11×α12×α13×α14×α15×α16×α17×α18×α19×α20×α21×α22×α23×α24×α25×α26×α27):β:=f p.1 p.2.1 p.2.2.1 p.2.2.2.1 p.2.2.2.2.1 p.2.2.2.2.2.1 p.2.2.2.2.2.2.1 p.2.2.2.2.2.2.2.1 p.2.2.2.2.2.2.2.2.1 p.2.2.2.2.2.2.2.2.2.1 p.2.2.2.2.2.2.2.2.2.2.1 p.2.2.2.2.2.2.2.2.2.2.2.1 p.2.2.2.2.2.2.2.2.2.2.2.2.1 p.2.2.2.2.2.2.2.2.2.2.2.2.2.1 p.2.2.2.2.2.2.2.2.2.2.2.2.2.2.1 p.2.2.2.2.2.2.2.2.2.2.2.2.2.2.2.1 p.2.2.2.2.2.2.2.2.2.2.2.2.2.2.2.2.1 p.2.2.2.2.2.2.2.2.2.2.2.2.2.2.2.2.2.1 p.2.2.2.2.2.2.2.2.2.2.2.2.2.2.2.2.2.2.1 p.2.2.2.2.2.2.2.2.2.2.2.2.2.2.2.2.2.2.2.1 p.2.2.2.2.2.2.2.2.2.2.2.2.2.2.2.2.2.2.2.2.1 p.2.2.2.2.2.2.2.2.2.2.2.2.2.2.2.2.2.2.2.2.2.1 p.2.2.2.2.2.2.2.2.2.2.2.2.2.2.2.2.2.2.2.2.2.2.1 p.2.2.2.2.2.2.2.2.2.2.2.2.2.2.2.2.2.2.2.2.2.2.2.1 p.2.2.2.2.2.2.2.2.2.2.2.2.2.2.2.2.2.2.2.2.2.2.2.2.1 p.2.2.2.2.2.2.2.2.2.2.2.2.2.2.2.2.2.2.2.2.2.2.2.2.2.1 p.2.2.2.2.2.2.2.2.2.2.2.2.2.2.2.2.2.2.2.2.2.2.2.2.2.2.1 p.2.2.2.2.2.2.2.2.2.2.2.2.2.2.2.2.2.2.2.2.2.2.2.2.2.2.2
def u35{α0 α1 α2 α3 α4 α5 α6 α7 α8 α9 α10 α11 α12 α13 α14 α15 α16 α17 α18 α19 α20 α21 α22 α23 α24 α25 α26 α27 α28 α29 α30 α31 α32 α33 α34 β:Type}(f:α0→α1→α2→α3→α4→α5→α6→α7→α8→α9→α10→α11→α12→α13→α14→α15→α16→α17→α18→α19→α20→α21→α22→α23→α24→α25→α26→α27→α28→α29→α30→α31→α32→α33→α34→β)(p:α0×α1×α2×α3×α4×α5×α6×α7×α8×α9×α10×α11×α12×α13×α14×α15×α16×α17×α18×α19×α20×α21×α22×α23×α24×α25×α26×α27×α28×α29×α30×α31×α32×α33×α34):β:=f p.1 p.2.1 p.2.2.1 p.2.2.2.1 p.2.2.2.2.1 p.2.2.2.2.2.1 p.2.2.2.2.2.2.1 p.2.2.2.2.2.2.2.1 p.2.2.2.2.2.2.2.2.1 p.2.2.2.2.2.2.2.2.2.1 p.2.2.2.2.2.2.2.2.2.2.1 p.2.2.2.2.2.2.2.2.2.2.2.1 p.2.2.2.2.2.2.2.2.2.2.2.2.1 p.2.2.2.2.2.2.2.2.2.2.2.2.2.1 p.2.2.2.2.2.2.2.2.2.2.2.2.2.2.1 p.2.2.2.2.2.2.2.2.2.2.2.2.2.2.2.1 p.2.2.2.2.2.2.2.2.2.2.2.2.2.2.2.2.1 p.2.2.2.2.2.2.2.2.2.2.2.2.2.2.2.2.2.1 p.2.2.2.2.2.2.2.2.2.2.2.2.2.2.2.2.2.2.1 p.2.2.2.2.2.2.2.2.2.2.2.2.2.2.2.2.2.2.2.1 p.2.2.2.2.2.2.2.2.2.2.2.2.2.2.2.2.2.2.2.2.1 p.2.2.2.2.2.2.2.2.2.2.2.2.2.2.2.2.2.2.2.2.2.1 p.2.2.2.2.2.2.2.2.2.2.2.2.2.2.2.2.2.2.2.2.2.2.1 p.2.2.2.2.2.2.2.2.2.2.2.2.2.2.2.2.2.2.2.2.2.2.2.1 p.2.2.2.2.2.2.2.2.2.2.2.2.2.2.2.2.2.2.2.2.2.2.2.2.1 p.2.2.2.2.2.2.2.2.2.2.2.2.2.2.2.2.2.2.2.2.2.2.2.2.2.1 p.2.2.2.2.2.2.2.2.2.2.2.2.2.2.2.2.2.2.2.2.2.2.2.2.2.2.1 p.2.2.2.2.2.2.2.2.2.2.2.2.2.2.2.2.2.2.2.2.2.2.2.2.2.2.2.1 p.2.2.2.2.2.2.2.2.2.2.2.2.2.2.2.2.2.2.2.2.2.2.2.2.2.2.2.2.1 p.2.2.2.2.2.2.2.2.2.2.2.2.2.2.2.2.2.2.2.2.2.2.2.2.2.2.2.2.2.1 p.2.2.2.2.2.2.2.2.2.2.2.2.2.2.2.2.2.2.2.2.2.2.2.2.2.2.2.2.2.2.1 p.2.2.2.2.2.2.2.2.2.2.2.2.2.2.2.2.2.2.2.2.2.2.2.2.2.2.2.2.2.2.2.1 p.2.2.2.2.2.2.2.2.2.2.2.2.2.2.2.2.2.2.2.2.2.2.2.2.2.2.2.2.2.2.2.2.1 p.2.2.2.2.2.2.2.2.2.2.2.2.2.2.2.2.2.2.2.2.2.2.2.2.2.2.2.2.2.2.2.2.2.1 p.2.2.2.2.2.2.2.2.2.2.2.2.2.2.2.2.2.2.2.2.2.2.2.2.2.2.2.2.2.2.2.2.2.2
def u36{α0 α1 α2 α3 α4 α5 α6 α7 α8 α9 α10 α11 α12 α13 α14 α15 α16 α17 α18 α19 α20 α21 α22 α23 α24 α25 α26 α27 α28 α29 α30 α31 α32 α33 α34 α35 β:Type}(f:α0→α1→α2→α3→α4→α5→α6→α7→α8→α9→α10→α11→α12→α13→α14→α15→α16→α17→α18→α19→α20→α21→α22→α23→α24→α25→α26→α27→α28→α29→α30→α31→α32→α33→α34→α35→β)(p:α0×α1×α2×α3×α4×α5×α6×α7×α8×α9×α10×α11×α12×α13×α14×α15×α16×α17×α18×α19×α20×α21×α22×α23×α24×α25×α26×α27×α28×α29×α30×α31×α32×α33×α34×α35):β:=f p.1 p.2.1 p.2.2.1 p.2.2.2.1 p.2.2.2.2.1 p.2.2.2.2.2.1 p.2.2.2.2.2.2.1 p.2.2.2.2.2.2.2.1 p.2.2.2.2.2.2.2.2.1 p.2.2.2.2.2.2.2.2.2.1 p.2.2.2.2.2.2.2.2.2.2.1 p.2.2.2.2.2.2.2.2.2.2.2.1 p.2.2.2.2.2.2.2.2.2.2.2.2.1 p.2.2.2.2.2.2.2.2.2.2.2.2.2.1 p.2.2.2.2.2.2.2.2.2.2.2.2.2.2.1 p.2.2.2.2.2.2.2.2.2.2.2.2.2.2.2.1 p.2.2.2.2.2.2.2.2.2.2.2.2.2.2.2.2.1 p.2.2.2.2.2.2.2.2.2.2.2.2.2.2.2.2.2.1 p.2.2.2.2.2.2.2.2.2.2.2.2.2.2.2.2.2.2.1 p.2.2.2.2.2.2.2.2.2.2.2.2.2.2.2.2.2.2.2.1 p.2.2.2.2.2.2.2.2.2.2.2.2.2.2.2.2.2.2.2.2.1 p.2.2.2.2.2.2.2.2.2.2.2.2.2.2.2.2.2.2.2.2.2.1 p.2.2.2.2.2.2.2.2.2.2.2.2.2.2.2.2.2.2.2.2.2.2.1 p.2.2.2.2.2.2.2.2.2.2.2.2.2.2.2.2.2.2.2.2.2.2.2.1 p.2.2.2.2.2.2.2.2.2.2.2.2.2.2.2.2.2.2.2.2.2.2.2.2.1 p.2.2.2.2.2.2.2.2.2.2.2.2.2.2.2.2.2.2.2.2.2.2.2.2.2.1 p.2.2.2.2.2.2.2.2.2.2.2.2.2.2.2.2.2.2.2.2.2.2.2.2.2.2.1 p.2.2.2.2.2.2.2.2.2.2.2.2.2.2.2.2.2.2.2.2.2.2.2.2.2.2.2.1 p.2.2.2.2.2.2.2.2.2.2.2.2.2.2.2.2.2.2.2.2.2.2.2.2.2.2.2.2.1 p.2.2.2.2.2.2.2.2.2.2.2.2.2.2.2.2.2.2.2.2.2.2.2.2.2.2.2.2.2.1 p.2.2.2.2.2.2.2.2.2.2.2.2.2.2.2.2.2.2.2.2.2.2.2.2.2.2.2.2.2.2.1 p.2.2.2.2.2.2.2.2.2.2.2.2.2.2.2.2.2.2.2.2.2.2.2.2.2.2.2.2.2.2.2.1 p.2.2.2.2.2.2.2.2.2.2.2.2.2.2.2.2.2.2.2.2.2.2.2.2.2.2.2.2.2.2.2.2.1 p.2.2.2.2.2.2.2.2.2.2.2.2.2.2.2.2.2.2.2.2.2.2.2.2.2.2.2.2.2.2.2.2.2.1 p.2.2.2.2.2.2.2.2.2.2.2.2.2.2.2.2.2.2.2.2.2.2.2.2.2.2.2.2.2.2.2.2.2.2.1 p.2.2.2.2.2.2.2.2.2.2.2.2.2.2.2.2.2.2.2.2.2.2.2.2.2.2.2.2.2.2.2.2.2.2.2
def tab:Tab:=[
 ⟨1,.func ⟨[]⟩ ⟨[]⟩ false,.nilFunc,1,8⟩,
 ⟨2,.int .i64,.int .i64 0,1,8⟩,
 ⟨3,.int .i64,.int .i64 0,1,8⟩,
 ⟨4,.bool,.bool false,1,1⟩,
 ⟨5,.int .u8,.int .u8 0,1,1⟩,
 ⟨6,.int .u8,.int .u8 0,1,1⟩,
 ⟨9,.string,Yg [],1,16⟩,
 ⟨22,.slice 104,.slice none 0 0,1,24⟩,
 ⟨23,.slice 76,.slice none 0 0,1,24⟩,
 ⟨24,.slice 80,.slice none 0 0,1,24⟩,
 ⟨25,.slice 128,.slice none 0 0,1,24⟩,
 ⟨26,.slice 3,.slice none 0 0,1,24⟩,
 ⟨27,.slice 85,.slice none 0 0,1,24⟩,
 ⟨29,.struct ⟨[⟨"Events",22,0,false, "", "",0⟩,⟨"Tariffs",23,1,false, "", "",24⟩,⟨"Products",24,2,false, "", "",48⟩,⟨"Taxes",25,3,false, "", "",72⟩,⟨"Holidays",26,4,false, "", "",96⟩,⟨"Agreements",27,5,false, "", "",120⟩]⟩,.agg ⟨[.slice none 0 0,.slice none 0 0,.slice none 0 0,.slice none 0 0,.slice none 0 0,.slice none 0 0]⟩,6,144⟩,
 ⟨30,.slice 34,.slice none 0 0,1,24⟩,
 ⟨34,.struct ⟨[⟨"Id",3,0,false, "", "",0⟩,⟨"Kind",3,1,false, "", "",8⟩,⟨"Account",3,2,false, "", "",16⟩,⟨"Sub",3,3,false, "", "",24⟩,⟨"A",9,4,false, "", "",32⟩,⟨"B",9,5,false, "", "",48⟩,⟨"Start",3,6,false, "", "",64⟩,⟨"Units",3,7,false, "", "",72⟩,⟨"Trunk",3,8,false, "", "",80⟩,⟨"Inbound",4,9,false, "", "",88⟩,⟨"Source",3,10,false, "", "",96⟩,⟨"Serial",3,11,false, "", "",104⟩]⟩,.agg ⟨[.int .i64 0,.int .i64 0,.int .i64 0,.int .i64 0,Yg [],Yg [],.int .i64 0,.int .i64 0,.int .i64 0,.bool false,.int .i64 0,.int .i64 0]⟩,12,112⟩,
 ⟨35,.slice 58,.slice none 0 0,1,24⟩,
 ⟨36,.slice 53,.slice none 0 0,1,24⟩,
 ⟨37,.slice 177,.slice none 0 0,1,24⟩,
 ⟨39,.struct ⟨[⟨"Buckets",35,0,false, "", "",0⟩,⟨"Wallets",36,1,false, "", "",24⟩,⟨"Counters",37,2,false, "", "",48⟩]⟩,.agg ⟨[.slice none 0 0,.slice none 0 0,.slice none 0 0]⟩,3,72⟩,
 ⟨40,.slice 49,.slice none 0 0,1,24⟩,
 ⟨44,.int .i64,.int .i64 0,1,8⟩,
 ⟨45,.slice 60,.slice none 0 0,1,24⟩,
 ⟨46,.slice 69,.slice none 0 0,1,24⟩,
 ⟨47,.slice 116,.slice none 0 0,1,24⟩,
 ⟨49,.struct ⟨[⟨"Usage",34,0,false, "", "",0⟩,⟨"Err",44,12,false, "", "",112⟩,⟨"Plan",9,13,false, "", "",120⟩,⟨"Version",3,14,false, "", "",136⟩,⟨"Zone",9,15,false, "", "",144⟩,⟨"Takes",45,16,false, "", "",160⟩,⟨"Segments",46,17,false, "", "",184⟩,⟨"Setup",3,18,false, "", "",208⟩,⟨"Gross",3,19,false, "", "",216⟩,⟨"Net",3,20,false, "", "",224⟩,⟨"Given",47,21,false, "", "",232⟩,⟨"Paid",3,22,false, "", "",256⟩,⟨"Owed",3,23,false, "", "",264⟩]⟩,.agg ⟨[.int .i64 0,.int .i64 0,.int .i64 0,.int .i64 0,Yg [],Yg [],.int .i64 0,.int .i64 0,.int .i64 0,.bool false,.int .i64 0,.int .i64 0,.int .i64 0,Yg [],.int .i64 0,Yg [],.slice none 0 0,.slice none 0 0,.int .i64 0,.int .i64 0,.int .i64 0,.slice none 0 0,.int .i64 0,.int .i64 0]⟩,24,272⟩,
 ⟨53,.struct ⟨[⟨"Account",3,0,false, "", "",0⟩,⟨"Balance",3,1,false, "", "",8⟩,⟨"Floor",3,2,false, "", "",16⟩,⟨"Held",3,3,false, "", "",24⟩,⟨"Until",3,4,false, "", "",32⟩]⟩,.agg ⟨[.int .i64 0,.int .i64 0,.int .i64 0,.int .i64 0,.int .i64 0]⟩,5,40⟩,
 ⟨54,.slice 9,.slice none 0 0,1,24⟩,
 ⟨56,.struct ⟨[⟨"From",3,0,false, "", "",0⟩,⟨"To",3,1,false, "", "",8⟩]⟩,.agg ⟨[.int .i64 0,.int .i64 0]⟩,2,16⟩,
 ⟨58,.struct ⟨[⟨"Account",3,0,false, "", "",0⟩,⟨"Sub",3,1,false, "", "",8⟩,⟨"Product",9,2,false, "", "",16⟩,⟨"Index",3,3,false, "", "",32⟩,⟨"Kind",3,4,false, "", "",40⟩,⟨"Zones",54,5,false, "", "",48⟩,⟨"Valid",56,6,false, "", "",72⟩,⟨"Units",3,8,false, "", "",88⟩,⟨"Left",3,9,false, "", "",96⟩,⟨"Priority",3,10,false, "", "",104⟩,⟨"Shared",4,11,false, "", "",112⟩]⟩,.agg ⟨[.int .i64 0,.int .i64 0,Yg [],.int .i64 0,.int .i64 0,.slice none 0 0,.int .i64 0,.int .i64 0,.int .i64 0,.int .i64 0,.int .i64 0,.bool false]⟩,12,120⟩,
 ⟨60,.struct ⟨[⟨"Sub",3,0,false, "", "",0⟩,⟨"Product",9,1,false, "", "",8⟩,⟨"Index",3,2,false, "", "",24⟩,⟨"From",3,3,false, "", "",32⟩,⟨"Units",3,4,false, "", "",40⟩]⟩,.agg ⟨[.int .i64 0,Yg [],.int .i64 0,.int .i64 0,.int .i64 0]⟩,5,48⟩,
 ⟨64,.func ⟨[3]⟩ ⟨[4]⟩ false,.nilFunc,1,8⟩,
 ⟨69,.struct ⟨[⟨"Band",9,0,false, "", "",0⟩,⟨"Start",3,1,false, "", "",16⟩,⟨"Units",3,2,false, "", "",24⟩,⟨"Amount",3,3,false, "", "",32⟩]⟩,.agg ⟨[Yg [],.int .i64 0,.int .i64 0,.int .i64 0]⟩,4,40⟩,
 ⟨71,.slice 95,.slice none 0 0,1,24⟩,
 ⟨72,.slice 98,.slice none 0 0,1,24⟩,
 ⟨73,.slice 102,.slice none 0 0,1,24⟩,
 ⟨74,.slice 113,.slice none 0 0,1,24⟩,
 ⟨76,.struct ⟨[⟨"Name",9,0,false, "", "",0⟩,⟨"From",3,1,false, "", "",16⟩,⟨"Split",4,2,false, "", "",24⟩,⟨"Zones",71,3,false, "", "",32⟩,⟨"Bands",72,4,false, "", "",56⟩,⟨"Rates",73,5,false, "", "",80⟩,⟨"Discounts",74,6,false, "", "",104⟩]⟩,.agg ⟨[Yg [],.int .i64 0,.bool false,.slice none 0 0,.slice none 0 0,.slice none 0 0,.slice none 0 0]⟩,7,128⟩,
 ⟨78,.slice 82,.slice none 0 0,1,24⟩,
 ⟨80,.struct ⟨[⟨"Name",9,0,false, "", "",0⟩,⟨"From",3,1,false, "", "",16⟩,⟨"Fee",3,2,false, "", "",24⟩,⟨"Category",9,3,false, "", "",32⟩,⟨"Prorate",4,4,false, "", "",48⟩,⟨"Bundles",78,5,false, "", "",56⟩]⟩,.agg ⟨[Yg [],.int .i64 0,.int .i64 0,Yg [],.bool false,.slice none 0 0]⟩,6,80⟩,
 ⟨82,.struct ⟨[⟨"Kind",3,0,false, "", "",0⟩,⟨"Zones",54,1,false, "", "",8⟩,⟨"Units",3,2,false, "", "",32⟩,⟨"Rollover",3,3,false, "", "",40⟩,⟨"Priority",3,4,false, "", "",48⟩,⟨"Shared",4,5,false, "", "",56⟩]⟩,.agg ⟨[.int .i64 0,.slice none 0 0,.int .i64 0,.int .i64 0,.int .i64 0,.bool false]⟩,6,64⟩,
 ⟨83,.slice 100,.slice none 0 0,1,24⟩,
 ⟨85,.struct ⟨[⟨"Partner",3,0,false, "", "",0⟩,⟨"Kind",3,1,false, "", "",8⟩,⟨"Inbound",4,2,false, "", "",16⟩,⟨"Valid",56,3,false, "", "",24⟩,⟨"Steps",83,5,false, "", "",40⟩,⟨"Cap",3,6,false, "", "",64⟩]⟩,.agg ⟨[.int .i64 0,.int .i64 0,.bool false,.int .i64 0,.int .i64 0,.slice none 0 0,.int .i64 0]⟩,7,72⟩,
 ⟨95,.struct ⟨[⟨"Name",9,0,false, "", "",0⟩,⟨"Prefixes",54,1,false, "", "",16⟩]⟩,.agg ⟨[Yg [],.slice none 0 0]⟩,2,40⟩,
 ⟨96,.slice 262,.slice none 0 0,1,24⟩,
 ⟨98,.struct ⟨[⟨"Name",9,0,false, "", "",0⟩,⟨"Slots",96,1,false, "", "",16⟩]⟩,.agg ⟨[Yg [],.slice none 0 0]⟩,2,40⟩,
 ⟨100,.struct ⟨[⟨"Upto",3,0,false, "", "",0⟩,⟨"Quantum",3,1,false, "", "",8⟩,⟨"Price",3,2,false, "", "",16⟩]⟩,.agg ⟨[.int .i64 0,.int .i64 0,.int .i64 0]⟩,3,24⟩,
 ⟨102,.struct ⟨[⟨"Kind",3,0,false, "", "",0⟩,⟨"Zone",9,1,false, "", "",8⟩,⟨"Band",9,2,false, "", "",24⟩,⟨"Setup",3,3,false, "", "",40⟩,⟨"Steps",83,4,false, "", "",48⟩]⟩,.agg ⟨[.int .i64 0,Yg [],Yg [],.int .i64 0,.slice none 0 0]⟩,5,72⟩,
 ⟨104,.struct ⟨[⟨"At",3,0,false, "", "",0⟩,⟨"Kind",3,1,false, "", "",8⟩,⟨"Account",3,2,false, "", "",16⟩,⟨"Sub",3,3,false, "", "",24⟩,⟨"Number",9,4,false, "", "",32⟩,⟨"Name",9,5,false, "", "",48⟩,⟨"Value",3,6,false, "", "",64⟩]⟩,.agg ⟨[.int .i64 0,.int .i64 0,.int .i64 0,.int .i64 0,Yg [],Yg [],.int .i64 0]⟩,7,72⟩,
 ⟨109,.slice 111,.slice none 0 0,1,24⟩,
 ⟨111,.struct ⟨[⟨"Op",3,0,false, "", "",0⟩,⟨"Num",3,1,false, "", "",8⟩,⟨"Text",9,2,false, "", "",16⟩,⟨"Args",109,3,false, "", "",32⟩]⟩,.agg ⟨[.int .i64 0,.int .i64 0,Yg [],.slice none 0 0]⟩,4,56⟩,
 ⟨113,.struct ⟨[⟨"Name",9,0,false, "", "",0⟩,⟨"When",111,1,false, "", "",16⟩,⟨"Points",3,5,false, "", "",72⟩]⟩,.agg ⟨[Yg [],.int .i64 0,.int .i64 0,Yg [],.slice none 0 0,.int .i64 0]⟩,6,80⟩,
 ⟨116,.struct ⟨[⟨"Name",9,0,false, "", "",0⟩,⟨"Amount",3,1,false, "", "",16⟩]⟩,.agg ⟨[Yg [],.int .i64 0]⟩,2,24⟩,
 ⟨118,.slice 142,.slice none 0 0,1,24⟩,
 ⟨119,.slice 153,.slice none 0 0,1,24⟩,
 ⟨121,.struct ⟨[⟨"Accounts",118,0,false, "", "",0⟩,⟨"Subs",119,1,false, "", "",24⟩,⟨"Ended",26,2,false, "", "",48⟩]⟩,.agg ⟨[.slice none 0 0,.slice none 0 0,.slice none 0 0]⟩,3,72⟩,
 ⟨128,.struct ⟨[⟨"Category",9,0,false, "", "",0⟩,⟨"From",3,1,false, "", "",16⟩,⟨"Points",3,2,false, "", "",24⟩]⟩,.agg ⟨[Yg [],.int .i64 0,.int .i64 0]⟩,3,32⟩,
 ⟨136,.struct ⟨[⟨"start",3,0,false, "", "billing/history",0⟩,⟨"source",3,1,false, "", "billing/history",8⟩,⟨"serial",3,2,false, "", "billing/history",16⟩,⟨"id",3,3,false, "", "billing/history",24⟩]⟩,.agg ⟨[.int .i64 0,.int .i64 0,.int .i64 0,.int .i64 0]⟩,4,32⟩,
 ⟨138,.pointer 144,.pointer none,1,8⟩,
 ⟨140,.struct ⟨[⟨"Period",56,0,false, "", "",0⟩,⟨"Plan",9,2,false, "", "",16⟩,⟨"Products",54,3,false, "", "",32⟩,⟨"Suspended",4,4,false, "", "",56⟩,⟨"Family",4,5,false, "", "",57⟩]⟩,.agg ⟨[.int .i64 0,.int .i64 0,Yg [],.slice none 0 0,.bool false,.bool false]⟩,6,64⟩,
 ⟨142,.struct ⟨[⟨"Id",3,0,false, "", "",0⟩,⟨"Since",3,1,false, "", "",8⟩,⟨"Anchor",3,2,false, "", "",16⟩,⟨"Prepaid",4,3,false, "", "",24⟩,⟨"Closed",4,4,false, "", "",25⟩,⟨"Subs",26,5,false, "", "",32⟩]⟩,.agg ⟨[.int .i64 0,.int .i64 0,.int .i64 0,.bool false,.bool false,.slice none 0 0]⟩,6,56⟩,
 ⟨144,.struct ⟨[⟨"book",29,0,false, "", "billing/rate",0⟩,⟨"state",39,6,false, "", "billing/rate",144⟩,⟨"u",34,9,false, "", "billing/rate",216⟩,⟨"spell",140,21,false, "", "billing/rate",328⟩,⟨"account",142,27,false, "", "billing/rate",392⟩,⟨"tariff",76,33,false, "", "billing/rate",448⟩,⟨"free",3,40,false, "", "billing/rate",576⟩,⟨"r",49,41,false, "", "billing/rate",584⟩]⟩,.agg ⟨[.slice none 0 0,.slice none 0 0,.slice none 0 0,.slice none 0 0,.slice none 0 0,.slice none 0 0,.slice none 0 0,.slice none 0 0,.slice none 0 0,.int .i64 0,.int .i64 0,.int .i64 0,.int .i64 0,Yg [],Yg [],.int .i64 0,.int .i64 0,.int .i64 0,.bool false,.int .i64 0,.int .i64 0,.int .i64 0,.int .i64 0,Yg [],.slice none 0 0,.bool false,.bool false,.int .i64 0,.int .i64 0,.int .i64 0,.bool false,.bool false,.slice none 0 0,Yg [],.int .i64 0,.bool false,.slice none 0 0,.slice none 0 0,.slice none 0 0,.slice none 0 0,.int .i64 0,.int .i64 0,.int .i64 0,.int .i64 0,.int .i64 0,Yg [],Yg [],.int .i64 0,.int .i64 0,.int .i64 0,.bool false,.int .i64 0,.int .i64 0,.int .i64 0,Yg [],.int .i64 0,Yg [],.slice none 0 0,.slice none 0 0,.int .i64 0,.int .i64 0,.int .i64 0,.slice none 0 0,.int .i64 0,.int .i64 0]⟩,65,856⟩,
 ⟨145,.func ⟨[]⟩ ⟨[44]⟩ false,.nilFunc,1,8⟩,
 ⟨148,.array 5 4,.agg ⟨[.bool false,.bool false,.bool false,.bool false,.bool false]⟩,5,5⟩,
 ⟨153,.struct ⟨[⟨"Id",3,0,false, "", "",0⟩,⟨"Account",3,1,false, "", "",8⟩,⟨"Since",3,2,false, "", "",16⟩,⟨"Plan",9,3,false, "", "",24⟩,⟨"Numbers",54,4,false, "", "",40⟩,⟨"Products",54,5,false, "", "",64⟩,⟨"Suspended",4,6,false, "", "",88⟩,⟨"Family",4,7,false, "", "",89⟩]⟩,.agg ⟨[.int .i64 0,.int .i64 0,.int .i64 0,Yg [],.slice none 0 0,.slice none 0 0,.bool false,.bool false]⟩,8,96⟩,
 ⟨158,.slice 56,.slice none 0 0,1,24⟩,
 ⟨177,.struct ⟨[⟨"Sub",3,0,false, "", "",0⟩,⟨"Kind",3,1,false, "", "",8⟩,⟨"From",3,2,false, "", "",16⟩,⟨"Units",3,3,false, "", "",24⟩,⟨"Spent",3,4,false, "", "",32⟩]⟩,.agg ⟨[.int .i64 0,.int .i64 0,.int .i64 0,.int .i64 0,.int .i64 0]⟩,5,40⟩,
 ⟨184,.struct ⟨[⟨"Kind",3,0,false, "", "",0⟩,⟨"Units",3,1,false, "", "",8⟩,⟨"Weekday",3,2,false, "", "",16⟩,⟨"Minute",3,3,false, "", "",24⟩,⟨"Total",3,4,false, "", "",32⟩,⟨"Spent",3,5,false, "", "",40⟩,⟨"Zone",9,6,false, "", "",48⟩,⟨"Band",9,7,false, "", "",64⟩,⟨"Family",4,8,false, "", "",80⟩]⟩,.agg ⟨[.int .i64 0,.int .i64 0,.int .i64 0,.int .i64 0,.int .i64 0,.int .i64 0,Yg [],Yg [],.bool false]⟩,9,88⟩,
 ⟨202,.slice 140,.slice none 0 0,1,24⟩,
 ⟨206,.struct ⟨[⟨"Accounts",118,0,false, "", "",0⟩,⟨"Subs",119,1,false, "", "",24⟩]⟩,.agg ⟨[.slice none 0 0,.slice none 0 0]⟩,2,48⟩,
 ⟨208,.map 9 9,.map none,1,8⟩,
 ⟨218,.pointer 221,.pointer none,1,8⟩,
 ⟨219,.map 224 4,.map none,1,8⟩,
 ⟨221,.struct ⟨[⟨"list",35,0,false, "", "billing/bundle",0⟩,⟨"has",219,1,false, "", "billing/bundle",24⟩]⟩,.agg ⟨[.slice none 0 0,.map none]⟩,2,32⟩,
 ⟨224,.struct ⟨[⟨"sub",3,0,false, "", "billing/bundle",0⟩,⟨"product",9,1,false, "", "billing/bundle",8⟩,⟨"index",3,2,false, "", "billing/bundle",24⟩,⟨"from",3,3,false, "", "billing/bundle",32⟩]⟩,.agg ⟨[.int .i64 0,Yg [],.int .i64 0,.int .i64 0]⟩,4,40⟩,
 ⟨227,.slice 231,.slice none 0 0,1,24⟩,
 ⟨231,.struct ⟨[⟨"account",3,0,false, "", "billing/bundle",0⟩,⟨"sub",3,1,false, "", "billing/bundle",8⟩,⟨"product",9,2,false, "", "billing/bundle",16⟩,⟨"active",158,3,false, "", "billing/bundle",32⟩]⟩,.agg ⟨[.int .i64 0,.int .i64 0,Yg [],.slice none 0 0]⟩,4,56⟩,
 ⟨232,.slice 235,.slice none 0 0,1,24⟩,
 ⟨235,.struct ⟨[⟨"bucket",58,0,false, "", "billing/bundle",0⟩,⟨"rollover",3,12,false, "", "billing/bundle",120⟩]⟩,.agg ⟨[.int .i64 0,.int .i64 0,Yg [],.int .i64 0,.int .i64 0,.slice none 0 0,.int .i64 0,.int .i64 0,.int .i64 0,.int .i64 0,.int .i64 0,.bool false,.int .i64 0]⟩,13,128⟩,
 ⟨250,.array 2 3,.agg ⟨[.int .i64 0,.int .i64 0]⟩,2,16⟩,
 ⟨253,.map 3 3,.map none,1,8⟩,
 ⟨262,.struct ⟨[⟨"Days",3,0,false, "", "",0⟩,⟨"From",3,1,false, "", "",8⟩,⟨"To",3,2,false, "", "",16⟩]⟩,.agg ⟨[.int .i64 0,.int .i64 0,.int .i64 0]⟩,3,24⟩,
 ⟨266,.slice 269,.slice none 0 0,1,24⟩,
 ⟨269,.struct ⟨[⟨"at",3,0,false, "", "billing/subscribe",0⟩,⟨"s",153,1,false, "", "billing/subscribe",8⟩]⟩,.agg ⟨[.int .i64 0,.int .i64 0,.int .i64 0,.int .i64 0,Yg [],.slice none 0 0,.slice none 0 0,.bool false,.bool false]⟩,9,104⟩,
 ⟨272,.func ⟨[269,269]⟩ ⟨[4]⟩ false,.nilFunc,1,8⟩,
 ⟨273,.func ⟨[269,269]⟩ ⟨[269]⟩ false,.nilFunc,1,8⟩,
 ⟨274,.pointer 327,.pointer none,1,8⟩,
 ⟨284,.func ⟨[95]⟩ ⟨[4]⟩ false,.nilFunc,1,8⟩,
 ⟨288,.map 3 4,.map none,1,8⟩,
 ⟨289,.map 9 288,.map none,1,8⟩,
 ⟨302,.struct ⟨[⟨"sub",3,0,false, "", "billing/bucket",0⟩,⟨"product",9,1,false, "", "billing/bucket",8⟩,⟨"index",3,2,false, "", "billing/bucket",24⟩,⟨"from",3,3,false, "", "billing/bucket",32⟩]⟩,.agg ⟨[.int .i64 0,Yg [],.int .i64 0,.int .i64 0]⟩,4,40⟩,
 ⟨305,.slice 308,.slice none 0 0,1,24⟩,
 ⟨308,.struct ⟨[⟨"Band",9,0,false, "", "",0⟩,⟨"Period",56,1,false, "", "",16⟩]⟩,.agg ⟨[Yg [],.int .i64 0,.int .i64 0]⟩,3,32⟩,
 ⟨311,.array 3 250,.agg ⟨[.int .i64 0,.int .i64 0,.int .i64 0,.int .i64 0,.int .i64 0,.int .i64 0]⟩,6,48⟩,
 ⟨314,.func ⟨[98]⟩ ⟨[4]⟩ false,.nilFunc,1,8⟩,
 ⟨316,.func ⟨[262]⟩ ⟨[4]⟩ false,.nilFunc,1,8⟩,
 ⟨323,.map 3 142,.map none,1,8⟩,
 ⟨324,.map 3 153,.map none,1,8⟩,
 ⟨325,.map 9 3,.map none,1,8⟩,
 ⟨327,.struct ⟨[⟨"accounts",323,0,false, "", "billing/customer",0⟩,⟨"subs",324,1,false, "", "billing/customer",8⟩,⟨"ever",288,2,false, "", "billing/customer",16⟩,⟨"owners",325,3,false, "", "billing/customer",24⟩,⟨"live",253,4,false, "", "billing/customer",32⟩,⟨"opened",26,5,false, "", "billing/customer",40⟩,⟨"added",26,6,false, "", "billing/customer",64⟩]⟩,.agg ⟨[.map none,.map none,.map none,.map none,.map none,.slice none 0 0,.slice none 0 0]⟩,7,88⟩,
 ⟨328,.map 3 26,.map none,1,8⟩,
 ⟨331,.func ⟨[140]⟩ ⟨[4]⟩ false,.nilFunc,1,8⟩,
 ⟨333,.func ⟨[4,4]⟩ ⟨[4]⟩ false,.nilFunc,1,8⟩,
 ⟨335,.func ⟨[80]⟩ ⟨[4]⟩ false,.nilFunc,1,8⟩,
 ⟨340,.struct ⟨[⟨"Year",3,0,false, "", "",0⟩,⟨"Month",3,1,false, "", "",8⟩,⟨"Day",3,2,false, "", "",16⟩]⟩,.agg ⟨[.int .i64 0,.int .i64 0,.int .i64 0]⟩,3,24⟩,
 ⟨347,.array 4 3,.agg ⟨[.int .i64 0,.int .i64 0,.int .i64 0,.int .i64 0]⟩,4,32⟩,
 ⟨350,.func ⟨[56,56]⟩ ⟨[4]⟩ false,.nilFunc,1,8⟩,
 ⟨351,.func ⟨[56,56]⟩ ⟨[56]⟩ false,.nilFunc,1,8⟩,
 ⟨352,.slice 354,.slice none 0 0,1,24⟩,
 ⟨354,.struct ⟨[⟨"at",3,0,false, "", "billing/interval",0⟩,⟨"list",3,1,false, "", "billing/interval",8⟩,⟨"by",3,2,false, "", "billing/interval",16⟩]⟩,.agg ⟨[.int .i64 0,.int .i64 0,.int .i64 0]⟩,3,24⟩,
 ⟨357,.func ⟨[354,354]⟩ ⟨[3]⟩ false,.nilFunc,1,8⟩,
 ⟨369,.array 12 3,.agg ⟨[.int .i64 0,.int .i64 0,.int .i64 0,.int .i64 0,.int .i64 0,.int .i64 0,.int .i64 0,.int .i64 0,.int .i64 0,.int .i64 0,.int .i64 0,.int .i64 0]⟩,12,96⟩]
def tx:TX:=⟨tab,[(1,.ref),(2,(.int .i64)),(3,(.int .i64)),(4,.bool),(5,(.int .u8)),(6,(.int .u8)),(9,.str),(22,(.sl Jt)),(23,(.sl J6)),(24,(.sl Yl)),(25,(.sl Cy)),(26,(.sl (.int .i64))),(27,(.sl V2)),(29,Vt),(30,(.sl J2)),(34,J2),(35,(.sl Yk)),(36,(.sl V3)),(37,(.sl Ym)),(39,Zy),(40,(.sl Lv)),(44,(.int .i64)),(45,(.sl Qd4)),(46,(.sl Iz)),(47,(.sl Td)),(49,Lv),(53,V3),(54,(.sl .str)),(56,Ja),(58,Yk),(60,Qd4),(64,.ref),(69,Iz),(71,(.sl Ua)),(72,(.sl Vs)),(73,(.sl Gq)),(74,(.sl Y7)),(76,J6),(78,(.sl Kz)),(80,Yl),(82,Kz),(83,(.sl Gp)),(85,V2),(95,Ua),(96,(.sl Kj)),(98,Vs),(100,Gp),(102,Gq),(104,Jt),(109,(.sl Kk)),(111,Kk),(113,Y7),(116,Td),(118,(.sl Vy)),(119,(.sl Vd)),(121,U3),(128,Cy),(136,I0),(138,.ref),(140,Bx),(142,Vy),(144,Ja5),(145,.ref),(148,(.arr 5 .bool)),(153,Vd),(158,(.sl Ja)),(177,Ym),(184,Rf),(202,(.sl Bx)),(206,Qqf),(208,.ref),(218,.ref),(219,.ref),(221,Qr7),(224,Us),(227,(.sl Ud)),(231,Ud),(232,(.sl Hu)),(235,Hu),(250,(.arr 2 (.int .i64))),(253,.ref),(262,Kj),(266,(.sl Vf)),(269,Vf),(272,.ref),(273,.ref),(274,.ref),(284,.ref),(288,.ref),(289,.ref),(302,Rg),(305,(.sl Qf5)),(308,Qf5),(311,(.arr 3 (.arr 2 (.int .i64)))),(314,.ref),(316,.ref),(323,.ref),(324,.ref),(325,.ref),(327,Qmo),(328,.ref),(331,.ref),(333,.ref),(335,.ref),(340,Qd5),(347,(.arr 4 (.int .i64))),(350,.ref),(351,.ref),(352,(.sl Vu)),(354,Vu),(357,.ref),(369,(.arr 12 (.int .i64)))],[]⟩
theorem Jfh:Tryz.prog.follows .mixedOrders=true:=by kernel_rfl
theorem Jfi:Q6 Tryz.prog tab:=by repeat (first | exact trivial | refine⟨⟨⟨by kernel_rfl,by kernel_rfl⟩,by kernel_rfl⟩,?_⟩)
abbrev KO(c:Con):Prop:=Qe5 Tryz.prog tx.gl c∧Runs Tryz.prog c.f
abbrev IO(i:It):Prop:=Jau Tryz.prog tx.gl i∧Runs Tryz.prog i.f
abbrev V:={c // KO c}
def kcs(N:Nat)(L:List (Nat→V)):List Con:=L.map fun k=>(k N).1
theorem Q7m(N:Nat):∀L:List (Nat→V),Qzy Tryz.prog tx.gl (kcs N L)
 | []=>Jpo
 | c::L=>Jn3 (c N).2.1 (c N).2.2 (Q7m N L)
def Q7n(fn:Func):Bool:=decide (fn.name ≠ "runtime.NumGoroutine")&&!fn.body.isNone
theorem Im{f:FuncId}{fn:Func}(hf:Tryz.prog.funcs[f]?=some fn)(h:Q7n fn=true):Runs Tryz.prog f:=by
 simp only[Q7n,QQ,decide_eq_true_eq,JL]at h
 exact⟨fn,hf,h.1,h.2⟩
theorem kF(N:Nat){c:Con}(L:List (Nat→V))(ps:List (Nat×Pc)){fn:Func}(hf:Tryz.prog.funcs[c.f]?=some fn)(hg:Q7n fn=true:=by rfl)(h:∀x,c.fn x=Jek tx (kcs N L) N fn (Jn6 ((kcs N L).map Con.f) ps fn.body) c.ro c.Γ c.Δ x:=by intro x; kernel_rfl):KO c :=
 ⟨Jjm (Y:=tx) (N:=N) Jfi Jfh (Q7m N L) hf rfl h,Im hf hg⟩
def ics(L:List {i // IO i}):List It:=L.map (·.1)
theorem Jk9:∀L:List {i // IO i},∀i∈ics L,Jau Tryz.prog tx.gl i∧Runs Tryz.prog i.f
 | [],_,h=>by cases h
 | c::L,i,h=>by
  rcases QJ.1 h with rfl | h
  ·exact c.2
  ·exact Jk9 L i h
theorem kR(N:Nat){c:Con}(L:List (Nat→V))(I:List {i // IO i})(an:AnR){fn:Func}(hf:Tryz.prog.funcs[c.f]?=some fn)(hg:Q7n fn=true)(h:∀x,c.fn x=Jfc tx (kcs N L) N (ics I) fn an c.ro c.Γ c.Δ x):KO c :=
 ⟨Jfd (Y:=tx) (N:=N) (an:=an) Jfi Jfh (Q7m N L) (Jk9 I) hf rfl h,Im hf hg⟩
def Vv:Con:=⟨243,⟨[(0,.s 5000),(1,.f 244 (.nil))],[(5000,.row 354 Vu)]⟩,[⟨[],[(5000,.row 354 Vu)]⟩],Qe8 (fun x:Q9=>x.1),[]⟩
theorem Gc:KO Vv:=⟨Qt8 (c:=Vv) (e:=354) (u:=Vu) rfl (fun x=>x) (fun y=>y) (ev:=[⟨1,[],.f 244 .nil⟩]) (vx:=[.func (.func 244) #[] #[]]) rfl (fun _=>by kernel_rfl) (fun _=>by kernel_rfl) rfl Q7l (fun _ _=>Ja2) (fun p w=>AnyF.slices_SortFunc_none { Tryz.sortFunc243 with } p 0 _ w) (fun _ _ h blk cap w hH hb _=>Q0c (u:=Vu) rfl (fun x:Q9=>x.1) Tryz.sortFunc243 isAgg354 sizeOf354 (enters_of func244 (by kernel_rfl) rfl) Tryz.clo244 h blk cap w hH hb),Im func243 rfl⟩
def In:Con:=⟨246,⟨[(0,.s 5000)],[(5000,.row 3 (.int .i64))]⟩,[⟨[],[(5000,.row 3 (.int .i64))]⟩],Qt3,[]⟩
theorem Qgg:KO In:=⟨Qt8 (c:=In) (e:=3) (u:=(.int .i64)) rfl (fun x=>x) (fun y=>y) (ev:=[]) (vx:=[]) rfl (fun _=>by kernel_rfl) (fun _=>by kernel_rfl) rfl Q7k (fun _ _=>Ja3) (fun p w=>AnyM.slices_Sort_int_none Tryz.sortInts246 p 0 w) (fun _ _ h blk cap w hH hb _=>Q0d Tryz.sortInts246 h blk cap w hH hb),Im func246 rfl⟩
def Ad:Con:=⟨247,⟨[(0,.s 5000)],[(5000,.row 3 (.int .i64))]⟩,[⟨[(0,.s 0)],[(0,.row 3 (.int .i64))]⟩],Re,[]⟩
theorem Qa8:KO Ad:=⟨Qt9 (c:=Ad) (e:=3) (u:=(.int .i64)) rfl (fun x=>x) (fun y=>y) (ev:=[]) (vx:=[]) rfl (fun _=>by kernel_rfl) (fun _=>by kernel_rfl) rfl rfl Q7k (fun _ _=>Qwo) (fun p w=>Any.slices_Compact_int_empty Tryz.compactInts247 p 0 w) (fun _ _ h blk cap w hH hb hc=>Qqe Tryz.compactInts247 h blk cap w hH hb hc),Im func247 rfl⟩
def K1:Con:=⟨248,⟨[(0,.s 5000),(1,.f 249 (.nil))],[(5000,.row 3 (.int .i64))]⟩,[⟨[(0,.s 0)],[(0,.row 3 (.int .i64))]⟩],Qt4 (fun m=>decide (m≥1440)),[]⟩
theorem D3:KO K1:=⟨Qt9 (c:=K1) (e:=3) (u:=(.int .i64)) rfl (fun x=>x) (fun y=>y) (ev:=[⟨1,[],.f 249 .nil⟩]) (vx:=[.func (.func 249) #[] #[]]) rfl (fun _=>by kernel_rfl) (fun _=>by kernel_rfl) rfl rfl Q7l (fun _ _=>Ja4) (fun p w=>Qr6 Tryz.deleteFunc248 p w) (fun _ _ h blk cap w hH hb hc=>Q0e Tryz.deleteFunc248 Tryz.zeroValue3 (enters_of func249 (by kernel_rfl) rfl) Tryz.clo249 h blk cap w hH hb hc),Im func248 rfl⟩
def zs1:Shp:=sD [Kk,.i]
def zs2:Shp:=sD [.i]
def zs3:Sk:=.d .i
def zs4:Shp:=⟨[(5,zs3)],[]⟩
def zs5:Shp:=sD [.bool]
def zs6:Shp:=⟨[],[]⟩
def zs7:Sk:=.d .bool
def zs8:Exs:=[(.x 0,zs6),(.r,⟨[(4,zs7)],[]⟩)]
def zs9:Shp:=⟨[(6,zs3)],[]⟩
def Qqh:Shp:=⟨[(7,zs3)],[]⟩
def Qid:Shp:=⟨[(8,zs3)],[]⟩
def Jpu:Exs:=[(.x 6,zs6),(.r,⟨[(4,zs7)],[]⟩)]
def Jn7:Shp:=⟨[(22,zs7)],[]⟩
def Qmp:Shp:=sD [.str]
def Vl:Hn:=.n 1 .done
def T1:Hn:=.nl 3 Vl
def Qcm:Shp:=⟨[(3,zs3)],[]⟩
def Qqi:Exs:=[(.x 0,zs6),(.r,⟨[(2,zs7)],[]⟩)]
def Jn8:Shp:=⟨[(37,zs7)],[]⟩
def Hf:Hn:=.nl 4 Vl
def Jjo:Shp:=⟨[(49,zs7)],[]⟩
def Jn9:Shp:=⟨[(48,zs7)],[]⟩
def Joa:Hn:=.nl 5 .done
def Job:Shp:=⟨[(55,zs7)],[]⟩
def Jfj:Shp:=⟨[(19,zs7)],[]⟩
def Qke:Hn:=.nl 8 Vl
def Qr8:Hn:=.nl 1 Vl
def Jjp:Hn:=.nl 4 (.n 3 Qr8)
def Jjq:Hn:=.call 1 Qr8
def Jfk:Hn:=.nl 2 Jjq
def Jjr:Hn:=.call 2 Qr8
def Jjs:Hn:=.n 15 .done
def Jpv:Hn:=.nl 2 (.call 3 Qr8)
def Jjt:Shp:=sD [U3,.i]
def Q4x:Shp:=⟨[(4,zs3)],[]⟩
def Qr9:Exs:=[(.x 0,zs6),(.r,Q4x)]
def Jfl:Hn:=.call 0 Qr8
def Ja6:Hn:=.nl 2 Vl
def Jpw:HT:=.a (.a (.a (.a (.a (.a (.tl Ja6))))))
def Jpx:HT:=.a Jpw
def Joc:Shp:=sD [U3,Jt]
def Jju:Hn:=.nl 3 Jjq
def Qsa:Hn:=.nl 5 Vl
def Jfm:Shp:=⟨[(41,zs7)],[]⟩
def Q0f:Shp:=sD [.sl .str,.str]
def Jpy:Exs:=[(.n,zs6),(.r,Q4x)]
def Jpz:Exs:=[(.n,⟨[(53,zs7)],[]⟩)]
def Rz:Sk:=.s 1
def Qgh:List (Nat×Sk):=[(0,Rz)]
def Qqj:SkO:=.row 9 .str
def Q4y:Shp:=⟨Qgh,[(1,Qqj)]⟩
def Q0g:Shp:=⟨[(18,zs7)],[]⟩
def T2:Hn:=.nl 6 Vl
def R0:Sk:=.s 100000
def Qie:Sk:=.s 100200
def Jjv:List (Nat×Sk):=[(5,Qie)]
def Jod:Exs:=[(.x 0,⟨Jjv,[(100200,Qqj)]⟩)]
def Qeg:Sk:=.s 100100
def Joe:Exs:=[(.n,⟨[(5,Qeg)],[(100100,Qqj)]⟩)]
def Jp0:Shp:=sD [Vd,Jt]
def R2:Sk:=.p 100000 []
def Yb:Sk:=.d .str
def Jof:Sk:=.d (.sl .str)
def Jog:SkO:=.var 153 (.ag (sL [zs3,zs3,zs3,Yb,Jof,Jof,zs7,zs7]))
def Q0h:Sk:=.s 2
def Ja7:Sk:=.ag (sL [Rz,Q0h,.s 3])
def Q4z:SkO:=.row 142 Vy
def Qsb:SkO:=.row 153 Vd
def Ho:SkO:=.row 3 .i
def Mw:HT:=.tl Vl
def Qa9:Sk:=.p 100100 []
def Joh:Sk:=.p 100101 []
def Jfn:Sk:=.s 100102
def Jfo:Sk:=.s 100103
def Qkf:Sk:=.p 100200 []
def Q0i:Sk:=.s 100201
def Jjw:Sk:=.s 100202
def Joi:Sk:=.s 100203
def Q40:Hn:=.n 3 .done
def Qqk:HT:=.tl Q40
def Jp1:Exs:=[(.n,⟨[(90,zs7)],[]⟩)]
def Q41:Hn:=.n 2 .done
def Ja8:HT:=.tl Q41
def Mx:Shp:=sD [.i,.i]
def Qql:Sk:=.s 100001
def Jjx:Sk:=.s 100002
def Joj:Sk:=.s 100003
def Jok:Sk:=.ag (sL [Qql,Jjx,Joj])
def Jp2:Exs:=[(.x 0,zs6),(.r,⟨[(2,zs3),(3,zs3)],[]⟩)]
def Q0j:Hn:=.n 6 .done
def Qmq:Hn:=.call 0 Vl
def Jjy:Hn:=.n 5 .done
def Jfp:Hn:=.call 1 Vl
def Qmr:Exs:=[(.x 0,zs6),(.r,⟨[(2,zs3)],[]⟩)]
def Jol:Exs:=[(.x 2,zs6),(.r,⟨[(2,zs3)],[]⟩)]
def Jjz:Hn:=.n 10 .done
def Jp3:Shp:=sD [Yl]
def Jj0:Hn:=.nl 13 .done
def Jom:Shp:=sD [.int .u8]
def Qly:Hn:=.nl 2 Jfl
def Jfq:Shp:=⟨[(35,zs7)],[]⟩
def Jfr:Exs:=[(.x 0,zs6),(.r,⟨[(6,zs7)],[]⟩)]
def Qlz:Hn:=.n 8 .done
def Jla:Shp:=sD [.sl Ua]
def Jlb:Shp:=sD [.sl Vs]
def Jlc:Shp:=sD [J6,.str]
def Jld:Shp:=sD [.sl Gp]
def Q0k:Shp:=sD [J6]
def Qqm:Shp:=sD [Kk]
def Qua:HT:=.a Mw
def Q7o:Hn:=.n 7 .done
def Jle:Exs:=[(.n,⟨[(42,zs7)],[]⟩)]
def Jfs:List (Nat×SkO):=[(100000,Ho)]
def Jlf:Shp:=⟨[(7,R0),(8,zs3)],Jfs⟩
def Jft:Shp:=⟨[(4,zs3),(5,zs3)],[]⟩
def Q0l:Shp:=sD [Ja]
def Q0m:Shp:=sD [.sl .i,.i]
def Jfu:Shp:=⟨Qgh,[(1,Ho)]⟩
def Qqn:Sk:=.s 100400
def Jfv:List (Nat×SkO):=[(100400,Ho)]
def Ql0:Sk:=.s 100300
def Jfw:List (Nat×SkO):=[(100200,Ho)]
def Q7p:Sk:=.s 100500
def Jlg:Shp:=⟨[(0,.d (.sl .i))],[]⟩
def Jlh:Shp:=sD [Ja,.i]
def Dg:SkO:=.row 56 Ja
def Qif:Shp:=⟨Qgh,[(1,Dg)]⟩
def Q7q:List (Nat×SkO):=[(100000,Dg)]
def Jfx:List (Nat×SkO):=[(100400,Dg)]
def Jli:HT:=.a (.a Ja8)
def Q7r:Shp:=sD [Ja,Ja]
def Jlj:Shp:=sD [Ja,.bool]
def Qff:Hn:=.nl 7 Vl
def Jfy:Shp:=sD [Zy]
def Uj:SkO:=.row 58 Yk
def Qaw:SkO:=.row 53 V3
def Qax:SkO:=.row 177 Ym
def Jlk:List (Nat×SkO):=[(1,Uj),(2,Qaw),(3,Qax)]
def Q0n:Shp:=⟨[(0,Ja7)],Jlk⟩
def Q7s:HT:=.e 3 Mw
def Qub:List (Nat×Sk):=[(3,Qa9)]
def Qcn:Sk:=.s 100101
def Qig:Hn:=.n 4 .done
def Jll:Shp:=sD [.sl J2]
def Jfz:Hn:=.call 0 Q41
def Jlm:Sk:=.d (.sl J2)
def Jln:SkO:=.row 34 J2
def Jlo:HT:=.a (.a (.a (.a (.a (.a (.a (.tl Hf)))))))
def Jf0:List (Nat×Sk):=[(5,R0),(10,zs3)]
def Qfg:Sk:=.p 100300 []
def Jf1:Sk:=.p 100301 []
def Q7t:SkO:=.var 153 (.ag (sL [zs3,zs3,zs3,Yb,.ns,.ns,zs7,zs7]))
def Quc:Shp:=sD [.sl Jt,.i]
def Ql1:SkO:=.row 269 Vf
def Q0o:Sk:=.p 100001 []
def Jf2:Sk:=.d Vd
def Jf3:SkO:=.var 153 Jf2
def Jf4:Sk:=.p 100201 []
def Q7u:Hn:=.nl 9 Vl
def Jlp:Shp:=sD [Vf,Vf]
def Jlq:List (Nat×Sk):=[(7,R0),(13,zs3)]
def Jlr:HT:=.a (.a (.a (.a (.a (.tl Qr8)))))
def Q7v:HT:=.a (.a Jlr)
def Q7w:SkO:=.row 140 Bx
def Qco:Sk:=.d Ja
def Jf5:SkO:=.var 56 Qco
def Q7x:Shp:=sD [.sl Jt,.i,.i]
def Jls:SkO:=.var 140 (.ag (sL [Qco,Yb,.ns,zs7,zs7]))
def Jf6:List (Nat×Sk):=[(6,Qkf),(7,zs7)]
def Ae:Sk:=.d Bx
def Q0p:SkO:=.map .i Vy
def Ql2:SkO:=.map .i .bool
def Qay:SkO:=.map .i .i
def Jlt:Sk:=.d (.sl Jt)
def N7:SkO:=.var 3 zs3
def Ge:Sk:=.p 5000 []
def Q7y:Sk:=.m 5001
def Qud:Sk:=.m 5002
def Q7z:Sk:=.m 5003
def Q70:Sk:=.m 5004
def Q71:Sk:=.m 5005
def Qih:Sk:=.s 5006
def Qqo:Sk:=.s 5007
def Jf7:List (Nat×SkO):=[(5000,.var 327 (.ag (sL [Q7y,Qud,Q7z,Q70,Q71,Qih,Qqo]))),(5001,Q0p),(5002,.map .i Vd),(5003,Ql2),(5004,.map .str .i),(5005,Qay),(5006,Ho),(5007,Ho)]
def Jf8:List (Nat×SkO):=[(5004,.map .str .i)]
def Qaz:List (Nat×Sk):=[(0,Ge)]
def Jlu:Hn:=.fz 5006 (.dt 5000 .done)
def Jlv:Shp:=⟨[(0,.ag (sL [Rz,Q0h]))],[(1,Q4z),(2,Qsb)]⟩
def Jf9:SkO:=.mapC .i (.sl 3 .i)
def Q0q:Sk:=.s 100301
def Jga:Sk:=.s 100302
def Que:Sk:=.p 100400 []
def Q72:Sk:=.s 100401
def Jlw:List (Nat×Sk):=[(6,R2),(15,zs3)]
def Jlx:SkO:=.var 142 (.ag (sL [zs3,zs3,zs3,zs7,zs7,.ns]))
def Bi:Sk:=.d Vy
def Hp:Sk:=.d Vt
def Bj:Sk:=.d Zy
def V8:Sk:=.d J2
def Qqp:Sk:=.s 5001
def N8:Sk:=.s 5002
def R3:Sk:=.s 5003
def Qa0:Sk:=.s 5004
def Ql3:Sk:=.s 5005
def Jly:Sk:=.ag (sL [V8,zs3,Yb,zs3,Yb,Qqo,.s 5008,zs3,zs3,zs3,.s 5009,zs3,zs3])
def Bk:SkO:=.row 95 Ua
def Wm:SkO:=.row 98 Vs
def G6:SkO:=.row 102 Gq
def Fb:SkO:=.row 113 Y7
def Ub:SkO:=.row 60 Qd4
def Uc:SkO:=.row 69 Iz
def Ur:SkO:=.row 116 Td
def Qii:List (Nat×Sk):=[(0,zs3)]
def Q0r:Sk:=.ag (sL [Yb,zs3,zs7,Rz,Q0h,.s 3,.s 4])
def Jlz:Sk:=.ag (sL [V8,zs3,Yb,zs3,Yb,.s 5,.s 6,zs3,zs3,zs3,.s 7,zs3,zs3])
def Jl0:SkO:=.var 144 (.ag (sL [Hp,Bj,V8,.ag (sL [Qco,Yb,Jof,zs7,zs7]),.ag (sL [zs3,zs3,zs3,zs7,zs7,.d (.sl .i)]),Q0r,zs3,Jlz]))
def Jl1:HT:=.e 3 (.f 3 3 Mw)
def Io:Sk:=.p 5001 []
def Ql4:Sk:=sL [Ge]
def Ql5:SkO:=.var 44 zs3
def Jl2:Shp:=sD [.sl Kj]
def Q73:SkO:=.row 100 Gp
def Q74:SkO:=.row 111 Kk
def Jgb:List (Nat×SkO):=[(1,Bk),(2,Wm),(3,G6),(4,Fb)]
def Jl3:List (Nat×SkO):=[(100000,.var 76 (.ag (sL [Yb,zs3,zs7,Qql,.ns,.ns,.ns]))),(100001,Bk)]
def Jl4:Exs:=[(.x 0,⟨Qub,[(100100,.var 76 (.ag (sL [Yb,zs3,zs7,Qcn,.ns,.ns,.ns]))),(100101,Bk)]⟩)]
def Jl5:List (Nat×SkO):=[(100200,.var 76 (.ag (sL [Yb,zs3,zs7,Q0i,Jjw,.ns,.ns]))),(100201,Bk),(100202,Wm)]
def Jl6:Exs:=[(.x 2,⟨[(3,Qfg)],[(100300,.var 76 (.ag (sL [Yb,zs3,zs7,Q0q,Jga,.ns,.ns]))),(100301,Bk),(100302,Wm)]⟩)]
def Jl7:List (Nat×SkO):=[(100400,.var 76 (.ag (sL [Yb,zs3,zs7,Q72,.s 100402,.s 100403,.ns]))),(100401,Bk),(100402,Wm),(100403,G6)]
def Jl8:List (Nat×Sk):=[(3,.p 100500 [])]
def Jgc:Sk:=.s 100501
def Jl9:Exs:=[(.x 4,⟨Jl8,[(100500,.var 76 (.ag (sL [Yb,zs3,zs7,Jgc,.s 100502,.s 100503,.ns]))),(100501,Bk),(100502,Wm),(100503,G6)]⟩)]
def Jgd:Sk:=.s 100601
def Jma:List (Nat×SkO):=[(100600,.var 76 (.ag (sL [Yb,zs3,zs7,Jgd,.s 100602,.s 100603,.s 100604]))),(100601,Bk),(100602,Wm),(100603,G6),(100604,Fb)]
def Jmb:List (Nat×Sk):=[(3,.p 100700 [])]
def Jge:Sk:=.s 100701
def Jmc:Exs:=[(.x 6,⟨Jmb,[(100700,.var 76 (.ag (sL [Yb,zs3,zs7,Jge,.s 100702,.s 100703,.s 100704]))),(100701,Bk),(100702,Wm),(100703,G6),(100704,Fb)]⟩)]
def Jgf:Exs:=[(.n,Qid)]
def Jmd:List (Nat×SkO):=[(5000,.var 95 (.d Ua))]
def Ql6:Sk:=.d (.sl Ua)
def Jme:Shp:=⟨[(0,Ql6),(1,.f 164 Ql4)],Jmd⟩
def Quf:SkO:=.map .str .str
def Q75:Sk:=.m 100000
def Q76:Sk:=.m 100100
def Q0s:Hn:=.nl 1 Jjq
def Jmf:An:=.two (.reg Q41) .nil
def Jgg:Sk:=.ag (sL [V8,zs3,Yb,zs3,Yb,Ql3,Qih,zs3,zs3,zs3,Qqo,zs3,zs3])
def Jmg:Sk:=.ag (sL [V8,zs3,Yb,zs3,Yb,.s 4,.s 5,zs3,zs3,zs3,.s 6,zs3,zs3])
def Jgh:SkO:=.var 144 (.ag (sL [Hp,Bj,V8,Ae,Bi,.ag (sL [Yb,zs3,zs7,Ql6,Rz,Q0h,.s 3]),zs3,Jmg]))
def Jmh:Shp:=sD [.sl Yk]
def Jmi:HT:=.b 1 (.c 1 Qqk)
def Jgi:Shp:=⟨[(11,zs3)],[]⟩
def Jmj:Shp:=⟨[(0,.m 1)],[(1,Qay)]⟩
def Q77:Shp:=sD [.i,.i,.i]
def Jgj:Shp:=sD [V3]
def Ql7:Shp:=sD [V3,.i]
def Q0t:SkO:=.var 53 (.d V3)
def Jgk:Hn:=.n 2 (.call 4 .done)
def Q78:Shp:=sD [Yk]
def Jgl:Shp:=⟨[(0,.ag (sL [zs3,zs3,Yb,zs3,zs3,Rz,Qco,zs3,zs3,zs3,zs7]))],[(1,Qqj)]⟩
def Qij:Shp:=⟨[(9,zs3)],[]⟩
def Q0u:SkO:=.var 9 Yb
def Q79:Sk:=.d (.sl Ja)
def Jmk:Exs:=[(.x 0,⟨[(7,Qie)],[(100200,Dg)]⟩)]
def Jml:Exs:=[(.n,⟨[(7,Qeg)],[(100100,Dg)]⟩)]
def Q8a:SkO:=.row 231 Ud
def Qug:SkO:=.mapC .str (.mp .i .bool)
def Jgm:Shp:=⟨[(25,zs7)],[]⟩
def Jgn:Hn:=.nl 1 Qmq
def Q8b:SkO:=.var 340 (.d Qd5)
def Ql8:SkO:=.row 354 Vu
def Jmm:Shp:=⟨[(0,Q79),(1,zs3),(2,Ge)],[(5000,.var 352 Qqp),(5001,Ql8)]⟩
def Jmn:Shp:=⟨[],[(5000,.var 352 Rz),(1,Ql8)]⟩
def Q8c:SkO:=.var 250 (.d (.arr 2 .i))
def Jmo:List (Nat×SkO):=[(5000,Q0u),(5001,N7)]
def Qik:SkO:=.row 80 Yl
def Quh:SkO:=.row 82 Kz
def Q8d:SkO:=.row 235 Hu
def Jgo:Shp:=sD [Yk,Yk]
def Qa1:SkO:=.map Us .bool
def Jmp:HT:=.k 0 [] [] [] [] Mw
def Jmq:HT:=.a (.a (.a (.a (.a (.a (.a (.a (.a (.a (.a (.a (.a (.a (.tl T1))))))))))))))
def Jmr:List (Nat×SkO):=[(5000,.var 98 (.d Vs))]
def Jms:Sk:=.d (.sl Vs)
def Jmt:Shp:=⟨[(0,Jms),(1,.f 194 Ql4)],Jmr⟩
def Jmu:List (Nat×SkO):=[(5000,N7),(5001,N7)]
def Jmv:Shp:=⟨[(0,.d (.sl Kj)),(1,.f 196 (sL [Ge,Io]))],Jmu⟩
def Qui:SkO:=.row 308 Qf5
def Jmw:SkO:=.var 102 (.ag (sL [zs3,Yb,Yb,zs3,.ns]))
def Jgp:List (Nat×SkO):=[(5000,Q73)]
def Qqq:Shp:=sD [.i,.bool]
def Jmx:Shp:=sD [J6,.sl .i,J2,.i]
def Jmy:List (Nat×Sk):=[(0,Rz),(1,zs3),(2,zs3)]
def Jmz:HT:=.a (.a (.a Qua))
def Quj:Sk:=.d J6
def Jm0:SkO:=.var 144 (.ag (sL [Hp,Ja7,V8,Ae,Bi,Quj,zs3,Jmg]))
def Jm1:Sk:=.d (.sl Ym)
def Q8e:Sk:=.ag (sL [.d (.sl Yk),.d (.sl V3),Jm1])
def Q8f:Sk:=.ag (sL [V8,zs3,Yb,zs3,Yb,Rz,Q0h,zs3,zs3,zs3,.s 3,zs3,zs3])
def Jgq:Shp:=⟨Qaz,[(5000,.var 144 (.ag (sL [Hp,Bj,V8,Ae,Bi,Quj,zs3,.ag (sL [V8,zs3,Yb,zs3,Yb,Qqp,N8,zs3,zs3,zs3,R3,zs3,zs3])]))),(5001,Ub),(5002,Uc),(5003,Ur)]⟩
def Jgr:Shp:=sD [Ym]
def Q0v:SkO:=.var 177 (.d Ym)
def Jm2:SkO:=.var 184 (.d Rf)
def Jm3:Shp:=⟨[(0,zs3),(1,Ge),(2,Io)],[(5000,.var 111 (.d Kk)),(5001,Jm2)]⟩
def Q0w:Shp:=sD [Kk,Rf]
def Jm4:HT:=.b 2 (.c 2 (.a (.a (.c 3 (.k 2 [] [] [] [] Jmz)))))
def Jm5:Shp:=⟨[(8,zs3),(9,zs3)],[]⟩
def Jgs:SkO:=.var 144 (.ag (sL [Hp,Bj,V8,Ae,Bi,Quj,zs3,Q8f]))
def Jm6:Shp:=⟨Qaz,[(5000,.var 138 Io),(5001,.var 144 (.ag (sL [Hp,Bj,V8,Ae,Bi,Quj,zs3,.ag (sL [V8,zs3,Yb,zs3,Yb,N8,R3,zs3,zs3,zs3,Qa0,zs3,zs3])]))),(5002,Ub),(5003,Uc),(5004,Ur)]⟩
def Jm7:Shp:=⟨Qii,[(5001,Jgs),(1,Ub),(2,Uc),(3,Ur)]⟩
def Jm8:List (Nat×SkO):=[(5000,.var 138 Io),(5001,.var 144 (.ag (sL [Hp,Bj,V8,Ae,Bi,Quj,zs3,.ag (sL [V8,zs3,Yb,zs3,Yb,N8,R3,zs3,zs3,zs3,Qa0,zs3,zs3])]))),(5002,Ub),(5003,Uc),(5004,Ur),(5005,Ql5)]
def Jm9:Shp:=⟨[],[(5001,Jgs),(5005,Ql5),(1,Ub),(2,Uc),(3,Ur)]⟩
def Jgt:SkO:=.row 49 Lv
def Jna:Shp:=⟨[(0,Bj),(1,Rz)],[(1,Jgt)]⟩
def Jnb:Shp:=sD [Vt,.sl J2]
def Jgu:List (Nat×Sk):=[(3,R2),(4,zs3)]
def Qqr:SkO:=.row 104 Jt
def Qqs:SkO:=.row 76 J6
def Qqt:SkO:=.row 128 Cy
def Jgv:SkO:=.row 85 V2
def Hq(N n:Nat):Con:=⟨30,zs1,[zs2],fun(x0,x1)=>Ye N n x0 x1,[]⟩
theorem Fc(N:Nat):∀n,KO (Hq N n)
 | 0=>⟨Fo fun _=>rfl,Im func30 rfl⟩
 | n+1=>have ih:=Fc N n; kF N [fun _=>⟨_,ih⟩] [(16,.lp [1,2] [2] ⟨[(5,zs3),(6,zs3)],[]⟩ [(.x 0,zs4)])] func30
def Qcp(N:Nat):V:=⟨Hq N N,Fc N N⟩
def Qcq(N:Nat):V:=⟨⟨20,(sD [J6,.i]),[zs5],u2 (H4 N),[]⟩,kF N [Qcp] [(14,.lp [1,2] [2] zs4 zs8),(35,.lp [1,2] [2] zs9 [(.x 2,zs6),(.r,⟨[(4,zs7)],[]⟩)]),(56,.lp [1,2] [2] Qqh [(.x 4,zs6),(.r,⟨[(4,zs7)],[]⟩)]),(77,.lp [1,2] [2] Qid Jpu)] func20⟩
def Ip(N:Nat):V:=⟨⟨56,zs2,[(sD [.arr 5 .bool])],X6 N,[]⟩,kF N [] [(25,.jn [2,3] [2] [(.n,⟨[(13,zs7)],[]⟩)]),(35,.jn [2,3] [2] [(.n,⟨[(17,zs7)],[]⟩)]),(49,.jn [2] [2] [(.n,Jn7)])] func56⟩
def Qil(N:Nat):V:=⟨⟨85,zs2,[zs5],Hv N,[]⟩,kF N [] [] func85⟩
def Ka(N:Nat):V:=⟨⟨36,Qmp,[zs5],Vg N,[]⟩,kF N [] [(4,.rg (.n 9 (.sp 12 4 [0] [] ⟨[(16,zs7)],[]⟩ T1 T1 (.n 1 (.sp 17 4 [0] [] ⟨[(21,zs7)],[]⟩ T1 T1 .done))))),(14,.lp [0] [] Qcm Qqi),(24,.rg (.n 5 (.sp 32 5 [3] [] Jn8 Hf Hf (.n 1 (.sp 38 11 [3] [] Jjo (.nl 5 (.sp 43 5 [3,38] [] Jn9 Joa Joa Vl)) (.nl 10 Vl) (.n 1 (.sp 50 5 [3] [] Job Hf Hf .done)))))))] func36⟩
def Dh(N:Nat):V:=⟨⟨86,Qmp,[zs5],K7 N,[]⟩,kF N [] [(6,.lp [0] [] Qcm Qqi),(16,.rg (.n 5 (.sp 14 5 [3] [] Jfj Hf Hf .done)))] func86⟩
def Qcr(N:Nat):V:=⟨⟨87,(sD [Jt]),[zs5],H5 N,[]⟩,kF N [] [] func87⟩
def Qeh(N:Nat):V:=⟨⟨55,(sD [Jt,.i]),[zs2],u2 (Fr N),[]⟩,kF N [Ip,Qil,Ka,Dh,Qcr] [(30,.rg (.n 9 (.sp 37 9 [2,5] [2,5] ⟨[(46,zs7)],[]⟩ Qke Jjp (.n 1 (.sp 47 9 [2,5] [2,5] ⟨[(56,zs7)],[]⟩ Qke Jjp (.n 1 (.sp 57 9 [2,5] [2,5] ⟨[(66,zs7)],[]⟩ Qke Jjp (.n 1 (.sp 67 9 [2,5] [2,5] ⟨[(76,zs7)],[]⟩ Qke Jjp .done))))))))),(38,.rg (.n 3 (.sp 79 5 [2,5] [2,5] ⟨[(84,zs7)],[]⟩ Jfk Hf (.n 1 (.sp 85 9 [2,5] [2,5] ⟨[(94,zs7)],[]⟩ Qke (.nl 3 (.sp 88 5 [2,5,85] [] ⟨[(93,zs7)],[]⟩ (.nl 2 (.call 1 (.nl 2 .done))) Joa Vl)) .done))))),(46,.rg (.n 3 (.sp 97 5 [2,5] [2,5] ⟨[(102,zs7)],[]⟩ (.nl 2 Jjr) Hf Jjs))),(54,.rg (.n 3 (.sp 120 5 [2,5] [2,5] ⟨[(125,zs7)],[]⟩ Jpv Hf .done))),(62,.rg (.n 3 (.sp 128 4 [2] [2,5] ⟨[(132,zs7)],[]⟩ (.nl 1 (.call 4 Qr8)) T1 .done)))] func55⟩
def Af(N:Nat):V:=⟨⟨59,Jjt,[zs2],u2 (Zq N),[]⟩,kF N [] [(6,.lp [1,2] [2] zs4 Qr9)] func59⟩
def Ez(N:Nat):V:=⟨⟨60,Jjt,[zs2],u2 (Km N),[]⟩,kF N [] [(6,.lp [1,2] [2] zs4 Qr9)] func60⟩
def Di(N:Nat):V:=⟨⟨89,Jjt,[zs5],u2 (K8 N),[]⟩,kF N [] [(6,.lp [1,2] [2] zs4 zs8)] func89⟩
def Qei(N:Nat):V:=⟨⟨88,Jjt,[zs5],u2 (Fs N),[]⟩,kF N [Di] [(6,.lp [1,2] [2] zs4 zs8),(16,.jn [5] [] [(.n,⟨[(31,zs7)],[]⟩)]),(16,.an (.dc 16 [13,14,15,16,17,18,19,20,21,22,23,24,25,26,27,28] [] [2] (.b 2 (.c 2 (.a (.a (.a (.a (.a (.a (.a (.so 21 (.c 2 (.b 2 (.c 2 (.a (.a (.a (.a (.tl Jfl)))))))) Jpx))))))))))))] func88⟩
def Pm(N:Nat):V:=⟨⟨57,Joc,[zs2],u2 (K9 N),[]⟩,kF N [Af,Ez,Qei] [(38,.rg (.n 4 (.sp 26 6 [2,3,5] [2,3] ⟨[(32,zs7)],[]⟩ Jju Qsa .done))),(46,.rg (.n 4 (.sp 36 5 [2,3,5] [2,3] Jfm (.nl 3 (.call 2 Vl)) Hf (.n 1 (.sp 42 13 [2,3,5] [2,3] Job (.nl 12 Vl) (.nl 4 (.sp 46 8 [2,5,42] [] ⟨[(54,zs7)],[]⟩ (.nl 8 .done) (.nl 8 .done) Vl)) .done)))))] func57⟩
def My(N:Nat):V:=⟨⟨91,Q0f,[zs5],u2 (Ut N),[]⟩,kF N [] [(6,.lp [0,1] [] zs4 zs8)] func91⟩
def Qcs(N:Nat):V:=⟨⟨90,(sD [U3,.str]),[zs5],u2 (H6 N),[]⟩,kF N [My] [(6,.lp [1,2] [2] zs4 zs8)] func90⟩
def Qct(N:Nat):V:=⟨⟨58,Joc,[zs2],u2 (H7 N),[]⟩,kF N [Ez,Di,Qcs,My] [(23,.jn [] [2,3,6] Jpy),(67,.jn [3,6,23] [] Jpz),(81,.jn [3,6] [] [(.n,⟨[(62,zs7)],[]⟩)])] func58⟩
def Qcu(N:Nat):V:=⟨⟨31,(sD [U3,Jt,.i]),[zs2],u3 (H8 N),[]⟩,kF N [Qeh,Ip,Pm,Qct] [] func31⟩
def Qej(N:Nat):V:=⟨⟨92,Q0f,[Q4y],u2 (X7 N),[]⟩,kF N [] [(6,.lp [0,1] [] zs4 [(.x 0,zs4)]),(9,.rg (.n 5 (.sp 11 7 [5] [] Q0g T2 T2 .done)))] func92⟩
def T3(N:Nat):V:=⟨⟨93,Q0f,[Q4y],u2 (Zr N),[]⟩,kF N [] [(8,.lp [0,1] [] ⟨[(5,R0),(6,zs3)],[(100000,Qqj)]⟩ Jod),(16,.jn [6] [] Joe)] func93⟩
def T4(N:Nat):V:=⟨⟨61,Jp0,[(sD [Vd])],u2 (Ww N),[]⟩,kF N [Qej,T3] [(3,.jn [4] [3,4] [(.n,⟨[(2,R2)],[(100000,Jog)]⟩)])] func61⟩
def Qcv(N:Nat):V:=⟨⟨32,Joc,[⟨[(0,Ja7)],[(1,Q4z),(2,Qsb),(3,Ho)]⟩],u2 (H9 N),[]⟩,kF N [Af,Ez,T4] [(3,.an (.dc 14 [7,8,9,10,11,12,13,14,15,16,17,18,19,5] [2] [] (.e 7 (.b 2 (.c 2 (.g [7] [] [10] [10] (.e 11 (.b 2 (.c 2 (.g [11] [] [14] [14] (.e 15 (.b 2 (.c 2 (.g [15] [] [18] [18] (.g [] [] [] [10,14,18] (.e 5 Mw)))))))))))))))),(5,.jn [] [2,3] [(.n,⟨[(4,Qa9),(5,Joh)],[(100100,.var 121 (.ag (sL [.ns,.ns,.ns]))),(100101,.var 121 (.ag (sL [Jfn,Jfo,.s 100104]))),(100102,Q4z),(100103,Qsb),(100104,Ho)]⟩),(.r,⟨[(4,Qkf)],[(100200,.var 121 (.ag (sL [Q0i,Jjw,Joi]))),(100201,Q4z),(100202,Qsb),(100203,Ho)]⟩)]),(15,.an (.dc 6 [66,67,68,69,70,71] [5] [2,3] (.b 5 (.d 5 10 (.c 2 (.b 3 (.c 3 (.k 0 [] [] [] [] Qqk)))))))),(21,.jn [2,3,4,5] [4,5,10,14,18] Jp1),(33,.an (.dc 10 [26,27,28,29,30,31,32,33,34,35] [5,14] [3] (.b 5 (.d 5 14 (.a (.b 5 (.d 5 14 (.a (.d 14 14 (.c 14 (.c 3 (.k 2 [] [] [] [] Ja8))))))))))))] func32⟩
def Qcw(N:Nat):V:=⟨⟨21,(sD [.sl Jt]),[Mx],Ea N,[]⟩,kF N [Qcu,Qcv] [(18,.lp [0] [] ⟨[(4,R2),(5,zs3),(6,zs3)],[(100000,.var 121 Jok),(100001,Q4z),(100002,Qsb),(100003,Ho)]⟩ Jp2),(28,.an (.dr 6 Q0j Qmq)),(38,.an (.dr 5 Jjy Jfp))] func21⟩
def Qcx(N:Nat):V:=⟨⟨94,(sD [.sl .str]),[zs2],Eb N,[]⟩,kF N [Ka] [(14,.lp [0] [] Qcm Qmr),(35,.lp [0] [] Q4x Jol),(45,.an (.dr 10 Jjz .done))] func94⟩
def Qba(N:Nat):V:=⟨⟨62,(sD [Kz]),[zs2],G8 N,[]⟩,kF N [Qcx] [] func62⟩
def Qgi(N:Nat):V:=⟨⟨33,Jp3,[zs2],By N,[]⟩,kF N [Ka,Qba] [(46,.lp [1] [1] Qcm Qmr)] func33⟩
def Qcy(N:Nat):V:=⟨⟨22,(sD [.sl Yl]),[zs2],Ec N,[]⟩,kF N [Qgi] [(14,.lp [0] [] Qcm Qmr),(34,.an (.dr 44 (.n 3 (.sp 24 41 [3] [] ⟨[(65,zs7)],[]⟩ (.nl 13 (.sp 37 27 [3,24] [] ⟨[(64,zs7)],[]⟩ (.nl 27 .done) (.nl 13 (.sp 50 13 [3,24,37] [] ⟨[(63,zs7)],[]⟩ Jj0 Jj0 (.nl 1 .done))) Vl)) (.nl 40 Vl) .done)) .done))] func22⟩
def Qcz(N:Nat):V:=⟨⟨95,Jom,[zs5],Xa N,[]⟩,kF N [] [] func95⟩
def Qc0(N:Nat):V:=⟨⟨96,Jom,[zs5],Ed N,[]⟩,kF N [] [] func96⟩
def Iq(N:Nat):V:=⟨⟨63,Qmp,[zs5],X8 N,[]⟩,kF N [Qcz,Qc0] [(4,.rg (.n 9 (.sp 12 5 [0] [] ⟨[(17,zs7)],[]⟩ Hf Qly .done))),(14,.lp [0] [] Qcm Qqi),(24,.rg (.n 3 (.call 0 (.n 2 (.sp 29 6 [3] [] Jfq Jju Qsa (.n 1 (.sp 36 5 [3] [] Jfm Hf Hf .done)))))))] func63⟩
def Ir(N:Nat):V:=⟨⟨98,Qmp,[zs5],X9 N,[]⟩,kF N [] [(4,.rg (.n 9 (.sp 14 4 [0] [] Q0g T1 T1 (.n 1 (.sp 19 4 [0] [] ⟨[(23,zs7)],[]⟩ T1 T1 .done))))),(14,.lp [0] [] Qcm Qqi),(24,.an (.dr 22 (.n 5 (.sp 34 5 [3] [] ⟨[(39,zs7)],[]⟩ Hf Hf (.n 5 (.sp 44 5 [3,39] [] Jjo Hf Hf Q41)))) .done)),(26,.rg (.n 7 (.sp 56 5 [3] [] ⟨[(61,zs7)],[]⟩ Hf Hf .done)))] func98⟩
def T5(N:Nat):V:=⟨⟨144,(sD [.sl Ua,.i,.i]),[zs5],u3 (Wx N),[]⟩,kF N [] [(6,.lp [0,1,2] [] Qqh Jfr),(18,.lp [7] [] Qid [(.x 2,zs6),(.r,⟨[(6,zs7)],[]⟩)]),(34,.an (.dr 17 (.n 17 .done) .done))] func144⟩
def Qek(N:Nat):V:=⟨⟨97,(sD [.sl Ua,.i]),[zs2],u2 (Ft N),[]⟩,kF N [Ir,Dh,T5] [(16,.lp [0,1,5] [5] zs9 Qr9),(26,.an (.dr 8 Qlz .done)),(53,.lp [0,1,5] [5] Qqh [(.x 2,zs6),(.r,Q4x)])] func97⟩
def Qc1(N:Nat):V:=⟨⟨64,Jla,[zs2],Ee N,[]⟩,kF N [Qek] [(14,.lp [0] [] Qcm Qmr)] func64⟩
def Qc2(N:Nat):V:=⟨⟨99,(sD [.sl Kj,.bool]),[zs2],u2 (Ef N),[]⟩,kF N [] [(38,.lp [0] [] zs4 Qr9)] func99⟩
def Qc3(N:Nat):V:=⟨⟨65,Jlb,[zs2],Eg N,[]⟩,kF N [Ir,Qc2] [(22,.lp [0] [] Qcm Qmr),(43,.lp [3] [] Q4x Jol),(53,.an (.dr 11 (.n 11 .done) .done))] func65⟩
def Qel(N:Nat):V:=⟨⟨100,Jlc,[zs5],u2 (Fu N),[]⟩,kF N [] [(6,.lp [1,2] [2] zs4 zs8)] func100⟩
def Qem(N:Nat):V:=⟨⟨101,Jlc,[zs5],u2 (Fv N),[]⟩,kF N [] [(6,.lp [1,2] [2] zs4 zs8)] func101⟩
def Dj(N:Nat):V:=⟨⟨38,Jld,[zs2],Xb N,[]⟩,kF N [] [(24,.lp [0] [] ⟨[(3,zs3),(4,zs3)],[]⟩ Qmr)] func38⟩
def Qc4(N:Nat):V:=⟨⟨66,Q0k,[zs2],Eh N,[]⟩,kF N [Qel,Qem,Dj] [(14,.lp [1] [1] Qcm Qmr),(35,.rg (.n 3 (.call 0 (.n 2 (.sp 35 6 [3,4] [4] Jfm Qsa Jju .done)))))] func66⟩
def Qc5(N:Nat):V:=⟨⟨233,zs2,[zs2],Ei N,[]⟩,kF N [] [] func233⟩
def Qgj(N:Nat):V:=⟨⟨258,Q0f,[zs5],u2 (Gr N),[]⟩,kF N [] [(6,.lp [0,1] [] zs4 zs8)] func258⟩
def Hr(N:Nat):V:=⟨⟨234,Qmp,[zs2],Um N,[]⟩,kF N [Qgj] [] func234⟩
def Qgk(N:Nat):V:=⟨⟨203,Qqm,[zs2],Bz N,[]⟩,kF N [Qc5,Hr] [(4,.an (.dc 6 [3,4,5,6,7,8] [1] [] (.b 1 (.c 1 (.k 0 [] [] [] [] (.b 1 (.c 1 Qua))))))),(28,.rg (.n 4 (.sp 35 5 [1] [1] ⟨[(40,zs7)],[]⟩ Jfk Hf .done)))] func203⟩
def Qbb(N:Nat):V:=⟨⟨204,(sD [Kk,.sl .i]),[zs2],u2 (G9 N),[]⟩,kF N [Hr] [(41,.an (.dr 7 Q7o .done)),(48,.jn [] [2] Jpy),(52,.jn [1,30] [] [(.n,Jfq)]),(66,.jn [1,30] [] Jle),(80,.jn [1] [] [(.n,Jjo)])] func204⟩
def Bl(N n:Nat):Con:=⟨145,zs1,[Mx],fun(x0,x1)=>Vh N n x0 x1,[]⟩
theorem Dk(N:Nat):∀n,KO (Bl N n)
 | 0=>⟨Fo fun _=>rfl,Im func145 rfl⟩
 | n+1=>have ih:=Dk N n; kF N [Qgk,fun _=>⟨_,ih⟩,Qbb] [(26,.lp [1,2] [2] Jlf [(.x 0,⟨[(7,Qeg)],[(100100,Ho)]⟩),(.r,Jft)])] func145
def Qim(N:Nat):V:=⟨Bl N N,Dk N N⟩
def Qen(N:Nat):V:=⟨⟨102,Qqm,[Mx],Fw N,[]⟩,kF N [Qim] [] func102⟩
def Pn(N:Nat):V:=⟨⟨67,Q0k,[zs2],Xc N,[]⟩,kF N [Iq,Qen] [(14,.lp [1] [1] Qcm Qmr),(37,.lp [3,4] [4] zs4 Jol),(47,.an (.dr 9 (.n 9 .done) .done))] func67⟩
def Qbc(N:Nat):V:=⟨⟨34,Q0k,[zs2],Ha N,[]⟩,kF N [Iq,Qc1,Qc3,Qc4,Pn] [(21,.jn [1] [1] [(.n,Qcm)]),(27,.jn [1] [1] [(.n,Qcm)]),(33,.jn [] [1] [(.n,Qcm)])] func34⟩
def Qc6(N:Nat):V:=⟨⟨35,(sD [J6,J6]),[zs2],u2 (Ej N),[]⟩,kF N [] [] func35⟩
def Qc7(N:Nat):V:=⟨⟨23,(sD [.sl J6]),[zs2],Ek N,[]⟩,kF N [Qbc,Qc6] [(14,.lp [0] [] Qcm Qmr),(34,.jn [3] [] [(.n,⟨[(36,zs7)],[]⟩)]),(34,.an (.dc 12 [22,23,24,25,26,27,28,29,30,31,32,33] [] [] (.a (.a (.a (.so 24 (.a (.a (.a (.a (.a (.a (.a (.a (.a (.tl Jjq)))))))))) (.a (.a Jpx))))))))] func23⟩
def Qc8(N:Nat):V:=⟨⟨24,(sD [.sl Cy]),[zs5],El N,[]⟩,kF N [Ka] [(6,.lp [0] [] Qcm Qqi),(26,.an (.dr 35 (.n 3 (.sp 41 32 [3,4] [4] ⟨[(73,zs7)],[]⟩ (.nl 10 (.sp 51 21 [3,4,41] [] ⟨[(72,zs7)],[]⟩ (.nl 21 .done) (.nl 10 (.sp 61 10 [3,4,41,51] [] ⟨[(71,zs7)],[]⟩ (.nl 10 .done) (.nl 10 .done) (.nl 1 .done))) Vl)) (.nl 31 Vl) .done)) .done))] func24⟩
def Gf(N:Nat):V:=⟨⟨37,Q0l,[zs5],U4 N,[]⟩,kF N [] [] func37⟩
def Qgl(N:Nat):V:=⟨⟨205,Q0m,[Jfu],u2 (Gs N),[]⟩,kF N [] [(10,.lp [0,1] [] ⟨[(5,R0),(6,zs7),(7,zs3)],Jfs⟩ [(.x 0,⟨[(5,Qqn),(6,zs7)],Jfv⟩)]),(18,.jn [7] [] [(.n,⟨[(5,Ql0),(6,zs7)],[(100300,Ho)]⟩)]),(20,.jn [7] [] [(.n,⟨[(5,Qie),(6,zs7)],Jfw⟩)]),(21,.rg (.n 3 (.sp 16 7 [5,6,7] [100000] ⟨[(23,zs7)],[]⟩ T2 T2 .done))),(34,.jn [] [] [(.n,⟨[(5,Q7p)],[(100500,Ho)]⟩)])] func205⟩
def Qbd(N:Nat):V:=⟨⟨146,(sD [.sl .i,.sl Ja]),[(sD [.sl .i])],u2 (Z9 N),[]⟩,kF N [Gf,Qgl] [(6,.lp [1] [] ⟨[(0,.d (.sl .i)),(5,zs3)],[]⟩ [(.x 0,Jlg)]),(14,.jn [5] [] [(.n,Jlg)]),(18,.an (.dc 12 [17,18,19,20,21,22,23,24,25,26,27,28] [] [] (.a (.a (.a (.a (.a (.a (.k 1 [] [] [12301] [12301] (.a (.a (.a (.a (.a (.tl Jfp)))))))))))))))] func146⟩
def R4(N:Nat):V:=⟨⟨206,Jlh,[zs5],u2 (Xw N),[]⟩,kF N [Gf] [] func206⟩
def Qin(N:Nat):V:=⟨⟨147,(sD [.sl Ja,.i]),[zs5],u2 (Hw N),[]⟩,kF N [R4] [(6,.lp [0,1] [] zs4 zs8)] func147⟩
def Qbe(N:Nat):V:=⟨⟨103,(sD [.sl Ja,.sl Ja,.bool,.bool]),[Qif],u4 (Hb N),[]⟩,kF N [Qbd,Qin] [(10,.lp [0,1,2,3,9] [] ⟨[(10,R0),(11,zs3)],Q7q⟩ [(.x 0,⟨[(10,Q7p)],[(100500,Dg)]⟩)]),(18,.jn [11] [] [(.n,⟨[(10,Qqn)],Jfx⟩)]),(21,.rg (.n 5 (.call 1 (.n 2 (.sp 31 13 [10,11] [100000] ⟨[(44,zs7)],[]⟩ (.nl 12 Vl) (.nl 3 (.sp 34 9 [10,11,31] [] ⟨[(43,zs7)],[]⟩ (.nl 5 (.call 1 (.nl 3 .done))) (.nl 9 .done) Vl)) .done))))),(28,.an (.dr 15 (.n 3 (.sp 49 12 [10,11,12] [100000] ⟨[(61,zs7)],[]⟩ (.nl 11 Vl) (.nl 11 Vl) .done)) .done)),(31,.an (.dc 12 [72,73,74,75,76,77,78,79,80,81,82,83] [] [] (.b 100000 (.a (.a (.a (.a (.a (.a (.a (.a (.a Jli))))))))))))] func103⟩
def Qbf(N:Nat):V:=⟨⟨68,(sD [.sl Ja,.sl Ja]),[Qif],u2 (Hc N),[]⟩,kF N [Qbe] [] func68⟩
def Po(N:Nat):V:=⟨⟨39,Q7r,[Jlj],u2 (Xd N),[]⟩,kF N [Qbf] [] func39⟩
def Ng(N:Nat):V:=⟨⟨25,(sD [.sl V2]),[zs5],Kn N,[]⟩,kF N [Gf,Dj,Po] [(6,.lp [0] [] Qcm Qqi),(19,.rg (.n 19 (.sp 37 5 [3,4] [4] ⟨[(42,zs7)],[]⟩ Hf Qly (.n 1 (.sp 43 5 [3,4] [4] Jn9 Hf Jfk Jjz))))),(28,.lp [3,4] [4] zs4 [(.x 2,zs6),(.r,⟨[(2,zs7)],[]⟩)])] func25⟩
def Qc9(N:Nat):V:=⟨⟨11,(sD [Vt,.i]),[zs5],u2 (Em N),[]⟩,kF N [Qcq,Qcw,Qcy,Qc7,Qc8,Ng] [(14,.lp [1,2] [2] zs4 zs8),(35,.lp [1,2] [2] zs9 [(.x 2,zs6),(.r,⟨[(4,zs7)],[]⟩)]),(56,.lp [1,2] [2] Qqh [(.x 4,zs6),(.r,⟨[(4,zs7)],[]⟩)]),(77,.lp [2] [2] Qid Jpu),(87,.an (.dr 32 (.n 7 (.sp 111 7 [8] [] ⟨[(118,zs7)],[]⟩ T2 T2 (.n 1 (.sp 119 17 [8] [] ⟨[(136,zs7)],[]⟩ (.nl 16 Vl) (.nl 3 (.sp 122 13 [8,119] [] ⟨[(135,zs7)],[]⟩ Jj0 Jj0 Vl)) .done)))) .done)),(97,.rg (.n 3 (.sp 145 5 [2] [2] ⟨[(150,zs7)],[]⟩ (.nl 2 Jjr) Hf (.n 1 (.sp 151 5 [2] [2] ⟨[(156,zs7)],[]⟩ Jpv Hf (.n 1 (.sp 157 4 [2] [2] ⟨[(161,zs7)],[]⟩ (.nl 2 (.call 4 Vl)) T1 (.n 1 (.sp 162 4 [2] [2] ⟨[(166,zs7)],[]⟩ (.nl 2 (.call 5 Vl)) T1 Vl)))))))))] func11⟩
def Qbg(N:Nat):V:=⟨⟨12,(sD [J2]),[zs5],Hd N,[]⟩,kF N [] [] func12⟩
def Qeo(N:Nat):V:=⟨⟨13,zs2,[zs5],Fz N,[]⟩,kF N [] [] func13⟩
def Qep(N:Nat):V:=⟨⟨5,(sD [Vt,.sl J2,.i]),[zs5],u3 (Wa N),[]⟩,kF N [Qc9,Qbg,Qeo] [(4,.rg (.n 5 (.sp 13 5 [1,2,3] [3] Q0g Hf Qly .done))),(14,.lp [1] [3] Qqh Jfr),(25,.rg (.n 4 (.call 1 (.n 2 (.sp 31 8 [7] [] ⟨[(39,zs7)],[]⟩ Qff (.nl 5 Jjr) (.n 1 (.sp 40 8 [7] [] Jn9 Qff Qff (.n 1 (.sp 49 8 [7] [] ⟨[(57,zs7)],[]⟩ Qff Qff .done))))))))),(34,.lp [7] [] Qid [(.x 2,zs6),(.r,⟨[(6,zs7)],[]⟩)]),(44,.an (.dr 11 (.n 11 .done) .done))] func5⟩
def T6(N:Nat):V:=⟨⟨14,(sD []),[(sD [Vt])],fun _=>Da N,[]⟩,kF N [] [] func14⟩
def Qms(N:Nat):V:=⟨⟨26,Jfy,[Q0n],Or N,[]⟩,kF N [] [(3,.an (.dc 8 [6,7,8,9,10,11,12,3] [1] [] (.b 1 (.c 1 (.e 8 (.b 1 (.c 1 (.e 11 (.g [] [] [] [8,11] Q7s))))))))),(8,.lp [2,14,15] [1,2] ⟨[(3,R2),(16,zs3)],[(100000,.var 39 Jok),(100001,Uj),(100002,Qaw),(100003,Qax)]⟩ [(.x 0,⟨Qub,[(100100,.var 39 (.ag (sL [Qcn,Jfn,Jfo]))),(100101,Uj),(100102,Qaw),(100103,Qax)]⟩)]),(21,.rg (.n 3 (.fz 22 Qig)))] func26⟩
def Qwp(N:Nat):V:=⟨⟨41,(sD [J2]),[(sD [I0])],B0 N,[]⟩,kF N [] [] func41⟩
def Qkg(N:Nat):V:=⟨⟨40,(sD [I0,I0]),[zs5],u2 (W0 N),[]⟩,kF N [] [] func40⟩
def Is(N n:Nat):Con:=⟨27,Jll,[Jll],fun x0=>Zj N n x0,[]⟩
theorem Mz(N:Nat):∀n,KO (Is N n)
 | 0=>⟨Fo fun _=>rfl,Im func27 rfl⟩
 | n+1=>have ih:=Mz N n; kF N [fun _=>⟨_,ih⟩,Qwp,Qkg] [(11,.an (.dc 11 [11,12,13,14,15,16,17,18,19,20,21] [] [] (.a (.a (.a (.a (.a (.k 0 [] [] [] [] (.a (.a (.a (.a (.a (.tl Jfz)))))))))))))),(16,.lp [] [] ⟨[(3,Jlm),(4,Jlm),(5,R0)],[(100000,Jln)]⟩ [(.x 0,⟨Jjv,[(100200,Jln)]⟩)]),(25,.jn [3,4,5] [100000] Jpz),(25,.an (.dc 15 [34,35,36,37,38,39,40,41,42,43,44,45,46,47,48] [] [] (.a (.a (.a (.a (.so 37 (.a (.a (.a (.a Jlo)))) (.a (.a (.a (.a (.so 41 (.a (.a (.a (.k 1 [] [] [] [] (.a (.a (.a (.tl (.call 1 (.call 2 Ja6)))))))))) Jlo))))))))))))] func27
def Qmt(N:Nat):V:=⟨Is N N,Mz N N⟩
def Qwq(N:Nat):V:=⟨⟨42,Jfy,[Q0n],Tf N,[]⟩,kF N [] [(3,.an (.dc 8 [6,7,8,9,10,11,12,3] [1] [] (.b 1 (.c 1 (.e 8 (.b 1 (.c 1 (.e 11 (.g [] [] [] [8,11] Q7s))))))))),(8,.lp [2,14,15] [1,2] ⟨[(3,R2),(16,zs3)],[(100000,.var 39 Jok),(100001,Uj),(100002,Qaw),(100003,Qax)]⟩ [(.x 0,⟨Qub,[(100100,.var 39 (.ag (sL [Qcn,Jfn,Jfo]))),(100101,Uj),(100102,Qaw),(100103,Qax)]⟩)]),(21,.rg (.n 3 (.fz 22 Qig)))] func42⟩
def Qkh(N:Nat):V:=⟨⟨235,Q0f,[Q4y],u2 (Lz N),[]⟩,kF N [] [(6,.lp [0,1] [] zs4 [(.x 0,zs4)]),(9,.rg (.n 5 (.sp 11 7 [5] [] Q0g T2 T2 .done)))] func235⟩
def Qeq(N:Nat):V:=⟨⟨236,Q0f,[Q4y],u2 (F0 N),[]⟩,kF N [] [(8,.lp [1,8,9] [] ⟨Jf0,[(100000,Qqj)]⟩ Jod),(16,.jn [10] [] Joe)] func236⟩
def Qki(N:Nat):V:=⟨⟨207,Jp0,[(sD [Vd])],u2 (L0 N),[]⟩,kF N [Qkh,Qeq] [(3,.jn [] [3] [(.n,⟨[(2,Qfg),(4,Jf1)],[(100300,Jog),(100301,Q7t)]⟩),(.r,⟨[(4,Qkf)],[(100200,Q7t)]⟩)]),(31,.jn [2,3,4,6] [2,4] Jle),(39,.jn [2,3,4] [2,4] [(.n,Jjo)])] func207⟩
def Qer(N:Nat):V:=⟨⟨149,Quc,[⟨Qgh,[(1,Ql1)]⟩],u2 (F2 N),[]⟩,kF N [Qki] [(10,.lp [1,10,11] [] ⟨[(5,R0),(6,Q0o),(12,zs3)],[(100000,Ql1),(100001,Jf3)]⟩ [(.x 0,⟨[(5,Ql0)],[(100300,Ql1)]⟩)]),(18,.jn [12] [] [(.n,⟨[(5,Qie),(6,Jf4)],[(100200,Ql1),(100201,Jf3)]⟩)]),(32,.an (.dr 13 (.n 3 (.sp 31 10 [5,6,8,9,12] [8,100000,100001] Jfm Q7u Q7u .done)) .done))] func149⟩
def Qio(N:Nat):V:=⟨⟨151,(sD [Vd,Vd]),[zs5],u2 (Dw N),[]⟩,kF N [] [(14,.lp [3,43,44] [2,3] ⟨[(45,zs3)],[]⟩ zs8)] func151⟩
def Qda(N:Nat):V:=⟨⟨150,Jlp,[zs5],u2 (Eo N),[]⟩,kF N [Qio] [] func150⟩
def Qdb(N:Nat):V:=⟨⟨152,Jlp,[(sD [Vf])],u2 (Ep N),[]⟩,kF N [] [] func152⟩
def Hs(N:Nat):V:=⟨⟨148,⟨[(0,.d (.sl Vf)),(1,.f 150 .nil),(2,.f 152 .nil)],[]⟩,[⟨Qgh,[(1,Ql1)]⟩],Y3 N,[]⟩,kF N [Qda,Qdb] [(8,.lp [1,2,11,12] [] ⟨Jlq,[(100000,Ql1)]⟩ [(.x 0,⟨[(7,Qie)],[(100200,Ql1)]⟩)]),(16,.jn [13] [] [(.n,⟨[(7,Qeg)],[(100100,Ql1)]⟩)]),(22,.an (.dc 10 [19,20,21,22,23,24,25,26,27,28] [100000,9] [] (.a (.a (.a (.so 21 (.a (.b 100000 (.a (.a (.d 100000 100000 (.c 100000 (.c 9 (.tl Qmq)))))))) Q7v)))))),(24,.an (.dc 11 [31,32,33,34,35,36,37,38,39,40,41] [100000,9] [] (.b 100000 (.a (.a (.a (.b 100000 (.a (.a (.d 100000 100000 (.c 100000 (.c 9 (.k 1 [] [] [] [] Ja8)))))))))))))] func148⟩
def M2(N:Nat):V:=⟨⟨104,Quc,[⟨Qgh,[(1,Q7w)]⟩],u2 (Gt N),[]⟩,kF N [Qer,Hs] [(10,.lp [5,14,15] [11201,11301] ⟨[(6,R0),(16,zs3)],[(100000,Q7w)]⟩ [(.x 0,⟨[(6,Ql0)],[(100300,Q7w)]⟩)]),(18,.jn [16] [] [(.n,⟨[(6,Qie)],[(100200,Q7w)]⟩)]),(30,.jn [6,8,16] [8,100000] [(.n,⟨[(9,Qa9)],[(100100,Jf5)]⟩)]),(35,.an (.dc 17 [40,41,42,43,44,45,46,47,48,49,50,51,52,53,54,55,56] [100100,8] [] (.b 100000 (.c 100100 (.b 8 (.b 8 (.c 8 (.b 8 (.b 8 (.c 8 (.e 48 (.b 8 (.b 8 (.c 8 (.b 8 (.b 8 (.c 8 (.b 48 (.op ⟨.fz 48 (.nl 1 .done),[48],[],[],[48]⟩ Ja8)))))))))))))))))))] func104⟩
def Ks(N:Nat):V:=⟨⟨153,Q0l,[zs5],V6 N,[]⟩,kF N [] [] func153⟩
def Iu(N:Nat):V:=⟨⟨105,Jlh,[zs5],u2 (Wb N),[]⟩,kF N [Ks] [] func105⟩
def Qqu(N:Nat):V:=⟨⟨69,Q7x,[(sD [Bx,.bool])],u3 (Tg N),[]⟩,kF N [M2,Iu] [(6,.lp [2,12,13] [11201] ⟨[(6,R2),(14,zs3)],[(100000,Jls)]⟩ [(.x 0,⟨[(6,Qa9)],[(100100,Jls)]⟩),(.r,⟨Jf6,[(100200,.var 140 Ae)]⟩)])] func69⟩
def Qkj(N:Nat):V:=⟨⟨154,(sD []),[⟨[(0,.p 1 [])],[(1,.var 327 (.ag (sL [.m 2,.m 3,.m 4,.m 5,.m 6,.ns,.ns]))),(2,Q0p),(3,.map .i Vd),(4,Ql2),(5,.map .str .i),(6,Qay)]⟩],fun _=>L2 N,[]⟩,kF N [] [] func154⟩
def Qmu(N:Nat):V:=⟨⟨155,Quc,[⟨[(0,.f 208 (sL [.p 1 [],.p 2 []]))],[(1,.var 22 Jlt),(2,N7)]⟩],u2 (Ot N),[]⟩,kF N [] [] func155⟩
def Qgm:AnY:=(.two (.reg (.n 3 .done)) (.un (.lp [2,6,7] [] ⟨[(8,.d .i)],[]⟩ [(.x 0,⟨[],[]⟩),(.r,⟨[],[]⟩)] (.two (.reg (.n 1 .done)) (.two (.two .nil .nil) (.two (.un (.two (.reg (.n 4 .done)) (.two (.yr (.h 5 (.n 5 .done) (.so 16 (.mv (.h 1 (.nl 1 .done) (.yl (.h 2 (.nl 1 (.n 1 .done)) .done)))) (.h 5 (.nl 4 (.n 1 .done)) .done)))) (.two .nil .nil)))) (.reg (.n 2 .done))))))))
def M3(N:Nat):It:=⟨208,[(.sl Jt),(.int .i64)],Jt,fun(x1,x2)=>Dy N x1 x2⟩
theorem Qes(N:Nat):IO (M3 N):=⟨Jjn (Y:=tx) (N:=N) (it:=M3 N) (an:=Qgm) Jfi Jfh (Q7m N []) func208 rfl (fun x=>by kernel_rfl),Im func208 rfl⟩
def Qdc(N:Nat):V:=⟨⟨209,Q0m,[Jfu],u2 (Xe N),[]⟩,kF N [] [(6,.lp [0,1] [] zs4 [(.x 0,zs4)]),(9,.rg (.n 5 (.sp 11 7 [5] [] Q0g T2 T2 .done)))] func209⟩
def R5(N:Nat):V:=⟨⟨237,Q0f,[Q4y],u2 (Zb N),[]⟩,kF N [] [(6,.lp [0,1] [] zs4 [(.x 0,zs4)]),(9,.rg (.n 5 (.sp 11 7 [5] [] Q0g T2 T2 .done)))] func237⟩
def Qip(N:Nat):V:=⟨⟨238,Q0f,[Q4y],u2 (Hx N),[]⟩,kF N [] [(8,.lp [1,8,9] [] ⟨Jf0,[(100000,Qqj)]⟩ Jod),(16,.jn [10] [] Joe)] func238⟩
def Pp(N:Nat):V:=⟨⟨210,⟨[(0,Ge),(1,Jf2),(2,.d Jt)],Jf7⟩,[⟨[(0,Jf2)],Jf8⟩],u9 (Xf N),[5000,5001,5002,5003,5005,5006,5007]⟩,kF N [R5,Qip] [(3,.jn [6] [5,6] [(.n,⟨[(4,Q0o)],[(5004,.map .str .i),(100001,Jog)]⟩)]),(10,.an (.dr 8 Qlz Vl)),(16,.an (.dr 6 Q0j Vl))] func210⟩
def Nh(N:Nat):V:=⟨⟨156,⟨[(0,Ge),(1,.d Jt)],Jf7⟩,[⟨[],[(5000,.var 327 (.ag (sL [Q7y,Qud,Q7z,Q70,Q71,Rz,Q0h]))),(5001,Q0p),(5002,.map .i Vd),(5003,Ql2),(5004,.map .str .i),(5005,Qay),(1,Ho),(2,Ho)]⟩],u8 (Ko N),[]⟩,kF N [Qdc,Pp] [(9,.jn [3] [3] [(.n,⟨Qaz,[(5000,.var 327 (.ag (sL [Q7y,Qud,Q7z,Q70,Q71,.s 100006,.s 100007]))),(5001,Q0p),(5002,.map .i Vd),(5003,Ql2),(5004,.map .str .i),(5005,Qay),(100006,Ho),(100007,Ho)]⟩)]),(10,.an (.dc 12 [38,39,40,41,42,43,44,37,45,46,4,1000000011] [5000,5001] [3] (.b 5000 (.d 5000 5000 (.b 5000 (.d 5000 5001 (.b 3 (.c 3 (.c 5001 (.a (.a (.a (.e 4 (.f 4 4 Mw)))))))))))))),(14,.gh Jlu),(14,.an (.dc 8 [49,50,51,52,53,54,55,56] [5000] [3] (.b 5000 (.b 5000 (.d 5000 5000 (.b 5000 (.c 5000 (.b 3 (.c 3 (.k 0 [] [] [15601] [15601] Qqk)))))))))),(16,.an (.dr 16 (.n 16 .done) Vl)),(21,.an (.dc 8 [77,78,79,80,81,82,83,6] [5000,3,5001] [] (.b 5000 (.d 5000 5000 (.b 5000 (.d 5000 5001 (.b 3 (.c 3 (.c 5001 (.e 6 Mw)))))))))),(24,.an (.dr 7 Q7o Vl)),(29,.jn [3] [3] [(.n,⟨Qaz,[(5000,.var 327 (.ag (sL [Q7y,Qud,Q7z,Q70,Q71,.s 100106,.s 100107]))),(5001,Q0p),(5002,.map .i Vd),(5003,Ql2),(5004,.map .str .i),(5005,Qay),(100106,Ho),(100107,Ho)]⟩)]),(30,.an (.dr 8 Qlz .done)),(32,.gh (.fz 5007 (.dt 5000 .done))),(32,.an (.dc 8 [102,103,104,105,106,107,108,109] [5000] [3] (.b 5000 (.b 5000 (.d 5000 5000 (.b 5000 (.c 5000 (.b 3 (.c 3 (.k 0 [] [] [20901] [20901] Qqk)))))))))),(35,.an (.dr 6 Q0j Vl)),(37,.an (.dr 8 Qlz Vl)),(38,.an (.dr 15 Jjs Vl)),(43,.an (.dc 8 [143,144,145,146,147,148,149,7] [5000,3,5002] [] (.b 5000 (.d 5000 5000 (.b 5000 (.d 5000 5002 (.b 3 (.c 3 (.c 5002 (.e 7 Mw)))))))))),(48,.lp [0,3,7,151,152] [3,7,5000,5001,5002,5003,5005,5006,5007] ⟨[(153,zs3)],Jf8⟩ [(.x 1,⟨[],Jf8⟩)]),(62,.an (.dr 8 Qlz Vl)),(63,.an (.dr 6 Q0j Vl)),(65,.jn [0,3] [3,5000,5001,5002,5003,5004,5005,5006,5007] [(.n,⟨[(177,zs7)],[]⟩)]),(73,.an (.dc 12 [15,16,17,18,19,20,21,14,22,23,10,1000000011] [5000,3,5002] [] (.b 5000 (.d 5000 5000 (.b 5000 (.d 5000 5002 (.b 3 (.c 3 (.c 5002 (.a (.a (.a (.e 10 (.f 10 10 Mw)))))))))))))),(77,.an (.dc 10 [25,26,27,28,29,30,31,32,33,34] [5000,3,10,5004,5001,5002,5003,5005,5006,5007] [] (.b 5000 (.d 5000 5000 (.b 5000 (.d 5000 5002 (.b 3 (.c 3 (.b 5000 (.c 10 (.c 3 (.k 1 [5004] [5000,5001,5002,5003,5005,5006,5007] [] [5004] Mw))))))))))))] func156⟩
def M4(N:Nat):V:=⟨⟨157,⟨Qaz,Jf7⟩,[Jlv],u7 (Zz N),[5000,5001,5002,5003,5004,5005,5006,5007]⟩,kF N [] [(5,.rg (.br Vl)),(10,.lp [0,2,16,17] [2] ⟨[(3,R2),(4,.m 100001),(18,zs3)],[(100000,.var 206 (.ag (sL [.ns,Jjx]))),(100001,Jf9),(100002,Qsb)]⟩ [(.x 0,⟨[(3,Qkf),(4,.m 100201)],[(100200,.var 206 (.ag (sL [.ns,Jjw]))),(100201,Jf9),(100202,Qsb)]⟩)]),(18,.jn [18] [] [(.n,⟨[(3,Qa9),(4,.m 100101)],[(100100,.var 206 (.ag (sL [.ns,Jfn]))),(100101,Jf9),(100102,Qsb)]⟩)]),(30,.gh (.op (.v 7 [.f 1 1]) 100001 700000 .done)),(30,.an (.dc 10 [33,34,35,36,37,38,39,40,41,42] [7,100001,700000] [] (.b 100001 (.b 7 (.c 7 (.b 100001 (.b 7 (.c 7 (.op ⟨.br .done,[],[100001,700000],[],[700000]⟩ (.a (.a (.g [700000] [] [42] [42] (.tl (.br .done)))))))))))))),(37,.gh (.fm 100201 .done)),(37,.lp [0,2,4,53,54] [2,100201] ⟨[(3,Qfg),(55,zs3)],[(100300,.var 206 (.ag (sL [Q0q,Jga]))),(100301,Q4z),(100302,Qsb)]⟩ [(.x 2,⟨[(3,Que)],[(100400,.var 206 (.ag (sL [Q72,.s 100402]))),(100401,Q4z),(100402,Qsb)]⟩)])] func157⟩
def Qiq:AnR:=(.pre (.reg (.n 1 .done)) (.pre (.reg (.call 0 (.n 2 .done))) (.inn (.pre (.reg (.n 2 (.call 1 .done))) (.un (.rf 0 [4,5] [4,5] ⟨[],[(10701,.var 327 (.ag (sL [.m 100001,.m 100002,.m 100003,.m 100004,.m 100005,.s 100006,.s 100007]))),(100001,.map .i Vy),(100002,.map .i Vd),(100003,.map .i .bool),(100004,.map .str .i),(100005,.map .i .i),(100006,.row 3 .i),(100007,.row 3 .i)]⟩ (.reg (.n 2 .done)) (.un (.reg (.n 2 (.call 2 .done))))))) (.two (.reg (.n 1 (.call 3 (.n 1 .done)))) .nil))))
def R6(N:Nat):V:=⟨⟨106,Quc,[Jlv],u2 (F3 N),[]⟩,kR N [Qkj,Qmu,Nh,M4] [⟨_,Qes N⟩] Qiq func106 rfl fun x=>by kernel_rfl⟩
def Qqv(N:Nat):V:=⟨⟨70,Q7x,[(sD [Vd,.bool])],u3 (Th N),[]⟩,kF N [R6] [(6,.lp [1,13,14] [11201,11202] ⟨Jlw,[(100000,Q7t)]⟩ [(.x 0,⟨[(6,Qa9)],[(100100,Q7t)]⟩),(.r,⟨Jf6,[(100200,Jf3)]⟩)])] func70⟩
def Qgn(N:Nat):V:=⟨⟨71,Q7x,[(sD [Vy,.bool])],u3 (B1 N),[]⟩,kF N [R6] [(6,.lp [1,13,14] [11201,11202] ⟨Jlw,[(100000,Jlx)]⟩ [(.x 0,⟨[(6,Qa9)],[(100100,Jlx)]⟩),(.r,⟨Jf6,[(100200,.var 142 Bi)]⟩)])] func71⟩
def Qet(N:Nat):V:=⟨⟨45,⟨Qaz,[(5000,.var 144 (.ag (sL [Hp,Bj,V8,.ag (sL [Qco,Yb,Qqp,zs7,zs7]),.ag (sL [zs3,zs3,zs3,zs7,zs7,N8]),.ag (sL [Yb,zs3,zs7,R3,Qa0,Ql3,Qih]),zs3,Jly]))),(5001,Qqj),(5002,Ho),(5003,Bk),(5004,Wm),(5005,G6),(5006,Fb),(5007,Ub),(5008,Uc),(5009,Ur)]⟩,[⟨Qii,[(5000,Jl0),(1,Bk),(2,Wm),(3,G6),(4,Fb),(5,Ub),(6,Uc),(7,Ur)]⟩],u35 (F4 N),[]⟩,kF N [Qqu,Qqv,Qgn] [(3,.an (.dc 21 [8,9,10,11,12,13,14,15,16,17,18,19,20,21,22,23,7,24,25,3,1000000020] [5000] [] (.b 5000 (.d 5000 5000 (.b 5000 (.b 5000 (.c 5000 (.b 5000 (.d 5000 5000 (.b 5000 (.b 5000 (.c 5000 (.b 5000 (.d 5000 5000 (.b 5000 (.b 5000 (.c 5000 (.k 0 [] [] [] [] (.a (.a (.a Jl1))))))))))))))))))))),(13,.an (.dc 21 [29,30,31,32,33,34,35,36,37,38,39,40,41,42,43,44,28,45,46,5,1000000020] [5000] [] (.b 5000 (.d 5000 5000 (.b 5000 (.b 5000 (.c 5000 (.b 5000 (.d 5000 5000 (.b 5000 (.b 5000 (.c 5000 (.b 5000 (.d 5000 5000 (.b 5000 (.b 5000 (.c 5000 (.k 1 [] [] [] [] (.a (.a (.a (.e 5 (.f 5 5 Mw))))))))))))))))))))))),(16,.an (.dr 8 Qlz .done)),(33,.an (.dc 20 [62,63,64,65,66,67,68,69,70,71,72,73,74,75,61,76,77,78,79,1000000019] [5000,5] [] (.b 5000 (.b 5000 (.d 5000 5000 (.b 5000 (.b 5000 (.c 5000 (.b 5 (.c 5 (.b 5000 (.d 5000 5000 (.b 5000 (.b 5000 (.c 5000 (.k 2 [] [] [] [] (.a (.a (.a (.d 5000 5000 (.b 5000 (.g [5000] [] [] [5000,5003,5004,5005,5006,5007,5008,5009] (.tl .done)))))))))))))))))))))))] func45⟩
def Qwr(N:Nat):V:=⟨⟨44,⟨Qaz,[(5000,.var 138 Io),(5001,.var 144 (.ag (sL [Hp,Bj,V8,.ag (sL [Qco,Yb,N8,zs7,zs7]),.ag (sL [zs3,zs3,zs3,zs7,zs7,R3]),.ag (sL [Yb,zs3,zs7,Qa0,Ql3,Qih,Qqo]),zs3,.ag (sL [V8,zs3,Yb,zs3,Yb,.s 5008,.s 5009,zs3,zs3,zs3,.s 5010,zs3,zs3])]))),(5002,Qqj),(5003,Ho),(5004,Bk),(5005,Wm),(5006,G6),(5007,Fb),(5008,Ub),(5009,Uc),(5010,Ur)]⟩,[⟨Qii,[(5001,.var 144 (.ag (sL [Hp,Bj,V8,Ae,Bi,Q0r,zs3,Jlz]))),(1,Bk),(2,Wm),(3,G6),(4,Fb),(5,Ub),(6,Uc),(7,Ur)]⟩],u35 (Qf6 N),[5000]⟩,kF N [Qet] [] func44⟩
def Qws(N:Nat):V:=⟨⟨43,⟨[(0,.f 44 Ql4),(1,.p 5011 [])],[(5000,.var 138 Io),(5001,.var 144 (.ag (sL [Hp,Bj,V8,.ag (sL [Qco,Yb,N8,zs7,zs7]),.ag (sL [zs3,zs3,zs3,zs7,zs7,R3]),.ag (sL [Yb,zs3,zs7,Qa0,Ql3,Qih,Qqo]),zs3,.ag (sL [V8,zs3,Yb,zs3,Yb,.s 5008,.s 5009,zs3,zs3,zs3,.s 5010,zs3,zs3])]))),(5002,Qqj),(5003,Ho),(5004,Bk),(5005,Wm),(5006,G6),(5007,Fb),(5008,Ub),(5009,Uc),(5010,Ur),(5011,Ql5)]⟩,[⟨[],[(5001,Jl0),(5011,Ql5),(1,Bk),(2,Wm),(3,G6),(4,Fb),(5,Ub),(6,Uc),(7,Ur)]⟩],u36 (Qf7 N),[5000]⟩,kF N [Qwr] [(3,.rg (.n 1 Qmq))] func43⟩
def T7(N:Nat):V:=⟨⟨158,(sD [.sl .str]),[Q4y],W6 N,[]⟩,kF N [] [] func158⟩
def Pq(N:Nat):V:=⟨⟨159,Jl2,[⟨Qgh,[(1,.row 262 Kj)]⟩],Xg N,[]⟩,kF N [] [] func159⟩
def Pr(N:Nat):V:=⟨⟨160,Jld,[⟨Qgh,[(1,Q73)]⟩],Xh N,[]⟩,kF N [] [] func160⟩
def N9(N n:Nat):Con:=⟨161,Qqm,[Qqm],fun x0=>Z0 N n x0,[]⟩
theorem R7(N:Nat):∀n,KO (N9 N n)
 | 0=>⟨Fo fun _=>rfl,Im func161 rfl⟩
 | n+1=>have ih:=R7 N n; kF N [fun _=>⟨_,ih⟩] [(8,.lp [1,2,7,8] [1,2] ⟨[(3,R0),(9,zs3)],[(100000,Q74)]⟩ [(.x 0,⟨[(3,Qeg)],[(100100,Q74)]⟩)])] func161
def Qsc(N:Nat):V:=⟨N9 N N,R7 N N⟩
def Qqw(N:Nat):V:=⟨⟨107,Q0k,[⟨[(0,Q0r)],Jgb⟩],Ti N,[]⟩,kF N [T7,Pq,Pr,Qsc] [(10,.lp [1,2,18,19] [1,2] ⟨[(3,R2),(20,zs3)],Jl3⟩ Jl4),(21,.an (.dc 9 [24,25,26,27,28,29,30,31,32] [100000,5] [] (.b 100000 (.d 100000 100001 (.b 5 (.c 5 (.b 5 (.c 5 (.k 0 [] [] [13001] [13001] (.b 13001 (.op ⟨.fz 13001 (.nl 1 .done),[13001],[],[],[13001]⟩ Qqk))))))))))),(27,.lp [1,2,37,38] [1,2] ⟨[(3,Qkf),(39,zs3)],Jl5⟩ Jl6),(38,.an (.dc 9 [43,44,45,46,47,48,49,50,51] [100200,7] [] (.b 100200 (.d 100200 100202 (.b 7 (.c 7 (.b 7 (.c 7 (.k 1 [] [] [14901] [14901] (.b 14901 (.op ⟨.fz 14901 (.nl 1 .done),[14901],[],[],[14901]⟩ Qqk))))))))))),(44,.lp [1,2,56,57] [1,2] ⟨[(3,Que),(58,zs3)],Jl7⟩ Jl9),(57,.rg (.n 3 (.fz 16401 Qig))),(63,.lp [2,74,75] [1,2] ⟨[(3,.p 100600 []),(76,zs3)],Jma⟩ Jmc)] func107⟩
def Q0x(N:Nat):V:=⟨⟨72,(sD [.sl J6,.str,.i]),[⟨[(0,Q0r),(1,zs7)],Jgb⟩],u3 (Qkb N),[]⟩,kF N [Qqw] [(8,.lp [0,1,2,6,11,12] [6] ⟨[(8,zs3),(13,zs3)],[]⟩ [(.x 0,Qid)]),(16,.jn [13] [] Jgf)] func72⟩
def Qwt(N:Nat):V:=⟨⟨162,Qmp,[zs5],Qf8 N,[]⟩,kF N [] [(6,.lp [0,6] [] Qqh Qqi)] func162⟩
def Qmv(N:Nat):V:=⟨⟨164,⟨[(0,.d Ua),(1,Ge)],Jmd⟩,[zs5],u2 (Ou N),[5000]⟩,kF N [] [] func164⟩
def I4(N:Nat):V:=⟨⟨211,Jme,[zs2],u2 (Zf N),[5000]⟩,kF N [Qmv] [(6,.lp [0,1,7] [] Qid Qr9),(18,.rg (.n 5 (.call 0 .done)))] func211⟩
def Cd(N:Nat):V:=⟨⟨163,Jme,[zs5],u2 (Ue N),[5000]⟩,kF N [I4] [] func163⟩
def Qqx(N:Nat):V:=⟨⟨165,Jom,[zs5],Tj N,[]⟩,kF N [] [] func165⟩
def Qdd(N:Nat):V:=⟨⟨109,Qmp,[zs5],F5 N,[]⟩,kF N [Qqx] [(6,.lp [0,5] [] zs9 Qqi)] func109⟩
def Qsd(N:Nat):V:=⟨⟨108,Jla,[⟨[(0,.m 1),(1,zs3)],[(1,Quf)]⟩,⟨[(0,.nm),(1,zs3)],[]⟩],Qca N,[]⟩,kF N [Qwt,Cd,Qdd] [(16,.lp [0,15,16] [] ⟨[(4,Q75),(17,zs3)],[(100000,Quf)]⟩ [(.x 0,⟨[(4,.m 100400)],[(100400,Quf)]⟩),(.r,⟨[(2,.nm),(3,zs3)],[]⟩)]),(57,.lp [6,17,44,45] [6] ⟨[(4,Q76),(46,zs3)],[(100100,Quf)]⟩ [(.x 3,⟨[(4,.m 100200)],[(100200,Quf)]⟩),(.r,⟨[(2,.nm),(3,zs3)],[]⟩)])] func108⟩
def Qmw(N:Nat):V:=⟨⟨110,⟨[(0,.m 5000),(1,Yb),(2,zs3)],[(5000,Quf)]⟩,[(sD [.str,.bool])],u3 (Ov N),[5000]⟩,kF N [] [(4,.lp [0,1] [] ⟨[(2,zs3)],[]⟩ [(.x 0,zs6),(.r,⟨[(6,Yb),(7,zs7)],[]⟩)])] func110⟩
def Qir(N:Nat):V:=⟨⟨73,(sD [.sl Ua,.str]),[(sD [.str,.bool])],u2 (Tk N),[]⟩,kF N [Qsd,Qdd,Qmw] [(4,.an (.cn 6 (.two (.two (.reg (.n 3 (.sp 15 4 [1,6] [] Jfj T1 Q0s .done))) (.two Jmf (.gh (.tl .done) .nil))) .nil) (.two (.two (.reg (.n 3 (.sp 15 4 [1,6] [11001] Jfj T1 Q0s .done))) (.two Jmf .nil)) (.two (.reg (.n 4 (.call 2 Qig))) .nil))))] func73⟩
def Qgo(N:Nat):V:=⟨⟨47,⟨Qaz,[(5000,.var 144 (.ag (sL [Hp,Bj,V8,Ae,Bi,.ag (sL [Yb,zs3,zs7,Qqp,N8,R3,Qa0]),zs3,Jgg]))),(5001,Bk),(5002,Wm),(5003,G6),(5004,Fb),(5005,Ub),(5006,Uc),(5007,Ur)]⟩,[⟨Qii,[(5000,Jgh),(1,Wm),(2,G6),(3,Fb),(4,Ub),(5,Uc),(6,Ur)]⟩],u26 (B2 N),[]⟩,kF N [Q0x,Qir] [(3,.an (.dc 21 [6,7,8,9,10,11,12,13,14,15,16,17,18,19,20,21,5,22,23,3,1000000020] [5000] [] (.b 5000 (.d 5000 5000 (.b 5000 (.b 5000 (.c 5000 (.b 5000 (.d 5000 5000 (.b 5000 (.b 5000 (.c 5000 (.b 5000 (.d 5000 5000 (.b 5000 (.b 5000 (.c 5000 (.k 0 [] [] [12104,12103,12102,12101] [12101,12102,12103,12104] (.g [] [] [] [12101,12102,12103,12104] (.g [] [] [] [12101,12102,12103,12104] (.a (.e 3 (.g [3] [12101,12102,12103,12104] [] [3,12101,12102,12103,12104] Mw))))))))))))))))))))))),(15,.an (.dc 10 [30,31,32,33,34,35,36,37,38,1000000009] [3,5000] [] (.b 5000 (.b 5000 (.b 3 (.c 3 (.b 3 (.c 3 (.d 5000 5000 (.b 5000 (.b 5000 (.g [5000] [] [] [5000,5005,5006,5007,12101,12102,12103,12104] (.tl Qig))))))))))))),(17,.gh (.fz 12101 (.dt 5000 (.dt 3 .done)))),(17,.an (.dc 16 [43,44,45,46,47,48,49,50,51,42,52,53,54,55,56,1000000015] [3,5000] [] (.b 5000 (.b 3 (.c 3 (.b 5000 (.d 5000 5000 (.b 5000 (.b 5000 (.c 5000 (.k 1 [] [] [] [] (.a (.a (.a (.d 5000 5000 (.b 5000 (.b 5000 (.g [5000] [] [] [5000,5005,5006,5007,12102,12103,12104] (.tl .done)))))))))))))))))))] func47⟩
def Qwu(N:Nat):V:=⟨⟨46,⟨Qaz,[(5000,.var 138 Io),(5001,.var 144 (.ag (sL [Hp,Bj,V8,Ae,Bi,.ag (sL [Yb,zs3,zs7,N8,R3,Qa0,Ql3]),zs3,.ag (sL [V8,zs3,Yb,zs3,Yb,Qih,Qqo,zs3,zs3,zs3,.s 5008,zs3,zs3])]))),(5002,Bk),(5003,Wm),(5004,G6),(5005,Fb),(5006,Ub),(5007,Uc),(5008,Ur)]⟩,[⟨Qii,[(5001,Jgh),(1,Wm),(2,G6),(3,Fb),(4,Ub),(5,Uc),(6,Ur)]⟩],u26 (Qf9 N),[5000]⟩,kF N [Qgo] [] func46⟩
def Qmx(N:Nat):V:=⟨⟨43,⟨[(0,.f 46 Ql4),(1,.p 5009 [])],[(5000,.var 138 Io),(5001,.var 144 (.ag (sL [Hp,Bj,V8,Ae,Bi,.ag (sL [Yb,zs3,zs7,N8,R3,Qa0,Ql3]),zs3,.ag (sL [V8,zs3,Yb,zs3,Yb,Qih,Qqo,zs3,zs3,zs3,.s 5008,zs3,zs3])]))),(5002,Bk),(5003,Wm),(5004,G6),(5005,Fb),(5006,Ub),(5007,Uc),(5008,Ur),(5009,Ql5)]⟩,[⟨[],[(5001,Jgh),(5009,Ql5),(1,Wm),(2,G6),(3,Fb),(4,Ub),(5,Uc),(6,Ur)]⟩],u27 (Ow N),[5000]⟩,kF N [Qwu] [(3,.rg (.n 1 Qmq))] func43⟩
def Qis(N:Nat):V:=⟨⟨166,Jmh,[⟨Qgh,[(1,Uj)]⟩],Dz N,[]⟩,kF N [] [(8,.lp [6,7] [] ⟨[(3,R0),(8,zs3)],[(100000,Uj)]⟩ [(.x 0,⟨[(3,Qeg)],[(100100,Uj)]⟩)]),(21,.rg (.n 2 (.fz 14 Q40)))] func166⟩
def D4(N:Nat):V:=⟨⟨111,Jfy,[Q0n],Hl N,[]⟩,kF N [Qis] [(3,.an (.dc 8 [3,4,5,6,7,8,9,10] [1] [] (.b 1 (.c 1 (.k 0 [] [] [10501] [10501] (.b 1 (.c 1 (.e 8 Jmi))))))))] func111⟩
def Qkk(N:Nat):V:=⟨⟨112,Q7x,[zs5],u3 (L6 N),[]⟩,kF N [] [(6,.lp [1,2,9,10] [] Jgi Jfr)] func112⟩
def Qkl(N:Nat):V:=⟨⟨137,(sD [.sl V3]),[Jmj],L7 N,[]⟩,kF N [] [(8,.lp [9,10] [] ⟨[(3,Q75),(11,zs3)],[(100000,Qay)]⟩ [(.x 0,⟨[(3,.m 100200)],[(100200,Qay)]⟩)]),(16,.jn [11] [] [(.n,⟨[(3,Q76)],[(100100,Qay)]⟩)])] func137⟩
def Qqy(N:Nat):V:=⟨⟨113,(sD [.sl V3,.i]),[⟨[(0,Rz),(1,zs3)],[(1,Qaw)]⟩],u2 (Tl N),[]⟩,kF N [Qkl] [(16,.lp [0,1] [11201] Qid [(.x 0,Qid)]),(19,.rg (.n 5 (.sp 25 8 [8] [] ⟨[(33,zs7)],[]⟩ Qff Qff .done)))] func113⟩
def Kb(N:Nat):V:=⟨⟨169,Q77,[zs5],u3 (Yn N),[]⟩,kF N [] [] func169⟩
def Ag(N:Nat):V:=⟨⟨170,zs2,[zs5],Gu N,[]⟩,kF N [] [] func170⟩
def Ah(N:Nat):V:=⟨⟨167,Jgj,[zs2],Gv N,[]⟩,kF N [Kb,Ag] [(5,.rg (.n 2 (.call 0 (.n 2 (.sp 8 5 [1] [1] ⟨[(13,zs7)],[]⟩ Hf Jfk (.n 1 (.sp 14 5 [1] [1] Jfj Hf Qly Vl))))))),(11,.rg (.n 2 (.call 0 (.n 2 (.sp 25 5 [1] [1] ⟨[(30,zs7)],[]⟩ Hf Qly Vl)))))] func167⟩
def D5(N:Nat):V:=⟨⟨168,Ql7,[Ql7],u2 (Y8 N),[]⟩,kF N [] [] func168⟩
def Qmy(N:Nat):V:=⟨⟨115,Ql7,[Ql7],u2 (Ox N),[]⟩,kF N [Ah,D5,Kb,Ag] [(14,.rg (.n 1 (.call 2 (.n 2 (.sp 19 7 [1,2,4] [2,4] ⟨[(26,zs7)],[]⟩ T2 (.nl 4 (.call 3 Qr8)) .done)))))] func115⟩
def Qeu(N:Nat):V:=⟨⟨114,⟨[(0,.d V3),(1,zs3),(2,Ge)],[(5000,Q0t)]⟩,[⟨[],[(5000,Q0t)]⟩],u3 (Wf N),[]⟩,kF N [] [] func114⟩
def Qqz(N:Nat):V:=⟨⟨116,Ql7,[Ql7],u2 (Tm N),[]⟩,kF N [Ah,D5,Kb] [] func116⟩
def Qit(N:Nat):V:=⟨⟨74,(sD [.sl Jt,Zy,.i,.i]),[Q0n],u4 (D0 N),[]⟩,kF N [D4,Qkk,Qqy,Qmy,Qeu,Qqz] [(6,.rg (.n 7 (.sp 24 6 [0,2,3,8,9] [5,8,9,11701,11702,11703] ⟨[(30,zs7)],[]⟩ Qsa Jju .done))),(22,.lp [2,3,8,9,10,11,44,45] [5,8,9,11701,11702,11703,13601] ⟨[(12,Qa9),(13,.f 114 (sL [Qa9])),(46,zs3)],[(100100,Q0t)]⟩ [(.x 0,⟨[(12,Que)],[(100400,Q0t)]⟩)]),(30,.jn [46] [] [(.n,⟨[(12,Qfg),(13,.f 114 (sL [Qfg]))],[(100300,Q0t)]⟩)]),(35,.an (.dr 20 (.n 5 (.sp 54 9 [12,13,15,46] [15,100100] ⟨[(63,zs7)],[]⟩ Qke Qke Q0j)) .done)),(45,.rg (.n 4 (.call 3 Jgk))),(49,.rg (.n 4 (.call 5 Jgk)))] func74⟩
def M5(N:Nat):V:=⟨⟨117,Q78,[Jgl],F6 N,[]⟩,kF N [] [] func117⟩
def Ql9(N:Nat):V:=⟨⟨118,Q78,[(sD [Us])],Rj N,[]⟩,kF N [] [] func118⟩
def Qmz(N:Nat):V:=⟨⟨119,Quc,[zs2],u2 (Oy N),[]⟩,kF N [] [(6,.lp [1,7,8] [] Qij Qr9)] func119⟩
def Qde(N:Nat):V:=⟨⟨213,⟨[(0,Ae),(1,Ge)],[(5000,Q0u)]⟩,[zs5],u2 (Er N),[5000]⟩,kF N [] [(6,.lp [1,7,8] [2] Qij [(.x 0,zs6),(.r,⟨[(3,zs7)],[]⟩)])] func213⟩
def Qdf(N:Nat):V:=⟨⟨240,Q7r,[zs5],u2 (Es N),[]⟩,kF N [] [] func240⟩
def Qdg(N:Nat):V:=⟨⟨241,Q7r,[Q0l],u2 (Et N),[]⟩,kF N [] [] func241⟩
def Dl(N:Nat):V:=⟨⟨239,⟨[(0,Q79),(1,.f 240 .nil),(2,.f 241 .nil)],[]⟩,[Qif],Un N,[]⟩,kF N [Qdf,Qdg] [(8,.lp [1,2,11,12] [] ⟨Jlq,Q7q⟩ Jmk),(16,.jn [13] [] Jml),(22,.an (.dc 10 [19,20,21,22,23,24,25,26,27,28] [100000,9] [] (.a (.a (.a (.so 21 (.a (.b 100000 (.a (.a (.d 100000 100000 (.c 100000 (.c 9 (.tl Qmq)))))))) Q7v)))))),(24,.an (.dc 11 [31,32,33,34,35,36,37,38,39,40,41] [100000,9] [] (.b 100000 (.a (.a (.a (.b 100000 (.a (.a (.d 100000 100000 (.c 100000 (.c 9 (.k 1 [] [] [] [] Ja8)))))))))))))] func239⟩
def Qgp(N:Nat):V:=⟨⟨212,⟨[(0,Jlt),(1,zs3),(2,.f 213 Ql4)],[(5000,Q0u)]⟩,[Qif],u3 (B3 N),[5000]⟩,kF N [M2,Qde,Dl] [(8,.lp [2,12,13] [11201] ⟨[(7,R0),(14,zs3)],Q7q⟩ Jmk),(16,.jn [14] [] Jml),(20,.rg (.n 2 (.call 1 .done)))] func212⟩
def Qgq(N:Nat):V:=⟨⟨171,(sD [.sl Jt,.i,.str]),[Qif],u3 (B4 N),[]⟩,kF N [Qgp] [] func171⟩
def Qm0(N:Nat):V:=⟨⟨172,(sD [Ud,Ud]),[zs5],u2 (Oz N),[]⟩,kF N [] [] func172⟩
def Qiu(N:Nat):V:=⟨⟨120,Quc,[⟨Qgh,[(1,Q8a)]⟩],u2 (D1 N),[]⟩,kF N [Qgq,Qm0] [(5,.rg (.br Vl)),(12,.lp [0,1,15,16] [] ⟨[(5,Q75),(6,.m 100001),(7,Jjx),(17,zs3)],[(100000,Ql2),(100001,Qug),(100002,Q8a)]⟩ [(.x 0,⟨[(7,.s 101100)],[(101100,Q8a)]⟩)]),(20,.jn [17] [] [(.n,⟨[(5,.m 101000),(6,.m 101001),(7,.s 101002)],[(101000,Ql2),(101001,Qug),(101002,Q8a)]⟩)]),(24,.jn [6,7,9,17] [9,100001,100002] [(.n,⟨[(5,Q76)],[(100100,Ql2)]⟩)]),(31,.jn [5,7,9,17] [9,100002,100100] [(.n,⟨[(6,.m 100300),(51,zs7)],[(100300,Qug)]⟩)]),(31,.gh (.op (.v 9 [.f 5 5]) 100001 700000 .done)),(31,.rg (.n 11 (.sp 43 8 [5,6,7,9,17] [100001,700000] ⟨[(51,zs7)],[]⟩ Qff (.nl 3 (.br (.nl 2 (.br Vl)))) (.cl 100001 .done)))),(36,.jn [5,7,9,17] [9,100002,100100] [(.n,⟨[(6,.m 100500)],[(100500,Qug)]⟩)]),(37,.jn [5,7,9,17] [] [(.n,⟨[(6,.m 100400),(56,zs7)],[(100400,Qug)]⟩)]),(37,.gh (.op (.v 9 [.f 5 5]) 100300 700001 .done)),(37,.rg (.n 3 (.br (.n 1 (.cl 100300 .done))))),(39,.rg (.n 4 (.br .done))),(42,.jn [5,7,9,17] [9,100002,100100] [(.n,⟨[(6,.m 100600)],[(100600,Qug)]⟩)]),(42,.gh (.op (.v 9 [.f 5 5]) 100500 700002 .done)),(42,.rg (.n 3 (.br (.n 3 (.cl 100500 .done))))),(44,.an (.dc 13 [67,68,69,70,71,72,73,74,75,76,77,78,10] [9] [] (.a (.b 9 (.c 9 (.b 9 (.c 9 (.a (.b 9 (.c 9 (.b 9 (.c 9 (.k 0 [] [] [17701] [17701] (.b 17701 (.e 10 Mw))))))))))))))),(49,.gh (.fz 17701 .done)),(49,.lp [5,6,7,10,17] [9,10,17701,100002,100100,100600] Jgi [(.x 2,Jgi)]),(52,.jn [11] [] Jp1),(52,.an (.dc 10 [79,80,81,82,83,84,85,86,87,88] [] [100002,10] (.a (.b 100002 (.c 100002 (.a (.a (.so 83 (.b 100002 (.a (.d 100002 100002 (.c 100002 (.d 10 17701 (.tl Jfp)))))) Jlr)))))))),(59,.rg (.n 2 (.fz 100002 Q40)))] func120⟩
def Gg(N:Nat):V:=⟨⟨174,Q7r,[Jlj],u2 (U5 N),[]⟩,kF N [Ks] [(6,.rg (.n 1 (.call 0 (.n 2 (.sp 21 4 [3,4,6] [2,3,4,6] Jgm T1 (.nl 1 Jfl) Q7o)))))] func174⟩
def Oa(N:Nat):V:=⟨⟨251,zs2,[zs2],Zk N,[]⟩,kF N [] [(7,.jn [] [] [(.n,Q4x)])] func251⟩
def Qm1(N:Nat):V:=⟨⟨264,zs2,[zs5],O4 N,[]⟩,kF N [] [] func264⟩
def D6(N:Nat):V:=⟨⟨252,Mx,[zs2],u2 (Z3 N),[]⟩,kF N [Qm1] [(6,.rg (.n 3 (.sp 9 3 [0,1,5] [5] ⟨[(12,zs7)],[]⟩ Jgn Ja6 .done)))] func252⟩
def Qm2(N:Nat):V:=⟨⟨224,zs2,[(sD [Qd5])],O5 N,[]⟩,kF N [Oa,D6] [(14,.lp [0,2] [2] ⟨[(3,R2)],[(100000,Q8b)]⟩ [(.x 0,⟨Qub,[(100100,Q8b)]⟩)]),(27,.lp [2] [2] ⟨[(0,zs3),(3,Qkf)],[(100200,Q8b)]⟩ [(.x 2,⟨[(0,zs3),(3,Qfg)],[(100300,Q8b)]⟩)])] func224⟩
def R8(N:Nat):V:=⟨⟨191,Mx,[zs2],u2 (W7 N),[]⟩,kF N [Qm2] [(7,.jn [] [5] [(.n,zs9)])] func191⟩
def Qiv(N:Nat):V:=⟨⟨263,Mx,[zs2],u2 (D2 N),[]⟩,kF N [D6] [] func263⟩
def Qq0(N:Nat):V:=⟨⟨250,(sD [Qd5]),[Mx],Tn N,[]⟩,kF N [Qiv,Oa,D6] [(4,.jn [1] [1] [(.n,Q0g)]),(4,.an (.dc 11 [6,7,8,9,10,11,12,13,14,15,16] [] [1] (.b 1 (.c 1 (.a (.a (.so 9 Q7v (.b 1 (.c 1 (.b 1 (.c 1 (.b 1 (.c 1 (.k 0 [] [] [] [] (.tl Qr8))))))))))))))),(11,.an (.dc 5 [19,20,21,22,23] [1] [] (.b 1 (.c 1 (.k 1 [] [] [] [] Jmi))))),(16,.lp [1] [1] Jft [(.x 0,Q4x)])] func250⟩
def Qkm(N:Nat):V:=⟨⟨223,Mx,[zs2],u2 (F7 N),[]⟩,kF N [Qq0] [] func223⟩
def Iv(N:Nat):V:=⟨⟨190,Mx,[Q0l],u2 (Wg N),[]⟩,kF N [Qkm] [(5,.jn [4] [4] [(.n,⟨[(5,R2)],[(100000,Jf5)]⟩)])] func190⟩
def Oc(N:Nat):V:=⟨⟨175,(sD [.i,Ja]),[Qif],u2 (Hy N),[]⟩,kF N [R8,Iv] [(16,.lp [0,3] [3] ⟨[(5,R0),(6,zs3)],Q7q⟩ [(.x 0,⟨[(5,Qeg)],[(100100,Dg)]⟩)])] func175⟩
def Qdh(N:Nat):V:=⟨⟨173,⟨[(0,Qco),(1,Ge),(2,Io),(3,.p 5003 [])],[(5000,N7),(5001,.var 158 N8),(5002,Dg),(5003,N7)]⟩,[⟨[],[(5001,.var 158 Rz),(1,Dg)]⟩],u4 (Eu N),[5000,5003]⟩,kF N [Gg,Oc] [(7,.an (.dc 4 [16,17,18,19] [5001,5] [5003] (.d 5001 5002 (.c 5003 (.c 5 (.k 1 [] [] [11901] [11901] Ja8))))))] func173⟩
def Qdi(N:Nat):V:=⟨⟨242,Jmm,[Jmn],u3 (Ev N),[]⟩,kF N [Ks] [(3,.lp [1,7,8] [] ⟨[(2,Ge),(9,zs3)],[(5000,.var 352 Qql),(100001,Ql8)]⟩ [(.x 0,⟨[],[(5000,.var 352 Q0i),(100201,Ql8)]⟩)]),(11,.jn [9] [] [(.n,⟨[(2,Ge)],[(5000,.var 352 Qcn),(100101,Ql8)]⟩)])] func242⟩
def R9(N:Nat):V:=⟨⟨242,Jmm,[Jmn],u3 (Xx N),[]⟩,kF N [Ks] [(3,.lp [1,7,8] [] ⟨[(2,Ge),(9,zs3)],[(5000,.var 352 Qql),(100001,Ql8)]⟩ [(.x 0,⟨[],[(5000,.var 352 Q0i),(100201,Ql8)]⟩)]),(11,.jn [9] [] [(.n,⟨[(2,Ge)],[(5000,.var 352 Qcn),(100101,Ql8)]⟩)])] func242⟩
def Qgr(N:Nat):V:=⟨⟨215,(sD [.bool,.bool]),[zs5],u2 (B5 N),[]⟩,kF N [] [] func215⟩
def Qgs(N:Nat):V:=⟨⟨214,⟨[(0,Q79),(1,Q79),(2,.f 215 .nil)],[]⟩,[Qif],u2 (B6 N),[]⟩,kF N [Qdi,R9,fun _=>⟨_,Gc⟩,Qgr] [(7,.rg (.n 2 (.call 0 .done))),(9,.rg (.n 2 (.call 1 .done))),(22,.lp [2,7,24,25] [7,12101] ⟨[(9,R0),(10,Q0o),(11,zs7),(26,zs3)],[(100000,Dg),(100001,Q8c)]⟩ [(.x 0,⟨[(9,Qqn)],Jfx⟩)]),(30,.jn [26] [] [(.n,⟨[(9,Ql0),(10,Jf1),(11,zs7)],[(100300,Dg),(100301,Q8c)]⟩)]),(34,.an (.dr 8 Qlz Vl)),(37,.an (.dr 16 (.n 6 (.sp 44 10 [9,10,11,12,13,26] [13,100000,100001] ⟨[(54,zs7)],[]⟩ Q7u Q7u .done)) .done)),(42,.rg (.n 7 (.call 3 Vl))),(44,.jn [10,14,26] [13,100001] [(.n,⟨[(9,Qie)],[(100200,Dg)]⟩)])] func214⟩
def Qkn(N:Nat):V:=⟨⟨176,(sD [.sl Ja]),[Qif],Md N,[]⟩,kF N [Qgs] [] func176⟩
def Qm3(N:Nat):V:=⟨⟨121,(sD [.sl Ud,.i,.i]),[Qif],u3 (O6 N),[]⟩,kF N [Qdh,Qkn,Oc] [(10,.lp [17,18] [] ⟨[(4,R2),(7,Q0o),(8,.f 173 (sL [.p 100002 [],Q0o,R2])),(19,zs3)],[(100000,N7),(100001,.var 158 Joj),(100002,N7),(100003,Dg)]⟩ [(.x 0,⟨[(4,Qfg),(7,Jf1)],[(100300,N7),(100301,.var 158 Jga),(100302,Dg)]⟩)]),(24,.lp [19,24,25] [10] ⟨[(4,Qa9),(7,Joh),(8,.f 173 (sL [.p 100102 [],Joh,Qa9])),(26,zs3)],[(100100,N7),(100101,.var 158 Jfo),(100102,N7),(100103,Dg)]⟩ [(.x 2,⟨[(4,Qkf),(7,Jf4),(8,.f 173 (sL [.p 100202 [],Jf4,Qkf]))],[(100200,N7),(100201,.var 158 Joi),(100202,N7),(100203,Dg)]⟩)]),(35,.rg (.n 2 (.call 0 .done))),(44,.lp [4,36,37] [13601,100300,100301,100302] ⟨[(13,Qqn),(38,zs3)],Jfx⟩ [(.x 4,⟨[(13,Q7p)],[(100500,Dg)]⟩)])] func121⟩
def Qq1(N:Nat):V:=⟨⟨217,⟨[(0,.d Yl),(1,Ge),(2,Io)],Jmo⟩,[zs5],u3 (To N),[5000,5001]⟩,kF N [] [] func217⟩
def D7(N:Nat):V:=⟨⟨216,⟨[(0,.d (.sl Yl)),(1,.f 217 (sL [Ge,Io]))],Jmo⟩,[⟨Qgh,[(1,Qik)]⟩],u3 (U6 N),[5000,5001]⟩,kF N [Qq1] [(8,.lp [1,8,9] [] ⟨Jf0,[(100000,Qik)]⟩ [(.x 0,⟨Jjv,[(100200,Qik)]⟩)]),(16,.jn [10] [] [(.n,⟨[(5,Qeg)],[(100100,Qik)]⟩)]),(20,.rg (.n 2 (.call 0 .done)))] func216⟩
def Qm4(N:Nat):V:=⟨⟨218,Jp3,[⟨[(0,.ag (sL [Yb,zs3,zs3,Yb,zs7,Rz]))],[(1,Quh)]⟩],O7 N,[]⟩,kF N [] [(8,.lp [1,2,7,8] [1,2] ⟨[(3,R0),(9,zs3)],[(100000,Quh)]⟩ [(.x 0,⟨[(3,Qeg)],[(100100,Quh)]⟩)]),(21,.rg (.n 2 (.fz 15 Q40)))] func218⟩
def Qwv(N:Nat):V:=⟨⟨177,(sD [.sl Yl,.str,.i]),[⟨[(0,.ag (sL [Yb,zs3,zs3,Yb,zs7,Rz])),(1,zs7)],[(1,Quh)]⟩],u3 (Qga N),[]⟩,kF N [D7,Qm4] [] func177⟩
def T8(N:Nat):V:=⟨⟨122,(sD [Ud,.sl Yl,Ja]),[⟨Qgh,[(1,Q8d)]⟩],u3 (W8 N),[]⟩,kF N [Gg,Qwv] [(6,.lp [1,3,5,18,19] [3,5] ⟨[(20,zs3)],[]⟩ [(.x 0,zs6),(.r,⟨[(6,Qqn)],[(100400,Q8d)]⟩)]),(33,.lp [9,42,43] [8,9,11,13801] ⟨[(13,Qeg),(44,zs3)],[(100100,Q8d)]⟩ [(.x 2,⟨[(13,Qie)],[(100200,Q8d)]⟩)])] func122⟩
def Od(N:Nat):V:=⟨⟨178,Jgo,[zs5],u2 (Hz N),[]⟩,kF N [] [] func178⟩
def Qq2(N:Nat):V:=⟨⟨179,(sD [Yk,Yk,.i]),[Jgl],u3 (Tp N),[]⟩,kF N [M5,Od] [(5,.jn [6] [3,4,6] [(.n,⟨[(7,R2)],[(100000,.var 58 (.ag (sL [zs3,zs3,Yb,zs3,zs3,Qql,Qco,zs3,zs3,zs3,zs7]))),(100001,Qqj)]⟩)])] func179⟩
def Qm5(N:Nat):V:=⟨⟨180,Jgo,[zs5],u2 (O8 N),[]⟩,kF N [] [] func180⟩
def Qgt(N:Nat):V:=⟨⟨123,⟨[(0,Ge),(1,.d Hu)],[(5000,.var 221 (.ag (sL [Qqp,Qud]))),(5001,Uj),(5002,Qa1)]⟩,[⟨[],[(5000,.var 221 (.ag (sL [Rz,Qud]))),(5002,Qa1),(1,Uj)]⟩],u3 (B7 N),[]⟩,kF N [Ql9,M5,Od,Qq2,Qm5] [(4,.an (.dc 7 [9,10,11,12,13,14,15] [5000,3] [] (.b 5000 (.d 5000 5000 (.b 5000 (.d 5000 5002 (.b 3 (.c 3 Jmp)))))))),(14,.gh (.fz 11901 .done)),(14,.lp [0,3,23,24] [3,5000,5001,5002] ⟨[(4,R2),(25,zs3)],[(100000,.var 58 (.ag (sL [zs3,zs3,Yb,zs3,zs3,Qql,Qco,zs3,zs3,zs3,zs7]))),(100001,.tail 9 .str)]⟩ [(.x 0,⟨[(4,Qa9)],[(100100,.var 58 (.ag (sL [zs3,zs3,Yb,zs3,zs3,Qcn,Qco,zs3,zs3,zs3,zs7]))),(100101,.tail 9 .str)]⟩)]),(37,.lp [0,4] [3,5000,5001,5002,100100,100101] Qqh [(.x 2,Qqh)]),(40,.jn [7] [] [(.n,Job)]),(40,.an (.dc 16 [38,39,40,41,42,43,44,45,46,47,48,49,50,51,52,53] [] [5000,5001,100100] (.a (.b 5000 (.d 5000 5000 (.b 5000 (.d 5000 5001 (.c 5001 (.a (.a (.so 45 (.b 5000 (.d 5000 5000 (.b 5000 (.d 5000 5001 (.a (.d 5001 5001 (.c 5001 (.d 100100 100101 (.tl (.call 4 Vl)))))))))) (.a Q7v)))))))))))),(47,.rg (.n 5 (.fz 5001 Q40))),(52,.gh (.dt 100100 .done)),(52,.an (.dc 6 [80,81,82,83,84,85] [5000,100100] [] (.b 5000 (.d 5000 5000 (.b 5000 (.d 5000 5002 (.c 100100 Jmp)))))))] func123⟩
def Qko(N:Nat):V:=⟨⟨75,(sD [.sl Jt,.sl Yl,Zy,.i,.i]),[Q0n],u5 (Me N),[]⟩,kF N [M5,Ql9,Qmz,Qiu,Qm3,T8,Qgt] [(8,.lp [0,1,3,4,7,10,27,28] [7,10] ⟨[(11,R2),(29,zs3)],[(100000,.var 221 (.ag (sL [Qql,.m 100002]))),(100001,Uj),(100002,Qa1)]⟩ [(.x 0,⟨[(11,Qa9)],[(100100,.var 221 (.ag (sL [Qcn,.m 100102]))),(100101,Uj),(100102,Qa1)]⟩)]),(20,.an (.dc 9 [33,34,35,36,37,38,39,40,41] [100000,13,100001] [] (.b 100000 (.b 100000 (.d 100000 100000 (.b 100000 (.d 100000 100001 (.c 13 (.k 0 [] [] [13901] [13901] (.op ⟨.fz 13901 (.nl 1 .done),[13901],[],[],[13901]⟩ (.g [100001] [] [41] [41] Qqk))))))))))),(21,.an (.dc 6 [44,45,46,47,48,49] [100000,13] [] (.b 100000 (.d 100000 100000 (.b 100000 (.d 100000 100002 (.c 13 (.k 1 [] [] [] [] Mw)))))))),(24,.an (.dc 8 [51,52,53,54,55,56,57,14] [7] [] (.b 7 (.c 7 (.e 53 (.b 7 (.c 7 (.e 56 (.g [] [] [] [53,56] (.e 14 Mw)))))))))),(28,.jn [10,14] [7,10,14,53,56] [(.n,⟨[(11,.p 100900 [])],[(100900,.var 221 (.ag (sL [.s 100901,.m 100902]))),(100901,Uj),(100902,Qa1)]⟩)]),(36,.lp [1,4,10,14,16,77,78] [17301,17701] ⟨[(11,Qkf),(79,zs3)],[(100200,.var 221 (.ag (sL [Q0i,.m 100202]))),(100201,Uj),(100202,Qa1)]⟩ [(.x 2,⟨[(11,.p 100800 [])],[(100800,.var 221 (.ag (sL [.s 100801,.m 100802]))),(100801,Uj),(100802,Qa1)]⟩)]),(50,.lp [18,79,83,84] [18] ⟨[(11,Qfg),(85,zs3)],[(100300,.var 221 (.ag (sL [Q0q,.m 100302]))),(100301,Uj),(100302,Qa1)]⟩ [(.x 4,⟨[(11,.p 100700 [])],[(100700,.var 221 (.ag (sL [Jge,.m 100702]))),(100701,Uj),(100702,Qa1)]⟩)]),(64,.lp [85,92,93] [20,19201] ⟨[(11,Que),(94,zs3)],[(100400,.var 221 (.ag (sL [Q72,.m 100402]))),(100401,Uj),(100402,Qa1)]⟩ [(.x 6,⟨[(11,.p 100600 [])],[(100600,.var 221 (.ag (sL [Jgd,.m 100602]))),(100601,Uj),(100602,Qa1)]⟩)]),(72,.jn [94] [] [(.n,⟨[(11,.p 100500 [])],[(100500,.var 221 (.ag (sL [Jgc,.m 100502]))),(100501,Uj),(100502,Qa1)]⟩)])] func75⟩
def Qq3(N:Nat):V:=⟨⟨219,Q78,[Jgl],Tq N,[]⟩,kF N [] [] func219⟩
def Qm6(N:Nat):V:=⟨⟨181,Jmh,[⟨Qgh,[(1,Uj)]⟩],O9 N,[]⟩,kF N [Qq3] [(8,.lp [6,7] [] ⟨[(3,R0),(8,zs3)],[(100000,Uj)]⟩ [(.x 0,⟨[(3,Qeg)],[(100100,Uj)]⟩)]),(19,.rg (.n 2 (.call 0 (.fz 11401 Q40))))] func181⟩
def Qkp(N:Nat):V:=⟨⟨245,Mx,[zs2],u2 (Kq N),[]⟩,kF N [] [] func245⟩
def Qkq(N:Nat):V:=⟨⟨220,Jgo,[zs5],u2 (Mf N),[]⟩,kF N [Qkp] [] func220⟩
def Iw(N n:Nat):Con:=⟨182,(sD [.sl Yk,.i,.i]),[(sD [.sl .i])],fun(x0,x1,x2)=>Uf N n x0 x1 x2,[]⟩
theorem M6(N:Nat):∀n,KO (Iw N n)
 | 0=>⟨Fo fun _=>rfl,Im func182 rfl⟩
 | n+1=>have ih:=M6 N n; kF N [fun _=>⟨_,ih⟩,Qkq] [(12,.lp [2] [] Jlf [(.x 0,⟨[(7,Qeg)],[(100100,Ho)]⟩)]),(37,.lp [0,10,11] [] ⟨[(12,Qie),(13,zs3),(14,zs3)],Jfw⟩ [(.x 2,⟨[(12,Qqn)],Jfv⟩)]),(46,.jn [12,13,14] [100200] [(.n,⟨[(85,zs7)],[]⟩)]),(46,.an (.dc 24 [58,59,60,61,62,63,64,65,66,67,68,69,70,71,72,73,74,75,76,77,78,79,80,81] [] [] (.a (.a (.a (.a (.a (.so 62 (.a (.a (.a (.a (.a Jmq))))) (.a (.a (.a (.a (.a (.so 67 (.a (.a (.a (.a (.a (.a (.a (.a (.a (.a (.a (.a (.a (.a (.tl (.call 1 Ja6)))))))))))))))) Jmq))))))))))))))] func182
def Qm7(N:Nat):V:=⟨Iw N N,M6 N N⟩
def Qm8(N:Nat):V:=⟨⟨183,(sD [Yk,.i,.i,.i,.str,.bool,.i]),[zs5],u7 (Pa N),[]⟩,kF N [Iu] [(4,.rg (.n 10 (.sp 26 6 [1,2,4,5,6,7] [7] ⟨[(32,zs7)],[]⟩ Qsa (.nl 3 Jfl) .done))),(22,.lp [4,7,53,54] [7] ⟨[(55,zs3)],[]⟩ [(.x 0,zs6),(.r,⟨[(14,zs7)],[]⟩)])] func183⟩
def Q0y(N:Nat):V:=⟨⟨184,Q78,[(sD [Rg])],Qkc N,[]⟩,kF N [] [] func184⟩
def Qse(N:Nat):V:=⟨⟨124,(sD [.sl Yk,.i,.i,.i,.str,.bool,.i,.i]),[⟨[(0,Rz),(1,Q0h),(2,zs3)],[(1,Uj),(2,Ub)]⟩],u8 (Qcc N),[]⟩,kF N [Qm6,Qm7,Qm8,Q0y] [(12,.lp [0,1,2,3,4,5,6,32,33] [] ⟨[(7,zs3),(19,R0),(20,Qql),(34,zs3)],[(100000,Uj),(100001,Ub)]⟩ [(.x 0,⟨[(7,zs3),(19,Ql0),(20,Q0q)],[(100300,Uj),(100301,Ub)]⟩)]),(20,.jn [34] [] [(.n,⟨[(7,zs3),(19,Qie),(20,Q0i)],[(100200,Uj),(100201,Ub)]⟩),(.x 0,⟨[(7,zs3),(19,Qeg),(20,Qcn)],[(100100,Uj),(100101,Ub)]⟩)])] func124⟩
def Qm9(N:Nat):V:=⟨⟨76,(sD [Zy,J2,.str,.bool]),[⟨[(0,Ja7),(1,.s 4),(2,zs3)],[(1,Uj),(2,Qaw),(3,Qax),(4,Ub)]⟩],u4 (Pb N),[]⟩,kF N [D4,Qse] [] func76⟩
def Qkr(N:Nat):V:=⟨⟨49,⟨Qaz,[(5000,.var 144 (.ag (sL [Hp,Bj,V8,Ae,Bi,.ag (sL [Yb,zs3,zs7,Ql6,Qqp,N8,R3]),zs3,.ag (sL [V8,zs3,Yb,zs3,Yb,Qa0,Ql3,zs3,zs3,zs3,Qih,zs3,zs3])]))),(5001,Wm),(5002,G6),(5003,Fb),(5004,Ub),(5005,Uc),(5006,Ur)]⟩,[⟨[],[(5000,.var 144 (.ag (sL [Hp,Ja7,V8,Ae,Bi,.ag (sL [Yb,zs3,zs7,Ql6,.s 4,.s 5,.s 6]),zs3,.ag (sL [V8,zs3,Yb,zs3,Yb,.s 7,.s 8,zs3,zs3,zs3,.s 9,zs3,zs3])]))),(1,Uj),(2,Qaw),(3,Qax),(4,Wm),(5,G6),(6,Fb),(7,Ub),(8,Uc),(9,Ur)]⟩],u26 (Mg N),[5004]⟩,kF N [Qit,Qko,Qm9] [(1,.an (.dc 21 [5,6,7,8,9,10,11,12,13,14,15,16,17,18,19,20,21,22,23,24,2] [5000] [] (.b 5000 (.d 5000 5000 (.b 5000 (.b 5000 (.c 5000 (.b 5000 (.d 5000 5000 (.b 5000 (.c 5000 (.b 5000 (.d 5000 5000 (.b 5000 (.b 5000 (.c 5000 (.b 5000 (.d 5000 5000 (.b 5000 (.b 5000 (.c 5000 (.k 0 [] [] [12403,12402,12401] [12401,12402,12403] (.e 2 Mw))))))))))))))))))))))),(3,.an (.dr 21 (.n 21 .done) Jfp)),(5,.gh (.fz 14601 (.dt 2 (.fz 14602 (.dt 2 (.fz 14603 (.dt 2 .done))))))),(5,.an (.dc 22 [48,49,50,51,52,53,54,55,56,57,58,59,60,61,62,63,47,64,65,66,1000000020,3] [2,5000] [] (.c 2 (.b 5000 (.d 5000 5000 (.b 5000 (.c 5000 (.b 5000 (.d 5000 5000 (.b 5000 (.b 5000 (.c 5000 (.b 5000 (.d 5000 5000 (.b 5000 (.b 5000 (.c 5000 (.k 2 [] [] [16304,16303,16302,16301] [16301,16302,16303,16304] (.g [] [] [] [16301,16302,16303,16304] (.g [] [] [] [16301,16302,16303] (.b 16304 (.a (.g [2] [16301,16302,16303] [] [2,16301,16302,16303] (.b 16304 Mw))))))))))))))))))))))))] func49⟩
def Qks(N:Nat):V:=⟨⟨185,(sD [J2,.i]),[zs5],u2 (Mh N),[]⟩,kF N [] [] func185⟩
def Qww(N:Nat):V:=⟨⟨192,Qmp,[zs5],Qgb N,[]⟩,kF N [] [(6,.lp [0,6] [] Qqh Qqi)] func192⟩
def Qna(N:Nat):V:=⟨⟨194,⟨[(0,.d Vs),(1,Ge)],Jmr⟩,[zs5],u2 (Pd N),[5000]⟩,kF N [] [] func194⟩
def I5(N:Nat):V:=⟨⟨225,Jmt,[zs2],u2 (Zg N),[5000]⟩,kF N [Qna] [(6,.lp [0,1,7] [] Qid Qr9),(18,.rg (.n 5 (.call 0 .done)))] func225⟩
def Ce(N:Nat):V:=⟨⟨193,Jmt,[zs5],u2 (Ug N),[5000]⟩,kF N [I5] [] func193⟩
def Qsf(N:Nat):V:=⟨⟨195,Jl2,[zs2],Qce N,[]⟩,kF N [] [(22,.lp [11,12] [] ⟨[(13,zs3)],[]⟩ Qmr)] func195⟩
def Ps(N:Nat):V:=⟨⟨130,Jlb,[zs2],Dd N,[]⟩,kF N [Qww,Ce,Qsf] [(22,.lp [0,12,13] [] ⟨[(14,zs3)],[]⟩ Qmr),(30,.jn [14] [] [(.n,zs6),(.r,⟨[(2,zs3)],[]⟩)])] func130⟩
def Qgu(N:Nat):V:=⟨⟨227,Q0m,[zs2],u2 (B9 N),[]⟩,kF N [] [(6,.lp [0,1,7] [] Qid Qr9)] func227⟩
def Qbh(N:Nat):V:=⟨⟨198,Q0m,[zs5],u2 (He N),[]⟩,kF N [Qgu] [] func198⟩
def M7(N:Nat):V:=⟨⟨136,zs2,[zs2],Gw N,[]⟩,kF N [] [] func136⟩
def Qma(N:Nat):V:=⟨⟨132,Q0m,[zs2],u2 (Qd6 N),[]⟩,kF N [Qbh,M7] [] func132⟩
def Qq4(N:Nat):V:=⟨⟨196,⟨[(0,.d Kj),(1,Ge),(2,Io)],Jmu⟩,[zs5],u3 (Tr N),[5000,5001]⟩,kF N [] [] func196⟩
def I6(N:Nat):V:=⟨⟨226,Jmv,[zs2],u3 (Zh N),[5000,5001]⟩,kF N [Qq4] [(6,.lp [0,1,7] [] Qid Qr9),(18,.rg (.n 5 (.call 0 .done)))] func226⟩
def Cf(N:Nat):V:=⟨⟨197,Jmv,[zs5],u3 (Uh N),[5000,5001]⟩,kF N [I6] [] func197⟩
def Qiw(N:Nat):V:=⟨⟨131,(sD [.sl Vs,.i,.i]),[Qmp],u3 (Tt N),[]⟩,kF N [Cf] [(8,.lp [0,7,11,12] [4,5] ⟨[(13,zs3)],[]⟩ [(.x 0,zs6),(.r,⟨[(6,Yb)],[]⟩)])] func131⟩
def Qq5(N:Nat):V:=⟨⟨80,(sD [.sl Vs,.sl .i,.i]),[Qmp],u3 (Qh8 N),[]⟩,kF N [Ps,Qma,Qiw] [] func80⟩
def Qq6(N:Nat):V:=⟨⟨221,(sD [.sl Vs,.i]),[Jfu],u2 (Tu N),[]⟩,kF N [fun _=>⟨_,Qgg⟩,fun _=>⟨_,Qa8⟩,fun _=>⟨_,D3⟩] [(3,.rg (.br Vl)),(8,.lp [1,11,12] [] ⟨[(5,R0),(13,zs3)],Jfs⟩ [(.x 0,⟨[(5,Qqn)],Jfv⟩)]),(22,.lp [13,18,19] [7] ⟨[(5,Qeg),(20,zs3)],[(100100,Ho)]⟩ [(.x 2,⟨[(5,Ql0)],[(100300,Ho)]⟩)]),(30,.jn [20] [] [(.n,⟨Jjv,Jfw⟩)]),(36,.rg (.n 5 (.br Q41)))] func221⟩
def Q0z(N:Nat):V:=⟨⟨186,(sD [.sl Vs,.sl .i,Ja]),[⟨Qgh,[(1,Qui)]⟩],u3 (Qkd N),[]⟩,kF N [Ps,Ks,Qma,Qq6,Gg,Qiw] [(4,.rg (.n 1 (.call 0 (.n 2 (.sp 21 4 [0,1,5] [5] Jgm T1 Q0s Qlz))))),(16,.lp [0,1,5] [5] ⟨[(7,Qeg),(8,zs3)],[(100100,Qui)]⟩ [(.x 0,⟨[(7,.s 100700)],[(100700,Qui)]⟩)]),(32,.lp [8,9,10,51,52] [15001] ⟨[(7,Qie),(53,zs3)],[(100200,Qui)]⟩ [(.x 2,⟨[(7,.s 100600)],[(100600,Qui)]⟩)]),(40,.jn [53] [] [(.n,⟨[(7,Q7p)],[(100500,Qui)]⟩)]),(46,.jn [7,12,53] [100200] [(.n,⟨[(13,Qfg)],[(100300,Jf5)]⟩)]),(60,.an (.dc 7 [90,91,92,93,94,95,16] [14] [] (.a (.a (.a (.k 5 [] [] [] [] (.c 14 (.a (.e 16 Mw))))))))),(64,.an (.dr 12 (.n 3 (.sp 101 9 [7,14,16,17,53] [14,16,100200,100300] ⟨[(110,zs7)],[]⟩ Qke Qke .done)) .done))] func186⟩
def Qkt(N:Nat):V:=⟨⟨187,⟨[(0,.d Gq),(1,Ge),(2,Io),(3,.p 5002 [])],[(5000,N7),(5001,Q0u),(5002,Q0u)]⟩,[zs5],u4 (Mi N),[5000,5001,5002]⟩,kF N [] [] func187⟩
def Qq7(N:Nat):V:=⟨⟨126,(sD [J6,.i,.str,.str]),[⟨[(0,.ag (sL [zs3,Yb,Yb,zs3,Rz])),(1,zs7)],[(1,Q73)]⟩],u4 (Tv N),[]⟩,kF N [Qkt] [(8,.lp [10,15,16] [4,5,6,7] ⟨[(8,R2),(17,zs3)],[(100000,Jmw)]⟩ [(.x 0,⟨[(8,Qa9)],[(100100,Jmw)]⟩),(.r,⟨[(8,Qkf),(9,zs7)],[(100200,.var 102 (.ag (sL [zs3,Yb,Yb,zs3,Q0i]))),(100201,Q73)]⟩)]),(20,.rg (.n 2 (.call 0 .done)))] func126⟩
def Sa(N:Nat):V:=⟨⟨222,(sD [.i,.sl .i]),[zs5],u2 (W9 N),[]⟩,kF N [] [(6,.lp [0,7,8] [] Qij zs8)] func222⟩
def Qgv(N:Nat):V:=⟨⟨188,⟨[(0,.s 5000)],Jgp⟩,[zs2],Ca N,[5000]⟩,kF N [Sa] [(24,.lp [0,12,13] [] ⟨[(3,zs3),(14,zs3)],[]⟩ Qmr),(37,.rg (.n 5 (.call 0 (.n 7 (.sp 31 6 [3,4,5,14] [5] Jn8 Qsa (.nl 3 Jfl) .done)))))] func188⟩
def Qix(N:Nat):V:=⟨⟨189,⟨[(0,.s 5000),(1,zs3)],Jgp⟩,[Qqq],u2 (H0 N),[5000]⟩,kF N [] [(8,.lp [1,12,13] [] ⟨[(6,zs3),(7,zs3),(14,zs3)],[]⟩ [(.x 0,zs9),(.r,⟨[(4,zs3),(5,zs7)],[]⟩)]),(22,.jn [6,7,9,14] [9] [(.n,⟨[(10,zs3)],[]⟩)]),(37,.an (.dr 7 Q7o .done))] func189⟩
def Qev(N:Nat):V:=⟨⟨127,⟨[(0,.s 5000),(1,zs3),(2,zs3)],Jgp⟩,[Mx],u3 (F8 N),[5000]⟩,kF N [Qgv,Qix] [] func127⟩
def Qku(N:Nat):V:=⟨⟨125,Jmx,[⟨Qgh,[(1,Uc)]⟩],u4 (Mk N),[]⟩,kF N [Qks,Ps,Qq5,Q0z] [(4,.rg (.n 2 (.call 0 (.n 2 (.sp 17 5 [1,3,4,6] [4,6] Jn7 Hf Jfk .done))))),(13,.jn [1,3,4,6] [4,6] [(.n,Qij)]),(23,.an (.dc 10 [39,40,41,42,43,44,45,46,47,48] [4,6] [] (.b 4 (.c 4 (.a (.a (.k 2 [] [] [] [] (.a (.b 6 (.c 6 (.a (.a (.tl (.n 1 (.br Vl))))))))))))))),(32,.lp [61,62] [4,6,16101] ⟨[(10,Qie),(63,zs3)],[(100200,Uc)]⟩ [(.x 0,⟨[(10,Ql0)],[(100300,Uc)]⟩)]),(43,.rg (.n 14 (.br Q41)))] func125⟩
def Qnb(N:Nat):V:=⟨⟨77,Jmx,[⟨Jmy,[(1,Uc)]⟩],u4 (Pe N),[]⟩,kF N [Qir,Qku,Qq7,Qev] [(15,.lp [4,6,11,37] [4,6] ⟨[(13,R0),(14,zs3),(15,zs3),(16,zs3),(17,zs3),(38,zs3)],[(100000,Uc)]⟩ [(.x 0,⟨[(13,Qie),(14,zs3),(15,zs3),(17,zs3)],[(100200,Uc)]⟩)]),(27,.an (.dc 15 [42,43,44,45,46,47,48,49,50,51,41,52,53,19,1000000014] [100000] [4,6] (.c 4 (.b 6 (.c 6 (.a (.b 100000 (.a (.d 100000 100000 (.b 100000 (.c 100000 (.k 2 [] [] [15101] [15101] (.b 15101 (.b 15101 (.a (.e 19 (.g [19] [15101] [] [19,15101] Mw))))))))))))))))),(37,.jn [13,15,16,17,18,19,38] [19,15101,100000] [(.n,⟨[(14,zs3)],[]⟩)]),(43,.an (.dc 13 [61,62,63,64,65,66,67,68,69,60,70,71,21] [19,100000,15101] [] (.b 19 (.d 19 15101 (.a (.b 100000 (.a (.d 100000 100000 (.b 100000 (.c 100000 (.k 3 [] [15101] [] [] Jmz))))))))))),(59,.jn [13,14] [4,6,100200] [(.n,⟨[(17,zs3)],[]⟩)])] func77⟩
def Qkv(N:Nat):V:=⟨⟨50,⟨Qaz,[(5000,.var 144 (.ag (sL [Hp,.ag (sL [Qqp,N8,R3]),V8,Ae,Bi,.ag (sL [Yb,zs3,zs7,Ql6,Qa0,Ql3,Qih]),zs3,Jly]))),(5001,Uj),(5002,Qaw),(5003,Qax),(5004,Wm),(5005,G6),(5006,Fb),(5007,Ub),(5008,Uc),(5009,Ur)]⟩,[⟨Qii,[(5000,Jm0),(1,Uj),(2,Qaw),(3,Qax),(4,Ub),(5,Uc),(6,Ur)]⟩],u28 (Mm N),[]⟩,kF N [Qnb] [(3,.gh (.fz 5004 (.dt 5000 (.fz 5005 (.dt 5000 Jlu))))),(3,.an (.dc 24 [10,11,12,13,14,15,16,17,18,19,20,21,22,23,24,25,26,27,9,28,29,30,3,4] [5000] [] (.b 5000 (.d 5000 5000 (.b 5000 (.c 5000 (.b 5000 (.d 5000 5000 (.b 5000 (.b 5000 (.c 5000 (.b 5000 (.d 5000 5000 (.b 5000 (.c 5000 (.b 5000 (.d 5000 5000 (.b 5000 (.c 5000 (.k 0 [] [] [12701] [12701] (.b 12701 (.b 12701 (.a (.a (.b 12701 Qua))))))))))))))))))))))))),(18,.lp [0,3,4,35,36] [5000,5001,5002,5003,5004,5005,5006,5007,5008,5009,12701] ⟨[(6,zs3),(37,zs3)],[]⟩ [(.x 0,zs9)]),(26,.jn [37] [] [(.n,zs9)])] func50⟩
def Qwx(N:Nat):V:=⟨⟨48,⟨Qaz,[(5000,.var 138 Io),(5001,.var 144 (.ag (sL [Hp,Bj,V8,Ae,Bi,.ag (sL [Yb,zs3,zs7,Ql6,N8,R3,Qa0]),zs3,Jgg]))),(5002,Wm),(5003,G6),(5004,Fb),(5005,Ub),(5006,Uc),(5007,Ur)]⟩,[⟨Qii,[(5001,Jm0),(1,Uj),(2,Qaw),(3,Qax),(4,Ub),(5,Uc),(6,Ur)]⟩],u26 (Qgc N),[5000,5005]⟩,kF N [Qkr,Qkv] [] func48⟩
def Qnc(N:Nat):V:=⟨⟨43,⟨[(0,.f 48 Ql4),(1,.p 5008 [])],[(5000,.var 138 Io),(5001,.var 144 (.ag (sL [Hp,Bj,V8,Ae,Bi,.ag (sL [Yb,zs3,zs7,Ql6,N8,R3,Qa0]),zs3,Jgg]))),(5002,Wm),(5003,G6),(5004,Fb),(5005,Ub),(5006,Uc),(5007,Ur),(5008,Ql5)]⟩,[⟨[],[(5001,.var 144 (.ag (sL [Hp,Q8e,V8,Ae,Bi,.ag (sL [Yb,zs3,zs7,Ql6,Jms,.d (.sl Gq),.d (.sl Y7)]),zs3,Q8f]))),(5008,Ql5),(1,Ub),(2,Uc),(3,Ur)]⟩],u27 (Pf N),[5000]⟩,kF N [Qwx] [(3,.rg (.n 1 Qmq))] func43⟩
def Qkw(N:Nat):V:=⟨⟨129,Mx,[Q0l],u2 (Mp N),[]⟩,kF N [R8,Iv] [] func129⟩
def Sc(N:Nat):V:=⟨⟨79,Jgq,[zs2],u20 (F9 N),[5000,5001,5002,5003]⟩,kF N [Qkw] [(3,.an (.dr 10 Jjz Jfz))] func79⟩
def Ai(N:Nat):V:=⟨⟨128,(sD [Ym,Ym]),[zs2],u2 (Xo N),[]⟩,kF N [] [(6,.lp [22] [2,3] ⟨[(23,zs3)],[]⟩ Qr9)] func128⟩
def Qsg(N:Nat):V:=⟨⟨78,(sD [.sl Ym,.i,.i,.i]),[Jgr],u4 (Qch N),[]⟩,kF N [Ai] [(8,.lp [9,16,17] [9] ⟨[(8,R2),(18,zs3)],[(100000,Q0v)]⟩ [(.x 0,⟨[(8,Qa9)],[(100100,Q0v)]⟩),(.r,⟨[(8,Qkf)],[(100200,Q0v)]⟩)])] func78⟩
def Qq8(N:Nat):V:=⟨⟨82,(sD [J2,.str,.str,Ym,.bool]),[(sD [Rf])],u5 (I1 N),[]⟩,kF N [M7] [(17,.an (.dr 9 (.n 9 .done) Vl))] func82⟩
def Qgw(N:Nat):V:=⟨⟨253,zs2,[zs2],Kr N,[]⟩,kF N [] [] func253⟩
def Qew(N:Nat):V:=⟨⟨254,Qmp,[zs2],Ya N,[]⟩,kF N [] [(7,.jn [3] [] [(.n,⟨[(4,zs7)],[]⟩)]),(33,.jn [3] [] [(.n,⟨[(11,zs7)],[]⟩)])] func254⟩
def Qgx(N:Nat):V:=⟨⟨255,(sD [.i,.arr 2 .i]),[Mx],u2 (Cb N),[]⟩,kF N [] [(3,.an (.dr 6 Q0j .done)),(7,.jn [] [3] [(.n,⟨[(8,zs3),(9,zs7)],[]⟩)]),(15,.jn [6,7,8,14] [] [(.n,Jgm)]),(23,.jn [6,7,8,14] [] [(.n,⟨[(34,zs7)],[]⟩)]),(31,.jn [6,7,8] [] [(.n,⟨[(44,zs7)],[]⟩)])] func255⟩
def M8(N n:Nat):Con:=⟨228,zs1,[Mx],fun(x0,x1)=>V7 N n x0 x1,[]⟩
theorem Oe(N:Nat):∀n,KO (M8 N n)
 | 0=>⟨Fo fun _=>rfl,Im func228 rfl⟩
 | n+1=>have ih:=Oe N n; kF N [Qgw,Sa,Qew,fun _=>⟨_,ih⟩,Qgx] [(12,.an (.dc 6 [14,15,16,17,18,19] [2] [] (.b 2 (.c 2 (.k 0 [] [] [] [] (.b 2 (.c 2 Qua))))))),(73,.lp [1,2,46,47] [2] ⟨[(7,R2),(48,zs3)],[(100000,Q8c)]⟩ [(.x 1,⟨[(7,Qa9)],[(100100,Q8c)]⟩),(.r,Jft)])] func228
def Qq9(N:Nat):V:=⟨M8 N N,Oe N N⟩
def Qdj(N:Nat):V:=⟨⟨199,Qqm,[Mx],Gy N,[]⟩,kF N [Qq9] [] func199⟩
def Hg(N n:Nat):Con:=⟨200,Q0w,[zs5],fun(x0,x1)=>Yh N n x0 x1,[]⟩
theorem Qnd(N n:Nat)(ih:KO (Hg N n)):KO ⟨229,Jm3,[zs5],fun(x0,c7,ca)=>Uo N (Yh N n) x0 c7 ca,[5000,5001]⟩:=kF N [fun _=>⟨_,ih⟩] [(3,.an (.dr 6 Q0j Qmq))] func229
def Q00(N:Nat):V:=⟨⟨256,Q0w,[Qmp],u2 (Qd7 N),[]⟩,kF N [] [] func256⟩
def Qsh(N:Nat):V:=⟨⟨265,zs2,[Qqq],Fa N,[]⟩,kF N [] [] func265⟩
def Qkx(N:Nat):V:=⟨⟨266,(sD [.str,Rf]),[zs2],u2 (Mq N),[]⟩,kF N [] [] func266⟩
def Aj(N n:Nat):Con:=⟨257,Q0w,[Qqq],fun(x0,x1)=>Uq N n x0 x1,[]⟩
theorem Qky(N n:Nat)(ih:KO (Aj N n)):KO ⟨267,Jm3,[Qqq],fun(x0,c7,ca)=>Xt N (Uq N n) x0 c7 ca,[5000,5001]⟩:=kF N [fun _=>⟨_,ih⟩] [(3,.an (.dc 9 [6,7,8,9,10,11,12,13,14] [] [5000,5001] (.b 5000 (.c 5000 (.a (.a (.a (.c 5001 (.k 0 [] [] [] [] Jli)))))))))] func267
def Q42(N:Nat):V:=⟨⟨268,Mx,[Qqq],u2 (Qib N),[]⟩,kF N [] [] func268⟩
def Qra(N:Nat):V:=⟨⟨269,Mx,[Qqq],u2 (I2 N),[]⟩,kF N [] [] func269⟩
theorem Sd(N:Nat):∀n,KO (Aj N n)
 | 0=>⟨Fo fun _=>rfl,Im func257 rfl⟩
 | n+1=>have ih:=Sd N n; kF N [Qsh,Qkx,fun _=>⟨_,Qky N n ih⟩,Q42,Qra] [(22,.rg (.n 1 (.call 2 Jjy))),(24,.rg (.n 1 (.call 2 Jjy))),(40,.jn [2,7] [2,3] [(.n,Qij),(.x 1,Qij),(.x 4,Qij)])] func257
def Qsi(N:Nat):V:=⟨Aj N N,Sd N N⟩
def Qrb(N:Nat):V:=⟨⟨230,Q0w,[Qqq],u2 (I3 N),[]⟩,kF N [Qdj,Q00,Qsi] [(9,.an (.dc 11 [24,25,26,27,28,29,30,31,32,33,34] [2,3] [] (.b 2 (.c 2 (.a (.a (.c 3 (.k 1 [] [] [] [] (.b 2 (.c 2 (.a (.a (.c 3 (.tl (.call 1 Q41))))))))))))))),(30,.an (.dc 10 [45,46,47,48,49,50,44,51,52,10] [2,3] [] Jm4)),(32,.an (.dc 10 [54,55,56,57,58,59,53,60,61,12] [2,3] [] Jm4))] func230⟩
theorem M9(N:Nat):∀n,KO (Hg N n)
 | 0=>⟨Fo fun _=>rfl,Im func200 rfl⟩
 | n+1=>have ih:=M9 N n; kF N [fun _=>⟨_,Qnd N n ih⟩,Qrb] [(18,.rg (.n 1 Jfz)),(24,.rg (.n 1 (.call 0 (.n 1 (.sp 24 3 [5] [2,3] ⟨[(27,zs7)],[]⟩ Jgn Ja6 Vl))))),(30,.rg (.n 1 (.call 0 (.n 1 (.sp 32 3 [5] [2,3] Jfq Ja6 Jgn Vl)))))] func200
def Qne(N:Nat):V:=⟨Hg N N,M9 N N⟩
def Qwy(N:Nat):V:=⟨⟨134,Q0w,[zs5],u2 (Qgd N),[]⟩,kF N [Qdj,Qne] [] func134⟩
def Qgy(N:Nat):V:=⟨⟨133,⟨[(0,.d Y7),(1,Ge)],[(5000,Jm2)]⟩,[zs5],u2 (Cc N),[5000]⟩,kF N [Qwy] [] func133⟩
def Qnf(N:Nat):V:=⟨⟨231,Q77,[Mx],u3 (Pg N),[]⟩,kF N [] [(8,.lp [0,1,2] [] ⟨[(8,zs3),(9,zs3),(10,zs3)],[]⟩ [(.x 0,Jm5),(.r,⟨[(6,zs3),(7,zs3)],[]⟩)]),(20,.jn [10] [] [(.n,Jm5)])] func231⟩
def Qkz(N:Nat):V:=⟨⟨232,zs2,[Mx],Ms N,[]⟩,kF N [Ag] [] func232⟩
def Qrc(N:Nat):V:=⟨⟨201,Q77,[Mx],u3 (Tx N),[]⟩,kF N [Ag,Qnf,Qkz] [(13,.jn [0] [] Jgf),(19,.jn [] [] Jgf)] func201⟩
def Qk0(N:Nat):V:=⟨⟨135,Mx,[Mx],u2 (Mt N),[]⟩,kF N [Qrc] [] func135⟩
def Qk1(N:Nat):V:=⟨⟨81,(sD [.sl Y7,Rf,.i]),[⟨Jmy,[(1,Ur)]⟩],u3 (Mu N),[]⟩,kF N [Qgy,Qk0] [(20,.lp [9,24,25] [4] ⟨[(10,R0),(11,zs3),(26,zs3)],[(100000,Ur)]⟩ [(.x 0,⟨[(10,Ql0),(11,zs3)],[(100300,Ur)]⟩),(.r,⟨[(6,.ns),(7,zs3),(8,zs3)],[]⟩)]),(28,.jn [26] [] [(.n,⟨[(10,Qeg),(11,zs3)],[(100100,Ur)]⟩),(.r,⟨[(6,.ns),(7,zs3),(8,zs3)],[]⟩)]),(33,.rg (.n 2 Qmq))] func81⟩
def Qdk(N:Nat):V:=⟨⟨52,Jgq,[⟨Qii,[(5000,Jgs),(1,Ub),(2,Uc),(3,Ur)]⟩],u20 (Ew N),[]⟩,kF N [Sc,Qsg,Qq5,Qq8,Qk1] [(3,.an (.dc 19 [8,9,10,11,12,13,14,15,16,17,18,19,20,21,22,23,24,25,3] [5000,5001,5002,5003] [] (.b 5000 (.d 5000 5000 (.b 5000 (.b 5000 (.c 5000 (.b 5000 (.d 5000 5000 (.b 5000 (.b 5000 (.c 5000 (.b 5000 (.d 5000 5000 (.b 5000 (.b 5000 (.c 5000 (.b 5000 (.k 0 [] [5000,5001,5002,5003] [] [] (.k 1 [] [] [] [] Q7s)))))))))))))))))))),(5,.an (.dr 15 Jjs (.call 2 Vl))),(7,.an (.dc 34 [43,44,45,46,47,48,49,50,51,52,53,54,55,56,57,58,59,60,61,62,63,64,65,66,67,68,69,70,42,71,72,73,5,6] [5000,3] [] (.b 5000 (.d 5000 5000 (.b 5000 (.b 5000 (.c 5000 (.b 5000 (.d 5000 5000 (.b 5000 (.c 5000 (.b 5000 (.d 5000 5000 (.b 5000 (.b 5000 (.c 5000 (.a (.c 3 (.b 5000 (.d 5000 5000 (.b 5000 (.b 5000 (.c 5000 (.k 3 [] [] [] [] (.b 5000 (.d 5000 5000 (.b 5000 (.b 5000 (.c 5000 (.k 4 [] [] [17001] [17001] (.b 17001 (.b 17001 (.a (.a (.b 17001 Qua)))))))))))))))))))))))))))))))))))] func52⟩
def Qwz(N:Nat):V:=⟨⟨51,Jm6,[Jm7],u20 (Qge N),[5000]⟩,kF N [Qdk] [] func51⟩
def Qng(N:Nat):V:=⟨⟨43,⟨[(0,.f 51 Ql4),(1,.p 5005 [])],Jm8⟩,[Jm9],u21 (Ph N),[5000]⟩,kF N [Qwz] [(3,.rg (.n 1 Qmq))] func43⟩
def Qfh(N:Nat):V:=⟨⟨138,Jgj,[zs2],N6 N,[]⟩,kF N [Ah] [] func138⟩
def Qrd(N:Nat):V:=⟨⟨139,Ql7,[Ql7],u2 (Tz N),[]⟩,kF N [Ah,D5,Kb,Qfh] [] func139⟩
def Qex(N:Nat):V:=⟨⟨137,⟨[(0,.s 5000)],[(5000,Qaw)]⟩,[Jmj],Aa N,[5000]⟩,kF N [] [(8,.lp [9,10] [] ⟨[(3,Q75),(11,zs3)],[(100000,Qay)]⟩ [(.x 0,⟨[(3,.m 100200)],[(100200,Qay)]⟩)]),(16,.jn [11] [] [(.n,⟨[(3,Q76)],[(100100,Qay)]⟩)])] func137⟩
def Qsj(N:Nat):V:=⟨⟨83,(sD [Zy,.i,.i,.bool]),[⟨[(0,Ja7),(1,zs3),(2,zs3)],Jlk⟩],u4 (Qcj N),[]⟩,kF N [D4,Qex,Qfh,Qrd] [] func83⟩
def Qnh(N:Nat):V:=⟨⟨202,zs2,[zs5],Pi N,[]⟩,kF N [] [(6,.lp [0,5] [] zs9 Qqi)] func202⟩
def Ix(N:Nat):V:=⟨⟨141,Jgr,[zs5],Wh N,[]⟩,kF N [Qnh] [(3,.rg (.n 9 (.sp 11 4 [1] [1] ⟨[(15,zs7)],[]⟩ (.nl 2 Qmq) T1 (.n 11 .done))))] func141⟩
def Se(N:Nat):V:=⟨⟨142,Jgr,[zs5],Ga N,[]⟩,kF N [] [] func142⟩
def Qni(N:Nat):V:=⟨⟨140,(sD [.sl Ym]),[zs5],Pj N,[]⟩,kF N [Ix,Se,Ai] [(6,.lp [0,5,6] [] Qqh Qqi),(19,.rg (.n 1 (.call 0 (.n 2 (.sp 15 4 [3,4,7] [4] Jfj T1 Q0s Jjz))))),(26,.jn [7] [4] [(.n,Jfm)]),(26,.an (.dc 9 [30,31,32,33,34,35,36,37,38] [] [4] (.a (.a (.a (.so 32 (.a (.a (.a (.a (.a (.c 4 (.tl Jjr))))))) Jpw))))))] func140⟩
def Qnj(N:Nat):V:=⟨⟨143,⟨[(0,Ge),(1,Io)],[(5000,.var 37 Jm1),(5001,Q0v)]⟩,[Mx],u2 (Pk N),[5000,5001]⟩,kF N [Ai] [(6,.lp [0,1,6,7] [] Qid Jp2),(35,.an (.dr 6 Q0j .done))] func143⟩
def Qsk(N:Nat):V:=⟨⟨84,(sD [.sl Ym,Ym]),[⟨[(0,Rz),(1,zs3)],[(1,Qax)]⟩],u2 (Qck N),[]⟩,kF N [Qni,Ix,Se,Qnj] [(4,.rg (.n 1 (.call 0 (.n 2 (.sp 14 4 [2,3] [2,3] Q0g T1 Q0s .done))))),(21,.rg (.n 1 (.call 3 Jjy))),(25,.jn [2,7,8] [2,3] [(.n,⟨[(9,Qa9)],[(100100,Q0v)]⟩)]),(29,.an (.dr 9 (.n 9 .done) Vl)),(30,.an (.dr 9 (.n 9 .done) Vl)),(43,.jn [2,8] [2,3,100100] [(.n,⟨[(10,Qie)],[(100200,Qax)]⟩)])] func84⟩
def Qre(N:Nat):V:=⟨⟨54,Jgq,[⟨Qii,[(5000,.var 144 (.ag (sL [Hp,Q8e,V8,Ae,Bi,Quj,zs3,Q8f]))),(1,Ub),(2,Uc),(3,Ur)]⟩],u20 (T0 N),[]⟩,kF N [Qsj,Sc,Qsk] [(3,.an (.dc 27 [9,10,11,12,13,14,15,16,17,18,19,20,21,22,23,24,25,26,27,28,8,29,30,31,3,1000000025,4] [5000] [] (.b 5000 (.d 5000 5000 (.b 5000 (.c 5000 (.b 5000 (.d 5000 5000 (.b 5000 (.b 5000 (.c 5000 (.b 5000 (.d 5000 5000 (.b 5000 (.b 5000 (.c 5000 (.b 5000 (.d 5000 5000 (.b 5000 (.b 5000 (.c 5000 (.k 0 [] [] [12803,12802,12801] [12801,12802,12803] (.g [] [] [] [12801,12802,12803] (.g [] [] [] [12801,12802,12803] (.a (.a (.e 3 (.g [3] [12801,12802,12803] [] [3,12801,12802,12803] Qua)))))))))))))))))))))))))))),(5,.gh (.fz 12803 (.dt 3 .done))),(5,.an (.dc 30 [33,34,35,36,37,38,39,40,41,42,43,44,45,46,47,48,49,50,51,52,53,54,55,56,57,58,32,59,60,6] [3,5000,5001,5002,5003] [] (.b 3 (.c 3 (.b 5000 (.d 5000 5000 (.b 5000 (.b 5000 (.c 5000 (.b 5000 (.d 5000 5000 (.b 5000 (.b 5000 (.c 5000 (.b 5000 (.k 1 [] [5000,5001,5002,5003] [] [] (.b 5000 (.d 5000 5000 (.b 5000 (.b 5000 (.c 5000 (.b 5000 (.d 5000 5000 (.b 5000 (.b 5000 (.c 5000 (.a (.k 2 [] [] [15801] [15801] (.b 15801 (.b 15801 (.a (.b 15801 Mw))))))))))))))))))))))))))))))))] func54⟩
def Qw0(N:Nat):V:=⟨⟨53,Jm6,[Jm7],u20 (Qgf N),[5000]⟩,kF N [Qre] [] func53⟩
def Qnk(N:Nat):V:=⟨⟨43,⟨[(0,.f 53 Ql4),(1,.p 5005 [])],Jm8⟩,[Jm9],u21 (Pl N),[5000]⟩,kF N [Qw0] [(3,.rg (.n 1 Qmq))] func43⟩
def Q43(N:Nat):V:=⟨⟨28,(sD [Vt,Zy,J2]),[⟨[(0,Q8e),(1,Q8f)],[(1,Ub),(2,Uc),(3,Ur)]⟩],u3 (Mv N),[]⟩,kF N [Qwq,Qws,Qmx,Qnc,Qng,Qnk] [(7,.an (.dc 5 [18,19,20,21,1000000004] [4,5,6] [] (.c 4 (.k 0 [] [] [11903,11902,11901] [11901,11902,11903] (.c 5 (.a (.g [6] [11901,11902,11903] [] [6,11901,11902,11903] Mw))))))),(17,.rg (.n 2 (.call 1 .done))),(19,.rg (.n 2 (.call 2 .done))),(21,.rg (.n 2 (.call 3 .done))),(23,.rg Jgk),(25,.rg (.n 2 (.call 5 .done))),(31,.an (.dc 6 [47,48,49,50,51,1000000005] [4,5,9,6] [] (.c 4 (.k 0 [] [] [14803,14802,14801] [14801,14802,14803] (.c 5 (.c 9 (.a (.g [6] [14801,14802,14803] [] [6,14801,14802,14803] Mw)))))))),(35,.an (.dc 9 [52,53,54,55,56,57,58,59,1000000008] [8,28,6] [] (.d 8 28 (.d 28 28 (.b 28 (.c 28 (.d 8 28 (.d 28 28 (.b 28 (.g [] [28] [] [14401,14402,14403] (.f 6 6 Mw)))))))))))] func28⟩
def Qk2(N:Nat):V:=⟨⟨16,(sD [Vt,Zy,.sl J2]),[Jna],u3 (Ab N),[]⟩,kF N [Qms,Qmt,Q43] [(10,.gh (.fz 11501 (.fz 11502 (.fz 11503 .done)))),(10,.lp [3,6,17,18] [3,4,6] ⟨[(8,R2),(9,Qql),(19,zs3)],[(100000,.var 39 Q8e),(100001,Jgt)]⟩ [(.x 0,⟨[(8,Qa9),(9,Qcn)],[(100100,.var 39 Bj),(100101,Jgt)]⟩)]),(25,.rg (.n 2 (.fz 12701 (.fz 12702 (.fz 12703 Q40)))))] func16⟩
def Qfi(N:Nat):V:=⟨⟨7,Jnb,[Jna],u2 (Gb N),[]⟩,kF N [Qk2] [] func7⟩
def Qk3(N:Nat):V:=⟨⟨15,(sD [.sl Lv]),[Q77],Qcl N,[]⟩,kF N [] [(8,.lp [10,11] [] ⟨[(5,zs3),(6,zs3),(7,zs3),(12,zs3)],[]⟩ [(.x 0,⟨[(5,zs3),(6,zs3),(7,zs3)],[]⟩)])] func15⟩
def Qdl(N:Nat):V:=⟨⟨6,(sD []),[zs5],fun _=>U8 N,[]⟩,kF N [T6,Qfi,Qk3] [(13,.an (.dc 10 [14,15,16,17,18,13,19,20,3,1000000009] [1,2] [] (.k 0 [] [] [] [] (.c 1 (.c 2 (.a (.k 1 [] [] [11801] [11801] (.b 11801 (.a (.b 11801 Jl1)))))))))),(16,.rg (.n 10 (.sp 30 7 [3,4] [1,2,3,11801] Jn8 T2 T2 (.n 1 (.sp 38 7 [3,4] [1,2,3,11801] ⟨[(45,zs7)],[]⟩ T2 T2 .done))))),(25,.rg (.n 7 (.sp 58 6 [3,4,5,6,7] [1,2,3,11801] ⟨[(64,zs7)],[]⟩ Qsa Qsa (.n 1 (.sp 65 9 [3,4,5,6,7] [1,2,3,11801] ⟨[(74,zs7)],[]⟩ Qke Qke (.n 1 (.sp 75 6 [3,4,5,6,7] [1,2,3,11801] ⟨[(81,zs7)],[]⟩ Qsa Qsa (.n 1 (.sp 82 9 [3,4,5,6,7] [1,2,3,11801] ⟨[(91,zs7)],[]⟩ Qke Qke (.n 13 (.sp 104 7 [3] [1,2,3,11801] ⟨[(111,zs7)],[]⟩ T2 T2 Vl)))))))))))] func6⟩
def Xq(N n:Nat):Con:=⟨29,Qqm,[Qqm],fun x0=>J3 N n x0,[]⟩
theorem Wn(N:Nat):∀n,KO (Xq N n)
 | 0=>⟨Fo fun _=>rfl,Im func29 rfl⟩
 | n+1=>have ih:=Wn N n; kF N [fun _=>⟨_,ih⟩] [(8,.lp [1,2] [1,2] ⟨Jgu,[(100000,.var 111 (.ag (sL [zs3,zs3,Yb,Qql]))),(100001,Q74)]⟩ [(.x 0,⟨Qub,[(100100,.var 111 (.ag (sL [zs3,zs3,Yb,Qcn]))),(100101,Q74)]⟩)]),(17,.an (.dc 9 [19,20,21,22,23,24,25,26,27] [100000] [1] (.b 100000 (.d 100000 100001 (.b 1 (.c 1 (.a (.a (.a (.k 0 [] [] [] [] (.a Qqk)))))))))))] func29
def Pt(N:Nat):V:=⟨Xq N N,Wn N N⟩
def Na(N:Nat):V:=⟨⟨17,Q0k,[⟨[(0,Q0r)],Jgb⟩],Z4 N,[]⟩,kF N [Pt] [(8,.lp [1,2] [1,2] ⟨Jgu,Jl3⟩ Jl4),(17,.an (.dc 18 [24,25,26,27,28,29,30,31,32,33,34,35,36,37,38,39,40,41] [100000] [1] (.b 100000 (.d 100000 100001 (.b 1 (.c 1 (.a (.a (.a (.a (.e 32 (.b 1 (.c 1 (.a (.a (.a (.a (.g [32] [] [39] [39] (.b 39 (.op ⟨.fz 39 (.nl 1 .done),[39],[],[],[39]⟩ Qqk)))))))))))))))))))),(23,.lp [1,2] [1,2] ⟨[(3,Qkf),(5,zs3)],Jl5⟩ Jl6),(32,.an (.dc 18 [51,52,53,54,55,56,57,58,59,60,61,62,63,64,65,66,67,68] [100200] [1] (.b 100200 (.d 100200 100202 (.b 1 (.c 1 (.a (.a (.a (.a (.e 59 (.b 1 (.c 1 (.a (.a (.a (.a (.g [59] [] [66] [66] (.b 66 (.op ⟨.fz 66 (.nl 1 .done),[66],[],[],[66]⟩ Qqk)))))))))))))))))))),(38,.lp [1,2] [1,2] ⟨[(3,Que),(6,zs3)],Jl7⟩ Jl9),(51,.rg (.n 3 (.fz 86 Qig))),(57,.lp [1,2] [1,2] ⟨[(3,.p 100600 []),(8,zs3)],Jma⟩ Jmc)] func17⟩
def Pu(N:Nat):V:=⟨⟨8,(sD [Vt]),[⟨[(0,.ag (sL [Rz,Q0h,.s 3,.s 4,.s 5,.s 6]))],[(1,Qqr),(2,Qqs),(3,Qik),(4,Qqt),(5,Ho),(6,Jgv)]⟩],Up N,[]⟩,kF N [Na] [(3,.an (.dc 14 [11,12,13,14,15,16,17,18,19,20,21,22,23,3] [1] [] (.e 11 (.b 1 (.c 1 (.g [11] [] [14] [14] (.e 15 (.b 1 (.c 1 (.g [15] [] [18] [18] (.e 19 (.b 1 (.c 1 (.g [19] [] [22] [22] (.g [] [] [] [14,18,22] Q7s))))))))))))))),(8,.lp [1,2] [1,2] ⟨Jgu,[(100000,.var 29 (.ag (sL [Qql,Jjx,.ns,Joj,.s 100004,.ns]))),(100001,Qqr),(100002,Qqs),(100003,Qqt),(100004,Ho)]⟩ [(.x 0,⟨Qub,[(100100,.var 29 (.ag (sL [Qcn,Jfn,.ns,Jfo,.s 100104,.ns]))),(100101,Qqr),(100102,Qqs),(100103,Qqt),(100104,Ho)]⟩)]),(17,.an (.dc 9 [31,32,33,34,35,36,37,38,39] [100000] [1] (.b 100000 (.d 100000 100002 (.b 1 (.c 1 (.a (.a (.a (.k 0 [] [] [13804,13803,13802,13801] [13801,13802,13803,13804] (.op ⟨.fz 13801 (.fz 13802 (.fz 13803 (.fz 13804 (.nl 1 .done)))),[13801,13802,13803,13804],[],[],[13801,13802,13803,13804]⟩ Qqk))))))))))),(23,.lp [1,2] [1,2] ⟨[(3,Qkf),(5,zs3)],[(100200,.var 29 (.ag (sL [Q0i,Jjw,Joi,.s 100204,.s 100205,.ns]))),(100201,Qqr),(100202,Qqs),(100203,Qik),(100204,Qqt),(100205,Ho)]⟩ [(.x 2,⟨Jl8,[(100500,.var 29 (.ag (sL [Jgc,.s 100502,.s 100503,.s 100504,.s 100505,.ns]))),(100501,Qqr),(100502,Qqs),(100503,Qik),(100504,Qqt),(100505,Ho)]⟩)]),(40,.lp [3,5] [100200,100201,100202,100203,100204,100205] ⟨[(6,Qfg),(7,zs3)],[(100300,.var 80 (.ag (sL [Yb,zs3,zs3,Yb,zs7,Q0q]))),(100301,Quh)]⟩ [(.x 4,⟨[(6,Que)],[(100400,.var 80 (.ag (sL [Yb,zs3,zs3,Yb,zs7,Q72]))),(100401,Quh)]⟩)]),(53,.rg (.n 3 (.fz 78 Qig))),(55,.rg (.n 3 (.fz 100401 Qig))),(61,.lp [1,2] [1,2] ⟨[(3,.p 100600 []),(9,zs3)],[(100600,.var 29 (.ag (sL [Jgd,.s 100602,.s 100603,.s 100604,.s 100605,.s 100606]))),(100601,Qqr),(100602,Qqs),(100603,Qik),(100604,Qqt),(100605,Ho),(100606,Jgv)]⟩ [(.x 6,⟨Jmb,[(100700,.var 29 (.ag (sL [Jge,.s 100702,.s 100703,.s 100704,.s 100705,.s 100706]))),(100701,Qqr),(100702,Qqs),(100703,Qik),(100704,Qqt),(100705,Ho),(100706,Jgv)]⟩)]),(74,.rg (.n 3 (.fz 107 Qig)))] func8⟩
def Qdm(N:Nat):V:=⟨⟨19,zs2,[zs5],U9 N,[]⟩,kF N [] [] func19⟩
def Qdn(N:Nat):V:=⟨⟨10,Jgj,[zs2],Ey N,[]⟩,kF N [Qdm] [(4,.rg (.n 9 (.sp 11 5 [1] [1] ⟨[(16,zs7)],[]⟩ Hf Qly (.n 1 (.sp 17 5 [1] [1] Jn7 Hf Qly (.n 6 (.sp 28 5 [1] [1] ⟨[(33,zs7)],[]⟩ Hf Qly Jjs)))))))] func10⟩
def Wo(N:Nat):V:=⟨⟨4,Jnb,[zs5],u2 (Vo N),[]⟩,kF N [Qep,Qdl,Pu,Qfi,Qdn] [(16,.lp [5,6] [2,5,24,12101,12102,12103,12104,12105,12106,12501] Qqh zs8),(26,.rg (.n 5 (.call 4 (.n 2 (.sp 42 8 [7] [] ⟨[(50,zs7)],[]⟩ Qff Qff .done))))),(39,.lp [5,6,9] [2,5,24,12101,12102,12103,12104,12105,12106,12501] ⟨[(8,zs3),(10,zs3)],[]⟩ [(.x 2,Qid),(.r,⟨[(4,zs7)],[]⟩)]),(64,.lp [6,8] [2,5,24,12101,12102,12103,12104,12105,12106,12501] ⟨[(9,zs3),(12,zs3)],[]⟩ [(.x 4,Qij)]),(76,.lp [12] [] ⟨[(9,zs3),(13,zs3)],[]⟩ [(.x 6,Qij)]),(89,.rg (.n 4 (.sp 115 2 [] [2,5,24,12101,12102,12103,12104,12105,12106,12501] ⟨[(117,zs7)],[]⟩ Jfp Qr8 Vl)))] func4⟩
end Gx
