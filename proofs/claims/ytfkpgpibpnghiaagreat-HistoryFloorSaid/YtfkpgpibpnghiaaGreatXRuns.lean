/- The interpreter gives these functions. -/
import Derived.Test.YtfkpgpibpnghiaaGreatXFns
import Derived.Test.YtfkpgpibpnghiaaGreatProg
import Derived.Test.YtfkpgpibpnghiaaGreatXQ2
import Derived.Test.YtfkpgpibpnghiaaGreatXShelf
namespace Gx
open Go Gd Go.Proofs Tryz
set_option linter.unusedVariables false
def HT.a(r:HT):HT:=.op ⟨.nl 1 .done,[],[],[],[]⟩ r
def HT.b(x:Nat)(r:HT):HT:=.op ⟨.nl 1 .done,[],[],[],[x]⟩ r
def HT.c(x:Nat)(r:HT):HT:=.op ⟨.nl 1 .done,[],[x],[],[]⟩ r
def HT.d(x y:Nat)(r:HT):HT:=.op ⟨.nl 1 .done,[],[x],[],[y]⟩ r
def HT.e(x:Nat)(r:HT):HT:=.op ⟨.nl 1 .done,[],[],[x],[x]⟩ r
def HT.f(x y:Nat)(r:HT):HT:=.op ⟨.nl 1 .done,[x],[],[],[y]⟩ r
def HT.g(a b c d:List Nat)(r:HT):HT:=.op ⟨.nl 1 .done,a,b,c,d⟩ r
def HT.k(n:Nat)(a b c d:List Nat)(r:HT):HT:=.op ⟨.call n .done,a,b,c,d⟩ r
def u2{α0 α1 β:Type}(f:α0→α1→β)(p:α0×α1):β:=f p.1 p.2
def u3{α0 α1 α2 β:Type}(f:α0→α1→α2→β)(p:α0×α1×α2):β:=f p.1 p.2.1 p.2.2
def u4{α0 α1 α2 α3 β:Type}(f:α0→α1→α2→α3→β)(p:α0×α1×α2×α3):β:=f p.1 p.2.1 p.2.2.1 p.2.2.2
def u5{α0 α1 α2 α3 α4 β:Type}(f:α0→α1→α2→α3→α4→β)(p:α0×α1×α2×α3×α4):β:=f p.1 p.2.1 p.2.2.1 p.2.2.2.1 p.2.2.2.2
def u7{α0 α1 α2 α3 α4 α5 α6 β:Type}(f:α0→α1→α2→α3→α4→α5→α6→β)(p:α0×α1×α2×α3×α4×α5×α6):β:=f p.1 p.2.1 p.2.2.1 p.2.2.2.1 p.2.2.2.2.1 p.2.2.2.2.2.1 p.2.2.2.2.2.2
def u8{α0 α1 α2 α3 α4 α5 α6 α7 β:Type}(f:α0→α1→α2→α3→α4→α5→α6→α7→β)(p:α0×α1×α2×α3×α4×α5×α6×α7):β:=f p.1 p.2.1 p.2.2.1 p.2.2.2.1 p.2.2.2.2.1 p.2.2.2.2.2.1 p.2.2.2.2.2.2.1 p.2.2.2.2.2.2.2
def u9{α0 α1 α2 α3 α4 α5 α6 α7 α8 β:Type}(f:α0→α1→α2→α3→α4→α5→α6→α7→α8→β)(p:α0×α1×α2×α3×α4×α5×α6×α7×α8):β:=f p.1 p.2.1 p.2.2.1 p.2.2.2.1 p.2.2.2.2.1 p.2.2.2.2.2.1 p.2.2.2.2.2.2.1 p.2.2.2.2.2.2.2.1 p.2.2.2.2.2.2.2.2
def u20{α0 α1 α2 α3 α4 α5 α6 α7 α8 α9 α10 α11 α12 α13 α14 α15 α16 α17 α18 α19 β:Type}(f:α0→α1→α2→α3→α4→α5→α6→α7→α8→α9→α10→α11→α12→α13→α14→α15→α16→α17→α18→α19→β)(p:α0×α1×α2×α3×α4×α5×α6×α7×α8×α9×α10×α11×α12×α13×α14×α15×α16×α17×α18×α19):β:=f p.1 p.2.1 p.2.2.1 p.2.2.2.1 p.2.2.2.2.1 p.2.2.2.2.2.1 p.2.2.2.2.2.2.1 p.2.2.2.2.2.2.2.1 p.2.2.2.2.2.2.2.2.1 p.2.2.2.2.2.2.2.2.2.1 p.2.2.2.2.2.2.2.2.2.2.1 p.2.2.2.2.2.2.2.2.2.2.2.1 p.2.2.2.2.2.2.2.2.2.2.2.2.1 p.2.2.2.2.2.2.2.2.2.2.2.2.2.1 p.2.2.2.2.2.2.2.2.2.2.2.2.2.2.1 p.2.2.2.2.2.2.2.2.2.2.2.2.2.2.2.1 p.2.2.2.2.2.2.2.2.2.2.2.2.2.2.2.2.1 p.2.2.2.2.2.2.2.2.2.2.2.2.2.2.2.2.2.1 p.2.2.2.2.2.2.2.2.2.2.2.2.2.2.2.2.2.2.1 p.2.2.2.2.2.2.2.2.2.2.2.2.2.2.2.2.2.2.2
def u21{α0 α1 α2 α3 α4 α5 α6 α7 α8 α9 α10 α11 α12 α13 α14 α15 α16 α17 α18 α19 α20 β:Type}(f:α0→α1→α2→α3→α4→α5→α6→α7→α8→α9→α10→α11→α12→α13→α14→α15→α16→α17→α18→α19→α20→β)(p:α0×α1×α2×α3×α4×α5×α6×α7×α8×α9×α10×α11×α12×α13×α14×α15×α16×α17×α18×α19×α20):β:=f p.1 p.2.1 p.2.2.1 p.2.2.2.1 p.2.2.2.2.1 p.2.2.2.2.2.1 p.2.2.2.2.2.2.1 p.2.2.2.2.2.2.2.1 p.2.2.2.2.2.2.2.2.1 p.2.2.2.2.2.2.2.2.2.1 p.2.2.2.2.2.2.2.2.2.2.1 p.2.2.2.2.2.2.2.2.2.2.2.1 p.2.2.2.2.2.2.2.2.2.2.2.2.1 p.2.2.2.2.2.2.2.2.2.2.2.2.2.1 p.2.2.2.2.2.2.2.2.2.2.2.2.2.2.1 p.2.2.2.2.2.2.2.2.2.2.2.2.2.2.2.1 p.2.2.2.2.2.2.2.2.2.2.2.2.2.2.2.2.1 p.2.2.2.2.2.2.2.2.2.2.2.2.2.2.2.2.2.1 p.2.2.2.2.2.2.2.2.2.2.2.2.2.2.2.2.2.2.1 p.2.2.2.2.2.2.2.2.2.2.2.2.2.2.2.2.2.2.2.1 p.2.2.2.2.2.2.2.2.2.2.2.2.2.2.2.2.2.2.2.2
def u26{α0 α1 α2 α3 α4 α5 α6 α7 α8 α9 α10 α11 α12 α13 α14 α15 α16 α17 α18 α19 α20 α21 α22 α23 α24 α25 β:Type}(f:α0→α1→α2→α3→α4→α5→α6→α7→α8→α9→α10→α11→α12→α13→α14→α15→α16→α17→α18→α19→α20→α21→α22→α23→α24→α25→β)(p:α0×α1×α2×α3×α4×α5×α6×α7×α8×α9×α10×α11×α12×α13×α14×α15×α16×α17×α18×α19×α20×α21×α22×α23×α24×α25):β:=f p.1 p.2.1 p.2.2.1 p.2.2.2.1 p.2.2.2.2.1 p.2.2.2.2.2.1 p.2.2.2.2.2.2.1 p.2.2.2.2.2.2.2.1 p.2.2.2.2.2.2.2.2.1 p.2.2.2.2.2.2.2.2.2.1 p.2.2.2.2.2.2.2.2.2.2.1 p.2.2.2.2.2.2.2.2.2.2.2.1 p.2.2.2.2.2.2.2.2.2.2.2.2.1 p.2.2.2.2.2.2.2.2.2.2.2.2.2.1 p.2.2.2.2.2.2.2.2.2.2.2.2.2.2.1 p.2.2.2.2.2.2.2.2.2.2.2.2.2.2.2.1 p.2.2.2.2.2.2.2.2.2.2.2.2.2.2.2.2.1 p.2.2.2.2.2.2.2.2.2.2.2.2.2.2.2.2.2.1 p.2.2.2.2.2.2.2.2.2.2.2.2.2.2.2.2.2.2.1 p.2.2.2.2.2.2.2.2.2.2.2.2.2.2.2.2.2.2.2.1 p.2.2.2.2.2.2.2.2.2.2.2.2.2.2.2.2.2.2.2.2.1 p.2.2.2.2.2.2.2.2.2.2.2.2.2.2.2.2.2.2.2.2.2.1 p.2.2.2.2.2.2.2.2.2.2.2.2.2.2.2.2.2.2.2.2.2.2.1 p.2.2.2.2.2.2.2.2.2.2.2.2.2.2.2.2.2.2.2.2.2.2.2.1 p.2.2.2.2.2.2.2.2.2.2.2.2.2.2.2.2.2.2.2.2.2.2.2.2.1 p.2.2.2.2.2.2.2.2.2.2.2.2.2.2.2.2.2.2.2.2.2.2.2.2.2
def u27{α0 α1 α2 α3 α4 α5 α6 α7 α8 α9 α10 α11 α12 α13 α14 α15 α16 α17 α18 α19 α20 α21 α22 α23 α24 α25 α26 β:Type}(f:α0→α1→α2→α3→α4→α5→α6→α7→α8→α9→α10→α11→α12→α13→α14→α15→α16→α17→α18→α19→α20→α21→α22→α23→α24→α25→α26→β)(p:α0×α1×α2×α3×α4×α5×α6×α7×α8×α9×α10×α11×α12×α13×α14×α15×α16×α17×α18×α19×α20×α21×α22×α23×α24×α25×α26):β:=f p.1 p.2.1 p.2.2.1 p.2.2.2.1 p.2.2.2.2.1 p.2.2.2.2.2.1 p.2.2.2.2.2.2.1 p.2.2.2.2.2.2.2.1 p.2.2.2.2.2.2.2.2.1 p.2.2.2.2.2.2.2.2.2.1 p.2.2.2.2.2.2.2.2.2.2.1 p.2.2.2.2.2.2.2.2.2.2.2.1 p.2.2.2.2.2.2.2.2.2.2.2.2.1 p.2.2.2.2.2.2.2.2.2.2.2.2.2.1 p.2.2.2.2.2.2.2.2.2.2.2.2.2.2.1 p.2.2.2.2.2.2.2.2.2.2.2.2.2.2.2.1 p.2.2.2.2.2.2.2.2.2.2.2.2.2.2.2.2.1 p.2.2.2.2.2.2.2.2.2.2.2.2.2.2.2.2.2.1 p.2.2.2.2.2.2.2.2.2.2.2.2.2.2.2.2.2.2.1 p.2.2.2.2.2.2.2.2.2.2.2.2.2.2.2.2.2.2.2.1 p.2.2.2.2.2.2.2.2.2.2.2.2.2.2.2.2.2.2.2.2.1 p.2.2.2.2.2.2.2.2.2.2.2.2.2.2.2.2.2.2.2.2.2.1 p.2.2.2.2.2.2.2.2.2.2.2.2.2.2.2.2.2.2.2.2.2.2.1 p.2.2.2.2.2.2.2.2.2.2.2.2.2.2.2.2.2.2.2.2.2.2.2.1 p.2.2.2.2.2.2.2.2.2.2.2.2.2.2.2.2.2.2.2.2.2.2.2.2.1 p.2.2.2.2.2.2.2.2.2.2.2.2.2.2.2.2.2.2.2.2.2.2.2.2.2.1 p.2.2.2.2.2.2.2.2.2.2.2.2.2.2.2.2.2.2.2.2.2.2.2.2.2.2
def u28{α0 α1 α2 α3 α4 α5 α6 α7 α8 α9 α10 α11 α12 α13 α14 α15 α16 α17 α18 α19 α20 α21 α22 α23 α24 α25 α26 α27 β:Type}(f:α0→α1→α2→α3→α4→α5→α6→α7→α8→α9→α10→α11→α12→α13→α14→α15→α16→α17→α18→α19→α20→α21→α22→α23→α24→α25→α26→α27→β)(p:α0×α1×α2×α3×α4×α5×α6×α7×α8×α9×α10×α11×α12×α13×α14×α15×α16×α17×α18×α19×α20×α21×α22×α23×α24×α25×α26×α27):β:=f p.1 p.2.1 p.2.2.1 p.2.2.2.1 p.2.2.2.2.1 p.2.2.2.2.2.1 p.2.2.2.2.2.2.1 p.2.2.2.2.2.2.2.1 p.2.2.2.2.2.2.2.2.1 p.2.2.2.2.2.2.2.2.2.1 p.2.2.2.2.2.2.2.2.2.2.1 p.2.2.2.2.2.2.2.2.2.2.2.1 p.2.2.2.2.2.2.2.2.2.2.2.2.1 p.2.2.2.2.2.2.2.2.2.2.2.2.2.1 p.2.2.2.2.2.2.2.2.2.2.2.2.2.2.1 p.2.2.2.2.2.2.2.2.2.2.2.2.2.2.2.1 p.2.2.2.2.2.2.2.2.2.2.2.2.2.2.2.2.1 p.2.2.2.2.2.2.2.2.2.2.2.2.2.2.2.2.2.1 p.2.2.2.2.2.2.2.2.2.2.2.2.2.2.2.2.2.2.1 p.2.2.2.2.2.2.2.2.2.2.2.2.2.2.2.2.2.2.2.1 p.2.2.2.2.2.2.2.2.2.2.2.2.2.2.2.2.2.2.2.2.1 p.2.2.2.2.2.2.2.2.2.2.2.2.2.2.2.2.2.2.2.2.2.1 p.2.2.2.2.2.2.2.2.2.2.2.2.2.2.2.2.2.2.2.2.2.2.1 p.2.2.2.2.2.2.2.2.2.2.2.2.2.2.2.2.2.2.2.2.2.2.2.1 p.2.2.2.2.2.2.2.2.2.2.2.2.2.2.2.2.2.2.2.2.2.2.2.2.1 p.2.2.2.2.2.2.2.2.2.2.2.2.2.2.2.2.2.2.2.2.2.2.2.2.2.1 p.2.2.2.2.2.2.2.2.2.2.2.2.2.2.2.2.2.2.2.2.2.2.2.2.2.2.1 p.2.2.2.2.2.2.2.2.2.2.2.2.2.2.2.2.2.2.2.2.2.2.2.2.2.2.2
def u35{α0 α1 α2 α3 α4 α5 α6 α7 α8 α9 α10 α11 α12 α13 α14 α15 α16 α17 α18 α19 α20 α21 α22 α23 α24 α25 α26 α27 α28 α29 α30 α31 α32 α33 α34 β:Type}(f:α0→α1→α2→α3→α4→α5→α6→α7→α8→α9→α10→α11→α12→α13→α14→α15→α16→α17→α18→α19→α20→α21→α22→α23→α24→α25→α26→α27→α28→α29→α30→α31→α32→α33→α34→β)(p:α0×α1×α2×α3×α4×α5×α6×α7×α8×α9×α10×α11×α12×α13×α14×α15×α16×α17×α18×α19×α20×α21×α22×α23×α24×α25×α26×α27×α28×α29×α30×α31×α32×α33×α34):β:=f p.1 p.2.1 p.2.2.1 p.2.2.2.1 p.2.2.2.2.1 p.2.2.2.2.2.1 p.2.2.2.2.2.2.1 p.2.2.2.2.2.2.2.1 p.2.2.2.2.2.2.2.2.1 p.2.2.2.2.2.2.2.2.2.1 p.2.2.2.2.2.2.2.2.2.2.1 p.2.2.2.2.2.2.2.2.2.2.2.1 p.2.2.2.2.2.2.2.2.2.2.2.2.1 p.2.2.2.2.2.2.2.2.2.2.2.2.2.1 p.2.2.2.2.2.2.2.2.2.2.2.2.2.2.1 p.2.2.2.2.2.2.2.2.2.2.2.2.2.2.2.1 p.2.2.2.2.2.2.2.2.2.2.2.2.2.2.2.2.1 p.2.2.2.2.2.2.2.2.2.2.2.2.2.2.2.2.2.1 p.2.2.2.2.2.2.2.2.2.2.2.2.2.2.2.2.2.2.1 p.2.2.2.2.2.2.2.2.2.2.2.2.2.2.2.2.2.2.2.1 p.2.2.2.2.2.2.2.2.2.2.2.2.2.2.2.2.2.2.2.2.1 p.2.2.2.2.2.2.2.2.2.2.2.2.2.2.2.2.2.2.2.2.2.1 p.2.2.2.2.2.2.2.2.2.2.2.2.2.2.2.2.2.2.2.2.2.2.1 p.2.2.2.2.2.2.2.2.2.2.2.2.2.2.2.2.2.2.2.2.2.2.2.1 p.2.2.2.2.2.2.2.2.2.2.2.2.2.2.2.2.2.2.2.2.2.2.2.2.1 p.2.2.2.2.2.2.2.2.2.2.2.2.2.2.2.2.2.2.2.2.2.2.2.2.2.1 p.2.2.2.2.2.2.2.2.2.2.2.2.2.2.2.2.2.2.2.2.2.2.2.2.2.2.1 p.2.2.2.2.2.2.2.2.2.2.2.2.2.2.2.2.2.2.2.2.2.2.2.2.2.2.2.1 p.2.2.2.2.2.2.2.2.2.2.2.2.2.2.2.2.2.2.2.2.2.2.2.2.2.2.2.2.1 p.2.2.2.2.2.2.2.2.2.2.2.2.2.2.2.2.2.2.2.2.2.2.2.2.2.2.2.2.2.1 p.2.2.2.2.2.2.2.2.2.2.2.2.2.2.2.2.2.2.2.2.2.2.2.2.2.2.2.2.2.2.1 p.2.2.2.2.2.2.2.2.2.2.2.2.2.2.2.2.2.2.2.2.2.2.2.2.2.2.2.2.2.2.2.1 p.2.2.2.2.2.2.2.2.2.2.2.2.2.2.2.2.2.2.2.2.2.2.2.2.2.2.2.2.2.2.2.2.1 p.2.2.2.2.2.2.2.2.2.2.2.2.2.2.2.2.2.2.2.2.2.2.2.2.2.2.2.2.2.2.2.2.2.1 p.2.2.2.2.2.2.2.2.2.2.2.2.2.2.2.2.2.2.2.2.2.2.2.2.2.2.2.2.2.2.2.2.2.2
def u36{α0 α1 α2 α3 α4 α5 α6 α7 α8 α9 α10 α11 α12 α13 α14 α15 α16 α17 α18 α19 α20 α21 α22 α23 α24 α25 α26 α27 α28 α29 α30 α31 α32 α33 α34 α35 β:Type}(f:α0→α1→α2→α3→α4→α5→α6→α7→α8→α9→α10→α11→α12→α13→α14→α15→α16→α17→α18→α19→α20→α21→α22→α23→α24→α25→α26→α27→α28→α29→α30→α31→α32→α33→α34→α35→β)(p:α0×α1×α2×α3×α4×α5×α6×α7×α8×α9×α10×α11×α12×α13×α14×α15×α16×α17×α18×α19×α20×α21×α22×α23×α24×α25×α26×α27×α28×α29×α30×α31×α32×α33×α34×α35):β:=f p.1 p.2.1 p.2.2.1 p.2.2.2.1 p.2.2.2.2.1 p.2.2.2.2.2.1 p.2.2.2.2.2.2.1 p.2.2.2.2.2.2.2.1 p.2.2.2.2.2.2.2.2.1 p.2.2.2.2.2.2.2.2.2.1 p.2.2.2.2.2.2.2.2.2.2.1 p.2.2.2.2.2.2.2.2.2.2.2.1 p.2.2.2.2.2.2.2.2.2.2.2.2.1 p.2.2.2.2.2.2.2.2.2.2.2.2.2.1 p.2.2.2.2.2.2.2.2.2.2.2.2.2.2.1 p.2.2.2.2.2.2.2.2.2.2.2.2.2.2.2.1 p.2.2.2.2.2.2.2.2.2.2.2.2.2.2.2.2.1 p.2.2.2.2.2.2.2.2.2.2.2.2.2.2.2.2.2.1 p.2.2.2.2.2.2.2.2.2.2.2.2.2.2.2.2.2.2.1 p.2.2.2.2.2.2.2.2.2.2.2.2.2.2.2.2.2.2.2.1 p.2.2.2.2.2.2.2.2.2.2.2.2.2.2.2.2.2.2.2.2.1 p.2.2.2.2.2.2.2.2.2.2.2.2.2.2.2.2.2.2.2.2.2.1 p.2.2.2.2.2.2.2.2.2.2.2.2.2.2.2.2.2.2.2.2.2.2.1 p.2.2.2.2.2.2.2.2.2.2.2.2.2.2.2.2.2.2.2.2.2.2.2.1 p.2.2.2.2.2.2.2.2.2.2.2.2.2.2.2.2.2.2.2.2.2.2.2.2.1 p.2.2.2.2.2.2.2.2.2.2.2.2.2.2.2.2.2.2.2.2.2.2.2.2.2.1 p.2.2.2.2.2.2.2.2.2.2.2.2.2.2.2.2.2.2.2.2.2.2.2.2.2.2.1 p.2.2.2.2.2.2.2.2.2.2.2.2.2.2.2.2.2.2.2.2.2.2.2.2.2.2.2.1 p.2.2.2.2.2.2.2.2.2.2.2.2.2.2.2.2.2.2.2.2.2.2.2.2.2.2.2.2.1 p.2.2.2.2.2.2.2.2.2.2.2.2.2.2.2.2.2.2.2.2.2.2.2.2.2.2.2.2.2.1 p.2.2.2.2.2.2.2.2.2.2.2.2.2.2.2.2.2.2.2.2.2.2.2.2.2.2.2.2.2.2.1 p.2.2.2.2.2.2.2.2.2.2.2.2.2.2.2.2.2.2.2.2.2.2.2.2.2.2.2.2.2.2.2.1 p.2.2.2.2.2.2.2.2.2.2.2.2.2.2.2.2.2.2.2.2.2.2.2.2.2.2.2.2.2.2.2.2.1 p.2.2.2.2.2.2.2.2.2.2.2.2.2.2.2.2.2.2.2.2.2.2.2.2.2.2.2.2.2.2.2.2.2.1 p.2.2.2.2.2.2.2.2.2.2.2.2.2.2.2.2.2.2.2.2.2.2.2.2.2.2.2.2.2.2.2.2.2.2.1 p.2.2.2.2.2.2.2.2.2.2.2.2.2.2.2.2.2.2.2.2.2.2.2.2.2.2.2.2.2.2.2.2.2.2.2
def tab:Tab:=[
 ⟨1,.func ⟨[]⟩ ⟨[]⟩ false,.nilFunc,1,8⟩,
 ⟨2,.int .i64,.int .i64 0,1,8⟩,
 ⟨3,.int .i64,.int .i64 0,1,8⟩,
 ⟨4,.bool,.bool false,1,1⟩,
 ⟨5,.int .u8,.int .u8 0,1,1⟩,
 ⟨6,.int .u8,.int .u8 0,1,1⟩,
 ⟨9,.string,Yg [],1,16⟩,
 ⟨22,.slice 104,.slice none 0 0,1,24⟩,
 ⟨23,.slice 76,.slice none 0 0,1,24⟩,
 ⟨24,.slice 80,.slice none 0 0,1,24⟩,
 ⟨25,.slice 128,.slice none 0 0,1,24⟩,
 ⟨26,.slice 3,.slice none 0 0,1,24⟩,
 ⟨27,.slice 85,.slice none 0 0,1,24⟩,
 ⟨29,.struct ⟨[⟨"Events",22,0,false, "", "",0⟩,⟨"Tariffs",23,1,false, "", "",24⟩,⟨"Products",24,2,false, "", "",48⟩,⟨"Taxes",25,3,false, "", "",72⟩,⟨"Holidays",26,4,false, "", "",96⟩,⟨"Agreements",27,5,false, "", "",120⟩]⟩,.agg ⟨[.slice none 0 0,.slice none 0 0,.slice none 0 0,.slice none 0 0,.slice none 0 0,.slice none 0 0]⟩,6,144⟩,
 ⟨30,.slice 34,.slice none 0 0,1,24⟩,
 ⟨34,.struct ⟨[⟨"Id",3,0,false, "", "",0⟩,⟨"Kind",3,1,false, "", "",8⟩,⟨"Account",3,2,false, "", "",16⟩,⟨"Sub",3,3,false, "", "",24⟩,⟨"A",9,4,false, "", "",32⟩,⟨"B",9,5,false, "", "",48⟩,⟨"Start",3,6,false, "", "",64⟩,⟨"Units",3,7,false, "", "",72⟩,⟨"Trunk",3,8,false, "", "",80⟩,⟨"Inbound",4,9,false, "", "",88⟩,⟨"Source",3,10,false, "", "",96⟩,⟨"Serial",3,11,false, "", "",104⟩]⟩,.agg ⟨[.int .i64 0,.int .i64 0,.int .i64 0,.int .i64 0,Yg [],Yg [],.int .i64 0,.int .i64 0,.int .i64 0,.bool false,.int .i64 0,.int .i64 0]⟩,12,112⟩,
 ⟨35,.slice 58,.slice none 0 0,1,24⟩,
 ⟨36,.slice 53,.slice none 0 0,1,24⟩,
 ⟨37,.slice 177,.slice none 0 0,1,24⟩,
 ⟨39,.struct ⟨[⟨"Buckets",35,0,false, "", "",0⟩,⟨"Wallets",36,1,false, "", "",24⟩,⟨"Counters",37,2,false, "", "",48⟩]⟩,.agg ⟨[.slice none 0 0,.slice none 0 0,.slice none 0 0]⟩,3,72⟩,
 ⟨40,.slice 49,.slice none 0 0,1,24⟩,
 ⟨44,.int .i64,.int .i64 0,1,8⟩,
 ⟨45,.slice 60,.slice none 0 0,1,24⟩,
 ⟨46,.slice 69,.slice none 0 0,1,24⟩,
 ⟨47,.slice 116,.slice none 0 0,1,24⟩,
 ⟨49,.struct ⟨[⟨"Usage",34,0,false, "", "",0⟩,⟨"Err",44,12,false, "", "",112⟩,⟨"Plan",9,13,false, "", "",120⟩,⟨"Version",3,14,false, "", "",136⟩,⟨"Zone",9,15,false, "", "",144⟩,⟨"Takes",45,16,false, "", "",160⟩,⟨"Segments",46,17,false, "", "",184⟩,⟨"Setup",3,18,false, "", "",208⟩,⟨"Gross",3,19,false, "", "",216⟩,⟨"Net",3,20,false, "", "",224⟩,⟨"Given",47,21,false, "", "",232⟩,⟨"Paid",3,22,false, "", "",256⟩,⟨"Owed",3,23,false, "", "",264⟩]⟩,.agg ⟨[.int .i64 0,.int .i64 0,.int .i64 0,.int .i64 0,Yg [],Yg [],.int .i64 0,.int .i64 0,.int .i64 0,.bool false,.int .i64 0,.int .i64 0,.int .i64 0,Yg [],.int .i64 0,Yg [],.slice none 0 0,.slice none 0 0,.int .i64 0,.int .i64 0,.int .i64 0,.slice none 0 0,.int .i64 0,.int .i64 0]⟩,24,272⟩,
 ⟨53,.struct ⟨[⟨"Account",3,0,false, "", "",0⟩,⟨"Balance",3,1,false, "", "",8⟩,⟨"Floor",3,2,false, "", "",16⟩,⟨"Held",3,3,false, "", "",24⟩,⟨"Until",3,4,false, "", "",32⟩]⟩,.agg ⟨[.int .i64 0,.int .i64 0,.int .i64 0,.int .i64 0,.int .i64 0]⟩,5,40⟩,
 ⟨54,.slice 9,.slice none 0 0,1,24⟩,
 ⟨56,.struct ⟨[⟨"From",3,0,false, "", "",0⟩,⟨"To",3,1,false, "", "",8⟩]⟩,.agg ⟨[.int .i64 0,.int .i64 0]⟩,2,16⟩,
 ⟨58,.struct ⟨[⟨"Account",3,0,false, "", "",0⟩,⟨"Sub",3,1,false, "", "",8⟩,⟨"Product",9,2,false, "", "",16⟩,⟨"Index",3,3,false, "", "",32⟩,⟨"Kind",3,4,false, "", "",40⟩,⟨"Zones",54,5,false, "", "",48⟩,⟨"Valid",56,6,false, "", "",72⟩,⟨"Units",3,8,false, "", "",88⟩,⟨"Left",3,9,false, "", "",96⟩,⟨"Priority",3,10,false, "", "",104⟩,⟨"Shared",4,11,false, "", "",112⟩]⟩,.agg ⟨[.int .i64 0,.int .i64 0,Yg [],.int .i64 0,.int .i64 0,.slice none 0 0,.int .i64 0,.int .i64 0,.int .i64 0,.int .i64 0,.int .i64 0,.bool false]⟩,12,120⟩,
 ⟨60,.struct ⟨[⟨"Sub",3,0,false, "", "",0⟩,⟨"Product",9,1,false, "", "",8⟩,⟨"Index",3,2,false, "", "",24⟩,⟨"From",3,3,false, "", "",32⟩,⟨"Units",3,4,false, "", "",40⟩]⟩,.agg ⟨[.int .i64 0,Yg [],.int .i64 0,.int .i64 0,.int .i64 0]⟩,5,48⟩,
 ⟨64,.func ⟨[3]⟩ ⟨[4]⟩ false,.nilFunc,1,8⟩,
 ⟨69,.struct ⟨[⟨"Band",9,0,false, "", "",0⟩,⟨"Start",3,1,false, "", "",16⟩,⟨"Units",3,2,false, "", "",24⟩,⟨"Amount",3,3,false, "", "",32⟩]⟩,.agg ⟨[Yg [],.int .i64 0,.int .i64 0,.int .i64 0]⟩,4,40⟩,
 ⟨71,.slice 95,.slice none 0 0,1,24⟩,
 ⟨72,.slice 98,.slice none 0 0,1,24⟩,
 ⟨73,.slice 102,.slice none 0 0,1,24⟩,
 ⟨74,.slice 113,.slice none 0 0,1,24⟩,
 ⟨76,.struct ⟨[⟨"Name",9,0,false, "", "",0⟩,⟨"From",3,1,false, "", "",16⟩,⟨"Split",4,2,false, "", "",24⟩,⟨"Zones",71,3,false, "", "",32⟩,⟨"Bands",72,4,false, "", "",56⟩,⟨"Rates",73,5,false, "", "",80⟩,⟨"Discounts",74,6,false, "", "",104⟩]⟩,.agg ⟨[Yg [],.int .i64 0,.bool false,.slice none 0 0,.slice none 0 0,.slice none 0 0,.slice none 0 0]⟩,7,128⟩,
 ⟨78,.slice 82,.slice none 0 0,1,24⟩,
 ⟨80,.struct ⟨[⟨"Name",9,0,false, "", "",0⟩,⟨"From",3,1,false, "", "",16⟩,⟨"Fee",3,2,false, "", "",24⟩,⟨"Category",9,3,false, "", "",32⟩,⟨"Prorate",4,4,false, "", "",48⟩,⟨"Bundles",78,5,false, "", "",56⟩]⟩,.agg ⟨[Yg [],.int .i64 0,.int .i64 0,Yg [],.bool false,.slice none 0 0]⟩,6,80⟩,
 ⟨82,.struct ⟨[⟨"Kind",3,0,false, "", "",0⟩,⟨"Zones",54,1,false, "", "",8⟩,⟨"Units",3,2,false, "", "",32⟩,⟨"Rollover",3,3,false, "", "",40⟩,⟨"Priority",3,4,false, "", "",48⟩,⟨"Shared",4,5,false, "", "",56⟩]⟩,.agg ⟨[.int .i64 0,.slice none 0 0,.int .i64 0,.int .i64 0,.int .i64 0,.bool false]⟩,6,64⟩,
 ⟨83,.slice 100,.slice none 0 0,1,24⟩,
 ⟨85,.struct ⟨[⟨"Partner",3,0,false, "", "",0⟩,⟨"Kind",3,1,false, "", "",8⟩,⟨"Inbound",4,2,false, "", "",16⟩,⟨"Valid",56,3,false, "", "",24⟩,⟨"Steps",83,5,false, "", "",40⟩,⟨"Cap",3,6,false, "", "",64⟩]⟩,.agg ⟨[.int .i64 0,.int .i64 0,.bool false,.int .i64 0,.int .i64 0,.slice none 0 0,.int .i64 0]⟩,7,72⟩,
 ⟨95,.struct ⟨[⟨"Name",9,0,false, "", "",0⟩,⟨"Prefixes",54,1,false, "", "",16⟩]⟩,.agg ⟨[Yg [],.slice none 0 0]⟩,2,40⟩,
 ⟨96,.slice 262,.slice none 0 0,1,24⟩,
 ⟨98,.struct ⟨[⟨"Name",9,0,false, "", "",0⟩,⟨"Slots",96,1,false, "", "",16⟩]⟩,.agg ⟨[Yg [],.slice none 0 0]⟩,2,40⟩,
 ⟨100,.struct ⟨[⟨"Upto",3,0,false, "", "",0⟩,⟨"Quantum",3,1,false, "", "",8⟩,⟨"Price",3,2,false, "", "",16⟩]⟩,.agg ⟨[.int .i64 0,.int .i64 0,.int .i64 0]⟩,3,24⟩,
 ⟨102,.struct ⟨[⟨"Kind",3,0,false, "", "",0⟩,⟨"Zone",9,1,false, "", "",8⟩,⟨"Band",9,2,false, "", "",24⟩,⟨"Setup",3,3,false, "", "",40⟩,⟨"Steps",83,4,false, "", "",48⟩]⟩,.agg ⟨[.int .i64 0,Yg [],Yg [],.int .i64 0,.slice none 0 0]⟩,5,72⟩,
 ⟨104,.struct ⟨[⟨"At",3,0,false, "", "",0⟩,⟨"Kind",3,1,false, "", "",8⟩,⟨"Account",3,2,false, "", "",16⟩,⟨"Sub",3,3,false, "", "",24⟩,⟨"Number",9,4,false, "", "",32⟩,⟨"Name",9,5,false, "", "",48⟩,⟨"Value",3,6,false, "", "",64⟩]⟩,.agg ⟨[.int .i64 0,.int .i64 0,.int .i64 0,.int .i64 0,Yg [],Yg [],.int .i64 0]⟩,7,72⟩,
 ⟨109,.slice 111,.slice none 0 0,1,24⟩,
 ⟨111,.struct ⟨[⟨"Op",3,0,false, "", "",0⟩,⟨"Num",3,1,false, "", "",8⟩,⟨"Text",9,2,false, "", "",16⟩,⟨"Args",109,3,false, "", "",32⟩]⟩,.agg ⟨[.int .i64 0,.int .i64 0,Yg [],.slice none 0 0]⟩,4,56⟩,
 ⟨113,.struct ⟨[⟨"Name",9,0,false, "", "",0⟩,⟨"When",111,1,false, "", "",16⟩,⟨"Points",3,5,false, "", "",72⟩]⟩,.agg ⟨[Yg [],.int .i64 0,.int .i64 0,Yg [],.slice none 0 0,.int .i64 0]⟩,6,80⟩,
 ⟨116,.struct ⟨[⟨"Name",9,0,false, "", "",0⟩,⟨"Amount",3,1,false, "", "",16⟩]⟩,.agg ⟨[Yg [],.int .i64 0]⟩,2,24⟩,
 ⟨118,.slice 142,.slice none 0 0,1,24⟩,
 ⟨119,.slice 153,.slice none 0 0,1,24⟩,
 ⟨121,.struct ⟨[⟨"Accounts",118,0,false, "", "",0⟩,⟨"Subs",119,1,false, "", "",24⟩,⟨"Ended",26,2,false, "", "",48⟩]⟩,.agg ⟨[.slice none 0 0,.slice none 0 0,.slice none 0 0]⟩,3,72⟩,
 ⟨128,.struct ⟨[⟨"Category",9,0,false, "", "",0⟩,⟨"From",3,1,false, "", "",16⟩,⟨"Points",3,2,false, "", "",24⟩]⟩,.agg ⟨[Yg [],.int .i64 0,.int .i64 0]⟩,3,32⟩,
 ⟨136,.struct ⟨[⟨"start",3,0,false, "", "billing/history",0⟩,⟨"source",3,1,false, "", "billing/history",8⟩,⟨"serial",3,2,false, "", "billing/history",16⟩,⟨"id",3,3,false, "", "billing/history",24⟩]⟩,.agg ⟨[.int .i64 0,.int .i64 0,.int .i64 0,.int .i64 0]⟩,4,32⟩,
 ⟨138,.pointer 144,.pointer none,1,8⟩,
 ⟨140,.struct ⟨[⟨"Period",56,0,false, "", "",0⟩,⟨"Plan",9,2,false, "", "",16⟩,⟨"Products",54,3,false, "", "",32⟩,⟨"Suspended",4,4,false, "", "",56⟩,⟨"Family",4,5,false, "", "",57⟩]⟩,.agg ⟨[.int .i64 0,.int .i64 0,Yg [],.slice none 0 0,.bool false,.bool false]⟩,6,64⟩,
 ⟨142,.struct ⟨[⟨"Id",3,0,false, "", "",0⟩,⟨"Since",3,1,false, "", "",8⟩,⟨"Anchor",3,2,false, "", "",16⟩,⟨"Prepaid",4,3,false, "", "",24⟩,⟨"Closed",4,4,false, "", "",25⟩,⟨"Subs",26,5,false, "", "",32⟩]⟩,.agg ⟨[.int .i64 0,.int .i64 0,.int .i64 0,.bool false,.bool false,.slice none 0 0]⟩,6,56⟩,
 ⟨144,.struct ⟨[⟨"book",29,0,false, "", "billing/rate",0⟩,⟨"state",39,6,false, "", "billing/rate",144⟩,⟨"u",34,9,false, "", "billing/rate",216⟩,⟨"spell",140,21,false, "", "billing/rate",328⟩,⟨"account",142,27,false, "", "billing/rate",392⟩,⟨"tariff",76,33,false, "", "billing/rate",448⟩,⟨"free",3,40,false, "", "billing/rate",576⟩,⟨"r",49,41,false, "", "billing/rate",584⟩]⟩,.agg ⟨[.slice none 0 0,.slice none 0 0,.slice none 0 0,.slice none 0 0,.slice none 0 0,.slice none 0 0,.slice none 0 0,.slice none 0 0,.slice none 0 0,.int .i64 0,.int .i64 0,.int .i64 0,.int .i64 0,Yg [],Yg [],.int .i64 0,.int .i64 0,.int .i64 0,.bool false,.int .i64 0,.int .i64 0,.int .i64 0,.int .i64 0,Yg [],.slice none 0 0,.bool false,.bool false,.int .i64 0,.int .i64 0,.int .i64 0,.bool false,.bool false,.slice none 0 0,Yg [],.int .i64 0,.bool false,.slice none 0 0,.slice none 0 0,.slice none 0 0,.slice none 0 0,.int .i64 0,.int .i64 0,.int .i64 0,.int .i64 0,.int .i64 0,Yg [],Yg [],.int .i64 0,.int .i64 0,.int .i64 0,.bool false,.int .i64 0,.int .i64 0,.int .i64 0,Yg [],.int .i64 0,Yg [],.slice none 0 0,.slice none 0 0,.int .i64 0,.int .i64 0,.int .i64 0,.slice none 0 0,.int .i64 0,.int .i64 0]⟩,65,856⟩,
 ⟨145,.func ⟨[]⟩ ⟨[44]⟩ false,.nilFunc,1,8⟩,
 ⟨148,.array 5 4,.agg ⟨[.bool false,.bool false,.bool false,.bool false,.bool false]⟩,5,5⟩,
 ⟨153,.struct ⟨[⟨"Id",3,0,false, "", "",0⟩,⟨"Account",3,1,false, "", "",8⟩,⟨"Since",3,2,false, "", "",16⟩,⟨"Plan",9,3,false, "", "",24⟩,⟨"Numbers",54,4,false, "", "",40⟩,⟨"Products",54,5,false, "", "",64⟩,⟨"Suspended",4,6,false, "", "",88⟩,⟨"Family",4,7,false, "", "",89⟩]⟩,.agg ⟨[.int .i64 0,.int .i64 0,.int .i64 0,Yg [],.slice none 0 0,.slice none 0 0,.bool false,.bool false]⟩,8,96⟩,
 ⟨158,.slice 56,.slice none 0 0,1,24⟩,
 ⟨177,.struct ⟨[⟨"Sub",3,0,false, "", "",0⟩,⟨"Kind",3,1,false, "", "",8⟩,⟨"From",3,2,false, "", "",16⟩,⟨"Units",3,3,false, "", "",24⟩,⟨"Spent",3,4,false, "", "",32⟩]⟩,.agg ⟨[.int .i64 0,.int .i64 0,.int .i64 0,.int .i64 0,.int .i64 0]⟩,5,40⟩,
 ⟨184,.struct ⟨[⟨"Kind",3,0,false, "", "",0⟩,⟨"Units",3,1,false, "", "",8⟩,⟨"Weekday",3,2,false, "", "",16⟩,⟨"Minute",3,3,false, "", "",24⟩,⟨"Total",3,4,false, "", "",32⟩,⟨"Spent",3,5,false, "", "",40⟩,⟨"Zone",9,6,false, "", "",48⟩,⟨"Band",9,7,false, "", "",64⟩,⟨"Family",4,8,false, "", "",80⟩]⟩,.agg ⟨[.int .i64 0,.int .i64 0,.int .i64 0,.int .i64 0,.int .i64 0,.int .i64 0,Yg [],Yg [],.bool false]⟩,9,88⟩,
 ⟨202,.slice 140,.slice none 0 0,1,24⟩,
 ⟨206,.struct ⟨[⟨"Accounts",118,0,false, "", "",0⟩,⟨"Subs",119,1,false, "", "",24⟩]⟩,.agg ⟨[.slice none 0 0,.slice none 0 0]⟩,2,48⟩,
 ⟨208,.map 9 9,.map none,1,8⟩,
 ⟨218,.pointer 221,.pointer none,1,8⟩,
 ⟨219,.map 224 4,.map none,1,8⟩,
 ⟨221,.struct ⟨[⟨"list",35,0,false, "", "billing/bundle",0⟩,⟨"has",219,1,false, "", "billing/bundle",24⟩]⟩,.agg ⟨[.slice none 0 0,.map none]⟩,2,32⟩,
 ⟨224,.struct ⟨[⟨"sub",3,0,false, "", "billing/bundle",0⟩,⟨"product",9,1,false, "", "billing/bundle",8⟩,⟨"index",3,2,false, "", "billing/bundle",24⟩,⟨"from",3,3,false, "", "billing/bundle",32⟩]⟩,.agg ⟨[.int .i64 0,Yg [],.int .i64 0,.int .i64 0]⟩,4,40⟩,
 ⟨227,.slice 231,.slice none 0 0,1,24⟩,
 ⟨231,.struct ⟨[⟨"account",3,0,false, "", "billing/bundle",0⟩,⟨"sub",3,1,false, "", "billing/bundle",8⟩,⟨"product",9,2,false, "", "billing/bundle",16⟩,⟨"active",158,3,false, "", "billing/bundle",32⟩]⟩,.agg ⟨[.int .i64 0,.int .i64 0,Yg [],.slice none 0 0]⟩,4,56⟩,
 ⟨232,.slice 235,.slice none 0 0,1,24⟩,
 ⟨235,.struct ⟨[⟨"bucket",58,0,false, "", "billing/bundle",0⟩,⟨"rollover",3,12,false, "", "billing/bundle",120⟩]⟩,.agg ⟨[.int .i64 0,.int .i64 0,Yg [],.int .i64 0,.int .i64 0,.slice none 0 0,.int .i64 0,.int .i64 0,.int .i64 0,.int .i64 0,.int .i64 0,.bool false,.int .i64 0]⟩,13,128⟩,
 ⟨250,.array 2 3,.agg ⟨[.int .i64 0,.int .i64 0]⟩,2,16⟩,
 ⟨253,.map 3 3,.map none,1,8⟩,
 ⟨262,.struct ⟨[⟨"Days",3,0,false, "", "",0⟩,⟨"From",3,1,false, "", "",8⟩,⟨"To",3,2,false, "", "",16⟩]⟩,.agg ⟨[.int .i64 0,.int .i64 0,.int .i64 0]⟩,3,24⟩,
 ⟨266,.slice 269,.slice none 0 0,1,24⟩,
 ⟨269,.struct ⟨[⟨"at",3,0,false, "", "billing/subscribe",0⟩,⟨"s",153,1,false, "", "billing/subscribe",8⟩]⟩,.agg ⟨[.int .i64 0,.int .i64 0,.int .i64 0,.int .i64 0,Yg [],.slice none 0 0,.slice none 0 0,.bool false,.bool false]⟩,9,104⟩,
 ⟨272,.func ⟨[269,269]⟩ ⟨[4]⟩ false,.nilFunc,1,8⟩,
 ⟨273,.func ⟨[269,269]⟩ ⟨[269]⟩ false,.nilFunc,1,8⟩,
 ⟨274,.pointer 327,.pointer none,1,8⟩,
 ⟨284,.func ⟨[95]⟩ ⟨[4]⟩ false,.nilFunc,1,8⟩,
 ⟨288,.map 3 4,.map none,1,8⟩,
 ⟨289,.map 9 288,.map none,1,8⟩,
 ⟨302,.struct ⟨[⟨"sub",3,0,false, "", "billing/bucket",0⟩,⟨"product",9,1,false, "", "billing/bucket",8⟩,⟨"index",3,2,false, "", "billing/bucket",24⟩,⟨"from",3,3,false, "", "billing/bucket",32⟩]⟩,.agg ⟨[.int .i64 0,Yg [],.int .i64 0,.int .i64 0]⟩,4,40⟩,
 ⟨305,.slice 308,.slice none 0 0,1,24⟩,
 ⟨308,.struct ⟨[⟨"Band",9,0,false, "", "",0⟩,⟨"Period",56,1,false, "", "",16⟩]⟩,.agg ⟨[Yg [],.int .i64 0,.int .i64 0]⟩,3,32⟩,
 ⟨311,.array 3 250,.agg ⟨[.int .i64 0,.int .i64 0,.int .i64 0,.int .i64 0,.int .i64 0,.int .i64 0]⟩,6,48⟩,
 ⟨314,.func ⟨[98]⟩ ⟨[4]⟩ false,.nilFunc,1,8⟩,
 ⟨316,.func ⟨[262]⟩ ⟨[4]⟩ false,.nilFunc,1,8⟩,
 ⟨323,.map 3 142,.map none,1,8⟩,
 ⟨324,.map 3 153,.map none,1,8⟩,
 ⟨325,.map 9 3,.map none,1,8⟩,
 ⟨327,.struct ⟨[⟨"accounts",323,0,false, "", "billing/customer",0⟩,⟨"subs",324,1,false, "", "billing/customer",8⟩,⟨"ever",288,2,false, "", "billing/customer",16⟩,⟨"owners",325,3,false, "", "billing/customer",24⟩,⟨"live",253,4,false, "", "billing/customer",32⟩,⟨"opened",26,5,false, "", "billing/customer",40⟩,⟨"added",26,6,false, "", "billing/customer",64⟩]⟩,.agg ⟨[.map none,.map none,.map none,.map none,.map none,.slice none 0 0,.slice none 0 0]⟩,7,88⟩,
 ⟨328,.map 3 26,.map none,1,8⟩,
 ⟨331,.func ⟨[140]⟩ ⟨[4]⟩ false,.nilFunc,1,8⟩,
 ⟨333,.func ⟨[4,4]⟩ ⟨[4]⟩ false,.nilFunc,1,8⟩,
 ⟨335,.func ⟨[80]⟩ ⟨[4]⟩ false,.nilFunc,1,8⟩,
 ⟨340,.struct ⟨[⟨"Year",3,0,false, "", "",0⟩,⟨"Month",3,1,false, "", "",8⟩,⟨"Day",3,2,false, "", "",16⟩]⟩,.agg ⟨[.int .i64 0,.int .i64 0,.int .i64 0]⟩,3,24⟩,
 ⟨347,.array 4 3,.agg ⟨[.int .i64 0,.int .i64 0,.int .i64 0,.int .i64 0]⟩,4,32⟩,
 ⟨350,.func ⟨[56,56]⟩ ⟨[4]⟩ false,.nilFunc,1,8⟩,
 ⟨351,.func ⟨[56,56]⟩ ⟨[56]⟩ false,.nilFunc,1,8⟩,
 ⟨352,.slice 354,.slice none 0 0,1,24⟩,
 ⟨354,.struct ⟨[⟨"at",3,0,false, "", "billing/interval",0⟩,⟨"list",3,1,false, "", "billing/interval",8⟩,⟨"by",3,2,false, "", "billing/interval",16⟩]⟩,.agg ⟨[.int .i64 0,.int .i64 0,.int .i64 0]⟩,3,24⟩,
 ⟨357,.func ⟨[354,354]⟩ ⟨[3]⟩ false,.nilFunc,1,8⟩,
 ⟨369,.array 12 3,.agg ⟨[.int .i64 0,.int .i64 0,.int .i64 0,.int .i64 0,.int .i64 0,.int .i64 0,.int .i64 0,.int .i64 0,.int .i64 0,.int .i64 0,.int .i64 0,.int .i64 0]⟩,12,96⟩]
def tx:TX:=⟨tab,[(1,.ref),(2,(.int .i64)),(3,(.int .i64)),(4,.bool),(5,(.int .u8)),(6,(.int .u8)),(9,.str),(22,(.sl Jt)),(23,(.sl J5)),(24,(.sl Ym)),(25,(.sl C5)),(26,(.sl (.int .i64))),(27,(.sl V6)),(29,Vx),(30,(.sl J0)),(34,J0),(35,(.sl Yl)),(36,(.sl V7)),(37,(.sl Yn)),(39,Zz),(40,(.sl Lz)),(44,(.int .i64)),(45,(.sl Qd7)),(46,(.sl I3)),(47,(.sl Tc)),(49,Lz),(53,V7),(54,(.sl .str)),(56,Ja),(58,Yl),(60,Qd7),(64,.ref),(69,I3),(71,(.sl Uc)),(72,(.sl Vw)),(73,(.sl Gy)),(74,(.sl Y9)),(76,J5),(78,(.sl K1)),(80,Ym),(82,K1),(83,(.sl Gw)),(85,V6),(95,Uc),(96,(.sl Kk)),(98,Vw),(100,Gw),(102,Gy),(104,Jt),(109,(.sl Kl)),(111,Kl),(113,Y9),(116,Tc),(118,(.sl V2)),(119,(.sl Vg)),(121,U4),(128,C5),(136,I4),(138,.ref),(140,B5),(142,V2),(144,Ja6),(145,.ref),(148,(.arr 5 .bool)),(153,Vg),(158,(.sl Ja)),(177,Yn),(184,Rc),(202,(.sl B5)),(206,Qqr),(208,.ref),(218,.ref),(219,.ref),(221,Qsn),(224,Ut),(227,(.sl Uf)),(231,Uf),(232,(.sl H1)),(235,H1),(250,(.arr 2 (.int .i64))),(253,.ref),(262,Kk),(266,(.sl Vh)),(269,Vh),(272,.ref),(273,.ref),(274,.ref),(284,.ref),(288,.ref),(289,.ref),(302,Rd),(305,(.sl Qgb)),(308,Qgb),(311,(.arr 3 (.arr 2 (.int .i64)))),(314,.ref),(316,.ref),(323,.ref),(324,.ref),(325,.ref),(327,Qmz),(328,.ref),(331,.ref),(333,.ref),(335,.ref),(340,Qd8),(347,(.arr 4 (.int .i64))),(350,.ref),(351,.ref),(352,(.sl Vy)),(354,Vy),(357,.ref),(369,(.arr 12 (.int .i64)))],[]⟩
theorem Je8:Tryz.prog.follows .mixedOrders=true:=by kernel_rfl
theorem Je9:Q7 Tryz.prog tab:=by repeat (first | exact trivial | refine⟨⟨⟨by kernel_rfl,by kernel_rfl⟩,by kernel_rfl⟩,?_⟩)
abbrev KO(c:Con):Prop:=Qfb Tryz.prog tx.gl c∧Runs Tryz.prog c.f
abbrev IO(i:It):Prop:=Jav Tryz.prog tx.gl i∧Runs Tryz.prog i.f
abbrev V:={c // KO c}
def kcs(N:Nat)(L:List (Nat→V)):List Con:=L.map fun k=>(k N).1
theorem Q7o(N:Nat):∀L:List (Nat→V),Q0b Tryz.prog tx.gl (kcs N L)
 | []=>Jo9
 | c::L=>Jno (c N).2.1 (c N).2.2 (Q7o N L)
def Q7p(fn:Func):Bool:=decide (fn.name ≠ "runtime.NumGoroutine")&&!fn.body.isNone
theorem Iq{f:FuncId}{fn:Func}(hf:Tryz.prog.funcs[f]?=some fn)(h:Q7p fn=true):Runs Tryz.prog f:=by
 simp only[Q7p,QQ,decide_eq_true_eq,JM]at h
 exact⟨fn,hf,h.1,h.2⟩
theorem kF(N:Nat){c:Con}(L:List (Nat→V))(ps:List (Nat×Pc)){fn:Func}(hf:Tryz.prog.funcs[c.f]?=some fn)(hg:Q7p fn=true:=by rfl)(h:∀x,c.fn x=Jeb tx (kcs N L) N fn (Jnr ((kcs N L).map Con.f) ps fn.body) c.ro c.Γ c.Δ x:=by intro x; kernel_rfl):KO c :=
 ⟨Ji9 (Y:=tx) (N:=N) Je9 Je8 (Q7o N L) hf rfl h,Iq hf hg⟩
def ics(L:List {i // IO i}):List It:=L.map (·.1)
theorem Jkt:∀L:List {i // IO i},∀i∈ics L,Jav Tryz.prog tx.gl i∧Runs Tryz.prog i.f
 | [],_,h=>by cases h
 | c::L,i,h=>by
  rcases QJ.1 h with rfl | h
  ·exact c.2
  ·exact Jkt L i h
theorem kR(N:Nat){c:Con}(L:List (Nat→V))(I:List {i // IO i})(an:AnR){fn:Func}(hf:Tryz.prog.funcs[c.f]?=some fn)(hg:Q7p fn=true)(h:∀x,c.fn x=Je3 tx (kcs N L) N (ics I) fn an c.ro c.Γ c.Δ x):KO c :=
 ⟨Je4 (Y:=tx) (N:=N) (an:=an) Je9 Je8 (Q7o N L) (Jkt I) hf rfl h,Iq hf hg⟩
def Vz:Con:=⟨243,⟨[(0,.s 5000),(1,.f 244 (.nil))],[(5000,.row 354 Vy)]⟩,[⟨[],[(5000,.row 354 Vy)]⟩],Qfe (fun x:Q9=>x.1),[]⟩
theorem Gi:KO Vz:=⟨Qup (c:=Vz) (e:=354) (u:=Vy) rfl (fun x=>x) (fun y=>y) (ev:=[⟨1,[],.f 244 .nil⟩]) (vx:=[.func (.func 244) #[] #[]]) rfl (fun _=>by kernel_rfl) (fun _=>by kernel_rfl) rfl Q7n (fun _ _=>Ja3) (fun p w=>AnyF.slices_SortFunc_none { Tryz.sortFunc243 with } p 0 _ w) (fun _ _ h blk cap w hH hb _=>Q0p (u:=Vy) rfl (fun x:Q9=>x.1) Tryz.sortFunc243 isAgg354 sizeOf354 (enters_of func244 (by kernel_rfl) rfl) Tryz.clo244 h blk cap w hH hb),Iq func243 rfl⟩
def Ir:Con:=⟨246,⟨[(0,.s 5000)],[(5000,.row 3 (.int .i64))]⟩,[⟨[],[(5000,.row 3 (.int .i64))]⟩],Quk,[]⟩
theorem Qgl:KO Ir:=⟨Qup (c:=Ir) (e:=3) (u:=(.int .i64)) rfl (fun x=>x) (fun y=>y) (ev:=[]) (vx:=[]) rfl (fun _=>by kernel_rfl) (fun _=>by kernel_rfl) rfl Q7m (fun _ _=>Ja4) (fun p w=>AnyM.slices_Sort_int_none Tryz.sortInts246 p 0 w) (fun _ _ h blk cap w hH hb _=>Q0q Tryz.sortInts246 h blk cap w hH hb),Iq func246 rfl⟩
def Aj:Con:=⟨247,⟨[(0,.s 5000)],[(5000,.row 3 (.int .i64))]⟩,[⟨[(0,.s 0)],[(0,.row 3 (.int .i64))]⟩],Rb,[]⟩
theorem Qa7:KO Aj:=⟨Quq (c:=Aj) (e:=3) (u:=(.int .i64)) rfl (fun x=>x) (fun y=>y) (ev:=[]) (vx:=[]) rfl (fun _=>by kernel_rfl) (fun _=>by kernel_rfl) rfl rfl Q7m (fun _ _=>Qw5) (fun p w=>Any.slices_Compact_int_empty Tryz.compactInts247 p 0 w) (fun _ _ h blk cap w hH hb hc=>Qqq Tryz.compactInts247 h blk cap w hH hb hc),Iq func247 rfl⟩
def K3:Con:=⟨248,⟨[(0,.s 5000),(1,.f 249 (.nil))],[(5000,.row 3 (.int .i64))]⟩,[⟨[(0,.s 0)],[(0,.row 3 (.int .i64))]⟩],Qul (fun m=>decide (m≥1440)),[]⟩
theorem D6:KO K3:=⟨Quq (c:=K3) (e:=3) (u:=(.int .i64)) rfl (fun x=>x) (fun y=>y) (ev:=[⟨1,[],.f 249 .nil⟩]) (vx:=[.func (.func 249) #[] #[]]) rfl (fun _=>by kernel_rfl) (fun _=>by kernel_rfl) rfl rfl Q7n (fun _ _=>Ja5) (fun p w=>Qsm Tryz.deleteFunc248 p w) (fun _ _ h blk cap w hH hb hc=>Q0r Tryz.deleteFunc248 Tryz.zeroValue3 (enters_of func249 (by kernel_rfl) rfl) Tryz.clo249 h blk cap w hH hb hc),Iq func248 rfl⟩
def zs1:Shp:=sD [Kl,.i]
def zs2:Shp:=sD [.i]
def zs3:Sk:=.d .i
def zs4:Shp:=⟨[(5,zs3)],[]⟩
def zs5:Shp:=sD [.bool]
def zs6:Shp:=⟨[],[]⟩
def zs7:Sk:=.d .bool
def zs8:Exs:=[(.x 0,zs6),(.r,⟨[(4,zs7)],[]⟩)]
def zs9:Shp:=⟨[(6,zs3)],[]⟩
def Qqv:Shp:=⟨[(7,zs3)],[]⟩
def Qik:Shp:=⟨[(8,zs3)],[]⟩
def Jpf:Exs:=[(.x 6,zs6),(.r,⟨[(4,zs7)],[]⟩)]
def Jns:Shp:=⟨[(22,zs7)],[]⟩
def Qm0:Shp:=sD [.str]
def Vq:Hn:=.n 1 .done
def Tx:Hn:=.nl 3 Vq
def Qcm:Shp:=⟨[(3,zs3)],[]⟩
def Qqw:Exs:=[(.x 0,zs6),(.r,⟨[(2,zs7)],[]⟩)]
def Jnt:Shp:=⟨[(37,zs7)],[]⟩
def Hm:Hn:=.nl 4 Vq
def Jjb:Shp:=⟨[(49,zs7)],[]⟩
def Jnu:Shp:=⟨[(48,zs7)],[]⟩
def Jnv:Hn:=.nl 5 .done
def Jnw:Shp:=⟨[(55,zs7)],[]⟩
def Jfa:Shp:=⟨[(19,zs7)],[]⟩
def Qkl:Hn:=.nl 8 Vq
def Qsp:Hn:=.nl 1 Vq
def Jjc:Hn:=.nl 4 (.n 3 Qsp)
def Jjd:Hn:=.call 1 Qsp
def Jfb:Hn:=.nl 2 Jjd
def Jje:Hn:=.call 2 Qsp
def Jjf:Hn:=.n 15 .done
def Jpg:Hn:=.nl 2 (.call 3 Qsp)
def Jjg:Shp:=sD [U4,.i]
def Q40:Shp:=⟨[(4,zs3)],[]⟩
def Qsq:Exs:=[(.x 0,zs6),(.r,Q40)]
def Jfc:Hn:=.call 0 Qsp
def Ja7:Hn:=.nl 2 Vq
def Jph:HT:=.a (.a (.a (.a (.a (.a (.tl Ja7))))))
def Jpi:HT:=.a Jph
def Jnx:Shp:=sD [U4,Jt]
def Jjh:Hn:=.nl 3 Jjd
def Qsr:Hn:=.nl 5 Vq
def Jfd:Shp:=⟨[(41,zs7)],[]⟩
def Q0s:Shp:=sD [.sl .str,.str]
def Jpj:Exs:=[(.n,zs6),(.r,Q40)]
def Jpk:Exs:=[(.n,⟨[(53,zs7)],[]⟩)]
def Ry:Sk:=.s 1
def Qgm:List (Nat×Sk):=[(0,Ry)]
def Qqx:SkO:=.row 9 .str
def Q41:Shp:=⟨Qgm,[(1,Qqx)]⟩
def Q0t:Shp:=⟨[(18,zs7)],[]⟩
def Tz:Hn:=.nl 6 Vq
def Rz:Sk:=.s 100000
def Qil:Sk:=.s 100200
def Jji:List (Nat×Sk):=[(5,Qil)]
def Jny:Exs:=[(.x 0,⟨Jji,[(100200,Qqx)]⟩)]
def Qej:Sk:=.s 100100
def Jnz:Exs:=[(.n,⟨[(5,Qej)],[(100100,Qqx)]⟩)]
def Jpl:Shp:=sD [Vg,Jt]
def R0:Sk:=.p 100000 []
def Ya:Sk:=.d .str
def Jn0:Sk:=.d (.sl .str)
def Jn1:SkO:=.var 153 (.ag (sL [zs3,zs3,zs3,Ya,Jn0,Jn0,zs7,zs7]))
def Q0u:Sk:=.s 2
def Ja8:Sk:=.ag (sL [Ry,Q0u,.s 3])
def Q42:SkO:=.row 142 V2
def Qss:SkO:=.row 153 Vg
def Hu:SkO:=.row 3 .i
def Mx:HT:=.tl Vq
def Qa8:Sk:=.p 100100 []
def Jn2:Sk:=.p 100101 []
def Jfe:Sk:=.s 100102
def Jff:Sk:=.s 100103
def Qkm:Sk:=.p 100200 []
def Q0v:Sk:=.s 100201
def Jjj:Sk:=.s 100202
def Jn3:Sk:=.s 100203
def Q43:Hn:=.n 3 .done
def Qqy:HT:=.tl Q43
def Jpm:Exs:=[(.n,⟨[(90,zs7)],[]⟩)]
def Q44:Hn:=.n 2 .done
def Ja9:HT:=.tl Q44
def My:Shp:=sD [.i,.i]
def Qqz:Sk:=.s 100001
def Jjk:Sk:=.s 100002
def Jn4:Sk:=.s 100003
def Jn5:Sk:=.ag (sL [Qqz,Jjk,Jn4])
def Jpn:Exs:=[(.x 0,zs6),(.r,⟨[(2,zs3),(3,zs3)],[]⟩)]
def Q0w:Hn:=.n 6 .done
def Qm1:Hn:=.call 0 Vq
def Jjl:Hn:=.n 5 .done
def Jfg:Hn:=.call 1 Vq
def Qm2:Exs:=[(.x 0,zs6),(.r,⟨[(2,zs3)],[]⟩)]
def Jn6:Exs:=[(.x 2,zs6),(.r,⟨[(2,zs3)],[]⟩)]
def Jjm:Hn:=.n 10 .done
def Jpo:Shp:=sD [Ym]
def Jjn:Hn:=.nl 13 .done
def Jn7:Shp:=sD [.int .u8]
def Ql9:Hn:=.nl 2 Jfc
def Jfh:Shp:=⟨[(35,zs7)],[]⟩
def Jfi:Exs:=[(.x 0,zs6),(.r,⟨[(6,zs7)],[]⟩)]
def Qma:Hn:=.n 8 .done
def Jku:Shp:=sD [.sl Uc]
def Jkv:Shp:=sD [.sl Vw]
def Jkw:Shp:=sD [J5,.str]
def Jkx:Shp:=sD [.sl Gw]
def Q0x:Shp:=sD [J5]
def Qq0:Shp:=sD [Kl]
def Qur:HT:=.a Mx
def Q7q:Hn:=.n 7 .done
def Jky:Exs:=[(.n,⟨[(42,zs7)],[]⟩)]
def Jfj:List (Nat×SkO):=[(100000,Hu)]
def Jkz:Shp:=⟨[(7,Rz),(8,zs3)],Jfj⟩
def Jfk:Shp:=⟨[(4,zs3),(5,zs3)],[]⟩
def Q0y:Shp:=sD [Ja]
def Q0z:Shp:=sD [.sl .i,.i]
def Jfl:Shp:=⟨Qgm,[(1,Hu)]⟩
def Qq1:Sk:=.s 100400
def Jfm:List (Nat×SkO):=[(100400,Hu)]
def Qmb:Sk:=.s 100300
def Jfn:List (Nat×SkO):=[(100200,Hu)]
def Q7r:Sk:=.s 100500
def Jk0:Shp:=⟨[(0,.d (.sl .i))],[]⟩
def Jk1:Shp:=sD [Ja,.i]
def Dl:SkO:=.row 56 Ja
def Qim:Shp:=⟨Qgm,[(1,Dl)]⟩
def Q7s:List (Nat×SkO):=[(100000,Dl)]
def Jfo:List (Nat×SkO):=[(100400,Dl)]
def Jk2:HT:=.a (.a Ja9)
def Q7t:Shp:=sD [Ja,Ja]
def Jk3:Shp:=sD [Ja,.bool]
def Qfm:Hn:=.nl 7 Vq
def Jfp:Shp:=sD [Zz]
def Ul:SkO:=.row 58 Yl
def Qav:SkO:=.row 53 V7
def Qaw:SkO:=.row 177 Yn
def Jk4:List (Nat×SkO):=[(1,Ul),(2,Qav),(3,Qaw)]
def Q00:Shp:=⟨[(0,Ja8)],Jk4⟩
def Q7u:HT:=.e 3 Mx
def Qus:List (Nat×Sk):=[(3,Qa8)]
def Qcn:Sk:=.s 100101
def Qin:Hn:=.n 4 .done
def Jk5:Shp:=sD [.sl J0]
def Jfq:Hn:=.call 0 Q44
def Jk6:Sk:=.d (.sl J0)
def Jk7:SkO:=.row 34 J0
def Jk8:HT:=.a (.a (.a (.a (.a (.a (.a (.tl Hm)))))))
def Jfr:List (Nat×Sk):=[(5,Rz),(10,zs3)]
def Qfn:Sk:=.p 100300 []
def Jfs:Sk:=.p 100301 []
def Q7v:SkO:=.var 153 (.ag (sL [zs3,zs3,zs3,Ya,.ns,.ns,zs7,zs7]))
def Qut:Shp:=sD [.sl Jt,.i]
def Qmc:SkO:=.row 269 Vh
def Q01:Sk:=.p 100001 []
def Jft:Sk:=.d Vg
def Jfu:SkO:=.var 153 Jft
def Jfv:Sk:=.p 100201 []
def Q7w:Hn:=.nl 9 Vq
def Jk9:Shp:=sD [Vh,Vh]
def Jla:List (Nat×Sk):=[(7,Rz),(13,zs3)]
def Jlb:HT:=.a (.a (.a (.a (.a (.tl Qsp)))))
def Q7x:HT:=.a (.a Jlb)
def Q7y:SkO:=.row 140 B5
def Qco:Sk:=.d Ja
def Jfw:SkO:=.var 56 Qco
def Q7z:Shp:=sD [.sl Jt,.i,.i]
def Jlc:SkO:=.var 140 (.ag (sL [Qco,Ya,.ns,zs7,zs7]))
def Jfx:List (Nat×Sk):=[(6,Qkm),(7,zs7)]
def Ak:Sk:=.d B5
def Q02:SkO:=.map .i V2
def Qmd:SkO:=.map .i .bool
def Qax:SkO:=.map .i .i
def Jld:Sk:=.d (.sl Jt)
def N6:SkO:=.var 3 zs3
def Gj:Sk:=.p 5000 []
def Q70:Sk:=.m 5001
def Quu:Sk:=.m 5002
def Q71:Sk:=.m 5003
def Q72:Sk:=.m 5004
def Q73:Sk:=.m 5005
def Qio:Sk:=.s 5006
def Qq2:Sk:=.s 5007
def Jfy:List (Nat×SkO):=[(5000,.var 327 (.ag (sL [Q70,Quu,Q71,Q72,Q73,Qio,Qq2]))),(5001,Q02),(5002,.map .i Vg),(5003,Qmd),(5004,.map .str .i),(5005,Qax),(5006,Hu),(5007,Hu)]
def Jfz:List (Nat×SkO):=[(5004,.map .str .i)]
def Qay:List (Nat×Sk):=[(0,Gj)]
def Jle:Hn:=.fz 5006 (.dt 5000 .done)
def Jlf:Shp:=⟨[(0,.ag (sL [Ry,Q0u]))],[(1,Q42),(2,Qss)]⟩
def Jf0:SkO:=.mapC .i (.sl 3 .i)
def Q03:Sk:=.s 100301
def Jf1:Sk:=.s 100302
def Quv:Sk:=.p 100400 []
def Q74:Sk:=.s 100401
def Jlg:List (Nat×Sk):=[(6,R0),(15,zs3)]
def Jlh:SkO:=.var 142 (.ag (sL [zs3,zs3,zs3,zs7,zs7,.ns]))
def Bq:Sk:=.d V2
def Hv:Sk:=.d Vx
def Br:Sk:=.d Zz
def Ub:Sk:=.d J0
def Qq3:Sk:=.s 5001
def N7:Sk:=.s 5002
def R2:Sk:=.s 5003
def Qaz:Sk:=.s 5004
def Qme:Sk:=.s 5005
def Jli:Sk:=.ag (sL [Ub,zs3,Ya,zs3,Ya,Qq2,.s 5008,zs3,zs3,zs3,.s 5009,zs3,zs3])
def Bs:SkO:=.row 95 Uc
def Wp:SkO:=.row 98 Vw
def He:SkO:=.row 102 Gy
def Fi:SkO:=.row 113 Y9
def Ud:SkO:=.row 60 Qd7
def Ue:SkO:=.row 69 I3
def Ur:SkO:=.row 116 Tc
def Qip:List (Nat×Sk):=[(0,zs3)]
def Q04:Sk:=.ag (sL [Ya,zs3,zs7,Ry,Q0u,.s 3,.s 4])
def Jlj:Sk:=.ag (sL [Ub,zs3,Ya,zs3,Ya,.s 5,.s 6,zs3,zs3,zs3,.s 7,zs3,zs3])
def Jlk:SkO:=.var 144 (.ag (sL [Hv,Br,Ub,.ag (sL [Qco,Ya,Jn0,zs7,zs7]),.ag (sL [zs3,zs3,zs3,zs7,zs7,.d (.sl .i)]),Q04,zs3,Jlj]))
def Jll:HT:=.e 3 (.f 3 3 Mx)
def Is:Sk:=.p 5001 []
def Qmf:Sk:=sL [Gj]
def Qmg:SkO:=.var 44 zs3
def Jlm:Shp:=sD [.sl Kk]
def Q75:SkO:=.row 100 Gw
def Q76:SkO:=.row 111 Kl
def Jf2:List (Nat×SkO):=[(1,Bs),(2,Wp),(3,He),(4,Fi)]
def Jln:List (Nat×SkO):=[(100000,.var 76 (.ag (sL [Ya,zs3,zs7,Qqz,.ns,.ns,.ns]))),(100001,Bs)]
def Jlo:Exs:=[(.x 0,⟨Qus,[(100100,.var 76 (.ag (sL [Ya,zs3,zs7,Qcn,.ns,.ns,.ns]))),(100101,Bs)]⟩)]
def Jlp:List (Nat×SkO):=[(100200,.var 76 (.ag (sL [Ya,zs3,zs7,Q0v,Jjj,.ns,.ns]))),(100201,Bs),(100202,Wp)]
def Jlq:Exs:=[(.x 2,⟨[(3,Qfn)],[(100300,.var 76 (.ag (sL [Ya,zs3,zs7,Q03,Jf1,.ns,.ns]))),(100301,Bs),(100302,Wp)]⟩)]
def Jlr:List (Nat×SkO):=[(100400,.var 76 (.ag (sL [Ya,zs3,zs7,Q74,.s 100402,.s 100403,.ns]))),(100401,Bs),(100402,Wp),(100403,He)]
def Jls:List (Nat×Sk):=[(3,.p 100500 [])]
def Jf3:Sk:=.s 100501
def Jlt:Exs:=[(.x 4,⟨Jls,[(100500,.var 76 (.ag (sL [Ya,zs3,zs7,Jf3,.s 100502,.s 100503,.ns]))),(100501,Bs),(100502,Wp),(100503,He)]⟩)]
def Jf4:Sk:=.s 100601
def Jlu:List (Nat×SkO):=[(100600,.var 76 (.ag (sL [Ya,zs3,zs7,Jf4,.s 100602,.s 100603,.s 100604]))),(100601,Bs),(100602,Wp),(100603,He),(100604,Fi)]
def Jlv:List (Nat×Sk):=[(3,.p 100700 [])]
def Jf5:Sk:=.s 100701
def Jlw:Exs:=[(.x 6,⟨Jlv,[(100700,.var 76 (.ag (sL [Ya,zs3,zs7,Jf5,.s 100702,.s 100703,.s 100704]))),(100701,Bs),(100702,Wp),(100703,He),(100704,Fi)]⟩)]
def Jf6:Exs:=[(.n,Qik)]
def Jlx:List (Nat×SkO):=[(5000,.var 95 (.d Uc))]
def Qmh:Sk:=.d (.sl Uc)
def Jly:Shp:=⟨[(0,Qmh),(1,.f 164 Qmf)],Jlx⟩
def Quw:SkO:=.map .str .str
def Q77:Sk:=.m 100000
def Q78:Sk:=.m 100100
def Q05:Hn:=.nl 1 Jjd
def Jlz:An:=.two (.reg Q44) .nil
def Jf7:Sk:=.ag (sL [Ub,zs3,Ya,zs3,Ya,Qme,Qio,zs3,zs3,zs3,Qq2,zs3,zs3])
def Jl0:Sk:=.ag (sL [Ub,zs3,Ya,zs3,Ya,.s 4,.s 5,zs3,zs3,zs3,.s 6,zs3,zs3])
def Jf8:SkO:=.var 144 (.ag (sL [Hv,Br,Ub,Ak,Bq,.ag (sL [Ya,zs3,zs7,Qmh,Ry,Q0u,.s 3]),zs3,Jl0]))
def Jl1:Shp:=sD [.sl Yl]
def Jl2:HT:=.b 1 (.c 1 Qqy)
def Jf9:Shp:=⟨[(11,zs3)],[]⟩
def Jl3:Shp:=⟨[(0,.m 1)],[(1,Qax)]⟩
def Q79:Shp:=sD [.i,.i,.i]
def Jga:Shp:=sD [V7]
def Qmi:Shp:=sD [V7,.i]
def Q06:SkO:=.var 53 (.d V7)
def Jgb:Hn:=.n 2 (.call 4 .done)
def Q8a:Shp:=sD [Yl]
def Jgc:Shp:=⟨[(0,.ag (sL [zs3,zs3,Ya,zs3,zs3,Ry,Qco,zs3,zs3,zs3,zs7]))],[(1,Qqx)]⟩
def Qiq:Shp:=⟨[(9,zs3)],[]⟩
def Q07:SkO:=.var 9 Ya
def Q8b:Sk:=.d (.sl Ja)
def Jl4:Exs:=[(.x 0,⟨[(7,Qil)],[(100200,Dl)]⟩)]
def Jl5:Exs:=[(.n,⟨[(7,Qej)],[(100100,Dl)]⟩)]
def Q8c:SkO:=.row 231 Uf
def Qux:SkO:=.mapC .str (.mp .i .bool)
def Jgd:Shp:=⟨[(25,zs7)],[]⟩
def Jge:Hn:=.nl 1 Qm1
def Q8d:SkO:=.var 340 (.d Qd8)
def Qmj:SkO:=.row 354 Vy
def Jl6:Shp:=⟨[(0,Q8b),(1,zs3),(2,Gj)],[(5000,.var 352 Qq3),(5001,Qmj)]⟩
def Jl7:Shp:=⟨[],[(5000,.var 352 Ry),(1,Qmj)]⟩
def Q8e:SkO:=.var 250 (.d (.arr 2 .i))
def Jl8:List (Nat×SkO):=[(5000,Q07),(5001,N6)]
def Qir:SkO:=.row 80 Ym
def Quy:SkO:=.row 82 K1
def Q8f:SkO:=.row 235 H1
def Jgf:Shp:=sD [Yl,Yl]
def Qa0:SkO:=.map Ut .bool
def Jl9:HT:=.k 0 [] [] [] [] Mx
def Jma:HT:=.a (.a (.a (.a (.a (.a (.a (.a (.a (.a (.a (.a (.a (.a (.tl Tx))))))))))))))
def Jmb:List (Nat×SkO):=[(5000,.var 98 (.d Vw))]
def Jmc:Sk:=.d (.sl Vw)
def Jmd:Shp:=⟨[(0,Jmc),(1,.f 194 Qmf)],Jmb⟩
def Jme:List (Nat×SkO):=[(5000,N6),(5001,N6)]
def Jmf:Shp:=⟨[(0,.d (.sl Kk)),(1,.f 196 (sL [Gj,Is]))],Jme⟩
def Quz:SkO:=.row 308 Qgb
def Jmg:SkO:=.var 102 (.ag (sL [zs3,Ya,Ya,zs3,.ns]))
def Jgg:List (Nat×SkO):=[(5000,Q75)]
def Qq4:Shp:=sD [.i,.bool]
def Jmh:Shp:=sD [J5,.sl .i,J0,.i]
def Jmi:List (Nat×Sk):=[(0,Ry),(1,zs3),(2,zs3)]
def Jmj:HT:=.a (.a (.a Qur))
def Qu0:Sk:=.d J5
def Jmk:SkO:=.var 144 (.ag (sL [Hv,Ja8,Ub,Ak,Bq,Qu0,zs3,Jl0]))
def Jml:Sk:=.d (.sl Yn)
def Q8g:Sk:=.ag (sL [.d (.sl Yl),.d (.sl V7),Jml])
def Q8h:Sk:=.ag (sL [Ub,zs3,Ya,zs3,Ya,Ry,Q0u,zs3,zs3,zs3,.s 3,zs3,zs3])
def Jgh:Shp:=⟨Qay,[(5000,.var 144 (.ag (sL [Hv,Br,Ub,Ak,Bq,Qu0,zs3,.ag (sL [Ub,zs3,Ya,zs3,Ya,Qq3,N7,zs3,zs3,zs3,R2,zs3,zs3])]))),(5001,Ud),(5002,Ue),(5003,Ur)]⟩
def Jgi:Shp:=sD [Yn]
def Q08:SkO:=.var 177 (.d Yn)
def Jmm:SkO:=.var 184 (.d Rc)
def Jmn:Shp:=⟨[(0,zs3),(1,Gj),(2,Is)],[(5000,.var 111 (.d Kl)),(5001,Jmm)]⟩
def Q09:Shp:=sD [Kl,Rc]
def Jmo:HT:=.b 2 (.c 2 (.a (.a (.c 3 (.k 2 [] [] [] [] Jmj)))))
def Jmp:Shp:=⟨[(8,zs3),(9,zs3)],[]⟩
def Jgj:SkO:=.var 144 (.ag (sL [Hv,Br,Ub,Ak,Bq,Qu0,zs3,Q8h]))
def Jmq:Shp:=⟨Qay,[(5000,.var 138 Is),(5001,.var 144 (.ag (sL [Hv,Br,Ub,Ak,Bq,Qu0,zs3,.ag (sL [Ub,zs3,Ya,zs3,Ya,N7,R2,zs3,zs3,zs3,Qaz,zs3,zs3])]))),(5002,Ud),(5003,Ue),(5004,Ur)]⟩
def Jmr:Shp:=⟨Qip,[(5001,Jgj),(1,Ud),(2,Ue),(3,Ur)]⟩
def Jms:List (Nat×SkO):=[(5000,.var 138 Is),(5001,.var 144 (.ag (sL [Hv,Br,Ub,Ak,Bq,Qu0,zs3,.ag (sL [Ub,zs3,Ya,zs3,Ya,N7,R2,zs3,zs3,zs3,Qaz,zs3,zs3])]))),(5002,Ud),(5003,Ue),(5004,Ur),(5005,Qmg)]
def Jmt:Shp:=⟨[],[(5001,Jgj),(5005,Qmg),(1,Ud),(2,Ue),(3,Ur)]⟩
def Jgk:SkO:=.row 49 Lz
def Jmu:Shp:=⟨[(0,Br),(1,Ry)],[(1,Jgk)]⟩
def Jmv:Shp:=sD [Vx,.sl J0]
def Jgl:List (Nat×Sk):=[(3,R0),(4,zs3)]
def Qq5:SkO:=.row 104 Jt
def Qq6:SkO:=.row 76 J5
def Qq7:SkO:=.row 128 C5
def Jgm:SkO:=.row 85 V6
def Hw(N n:Nat):Con:=⟨30,zs1,[zs2],fun(x0,x1)=>Yd N n x0 x1,[]⟩
theorem Fj(N:Nat):∀n,KO (Hw N n)
 | 0=>⟨Fu fun _=>rfl,Iq func30 rfl⟩
 | n+1=>have ih:=Fj N n; kF N [fun _=>⟨_,ih⟩] [(16,.lp [1,2] [2] ⟨[(5,zs3),(6,zs3)],[]⟩ [(.x 0,zs4)])] func30
def Qcp(N:Nat):V:=⟨Hw N N,Fj N N⟩
def Qcq(N:Nat):V:=⟨⟨20,(sD [J5,.i]),[zs5],u2 (Eb N),[]⟩,kF N [Qcp] [(14,.lp [1,2] [2] zs4 zs8),(35,.lp [1,2] [2] zs9 [(.x 2,zs6),(.r,⟨[(4,zs7)],[]⟩)]),(56,.lp [1,2] [2] Qqv [(.x 4,zs6),(.r,⟨[(4,zs7)],[]⟩)]),(77,.lp [1,2] [2] Qik Jpf)] func20⟩
def Iu(N:Nat):V:=⟨⟨56,zs2,[(sD [.arr 5 .bool])],Wa N,[]⟩,kF N [] [(25,.jn [2,3] [2] [(.n,⟨[(13,zs7)],[]⟩)]),(35,.jn [2,3] [2] [(.n,⟨[(17,zs7)],[]⟩)]),(49,.jn [2] [2] [(.n,Jns)])] func56⟩
def Qis(N:Nat):V:=⟨⟨85,zs2,[zs5],H2 N,[]⟩,kF N [] [] func85⟩
def Kb(N:Nat):V:=⟨⟨36,Qm0,[zs5],Vi N,[]⟩,kF N [] [(4,.rg (.n 9 (.sp 12 4 [0] [] ⟨[(16,zs7)],[]⟩ Tx Tx (.n 1 (.sp 17 4 [0] [] ⟨[(21,zs7)],[]⟩ Tx Tx .done))))),(14,.lp [0] [] Qcm Qqw),(24,.rg (.n 5 (.sp 32 5 [3] [] Jnt Hm Hm (.n 1 (.sp 38 11 [3] [] Jjb (.nl 5 (.sp 43 5 [3,38] [] Jnu Jnv Jnv Vq)) (.nl 10 Vq) (.n 1 (.sp 50 5 [3] [] Jnw Hm Hm .done)))))))] func36⟩
def Dm(N:Nat):V:=⟨⟨86,Qm0,[zs5],K9 N,[]⟩,kF N [] [(6,.lp [0] [] Qcm Qqw),(16,.rg (.n 5 (.sp 14 5 [3] [] Jfa Hm Hm .done)))] func86⟩
def Qcr(N:Nat):V:=⟨⟨87,(sD [Jt]),[zs5],Ec N,[]⟩,kF N [] [] func87⟩
def Qek(N:Nat):V:=⟨⟨55,(sD [Jt,.i]),[zs2],u2 (Fx N),[]⟩,kF N [Iu,Qis,Kb,Dm,Qcr] [(30,.rg (.n 9 (.sp 37 9 [2,5] [2,5] ⟨[(46,zs7)],[]⟩ Qkl Jjc (.n 1 (.sp 47 9 [2,5] [2,5] ⟨[(56,zs7)],[]⟩ Qkl Jjc (.n 1 (.sp 57 9 [2,5] [2,5] ⟨[(66,zs7)],[]⟩ Qkl Jjc (.n 1 (.sp 67 9 [2,5] [2,5] ⟨[(76,zs7)],[]⟩ Qkl Jjc .done))))))))),(38,.rg (.n 3 (.sp 79 5 [2,5] [2,5] ⟨[(84,zs7)],[]⟩ Jfb Hm (.n 1 (.sp 85 9 [2,5] [2,5] ⟨[(94,zs7)],[]⟩ Qkl (.nl 3 (.sp 88 5 [2,5,85] [] ⟨[(93,zs7)],[]⟩ (.nl 2 (.call 1 (.nl 2 .done))) Jnv Vq)) .done))))),(46,.rg (.n 3 (.sp 97 5 [2,5] [2,5] ⟨[(102,zs7)],[]⟩ (.nl 2 Jje) Hm Jjf))),(54,.rg (.n 3 (.sp 120 5 [2,5] [2,5] ⟨[(125,zs7)],[]⟩ Jpg Hm .done))),(62,.rg (.n 3 (.sp 128 4 [2] [2,5] ⟨[(132,zs7)],[]⟩ (.nl 1 (.call 4 Qsp)) Tx .done)))] func55⟩
def Al(N:Nat):V:=⟨⟨59,Jjg,[zs2],u2 (Zr N),[]⟩,kF N [] [(6,.lp [1,2] [2] zs4 Qsq)] func59⟩
def E4(N:Nat):V:=⟨⟨60,Jjg,[zs2],u2 (Kn N),[]⟩,kF N [] [(6,.lp [1,2] [2] zs4 Qsq)] func60⟩
def Dn(N:Nat):V:=⟨⟨89,Jjg,[zs5],u2 (Xa N),[]⟩,kF N [] [(6,.lp [1,2] [2] zs4 zs8)] func89⟩
def Qel(N:Nat):V:=⟨⟨88,Jjg,[zs5],u2 (Fy N),[]⟩,kF N [Dn] [(6,.lp [1,2] [2] zs4 zs8),(16,.jn [5] [] [(.n,⟨[(31,zs7)],[]⟩)]),(16,.an (.dc 16 [13,14,15,16,17,18,19,20,21,22,23,24,25,26,27,28] [] [2] (.b 2 (.c 2 (.a (.a (.a (.a (.a (.a (.a (.so 21 (.c 2 (.b 2 (.c 2 (.a (.a (.a (.a (.tl Jfc)))))))) Jpi))))))))))))] func88⟩
def Pj(N:Nat):V:=⟨⟨57,Jnx,[zs2],u2 (Xb N),[]⟩,kF N [Al,E4,Qel] [(38,.rg (.n 4 (.sp 26 6 [2,3,5] [2,3] ⟨[(32,zs7)],[]⟩ Jjh Qsr .done))),(46,.rg (.n 4 (.sp 36 5 [2,3,5] [2,3] Jfd (.nl 3 (.call 2 Vq)) Hm (.n 1 (.sp 42 13 [2,3,5] [2,3] Jnw (.nl 12 Vq) (.nl 4 (.sp 46 8 [2,5,42] [] ⟨[(54,zs7)],[]⟩ (.nl 8 .done) (.nl 8 .done) Vq)) .done)))))] func57⟩
def Mz(N:Nat):V:=⟨⟨91,Q0s,[zs5],u2 (Uu N),[]⟩,kF N [] [(6,.lp [0,1] [] zs4 zs8)] func91⟩
def Qcs(N:Nat):V:=⟨⟨90,(sD [U4,.str]),[zs5],u2 (Ed N),[]⟩,kF N [Mz] [(6,.lp [1,2] [2] zs4 zs8)] func90⟩
def Qct(N:Nat):V:=⟨⟨58,Jnx,[zs2],u2 (Ee N),[]⟩,kF N [E4,Dn,Qcs,Mz] [(23,.jn [] [2,3,6] Jpj),(67,.jn [3,6,23] [] Jpk),(81,.jn [3,6] [] [(.n,⟨[(62,zs7)],[]⟩)])] func58⟩
def Qcu(N:Nat):V:=⟨⟨31,(sD [U4,Jt,.i]),[zs2],u3 (Ef N),[]⟩,kF N [Qek,Iu,Pj,Qct] [] func31⟩
def Qem(N:Nat):V:=⟨⟨92,Q0s,[Q41],u2 (Wb N),[]⟩,kF N [] [(6,.lp [0,1] [] zs4 [(.x 0,zs4)]),(9,.rg (.n 5 (.sp 11 7 [5] [] Q0t Tz Tz .done)))] func92⟩
def T0(N:Nat):V:=⟨⟨93,Q0s,[Q41],u2 (Zt N),[]⟩,kF N [] [(8,.lp [0,1] [] ⟨[(5,Rz),(6,zs3)],[(100000,Qqx)]⟩ Jny),(16,.jn [6] [] Jnz)] func93⟩
def T1(N:Nat):V:=⟨⟨61,Jpl,[(sD [Vg])],u2 (Wz N),[]⟩,kF N [Qem,T0] [(3,.jn [4] [3,4] [(.n,⟨[(2,R0)],[(100000,Jn1)]⟩)])] func61⟩
def Qcv(N:Nat):V:=⟨⟨32,Jnx,[⟨[(0,Ja8)],[(1,Q42),(2,Qss),(3,Hu)]⟩],u2 (Eg N),[]⟩,kF N [Al,E4,T1] [(3,.an (.dc 14 [7,8,9,10,11,12,13,14,15,16,17,18,19,5] [2] [] (.e 7 (.b 2 (.c 2 (.g [7] [] [10] [10] (.e 11 (.b 2 (.c 2 (.g [11] [] [14] [14] (.e 15 (.b 2 (.c 2 (.g [15] [] [18] [18] (.g [] [] [] [10,14,18] (.e 5 Mx)))))))))))))))),(5,.jn [] [2,3] [(.n,⟨[(4,Qa8),(5,Jn2)],[(100100,.var 121 (.ag (sL [.ns,.ns,.ns]))),(100101,.var 121 (.ag (sL [Jfe,Jff,.s 100104]))),(100102,Q42),(100103,Qss),(100104,Hu)]⟩),(.r,⟨[(4,Qkm)],[(100200,.var 121 (.ag (sL [Q0v,Jjj,Jn3]))),(100201,Q42),(100202,Qss),(100203,Hu)]⟩)]),(15,.an (.dc 6 [66,67,68,69,70,71] [5] [2,3] (.b 5 (.d 5 10 (.c 2 (.b 3 (.c 3 (.k 0 [] [] [] [] Qqy)))))))),(21,.jn [2,3,4,5] [4,5,10,14,18] Jpm),(33,.an (.dc 10 [26,27,28,29,30,31,32,33,34,35] [5,14] [3] (.b 5 (.d 5 14 (.a (.b 5 (.d 5 14 (.a (.d 14 14 (.c 14 (.c 3 (.k 2 [] [] [] [] Ja9))))))))))))] func32⟩
def Qcw(N:Nat):V:=⟨⟨21,(sD [.sl Jt]),[My],Eh N,[]⟩,kF N [Qcu,Qcv] [(18,.lp [0] [] ⟨[(4,R0),(5,zs3),(6,zs3)],[(100000,.var 121 Jn5),(100001,Q42),(100002,Qss),(100003,Hu)]⟩ Jpn),(28,.an (.dr 6 Q0w Qm1)),(38,.an (.dr 5 Jjl Jfg))] func21⟩
def Qcx(N:Nat):V:=⟨⟨94,(sD [.sl .str]),[zs2],Ei N,[]⟩,kF N [Kb] [(14,.lp [0] [] Qcm Qm2),(35,.lp [0] [] Q40 Jn6),(45,.an (.dr 10 Jjm .done))] func94⟩
def Qa9(N:Nat):V:=⟨⟨62,(sD [K1]),[zs2],Hg N,[]⟩,kF N [Qcx] [] func62⟩
def Qgn(N:Nat):V:=⟨⟨33,Jpo,[zs2],B6 N,[]⟩,kF N [Kb,Qa9] [(46,.lp [1] [1] Qcm Qm2)] func33⟩
def Qcy(N:Nat):V:=⟨⟨22,(sD [.sl Ym]),[zs2],Ej N,[]⟩,kF N [Qgn] [(14,.lp [0] [] Qcm Qm2),(34,.an (.dr 44 (.n 3 (.sp 24 41 [3] [] ⟨[(65,zs7)],[]⟩ (.nl 13 (.sp 37 27 [3,24] [] ⟨[(64,zs7)],[]⟩ (.nl 27 .done) (.nl 13 (.sp 50 13 [3,24,37] [] ⟨[(63,zs7)],[]⟩ Jjn Jjn (.nl 1 .done))) Vq)) (.nl 40 Vq) .done)) .done))] func22⟩
def Qcz(N:Nat):V:=⟨⟨95,Jn7,[zs5],Xc N,[]⟩,kF N [] [] func95⟩
def Qc0(N:Nat):V:=⟨⟨96,Jn7,[zs5],Ek N,[]⟩,kF N [] [] func96⟩
def Iv(N:Nat):V:=⟨⟨63,Qm0,[zs5],Wc N,[]⟩,kF N [Qcz,Qc0] [(4,.rg (.n 9 (.sp 12 5 [0] [] ⟨[(17,zs7)],[]⟩ Hm Ql9 .done))),(14,.lp [0] [] Qcm Qqw),(24,.rg (.n 3 (.call 0 (.n 2 (.sp 29 6 [3] [] Jfh Jjh Qsr (.n 1 (.sp 36 5 [3] [] Jfd Hm Hm .done)))))))] func63⟩
def Iw(N:Nat):V:=⟨⟨98,Qm0,[zs5],Wd N,[]⟩,kF N [] [(4,.rg (.n 9 (.sp 14 4 [0] [] Q0t Tx Tx (.n 1 (.sp 19 4 [0] [] ⟨[(23,zs7)],[]⟩ Tx Tx .done))))),(14,.lp [0] [] Qcm Qqw),(24,.an (.dr 22 (.n 5 (.sp 34 5 [3] [] ⟨[(39,zs7)],[]⟩ Hm Hm (.n 5 (.sp 44 5 [3,39] [] Jjb Hm Hm Q44)))) .done)),(26,.rg (.n 7 (.sp 56 5 [3] [] ⟨[(61,zs7)],[]⟩ Hm Hm .done)))] func98⟩
def T2(N:Nat):V:=⟨⟨144,(sD [.sl Uc,.i,.i]),[zs5],u3 (W0 N),[]⟩,kF N [] [(6,.lp [0,1,2] [] Qqv Jfi),(18,.lp [7] [] Qik [(.x 2,zs6),(.r,⟨[(6,zs7)],[]⟩)]),(34,.an (.dr 17 (.n 17 .done) .done))] func144⟩
def Qen(N:Nat):V:=⟨⟨97,(sD [.sl Uc,.i]),[zs2],u2 (Fz N),[]⟩,kF N [Iw,Dm,T2] [(16,.lp [0,1,5] [5] zs9 Qsq),(26,.an (.dr 8 Qma .done)),(53,.lp [0,1,5] [5] Qqv [(.x 2,zs6),(.r,Q40)])] func97⟩
def Qc1(N:Nat):V:=⟨⟨64,Jku,[zs2],El N,[]⟩,kF N [Qen] [(14,.lp [0] [] Qcm Qm2)] func64⟩
def Qc2(N:Nat):V:=⟨⟨99,(sD [.sl Kk,.bool]),[zs2],u2 (Em N),[]⟩,kF N [] [(38,.lp [0] [] zs4 Qsq)] func99⟩
def Qc3(N:Nat):V:=⟨⟨65,Jkv,[zs2],Eo N,[]⟩,kF N [Iw,Qc2] [(22,.lp [0] [] Qcm Qm2),(43,.lp [3] [] Q40 Jn6),(53,.an (.dr 11 (.n 11 .done) .done))] func65⟩
def Qeo(N:Nat):V:=⟨⟨100,Jkw,[zs5],u2 (F0 N),[]⟩,kF N [] [(6,.lp [1,2] [2] zs4 zs8)] func100⟩
def Qep(N:Nat):V:=⟨⟨101,Jkw,[zs5],u2 (F2 N),[]⟩,kF N [] [(6,.lp [1,2] [2] zs4 zs8)] func101⟩
def Do(N:Nat):V:=⟨⟨38,Jkx,[zs2],Xd N,[]⟩,kF N [] [(24,.lp [0] [] ⟨[(3,zs3),(4,zs3)],[]⟩ Qm2)] func38⟩
def Qc4(N:Nat):V:=⟨⟨66,Q0x,[zs2],Ep N,[]⟩,kF N [Qeo,Qep,Do] [(14,.lp [1] [1] Qcm Qm2),(35,.rg (.n 3 (.call 0 (.n 2 (.sp 35 6 [3,4] [4] Jfd Qsr Jjh .done)))))] func66⟩
def Qc5(N:Nat):V:=⟨⟨233,zs2,[zs2],Er N,[]⟩,kF N [] [] func233⟩
def Qgo(N:Nat):V:=⟨⟨258,Q0s,[zs5],u2 (Gz N),[]⟩,kF N [] [(6,.lp [0,1] [] zs4 zs8)] func258⟩
def Hx(N:Nat):V:=⟨⟨234,Qm0,[zs2],Um N,[]⟩,kF N [Qgo] [] func234⟩
def Qgp(N:Nat):V:=⟨⟨203,Qq0,[zs2],B7 N,[]⟩,kF N [Qc5,Hx] [(4,.an (.dc 6 [3,4,5,6,7,8] [1] [] (.b 1 (.c 1 (.k 0 [] [] [] [] (.b 1 (.c 1 Qur))))))),(28,.rg (.n 4 (.sp 35 5 [1] [1] ⟨[(40,zs7)],[]⟩ Jfb Hm .done)))] func203⟩
def Qba(N:Nat):V:=⟨⟨204,(sD [Kl,.sl .i]),[zs2],u2 (Hh N),[]⟩,kF N [Hx] [(41,.an (.dr 7 Q7q .done)),(48,.jn [] [2] Jpj),(52,.jn [1,30] [] [(.n,Jfh)]),(66,.jn [1,30] [] Jky),(80,.jn [1] [] [(.n,Jjb)])] func204⟩
def Bt(N n:Nat):Con:=⟨145,zs1,[My],fun(x0,x1)=>Vj N n x0 x1,[]⟩
theorem Dp(N:Nat):∀n,KO (Bt N n)
 | 0=>⟨Fu fun _=>rfl,Iq func145 rfl⟩
 | n+1=>have ih:=Dp N n; kF N [Qgp,fun _=>⟨_,ih⟩,Qba] [(26,.lp [1,2] [2] Jkz [(.x 0,⟨[(7,Qej)],[(100100,Hu)]⟩),(.r,Jfk)])] func145
def Qit(N:Nat):V:=⟨Bt N N,Dp N N⟩
def Qeq(N:Nat):V:=⟨⟨102,Qq0,[My],F3 N,[]⟩,kF N [Qit] [] func102⟩
def Pk(N:Nat):V:=⟨⟨67,Q0x,[zs2],Xe N,[]⟩,kF N [Iv,Qeq] [(14,.lp [1] [1] Qcm Qm2),(37,.lp [3,4] [4] zs4 Jn6),(47,.an (.dr 9 (.n 9 .done) .done))] func67⟩
def Qbb(N:Nat):V:=⟨⟨34,Q0x,[zs2],Hi N,[]⟩,kF N [Iv,Qc1,Qc3,Qc4,Pk] [(21,.jn [1] [1] [(.n,Qcm)]),(27,.jn [1] [1] [(.n,Qcm)]),(33,.jn [] [1] [(.n,Qcm)])] func34⟩
def Qc6(N:Nat):V:=⟨⟨35,(sD [J5,J5]),[zs2],u2 (Es N),[]⟩,kF N [] [] func35⟩
def Qc7(N:Nat):V:=⟨⟨23,(sD [.sl J5]),[zs2],Et N,[]⟩,kF N [Qbb,Qc6] [(14,.lp [0] [] Qcm Qm2),(34,.jn [3] [] [(.n,⟨[(36,zs7)],[]⟩)]),(34,.an (.dc 12 [22,23,24,25,26,27,28,29,30,31,32,33] [] [] (.a (.a (.a (.so 24 (.a (.a (.a (.a (.a (.a (.a (.a (.a (.tl Jjd)))))))))) (.a (.a Jpi))))))))] func23⟩
def Qc8(N:Nat):V:=⟨⟨24,(sD [.sl C5]),[zs5],Eu N,[]⟩,kF N [Kb] [(6,.lp [0] [] Qcm Qqw),(26,.an (.dr 35 (.n 3 (.sp 41 32 [3,4] [4] ⟨[(73,zs7)],[]⟩ (.nl 10 (.sp 51 21 [3,4,41] [] ⟨[(72,zs7)],[]⟩ (.nl 21 .done) (.nl 10 (.sp 61 10 [3,4,41,51] [] ⟨[(71,zs7)],[]⟩ (.nl 10 .done) (.nl 10 .done) (.nl 1 .done))) Vq)) (.nl 31 Vq) .done)) .done))] func24⟩
def Gk(N:Nat):V:=⟨⟨37,Q0y,[zs5],U5 N,[]⟩,kF N [] [] func37⟩
def Qgq(N:Nat):V:=⟨⟨205,Q0z,[Jfl],u2 (G0 N),[]⟩,kF N [] [(10,.lp [0,1] [] ⟨[(5,Rz),(6,zs7),(7,zs3)],Jfj⟩ [(.x 0,⟨[(5,Qq1),(6,zs7)],Jfm⟩)]),(18,.jn [7] [] [(.n,⟨[(5,Qmb),(6,zs7)],[(100300,Hu)]⟩)]),(20,.jn [7] [] [(.n,⟨[(5,Qil),(6,zs7)],Jfn⟩)]),(21,.rg (.n 3 (.sp 16 7 [5,6,7] [100000] ⟨[(23,zs7)],[]⟩ Tz Tz .done))),(34,.jn [] [] [(.n,⟨[(5,Q7r)],[(100500,Hu)]⟩)])] func205⟩
def Qbc(N:Nat):V:=⟨⟨146,(sD [.sl .i,.sl Ja]),[(sD [.sl .i])],u2 (Ka N),[]⟩,kF N [Gk,Qgq] [(6,.lp [1] [] ⟨[(0,.d (.sl .i)),(5,zs3)],[]⟩ [(.x 0,Jk0)]),(14,.jn [5] [] [(.n,Jk0)]),(18,.an (.dc 12 [17,18,19,20,21,22,23,24,25,26,27,28] [] [] (.a (.a (.a (.a (.a (.a (.k 1 [] [] [12301] [12301] (.a (.a (.a (.a (.a (.tl Jfg)))))))))))))))] func146⟩
def R3(N:Nat):V:=⟨⟨206,Jk1,[zs5],u2 (X6 N),[]⟩,kF N [Gk] [] func206⟩
def Qiu(N:Nat):V:=⟨⟨147,(sD [.sl Ja,.i]),[zs5],u2 (H3 N),[]⟩,kF N [R3] [(6,.lp [0,1] [] zs4 zs8)] func147⟩
def Qbd(N:Nat):V:=⟨⟨103,(sD [.sl Ja,.sl Ja,.bool,.bool]),[Qim],u4 (Hj N),[]⟩,kF N [Qbc,Qiu] [(10,.lp [0,1,2,3,9] [] ⟨[(10,Rz),(11,zs3)],Q7s⟩ [(.x 0,⟨[(10,Q7r)],[(100500,Dl)]⟩)]),(18,.jn [11] [] [(.n,⟨[(10,Qq1)],Jfo⟩)]),(21,.rg (.n 5 (.call 1 (.n 2 (.sp 31 13 [10,11] [100000] ⟨[(44,zs7)],[]⟩ (.nl 12 Vq) (.nl 3 (.sp 34 9 [10,11,31] [] ⟨[(43,zs7)],[]⟩ (.nl 5 (.call 1 (.nl 3 .done))) (.nl 9 .done) Vq)) .done))))),(28,.an (.dr 15 (.n 3 (.sp 49 12 [10,11,12] [100000] ⟨[(61,zs7)],[]⟩ (.nl 11 Vq) (.nl 11 Vq) .done)) .done)),(31,.an (.dc 12 [72,73,74,75,76,77,78,79,80,81,82,83] [] [] (.b 100000 (.a (.a (.a (.a (.a (.a (.a (.a (.a Jk2))))))))))))] func103⟩
def Qbe(N:Nat):V:=⟨⟨68,(sD [.sl Ja,.sl Ja]),[Qim],u2 (Hk N),[]⟩,kF N [Qbd] [] func68⟩
def Pl(N:Nat):V:=⟨⟨39,Q7t,[Jk3],u2 (Xf N),[]⟩,kF N [Qbe] [] func39⟩
def Ng(N:Nat):V:=⟨⟨25,(sD [.sl V6]),[zs5],Ko N,[]⟩,kF N [Gk,Do,Pl] [(6,.lp [0] [] Qcm Qqw),(19,.rg (.n 19 (.sp 37 5 [3,4] [4] ⟨[(42,zs7)],[]⟩ Hm Ql9 (.n 1 (.sp 43 5 [3,4] [4] Jnu Hm Jfb Jjm))))),(28,.lp [3,4] [4] zs4 [(.x 2,zs6),(.r,⟨[(2,zs7)],[]⟩)])] func25⟩
def Qc9(N:Nat):V:=⟨⟨11,(sD [Vx,.i]),[zs5],u2 (Ev N),[]⟩,kF N [Qcq,Qcw,Qcy,Qc7,Qc8,Ng] [(14,.lp [1,2] [2] zs4 zs8),(35,.lp [1,2] [2] zs9 [(.x 2,zs6),(.r,⟨[(4,zs7)],[]⟩)]),(56,.lp [1,2] [2] Qqv [(.x 4,zs6),(.r,⟨[(4,zs7)],[]⟩)]),(77,.lp [2] [2] Qik Jpf),(87,.an (.dr 32 (.n 7 (.sp 111 7 [8] [] ⟨[(118,zs7)],[]⟩ Tz Tz (.n 1 (.sp 119 17 [8] [] ⟨[(136,zs7)],[]⟩ (.nl 16 Vq) (.nl 3 (.sp 122 13 [8,119] [] ⟨[(135,zs7)],[]⟩ Jjn Jjn Vq)) .done)))) .done)),(97,.rg (.n 3 (.sp 145 5 [2] [2] ⟨[(150,zs7)],[]⟩ (.nl 2 Jje) Hm (.n 1 (.sp 151 5 [2] [2] ⟨[(156,zs7)],[]⟩ Jpg Hm (.n 1 (.sp 157 4 [2] [2] ⟨[(161,zs7)],[]⟩ (.nl 2 (.call 4 Vq)) Tx (.n 1 (.sp 162 4 [2] [2] ⟨[(166,zs7)],[]⟩ (.nl 2 (.call 5 Vq)) Tx Vq)))))))))] func11⟩
def Qbf(N:Nat):V:=⟨⟨12,(sD [J0]),[zs5],Ih N,[]⟩,kF N [] [] func12⟩
def Qer(N:Nat):V:=⟨⟨13,zs2,[zs5],Nv N,[]⟩,kF N [] [] func13⟩
def Qes(N:Nat):V:=⟨⟨5,(sD [Vx,.sl J0,.i]),[zs5],u3 (We N),[]⟩,kF N [Qc9,Qbf,Qer] [(4,.rg (.n 5 (.sp 13 5 [1,2,3] [3] Q0t Hm Ql9 .done))),(14,.lp [1] [3] Qqv Jfi),(25,.rg (.n 4 (.call 1 (.n 2 (.sp 31 8 [7] [] ⟨[(39,zs7)],[]⟩ Qfm (.nl 5 Jje) (.n 1 (.sp 40 8 [7] [] Jnu Qfm Qfm (.n 1 (.sp 49 8 [7] [] ⟨[(57,zs7)],[]⟩ Qfm Qfm .done))))))))),(34,.lp [7] [] Qik [(.x 2,zs6),(.r,⟨[(6,zs7)],[]⟩)]),(44,.an (.dr 11 (.n 11 .done) .done))] func5⟩
def T3(N:Nat):V:=⟨⟨14,(sD []),[(sD [Vx])],fun _=>Di N,[]⟩,kF N [] [] func14⟩
def Qm3(N:Nat):V:=⟨⟨26,Jfp,[Q00],Oq N,[]⟩,kF N [] [(3,.an (.dc 8 [6,7,8,9,10,11,12,3] [1] [] (.b 1 (.c 1 (.e 8 (.b 1 (.c 1 (.e 11 (.g [] [] [] [8,11] Q7u))))))))),(8,.lp [2,14,15] [1,2] ⟨[(3,R0),(16,zs3)],[(100000,.var 39 Jn5),(100001,Ul),(100002,Qav),(100003,Qaw)]⟩ [(.x 0,⟨Qus,[(100100,.var 39 (.ag (sL [Qcn,Jfe,Jff]))),(100101,Ul),(100102,Qav),(100103,Qaw)]⟩)]),(21,.rg (.n 3 (.fz 22 Qin)))] func26⟩
def Qw6(N:Nat):V:=⟨⟨41,(sD [J0]),[(sD [I4])],B8 N,[]⟩,kF N [] [] func41⟩
def Qkn(N:Nat):V:=⟨⟨40,(sD [I4,I4]),[zs5],u2 (W7 N),[]⟩,kF N [] [] func40⟩
def Ix(N n:Nat):Con:=⟨27,Jk5,[Jk5],fun x0=>Zk N n x0,[]⟩
theorem M2(N:Nat):∀n,KO (Ix N n)
 | 0=>⟨Fu fun _=>rfl,Iq func27 rfl⟩
 | n+1=>have ih:=M2 N n; kF N [fun _=>⟨_,ih⟩,Qw6,Qkn] [(11,.an (.dc 11 [11,12,13,14,15,16,17,18,19,20,21] [] [] (.a (.a (.a (.a (.a (.k 0 [] [] [] [] (.a (.a (.a (.a (.a (.tl Jfq)))))))))))))),(16,.lp [] [] ⟨[(3,Jk6),(4,Jk6),(5,Rz)],[(100000,Jk7)]⟩ [(.x 0,⟨Jji,[(100200,Jk7)]⟩)]),(25,.jn [3,4,5] [100000] Jpk),(25,.an (.dc 15 [34,35,36,37,38,39,40,41,42,43,44,45,46,47,48] [] [] (.a (.a (.a (.a (.so 37 (.a (.a (.a (.a Jk8)))) (.a (.a (.a (.a (.so 41 (.a (.a (.a (.k 1 [] [] [] [] (.a (.a (.a (.tl (.call 1 (.call 2 Ja7)))))))))) Jk8))))))))))))] func27
def Qm4(N:Nat):V:=⟨Ix N N,M2 N N⟩
def Qw7(N:Nat):V:=⟨⟨42,Jfp,[Q00],Qgc N,[]⟩,kF N [] [(3,.an (.dc 8 [6,7,8,9,10,11,12,3] [1] [] (.b 1 (.c 1 (.e 8 (.b 1 (.c 1 (.e 11 (.g [] [] [] [8,11] Q7u))))))))),(8,.lp [2,14,15] [1,2] ⟨[(3,R0),(16,zs3)],[(100000,.var 39 Jn5),(100001,Ul),(100002,Qav),(100003,Qaw)]⟩ [(.x 0,⟨Qus,[(100100,.var 39 (.ag (sL [Qcn,Jfe,Jff]))),(100101,Ul),(100102,Qav),(100103,Qaw)]⟩)]),(21,.rg (.n 3 (.fz 22 Qin)))] func42⟩
def Qko(N:Nat):V:=⟨⟨235,Q0s,[Q41],u2 (F7 N),[]⟩,kF N [] [(6,.lp [0,1] [] zs4 [(.x 0,zs4)]),(9,.rg (.n 5 (.sp 11 7 [5] [] Q0t Tz Tz .done)))] func235⟩
def Qet(N:Nat):V:=⟨⟨236,Q0s,[Q41],u2 (Wf N),[]⟩,kF N [] [(8,.lp [1,8,9] [] ⟨Jfr,[(100000,Qqx)]⟩ Jny),(16,.jn [10] [] Jnz)] func236⟩
def Qkp(N:Nat):V:=⟨⟨207,Jpl,[(sD [Vg])],u2 (F8 N),[]⟩,kF N [Qko,Qet] [(3,.jn [] [3] [(.n,⟨[(2,Qfn),(4,Jfs)],[(100300,Jn1),(100301,Q7v)]⟩),(.r,⟨[(4,Qkm)],[(100200,Q7v)]⟩)]),(31,.jn [2,3,4,6] [2,4] Jky),(39,.jn [2,3,4] [2,4] [(.n,Jjb)])] func207⟩
def Qeu(N:Nat):V:=⟨⟨149,Qut,[⟨Qgm,[(1,Qmc)]⟩],u2 (F9 N),[]⟩,kF N [Qkp] [(10,.lp [1,10,11] [] ⟨[(5,Rz),(6,Q01),(12,zs3)],[(100000,Qmc),(100001,Jfu)]⟩ [(.x 0,⟨[(5,Qmb)],[(100300,Qmc)]⟩)]),(18,.jn [12] [] [(.n,⟨[(5,Qil),(6,Jfv)],[(100200,Qmc),(100201,Jfu)]⟩)]),(32,.an (.dr 13 (.n 3 (.sp 31 10 [5,6,8,9,12] [8,100000,100001] Jfd Q7w Q7w .done)) .done))] func149⟩
def Qiv(N:Nat):V:=⟨⟨151,(sD [Vg,Vg]),[zs5],u2 (H4 N),[]⟩,kF N [] [(14,.lp [3,43,44] [2,3] ⟨[(45,zs3)],[]⟩ zs8)] func151⟩
def Qda(N:Nat):V:=⟨⟨150,Jk9,[zs5],u2 (Xg N),[]⟩,kF N [Qiv] [] func150⟩
def Qdb(N:Nat):V:=⟨⟨152,Jk9,[(sD [Vh])],u2 (Xh N),[]⟩,kF N [] [] func152⟩
def Hy(N:Nat):V:=⟨⟨148,⟨[(0,.d (.sl Vh)),(1,.f 150 .nil),(2,.f 152 .nil)],[]⟩,[⟨Qgm,[(1,Qmc)]⟩],Yi N,[]⟩,kF N [Qda,Qdb] [(8,.lp [1,2,11,12] [] ⟨Jla,[(100000,Qmc)]⟩ [(.x 0,⟨[(7,Qil)],[(100200,Qmc)]⟩)]),(16,.jn [13] [] [(.n,⟨[(7,Qej)],[(100100,Qmc)]⟩)]),(22,.an (.dc 10 [19,20,21,22,23,24,25,26,27,28] [100000,9] [] (.a (.a (.a (.so 21 (.a (.b 100000 (.a (.a (.d 100000 100000 (.c 100000 (.c 9 (.tl Qm1)))))))) Q7x)))))),(24,.an (.dc 11 [31,32,33,34,35,36,37,38,39,40,41] [100000,9] [] (.b 100000 (.a (.a (.a (.b 100000 (.a (.a (.d 100000 100000 (.c 100000 (.c 9 (.k 1 [] [] [] [] Ja9)))))))))))))] func148⟩
def M3(N:Nat):V:=⟨⟨104,Qut,[⟨Qgm,[(1,Q7y)]⟩],u2 (G1 N),[]⟩,kF N [Qeu,Hy] [(10,.lp [5,14,15] [11201,11301] ⟨[(6,Rz),(16,zs3)],[(100000,Q7y)]⟩ [(.x 0,⟨[(6,Qmb)],[(100300,Q7y)]⟩)]),(18,.jn [16] [] [(.n,⟨[(6,Qil)],[(100200,Q7y)]⟩)]),(30,.jn [6,8,16] [8,100000] [(.n,⟨[(9,Qa8)],[(100100,Jfw)]⟩)]),(35,.an (.dc 17 [40,41,42,43,44,45,46,47,48,49,50,51,52,53,54,55,56] [100100,8] [] (.b 100000 (.c 100100 (.b 8 (.b 8 (.c 8 (.b 8 (.b 8 (.c 8 (.e 48 (.b 8 (.b 8 (.c 8 (.b 8 (.b 8 (.c 8 (.b 48 (.op ⟨.fz 48 (.nl 1 .done),[48],[],[],[48]⟩ Ja9)))))))))))))))))))] func104⟩
def Ku(N:Nat):V:=⟨⟨153,Q0y,[zs5],Vk N,[]⟩,kF N [] [] func153⟩
def Iy(N:Nat):V:=⟨⟨105,Jk1,[zs5],u2 (Zu N),[]⟩,kF N [Ku] [] func105⟩
def Qq8(N:Nat):V:=⟨⟨69,Q7z,[(sD [B5,.bool])],u3 (Te N),[]⟩,kF N [M3,Iy] [(6,.lp [2,12,13] [11201] ⟨[(6,R0),(14,zs3)],[(100000,Jlc)]⟩ [(.x 0,⟨[(6,Qa8)],[(100100,Jlc)]⟩),(.r,⟨Jfx,[(100200,.var 140 Ak)]⟩)])] func69⟩
def Qkq(N:Nat):V:=⟨⟨154,(sD []),[⟨[(0,.p 1 [])],[(1,.var 327 (.ag (sL [.m 2,.m 3,.m 4,.m 5,.m 6,.ns,.ns]))),(2,Q02),(3,.map .i Vg),(4,Qmd),(5,.map .str .i),(6,Qax)]⟩],fun _=>L3 N,[]⟩,kF N [] [] func154⟩
def Qm5(N:Nat):V:=⟨⟨155,Qut,[⟨[(0,.f 208 (sL [.p 1 [],.p 2 []]))],[(1,.var 22 Jld),(2,N6)]⟩],u2 (Or N),[]⟩,kF N [] [] func155⟩
def Qgr:AnY:=(.two (.reg (.n 3 .done)) (.un (.lp [2,6,7] [] ⟨[(8,.d .i)],[]⟩ [(.x 0,⟨[],[]⟩),(.r,⟨[],[]⟩)] (.two (.reg (.n 1 .done)) (.two (.two .nil .nil) (.two (.un (.two (.reg (.n 4 .done)) (.two (.yr (.h 5 (.n 5 .done) (.so 16 (.mv (.h 1 (.nl 1 .done) (.yl (.h 2 (.nl 1 (.n 1 .done)) .done)))) (.h 5 (.nl 4 (.n 1 .done)) .done)))) (.two .nil .nil)))) (.reg (.n 2 .done))))))))
def M4(N:Nat):It:=⟨208,[(.sl Jt),(.int .i64)],Jt,fun(x1,x2)=>D1 N x1 x2⟩
theorem Qev(N:Nat):IO (M4 N):=⟨Jja (Y:=tx) (N:=N) (it:=M4 N) (an:=Qgr) Je9 Je8 (Q7o N []) func208 rfl (fun x=>by kernel_rfl),Iq func208 rfl⟩
def Qdc(N:Nat):V:=⟨⟨209,Q0z,[Jfl],u2 (Xi N),[]⟩,kF N [] [(6,.lp [0,1] [] zs4 [(.x 0,zs4)]),(9,.rg (.n 5 (.sp 11 7 [5] [] Q0t Tz Tz .done)))] func209⟩
def R4(N:Nat):V:=⟨⟨237,Q0s,[Q41],u2 (Zc N),[]⟩,kF N [] [(6,.lp [0,1] [] zs4 [(.x 0,zs4)]),(9,.rg (.n 5 (.sp 11 7 [5] [] Q0t Tz Tz .done)))] func237⟩
def Qiw(N:Nat):V:=⟨⟨238,Q0s,[Q41],u2 (H5 N),[]⟩,kF N [] [(8,.lp [1,8,9] [] ⟨Jfr,[(100000,Qqx)]⟩ Jny),(16,.jn [10] [] Jnz)] func238⟩
def Pm(N:Nat):V:=⟨⟨210,⟨[(0,Gj),(1,Jft),(2,.d Jt)],Jfy⟩,[⟨[(0,Jft)],Jfz⟩],u9 (Xj N),[5000,5001,5002,5003,5005,5006,5007]⟩,kF N [R4,Qiw] [(3,.jn [6] [5,6] [(.n,⟨[(4,Q01)],[(5004,.map .str .i),(100001,Jn1)]⟩)]),(10,.an (.dr 8 Qma Vq)),(16,.an (.dr 6 Q0w Vq))] func210⟩
def Nh(N:Nat):V:=⟨⟨156,⟨[(0,Gj),(1,.d Jt)],Jfy⟩,[⟨[],[(5000,.var 327 (.ag (sL [Q70,Quu,Q71,Q72,Q73,Ry,Q0u]))),(5001,Q02),(5002,.map .i Vg),(5003,Qmd),(5004,.map .str .i),(5005,Qax),(1,Hu),(2,Hu)]⟩],u8 (Kp N),[]⟩,kF N [Qdc,Pm] [(9,.jn [3] [3] [(.n,⟨Qay,[(5000,.var 327 (.ag (sL [Q70,Quu,Q71,Q72,Q73,.s 100006,.s 100007]))),(5001,Q02),(5002,.map .i Vg),(5003,Qmd),(5004,.map .str .i),(5005,Qax),(100006,Hu),(100007,Hu)]⟩)]),(10,.an (.dc 12 [38,39,40,41,42,43,44,37,45,46,4,1000000011] [5000,5001] [3] (.b 5000 (.d 5000 5000 (.b 5000 (.d 5000 5001 (.b 3 (.c 3 (.c 5001 (.a (.a (.a (.e 4 (.f 4 4 Mx)))))))))))))),(14,.gh Jle),(14,.an (.dc 8 [49,50,51,52,53,54,55,56] [5000] [3] (.b 5000 (.b 5000 (.d 5000 5000 (.b 5000 (.c 5000 (.b 3 (.c 3 (.k 0 [] [] [15601] [15601] Qqy)))))))))),(16,.an (.dr 16 (.n 16 .done) Vq)),(21,.an (.dc 8 [77,78,79,80,81,82,83,6] [5000,3,5001] [] (.b 5000 (.d 5000 5000 (.b 5000 (.d 5000 5001 (.b 3 (.c 3 (.c 5001 (.e 6 Mx)))))))))),(24,.an (.dr 7 Q7q Vq)),(29,.jn [3] [3] [(.n,⟨Qay,[(5000,.var 327 (.ag (sL [Q70,Quu,Q71,Q72,Q73,.s 100106,.s 100107]))),(5001,Q02),(5002,.map .i Vg),(5003,Qmd),(5004,.map .str .i),(5005,Qax),(100106,Hu),(100107,Hu)]⟩)]),(30,.an (.dr 8 Qma .done)),(32,.gh (.fz 5007 (.dt 5000 .done))),(32,.an (.dc 8 [102,103,104,105,106,107,108,109] [5000] [3] (.b 5000 (.b 5000 (.d 5000 5000 (.b 5000 (.c 5000 (.b 3 (.c 3 (.k 0 [] [] [20901] [20901] Qqy)))))))))),(35,.an (.dr 6 Q0w Vq)),(37,.an (.dr 8 Qma Vq)),(38,.an (.dr 15 Jjf Vq)),(43,.an (.dc 8 [143,144,145,146,147,148,149,7] [5000,3,5002] [] (.b 5000 (.d 5000 5000 (.b 5000 (.d 5000 5002 (.b 3 (.c 3 (.c 5002 (.e 7 Mx)))))))))),(48,.lp [0,3,7,151,152] [3,7,5000,5001,5002,5003,5005,5006,5007] ⟨[(153,zs3)],Jfz⟩ [(.x 1,⟨[],Jfz⟩)]),(62,.an (.dr 8 Qma Vq)),(63,.an (.dr 6 Q0w Vq)),(65,.jn [0,3] [3,5000,5001,5002,5003,5004,5005,5006,5007] [(.n,⟨[(177,zs7)],[]⟩)]),(73,.an (.dc 12 [15,16,17,18,19,20,21,14,22,23,10,1000000011] [5000,3,5002] [] (.b 5000 (.d 5000 5000 (.b 5000 (.d 5000 5002 (.b 3 (.c 3 (.c 5002 (.a (.a (.a (.e 10 (.f 10 10 Mx)))))))))))))),(77,.an (.dc 10 [25,26,27,28,29,30,31,32,33,34] [5000,3,10,5004,5001,5002,5003,5005,5006,5007] [] (.b 5000 (.d 5000 5000 (.b 5000 (.d 5000 5002 (.b 3 (.c 3 (.b 5000 (.c 10 (.c 3 (.k 1 [5004] [5000,5001,5002,5003,5005,5006,5007] [] [5004] Mx))))))))))))] func156⟩
def M5(N:Nat):V:=⟨⟨157,⟨Qay,Jfy⟩,[Jlf],u7 (Z0 N),[5000,5001,5002,5003,5004,5005,5006,5007]⟩,kF N [] [(5,.rg (.br Vq)),(10,.lp [0,2,16,17] [2] ⟨[(3,R0),(4,.m 100001),(18,zs3)],[(100000,.var 206 (.ag (sL [.ns,Jjk]))),(100001,Jf0),(100002,Qss)]⟩ [(.x 0,⟨[(3,Qkm),(4,.m 100201)],[(100200,.var 206 (.ag (sL [.ns,Jjj]))),(100201,Jf0),(100202,Qss)]⟩)]),(18,.jn [18] [] [(.n,⟨[(3,Qa8),(4,.m 100101)],[(100100,.var 206 (.ag (sL [.ns,Jfe]))),(100101,Jf0),(100102,Qss)]⟩)]),(30,.gh (.op (.v 7 [.f 1 1]) 100001 700000 .done)),(30,.an (.dc 10 [33,34,35,36,37,38,39,40,41,42] [7,100001,700000] [] (.b 100001 (.b 7 (.c 7 (.b 100001 (.b 7 (.c 7 (.op ⟨.br .done,[],[100001,700000],[],[700000]⟩ (.a (.a (.g [700000] [] [42] [42] (.tl (.br .done)))))))))))))),(37,.gh (.fm 100201 .done)),(37,.lp [0,2,4,53,54] [2,100201] ⟨[(3,Qfn),(55,zs3)],[(100300,.var 206 (.ag (sL [Q03,Jf1]))),(100301,Q42),(100302,Qss)]⟩ [(.x 2,⟨[(3,Quv)],[(100400,.var 206 (.ag (sL [Q74,.s 100402]))),(100401,Q42),(100402,Qss)]⟩)])] func157⟩
def Qix:AnR:=(.pre (.reg (.n 1 .done)) (.pre (.reg (.call 0 (.n 2 .done))) (.inn (.pre (.reg (.n 2 (.call 1 .done))) (.un (.rf 0 [4,5] [4,5] ⟨[],[(10701,.var 327 (.ag (sL [.m 100001,.m 100002,.m 100003,.m 100004,.m 100005,.s 100006,.s 100007]))),(100001,.map .i V2),(100002,.map .i Vg),(100003,.map .i .bool),(100004,.map .str .i),(100005,.map .i .i),(100006,.row 3 .i),(100007,.row 3 .i)]⟩ (.reg (.n 2 .done)) (.un (.reg (.n 2 (.call 2 .done))))))) (.two (.reg (.n 1 (.call 3 (.n 1 .done)))) .nil))))
def R5(N:Nat):V:=⟨⟨106,Qut,[Jlf],u2 (Aa N),[]⟩,kR N [Qkq,Qm5,Nh,M5] [⟨_,Qev N⟩] Qix func106 rfl fun x=>by kernel_rfl⟩
def Qq9(N:Nat):V:=⟨⟨70,Q7z,[(sD [Vg,.bool])],u3 (Tf N),[]⟩,kF N [R5] [(6,.lp [1,13,14] [11201,11202] ⟨Jlg,[(100000,Q7v)]⟩ [(.x 0,⟨[(6,Qa8)],[(100100,Q7v)]⟩),(.r,⟨Jfx,[(100200,Jfu)]⟩)])] func70⟩
def Qgs(N:Nat):V:=⟨⟨71,Q7z,[(sD [V2,.bool])],u3 (B9 N),[]⟩,kF N [R5] [(6,.lp [1,13,14] [11201,11202] ⟨Jlg,[(100000,Jlh)]⟩ [(.x 0,⟨[(6,Qa8)],[(100100,Jlh)]⟩),(.r,⟨Jfx,[(100200,.var 142 Bq)]⟩)])] func71⟩
def Qew(N:Nat):V:=⟨⟨45,⟨Qay,[(5000,.var 144 (.ag (sL [Hv,Br,Ub,.ag (sL [Qco,Ya,Qq3,zs7,zs7]),.ag (sL [zs3,zs3,zs3,zs7,zs7,N7]),.ag (sL [Ya,zs3,zs7,R2,Qaz,Qme,Qio]),zs3,Jli]))),(5001,Qqx),(5002,Hu),(5003,Bs),(5004,Wp),(5005,He),(5006,Fi),(5007,Ud),(5008,Ue),(5009,Ur)]⟩,[⟨Qip,[(5000,Jlk),(1,Bs),(2,Wp),(3,He),(4,Fi),(5,Ud),(6,Ue),(7,Ur)]⟩],u35 (Ab N),[]⟩,kF N [Qq8,Qq9,Qgs] [(3,.an (.dc 21 [8,9,10,11,12,13,14,15,16,17,18,19,20,21,22,23,7,24,25,3,1000000020] [5000] [] (.b 5000 (.d 5000 5000 (.b 5000 (.b 5000 (.c 5000 (.b 5000 (.d 5000 5000 (.b 5000 (.b 5000 (.c 5000 (.b 5000 (.d 5000 5000 (.b 5000 (.b 5000 (.c 5000 (.k 0 [] [] [] [] (.a (.a (.a Jll))))))))))))))))))))),(13,.an (.dc 21 [29,30,31,32,33,34,35,36,37,38,39,40,41,42,43,44,28,45,46,5,1000000020] [5000] [] (.b 5000 (.d 5000 5000 (.b 5000 (.b 5000 (.c 5000 (.b 5000 (.d 5000 5000 (.b 5000 (.b 5000 (.c 5000 (.b 5000 (.d 5000 5000 (.b 5000 (.b 5000 (.c 5000 (.k 1 [] [] [] [] (.a (.a (.a (.e 5 (.f 5 5 Mx))))))))))))))))))))))),(16,.an (.dr 8 Qma .done)),(33,.an (.dc 20 [62,63,64,65,66,67,68,69,70,71,72,73,74,75,61,76,77,78,79,1000000019] [5000,5] [] (.b 5000 (.b 5000 (.d 5000 5000 (.b 5000 (.b 5000 (.c 5000 (.b 5 (.c 5 (.b 5000 (.d 5000 5000 (.b 5000 (.b 5000 (.c 5000 (.k 2 [] [] [] [] (.a (.a (.a (.d 5000 5000 (.b 5000 (.g [5000] [] [] [5000,5003,5004,5005,5006,5007,5008,5009] (.tl .done)))))))))))))))))))))))] func45⟩
def Qw8(N:Nat):V:=⟨⟨44,⟨Qay,[(5000,.var 138 Is),(5001,.var 144 (.ag (sL [Hv,Br,Ub,.ag (sL [Qco,Ya,N7,zs7,zs7]),.ag (sL [zs3,zs3,zs3,zs7,zs7,R2]),.ag (sL [Ya,zs3,zs7,Qaz,Qme,Qio,Qq2]),zs3,.ag (sL [Ub,zs3,Ya,zs3,Ya,.s 5008,.s 5009,zs3,zs3,zs3,.s 5010,zs3,zs3])]))),(5002,Qqx),(5003,Hu),(5004,Bs),(5005,Wp),(5006,He),(5007,Fi),(5008,Ud),(5009,Ue),(5010,Ur)]⟩,[⟨Qip,[(5001,.var 144 (.ag (sL [Hv,Br,Ub,Ak,Bq,Q04,zs3,Jlj]))),(1,Bs),(2,Wp),(3,He),(4,Fi),(5,Ud),(6,Ue),(7,Ur)]⟩],u35 (Qgd N),[5000]⟩,kF N [Qew] [] func44⟩
def Qw9(N:Nat):V:=⟨⟨43,⟨[(0,.f 44 Qmf),(1,.p 5011 [])],[(5000,.var 138 Is),(5001,.var 144 (.ag (sL [Hv,Br,Ub,.ag (sL [Qco,Ya,N7,zs7,zs7]),.ag (sL [zs3,zs3,zs3,zs7,zs7,R2]),.ag (sL [Ya,zs3,zs7,Qaz,Qme,Qio,Qq2]),zs3,.ag (sL [Ub,zs3,Ya,zs3,Ya,.s 5008,.s 5009,zs3,zs3,zs3,.s 5010,zs3,zs3])]))),(5002,Qqx),(5003,Hu),(5004,Bs),(5005,Wp),(5006,He),(5007,Fi),(5008,Ud),(5009,Ue),(5010,Ur),(5011,Qmg)]⟩,[⟨[],[(5001,Jlk),(5011,Qmg),(1,Bs),(2,Wp),(3,He),(4,Fi),(5,Ud),(6,Ue),(7,Ur)]⟩],u36 (Qge N),[5000]⟩,kF N [Qw8] [(3,.rg (.n 1 Qm1))] func43⟩
def T4(N:Nat):V:=⟨⟨158,(sD [.sl .str]),[Q41],Gb N,[]⟩,kF N [] [] func158⟩
def Pn(N:Nat):V:=⟨⟨159,Jlm,[⟨Qgm,[(1,.row 262 Kk)]⟩],Xk N,[]⟩,kF N [] [] func159⟩
def Po(N:Nat):V:=⟨⟨160,Jkx,[⟨Qgm,[(1,Q75)]⟩],Xl N,[]⟩,kF N [] [] func160⟩
def N8(N n:Nat):Con:=⟨161,Qq0,[Qq0],fun x0=>Z3 N n x0,[]⟩
theorem R6(N:Nat):∀n,KO (N8 N n)
 | 0=>⟨Fu fun _=>rfl,Iq func161 rfl⟩
 | n+1=>have ih:=R6 N n; kF N [fun _=>⟨_,ih⟩] [(8,.lp [1,2,7,8] [1,2] ⟨[(3,Rz),(9,zs3)],[(100000,Q76)]⟩ [(.x 0,⟨[(3,Qej)],[(100100,Q76)]⟩)])] func161
def Qst(N:Nat):V:=⟨N8 N N,R6 N N⟩
def Qra(N:Nat):V:=⟨⟨107,Q0x,[⟨[(0,Q04)],Jf2⟩],Tg N,[]⟩,kF N [T4,Pn,Po,Qst] [(10,.lp [1,2,18,19] [1,2] ⟨[(3,R0),(20,zs3)],Jln⟩ Jlo),(21,.an (.dc 9 [24,25,26,27,28,29,30,31,32] [100000,5] [] (.b 100000 (.d 100000 100001 (.b 5 (.c 5 (.b 5 (.c 5 (.k 0 [] [] [13001] [13001] (.b 13001 (.op ⟨.fz 13001 (.nl 1 .done),[13001],[],[],[13001]⟩ Qqy))))))))))),(27,.lp [1,2,37,38] [1,2] ⟨[(3,Qkm),(39,zs3)],Jlp⟩ Jlq),(38,.an (.dc 9 [43,44,45,46,47,48,49,50,51] [100200,7] [] (.b 100200 (.d 100200 100202 (.b 7 (.c 7 (.b 7 (.c 7 (.k 1 [] [] [14901] [14901] (.b 14901 (.op ⟨.fz 14901 (.nl 1 .done),[14901],[],[],[14901]⟩ Qqy))))))))))),(44,.lp [1,2,56,57] [1,2] ⟨[(3,Quv),(58,zs3)],Jlr⟩ Jlt),(57,.rg (.n 3 (.fz 16401 Qin))),(63,.lp [2,74,75] [1,2] ⟨[(3,.p 100600 []),(76,zs3)],Jlu⟩ Jlw)] func107⟩
def Q1a(N:Nat):V:=⟨⟨72,(sD [.sl J5,.str,.i]),[⟨[(0,Q04),(1,zs7)],Jf2⟩],u3 (Qki N),[]⟩,kF N [Qra] [(8,.lp [0,1,2,6,11,12] [6] ⟨[(8,zs3),(13,zs3)],[]⟩ [(.x 0,Qik)]),(16,.jn [13] [] Jf6)] func72⟩
def Qxa(N:Nat):V:=⟨⟨162,Qm0,[zs5],Qgf N,[]⟩,kF N [] [(6,.lp [0,6] [] Qqv Qqw)] func162⟩
def Qm6(N:Nat):V:=⟨⟨164,⟨[(0,.d Uc),(1,Gj)],Jlx⟩,[zs5],u2 (Ot N),[5000]⟩,kF N [] [] func164⟩
def I8(N:Nat):V:=⟨⟨211,Jly,[zs2],u2 (Zg N),[5000]⟩,kF N [Qm6] [(6,.lp [0,1,7] [] Qik Qsq),(18,.rg (.n 5 (.call 0 .done)))] func211⟩
def Ck(N:Nat):V:=⟨⟨163,Jly,[zs5],u2 (Ug N),[5000]⟩,kF N [I8] [] func163⟩
def Qrb(N:Nat):V:=⟨⟨165,Jn7,[zs5],Th N,[]⟩,kF N [] [] func165⟩
def Qdd(N:Nat):V:=⟨⟨109,Qm0,[zs5],Ac N,[]⟩,kF N [Qrb] [(6,.lp [0,5] [] zs9 Qqw)] func109⟩
def Qsu(N:Nat):V:=⟨⟨108,Jku,[⟨[(0,.m 1),(1,zs3)],[(1,Quw)]⟩,⟨[(0,.nm),(1,zs3)],[]⟩],Qb9 N,[]⟩,kF N [Qxa,Ck,Qdd] [(16,.lp [0,15,16] [] ⟨[(4,Q77),(17,zs3)],[(100000,Quw)]⟩ [(.x 0,⟨[(4,.m 100400)],[(100400,Quw)]⟩),(.r,⟨[(2,.nm),(3,zs3)],[]⟩)]),(57,.lp [6,17,44,45] [6] ⟨[(4,Q78),(46,zs3)],[(100100,Quw)]⟩ [(.x 3,⟨[(4,.m 100200)],[(100200,Quw)]⟩),(.r,⟨[(2,.nm),(3,zs3)],[]⟩)])] func108⟩
def Qm7(N:Nat):V:=⟨⟨110,⟨[(0,.m 5000),(1,Ya),(2,zs3)],[(5000,Quw)]⟩,[(sD [.str,.bool])],u3 (Ou N),[5000]⟩,kF N [] [(4,.lp [0,1] [] ⟨[(2,zs3)],[]⟩ [(.x 0,zs6),(.r,⟨[(6,Ya),(7,zs7)],[]⟩)])] func110⟩
def Qiy(N:Nat):V:=⟨⟨73,(sD [.sl Uc,.str]),[(sD [.str,.bool])],u2 (Ti N),[]⟩,kF N [Qsu,Qdd,Qm7] [(4,.an (.cn 6 (.two (.two (.reg (.n 3 (.sp 15 4 [1,6] [] Jfa Tx Q05 .done))) (.two Jlz (.gh (.tl .done) .nil))) .nil) (.two (.two (.reg (.n 3 (.sp 15 4 [1,6] [11001] Jfa Tx Q05 .done))) (.two Jlz .nil)) (.two (.reg (.n 4 (.call 2 Qin))) .nil))))] func73⟩
def Qgt(N:Nat):V:=⟨⟨47,⟨Qay,[(5000,.var 144 (.ag (sL [Hv,Br,Ub,Ak,Bq,.ag (sL [Ya,zs3,zs7,Qq3,N7,R2,Qaz]),zs3,Jf7]))),(5001,Bs),(5002,Wp),(5003,He),(5004,Fi),(5005,Ud),(5006,Ue),(5007,Ur)]⟩,[⟨Qip,[(5000,Jf8),(1,Wp),(2,He),(3,Fi),(4,Ud),(5,Ue),(6,Ur)]⟩],u26 (Ca N),[]⟩,kF N [Q1a,Qiy] [(3,.an (.dc 21 [6,7,8,9,10,11,12,13,14,15,16,17,18,19,20,21,5,22,23,3,1000000020] [5000] [] (.b 5000 (.d 5000 5000 (.b 5000 (.b 5000 (.c 5000 (.b 5000 (.d 5000 5000 (.b 5000 (.b 5000 (.c 5000 (.b 5000 (.d 5000 5000 (.b 5000 (.b 5000 (.c 5000 (.k 0 [] [] [12104,12103,12102,12101] [12101,12102,12103,12104] (.g [] [] [] [12101,12102,12103,12104] (.g [] [] [] [12101,12102,12103,12104] (.a (.e 3 (.g [3] [12101,12102,12103,12104] [] [3,12101,12102,12103,12104] Mx))))))))))))))))))))))),(15,.an (.dc 10 [30,31,32,33,34,35,36,37,38,1000000009] [3,5000] [] (.b 5000 (.b 5000 (.b 3 (.c 3 (.b 3 (.c 3 (.d 5000 5000 (.b 5000 (.b 5000 (.g [5000] [] [] [5000,5005,5006,5007,12101,12102,12103,12104] (.tl Qin))))))))))))),(17,.gh (.fz 12101 (.dt 5000 (.dt 3 .done)))),(17,.an (.dc 16 [43,44,45,46,47,48,49,50,51,42,52,53,54,55,56,1000000015] [3,5000] [] (.b 5000 (.b 3 (.c 3 (.b 5000 (.d 5000 5000 (.b 5000 (.b 5000 (.c 5000 (.k 1 [] [] [] [] (.a (.a (.a (.d 5000 5000 (.b 5000 (.b 5000 (.g [5000] [] [] [5000,5005,5006,5007,12102,12103,12104] (.tl .done)))))))))))))))))))] func47⟩
def Qxb(N:Nat):V:=⟨⟨46,⟨Qay,[(5000,.var 138 Is),(5001,.var 144 (.ag (sL [Hv,Br,Ub,Ak,Bq,.ag (sL [Ya,zs3,zs7,N7,R2,Qaz,Qme]),zs3,.ag (sL [Ub,zs3,Ya,zs3,Ya,Qio,Qq2,zs3,zs3,zs3,.s 5008,zs3,zs3])]))),(5002,Bs),(5003,Wp),(5004,He),(5005,Fi),(5006,Ud),(5007,Ue),(5008,Ur)]⟩,[⟨Qip,[(5001,Jf8),(1,Wp),(2,He),(3,Fi),(4,Ud),(5,Ue),(6,Ur)]⟩],u26 (Qgg N),[5000]⟩,kF N [Qgt] [] func46⟩
def Qm8(N:Nat):V:=⟨⟨43,⟨[(0,.f 46 Qmf),(1,.p 5009 [])],[(5000,.var 138 Is),(5001,.var 144 (.ag (sL [Hv,Br,Ub,Ak,Bq,.ag (sL [Ya,zs3,zs7,N7,R2,Qaz,Qme]),zs3,.ag (sL [Ub,zs3,Ya,zs3,Ya,Qio,Qq2,zs3,zs3,zs3,.s 5008,zs3,zs3])]))),(5002,Bs),(5003,Wp),(5004,He),(5005,Fi),(5006,Ud),(5007,Ue),(5008,Ur),(5009,Qmg)]⟩,[⟨[],[(5001,Jf8),(5009,Qmg),(1,Wp),(2,He),(3,Fi),(4,Ud),(5,Ue),(6,Ur)]⟩],u27 (Ov N),[5000]⟩,kF N [Qxb] [(3,.rg (.n 1 Qm1))] func43⟩
def Qiz(N:Nat):V:=⟨⟨166,Jl1,[⟨Qgm,[(1,Ul)]⟩],D2 N,[]⟩,kF N [] [(8,.lp [6,7] [] ⟨[(3,Rz),(8,zs3)],[(100000,Ul)]⟩ [(.x 0,⟨[(3,Qej)],[(100100,Ul)]⟩)]),(21,.rg (.n 2 (.fz 14 Q43)))] func166⟩
def D7(N:Nat):V:=⟨⟨111,Jfp,[Q00],Hs N,[]⟩,kF N [Qiz] [(3,.an (.dc 8 [3,4,5,6,7,8,9,10] [1] [] (.b 1 (.c 1 (.k 0 [] [] [10501] [10501] (.b 1 (.c 1 (.e 8 Jl2))))))))] func111⟩
def Qkr(N:Nat):V:=⟨⟨112,Q7z,[zs5],u3 (L7 N),[]⟩,kF N [] [(6,.lp [1,2,9,10] [] Jf9 Jfi)] func112⟩
def Qks(N:Nat):V:=⟨⟨137,(sD [.sl V7]),[Jl3],L8 N,[]⟩,kF N [] [(8,.lp [9,10] [] ⟨[(3,Q77),(11,zs3)],[(100000,Qax)]⟩ [(.x 0,⟨[(3,.m 100200)],[(100200,Qax)]⟩)]),(16,.jn [11] [] [(.n,⟨[(3,Q78)],[(100100,Qax)]⟩)])] func137⟩
def Qrc(N:Nat):V:=⟨⟨113,(sD [.sl V7,.i]),[⟨[(0,Ry),(1,zs3)],[(1,Qav)]⟩],u2 (Tj N),[]⟩,kF N [Qks] [(16,.lp [0,1] [11201] Qik [(.x 0,Qik)]),(19,.rg (.n 5 (.sp 25 8 [8] [] ⟨[(33,zs7)],[]⟩ Qfm Qfm .done)))] func113⟩
def Kc(N:Nat):V:=⟨⟨169,Q79,[zs5],u3 (Yo N),[]⟩,kF N [] [] func169⟩
def Am(N:Nat):V:=⟨⟨170,zs2,[zs5],G2 N,[]⟩,kF N [] [] func170⟩
def Ao(N:Nat):V:=⟨⟨167,Jga,[zs2],G3 N,[]⟩,kF N [Kc,Am] [(5,.rg (.n 2 (.call 0 (.n 2 (.sp 8 5 [1] [1] ⟨[(13,zs7)],[]⟩ Hm Jfb (.n 1 (.sp 14 5 [1] [1] Jfa Hm Ql9 Vq))))))),(11,.rg (.n 2 (.call 0 (.n 2 (.sp 25 5 [1] [1] ⟨[(30,zs7)],[]⟩ Hm Ql9 Vq)))))] func167⟩
def D8(N:Nat):V:=⟨⟨168,Qmi,[Qmi],u2 (Va N),[]⟩,kF N [] [] func168⟩
def Qm9(N:Nat):V:=⟨⟨115,Qmi,[Qmi],u2 (Ow N),[]⟩,kF N [Ao,D8,Kc,Am] [(14,.rg (.n 1 (.call 2 (.n 2 (.sp 19 7 [1,2,4] [2,4] ⟨[(26,zs7)],[]⟩ Tz (.nl 4 (.call 3 Qsp)) .done)))))] func115⟩
def Qex(N:Nat):V:=⟨⟨114,⟨[(0,.d V7),(1,zs3),(2,Gj)],[(5000,Q06)]⟩,[⟨[],[(5000,Q06)]⟩],u3 (Wj N),[]⟩,kF N [] [] func114⟩
def Qrd(N:Nat):V:=⟨⟨116,Qmi,[Qmi],u2 (Tk N),[]⟩,kF N [Ao,D8,Kc] [] func116⟩
def Qi0(N:Nat):V:=⟨⟨74,(sD [.sl Jt,Zz,.i,.i]),[Q00],u4 (D3 N),[]⟩,kF N [D7,Qkr,Qrc,Qm9,Qex,Qrd] [(6,.rg (.n 7 (.sp 24 6 [0,2,3,8,9] [5,8,9,11701,11702,11703] ⟨[(30,zs7)],[]⟩ Qsr Jjh .done))),(22,.lp [2,3,8,9,10,11,44,45] [5,8,9,11701,11702,11703,13601] ⟨[(12,Qa8),(13,.f 114 (sL [Qa8])),(46,zs3)],[(100100,Q06)]⟩ [(.x 0,⟨[(12,Quv)],[(100400,Q06)]⟩)]),(30,.jn [46] [] [(.n,⟨[(12,Qfn),(13,.f 114 (sL [Qfn]))],[(100300,Q06)]⟩)]),(35,.an (.dr 20 (.n 5 (.sp 54 9 [12,13,15,46] [15,100100] ⟨[(63,zs7)],[]⟩ Qkl Qkl Q0w)) .done)),(45,.rg (.n 4 (.call 3 Jgb))),(49,.rg (.n 4 (.call 5 Jgb)))] func74⟩
def M6(N:Nat):V:=⟨⟨117,Q8a,[Jgc],Ad N,[]⟩,kF N [] [] func117⟩
def Qmk(N:Nat):V:=⟨⟨118,Q8a,[(sD [Ut])],Rg N,[]⟩,kF N [] [] func118⟩
def Qna(N:Nat):V:=⟨⟨119,Qut,[zs2],u2 (Ox N),[]⟩,kF N [] [(6,.lp [1,7,8] [] Qiq Qsq)] func119⟩
def Qde(N:Nat):V:=⟨⟨213,⟨[(0,Ak),(1,Gj)],[(5000,Q07)]⟩,[zs5],u2 (Ey N),[5000]⟩,kF N [] [(6,.lp [1,7,8] [2] Qiq [(.x 0,zs6),(.r,⟨[(3,zs7)],[]⟩)])] func213⟩
def Qdf(N:Nat):V:=⟨⟨240,Q7t,[zs5],u2 (Ez N),[]⟩,kF N [] [] func240⟩
def Qdg(N:Nat):V:=⟨⟨241,Q7t,[Q0y],u2 (E0 N),[]⟩,kF N [] [] func241⟩
def Dq(N:Nat):V:=⟨⟨239,⟨[(0,Q8b),(1,.f 240 .nil),(2,.f 241 .nil)],[]⟩,[Qim],Un N,[]⟩,kF N [Qdf,Qdg] [(8,.lp [1,2,11,12] [] ⟨Jla,Q7s⟩ Jl4),(16,.jn [13] [] Jl5),(22,.an (.dc 10 [19,20,21,22,23,24,25,26,27,28] [100000,9] [] (.a (.a (.a (.so 21 (.a (.b 100000 (.a (.a (.d 100000 100000 (.c 100000 (.c 9 (.tl Qm1)))))))) Q7x)))))),(24,.an (.dc 11 [31,32,33,34,35,36,37,38,39,40,41] [100000,9] [] (.b 100000 (.a (.a (.a (.b 100000 (.a (.a (.d 100000 100000 (.c 100000 (.c 9 (.k 1 [] [] [] [] Ja9)))))))))))))] func239⟩
def Qgu(N:Nat):V:=⟨⟨212,⟨[(0,Jld),(1,zs3),(2,.f 213 Qmf)],[(5000,Q07)]⟩,[Qim],u3 (Cb N),[5000]⟩,kF N [M3,Qde,Dq] [(8,.lp [2,12,13] [11201] ⟨[(7,Rz),(14,zs3)],Q7s⟩ Jl4),(16,.jn [14] [] Jl5),(20,.rg (.n 2 (.call 1 .done)))] func212⟩
def Qgv(N:Nat):V:=⟨⟨171,(sD [.sl Jt,.i,.str]),[Qim],u3 (Cc N),[]⟩,kF N [Qgu] [] func171⟩
def Qnb(N:Nat):V:=⟨⟨172,(sD [Uf,Uf]),[zs5],u2 (Oy N),[]⟩,kF N [] [] func172⟩
def Qi1(N:Nat):V:=⟨⟨120,Qut,[⟨Qgm,[(1,Q8c)]⟩],u2 (D4 N),[]⟩,kF N [Qgv,Qnb] [(5,.rg (.br Vq)),(12,.lp [0,1,15,16] [] ⟨[(5,Q77),(6,.m 100001),(7,Jjk),(17,zs3)],[(100000,Qmd),(100001,Qux),(100002,Q8c)]⟩ [(.x 0,⟨[(7,.s 101100)],[(101100,Q8c)]⟩)]),(20,.jn [17] [] [(.n,⟨[(5,.m 101000),(6,.m 101001),(7,.s 101002)],[(101000,Qmd),(101001,Qux),(101002,Q8c)]⟩)]),(24,.jn [6,7,9,17] [9,100001,100002] [(.n,⟨[(5,Q78)],[(100100,Qmd)]⟩)]),(31,.jn [5,7,9,17] [9,100002,100100] [(.n,⟨[(6,.m 100300),(51,zs7)],[(100300,Qux)]⟩)]),(31,.gh (.op (.v 9 [.f 5 5]) 100001 700000 .done)),(31,.rg (.n 11 (.sp 43 8 [5,6,7,9,17] [100001,700000] ⟨[(51,zs7)],[]⟩ Qfm (.nl 3 (.br (.nl 2 (.br Vq)))) (.cl 100001 .done)))),(36,.jn [5,7,9,17] [9,100002,100100] [(.n,⟨[(6,.m 100500)],[(100500,Qux)]⟩)]),(37,.jn [5,7,9,17] [] [(.n,⟨[(6,.m 100400),(56,zs7)],[(100400,Qux)]⟩)]),(37,.gh (.op (.v 9 [.f 5 5]) 100300 700001 .done)),(37,.rg (.n 3 (.br (.n 1 (.cl 100300 .done))))),(39,.rg (.n 4 (.br .done))),(42,.jn [5,7,9,17] [9,100002,100100] [(.n,⟨[(6,.m 100600)],[(100600,Qux)]⟩)]),(42,.gh (.op (.v 9 [.f 5 5]) 100500 700002 .done)),(42,.rg (.n 3 (.br (.n 3 (.cl 100500 .done))))),(44,.an (.dc 13 [67,68,69,70,71,72,73,74,75,76,77,78,10] [9] [] (.a (.b 9 (.c 9 (.b 9 (.c 9 (.a (.b 9 (.c 9 (.b 9 (.c 9 (.k 0 [] [] [17701] [17701] (.b 17701 (.e 10 Mx))))))))))))))),(49,.gh (.fz 17701 .done)),(49,.lp [5,6,7,10,17] [9,10,17701,100002,100100,100600] Jf9 [(.x 2,Jf9)]),(52,.jn [11] [] Jpm),(52,.an (.dc 10 [79,80,81,82,83,84,85,86,87,88] [] [100002,10] (.a (.b 100002 (.c 100002 (.a (.a (.so 83 (.b 100002 (.a (.d 100002 100002 (.c 100002 (.d 10 17701 (.tl Jfg)))))) Jlb)))))))),(59,.rg (.n 2 (.fz 100002 Q43)))] func120⟩
def Gl(N:Nat):V:=⟨⟨174,Q7t,[Jk3],u2 (U6 N),[]⟩,kF N [Ku] [(6,.rg (.n 1 (.call 0 (.n 2 (.sp 21 4 [3,4,6] [2,3,4,6] Jgd Tx (.nl 1 Jfc) Q7q)))))] func174⟩
def N9(N:Nat):V:=⟨⟨251,zs2,[zs2],Zl N,[]⟩,kF N [] [(7,.jn [] [] [(.n,Q40)])] func251⟩
def Qnc(N:Nat):V:=⟨⟨264,zs2,[zs5],Oz N,[]⟩,kF N [] [] func264⟩
def D9(N:Nat):V:=⟨⟨252,My,[zs2],u2 (Z4 N),[]⟩,kF N [Qnc] [(6,.rg (.n 3 (.sp 9 3 [0,1,5] [5] ⟨[(12,zs7)],[]⟩ Jge Ja7 .done)))] func252⟩
def Qnd(N:Nat):V:=⟨⟨224,zs2,[(sD [Qd8])],O4 N,[]⟩,kF N [N9,D9] [(14,.lp [0,2] [2] ⟨[(3,R0)],[(100000,Q8d)]⟩ [(.x 0,⟨Qus,[(100100,Q8d)]⟩)]),(27,.lp [2] [2] ⟨[(0,zs3),(3,Qkm)],[(100200,Q8d)]⟩ [(.x 2,⟨[(0,zs3),(3,Qfn)],[(100300,Q8d)]⟩)])] func224⟩
def R7(N:Nat):V:=⟨⟨191,My,[zs2],u2 (Kr N),[]⟩,kF N [Qnd] [(7,.jn [] [5] [(.n,zs9)])] func191⟩
def Qi2(N:Nat):V:=⟨⟨263,My,[zs2],u2 (D5 N),[]⟩,kF N [D9] [] func263⟩
def Qre(N:Nat):V:=⟨⟨250,(sD [Qd8]),[My],Tl N,[]⟩,kF N [Qi2,N9,D9] [(4,.jn [1] [1] [(.n,Q0t)]),(4,.an (.dc 11 [6,7,8,9,10,11,12,13,14,15,16] [] [1] (.b 1 (.c 1 (.a (.a (.so 9 Q7x (.b 1 (.c 1 (.b 1 (.c 1 (.b 1 (.c 1 (.k 0 [] [] [] [] (.tl Qsp))))))))))))))),(11,.an (.dc 5 [19,20,21,22,23] [1] [] (.b 1 (.c 1 (.k 1 [] [] [] [] Jl2))))),(16,.lp [1] [1] Jfk [(.x 0,Q40)])] func250⟩
def Qkt(N:Nat):V:=⟨⟨223,My,[zs2],u2 (Gc N),[]⟩,kF N [Qre] [] func223⟩
def Iz(N:Nat):V:=⟨⟨190,My,[Q0y],u2 (Ae N),[]⟩,kF N [Qkt] [(5,.jn [4] [4] [(.n,⟨[(5,R0)],[(100000,Jfw)]⟩)])] func190⟩
def Oa(N:Nat):V:=⟨⟨175,(sD [.i,Ja]),[Qim],u2 (Xq N),[]⟩,kF N [R7,Iz] [(16,.lp [0,3] [3] ⟨[(5,Rz),(6,zs3)],Q7s⟩ [(.x 0,⟨[(5,Qej)],[(100100,Dl)]⟩)])] func175⟩
def Qdh(N:Nat):V:=⟨⟨173,⟨[(0,Qco),(1,Gj),(2,Is),(3,.p 5003 [])],[(5000,N6),(5001,.var 158 N7),(5002,Dl),(5003,N6)]⟩,[⟨[],[(5001,.var 158 Ry),(1,Dl)]⟩],u4 (E1 N),[5000,5003]⟩,kF N [Gl,Oa] [(7,.an (.dc 4 [16,17,18,19] [5001,5] [5003] (.d 5001 5002 (.c 5003 (.c 5 (.k 1 [] [] [11901] [11901] Ja9))))))] func173⟩
def Qdi(N:Nat):V:=⟨⟨242,Jl6,[Jl7],u3 (E2 N),[]⟩,kF N [Ku] [(3,.lp [1,7,8] [] ⟨[(2,Gj),(9,zs3)],[(5000,.var 352 Qqz),(100001,Qmj)]⟩ [(.x 0,⟨[],[(5000,.var 352 Q0v),(100201,Qmj)]⟩)]),(11,.jn [9] [] [(.n,⟨[(2,Gj)],[(5000,.var 352 Qcn),(100101,Qmj)]⟩)])] func242⟩
def R8(N:Nat):V:=⟨⟨242,Jl6,[Jl7],u3 (X7 N),[]⟩,kF N [Ku] [(3,.lp [1,7,8] [] ⟨[(2,Gj),(9,zs3)],[(5000,.var 352 Qqz),(100001,Qmj)]⟩ [(.x 0,⟨[],[(5000,.var 352 Q0v),(100201,Qmj)]⟩)]),(11,.jn [9] [] [(.n,⟨[(2,Gj)],[(5000,.var 352 Qcn),(100101,Qmj)]⟩)])] func242⟩
def Qgw(N:Nat):V:=⟨⟨215,(sD [.bool,.bool]),[zs5],u2 (Cd N),[]⟩,kF N [] [] func215⟩
def Qgx(N:Nat):V:=⟨⟨214,⟨[(0,Q8b),(1,Q8b),(2,.f 215 .nil)],[]⟩,[Qim],u2 (Ce N),[]⟩,kF N [Qdi,R8,fun _=>⟨_,Gi⟩,Qgw] [(7,.rg (.n 2 (.call 0 .done))),(9,.rg (.n 2 (.call 1 .done))),(22,.lp [2,7,24,25] [7,12101] ⟨[(9,Rz),(10,Q01),(11,zs7),(26,zs3)],[(100000,Dl),(100001,Q8e)]⟩ [(.x 0,⟨[(9,Qq1)],Jfo⟩)]),(30,.jn [26] [] [(.n,⟨[(9,Qmb),(10,Jfs),(11,zs7)],[(100300,Dl),(100301,Q8e)]⟩)]),(34,.an (.dr 8 Qma Vq)),(37,.an (.dr 16 (.n 6 (.sp 44 10 [9,10,11,12,13,26] [13,100000,100001] ⟨[(54,zs7)],[]⟩ Q7w Q7w .done)) .done)),(42,.rg (.n 7 (.call 3 Vq))),(44,.jn [10,14,26] [13,100001] [(.n,⟨[(9,Qil)],[(100200,Dl)]⟩)])] func214⟩
def Qku(N:Nat):V:=⟨⟨176,(sD [.sl Ja]),[Qim],Me N,[]⟩,kF N [Qgx] [] func176⟩
def Qne(N:Nat):V:=⟨⟨121,(sD [.sl Uf,.i,.i]),[Qim],u3 (O5 N),[]⟩,kF N [Qdh,Qku,Oa] [(10,.lp [17,18] [] ⟨[(4,R0),(7,Q01),(8,.f 173 (sL [.p 100002 [],Q01,R0])),(19,zs3)],[(100000,N6),(100001,.var 158 Jn4),(100002,N6),(100003,Dl)]⟩ [(.x 0,⟨[(4,Qfn),(7,Jfs)],[(100300,N6),(100301,.var 158 Jf1),(100302,Dl)]⟩)]),(24,.lp [19,24,25] [10] ⟨[(4,Qa8),(7,Jn2),(8,.f 173 (sL [.p 100102 [],Jn2,Qa8])),(26,zs3)],[(100100,N6),(100101,.var 158 Jff),(100102,N6),(100103,Dl)]⟩ [(.x 2,⟨[(4,Qkm),(7,Jfv),(8,.f 173 (sL [.p 100202 [],Jfv,Qkm]))],[(100200,N6),(100201,.var 158 Jn3),(100202,N6),(100203,Dl)]⟩)]),(35,.rg (.n 2 (.call 0 .done))),(44,.lp [4,36,37] [13601,100300,100301,100302] ⟨[(13,Qq1),(38,zs3)],Jfo⟩ [(.x 4,⟨[(13,Q7r)],[(100500,Dl)]⟩)])] func121⟩
def Qrf(N:Nat):V:=⟨⟨217,⟨[(0,.d Ym),(1,Gj),(2,Is)],Jl8⟩,[zs5],u3 (Tm N),[5000,5001]⟩,kF N [] [] func217⟩
def Ia(N:Nat):V:=⟨⟨216,⟨[(0,.d (.sl Ym)),(1,.f 217 (sL [Gj,Is]))],Jl8⟩,[⟨Qgm,[(1,Qir)]⟩],u3 (U7 N),[5000,5001]⟩,kF N [Qrf] [(8,.lp [1,8,9] [] ⟨Jfr,[(100000,Qir)]⟩ [(.x 0,⟨Jji,[(100200,Qir)]⟩)]),(16,.jn [10] [] [(.n,⟨[(5,Qej)],[(100100,Qir)]⟩)]),(20,.rg (.n 2 (.call 0 .done)))] func216⟩
def Qnf(N:Nat):V:=⟨⟨218,Jpo,[⟨[(0,.ag (sL [Ya,zs3,zs3,Ya,zs7,Ry]))],[(1,Quy)]⟩],O6 N,[]⟩,kF N [] [(8,.lp [1,2,7,8] [1,2] ⟨[(3,Rz),(9,zs3)],[(100000,Quy)]⟩ [(.x 0,⟨[(3,Qej)],[(100100,Quy)]⟩)]),(21,.rg (.n 2 (.fz 15 Q43)))] func218⟩
def Qxc(N:Nat):V:=⟨⟨177,(sD [.sl Ym,.str,.i]),[⟨[(0,.ag (sL [Ya,zs3,zs3,Ya,zs7,Ry])),(1,zs7)],[(1,Quy)]⟩],u3 (Qgh N),[]⟩,kF N [Ia,Qnf] [] func177⟩
def T5(N:Nat):V:=⟨⟨122,(sD [Uf,.sl Ym,Ja]),[⟨Qgm,[(1,Q8f)]⟩],u3 (Ge N),[]⟩,kF N [Gl,Qxc] [(6,.lp [1,3,5,18,19] [3,5] ⟨[(20,zs3)],[]⟩ [(.x 0,zs6),(.r,⟨[(6,Qq1)],[(100400,Q8f)]⟩)]),(33,.lp [9,42,43] [8,9,11,13801] ⟨[(13,Qej),(44,zs3)],[(100100,Q8f)]⟩ [(.x 2,⟨[(13,Qil)],[(100200,Q8f)]⟩)])] func122⟩
def Oc(N:Nat):V:=⟨⟨178,Jgf,[zs5],u2 (H6 N),[]⟩,kF N [] [] func178⟩
def Qrg(N:Nat):V:=⟨⟨179,(sD [Yl,Yl,.i]),[Jgc],u3 (Tn N),[]⟩,kF N [M6,Oc] [(5,.jn [6] [3,4,6] [(.n,⟨[(7,R0)],[(100000,.var 58 (.ag (sL [zs3,zs3,Ya,zs3,zs3,Qqz,Qco,zs3,zs3,zs3,zs7]))),(100001,Qqx)]⟩)])] func179⟩
def Qng(N:Nat):V:=⟨⟨180,Jgf,[zs5],u2 (O7 N),[]⟩,kF N [] [] func180⟩
def Qgy(N:Nat):V:=⟨⟨123,⟨[(0,Gj),(1,.d H1)],[(5000,.var 221 (.ag (sL [Qq3,Quu]))),(5001,Ul),(5002,Qa0)]⟩,[⟨[],[(5000,.var 221 (.ag (sL [Ry,Quu]))),(5002,Qa0),(1,Ul)]⟩],u3 (Cf N),[]⟩,kF N [Qmk,M6,Oc,Qrg,Qng] [(4,.an (.dc 7 [9,10,11,12,13,14,15] [5000,3] [] (.b 5000 (.d 5000 5000 (.b 5000 (.d 5000 5002 (.b 3 (.c 3 Jl9)))))))),(14,.gh (.fz 11901 .done)),(14,.lp [0,3,23,24] [3,5000,5001,5002] ⟨[(4,R0),(25,zs3)],[(100000,.var 58 (.ag (sL [zs3,zs3,Ya,zs3,zs3,Qqz,Qco,zs3,zs3,zs3,zs7]))),(100001,.tail 9 .str)]⟩ [(.x 0,⟨[(4,Qa8)],[(100100,.var 58 (.ag (sL [zs3,zs3,Ya,zs3,zs3,Qcn,Qco,zs3,zs3,zs3,zs7]))),(100101,.tail 9 .str)]⟩)]),(37,.lp [0,4] [3,5000,5001,5002,100100,100101] Qqv [(.x 2,Qqv)]),(40,.jn [7] [] [(.n,Jnw)]),(40,.an (.dc 16 [38,39,40,41,42,43,44,45,46,47,48,49,50,51,52,53] [] [5000,5001,100100] (.a (.b 5000 (.d 5000 5000 (.b 5000 (.d 5000 5001 (.c 5001 (.a (.a (.so 45 (.b 5000 (.d 5000 5000 (.b 5000 (.d 5000 5001 (.a (.d 5001 5001 (.c 5001 (.d 100100 100101 (.tl (.call 4 Vq)))))))))) (.a Q7x)))))))))))),(47,.rg (.n 5 (.fz 5001 Q43))),(52,.gh (.dt 100100 .done)),(52,.an (.dc 6 [80,81,82,83,84,85] [5000,100100] [] (.b 5000 (.d 5000 5000 (.b 5000 (.d 5000 5002 (.c 100100 Jl9)))))))] func123⟩
def Qkv(N:Nat):V:=⟨⟨75,(sD [.sl Jt,.sl Ym,Zz,.i,.i]),[Q00],u5 (Mf N),[]⟩,kF N [M6,Qmk,Qna,Qi1,Qne,T5,Qgy] [(8,.lp [0,1,3,4,7,10,27,28] [7,10] ⟨[(11,R0),(29,zs3)],[(100000,.var 221 (.ag (sL [Qqz,.m 100002]))),(100001,Ul),(100002,Qa0)]⟩ [(.x 0,⟨[(11,Qa8)],[(100100,.var 221 (.ag (sL [Qcn,.m 100102]))),(100101,Ul),(100102,Qa0)]⟩)]),(20,.an (.dc 9 [33,34,35,36,37,38,39,40,41] [100000,13,100001] [] (.b 100000 (.b 100000 (.d 100000 100000 (.b 100000 (.d 100000 100001 (.c 13 (.k 0 [] [] [13901] [13901] (.op ⟨.fz 13901 (.nl 1 .done),[13901],[],[],[13901]⟩ (.g [100001] [] [41] [41] Qqy))))))))))),(21,.an (.dc 6 [44,45,46,47,48,49] [100000,13] [] (.b 100000 (.d 100000 100000 (.b 100000 (.d 100000 100002 (.c 13 (.k 1 [] [] [] [] Mx)))))))),(24,.an (.dc 8 [51,52,53,54,55,56,57,14] [7] [] (.b 7 (.c 7 (.e 53 (.b 7 (.c 7 (.e 56 (.g [] [] [] [53,56] (.e 14 Mx)))))))))),(28,.jn [10,14] [7,10,14,53,56] [(.n,⟨[(11,.p 100900 [])],[(100900,.var 221 (.ag (sL [.s 100901,.m 100902]))),(100901,Ul),(100902,Qa0)]⟩)]),(36,.lp [1,4,10,14,16,77,78] [17301,17701] ⟨[(11,Qkm),(79,zs3)],[(100200,.var 221 (.ag (sL [Q0v,.m 100202]))),(100201,Ul),(100202,Qa0)]⟩ [(.x 2,⟨[(11,.p 100800 [])],[(100800,.var 221 (.ag (sL [.s 100801,.m 100802]))),(100801,Ul),(100802,Qa0)]⟩)]),(50,.lp [18,79,83,84] [18] ⟨[(11,Qfn),(85,zs3)],[(100300,.var 221 (.ag (sL [Q03,.m 100302]))),(100301,Ul),(100302,Qa0)]⟩ [(.x 4,⟨[(11,.p 100700 [])],[(100700,.var 221 (.ag (sL [Jf5,.m 100702]))),(100701,Ul),(100702,Qa0)]⟩)]),(64,.lp [85,92,93] [20,19201] ⟨[(11,Quv),(94,zs3)],[(100400,.var 221 (.ag (sL [Q74,.m 100402]))),(100401,Ul),(100402,Qa0)]⟩ [(.x 6,⟨[(11,.p 100600 [])],[(100600,.var 221 (.ag (sL [Jf4,.m 100602]))),(100601,Ul),(100602,Qa0)]⟩)]),(72,.jn [94] [] [(.n,⟨[(11,.p 100500 [])],[(100500,.var 221 (.ag (sL [Jf3,.m 100502]))),(100501,Ul),(100502,Qa0)]⟩)])] func75⟩
def Qrh(N:Nat):V:=⟨⟨219,Q8a,[Jgc],To N,[]⟩,kF N [] [] func219⟩
def Qnh(N:Nat):V:=⟨⟨181,Jl1,[⟨Qgm,[(1,Ul)]⟩],O8 N,[]⟩,kF N [Qrh] [(8,.lp [6,7] [] ⟨[(3,Rz),(8,zs3)],[(100000,Ul)]⟩ [(.x 0,⟨[(3,Qej)],[(100100,Ul)]⟩)]),(19,.rg (.n 2 (.call 0 (.fz 11401 Q43))))] func181⟩
def Qkw(N:Nat):V:=⟨⟨245,My,[zs2],u2 (Ks N),[]⟩,kF N [] [] func245⟩
def Qkx(N:Nat):V:=⟨⟨220,Jgf,[zs5],u2 (Mg N),[]⟩,kF N [Qkw] [] func220⟩
def I0(N n:Nat):Con:=⟨182,(sD [.sl Yl,.i,.i]),[(sD [.sl .i])],fun(x0,x1,x2)=>Uh N n x0 x1 x2,[]⟩
theorem M7(N:Nat):∀n,KO (I0 N n)
 | 0=>⟨Fu fun _=>rfl,Iq func182 rfl⟩
 | n+1=>have ih:=M7 N n; kF N [fun _=>⟨_,ih⟩,Qkx] [(12,.lp [2] [] Jkz [(.x 0,⟨[(7,Qej)],[(100100,Hu)]⟩)]),(37,.lp [0,10,11] [] ⟨[(12,Qil),(13,zs3),(14,zs3)],Jfn⟩ [(.x 2,⟨[(12,Qq1)],Jfm⟩)]),(46,.jn [12,13,14] [100200] [(.n,⟨[(85,zs7)],[]⟩)]),(46,.an (.dc 24 [58,59,60,61,62,63,64,65,66,67,68,69,70,71,72,73,74,75,76,77,78,79,80,81] [] [] (.a (.a (.a (.a (.a (.so 62 (.a (.a (.a (.a (.a Jma))))) (.a (.a (.a (.a (.a (.so 67 (.a (.a (.a (.a (.a (.a (.a (.a (.a (.a (.a (.a (.a (.a (.tl (.call 1 Ja7)))))))))))))))) Jma))))))))))))))] func182
def Qni(N:Nat):V:=⟨I0 N N,M7 N N⟩
def Qnj(N:Nat):V:=⟨⟨183,(sD [Yl,.i,.i,.i,.str,.bool,.i]),[zs5],u7 (O9 N),[]⟩,kF N [Iy] [(4,.rg (.n 10 (.sp 26 6 [1,2,4,5,6,7] [7] ⟨[(32,zs7)],[]⟩ Qsr (.nl 3 Jfc) .done))),(22,.lp [4,7,53,54] [7] ⟨[(55,zs3)],[]⟩ [(.x 0,zs6),(.r,⟨[(14,zs7)],[]⟩)])] func183⟩
def Q1b(N:Nat):V:=⟨⟨184,Q8a,[(sD [Rd])],Qkj N,[]⟩,kF N [] [] func184⟩
def Qsv(N:Nat):V:=⟨⟨124,(sD [.sl Yl,.i,.i,.i,.str,.bool,.i,.i]),[⟨[(0,Ry),(1,Q0u),(2,zs3)],[(1,Ul),(2,Ud)]⟩],u8 (Qcb N),[]⟩,kF N [Qnh,Qni,Qnj,Q1b] [(12,.lp [0,1,2,3,4,5,6,32,33] [] ⟨[(7,zs3),(19,Rz),(20,Qqz),(34,zs3)],[(100000,Ul),(100001,Ud)]⟩ [(.x 0,⟨[(7,zs3),(19,Qmb),(20,Q03)],[(100300,Ul),(100301,Ud)]⟩)]),(20,.jn [34] [] [(.n,⟨[(7,zs3),(19,Qil),(20,Q0v)],[(100200,Ul),(100201,Ud)]⟩),(.x 0,⟨[(7,zs3),(19,Qej),(20,Qcn)],[(100100,Ul),(100101,Ud)]⟩)])] func124⟩
def Qnk(N:Nat):V:=⟨⟨76,(sD [Zz,J0,.str,.bool]),[⟨[(0,Ja8),(1,.s 4),(2,zs3)],[(1,Ul),(2,Qav),(3,Qaw),(4,Ud)]⟩],u4 (Pa N),[]⟩,kF N [D7,Qsv] [] func76⟩
def Qky(N:Nat):V:=⟨⟨49,⟨Qay,[(5000,.var 144 (.ag (sL [Hv,Br,Ub,Ak,Bq,.ag (sL [Ya,zs3,zs7,Qmh,Qq3,N7,R2]),zs3,.ag (sL [Ub,zs3,Ya,zs3,Ya,Qaz,Qme,zs3,zs3,zs3,Qio,zs3,zs3])]))),(5001,Wp),(5002,He),(5003,Fi),(5004,Ud),(5005,Ue),(5006,Ur)]⟩,[⟨[],[(5000,.var 144 (.ag (sL [Hv,Ja8,Ub,Ak,Bq,.ag (sL [Ya,zs3,zs7,Qmh,.s 4,.s 5,.s 6]),zs3,.ag (sL [Ub,zs3,Ya,zs3,Ya,.s 7,.s 8,zs3,zs3,zs3,.s 9,zs3,zs3])]))),(1,Ul),(2,Qav),(3,Qaw),(4,Wp),(5,He),(6,Fi),(7,Ud),(8,Ue),(9,Ur)]⟩],u26 (Mh N),[5004]⟩,kF N [Qi0,Qkv,Qnk] [(1,.an (.dc 21 [5,6,7,8,9,10,11,12,13,14,15,16,17,18,19,20,21,22,23,24,2] [5000] [] (.b 5000 (.d 5000 5000 (.b 5000 (.b 5000 (.c 5000 (.b 5000 (.d 5000 5000 (.b 5000 (.c 5000 (.b 5000 (.d 5000 5000 (.b 5000 (.b 5000 (.c 5000 (.b 5000 (.d 5000 5000 (.b 5000 (.b 5000 (.c 5000 (.k 0 [] [] [12403,12402,12401] [12401,12402,12403] (.e 2 Mx))))))))))))))))))))))),(3,.an (.dr 21 (.n 21 .done) Jfg)),(5,.gh (.fz 14601 (.dt 2 (.fz 14602 (.dt 2 (.fz 14603 (.dt 2 .done))))))),(5,.an (.dc 22 [48,49,50,51,52,53,54,55,56,57,58,59,60,61,62,63,47,64,65,66,1000000020,3] [2,5000] [] (.c 2 (.b 5000 (.d 5000 5000 (.b 5000 (.c 5000 (.b 5000 (.d 5000 5000 (.b 5000 (.b 5000 (.c 5000 (.b 5000 (.d 5000 5000 (.b 5000 (.b 5000 (.c 5000 (.k 2 [] [] [16304,16303,16302,16301] [16301,16302,16303,16304] (.g [] [] [] [16301,16302,16303,16304] (.g [] [] [] [16301,16302,16303] (.b 16304 (.a (.g [2] [16301,16302,16303] [] [2,16301,16302,16303] (.b 16304 Mx))))))))))))))))))))))))] func49⟩
def Qkz(N:Nat):V:=⟨⟨185,(sD [J0,.i]),[zs5],u2 (Mi N),[]⟩,kF N [] [] func185⟩
def Qxd(N:Nat):V:=⟨⟨192,Qm0,[zs5],Qgi N,[]⟩,kF N [] [(6,.lp [0,6] [] Qqv Qqw)] func192⟩
def Qnl(N:Nat):V:=⟨⟨194,⟨[(0,.d Vw),(1,Gj)],Jmb⟩,[zs5],u2 (Pb N),[5000]⟩,kF N [] [] func194⟩
def I9(N:Nat):V:=⟨⟨225,Jmd,[zs2],u2 (Zh N),[5000]⟩,kF N [Qnl] [(6,.lp [0,1,7] [] Qik Qsq),(18,.rg (.n 5 (.call 0 .done)))] func225⟩
def Cl(N:Nat):V:=⟨⟨193,Jmd,[zs5],u2 (Ui N),[5000]⟩,kF N [I9] [] func193⟩
def Qsw(N:Nat):V:=⟨⟨195,Jlm,[zs2],Qcd N,[]⟩,kF N [] [(22,.lp [11,12] [] ⟨[(13,zs3)],[]⟩ Qm2)] func195⟩
def Pp(N:Nat):V:=⟨⟨130,Jkv,[zs2],Dj N,[]⟩,kF N [Qxd,Cl,Qsw] [(22,.lp [0,12,13] [] ⟨[(14,zs3)],[]⟩ Qm2),(30,.jn [14] [] [(.n,zs6),(.r,⟨[(2,zs3)],[]⟩)])] func130⟩
def Qgz(N:Nat):V:=⟨⟨227,Q0z,[zs2],u2 (Ch N),[]⟩,kF N [] [(6,.lp [0,1,7] [] Qik Qsq)] func227⟩
def Qbg(N:Nat):V:=⟨⟨198,Q0z,[zs5],u2 (Hl N),[]⟩,kF N [Qgz] [] func198⟩
def M8(N:Nat):V:=⟨⟨136,zs2,[zs2],G4 N,[]⟩,kF N [] [] func136⟩
def Qml(N:Nat):V:=⟨⟨132,Q0z,[zs2],u2 (Qd9 N),[]⟩,kF N [Qbg,M8] [] func132⟩
def Qri(N:Nat):V:=⟨⟨196,⟨[(0,.d Kk),(1,Gj),(2,Is)],Jme⟩,[zs5],u3 (Tp N),[5000,5001]⟩,kF N [] [] func196⟩
def La(N:Nat):V:=⟨⟨226,Jmf,[zs2],u3 (Zi N),[5000,5001]⟩,kF N [Qri] [(6,.lp [0,1,7] [] Qik Qsq),(18,.rg (.n 5 (.call 0 .done)))] func226⟩
def Cm(N:Nat):V:=⟨⟨197,Jmf,[zs5],u3 (Uj N),[5000,5001]⟩,kF N [La] [] func197⟩
def Qi3(N:Nat):V:=⟨⟨131,(sD [.sl Vw,.i,.i]),[Qm0],u3 (Tq N),[]⟩,kF N [Cm] [(8,.lp [0,7,11,12] [4,5] ⟨[(13,zs3)],[]⟩ [(.x 0,zs6),(.r,⟨[(6,Ya)],[]⟩)])] func131⟩
def Qrj(N:Nat):V:=⟨⟨80,(sD [.sl Vw,.sl .i,.i]),[Qm0],u3 (Qid N),[]⟩,kF N [Pp,Qml,Qi3] [] func80⟩
def Qrk(N:Nat):V:=⟨⟨221,(sD [.sl Vw,.i]),[Jfl],u2 (Tr N),[]⟩,kF N [fun _=>⟨_,Qgl⟩,fun _=>⟨_,Qa7⟩,fun _=>⟨_,D6⟩] [(3,.rg (.br Vq)),(8,.lp [1,11,12] [] ⟨[(5,Rz),(13,zs3)],Jfj⟩ [(.x 0,⟨[(5,Qq1)],Jfm⟩)]),(22,.lp [13,18,19] [7] ⟨[(5,Qej),(20,zs3)],[(100100,Hu)]⟩ [(.x 2,⟨[(5,Qmb)],[(100300,Hu)]⟩)]),(30,.jn [20] [] [(.n,⟨Jji,Jfn⟩)]),(36,.rg (.n 5 (.br Q44)))] func221⟩
def Q1c(N:Nat):V:=⟨⟨186,(sD [.sl Vw,.sl .i,Ja]),[⟨Qgm,[(1,Quz)]⟩],u3 (Qkk N),[]⟩,kF N [Pp,Ku,Qml,Qrk,Gl,Qi3] [(4,.rg (.n 1 (.call 0 (.n 2 (.sp 21 4 [0,1,5] [5] Jgd Tx Q05 Qma))))),(16,.lp [0,1,5] [5] ⟨[(7,Qej),(8,zs3)],[(100100,Quz)]⟩ [(.x 0,⟨[(7,.s 100700)],[(100700,Quz)]⟩)]),(32,.lp [8,9,10,51,52] [15001] ⟨[(7,Qil),(53,zs3)],[(100200,Quz)]⟩ [(.x 2,⟨[(7,.s 100600)],[(100600,Quz)]⟩)]),(40,.jn [53] [] [(.n,⟨[(7,Q7r)],[(100500,Quz)]⟩)]),(46,.jn [7,12,53] [100200] [(.n,⟨[(13,Qfn)],[(100300,Jfw)]⟩)]),(60,.an (.dc 7 [90,91,92,93,94,95,16] [14] [] (.a (.a (.a (.k 5 [] [] [] [] (.c 14 (.a (.e 16 Mx))))))))),(64,.an (.dr 12 (.n 3 (.sp 101 9 [7,14,16,17,53] [14,16,100200,100300] ⟨[(110,zs7)],[]⟩ Qkl Qkl .done)) .done))] func186⟩
def Qk0(N:Nat):V:=⟨⟨187,⟨[(0,.d Gy),(1,Gj),(2,Is),(3,.p 5002 [])],[(5000,N6),(5001,Q07),(5002,Q07)]⟩,[zs5],u4 (Mj N),[5000,5001,5002]⟩,kF N [] [] func187⟩
def Qrl(N:Nat):V:=⟨⟨126,(sD [J5,.i,.str,.str]),[⟨[(0,.ag (sL [zs3,Ya,Ya,zs3,Ry])),(1,zs7)],[(1,Q75)]⟩],u4 (Tt N),[]⟩,kF N [Qk0] [(8,.lp [10,15,16] [4,5,6,7] ⟨[(8,R0),(17,zs3)],[(100000,Jmg)]⟩ [(.x 0,⟨[(8,Qa8)],[(100100,Jmg)]⟩),(.r,⟨[(8,Qkm),(9,zs7)],[(100200,.var 102 (.ag (sL [zs3,Ya,Ya,zs3,Q0v]))),(100201,Q75)]⟩)]),(20,.rg (.n 2 (.call 0 .done)))] func126⟩
def R9(N:Nat):V:=⟨⟨222,(sD [.i,.sl .i]),[zs5],u2 (Gf N),[]⟩,kF N [] [(6,.lp [0,7,8] [] Qiq zs8)] func222⟩
def Qg0(N:Nat):V:=⟨⟨188,⟨[(0,.s 5000)],Jgg⟩,[zs2],Ci N,[5000]⟩,kF N [R9] [(24,.lp [0,12,13] [] ⟨[(3,zs3),(14,zs3)],[]⟩ Qm2),(37,.rg (.n 5 (.call 0 (.n 7 (.sp 31 6 [3,4,5,14] [5] Jnt Qsr (.nl 3 Jfc) .done)))))] func188⟩
def Qi4(N:Nat):V:=⟨⟨189,⟨[(0,.s 5000),(1,zs3)],Jgg⟩,[Qq4],u2 (H7 N),[5000]⟩,kF N [] [(8,.lp [1,12,13] [] ⟨[(6,zs3),(7,zs3),(14,zs3)],[]⟩ [(.x 0,zs9),(.r,⟨[(4,zs3),(5,zs7)],[]⟩)]),(22,.jn [6,7,9,14] [9] [(.n,⟨[(10,zs3)],[]⟩)]),(37,.an (.dr 7 Q7q .done))] func189⟩
def Qey(N:Nat):V:=⟨⟨127,⟨[(0,.s 5000),(1,zs3),(2,zs3)],Jgg⟩,[My],u3 (Af N),[5000]⟩,kF N [Qg0,Qi4] [] func127⟩
def Qk1(N:Nat):V:=⟨⟨125,Jmh,[⟨Qgm,[(1,Ue)]⟩],u4 (Mm N),[]⟩,kF N [Qkz,Pp,Qrj,Q1c] [(4,.rg (.n 2 (.call 0 (.n 2 (.sp 17 5 [1,3,4,6] [4,6] Jns Hm Jfb .done))))),(13,.jn [1,3,4,6] [4,6] [(.n,Qiq)]),(23,.an (.dc 10 [39,40,41,42,43,44,45,46,47,48] [4,6] [] (.b 4 (.c 4 (.a (.a (.k 2 [] [] [] [] (.a (.b 6 (.c 6 (.a (.a (.tl (.n 1 (.br Vq))))))))))))))),(32,.lp [61,62] [4,6,16101] ⟨[(10,Qil),(63,zs3)],[(100200,Ue)]⟩ [(.x 0,⟨[(10,Qmb)],[(100300,Ue)]⟩)]),(43,.rg (.n 14 (.br Q44)))] func125⟩
def Qnm(N:Nat):V:=⟨⟨77,Jmh,[⟨Jmi,[(1,Ue)]⟩],u4 (Pd N),[]⟩,kF N [Qiy,Qk1,Qrl,Qey] [(15,.lp [4,6,11,37] [4,6] ⟨[(13,Rz),(14,zs3),(15,zs3),(16,zs3),(17,zs3),(38,zs3)],[(100000,Ue)]⟩ [(.x 0,⟨[(13,Qil),(14,zs3),(15,zs3),(17,zs3)],[(100200,Ue)]⟩)]),(27,.an (.dc 15 [42,43,44,45,46,47,48,49,50,51,41,52,53,19,1000000014] [100000] [4,6] (.c 4 (.b 6 (.c 6 (.a (.b 100000 (.a (.d 100000 100000 (.b 100000 (.c 100000 (.k 2 [] [] [15101] [15101] (.b 15101 (.b 15101 (.a (.e 19 (.g [19] [15101] [] [19,15101] Mx))))))))))))))))),(37,.jn [13,15,16,17,18,19,38] [19,15101,100000] [(.n,⟨[(14,zs3)],[]⟩)]),(43,.an (.dc 13 [61,62,63,64,65,66,67,68,69,60,70,71,21] [19,100000,15101] [] (.b 19 (.d 19 15101 (.a (.b 100000 (.a (.d 100000 100000 (.b 100000 (.c 100000 (.k 3 [] [15101] [] [] Jmj))))))))))),(59,.jn [13,14] [4,6,100200] [(.n,⟨[(17,zs3)],[]⟩)])] func77⟩
def Qk2(N:Nat):V:=⟨⟨50,⟨Qay,[(5000,.var 144 (.ag (sL [Hv,.ag (sL [Qq3,N7,R2]),Ub,Ak,Bq,.ag (sL [Ya,zs3,zs7,Qmh,Qaz,Qme,Qio]),zs3,Jli]))),(5001,Ul),(5002,Qav),(5003,Qaw),(5004,Wp),(5005,He),(5006,Fi),(5007,Ud),(5008,Ue),(5009,Ur)]⟩,[⟨Qip,[(5000,Jmk),(1,Ul),(2,Qav),(3,Qaw),(4,Ud),(5,Ue),(6,Ur)]⟩],u28 (Mp N),[]⟩,kF N [Qnm] [(3,.gh (.fz 5004 (.dt 5000 (.fz 5005 (.dt 5000 Jle))))),(3,.an (.dc 24 [10,11,12,13,14,15,16,17,18,19,20,21,22,23,24,25,26,27,9,28,29,30,3,4] [5000] [] (.b 5000 (.d 5000 5000 (.b 5000 (.c 5000 (.b 5000 (.d 5000 5000 (.b 5000 (.b 5000 (.c 5000 (.b 5000 (.d 5000 5000 (.b 5000 (.c 5000 (.b 5000 (.d 5000 5000 (.b 5000 (.c 5000 (.k 0 [] [] [12701] [12701] (.b 12701 (.b 12701 (.a (.a (.b 12701 Qur))))))))))))))))))))))))),(18,.lp [0,3,4,35,36] [5000,5001,5002,5003,5004,5005,5006,5007,5008,5009,12701] ⟨[(6,zs3),(37,zs3)],[]⟩ [(.x 0,zs9)]),(26,.jn [37] [] [(.n,zs9)])] func50⟩
def Qxe(N:Nat):V:=⟨⟨48,⟨Qay,[(5000,.var 138 Is),(5001,.var 144 (.ag (sL [Hv,Br,Ub,Ak,Bq,.ag (sL [Ya,zs3,zs7,Qmh,N7,R2,Qaz]),zs3,Jf7]))),(5002,Wp),(5003,He),(5004,Fi),(5005,Ud),(5006,Ue),(5007,Ur)]⟩,[⟨Qip,[(5001,Jmk),(1,Ul),(2,Qav),(3,Qaw),(4,Ud),(5,Ue),(6,Ur)]⟩],u26 (Qgj N),[5000,5005]⟩,kF N [Qky,Qk2] [] func48⟩
def Qnn(N:Nat):V:=⟨⟨43,⟨[(0,.f 48 Qmf),(1,.p 5008 [])],[(5000,.var 138 Is),(5001,.var 144 (.ag (sL [Hv,Br,Ub,Ak,Bq,.ag (sL [Ya,zs3,zs7,Qmh,N7,R2,Qaz]),zs3,Jf7]))),(5002,Wp),(5003,He),(5004,Fi),(5005,Ud),(5006,Ue),(5007,Ur),(5008,Qmg)]⟩,[⟨[],[(5001,.var 144 (.ag (sL [Hv,Q8g,Ub,Ak,Bq,.ag (sL [Ya,zs3,zs7,Qmh,Jmc,.d (.sl Gy),.d (.sl Y9)]),zs3,Q8h]))),(5008,Qmg),(1,Ud),(2,Ue),(3,Ur)]⟩],u27 (Pe N),[5000]⟩,kF N [Qxe] [(3,.rg (.n 1 Qm1))] func43⟩
def Qk3(N:Nat):V:=⟨⟨129,My,[Q0y],u2 (Mq N),[]⟩,kF N [R7,Iz] [] func129⟩
def Sa(N:Nat):V:=⟨⟨79,Jgh,[zs2],u20 (Ms N),[5000,5001,5002,5003]⟩,kF N [Qk3] [(3,.an (.dr 10 Jjm Jfq))] func79⟩
def Ap(N:Nat):V:=⟨⟨128,(sD [Yn,Yn]),[zs2],u2 (Xt N),[]⟩,kF N [] [(6,.lp [22] [2,3] ⟨[(23,zs3)],[]⟩ Qsq)] func128⟩
def Qsx(N:Nat):V:=⟨⟨78,(sD [.sl Yn,.i,.i,.i]),[Jgi],u4 (Qcg N),[]⟩,kF N [Ap] [(8,.lp [9,16,17] [9] ⟨[(8,R0),(18,zs3)],[(100000,Q08)]⟩ [(.x 0,⟨[(8,Qa8)],[(100100,Q08)]⟩),(.r,⟨[(8,Qkm)],[(100200,Q08)]⟩)])] func78⟩
def Qrm(N:Nat):V:=⟨⟨82,(sD [J0,.str,.str,Yn,.bool]),[(sD [Rc])],u5 (I5 N),[]⟩,kF N [M8] [(17,.an (.dr 9 (.n 9 .done) Vq))] func82⟩
def Qg1(N:Nat):V:=⟨⟨253,zs2,[zs2],Kt N,[]⟩,kF N [] [] func253⟩
def Qez(N:Nat):V:=⟨⟨254,Qm0,[zs2],J9 N,[]⟩,kF N [] [(7,.jn [3] [] [(.n,⟨[(4,zs7)],[]⟩)]),(33,.jn [3] [] [(.n,⟨[(11,zs7)],[]⟩)])] func254⟩
def Qg2(N:Nat):V:=⟨⟨255,(sD [.i,.arr 2 .i]),[My],u2 (Cj N),[]⟩,kF N [] [(3,.an (.dr 6 Q0w .done)),(7,.jn [] [3] [(.n,⟨[(8,zs3),(9,zs7)],[]⟩)]),(15,.jn [6,7,8,14] [] [(.n,Jgd)]),(23,.jn [6,7,8,14] [] [(.n,⟨[(34,zs7)],[]⟩)]),(31,.jn [6,7,8] [] [(.n,⟨[(44,zs7)],[]⟩)])] func255⟩
def M9(N n:Nat):Con:=⟨228,zs1,[My],fun(x0,x1)=>Ua N n x0 x1,[]⟩
theorem Od(N:Nat):∀n,KO (M9 N n)
 | 0=>⟨Fu fun _=>rfl,Iq func228 rfl⟩
 | n+1=>have ih:=Od N n; kF N [Qg1,R9,Qez,fun _=>⟨_,ih⟩,Qg2] [(12,.an (.dc 6 [14,15,16,17,18,19] [2] [] (.b 2 (.c 2 (.k 0 [] [] [] [] (.b 2 (.c 2 Qur))))))),(73,.lp [1,2,46,47] [2] ⟨[(7,R0),(48,zs3)],[(100000,Q8e)]⟩ [(.x 1,⟨[(7,Qa8)],[(100100,Q8e)]⟩),(.r,Jfk)])] func228
def Qrn(N:Nat):V:=⟨M9 N N,Od N N⟩
def Qdj(N:Nat):V:=⟨⟨199,Qq0,[My],G5 N,[]⟩,kF N [Qrn] [] func199⟩
def Ho(N n:Nat):Con:=⟨200,Q09,[zs5],fun(x0,x1)=>Yh N n x0 x1,[]⟩
theorem Qno(N n:Nat)(ih:KO (Ho N n)):KO ⟨229,Jmn,[zs5],fun(x0,c7,ca)=>Uo N (Yh N n) x0 c7 ca,[5000,5001]⟩:=kF N [fun _=>⟨_,ih⟩] [(3,.an (.dr 6 Q0w Qm1))] func229
def Q1d(N:Nat):V:=⟨⟨256,Q09,[Qm0],u2 (Qea N),[]⟩,kF N [] [] func256⟩
def Qsy(N:Nat):V:=⟨⟨265,zs2,[Qq4],Fh N,[]⟩,kF N [] [] func265⟩
def Qk4(N:Nat):V:=⟨⟨266,(sD [.str,Rc]),[zs2],u2 (Mt N),[]⟩,kF N [] [] func266⟩
def Aq(N n:Nat):Con:=⟨257,Q09,[Qq4],fun(x0,x1)=>Uq N n x0 x1,[]⟩
theorem Qk5(N n:Nat)(ih:KO (Aq N n)):KO ⟨267,Jmn,[Qq4],fun(x0,c7,ca)=>Xz N (Uq N n) x0 c7 ca,[5000,5001]⟩:=kF N [fun _=>⟨_,ih⟩] [(3,.an (.dc 9 [6,7,8,9,10,11,12,13,14] [] [5000,5001] (.b 5000 (.c 5000 (.a (.a (.a (.c 5001 (.k 0 [] [] [] [] Jk2)))))))))] func267
def Q45(N:Nat):V:=⟨⟨268,My,[Qq4],u2 (Qig N),[]⟩,kF N [] [] func268⟩
def Qro(N:Nat):V:=⟨⟨269,My,[Qq4],u2 (I6 N),[]⟩,kF N [] [] func269⟩
theorem Sc(N:Nat):∀n,KO (Aq N n)
 | 0=>⟨Fu fun _=>rfl,Iq func257 rfl⟩
 | n+1=>have ih:=Sc N n; kF N [Qsy,Qk4,fun _=>⟨_,Qk5 N n ih⟩,Q45,Qro] [(22,.rg (.n 1 (.call 2 Jjl))),(24,.rg (.n 1 (.call 2 Jjl))),(40,.jn [2,7] [2,3] [(.n,Qiq),(.x 1,Qiq),(.x 4,Qiq)])] func257
def Qsz(N:Nat):V:=⟨Aq N N,Sc N N⟩
def Qrp(N:Nat):V:=⟨⟨230,Q09,[Qq4],u2 (I7 N),[]⟩,kF N [Qdj,Q1d,Qsz] [(9,.an (.dc 11 [24,25,26,27,28,29,30,31,32,33,34] [2,3] [] (.b 2 (.c 2 (.a (.a (.c 3 (.k 1 [] [] [] [] (.b 2 (.c 2 (.a (.a (.c 3 (.tl (.call 1 Q44))))))))))))))),(30,.an (.dc 10 [45,46,47,48,49,50,44,51,52,10] [2,3] [] Jmo)),(32,.an (.dc 10 [54,55,56,57,58,59,53,60,61,12] [2,3] [] Jmo))] func230⟩
theorem Na(N:Nat):∀n,KO (Ho N n)
 | 0=>⟨Fu fun _=>rfl,Iq func200 rfl⟩
 | n+1=>have ih:=Na N n; kF N [fun _=>⟨_,Qno N n ih⟩,Qrp] [(18,.rg (.n 1 Jfq)),(24,.rg (.n 1 (.call 0 (.n 1 (.sp 24 3 [5] [2,3] ⟨[(27,zs7)],[]⟩ Jge Ja7 Vq))))),(30,.rg (.n 1 (.call 0 (.n 1 (.sp 32 3 [5] [2,3] Jfh Ja7 Jge Vq)))))] func200
def Qnp(N:Nat):V:=⟨Ho N N,Na N N⟩
def Qxf(N:Nat):V:=⟨⟨134,Q09,[zs5],u2 (Qgk N),[]⟩,kF N [Qdj,Qnp] [] func134⟩
def Qg3(N:Nat):V:=⟨⟨133,⟨[(0,.d Y9),(1,Gj)],[(5000,Jmm)]⟩,[zs5],u2 (Rs N),[5000]⟩,kF N [Qxf] [] func133⟩
def Qnq(N:Nat):V:=⟨⟨231,Q79,[My],u3 (Pf N),[]⟩,kF N [] [(8,.lp [0,1,2] [] ⟨[(8,zs3),(9,zs3),(10,zs3)],[]⟩ [(.x 0,Jmp),(.r,⟨[(6,zs3),(7,zs3)],[]⟩)]),(20,.jn [10] [] [(.n,Jmp)])] func231⟩
def Qk6(N:Nat):V:=⟨⟨232,zs2,[My],Mu N,[]⟩,kF N [Am] [] func232⟩
def Qrq(N:Nat):V:=⟨⟨201,Q79,[My],u3 (Tv N),[]⟩,kF N [Am,Qnq,Qk6] [(13,.jn [0] [] Jf6),(19,.jn [] [] Jf6)] func201⟩
def Qk7(N:Nat):V:=⟨⟨135,My,[My],u2 (Mv N),[]⟩,kF N [Qrq] [] func135⟩
def Qk8(N:Nat):V:=⟨⟨81,(sD [.sl Y9,Rc,.i]),[⟨Jmi,[(1,Ur)]⟩],u3 (Qci N),[]⟩,kF N [Qg3,Qk7] [(20,.lp [9,24,25] [4] ⟨[(10,Rz),(11,zs3),(26,zs3)],[(100000,Ur)]⟩ [(.x 0,⟨[(10,Qmb),(11,zs3)],[(100300,Ur)]⟩),(.r,⟨[(6,.ns),(7,zs3),(8,zs3)],[]⟩)]),(28,.jn [26] [] [(.n,⟨[(10,Qej),(11,zs3)],[(100100,Ur)]⟩),(.r,⟨[(6,.ns),(7,zs3),(8,zs3)],[]⟩)]),(33,.rg (.n 2 Qm1))] func81⟩
def Qdk(N:Nat):V:=⟨⟨52,Jgh,[⟨Qip,[(5000,Jgj),(1,Ud),(2,Ue),(3,Ur)]⟩],u20 (Mw N),[]⟩,kF N [Sa,Qsx,Qrj,Qrm,Qk8] [(3,.an (.dc 19 [8,9,10,11,12,13,14,15,16,17,18,19,20,21,22,23,24,25,3] [5000,5001,5002,5003] [] (.b 5000 (.d 5000 5000 (.b 5000 (.b 5000 (.c 5000 (.b 5000 (.d 5000 5000 (.b 5000 (.b 5000 (.c 5000 (.b 5000 (.d 5000 5000 (.b 5000 (.b 5000 (.c 5000 (.b 5000 (.k 0 [] [5000,5001,5002,5003] [] [] (.k 1 [] [] [] [] Q7u)))))))))))))))))))),(5,.an (.dr 15 Jjf (.call 2 Vq))),(7,.an (.dc 34 [43,44,45,46,47,48,49,50,51,52,53,54,55,56,57,58,59,60,61,62,63,64,65,66,67,68,69,70,42,71,72,73,5,6] [5000,3] [] (.b 5000 (.d 5000 5000 (.b 5000 (.b 5000 (.c 5000 (.b 5000 (.d 5000 5000 (.b 5000 (.c 5000 (.b 5000 (.d 5000 5000 (.b 5000 (.b 5000 (.c 5000 (.a (.c 3 (.b 5000 (.d 5000 5000 (.b 5000 (.b 5000 (.c 5000 (.k 3 [] [] [] [] (.b 5000 (.d 5000 5000 (.b 5000 (.b 5000 (.c 5000 (.k 4 [] [] [17001] [17001] (.b 17001 (.b 17001 (.a (.a (.b 17001 Qur)))))))))))))))))))))))))))))))))))] func52⟩
def Qxg(N:Nat):V:=⟨⟨51,Jmq,[Jmr],u20 (Qqt N),[5000]⟩,kF N [Qdk] [] func51⟩
def Qnr(N:Nat):V:=⟨⟨43,⟨[(0,.f 51 Qmf),(1,.p 5005 [])],Jms⟩,[Jmt],u21 (Qfk N),[5000]⟩,kF N [Qxg] [(3,.rg (.n 1 Qm1))] func43⟩
def Qfo(N:Nat):V:=⟨⟨138,Jga,[zs2],N5 N,[]⟩,kF N [Ao] [] func138⟩
def Qrr(N:Nat):V:=⟨⟨139,Qmi,[Qmi],u2 (Tw N),[]⟩,kF N [Ao,D8,Kc,Qfo] [] func139⟩
def Qe0(N:Nat):V:=⟨⟨137,⟨[(0,.s 5000)],[(5000,Qav)]⟩,[Jl3],Ag N,[5000]⟩,kF N [] [(8,.lp [9,10] [] ⟨[(3,Q77),(11,zs3)],[(100000,Qax)]⟩ [(.x 0,⟨[(3,.m 100200)],[(100200,Qax)]⟩)]),(16,.jn [11] [] [(.n,⟨[(3,Q78)],[(100100,Qax)]⟩)])] func137⟩
def Qs0(N:Nat):V:=⟨⟨83,(sD [Zz,.i,.i,.bool]),[⟨[(0,Ja8),(1,zs3),(2,zs3)],Jk4⟩],u4 (Qcj N),[]⟩,kF N [D7,Qe0,Qfo,Qrr] [] func83⟩
def Qns(N:Nat):V:=⟨⟨202,zs2,[zs5],Pg N,[]⟩,kF N [] [(6,.lp [0,5] [] zs9 Qqw)] func202⟩
def I1(N:Nat):V:=⟨⟨141,Jgi,[zs5],Wk N,[]⟩,kF N [Qns] [(3,.rg (.n 9 (.sp 11 4 [1] [1] ⟨[(15,zs7)],[]⟩ (.nl 2 Qm1) Tx (.n 11 .done))))] func141⟩
def Sd(N:Nat):V:=⟨⟨142,Jgi,[zs5],Gg N,[]⟩,kF N [] [] func142⟩
def Qnt(N:Nat):V:=⟨⟨140,(sD [.sl Yn]),[zs5],Ph N,[]⟩,kF N [I1,Sd,Ap] [(6,.lp [0,5,6] [] Qqv Qqw),(19,.rg (.n 1 (.call 0 (.n 2 (.sp 15 4 [3,4,7] [4] Jfa Tx Q05 Jjm))))),(26,.jn [7] [4] [(.n,Jfd)]),(26,.an (.dc 9 [30,31,32,33,34,35,36,37,38] [] [4] (.a (.a (.a (.so 32 (.a (.a (.a (.a (.a (.c 4 (.tl Jje))))))) Jph))))))] func140⟩
def Qnu(N:Nat):V:=⟨⟨143,⟨[(0,Gj),(1,Is)],[(5000,.var 37 Jml),(5001,Q08)]⟩,[My],u2 (Pi N),[5000,5001]⟩,kF N [Ap] [(6,.lp [0,1,6,7] [] Qik Jpn),(35,.an (.dr 6 Q0w .done))] func143⟩
def Qs1(N:Nat):V:=⟨⟨84,(sD [.sl Yn,Yn]),[⟨[(0,Ry),(1,zs3)],[(1,Qaw)]⟩],u2 (Qck N),[]⟩,kF N [Qnt,I1,Sd,Qnu] [(4,.rg (.n 1 (.call 0 (.n 2 (.sp 14 4 [2,3] [2,3] Q0t Tx Q05 .done))))),(21,.rg (.n 1 (.call 3 Jjl))),(25,.jn [2,7,8] [2,3] [(.n,⟨[(9,Qa8)],[(100100,Q08)]⟩)]),(29,.an (.dr 9 (.n 9 .done) Vq)),(30,.an (.dr 9 (.n 9 .done) Vq)),(43,.jn [2,8] [2,3,100100] [(.n,⟨[(10,Qil)],[(100200,Qaw)]⟩)])] func84⟩
def Qrs(N:Nat):V:=⟨⟨54,Jgh,[⟨Qip,[(5000,.var 144 (.ag (sL [Hv,Q8g,Ub,Ak,Bq,Qu0,zs3,Q8h]))),(1,Ud),(2,Ue),(3,Ur)]⟩],u20 (Qii N),[]⟩,kF N [Qs0,Sa,Qs1] [(3,.an (.dc 27 [9,10,11,12,13,14,15,16,17,18,19,20,21,22,23,24,25,26,27,28,8,29,30,31,3,1000000025,4] [5000] [] (.b 5000 (.d 5000 5000 (.b 5000 (.c 5000 (.b 5000 (.d 5000 5000 (.b 5000 (.b 5000 (.c 5000 (.b 5000 (.d 5000 5000 (.b 5000 (.b 5000 (.c 5000 (.b 5000 (.d 5000 5000 (.b 5000 (.b 5000 (.c 5000 (.k 0 [] [] [12803,12802,12801] [12801,12802,12803] (.g [] [] [] [12801,12802,12803] (.g [] [] [] [12801,12802,12803] (.a (.a (.e 3 (.g [3] [12801,12802,12803] [] [3,12801,12802,12803] Qur)))))))))))))))))))))))))))),(5,.gh (.fz 12803 (.dt 3 .done))),(5,.an (.dc 30 [33,34,35,36,37,38,39,40,41,42,43,44,45,46,47,48,49,50,51,52,53,54,55,56,57,58,32,59,60,6] [3,5000,5001,5002,5003] [] (.b 3 (.c 3 (.b 5000 (.d 5000 5000 (.b 5000 (.b 5000 (.c 5000 (.b 5000 (.d 5000 5000 (.b 5000 (.b 5000 (.c 5000 (.b 5000 (.k 1 [] [5000,5001,5002,5003] [] [] (.b 5000 (.d 5000 5000 (.b 5000 (.b 5000 (.c 5000 (.b 5000 (.d 5000 5000 (.b 5000 (.b 5000 (.c 5000 (.a (.k 2 [] [] [15801] [15801] (.b 15801 (.b 15801 (.a (.b 15801 Mx))))))))))))))))))))))))))))))))] func54⟩
def Qxh(N:Nat):V:=⟨⟨53,Jmq,[Jmr],u20 (Qqu N),[5000]⟩,kF N [Qrs] [] func53⟩
def Qnv(N:Nat):V:=⟨⟨43,⟨[(0,.f 53 Qmf),(1,.p 5005 [])],Jms⟩,[Jmt],u21 (Qfl N),[5000]⟩,kF N [Qxh] [(3,.rg (.n 1 Qm1))] func43⟩
def Q46(N:Nat):V:=⟨⟨28,(sD [Vx,Zz,J0]),[⟨[(0,Q8g),(1,Q8h)],[(1,Ud),(2,Ue),(3,Ur)]⟩],u3 (Rx N),[]⟩,kF N [Qw7,Qw9,Qm8,Qnn,Qnr,Qnv] [(7,.an (.dc 5 [18,19,20,21,1000000004] [4,5,6] [] (.c 4 (.k 0 [] [] [11903,11902,11901] [11901,11902,11903] (.c 5 (.a (.g [6] [11901,11902,11903] [] [6,11901,11902,11903] Mx))))))),(17,.rg (.n 2 (.call 1 .done))),(19,.rg (.n 2 (.call 2 .done))),(21,.rg (.n 2 (.call 3 .done))),(23,.rg Jgb),(25,.rg (.n 2 (.call 5 .done))),(31,.an (.dc 6 [47,48,49,50,51,1000000005] [4,5,9,6] [] (.c 4 (.k 0 [] [] [14803,14802,14801] [14801,14802,14803] (.c 5 (.c 9 (.a (.g [6] [14801,14802,14803] [] [6,14801,14802,14803] Mx)))))))),(35,.an (.dc 9 [52,53,54,55,56,57,58,59,1000000008] [8,28,6] [] (.d 8 28 (.d 28 28 (.b 28 (.c 28 (.d 8 28 (.d 28 28 (.b 28 (.g [] [28] [] [14401,14402,14403] (.f 6 6 Mx)))))))))))] func28⟩
def Qk9(N:Nat):V:=⟨⟨16,(sD [Vx,Zz,.sl J0]),[Jmu],u3 (Ah N),[]⟩,kF N [Qm3,Qm4,Q46] [(10,.gh (.fz 11501 (.fz 11502 (.fz 11503 .done)))),(10,.lp [3,6,17,18] [3,4,6] ⟨[(8,R0),(9,Qqz),(19,zs3)],[(100000,.var 39 Q8g),(100001,Jgk)]⟩ [(.x 0,⟨[(8,Qa8),(9,Qcn)],[(100100,.var 39 Br),(100101,Jgk)]⟩)]),(25,.rg (.n 2 (.fz 12701 (.fz 12702 (.fz 12703 Q43)))))] func16⟩
def Qfp(N:Nat):V:=⟨⟨7,Jmv,[Jmu],u2 (Gh N),[]⟩,kF N [Qk9] [] func7⟩
def Qla(N:Nat):V:=⟨⟨15,(sD [.sl Lz]),[Q79],Qcl N,[]⟩,kF N [] [(8,.lp [10,11] [] ⟨[(5,zs3),(6,zs3),(7,zs3),(12,zs3)],[]⟩ [(.x 0,⟨[(5,zs3),(6,zs3),(7,zs3)],[]⟩)])] func15⟩
def Qdl(N:Nat):V:=⟨⟨6,(sD []),[zs5],fun _=>U9 N,[]⟩,kF N [T3,Qfp,Qla] [(13,.an (.dc 10 [14,15,16,17,18,13,19,20,3,1000000009] [1,2] [] (.k 0 [] [] [] [] (.c 1 (.c 2 (.a (.k 1 [] [] [11801] [11801] (.b 11801 (.a (.b 11801 Jll)))))))))),(16,.rg (.n 10 (.sp 30 7 [3,4] [1,2,3,11801] Jnt Tz Tz (.n 1 (.sp 38 7 [3,4] [1,2,3,11801] ⟨[(45,zs7)],[]⟩ Tz Tz .done))))),(25,.rg (.n 7 (.sp 58 6 [3,4,5,6,7] [1,2,3,11801] ⟨[(64,zs7)],[]⟩ Qsr Qsr (.n 1 (.sp 65 9 [3,4,5,6,7] [1,2,3,11801] ⟨[(74,zs7)],[]⟩ Qkl Qkl (.n 1 (.sp 75 6 [3,4,5,6,7] [1,2,3,11801] ⟨[(81,zs7)],[]⟩ Qsr Qsr (.n 1 (.sp 82 9 [3,4,5,6,7] [1,2,3,11801] ⟨[(91,zs7)],[]⟩ Qkl Qkl (.n 13 (.sp 104 7 [3] [1,2,3,11801] ⟨[(111,zs7)],[]⟩ Tz Tz Vq)))))))))))] func6⟩
def Xv(N n:Nat):Con:=⟨29,Qq0,[Qq0],fun x0=>J2 N n x0,[]⟩
theorem Wq(N:Nat):∀n,KO (Xv N n)
 | 0=>⟨Fu fun _=>rfl,Iq func29 rfl⟩
 | n+1=>have ih:=Wq N n; kF N [fun _=>⟨_,ih⟩] [(8,.lp [1,2] [1,2] ⟨Jgl,[(100000,.var 111 (.ag (sL [zs3,zs3,Ya,Qqz]))),(100001,Q76)]⟩ [(.x 0,⟨Qus,[(100100,.var 111 (.ag (sL [zs3,zs3,Ya,Qcn]))),(100101,Q76)]⟩)]),(17,.an (.dc 9 [19,20,21,22,23,24,25,26,27] [100000] [1] (.b 100000 (.d 100000 100001 (.b 1 (.c 1 (.a (.a (.a (.k 0 [] [] [] [] (.a Qqy)))))))))))] func29
def Pq(N:Nat):V:=⟨Xv N N,Wq N N⟩
def Nb(N:Nat):V:=⟨⟨17,Q0x,[⟨[(0,Q04)],Jf2⟩],Z5 N,[]⟩,kF N [Pq] [(8,.lp [1,2] [1,2] ⟨Jgl,Jln⟩ Jlo),(17,.an (.dc 18 [24,25,26,27,28,29,30,31,32,33,34,35,36,37,38,39,40,41] [100000] [1] (.b 100000 (.d 100000 100001 (.b 1 (.c 1 (.a (.a (.a (.a (.e 32 (.b 1 (.c 1 (.a (.a (.a (.a (.g [32] [] [39] [39] (.b 39 (.op ⟨.fz 39 (.nl 1 .done),[39],[],[],[39]⟩ Qqy)))))))))))))))))))),(23,.lp [1,2] [1,2] ⟨[(3,Qkm),(5,zs3)],Jlp⟩ Jlq),(32,.an (.dc 18 [51,52,53,54,55,56,57,58,59,60,61,62,63,64,65,66,67,68] [100200] [1] (.b 100200 (.d 100200 100202 (.b 1 (.c 1 (.a (.a (.a (.a (.e 59 (.b 1 (.c 1 (.a (.a (.a (.a (.g [59] [] [66] [66] (.b 66 (.op ⟨.fz 66 (.nl 1 .done),[66],[],[],[66]⟩ Qqy)))))))))))))))))))),(38,.lp [1,2] [1,2] ⟨[(3,Quv),(6,zs3)],Jlr⟩ Jlt),(51,.rg (.n 3 (.fz 86 Qin))),(57,.lp [1,2] [1,2] ⟨[(3,.p 100600 []),(8,zs3)],Jlu⟩ Jlw)] func17⟩
def Pr(N:Nat):V:=⟨⟨8,(sD [Vx]),[⟨[(0,.ag (sL [Ry,Q0u,.s 3,.s 4,.s 5,.s 6]))],[(1,Qq5),(2,Qq6),(3,Qir),(4,Qq7),(5,Hu),(6,Jgm)]⟩],Up N,[]⟩,kF N [Nb] [(3,.an (.dc 14 [11,12,13,14,15,16,17,18,19,20,21,22,23,3] [1] [] (.e 11 (.b 1 (.c 1 (.g [11] [] [14] [14] (.e 15 (.b 1 (.c 1 (.g [15] [] [18] [18] (.e 19 (.b 1 (.c 1 (.g [19] [] [22] [22] (.g [] [] [] [14,18,22] Q7u))))))))))))))),(8,.lp [1,2] [1,2] ⟨Jgl,[(100000,.var 29 (.ag (sL [Qqz,Jjk,.ns,Jn4,.s 100004,.ns]))),(100001,Qq5),(100002,Qq6),(100003,Qq7),(100004,Hu)]⟩ [(.x 0,⟨Qus,[(100100,.var 29 (.ag (sL [Qcn,Jfe,.ns,Jff,.s 100104,.ns]))),(100101,Qq5),(100102,Qq6),(100103,Qq7),(100104,Hu)]⟩)]),(17,.an (.dc 9 [31,32,33,34,35,36,37,38,39] [100000] [1] (.b 100000 (.d 100000 100002 (.b 1 (.c 1 (.a (.a (.a (.k 0 [] [] [13804,13803,13802,13801] [13801,13802,13803,13804] (.op ⟨.fz 13801 (.fz 13802 (.fz 13803 (.fz 13804 (.nl 1 .done)))),[13801,13802,13803,13804],[],[],[13801,13802,13803,13804]⟩ Qqy))))))))))),(23,.lp [1,2] [1,2] ⟨[(3,Qkm),(5,zs3)],[(100200,.var 29 (.ag (sL [Q0v,Jjj,Jn3,.s 100204,.s 100205,.ns]))),(100201,Qq5),(100202,Qq6),(100203,Qir),(100204,Qq7),(100205,Hu)]⟩ [(.x 2,⟨Jls,[(100500,.var 29 (.ag (sL [Jf3,.s 100502,.s 100503,.s 100504,.s 100505,.ns]))),(100501,Qq5),(100502,Qq6),(100503,Qir),(100504,Qq7),(100505,Hu)]⟩)]),(40,.lp [3,5] [100200,100201,100202,100203,100204,100205] ⟨[(6,Qfn),(7,zs3)],[(100300,.var 80 (.ag (sL [Ya,zs3,zs3,Ya,zs7,Q03]))),(100301,Quy)]⟩ [(.x 4,⟨[(6,Quv)],[(100400,.var 80 (.ag (sL [Ya,zs3,zs3,Ya,zs7,Q74]))),(100401,Quy)]⟩)]),(53,.rg (.n 3 (.fz 78 Qin))),(55,.rg (.n 3 (.fz 100401 Qin))),(61,.lp [1,2] [1,2] ⟨[(3,.p 100600 []),(9,zs3)],[(100600,.var 29 (.ag (sL [Jf4,.s 100602,.s 100603,.s 100604,.s 100605,.s 100606]))),(100601,Qq5),(100602,Qq6),(100603,Qir),(100604,Qq7),(100605,Hu),(100606,Jgm)]⟩ [(.x 6,⟨Jlv,[(100700,.var 29 (.ag (sL [Jf5,.s 100702,.s 100703,.s 100704,.s 100705,.s 100706]))),(100701,Qq5),(100702,Qq6),(100703,Qir),(100704,Qq7),(100705,Hu),(100706,Jgm)]⟩)]),(74,.rg (.n 3 (.fz 107 Qin)))] func8⟩
def Qdm(N:Nat):V:=⟨⟨19,zs2,[zs5],Za N,[]⟩,kF N [] [] func19⟩
def Qdn(N:Nat):V:=⟨⟨10,Jga,[zs2],E3 N,[]⟩,kF N [Qdm] [(4,.rg (.n 9 (.sp 11 5 [1] [1] ⟨[(16,zs7)],[]⟩ Hm Ql9 (.n 1 (.sp 17 5 [1] [1] Jns Hm Ql9 (.n 6 (.sp 28 5 [1] [1] ⟨[(33,zs7)],[]⟩ Hm Ql9 Jjf)))))))] func10⟩
def Wr(N:Nat):V:=⟨⟨4,Jmv,[zs5],u2 (Vs N),[]⟩,kF N [Qes,Qdl,Pr,Qfp,Qdn] [(16,.lp [5,6] [2,5,24,12101,12102,12103,12104,12105,12106,12501] Qqv zs8),(26,.rg (.n 5 (.call 4 (.n 2 (.sp 42 8 [7] [] ⟨[(50,zs7)],[]⟩ Qfm Qfm .done))))),(39,.lp [5,6,9] [2,5,24,12101,12102,12103,12104,12105,12106,12501] ⟨[(8,zs3),(10,zs3)],[]⟩ [(.x 2,Qik),(.r,⟨[(4,zs7)],[]⟩)]),(64,.lp [6,8] [2,5,24,12101,12102,12103,12104,12105,12106,12501] ⟨[(9,zs3),(12,zs3)],[]⟩ [(.x 4,Qiq)]),(76,.lp [12] [] ⟨[(9,zs3),(13,zs3)],[]⟩ [(.x 6,Qiq)]),(89,.rg (.n 4 (.sp 115 2 [] [2,5,24,12101,12102,12103,12104,12105,12106,12501] ⟨[(117,zs7)],[]⟩ Jfg Qsp Vq)))] func4⟩
end Gx
