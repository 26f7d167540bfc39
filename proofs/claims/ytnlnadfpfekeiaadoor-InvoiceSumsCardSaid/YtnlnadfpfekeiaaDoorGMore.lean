/- More steps: elements, appends, new slices. -/
import Derived.Test.YtnlnadfpfekeiaaDoorGData
namespace Gd
open Go Go.RowKit
set_option linter.unusedVariables false
set_option linter.unusedSimpArgs false
section
variable {P : Program} {T : Tab} {β : Nat → Nat} {X : Cx} {G : GL} {D : List DF} {H : HL} {O : List TL} {a : Act} {w w' : World}
variable {ops : Array Oper} {Q : Exit → Act → World → Prop} {rest : List Oper} {o : Oper}
end
end Gd
namespace Gd
open Go Go.RowKit
def R1 {τ : Type} (r : RT τ) (ok : Ok) (w : World) (y : τ) : Value → World → Prop := fun v w' => isV r (okx ok w w') w' y v
end Gd
namespace Gd
open Go Go.RowKit
section
variable {P : Program} {T : Tab} {β : Nat → Nat} {X : Cx} {G : GL} {D : List DF} {H : HL} {O : List TL} {a : Act} {w w' : World}
variable {ops : Array Oper} {Q : Exit → Act → World → Prop} {rest : List Oper} {o : Oper}
end
end Gd
