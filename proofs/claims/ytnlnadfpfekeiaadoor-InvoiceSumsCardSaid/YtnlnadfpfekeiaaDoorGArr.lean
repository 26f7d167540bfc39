/- Local arrays of integers. -/
import Derived.Test.YtnlnadfpfekeiaaDoorGFnv
namespace Gd
open Go Go.RowKit
set_option linter.unusedVariables false
set_option linter.unusedSimpArgs false
def DF.pure (p : Prop) : DF := ⟨fun _ _ => p, fun h _ => h, fun h _ => h⟩
section
variable {P : Program} {T : Tab} {β : Nat → Nat} {X : Cx} {G : GL} {D : List DF} {H : HL} {O : List TL} {a : Act} {w w' : World}
variable {ops : Array Oper} {Q : Exit → Act → World → Prop} {rest : List Oper}
end
end Gd
