/- Results that are rows of the caller's own; local arrays; objects that are no longer written; function values. -/
import Derived.Test.YtnlnadfpfekeiaaDoorGExtra
namespace Gd
open Go Go.RowKit
set_option linter.unusedVariables false
set_option linter.unusedSimpArgs false
section
variable {P : Program} {T : Tab} {β : Nat → Nat} {X : Cx} {G : GL} {D : List DF} {H : HL} {O : List TL} {a : Act} {w w' : World}
variable {ops : Array Oper} {Q : Exit → Act → World → Prop} {rest : List Oper}
end
end Gd
