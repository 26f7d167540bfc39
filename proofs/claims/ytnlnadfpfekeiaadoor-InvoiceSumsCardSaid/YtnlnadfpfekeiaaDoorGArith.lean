/- Division and shifts by what is not a constant. -/
import Derived.Test.YtnlnadfpfekeiaaDoorGArr
namespace Gd
open Go Go.RowKit
set_option linter.unusedVariables false
set_option linter.unusedSimpArgs false
def quoW (k : IntKind) (x y : Int) : Option Int := if y = 0 then none else some (k.wrap (x.tdiv y))
def remW (x y : Int) : Option Int := if y = 0 then none else some (x.tmod y)
def shrW (k : IntKind) (x y : Int) : Option Int := if y < 0 then none else some (x.fdiv (2 ^ (min y.toNat k.bits)))
def shlW (k : IntKind) (x y : Int) : Option Int := if y < 0 then none else some (k.wrap (x * 2 ^ (min y.toNat k.bits)))
section
variable {P : Program} {T : Tab} {β : Nat → Nat} {X : Cx} {G : GL} {D : List DF} {H : HL} {O : List TL} {a : Act} {w w' : World}
variable {ops : Array Oper} {Q : Exit → Act → World → Prop} {rest : List Oper}
theorem run_quo {t : TypeId} {k : IntKind} {u v z : Int} (h : quoW k u v = some z) (w : World) : (binOp .quo t (.int k u) (.int k v)).run P w = .ok (.int k z) w := by
  unfold quoW at h
  split at h
  · cases h
  · rename_i hv
    have := Option.some.inj h; subst this
    rw [binOp_quo]; unfold Op.intDiv; rw [if_neg hv]; rfl
theorem run_rem {t : TypeId} {k : IntKind} {u v z : Int} (h : remW u v = some z) (w : World) : (binOp .rem t (.int k u) (.int k v)).run P w = .ok (.int k z) w := by
  unfold remW at h
  split at h
  · cases h
  · rename_i hv
    have := Option.some.inj h; subst this
    rw [binOp_rem]; unfold Op.intDiv; rw [if_neg hv]; rfl
theorem run_shr {t : TypeId} {k k2 : IntKind} {u v z : Int} (h : shrW k u v = some z) (w : World) : (binOp .shr t (.int k u) (.int k2 v)).run P w = .ok (.int k z) w := by
  unfold shrW at h
  split at h
  · cases h
  · rename_i hv
    have := Option.some.inj h; subst this
    rw [binOp_shr]; unfold Op.shift; rw [if_neg hv]; rfl
theorem run_shl {t : TypeId} {k k2 : IntKind} {u v z : Int} (h : shlW k u v = some z) (w : World) : (binOp .shl t (.int k u) (.int k2 v)).run P w = .ok (.int k z) w := by
  unfold shlW at h
  split at h
  · cases h
  · rename_i hv
    have := Option.some.inj h; subst this
    show (Op.shift .shl k u k2 v).run P w = _
    unfold Op.shift; rw [if_neg hv]; rfl
end
end Gd
