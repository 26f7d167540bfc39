/- Division and shifts by what is not a constant. -/
import Derived.Test.YtnlnadfpfekeiaaDoorGArr
namespace Gd
open Go Go.RowKit
set_option linter.unusedVariables false
set_option linter.unusedSimpArgs false

def quoW (k : IntKind) (x y : Int) : Option Int := if y = 0 then none else some (k.wrap (x.tdiv y))
def remW (x y : Int) : Option Int := if y = 0 then none else some (x.tmod y)
def shrW (k : IntKind) (x y : Int) : Option Int := if y < 0 then none else some (x.fdiv (2 ^ (min y.toNat k.bits)))
def shlW (k : IntKind) (x y : Int) : Option Int := if y < 0 then none else some (k.wrap (x * 2 ^ (min y.toNat k.bits)))

section
variable {P : Program} {T : Tab} {β : Nat → Nat} {X : Cx} {G : GL} {D : List DF} {H : HL} {O : List TL} {a : Act} {w w' : World}
variable {ops : Array Oper} {Q : Exit → Act → World → Prop} {rest : List Oper}

theorem step_bin2 (h : Sb β X G D H O a w) {b : BinOp} {t yt : TypeId} {x y : Operand} {d : Nat} {ps : String} {af : Array Edge} {ty : TypeId} {gd : Option (Nat × Bool)} (hb : b ≠ .eql ∧ b ≠ .neq)
    (hg : guardV ops G ⟨some d, .binOp b t x y yt, ty, ps, af, gd⟩ = some true) (hlt : okD X d = true) {k k2 : IntKind} {u v z : Int} (hx : gv G x = some (.v (.int k u))) (hy : gv G y = some (.v (.int k2 v)))
    (hr : ∀ w, (binOp b t (.int k u) (.int k2 v)).run P w = .ok (.int k z) w)
    (hk : ∀ a', Sb β X (setN G d (.v (.int k z))) D H O a' w → wpList P ops Q rest a' w) : wpList P ops Q (⟨some d, .binOp b t x y yt, ty, ps, af, gd⟩ :: rest) a w := by
  refine step_val h (g := none) hg rfl hlt (v := .int k z) ?_ hk
  unfold execOp
  simp only [h.ev hx, h.ev hy, den_v]
  cases b <;> first | (exact absurd rfl hb.1) | (exact absurd rfl hb.2) | simp [eqGuard, hr]

theorem run_quo {t : TypeId} {k : IntKind} {u v z : Int} (h : quoW k u v = some z) (w : World) : (binOp .quo t (.int k u) (.int k v)).run P w = .ok (.int k z) w := by
  unfold quoW at h
  split at h
  · cases h
  · rename_i hv
    have := Option.some.inj h; subst this
    rw [binOp_quo]; unfold Op.intDiv; rw [if_neg hv]; rfl
theorem run_rem {t : TypeId} {k : IntKind} {u v z : Int} (h : remW u v = some z) (w : World) : (binOp .rem t (.int k u) (.int k v)).run P w = .ok (.int k z) w := by
  unfold remW at h
  split at h
  · cases h
  · rename_i hv
    have := Option.some.inj h; subst this
    rw [binOp_rem]; unfold Op.intDiv; rw [if_neg hv]; rfl
theorem run_shr {t : TypeId} {k k2 : IntKind} {u v z : Int} (h : shrW k u v = some z) (w : World) : (binOp .shr t (.int k u) (.int k2 v)).run P w = .ok (.int k z) w := by
  unfold shrW at h
  split at h
  · cases h
  · rename_i hv
    have := Option.some.inj h; subst this
    rw [binOp_shr]; unfold Op.shift; rw [if_neg hv]; rfl
theorem run_shl {t : TypeId} {k k2 : IntKind} {u v z : Int} (h : shlW k u v = some z) (w : World) : (binOp .shl t (.int k u) (.int k2 v)).run P w = .ok (.int k z) w := by
  unfold shlW at h
  split at h
  · cases h
  · rename_i hv
    have := Option.some.inj h; subst this
    show (Op.shift .shl k u k2 v).run P w = _
    unfold Op.shift; rw [if_neg hv]; rfl
end
end Gd
