/- Results of a call's own, as rows that will be written: for elements that hold no addresses. -/
import Derived.Test.YtnlnadfpfekeiaaDoorGLent
namespace Gd
open Go Go.RowKit
set_option linter.unusedVariables false
set_option linter.unusedSimpArgs false

/-- A reading that asks nothing of the world. -/
def Flat {τ : Type} (r : RT τ) : Prop := ∀ {ok ok' : Ok} {w w' : World} {x : τ} {cs : List Value}, r.rep ok w x cs → r.rep ok' w' x cs
theorem flat_int {k : IntKind} : Flat (rInt k) := fun h => h
theorem flat_bool : Flat rBool := fun h => h
theorem flat_str : Flat rStr := fun h => h
theorem repA_any {τ : Type} {r : RT τ} (hf : Flat r) {ok ok' : Ok} {w w' : World} : ∀ {xs : List τ} {cs : List Value}, repA r ok w xs cs → repA r ok' w' xs cs
  | [], _, h => h
  | x :: xs, cs, ⟨c1, c2, e, h1, h2⟩ => ⟨c1, c2, e, hf h1, repA_any hf h2⟩

section
variable {P : Program} {T : Tab} {β : Nat → Nat} {X : Cx} {G : GL} {D : List DF} {H : HL} {O : List TL} {a : Act} {w w' : World}
variable {ops : Array Oper} {Q : Exit → Act → World → Prop} {rest : List Oper}

theorem step_callOwnM (h : Sb β X G D H O a w) {f : FuncId} {xs : List Operand} {ts : Array TypeId} {d : Nat} {ps : String} {af : Array Edge} {ty : TypeId} {gd : Option (Nat × Bool)}
    (hg : guardV ops G ⟨some d, .call ⟨.value (.func f), ⟨xs⟩, ts⟩, ty, ps, af, gd⟩ = some true) (hlt : okD X d = true) (hf : Runs P f)
    {vs : List Value} (hvs : evArgs G xs = some vs) {τ : Type} {r : RT τ} (hfl : Flat r) {e : Nat} {ok : Ok} {y : List τ} (hoke : ok = okOf X.ok X.w.heap.size β H O w)
    (hc : Calls P f ⟨vs⟩ w (Ret w (R1o (rSl r) e r.size ok w y)))
    (hk : ∀ A c a' w', Sb β X (setN G d (.v (.slice A y.length c))) D H (ml (.slice A y.length c) e r y :: O) a' w' → wpList P ops Q rest a' w') :
    wpList P ops Q (⟨some d, .call ⟨.value (.func f), ⟨xs⟩, ts⟩, ty, ps, af, gd⟩ :: rest) a w := by
  subst hoke
  refine wpList_go (guardV_ok h hg) ?_
  have hrun : (execOp a.eval ⟨some d, .call ⟨.value (.func f), ⟨xs⟩, ts⟩, ty, ps, af, gd⟩).run P w = .ok (.enter f ⟨vs⟩) w := by
    unfold execOp
    have hm : (Array.mk xs).map a.eval = ⟨vs⟩ := by rw [← evArgs_ok h hvs]; simp
    simp [resolve, hm, Act.eval, Deferred.ofValue, invoke, run_callFunc hf]
  unfold Oper.wp
  rw [hrun]
  refine hc.mono ?_
  rintro e' w' ⟨v, rfl, ⟨hv, hown, hbase⟩, hb⟩
  obtain ⟨A, c, rfl, hsl⟩ := slForm hv
  have hb := hb.nil
  obtain ⟨cs0, hown⟩ := hown
  obtain ⟨csy, hcy1, hyl, hmc, hA, hcy2, hcy3, hcy4⟩ := slRep_cells (isV_sl.1 hsl)
  have hcs : cs0 = csy := by
    apply List.ext_getElem?
    intro j
    have hl0 : cs0.length = y.length * r.size := hown.1
    rcases Nat.lt_or_ge j cs0.length with hj | hj
    · have h1 : csy[j]? = some (csy[j]'(by omega)) := List.getElem?_eq_getElem _
      have hpos : 0 < y.length := by
        rcases Nat.eq_zero_or_pos y.length with h0 | h0
        · rw [h0, Nat.zero_mul] at hl0; omega
        · exact h0
      obtain ⟨b, o, hA', hc'⟩ := hcy3 hpos
      have hgb : (Value.slice A y.length c).ownBlock = some b := by rw [hA']; rfl
      have h2 := hown.cells hgb j _ (List.getElem?_eq_getElem hj)
      have ho : o = 0 := by
        rcases hown.2 with ⟨hv0, h0⟩ | ⟨g, cap, cur, fz, hv0, _⟩
        · simp only [lenV] at h0; omega
        · injection hv0 with e1 _ _; rw [hA'] at e1; injection e1 with e1; injection e1
      subst ho
      have h3 := (hc' j _ h1).2
      rw [addr_add] at h2
      rw [h2] at h3
      rw [h1, List.getElem?_eq_getElem hj]; exact h3
    · rw [List.getElem?_eq_none hj, List.getElem?_eq_none (by omega)]
  refine hk A c _ w' ((h.allocTL hb (t := ml (.slice A y.length c) e r y) hbase ⟨rfl, cs0, hown, ?_⟩).put hlt (.v _))
  rw [hcs]
  exact repA_any hfl (repA_of y csy hcy1 hcy4)
end
end Gd
