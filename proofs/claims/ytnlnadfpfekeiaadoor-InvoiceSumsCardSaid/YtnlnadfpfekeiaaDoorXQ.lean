/- From a statement's arguments to data, and back to the statement. -/
import Derived.Test.YtnlnadfpfekeiaaDoorXP
import Derived.Test.YtnlnadfpfekeiaaDoorGLaws
namespace Gx
open Go Go.RowKit Gd Go.WideShapes Go.ChangeShapes
set_option linter.unusedVariables false
set_option linter.unusedSimpArgs false
def gd : (t : Ty) → t.De → Prop
  | .int k, x => goodI k x
  | .bool, _ => True
  | .str, x => goodS x
  | .sl e, x => goodL (gd e) x
  | .arr _ e, x => ∀ y ∈ x, gd e y
  | .unit, _ => True
  | .pr f r, x => gd f x.1 ∧ gd r x.2
  | .st fs, x => gd fs x
  | .ref, _ => True
  | .rose _, _ => True
abbrev OpensT (P : Program) (t : TypeId) (ty : Ty) : Prop := Opens P (rt ty) t (gd ty)
section
variable {P : Program}
theorem openT_int {t : TypeId} {k : IntKind} (ht : P.underlying t = some (.int k)) (hc : P.cellsOf t = 1) : OpensT P t (.int k) := opens_int ht hc
theorem openT_str {t : TypeId} (ht : P.underlying t = some .string) (hc : P.cellsOf t = 1) : OpensT P t .str := opens_str ht hc
theorem openT_sl {t e : TypeId} {ty : Ty} (ht : P.underlying t = some (.slice e)) (hc : P.cellsOf t = 1) (he : OpensT P e ty) (hpos : Nat.ble 1 ty.size = true) : OpensT P t (.sl ty) :=
  opens_sl ht hc he (by rw [rt_size]; exact Nat.le_of_ble_eq_true hpos)
inductive OpenF (P : Program) (ff : Array Field) : Ty → Nat → Nat → Prop
  | last {ty : Ty} {i off t : Nat} {f : Field} (ho : OpensT P t ty) (hi : ff[i]? = some f) (ht : f.type = t) (hoff : f.offset = off) : OpenF P ff ty i off
  | pr {ty r : Ty} {i off t : Nat} {f : Field} (ho : OpensT P t ty) (hi : ff[i]? = some f) (ht : f.type = t) (hoff : f.offset = off) (hr : OpenF P ff r (i + 1) (off + ty.size)) : OpenF P ff (.pr ty r) i off
theorem openF_rep {ff : Array Field} {H : Type} {enc : TypeId × Value → H} {w : World} {n : Nat} {cs : List Value} {xs : List (DataW H × List MemPlace)}
    (hlen : xs.length = ff.size) (hf : ∀ (i : Nat) (f : Field), ff[i]? = some f → DataW.trod enc P w 0 (fun _ => true) true n f.type ((cs.drop f.offset).take (P.cellsOf f.type)) = xs[i]?) :
    ∀ {ty : Ty} {i off : Nat}, OpenF P ff ty i off → cs.length = off + ty.size → ∃ y, (rt ty).rep (lt w) w y (cs.drop off) ∧ gd ty y := by
  intro ty i off h
  induction h with
  | last ho hi ht hoff =>
    intro hl
    obtain ⟨y, h1, h2⟩ := Opens.fld ho hlen hf _ _ hi ht hoff
    rw [List.take_of_length_le (by simp; rw [rt_size]; omega)] at h1
    exact ⟨y, h1, h2⟩
  | pr ho hi ht hoff hr ih =>
    intro hl
    rename_i ty r i off t f
    obtain ⟨y, h1, h2⟩ := Opens.fld ho hlen hf _ _ hi ht hoff
    have hl' : cs.length = off + ty.size + r.size := by
      have : (Ty.pr ty r).size = ty.size + r.size := rfl
      omega
    obtain ⟨z, h3, h4⟩ := ih hl'
    refine ⟨(y, z), ⟨_, cs.drop (off + ty.size), ?_, h1, h3⟩, h2, h4⟩
    rw [rt_size, ← List.drop_drop]
    exact (List.take_append_drop _ _).symm
theorem openT_st {t : TypeId} {fs : Ty} {ff : Array Field} (ht : P.underlying t = some (.struct ff)) (hc : P.cellsOf t = fs.size) (ho : OpenF P ff fs 0 0) : OpensT P t (.st fs) := by
  refine ⟨by rw [hc, rt_size]; rfl, fun hv => ⟨fun _ => ?_, fun h => nomatch h⟩, fun enc w n cs x h => ?_⟩
  · obtain ⟨c, rfl, _⟩ := okWide_struct ht hv; exact ⟨_, rfl⟩
  · obtain ⟨xs, m, _, _, hl, hlen, hf⟩ := DataW.trod_struct ht h
    obtain ⟨y, h1, h2⟩ := openF_rep hlen hf ho (by rw [hl, hc]; simp)
    exact ⟨y, by simpa [rt, rAgg] using h1, h2⟩
theorem lends_nil {ok : Ok} {w : World} {β : Nat → Nat} {ρ : Nat → Value} : Lends (memO β ρ []) [] ok w := ⟨by simp [memO], .nil, by simp⟩
section
variable {β : Nat → Nat} {ρ : Nat → Value} {ok : Ok} {w : World}
theorem args1 {t0 : Ty} {x0 : t0.De} {v0 : Value} (h0 : isV (rt t0) ok w x0 v0) :
    ∀ e ∈ [(⟨0, [], .d t0 x0⟩ : En)], ∃ cs, [v0][e.t]? = some (e.av.val cs) ∧ cr β ρ ok w false e.av cs := by
  intro e he
  obtain ⟨c0, p0, q0⟩ := cr_of_isV (β := β) (ρ := ρ) h0
  rcases List.mem_cons.1 he with rfl | he
  · exact ⟨c0, by rw [q0]; rfl, p0⟩
  · cases he
theorem post_true {c : Con} {y : c.Δ.De} {f : FuncId} {args : Array Value} (h : Calls P f args w (RetL [] w (PostC c β ρ ok [] w y))) (hy : resAV (enc c.Δ y).env = .d .bool true) : Calls P f args w (Ret w (R1 rBool ok w true)) := by
  refine h.mono ?_
  rintro e w' ⟨v, rfl, ⟨β', ρ', _, ⟨cs, h1, h2⟩, _⟩, hb⟩
  refine ⟨v, rfl, ?_, hb⟩
  rw [hy] at h1 h2
  have h2' : cs = [.bool true] := h2
  subst h2'
  exact isV_bool.2 h1
end
end
end Gx
