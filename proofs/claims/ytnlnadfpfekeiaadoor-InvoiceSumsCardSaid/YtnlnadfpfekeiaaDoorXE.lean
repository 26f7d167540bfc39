/- The quiet operations are what the model does. -/
import Derived.Test.YtnlnadfpfekeiaaDoorXD
namespace Gx
open Go Go.RowKit Gd
set_option linter.unusedVariables false
set_option linter.unusedSimpArgs false
theorem offP_append : ∀ (p q : List PS), offP (p ++ q) = offP p + offP q
  | [], q => by simp [offP]
  | x :: p, q => by simp [offP, offP_append p q]; omega
def RelW (β : Nat → Nat) (ρ : Nat → Value) (ok : Ok) (S : St) (a : Act) (w : World) : Prop :=
  (∀ e ∈ S.env, (enD β ρ a e).p ok w) ∧ ∀ id o, lookM S.mem id = some o → (tlOf β ρ id o).p ok w
theorem Rel.toW {X : Cx} {β : Nat → Nat} {ρ : Nat → Value} {S : St} {a : Act} {w : World} (h : Rel X β ρ S a w) : RelW β ρ (okR X β ρ S.mem w) S a w := ⟨fun _ he => h.en he, fun _ _ ho => (h.ob ho).1⟩
theorem RelW.ev {β : Nat → Nat} {ρ : Nat → Value} {ok : Ok} {S : St} {a : Act} {w : World} (h : RelW β ρ ok S a w) {cur : Conds} (hc : holdsC a cur) {x : Operand} {v : AV} (hx : ev S cur x = some v) :
    ∃ cs, a.eval x = v.val cs ∧ cr β ρ ok w false v cs := by
  cases x with
  | tmp t =>
    simp only [Gx.ev] at hx
    split at hx
    · rename_i e he
      cases hb : subC e.cs cur with
      | false => rw [hb] at hx; cases hx
      | true =>
        rw [hb] at hx
        simp at hx; subst hx
        have hr := lookE_rd he a
        obtain ⟨hm, rfl⟩ := lookE_ok he
        obtain ⟨cs, h1, h2⟩ := (h.1 _ hm).1 (subC_ok hb hc)
        rw [hr] at h1
        exact ⟨cs, by simp [Act.eval, h1], h2⟩
    · cases hx
  | const v =>
    obtain ⟨cs, h1, h2⟩ := constAV_ok (β := β) (ρ := ρ) (ok := ok) (w := w) hx
    exact ⟨cs, h1, h2⟩
  | func f =>
    simp [Gx.ev] at hx; subst hx
    exact ⟨[.func (.func f) #[] #[]], rfl, [], rfl, rfl⟩
  | global g =>
    simp only [Gx.ev] at hx
    split at hx
    · rename_i e he
      cases hb : subC e.cs cur with
      | false => rw [hb] at hx; cases hx
      | true =>
        rw [hb] at hx
        simp at hx; subst hx
        obtain ⟨hm, ht⟩ := lookE1_ok he
        obtain ⟨cs, h1, h2⟩ := (h.1 _ hm).1 (subC_ok hb hc)
        rw [ht, rd_var] at h1
        exact ⟨cs, Option.some.inj h1, h2⟩
    · cases hx
section
variable {P : Program} {Y : TX} {X : Cx} {β : Nat → Nat} {ρ : Nat → Value} {S : St} {a : Act} {w : World} {cur : Conds} {ok : Ok}
theorem RelW.evs (h : RelW β ρ ok S a w) (hc : holdsC a cur) : ∀ {xs : List Operand} {l : AV}, evs S cur xs = some l → cr β ρ (ok) w true l (xs.map a.eval)
  | [], l, hl => by simp [Gx.evs] at hl; subst hl; rfl
  | x :: xs, l, hl => by
    simp only [Gx.evs] at hl
    split at hl
    · rename_i v r hv hr
      simp at hl; subst hl
      obtain ⟨cs, h1, h2⟩ := h.ev hc hv
      exact ⟨cs, xs.map a.eval, by rw [List.map_cons, h1], h2, h.evs hc hr⟩
    · cases hl
theorem RelW.evParts (h : RelW β ρ ok S a w) (hc : holdsC a cur) : ∀ {xs : List (Nat × Operand)} {l : List (Nat × AV)}, evParts' S cur xs = some l →
    All2 (fun (p : Nat × AV) (q : Nat × Value) => p.1 = q.1 ∧ ∃ c, q.2 = p.2.val c ∧ cr β ρ (ok) w false p.2 c) l (xs.map fun p => (p.1, a.eval p.2))
  | [], l, hl => by simp [evParts'] at hl; subst hl; exact .nil
  | (i, x) :: xs, l, hl => by
    simp only [evParts'] at hl
    split at hl
    · rename_i v r hv hr
      simp at hl; subst hl
      obtain ⟨cs, h1, h2⟩ := h.ev hc hv
      exact .cons ⟨rfl, cs, h1, h2⟩ (h.evParts hc hr)
    · cases hl
theorem bvT {α : Type} {b : Bool} {x : Option α} {y : α} (h : (bif b then x else none) = some y) : b = true ∧ x = some y := by
  cases b with
  | true => exact ⟨rfl, h⟩
  | false => cases h
theorem bEq {a b : Bool} (h : (a == b) = true) : a = b := by simpa using h
theorem RelW.mm (h : RelW β ρ ok S a w) : ∀ id o, lookM S.mem id = some o → (tlOf β ρ id o).p (ok) w := h.2
theorem RelW.asD (h : RelW β ρ ok S a w) (hc : holdsC a cur) {x : Operand} {v : AV} {t : Ty} {y : t.De} (hx : Gx.ev S cur x = some v) (hd : Gx.asD S.mem v t = some y) (ht : t.agg = v.isAgg) :
    isV (rt t) (ok) w y (a.eval x) := by
  obtain ⟨cs, h1, h2⟩ := h.ev hc hx
  refine ⟨cs, asD_ok h.mm hd h2, ?_⟩
  rw [h1, AV.val, RT.val, rt_agg, ht]
  cases v.isAgg <;> rfl
theorem RelW.asLs (h : RelW β ρ ok S a w) (hc : holdsC a cur) {u : Ty} : ∀ {ps : List (Nat × Operand)} {vs : List (Nat × AV)} {xs : List u.De} {j : Nat}, evParts' S cur ps = some vs → Gx.asLs S.mem u vs j = some xs →
    ∃ us : List Value, ps.map (fun p => (p.1, a.eval p.2)) = (List.range' j us.length).zip us ∧ allV (rt u) ok w xs us ∧ us.length = xs.length
  | [], vs, xs, j, he, hx => by
    simp [evParts'] at he; subst he
    simp [Gx.asLs] at hx; subst hx
    exact ⟨[], rfl, trivial, rfl⟩
  | (i, x) :: ps, vs, xs, j, he, hx => by
    simp only [evParts'] at he
    split at he
    · rename_i v l hv hl
      simp at he; subst he
      simp only [Gx.asLs] at hx
      obtain ⟨hb, hx⟩ := bvT hx
      simp only [Bool.and_eq_true] at hb
      have := Nat.eq_of_beq_eq_true hb.1
      subst this
      split at hx
      · rename_i y ys hy hys
        simp at hx; subst hx
        obtain ⟨us, q1, q2, q3⟩ := RelW.asLs h hc (u := u) (ps := ps) hl hys
        have hiv := h.asD hc hv hy (bEq hb.2)
        refine ⟨a.eval x :: us, ?_, ⟨hiv, q2⟩, by simp [q3]⟩
        simp only [List.map_cons, List.length_cons, List.range'_succ, List.zip_cons_cons, q1]
      · cases hx
    · cases he
theorem allV_size {τ : Type} {r : RT τ} {ok : Ok} {w : World} : ∀ {xs : List τ} {us : List Value}, allV r ok w xs us → ∀ v ∈ us, (cellsL v).length = r.size
  | [], [], _, v, hv => by cases hv
  | x :: xs, y :: us, h, v, hv => by
    rcases List.mem_cons.1 hv with rfl | hv
    · rw [r.len (cellsL_rep h.1)]
    · exact allV_size h.2 v hv
  | [], _ :: _, h, _, _ => h.elim
  | _ :: _, [], h, _, _ => h.elim
theorem allV_rep {τ : Type} {r : RT τ} {ok : Ok} {w : World} : ∀ {xs : List τ} {us : List Value}, allV r ok w xs us → repA r ok w xs (us.flatMap cellsL)
  | [], [], _ => rfl
  | x :: xs, y :: us, h => ⟨cellsL y, us.flatMap cellsL, by simp, cellsL_rep h.1, allV_rep h.2⟩
  | [], _ :: _, h => h.elim
  | _ :: _, [], h => h.elim
theorem fillS {s : Nat} : ∀ (vs : List Value) (j : Nat) (cs : List Value), (∀ v ∈ vs, (cellsL v).length = s) → (j + vs.length) * s ≤ cs.length →
    fillL (placeS s) cs ((List.range' j vs.length).zip vs) = some (cs.take (j * s) ++ vs.flatMap cellsL ++ cs.drop ((j + vs.length) * s))
  | [], j, cs, _, _ => by simp [fillL]
  | v :: vs, j, cs, hv, hl => by
    have h1 := hv v (.head _)
    simp only [List.length_cons] at hl ⊢
    have e0 : (j + (vs.length + 1)) * s = j * s + s + vs.length * s := by rw [Nat.add_mul, Nat.add_mul]; omega
    rw [e0] at hl
    simp only [List.range'_succ, List.zip_cons_cons, fillL, placeS, h1]
    have hb : (Nat.beq s s && Nat.ble (j * s + s) cs.length) = true := by
      simp only [Bool.and_eq_true]
      exact ⟨Nat.beq_refl _, Nat.ble_eq_true_of_le (by omega)⟩
    simp only [hb, cond_true]
    have hlay : (layL cs (j * s) (cellsL v)).length = cs.length := by simp [layL, h1]; omega
    have e1 : (j + 1 + vs.length) * s = j * s + s + vs.length * s := by rw [Nat.add_mul, Nat.add_mul]; omega
    have e2 : (j + 1) * s = j * s + s := by rw [Nat.add_mul]; omega
    have := fillS vs (j + 1) (layL cs (j * s) (cellsL v)) (fun u hu => hv u (.tail _ hu)) (by rw [hlay, e1]; omega)
    rw [this, e1, e2, e0]
    simp only [layL, List.flatMap_cons]
    have hA : (cs.take (j * s) ++ cellsL v).length = j * s + s := by simp [h1]; omega
    congr 1
    rw [List.take_append_of_le_length (by rw [hA]; omega), List.take_of_length_le (by rw [hA]; omega)]
    rw [List.drop_append, hA, List.drop_of_length_le (by rw [hA]; omega), List.nil_append, h1, List.drop_drop]
    simp only [List.append_assoc]
    congr 4
    omega
theorem holdsC_cons {a : Act} {cur : Conds} (hc : holdsC a cur) {c : Operand} {b : Bool} (hb : a.eval c = .bool b) : holdsC a (withC cur c b) := by
  unfold withC
  split
  · rename_i t
    intro x hx
    rcases List.mem_cons.1 hx with rfl | hx
    · simp only [Act.eval] at hb
      simp only
      rw [Array.getD_eq_getD_getElem?] at hb
      cases hg : a.tmps[t]? with
      | none => rw [hg] at hb; simp [undef] at hb
      | some v => rw [hg] at hb; simp at hb; rw [hb]
    · exact hc x hx
  · exact hc
theorem pickA_ok {c : Bool} {x y : Option AV} {v : AV} {β : Nat → Nat} {ρ : Nat → Value} {ok : Ok} {w : World} {u1 u2 : Value}
    (hx : c = true → ∀ v, x = some v → ∃ cs, u1 = v.val cs ∧ cr β ρ ok w false v cs) (hy : c = false → ∀ v, y = some v → ∃ cs, u2 = v.val cs ∧ cr β ρ ok w false v cs)
    (h : pickA c x y = some v) : ∃ cs, (if c = true then u1 else u2) = v.val cs ∧ cr β ρ ok w false v cs := by
  unfold pickA at h
  split at h
  · simp at h; subst h
    cases c with
    | true => obtain ⟨cs, h1, h2⟩ := hx rfl _ rfl; exact ⟨cs, h1, h2⟩
    | false => obtain ⟨cs, h1, h2⟩ := hy rfl _ rfl; exact ⟨cs, by simpa using h1, h2⟩
  · rename_i k p k' q
    cases hk : sameK k k' with
    | false => rw [hk] at h; cases h
    | true =>
      rw [hk] at h
      have := sameK_eq hk
      subst this
      simp at h; subst h
      cases c with
      | true => obtain ⟨cs, h1, h2⟩ := hx rfl _ rfl; exact ⟨cs, h1, h2⟩
      | false => obtain ⟨cs, h1, h2⟩ := hy rfl _ rfl; exact ⟨cs, by simpa using h1, h2⟩
  · cases c with
    | true => obtain ⟨cs, h1, h2⟩ := hx rfl _ (by simpa using h); exact ⟨cs, by simpa using h1, h2⟩
    | false => obtain ⟨cs, h1, h2⟩ := hy rfl _ (by simpa using h); exact ⟨cs, by simpa using h1, h2⟩
theorem run_load_cells (hT : TabOk P Y.T) {t : TypeId} {e : TE} (he : lookT Y.T t = some e) {b o : Nat} {y : AV} {cs : List Value} (hs : e.size = cs.length) (ha : isAggD e.d = y.isAgg) (h1 : y.isAgg = false → cs.length = 1)
    (hc : ∀ (j : Nat) u, cs[j]? = some u → w.cell? ⟨b, o + j, none⟩ = some u) : (Instr.loadAt t (.pointer (some ⟨b, o, none⟩))).run P w = .ok (y.val cs) w := by
  have := run_loadVar_cells hT w he b o cs hs.symm (fun h => h1 (by rw [← ha, h])) hc
  simp only [Instr.loadAt, Instr.sureAddr, Sem.run_bind, Sem.run_pure, Result.andThen_ok, this, AV.val, ha]
  cases y.isAgg <;> rfl
theorem flatV_ok {ok : Ok} {w : World} : ∀ {t : Ty} {x : t.De} {vs cs : List Value}, flatV t x = some vs → (rt t).rep ok w x cs → cs = vs
  | .int k, x, vs, cs, h, hc => by simp [flatV] at h; subst h; exact hc
  | .bool, x, vs, cs, h, hc => by simp [flatV] at h; subst h; exact hc
  | .str, x, vs, cs, h, hc => by simp [flatV] at h; subst h; exact hc
  | .unit, x, vs, cs, h, hc => by simp [flatV] at h; subst h; exact hc
  | .pr f r, x, vs, cs, h, hc => by
    obtain ⟨c1, c2, rfl, h1, h2⟩ := hc
    simp only [flatV] at h
    split at h
    · rename_i p q hp hq
      simp at h; subst h
      rw [flatV_ok hp h1, flatV_ok hq h2]
    · cases h
  | .st fs, x, vs, cs, h, hc => flatV_ok (t := fs) h hc
  | .sl e, x, vs, cs, h, hc => by simp [flatV] at h
  | .arr n e, x, vs, cs, h, hc => by simp [flatV] at h
  | .ref, x, vs, cs, h, hc => by simp [flatV] at h
  | .rose fs, x, vs, cs, h, hc => by simp [flatV] at h
theorem cellsA_ok : ∀ {x : AV} {vs cs : List Value}, cellsA x = some vs → cr β ρ ok w false x cs → cs = vs
  | .d t x, vs, cs, h, hc => flatV_ok h hc
  | .ag l, vs, cs, h, hc => cellsA_ok (x := l) h hc
  | .nil, vs, cs, h, hc => by simp [cellsA] at h; subst h; exact hc
  | .cons x r, vs, cs, h, hc => by
    obtain ⟨c1, c2, rfl, h1, h2⟩ := hc
    simp only [cellsA] at h
    split at h
    · rename_i p q hp hq
      simp at h; subst h
      rw [cellsA_ok hp h1, cellsA_ok hq h2]
    · cases h
  | .p .., vs, cs, h, hc => by simp [cellsA] at h
  | .e .., vs, cs, h, hc => by simp [cellsA] at h
  | .s .., vs, cs, h, hc => by simp [cellsA] at h
  | .m .., vs, cs, h, hc => by simp [cellsA] at h
  | .w .., vs, cs, h, hc => by simp [cellsA] at h
  | .a .., vs, cs, h, hc => by simp [cellsA] at h
  | .z, vs, cs, h, hc => by simp [cellsA] at h
  | .ns, vs, cs, h, hc => by simp [cellsA] at h
  | .np, vs, cs, h, hc => by simp [cellsA] at h
  | .nm, vs, cs, h, hc => by simp [cellsA] at h
  | .nf, vs, cs, h, hc => by simp [cellsA] at h
  | .f .., vs, cs, h, hc => by simp [cellsA] at h
  | .tp .., vs, cs, h, hc => by simp [cellsA] at h
theorem eqAgg_ok {T : Tab} (hT : TabOk P T) {op : BinOp} {t : TypeId} {x y : Operand} {yt : TypeId} {neg : Bool} {us vs : List Value} {fs : List Field} {t1 : TypeId} {z1 : Value} {s1 b1 : Nat}
    (hneg : eqOp op = some neg) (ht : lookT T t = some ⟨t1, .struct ⟨fs⟩, z1, s1, b1⟩) (hbl : blankB fs = true) {r : Bool} (hr : eqFs T fs us vs = some r) {a : Act}
    (hx : a.eval x = .agg us.toArray) (hy : a.eval y = .agg vs.toArray) : (execOp a.eval ⟨none, .binOp op t x y yt, 0, "", #[], none⟩).run P w = .ok (.value (.bool (bif neg then !r else r))) w := by
  have hu := (lookT_ok hT ht).2
  obtain ⟨hst, heg⟩ := lookT_eq hT ht
  have hf : P.fieldsOf t = ⟨fs⟩ := by simp [Program.fieldsOf, hu]
  have heq : (Op.equal t (.agg ⟨us⟩) (.agg ⟨vs⟩)).run P w = .ok r w := by
    have := run_equalIn_struct (P := P) w 9999 t ⟨us⟩ ⟨vs⟩ (by rw [hf, hu]) hst
    rw [hf] at this
    show (Op.equalIn 10000 t _ _).run P w = _
    rw [this]
    exact eqFs_ok hT 9998 hbl hr
  unfold eqOp at hneg
  split at hneg
  · simp at hneg; subst hneg
    unfold execOp
    simp [hx, hy, eqGuard, heg, binOp, heq]
  · simp at hneg; subst hneg
    unfold execOp
    simp [hx, hy, eqGuard, heg, binOp, heq]
  · cases hneg
theorem mapQ_P {k v u : Ty} {e off : Nat} {f : v.De → List u.De} {hv : Value} {hole : Option k.De} : ∀ {xs : List (k.De × v.De)} {es : List MapEntry} {vs : List Value}, mapQ (rt k) (rt v) (rt u) e off f hole hv ok w xs es vs → mapP (rt k) (rt v) ok w xs es
  | [], [], [], _ => rfl
  | x :: xs, en :: es, s :: vs, ⟨h1, h2, h3, h4⟩ => ⟨en, es, rfl, h1, h2, mapQ_P h4⟩
  | [], [], _ :: _, h => h.elim
  | [], _ :: _, _, h => h.elim
  | _ :: _, [], _, h => h.elim
  | _ :: _, _ :: _, [], h => h.elim
theorem mapD_ok {M : List (Nat × Ob)} (hM : ∀ id o, lookM M id = some o → (tlOf β ρ id o).p ok w) {id : Nat} {k v : Ty} {xs : List (k.De × v.De)} (h : mapD (lookM M id) = some ⟨k, v, xs⟩) :
    ∃ es clock, w.heap[β id]? = some (.map es clock) ∧ mapP (rt k) (rt v) ok w xs es.toList := by
  unfold mapD at h
  split at h
  · rename_i k' v' xs' ho
    simp at h
    obtain ⟨rfl, h⟩ := h
    have h := eq_of_heq h
    injection h with h1 h2
    subst h1
    have h2 := eq_of_heq h2
    subst h2
    obtain ⟨es, clock, q1, q2, _⟩ := hM _ _ ho
    exact ⟨es, clock, q1, q2⟩
  · rename_i k' v' p' e' u' xs' ho
    simp at h
    obtain ⟨rfl, h⟩ := h
    have h := eq_of_heq h
    injection h with h1 h2
    subst h1
    have h2 := eq_of_heq h2
    subst h2
    obtain ⟨f, _, es, clock, q1, q2, _⟩ := hM _ _ ho
    exact ⟨es, clock, q1, mapQ_P q2⟩
  · cases h
theorem eqOp_ok {op : BinOp} {neg : Bool} (h : eqOp op = some neg) : op = bif neg then .neq else .eql := by
  cases op <;> simp [eqOp] at h <;> subst h <;> rfl
theorem run_eqP {t el : TypeId} {q : Option Addr} (hu : (underlying t).run P w = .ok (.pointer el) w) : (Op.equal t (.pointer q) (.pointer none)).run P w = .ok q.isNone w := by
  show (Op.equalIn (9999 + 1) t _ _).run P w = _
  rw [Op.equalIn]
  cases q <;> simp [Sem.run_bind, hu]
theorem run_eqM {t k el : TypeId} {q : Option Nat} (hu : (underlying t).run P w = .ok (.map k el) w) : (Op.equal t (.map q) (.map none)).run P w = .ok q.isNone w := by
  show (Op.equalIn (9999 + 1) t _ _).run P w = _
  rw [Op.equalIn]
  cases q <;> simp [Sem.run_bind, hu]
theorem run_eqF {t : TypeId} {p r : Array TypeId} {v : Bool} (hu : (underlying t).run P w = .ok (.func p r v) w) {x : Value} {b : Bool} (hx : (x = .nilFunc ∧ b = true) ∨ (∃ f c s, x = .func f c s) ∧ b = false) : (Op.equal t x .nilFunc).run P w = .ok b w := by
  show (Op.equalIn (9999 + 1) t _ _).run P w = _
  rw [Op.equalIn]
  rcases hx with ⟨rfl, rfl⟩ | ⟨⟨f, c, s, rfl⟩, rfl⟩ <;> simp [Sem.run_bind, hu]
theorem nilT_ok (hT : TabOk P Y.T) {op : BinOp} {t yt : TypeId} {X1 Y1 : Operand} {x y : AV} {b : Bool} {c1 c2 : List Value} (h : nilT Y.T op t x y = some b) (hx : cr β ρ ok w false x c1) (hy : cr β ρ ok w false y c2)
    (h1 : a.eval X1 = x.val c1) (h2 : a.eval Y1 = y.val c2) :
    (execOp a.eval ⟨none, .binOp op t X1 Y1 yt, 0, "", #[], none⟩).run P w = .ok (.value (.bool b)) w := by
  unfold nilT at h
  split at h
  · rename_i neg te hneg hte
    have hop := eqOp_ok hneg
    have hu := run_under hT w hte
    split at h
    · rename_i el hd
      obtain ⟨hb, h⟩ := bvT h
      have hyn : y = .np := by cases y <;> simp [isNp] at hb; rfl
      subst hyn
      have hy' : c2 = [.pointer none] := hy
      subst hy'
      have h2' : a.eval Y1 = .pointer none := h2
      split at h
      · rename_i bb hbb
        injection h with h; subst h
        have key : ∃ q, a.eval X1 = .pointer q ∧ bb = q.isNone := by
          cases x <;> simp [nilP] at hbb <;> subst hbb
          · have hx' : c1 = _ := hx
            subst hx'; exact ⟨_, h1, rfl⟩
          · obtain ⟨g, _, hx'⟩ := hx
            subst hx'; exact ⟨_, h1, rfl⟩
          · obtain ⟨v, hx', hv⟩ := hx
            obtain ⟨b0, o0, c0, rfl, _⟩ := hv
            subst hx'; exact ⟨_, h1, rfl⟩
          · have hx' : c1 = _ := hx
            subst hx'; exact ⟨_, h1, rfl⟩
        obtain ⟨q, hq, hbq⟩ := key
        subst hbq
        rw [hd] at hu
        have hr := run_eqP (P := P) (w := w) (q := q) hu
        unfold execOp
        cases neg <;> subst hop <;> simp [hq, h2', eqGuard, binOp, hr]
      · cases h
    · rename_i kt et hd
      obtain ⟨hb, h⟩ := bvT h
      have hyn : y = .nm := by cases y <;> simp [isNm] at hb; rfl
      subst hyn
      have hy' : c2 = [.map none] := hy
      subst hy'
      have h2' : a.eval Y1 = .map none := h2
      split at h
      · rename_i bb hbb
        injection h with h; subst h
        have key : ∃ q, a.eval X1 = .map q ∧ bb = q.isNone := by
          cases x <;> simp [nilM] at hbb <;> subst hbb
          · have hx' : c1 = _ := hx
            subst hx'; exact ⟨_, h1, rfl⟩
          · have hx' : c1 = _ := hx
            subst hx'; exact ⟨_, h1, rfl⟩
        obtain ⟨q, hq, hbq⟩ := key
        subst hbq
        rw [hd] at hu
        have hr := run_eqM (P := P) (w := w) (q := q) hu
        unfold execOp
        cases neg <;> subst hop <;> simp [hq, h2', eqGuard, binOp, hr]
      · cases h
    · rename_i p1 p2 p3 hd
      obtain ⟨hb, h⟩ := bvT h
      have hyn : y = .nf := by cases y <;> simp [isNf] at hb; rfl
      subst hyn
      have hy' : c2 = [.nilFunc] := hy
      subst hy'
      have h2' : a.eval Y1 = .nilFunc := h2
      split at h
      · rename_i bb hbb
        injection h with h; subst h
        rw [hd] at hu
        cases x <;> simp [nilF] at hbb <;> subst hbb
        · have hx' : c1 = _ := hx
          subst hx'
          have h1' : a.eval X1 = .nilFunc := h1
          have hr := run_eqF (P := P) (w := w) hu (.inl ⟨rfl, rfl⟩)
          unfold execOp
          cases neg <;> subst hop <;> simp [h1', h2', eqGuard, binOp, hr]
        · rename_i f0 cp0
          obtain ⟨vs, hx', _⟩ := hx
          subst hx'
          have h1' : a.eval X1 = .func (.func f0) #[] vs.toArray := h1
          have hr := run_eqF (P := P) (w := w) hu (x := .func (.func f0) #[] vs.toArray) (b := false) (.inr ⟨⟨_, _, _, rfl⟩, rfl⟩)
          unfold execOp
          cases neg <;> subst hop <;> simp [h1', h2', eqGuard, binOp, hr]
      · cases h
    · cases h
  · cases h
theorem evalP_ok (hT : TabOk P Y.T) (h : RelW β ρ ok S a w) (hc : holdsC a cur) {o : Oper} {x : AV} (hv : evalP Y S cur o.op = some x) :
    ∃ cs, (execOp a.eval o).run P w = .ok (.value (x.val cs)) w ∧ cr β ρ (ok) w false x cs := by
  have hM : ∀ id o, lookM S.mem id = some o → (tlOf β ρ id o).p (ok) w := h.2
  unfold execOp
  generalize o.op = op at hv
  unfold evalP at hv
  split at hv
  ·
    obtain ⟨cs, h1, h2⟩ := h.ev hc hv
    exact ⟨cs, by dsimp only; rw [h1]; rfl, h2⟩
  · obtain ⟨cs, h1, h2⟩ := h.ev hc hv
    exact ⟨cs, by dsimp only; rw [h1]; rfl, h2⟩
  ·
    rename_i c p q
    split at hv
    · rename_i v hcv
      obtain ⟨cs0, h1, h2⟩ := h.ev hc hcv
      have h2' : cs0 = [.bool v] := h2
      subst h2'
      have hb : a.eval c = .bool v := h1
      obtain ⟨cs, h3, h4⟩ := pickA_ok (u1 := a.eval p) (u2 := a.eval q)
        (fun e u hu => h.ev (holdsC_cons hc (hb.trans (by rw [e]))) hu) (fun e u hu => h.ev (holdsC_cons hc (hb.trans (by rw [e]))) hu) hv
      refine ⟨cs, ?_, h4⟩
      simp only [hb]
      rw [← h3]
      cases v <;> simp [asBool]
    · cases hv
  ·
    split at hv
    · rename_i x1 x2 hx1 hx2
      split at hv
      · rename_i u v hu hw
        split at hv
        · rename_i r hr
          obtain ⟨c1, h1, h2⟩ := h.ev hc hx1
          obtain ⟨c2, h3, h4⟩ := h.ev hc hx2
          rw [lit_ok hu h2] at h1
          rw [lit_ok hw h4] at h3
          obtain ⟨cs, h5, h6⟩ := unlit_ok (β := β) (ρ := ρ) (ok := ok) (w := w) hv
          refine ⟨cs, ?_, h6⟩
          simp only [h1, h3]
          rw [← h5]
          simp [valBin_guard hr, valBin_ok hT hr]
        · cases hv
      · split at hv
        · rename_i b hb
          simp at hv; subst hv
          obtain ⟨c1, h1, h2⟩ := h.ev hc hx1
          obtain ⟨c2, h3, h4⟩ := h.ev hc hx2
          exact ⟨[.bool b], nilT_ok (yt := 0) hT hb h2 h4 h1 h3, rfl⟩
        split at hv
        · rename_i neg t1 fs z1 s1 b1 us vs hneg ht hus hvs
          cases hb : (blankB fs && x1.isAgg && x2.isAgg) with
          | false => rw [hb] at hv; cases hv
          | true =>
          rw [hb] at hv
          simp only [cond_true] at hv
          simp only [Bool.and_eq_true] at hb
          split at hv
          · rename_i r hr
            simp at hv; subst hv
            obtain ⟨c1, h1, h2⟩ := h.ev hc hx1
            obtain ⟨c2, h3, h4⟩ := h.ev hc hx2
            have e1 := cellsA_ok hus h2
            have e2 := cellsA_ok hvs h4
            subst e1; subst e2
            have f1 : x1.val c1 = .agg c1.toArray := by simp [AV.val, hb.1.2]
            have f2 : x2.val c2 = .agg c2.toArray := by simp [AV.val, hb.2]
            rw [f1] at h1; rw [f2] at h3
            exact ⟨[.bool (bif neg then !r else r)], eqAgg_ok hT (yt := 0) hneg ht hb.1.1 hr h1 h3, rfl⟩
          · cases hv
        · cases hv
    · cases hv
  ·
    split at hv
    · rename_i x1 hx1
      split at hv
      · rename_i u hu
        split at hv
        · rename_i r hr
          obtain ⟨c1, h1, h2⟩ := h.ev hc hx1
          rw [lit_ok hu h2] at h1
          obtain ⟨cs, h5, h6⟩ := unlit_ok (β := β) (ρ := ρ) (ok := ok) (w := w) hv
          refine ⟨cs, ?_, h6⟩
          simp only [h1]
          rw [← h5]
          simp [valUn_ok hr]
        · cases hv
      · cases hv
    · cases hv
  ·
    split at hv
    · rename_i _ _ _ _ k _ _ _ _ n hs ht hx
      simp at hv; subst hv
      obtain ⟨c1, h1, h2⟩ := h.ev hc hx
      have h2' : c1 = _ := h2
      subst h2'
      refine ⟨[.int k (k.wrap n)], ?_, rfl⟩
      have h1' : a.eval _ = .int _ n := h1
      simp [convert, run_under hT w hs, run_under hT w ht, h1', Conv.intToInt, AV.val, AV.isAgg, Ty.agg]
    · cases hv
  ·
    rename_i sT xo fI
    split at hv
    · rename_i fs _ _ _ x1 hs hx
      split at hv
      · rename_i fd hf
        split at hv
        · rename_i y e hn he
          cases hb : (Nat.beq e.size y.size && (isAggD e.d == y.isAgg) && x1.isAgg && y.isVal && (y.isAgg || Nat.beq y.size 1)) with
          | false => rw [hb] at hv; cases hv
          | true =>
            rw [hb] at hv
            simp at hv; subst hv
            simp only [Bool.and_eq_true] at hb
            obtain ⟨⟨⟨⟨b1, b2⟩, b3⟩, b4⟩, b5⟩ := hb
            have b1 := Nat.eq_of_beq_eq_true b1
            have b2 := bEq b2
            obtain ⟨c1, h1, h2⟩ := h.ev hc hx
            obtain ⟨h3, h4⟩ := nav_ok hn h2
            have hoff : ∀ k, offP [PS.f k fd.offset] = fd.offset := fun k => by simp [offP, PS.off]
            rw [hoff] at h3 h4
            refine ⟨_, ?_, h3⟩
            have h1' : a.eval xo = .agg c1.toArray := by rw [h1]; simp [AV.val, b3]
            simp only [h1']
            have hpart : (part fd.type c1.toArray fd.offset).run P w = .ok (y.val ((c1.drop fd.offset).take y.size)) w := by
              refine run_part hT w he c1 fd.offset ?_
              rw [b2, b1]
              cases ha : y.isAgg with
              | true => simp [AV.val, ha]
              | false =>
                rw [ha] at b5
                have h5 : y.size = 1 := Nat.eq_of_beq_eq_true (by simpa using b5)
                rw [h5] at h4 ⊢
                have hlt : fd.offset < c1.length := by omega
                have e1 : (c1.drop fd.offset).take 1 = [c1[fd.offset]] := by rw [List.drop_eq_getElem_cons hlt]; rfl
                rw [e1]
                simp [AV.val, ha, List.getElem?_eq_getElem hlt]
            simp [Instr.field, run_under hT w hs, hf, asAgg, hpart]
        · cases hv
      · cases hv
    · cases hv
  ·
    rename_i sT xo fI
    split at hv
    · rename_i fs _ _ _ x1 hs hx
      split at hv
      · rename_i off hfo
        obtain ⟨fd, hfd, rfl, e, he, hne⟩ := fieldOff_ok hfo
        obtain ⟨c1, h1, h2⟩ := h.ev hc hx
        have key : ∀ b o, a.eval xo = .pointer (some ⟨b, o, none⟩) → (Instr.fieldAt sT (a.eval xo) fI).run P w = .ok (.pointer (some ⟨b, o + fd.offset, none⟩)) w := fun b o he' => by
          rw [he']
          simp [Instr.fieldAt, run_under hT w hs, hfd, Instr.sureAddr, fieldPlace, Addr.add_lit, run_sizeOf' hT w he, hne]
        split at hv
        · rename_i id path
          simp at hv; subst hv
          have h2' : c1 = _ := h2
          subst h2'
          refine ⟨[.pointer (some ⟨β id, offP path + fd.offset, none⟩)], ?_, ?_⟩
          · dsimp only
            simp only [Sem.run_bind]
            rw [key _ _ h1]
            rfl
          · show [_] = [_]
            rw [offP_append]
            simp [offP, PS.off]
        · rename_i id path
          simp at hv; subst hv
          obtain ⟨g, hg, rfl⟩ := h2
          refine ⟨[.pointer (some ⟨g, offP path + fd.offset, none⟩)], ?_, g, hg, ?_⟩
          · dsimp only
            simp only [Sem.run_bind]
            rw [key _ _ h1]
            rfl
          · rw [offP_append]
            simp [offP, PS.off]
        · rename_i t y
          split at hv
          · rename_i u z hn
            simp at hv; subst hv
            obtain ⟨v, rfl, b, o', cs, rfl, hr, hcl⟩ := h2
            obtain ⟨h3, h4⟩ := nav_ok (β := β) (ρ := ρ) hn hr
            have hoff : ∀ k, offP [PS.f k fd.offset] = fd.offset := fun k => by simp [offP, PS.off]
            rw [hoff] at h3 h4
            refine ⟨[.pointer (some ⟨b, o' + fd.offset, none⟩)], ?_, _, rfl, b, _, _, rfl, h3, ?_⟩
            · dsimp only
              simp only [Sem.run_bind]
              rw [key _ _ h1]
              rfl
            · intro j q hj
              have hjl : j < (AV.d u z).size := by
                have := (List.getElem?_eq_some_iff.1 hj).1
                simp at this; omega
              rw [List.getElem?_take_of_lt hjl, List.getElem?_drop] at hj
              have := hcl _ _ hj
              rw [← Nat.add_assoc] at this
              exact this
          · cases hv
        · cases hv
      · cases hv
    · cases hv
  ·
    split at hv
    · rename_i e id path he hx
      split at hv
      · rename_i tid c ho
        split at hv
        · rename_i y hn
          cases hb : (Nat.beq e.size y.size && (isAggD e.d == y.isAgg) && y.isVal && (y.isAgg || Nat.beq y.size 1)) with
          | false => rw [hb] at hv; cases hv
          | true =>
            rw [hb] at hv
            simp at hv; subst hv
            simp only [Bool.and_eq_true] at hb
            obtain ⟨⟨⟨b1, b2⟩, b3⟩, b4⟩ := hb
            have b1 := Nat.eq_of_beq_eq_true b1
            have b2 := bEq b2
            obtain ⟨c1, h1, h2⟩ := h.ev hc hx
            have h2' : c1 = _ := h2
            subst h2'
            obtain ⟨cs, hh, hcr⟩ := hM _ _ ho
            obtain ⟨h3, h4⟩ := nav_ok hn hcr
            have hlen := cr_len h3
            refine ⟨_, ?_, h3⟩
            have h1' : a.eval _ = .pointer (some ⟨β id, offP path, none⟩) := h1
            simp only [h1', Sem.run_bind]
            rw [run_load_cells hT he (y := y) (cs := (cs.drop (offP path)).take y.size) (by rw [hlen]; exact b1) b2 (fun ha => by
              rw [ha] at b4
              rw [hlen]; exact Nat.eq_of_beq_eq_true (by simpa using b4)) (fun j u hu => by
                have hjl : j < y.size := by
                  have := (List.getElem?_eq_some_iff.1 hu).1
                  omega
                rw [List.getElem?_take_of_lt hjl, List.getElem?_drop] at hu
                simp only [World.cell?, hh]
                simpa using hu)]
            rfl
        · cases hv
      · cases hv
    · rename_i e t y he hx
      cases hb : (Nat.beq e.size t.size && (isAggD e.d == t.agg)) with
      | false => rw [hb] at hv; cases hv
      | true =>
        rw [hb] at hv
        simp at hv; subst hv
        simp only [Bool.and_eq_true] at hb
        have b1 := Nat.eq_of_beq_eq_true hb.1
        have b2 := bEq hb.2
        obtain ⟨c1, h1, h2⟩ := h.ev hc hx
        obtain ⟨v, rfl, b, o', cs, rfl, hr, hcl⟩ := h2
        have hlen : cs.length = t.size := by rw [(rt t).len hr, rt_size]
        refine ⟨cs, ?_, hr⟩
        have h1' : a.eval _ = .pointer (some ⟨b, o', none⟩) := h1
        simp only [h1', Sem.run_bind]
        rw [run_load_cells hT he (y := .d t y) (cs := cs) (by rw [hlen, b1]) b2 (fun ha => by rw [hlen]; exact oneTy ha) (fun j u hu => (hcl j u hu).2)]
        rfl
    · cases hv
  ·
    split at hv
    · rename_i l hx
      obtain ⟨c1, h1, vs, rfl, hl⟩ := h.ev hc hx
      obtain ⟨cs, h3, h4⟩ := nth_ok hv hl
      refine ⟨cs, ?_, h4⟩
      have h1' : a.eval _ = .tuple vs.toArray := h1
      simp [h1', Instr.extract, h3]
    · cases hv
  ·
    split at hv
    · rename_i e x1 he hx
      obtain ⟨c1, h1, h2⟩ := h.ev hc hx
      split at hv
      · rename_i hd
        split at hv
        · cases hv
        · rename_i hns
          split at hv
          · rename_i n hn
            simp at hv; subst hv
            obtain ⟨A, c, hval⟩ := lenA_ok hM hn hns h2
            refine ⟨[.int .i64 n], ?_, rfl⟩
            rw [hval] at h1
            simp [resolve, invoke, builtin, Builtin.len_, run_under hT w he, hd, h1, goInt, AV.val, AV.isAgg, Ty.agg]
          · cases hv
      · rename_i hd
        split at hv
        · rename_i l
          simp at hv; subst hv
          have h2' : c1 = _ := h2
          subst h2'
          refine ⟨[.int .i64 l.length], ?_, rfl⟩
          have h1' : a.eval _ = strV l := h1
          simp [resolve, invoke, builtin, Builtin.len_, run_under hT w he, hd, h1', goInt, AV.val, AV.isAgg, Ty.agg, strV, size_str]
        · cases hv
      · cases hv
    · cases hv
  ·
    split at hv
    · rename_i x1 x2 hx1 hx2
      split at hv
      · rename_i k p _ q hi1 hi2
        simp at hv; subst hv
        have e1 := isInt_ok hi1
        have e2 := isInt_ok hi2
        subst e1; subst e2
        obtain ⟨c1, h1, h2⟩ := h.ev hc hx1
        obtain ⟨c2, h3, h4⟩ := h.ev hc hx2
        have h2' : c1 = _ := h2
        have h4' : c2 = _ := h4
        subst h2'; subst h4'
        refine ⟨[.int k (if q > p then q else p)], ?_, rfl⟩
        have h1' : a.eval _ = .int k p := h1
        have h3' : a.eval _ = .int _ q := h3
        simp [resolve, invoke, builtin, Builtin.max_, Builtin.max2, h1', h3', AV.val, AV.isAgg, Ty.agg]
      · cases hv
    · cases hv
  ·
    split at hv
    · rename_i x1 x2 hx1 hx2
      split at hv
      · rename_i k p _ q hi1 hi2
        simp at hv; subst hv
        have e1 := isInt_ok hi1
        have e2 := isInt_ok hi2
        subst e1; subst e2
        obtain ⟨c1, h1, h2⟩ := h.ev hc hx1
        obtain ⟨c2, h3, h4⟩ := h.ev hc hx2
        have h2' : c1 = _ := h2
        have h4' : c2 = _ := h4
        subst h2'; subst h4'
        refine ⟨[.int k (if q < p then q else p)], ?_, rfl⟩
        have h1' : a.eval _ = .int k p := h1
        have h3' : a.eval _ = .int _ q := h3
        simp [resolve, invoke, builtin, Builtin.min_, Builtin.min2, h1', h3', AV.val, AV.isAgg, Ty.agg]
      · cases hv
    · cases hv
  ·
    rename_i tT parts
    split at hv
    · rename_i _ fs z _ _ ty hs hty
      split at hv
      · rename_i l ps vs hz hp hvs
        split at hv
        · rename_i l' hl'
          simp at hv; subst hv
          have hpl := placesT_ok hT hp
          have hpr := run_places (P := P) w fs ps hpl
          obtain ⟨cs', h5, h6⟩ := fillP_ok ps hl' (zeroAV_ok (x := .ag l) hz) (h.evParts hc hvs)
          have hf := fillL_ok _ h5
          refine ⟨cs', ?_, h6⟩
          simp only [Instr.build, Sem.run_bind, run_zeroValue hT w hs, run_under hT w hs, Result.andThen_ok]
          simp only [Array.mapM_eq_mapM_toList, Sem.run_map, bind_pure_comp, hpr, Result.andThen_ok]
          have hf' : Instr.fill (fun x => ps.toArray[x]?) z.cells (parts.map fun p => (p.1, a.eval p.2)) = some cs'.toArray := by
            rw [cellsL_eq] at hf
            simpa using hf
          have hm : ((Array.mk parts).map fun (x : Nat × Operand) => (x.1, a.eval x.2)).toList = parts.map fun p => (p.1, a.eval p.2) := by simp
          rw [hm, hf']
          simp [AV.val, AV.isAgg]
        · cases hv
      · cases hv
    · rename_i _ _ e z _ _ m u hs hty
      split at hv
      · rename_i ee vs he hvs
        split at hv
        · rename_i xs hxs
          obtain ⟨hb, hv⟩ := bvT hv
          simp only [Bool.and_eq_true] at hb
          simp at hv; subst hv
          have hsz := Nat.eq_of_beq_eq_true hb.1.1
          have hxl := Nat.eq_of_beq_eq_true hb.1.2
          have hzl := Nat.eq_of_beq_eq_true hb.2
          obtain ⟨us, q1, q2, q3⟩ := h.asLs hc hvs hxs
          have hcl := allV_size q2
          rw [rt_size] at hcl
          have hfill := fillS us 0 (cellsL z) hcl (by rw [hzl, Nat.zero_add, q3, hxl]; exact Nat.le_refl _)
          rw [← q1] at hfill
          simp only [Nat.zero_mul, List.take_zero, List.nil_append, Nat.zero_add] at hfill
          rw [List.drop_of_length_le (by rw [hzl, q3, hxl]; exact Nat.le_refl _), List.append_nil] at hfill
          have hf := fillL_ok _ hfill
          rw [← hsz, cellsL_eq] at hf
          refine ⟨us.flatMap cellsL, ?_, hxl, allV_rep q2⟩
          have hm : ((Array.mk parts).map fun (x : Nat × Operand) => (x.1, a.eval x.2)).toList = parts.map fun p => (p.1, a.eval p.2) := by simp
          simp only [Instr.build, Sem.run_bind, run_zeroValue hT w hs, run_under hT w hs, run_sizeOf' hT w he, Result.andThen_ok]
          have hf' : Instr.fill (fun i => some (i * ee.size, ee.size)) z.cells (parts.map fun p => (p.1, a.eval p.2)) = some (us.flatMap cellsL).toArray := by
            have : (parts.map fun p => (p.1, a.eval p.2)) = List.map (fun p => (p.fst, a.eval p.snd)) parts := rfl
            show Instr.fill (placeS ee.size) z.cells _ = _
            simpa using hf
          rw [hm, hf']
          simp [AV.val, AV.isAgg, Ty.agg]
        · cases hv
      · cases hv
    · cases hv
  ·
    rename_i x
    split at hv
    · rename_i id path hx
      simp at hv; subst hv
      obtain ⟨c1, h1, h2⟩ := h.ev hc hx
      refine ⟨c1, ?_, h2⟩
      have h2' : c1 = _ := h2
      subst h2'
      have h1' : a.eval x = .pointer (some ⟨β id, offP path, none⟩) := h1
      simp [h1', AV.val, AV.isAgg]
    · rename_i id path hx
      simp at hv; subst hv
      obtain ⟨c1, h1, g, h2, h3⟩ := h.ev hc hx
      refine ⟨c1, ?_, g, h2, h3⟩
      subst h3
      have h1' : a.eval x = .pointer (some ⟨g, offP path, none⟩) := h1
      simp [h1', AV.val, AV.isAgg]
    · rename_i t y hx
      simp at hv; subst hv
      obtain ⟨c1, h1, v1, h2, h3⟩ := h.ev hc hx
      refine ⟨c1, ?_, v1, h2, h3⟩
      obtain ⟨b, o, c, rfl, _⟩ := h3
      subst h2
      have h1' : a.eval x = .pointer (some ⟨b, o, none⟩) := h1
      simp [h1', AV.val, AV.isAgg]
    · rename_i fn caps hx
      simp at hv; subst hv
      obtain ⟨c1, h1, vs, h2, h3⟩ := h.ev hc hx
      refine ⟨c1, ?_, vs, h2, h3⟩
      subst h2
      have h1' : a.eval x = .func (.func fn) #[] vs.toArray := h1
      simp [h1', AV.val, AV.isAgg]
    · cases hv
  ·
    rename_i f caps
    split at hv
    · rename_i l hl
      simp at hv; subst hv
      refine ⟨[.func (.func f) #[] (caps.map a.eval).toArray], ?_, _, rfl, h.evs hc hl⟩
      simp [Instr.makeFunc, AV.val, AV.isAgg]
    · cases hv
  ·
    rename_i t x ix c
    split at hv
    · rename_i te id iv hte hx hix
      split at hv
      · rename_i kt et k v xs htd hmo
        split at hv
        · rename_i tk tz key htk htz hkey
          split at hv
          · rename_i za hza
            split at hv
            · rename_i z hz
              cases hb : (descK Y.T k tk.d && (k.agg == iv.isAgg) && (v.agg == isAggV tz.z)) with
              | false => rw [hb] at hv; cases hv
              | true =>
              rw [hb] at hv
              simp only [cond_true, Option.some.injEq] at hv
              simp only [Bool.and_eq_true] at hb
              obtain ⟨c1, h1, h2⟩ := h.ev hc hx
              have h2' : c1 = [.map (some (β id))] := h2
              subst h2'
              have h1' : a.eval x = .map (some (β id)) := h1
              obtain ⟨c3, h3, h4⟩ := h.ev hc hix
              have hkr : isV (rt k) ok w key (a.eval ix) := by
                refine ⟨c3, asD_ok (M := []) (β := β) (ρ := ρ) (by simp [lookM]) hkey h4, ?_⟩
                rw [h3]; simp only [AV.val, RT.val, rt_agg, bEq hb.1.2]; cases iv.isAgg <;> rfl
              obtain ⟨es, clock, hg, hp⟩ := mapD_ok hM hmo
              have hzv : isV (rt v) ok w z tz.z := ⟨cellsL tz.z, asD_ok (M := []) (β := β) (ρ := ρ) (by simp [lookM]) hz (zeroAV_ok hza), (val_cells (bEq hb.2)).symm⟩
              obtain ⟨u, hrun, hu, _⟩ := run_lookup hT hte htd htk htz hb.1.1 hg hp key hzv c
              rw [← keyV_rep (descK_key hb.1.1) hkr] at hrun
              obtain ⟨cu, hu1, hu2⟩ := hu
              have hvu : (AV.d v ((findL key xs).getD z)).val cu = u := by rw [hu2]; simp only [AV.val, RT.val, rt_agg, AV.isAgg]; cases v.agg <;> rfl
              cases c with
              | true =>
                simp only at hv; subst hv
                refine ⟨[.tuple #[u, .bool (findL key xs).isSome]], ?_, [u, .bool (findL key xs).isSome], rfl, cu, [.bool (findL key xs).isSome], by rw [hvu], hu1, [.bool (findL key xs).isSome], [], rfl, rfl, rfl⟩
                simp only [h1']
                simp only [if_true] at hrun
                simp [hrun, AV.val, AV.isAgg]
              | false =>
                simp only at hv; subst hv
                refine ⟨cu, ?_, hu1⟩
                rw [hvu]
                simp only [h1']
                simp only [Bool.false_eq_true, if_false] at hrun
                simp [hrun]
            · cases hv
          · cases hv
        · cases hv
      · cases hv
    · cases hv
  · cases hv
end
end Gx
