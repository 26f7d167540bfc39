/- A region whose order is drawn, once more: what is known of a temporary may speak of those it stands behind. -/
import Derived.Test.YtnlnadfpfekeiaaDoorXO
namespace Gx
open Go Go.RowKit Gd
set_option linter.unusedVariables false
set_option linter.unusedSimpArgs false

theorem opNe_eval {d : Nat} {x : Operand} (h : opNe d x = true) (a : Act) (v : Value) : (a.put (some d) v).eval x = a.eval x := by
  cases x with
  | tmp t =>
    have hne : t ≠ d := by
      intro e; subst e
      simp [opNe, Nat.beq_refl] at h
    simp only [Act.eval, Array.getD_eq_getD_getElem?, put_other hne]
  | _ => rfl
section
variable {P : Program} {ops : Array Oper} {Q : Exit → Act → World → Prop} {rest : List Oper} {a : Act} {w : World}
theorem run_store {ρ : Operand → Value} {t : TypeId} {x y : Operand} {dst : Option Nat} {ty : TypeId} {ps : String} {af : Array Edge} {gd : Option (Nat × Bool)} :
    ((execOp ρ ⟨dst, .store t x y, ty, ps, af, gd⟩).run P w) = match (Instr.storeAt t (ρ x) (ρ y)).run P w with
      | .ok _ w' => .ok .skip w'
      | .halt e w' => .halt e w' := by
  unfold execOp
  simp
  generalize (Instr.storeAt t (ρ x) (ρ y)).run P w = r
  cases r <;> rfl
theorem swap_late {l : List Oper} {p j0 : Nat} (hb : lateB l p j0 = true) (hQ : ∀ e a w, Q e a w → e = .normal) {oj ok : Oper} (hj : l[j0]? = some oj) (hk : l[p]? = some ok) (h : wpList P ops Q (oj :: ok :: rest) a w) : wpList P ops Q (ok :: oj :: rest) a w := by
  have hL : ¬ LetsOut Q := fun ⟨a, w, h⟩ => by cases hQ _ _ _ h
  unfold lateB at hb
  rw [hj, hk] at hb
  split at hb
  · rename_i d t m tyj psj afj tk x y tyk psk afk e1 e2
    injection e1 with e1; injection e2 with e2
    subst e1; subst e2
    simp only [Bool.and_eq_true] at hb
    unfold wpList at h ⊢
    rw [if_pos (wanted_none rfl _)] at h ⊢
    rcases h with h | ⟨_, h⟩
    · left
      unfold Oper.wp at h ⊢
      have hjr : ∀ (w : World) (b : Act), b.eval (.tmp t) = a.eval (.tmp t) → (execOp b.eval ⟨some d, .extract (.tmp t) m, tyj, psj, afj, none⟩).run P w = match a.eval (.tmp t) with
          | .tuple vs => (match vs[m]? with
            | some v => .ok (.value v) w
            | none => .halt (.stuck "Extract: no such component") w)
          | _ => .halt (.stuck "Extract: tuple expected") w := by
        intro w b hbe
        unfold execOp
        simp only [hbe]
        generalize a.eval (.tmp t) = v
        unfold Instr.extract
        cases v with
        | tuple vs =>
          simp only
          cases vs[m]? <;> simp [Go.stuck] <;> rfl
        | _ => simp [Go.stuck] <;> rfl
      rw [hjr w a rfl] at h
      split at h
      · rename_i vs hvs
        split at h
        · rename_i v hv
          have h : wpList P ops Q (⟨none, .store tk x y, tyk, psk, afk, none⟩ :: rest) (a.put (some d) v) w := h
          unfold wpList at h
          rw [if_pos (wanted_none rfl _)] at h
          rcases h with h | ⟨_, h⟩
          · unfold Oper.wp at h
            rw [run_store] at h ⊢
            rw [opNe_eval hb.1, opNe_eval hb.2] at h
            generalize (Instr.storeAt tk (a.eval x) (a.eval y)).run P w = r at *
            cases r with
            | ok u w' =>
              have h : wpList P ops Q rest (a.put (some d) v) w' := h
              show wpList P ops Q (⟨some d, .extract (.tmp t) m, tyj, psj, afj, none⟩ :: rest) a w'
              unfold wpList
              rw [if_pos (wanted_none rfl _)]
              left
              unfold Oper.wp
              rw [hjr w' a rfl, hvs]
              simp only [hv]
              exact h
            | halt e w' =>
              exfalso
              cases e with
              | panic v => cases hQ _ _ _ h
              | _ => exact h
          · exact absurd h hL
        · exact h.elim
      · exact h.elim
    · exact absurd h hL
  · cases hb
end
theorem fin_okL {l : List Oper} {p j0 k i : Nat} (h : finL l p j0 = true) (hk : p ≤ k) (hkl : k < l.length) (hi : i < k) (hn : ¬ (k = p ∧ i = j0)) : behindB l l.length k i = true := by
  have := List.all_eq_true.1 h k (List.mem_range.2 hkl)
  simp only [Bool.or_eq_true] at this
  rcases this with h1 | h1
  · have := Nat.lt_of_succ_le (Nat.le_of_ble_eq_true h1); omega
  · have := List.all_eq_true.1 h1 i (List.mem_range.2 hi)
    simp only [Bool.or_eq_true, Bool.and_eq_true] at this
    rcases this with h2 | ⟨h2, h3⟩
    · exact h2
    · exact absurd ⟨Nat.eq_of_beq_eq_true h2, Nat.eq_of_beq_eq_true h3⟩ hn
/-- A fact on the temporaries. -/
structure FA where
  p : Ok → World → Act → Prop
  evo : ∀ {ok w w' a}, p ok w a → Evo ok w w' → p ok w' a
  weak : ∀ {ok ok' w a}, p ok w a → (∀ b o, ok b o → ok' b o) → p ok' w a

section
variable {P : Program} {T : Tab} {β : Nat → Nat} {X : Cx} {G : GL} {D : List DF} {H : HL} {O : List TL} {a : Act} {w w' : World}

def doneA (F : List FA) (E : Nat → Prop) (a : Act) : DF where
  p := fun ok w => ∀ (i : Nat) fv, E i → F[i]? = some fv → fv.p ok w a
  evo := fun h he i fv h1 h2 => fv.evo (h i fv h1 h2) he
  weak := fun h hk i fv h1 h2 => fv.weak (h i fv h1 h2) hk

/-- Operation i0 takes T0. -/
def ownStepA (q : List (Option (Value → TL))) (i0 : Nat) (T0 : List TL) (i d : Nat) (Ox Ox' : List TL) (a' : Act) : Prop :=
  (i = i0 → ∃ Oz, Ox.Perm (T0 ++ Oz) ∧ ownStep q i d Oz Ox' a') ∧ (i ≠ i0 → ownStep q i d Ox Ox' a')
def StepA (q : List (Option (Value → TL))) (i0 : Nat) (T0 : List TL) (β0 : Nat → Nat) (P : Program) (l : List Oper) (X : Cx) (G : GL) (D : List DF) (H : HL) (O : List TL) (ds : List Nat) (F : List FA) (i : Nat) : Prop :=
  match ds[i]?, F[i]?, l[i]? with
  | some d, some fv, some o =>
    ∀ (β : Nat → Nat) (a : Act) (w : World) (dX : DF) (Ox : List TL) (Q : Exit → Act → World → Prop), Sb β ⟨X.n, X.ok, X.w, remD ds d, a, some β0, X.lent, X.lok⟩ G (dX :: D) H (Ox ++ O) a w →
      (∀ (j : Nat) (gv : FA), predB l i j = true → F[j]? = some gv → gv.p (okOf X.ok X.w.heap.size β H (Ox ++ O) w) w a) → (i = i0 → ∃ Oz, Ox.Perm (T0 ++ Oz)) →
      (∀ β' a' w' Ox', Sb β' ⟨X.n, X.ok, X.w, remD ds d, a, some β0, X.lent, X.lok⟩ G (dX :: D) H (Ox' ++ O) a' w' → fv.p (okOf X.ok X.w.heap.size β' H (Ox' ++ O) w') w' a' → ownStepA q i0 T0 i d Ox Ox' a' → Q .normal a' w') →
      wpList P ⟨l⟩ Q [o] a w
  | _, _, _ => True

theorem draw_ruleA (q : List (Option (Value → TL))) (i0 : Nat) (T0 : List TL) (h : Sb β X G D H (T0 ++ O) a w) {id : Nat} {l : List Oper} {Q : Exit → Act → World → Prop} (hX : isNil X.res = true) (hm : P.follows .mixedOrders = true) (p j0 : Nat) (ds : List Nat) (F : List FA) (hi0 : i0 < p ∨ T0 = []) (hlate : j0 < p → lateB l p j0 = true ∧ ∀ e a w, Q e a w → e = .normal)
    (hlen : Nat.beq ds.length p = true) (hlF : Nat.beq F.length p = true) (hple : Nat.ble p l.length = true)
    (hback : Gd.backB l = true) (hfin : finL l p j0 = true) (hdst : dstB l ds 0 = true) (hnd : nodupB ds = true) (hfr : freshB X G ds = true)
    (hloc : ∀ (i : Nat) fv, F[i]? = some fv → ∀ (a a' : Act) ok w, (∀ j e : Nat, (j = i ∨ predB l i j = true) → ds[j]? = some e → a'.tmps.getD e undef = a.tmps.getD e undef) → fv.p ok w a → fv.p ok w a')
    (hstep : AllB (StepA q i0 T0 β P l X G D H O ds F) p)
    (hend : ∀ β' a' w', Sb β' {X with pin := some β} G D H (ownAll q ds a' ++ O) a' w' → (∀ (i : Nat) fv, F[i]? = some fv → fv.p (okOf X.ok X.w.heap.size β' H (ownAll q ds a' ++ O) w') w' a') → wpList P ⟨l⟩ Q (l.drop p) a' w') :
    (Code.region id ⟨l⟩ true).wp P Q a w := by
  refine wp_region_any hm ?_
  have hpl := Nat.le_of_ble_eq_true hple
  have hdl := Nat.eq_of_beq_eq_true hlen
  have hFl := Nat.eq_of_beq_eq_true hlF
  have hNd := nodupB_ok hnd
  have hXr : X.res = [] := by
    cases hr : X.res with
    | nil => rfl
    | cons x xs => rw [hr] at hX; simp [isNil] at hX
  have hds : ∀ d ∈ ds, d < X.n ∧ ∀ q ∈ G, q.1 ≠ d := by
    intro d hd
    have := List.all_eq_true.1 hfr d hd
    simp only [Bool.and_eq_true] at this
    refine ⟨Nat.lt_of_succ_le (Nat.le_of_ble_eq_true this.1), fun q hq e => notIn_ok this.2 (List.mem_map.2 ⟨q, hq, e⟩)⟩
  -- the invariant
  let E (listed : Array Bool) : Nat → Prop := fun i => listed.getD i false = true
  let J (listed : Array Bool) (a : Act) (w : World) : Prop := listed.size = l.length ∧ closed l (E listed) ∧
    (((∀ k, p ≤ k → ¬ E listed k) ∧ ∃ β1 Ox, Sb β1 {X with pin := some β} G (doneA F (E listed) a :: D) H (Ox ++ O) a w ∧ Ox.Perm ((bif listed.getD i0 false then [] else T0) ++ ownSo q ds (fun i => listed.getD i false) a (List.range p))) ∨
     (∃ k, p < k ∧ (∀ i, i < l.length → (E listed i ↔ i < k)) ∧ wpList P ⟨l⟩ Q (l.drop k) a w) ∨
     (j0 < p ∧ p < l.length ∧ (∀ i, i < l.length → (E listed i ↔ i ≤ p ∧ i ≠ j0)) ∧ ∃ oj, l[j0]? = some oj ∧ wpList P ⟨l⟩ Q (oj :: l.drop (p + 1)) a w))
  have hset : ∀ (listed : Array Bool) (i j : Nat), listed.size = l.length → i < l.length → (E (listed.setIfInBounds i true) j ↔ (j = i ∨ E listed j)) := by
    intro listed i j hs hi
    simp only [E, Array.getD_eq_getD_getElem?, Array.getElem?_setIfInBounds, hs]
    by_cases hj : i = j
    · subst hj; simp [hi]
    · have hj' : ¬ j = i := fun e => hj e.symm
      simp [hj, hj']
  have hoe : ∀ (listed : Array Bool) (a : Act) (Ox : List TL), Ox.Perm ((bif listed.getD i0 false then [] else T0) ++ ownSo q ds (fun i => listed.getD i false) a (List.range p)) → (∀ i, i < p → E listed i) → Ox.Perm (ownAll q ds a) := by
    intro listed a Ox hI hall
    have e0 : (bif listed.getD i0 false then [] else T0) = [] := by
      rcases hi0 with hi0 | hi0
      · have := hall i0 hi0
        simp only [E] at this
        rw [this]; rfl
      · rw [hi0]; cases listed.getD i0 false <;> rfl
    rw [e0, List.nil_append] at hI
    have e := ownAll_eq q ds a 0 p (by omega)
    simp only [List.drop_zero] at e
    rw [e, ← List.range_eq_range']
    have : ownSo q ds (fun i => listed.getD i false) a (List.range p) = ownSo q ds (fun _ => true) a (List.range p) := by
      unfold ownSo
      refine filterMap_same fun j hj => ?_
      have hj := hall j (List.mem_range.1 hj)
      simp only [E] at hj
      simp only [hj]
    rw [← this]; exact hI
  -- the end
  have hdone : ∀ listed a w, J listed a w → (∀ i, i < l.length → E listed i) → Q .normal a w := by
    rintro listed a w ⟨hs, hc, h1 | ⟨k, hk, hE, hw⟩ | ⟨hjp, hpl2, hE, _⟩⟩ hall
    · obtain ⟨hno, β1, Ox, hS, hI⟩ := h1
      have hpm : p = l.length := by
        rcases Nat.lt_or_ge p l.length with hlt | hge
        · exact absurd (hall p hlt) (hno p (Nat.le_refl _))
        · omega
      have hS' : Sb β1 {X with pin := some β} G D H (Ox ++ O) a w := { hS with dat := hS.dat.2 }
      have hpm2 := (hoe listed a Ox hI fun i hi => hall i (by omega)).append_right O
      have := hend β1 a w (hS'.perm hpm2) (fun i fv hf => fv.weak (hS.dat.1 i fv (hall i (by have := (List.getElem?_eq_some_iff.1 hf).1; omega)) hf) fun b o ⟨h1, h2, h3, h4⟩ => ⟨h1, h2, h3, fun u hu => h4 u (hpm2.mem_iff.2 hu)⟩)
      rw [hpm, List.drop_length] at this
      exact this
    · have hkl : l.length ≤ k := by
        rcases Nat.lt_or_ge k l.length with hlt | hge
        · have := (hE k hlt).1 (hall k hlt); omega
        · exact hge
      rw [List.drop_eq_nil_of_le hkl] at hw
      exact hw
    · have hjl : j0 < l.length := by omega
      exact absurd rfl ((hE j0 hjl).1 (hall j0 hjl)).2
  let J1 (listed : Array Bool) (a : Act) (w : World) : Prop := (∀ k, p ≤ k → ¬ E listed k) ∧ ∃ β1 Ox, Sb β1 {X with pin := some β} G (doneA F (E listed) a :: D) H (Ox ++ O) a w ∧ Ox.Perm ((bif listed.getD i0 false then [] else T0) ++ ownSo q ds (fun i => listed.getD i false) a (List.range p))
  have step1 : ∀ (listed : Array Bool) (a : Act) (w : World) (i : Nat) (o : Oper) (Q' : Exit → Act → World → Prop), listed.size = l.length → closed l (E listed) → J1 listed a w → i < p → l[i]? = some o → ¬ E listed i →
      (∀ e ∈ o.after.toList, Region.binds .any e = true → listed.getD e.on false = true) → (∀ a' w', J1 (listed.setIfInBounds i true) a' w' → Q' .normal a' w') → wpList P ⟨l⟩ Q' [o] a w := by
    rintro listed a w i o Q' hs hc ⟨hno, β1, Ox, hS, hI⟩ hip ho hniE hpre hK
    have hil : i < l.length := by omega
    obtain ⟨d, hd⟩ : ∃ d, ds[i]? = some d := ⟨ds[i]'(by omega), List.getElem?_eq_getElem (by omega)⟩
    obtain ⟨fv, hf⟩ : ∃ fv, F[i]? = some fv := ⟨F[i]'(by omega), List.getElem?_eq_getElem (by omega)⟩
    obtain ⟨o', ho', hdo⟩ := dstB_ok hdst i d hd
    rw [Nat.zero_add, ho] at ho'
    injection ho' with ho'; subst ho'
    have hdm : d ∈ ds := List.mem_of_getElem? hd
    have hst := hstep.get hip
    simp only [StepA, hd, hf, ho] at hst
    have hst := hst β1 a w (doneA F (E listed) a) Ox
    refine hst Q' ?_ ?_ ?_ ?_
    · exact { hS with fr := fun _ _ => rfl }
    · intro j gv hp hg
      have hEj : E listed j := by
        simp only [predB, ho] at hp
        obtain ⟨e', he', hb'⟩ := List.any_eq_true.1 hp
        simp only [Bool.and_eq_true] at hb'
        rw [← Nat.eq_of_beq_eq_true hb'.2]
        exact hpre e' he' hb'.1
      exact hS.dat.1 j gv hEj hg
    · intro hii
      subst hii
      have hnotE : listed.getD i false = false := by
        cases h1 : listed.getD i false with
        | false => rfl
        | true => exact absurd h1 hniE
      rw [hnotE, cond_false] at hI
      exact ⟨_, hI⟩
    · intro β' a' w' Ox' hS' hfv hos
      have hgd : ∀ {j e : Nat}, ds[j]? = some e → j ≠ i → a'.tmps.getD e undef = a.tmps.getD e undef := by
        intro j e hj hji
        have hne : e ≠ d := by
          intro he
          subst he
          have h1 := (List.getElem?_eq_some_iff.1 hj)
          have h2 := (List.getElem?_eq_some_iff.1 hd)
          have hpw := List.pairwise_iff_getElem.1 hNd
          rcases Nat.lt_or_ge j i with hlt | hge
          · exact hpw j i h1.1 h2.1 hlt (h1.2.trans h2.2.symm)
          · exact hpw i j h2.1 h1.1 (by omega) (h2.2.trans h1.2.symm)
        have hfr' := hS'.fr e (mem_remD (List.mem_of_getElem? hj) hne)
        simp only [Array.getD_eq_getD_getElem?]
        rw [hfr']
      have hgD : ds.getD i 0 = d := by rw [List.getD_eq_getElem?_getD, hd]; rfl
      refine hK a' w' ⟨fun k hk hEk => ?_, β', Ox', ?_, ?_⟩
      case refine_3 =>
        have hsame : ∀ j ∈ List.range p, j ≠ i → (match isOwn q j with | some mk => bif (listed.setIfInBounds i true).getD j false then some (mk (a'.tmps.getD (ds.getD j 0) undef)) else none | none => none) =
            (match isOwn q j with | some mk => bif listed.getD j false then some (mk (a.tmps.getD (ds.getD j 0) undef)) else none | none => none) := by
          intro j hj hji
          have hjp := List.mem_range.1 hj
          have hdj : ds[j]? = some (ds.getD j 0) := by rw [List.getD_eq_getElem?_getD, List.getElem?_eq_getElem (by omega)]; rfl
          have h1 : (listed.setIfInBounds i true).getD j false = listed.getD j false := by
            have := hset listed i j hs hil
            simp only [E] at this
            cases h2 : listed.getD j false with
            | true => exact this.2 (.inr h2)
            | false =>
              cases h3 : (listed.setIfInBounds i true).getD j false with
              | false => rfl
              | true => rcases this.1 h3 with h4 | h4
                        · exact absurd h4 hji
                        · rw [h2] at h4; cases h4
          rw [h1, hgd hdj hji]
        have hnotE : listed.getD i false = false := by
          cases h1 : listed.getD i false with
          | false => rfl
          | true => exact absurd h1 hniE
        have hisE : (listed.setIfInBounds i true).getD i false = true := (hset listed i i hs hil).2 (.inl rfl)
        have hgo : ∀ {Oz pre : List TL}, Oz.Perm (pre ++ ownSo q ds (fun i => listed.getD i false) a (List.range p)) → ownStep q i d Oz Ox' a' → Ox'.Perm (pre ++ ownSo q ds (fun j => (listed.setIfInBounds i true).getD j false) a' (List.range p)) := by
          intro Oz pre hI hos
          unfold ownStep at hos
          split at hos
          · rename_i mk hes
            subst hos
            refine (List.Perm.cons _ hI).trans ((List.perm_middle.symm).trans (List.Perm.append_left pre (List.Perm.symm ?_)))
            unfold ownSo
            refine filterMap_one (i := i) ?_ ?_ List.nodup_range (List.mem_range.2 hip) hsame
            · simp only [hes, hnotE, cond_false]
            · simp only [hes, hisE, cond_true, hgD]
          · rename_i hes
            subst hos
            refine hI.trans (List.Perm.append_left pre ?_)
            unfold ownSo
            rw [filterMap_same fun j hj => ?_]
            · by_cases hji : j = i
              · subst hji; simp only [hes]
              · exact (hsame j hj hji).symm
        by_cases hii : i = i0
        · obtain ⟨Oz, ho1, ho2⟩ := hos.1 hii
          subst hii
          rw [hnotE, cond_false] at hI
          rw [hisE, cond_true]
          exact hgo (pre := []) ((List.perm_append_left_iff T0).1 (ho1.symm.trans hI)) ho2
        · have e1 : (listed.setIfInBounds i true).getD i0 false = listed.getD i0 false := by
            have := hset listed i i0 hs hil
            simp only [E] at this
            cases h2 : listed.getD i0 false with
            | true => exact this.2 (.inr h2)
            | false =>
              cases h3 : (listed.setIfInBounds i true).getD i0 false with
              | false => rfl
              | true => rcases this.1 h3 with h4 | h4
                        · exact absurd h4.symm hii
                        · rw [h2] at h4; cases h4
          rw [e1]
          exact hgo hI (hos.2 hii)
      · rw [hset listed i k hs hil] at hEk
        rcases hEk with rfl | hEk
        · omega
        · exact hno k hk hEk
      · have hdX := hS'.dat.1
        refine { sz := hS'.sz, df := hS'.df, fr := by (show ∀ t ∈ X.res, _; rw [hXr]; simp), pn := hS'.pn, tm := hS'.tm, bel := hS'.bel, dat := ⟨?_, hS'.dat.2⟩, obj := hS'.obj, own := hS'.own, dHH := hS'.dHH, dHO := hS'.dHO, dOO := hS'.dOO }
        intro j gv hEj hg
        rw [hset listed i j hs hil] at hEj
        by_cases hji : j = i
        · subst hji
          rw [hf] at hg; injection hg with hg; subst hg
          exact hfv
        · have hEj' : E listed j := hEj.resolve_left hji
          refine hloc j gv hg a a' _ _ (fun j' e hj' he => ?_) (hdX j gv hEj' hg)
          refine hgd he fun hij => ?_
          subst hij
          rcases hj' with hj' | hj'
          · exact hji hj'.symm
          · simp only [predB] at hj'
            split at hj'
            · rename_i oj hoj
              obtain ⟨e', he', hb'⟩ := List.any_eq_true.1 hj'
              simp only [Bool.and_eq_true] at hb'
              have := hc j oj hEj' hoj e' he' hb'.1
              rw [Nat.eq_of_beq_eq_true hb'.2] at this
              exact hniE this
            · cases hj'
  have main : ∀ (fuel : Nat) (listed : Array Bool) (a : Act) (w : World), J listed a w → ((List.range l.length).filter fun i => !listed.getD i false).length ≤ fuel → wpAny P .any ⟨l⟩ Q fuel listed a w := by
    intro fuel
    induction fuel with
    | zero =>
      intro listed a w hJ hle
      have hall : ∀ i, i < l.length → E listed i := by
        intro i hi
        cases hl : listed.getD i false with
        | true => exact hl
        | false =>
          have : i ∈ (List.range l.length).filter fun i => !listed.getD i false := List.mem_filter.2 ⟨List.mem_range.2 hi, by rw [hl]; rfl⟩
          have hnil := List.eq_nil_of_length_eq_zero (Nat.le_zero.1 hle)
          rw [hnil] at this; simp at this
      refine ⟨?_, hdone listed a w hJ hall⟩
      apply List.eq_nil_iff_forall_not_mem.2
      intro i hi
      rw [ready_iff] at hi
      have h1 := hall i hi.1
      have h2 := hi.2.1
      simp only [E] at h1
      have h3 : listed.getD i true = listed.getD i false := by simp [Array.getD, hJ.1, hi.1]
      rw [h3, h1] at h2; cases h2
    | succ fuel ih =>
      intro listed a w hJ hle
      refine ⟨fun hr => hdone listed a w hJ (all_listed hJ.1 hback hr), fun i hi => ?_⟩
      rw [ready_iff] at hi
      obtain ⟨hil, hnl, o, ho, hpre⟩ := hi
      obtain ⟨hs, hc, hcase⟩ := hJ
      have hniE : ¬ E listed i := by
        intro hE
        have h3 : listed.getD i true = listed.getD i false := by simp [Array.getD, hs, hil]
        rw [h3] at hnl; simp only [E] at hE; rw [hE] at hnl; cases hnl
      have hcl : closed l (E (listed.setIfInBounds i true)) := by
        intro j oj hj hoj e he hb
        rw [hset listed i _ hs hil] at hj ⊢
        rcases hj with rfl | hj
        · rw [ho] at hoj; injection hoj with hoj; subst hoj
          exact .inr (hpre e he hb)
        · exact .inr (hc j oj hj hoj e he hb)
      have hcnt : ((List.range l.length).filter fun j => !(listed.setIfInBounds i true).getD j false).length ≤ fuel := by
        have hlt : ((List.range l.length).filter fun j => !(listed.setIfInBounds i true).getD j false).length < ((List.range l.length).filter fun j => !listed.getD j false).length := by
          apply filter_lt (x := i)
          · intro j hj
            have := hset listed i j hs hil
            simp only [E] at this
            cases h1 : listed.getD j false with
            | false => rfl
            | true => rw [this.2 (.inr h1)] at hj; cases hj
          · exact List.mem_range.2 hil
          · have := (hset listed i i hs hil).2 (.inl rfl)
            simp only [E] at this; rw [this]; rfl
          · cases h1 : listed.getD i false with
            | true => exact absurd h1 hniE
            | false => rfl
        omega
      rcases hcase with ⟨hno, β1, Ox, hS, hI⟩ | ⟨k, hk, hE, hw⟩ | ⟨hjp, hpl2, hE, oj, hoj, hw⟩
      · rcases Nat.lt_or_ge i p with hip | hip
        · -- one of the first
          exact wpOp_of_list ho (step1 listed a w i o (Exit.then (wpAny P .any ⟨l⟩ Q fuel (listed.setIfInBounds i true)) Q) hs hc ⟨hno, β1, Ox, hS, hI⟩ hip ho hniE hpre fun a' w' hJ1 => ih _ a' w' ⟨by simp [hs], hcl, .inl hJ1⟩ hcnt)
        · -- the first of the last
          have hall0 : ∀ j, j < i → ¬ (i = p ∧ j = j0) → E listed j := fun j hj hn => behind_ok hc l.length i j (fin_okL hfin hip hil hj hn) fun o' ho' => by rw [ho] at ho'; injection ho' with ho'; subst ho'; exact hpre
          have hip' : i = p := by
            rcases Nat.lt_or_ge p i with hlt | hge
            · exact absurd (hall0 p hlt (by omega)) (hno p (Nat.le_refl _))
            · omega
          subst hip'
          have hgo : ∀ listed a w, J1 listed a w → (∀ j, j < i → E listed j) → wpList P ⟨l⟩ Q (l.drop i) a w := by
            rintro listed a w ⟨hno, β1, Ox, hS, hI⟩ hall
            have hS' : Sb β1 {X with pin := some β} G D H (Ox ++ O) a w := { hS with dat := hS.dat.2 }
            have hpm2 := (hoe listed a Ox hI hall).append_right O
            exact hend β1 a w (hS'.perm hpm2) (fun j fv hf => fv.weak (hS.dat.1 j fv (hall j (by have := (List.getElem?_eq_some_iff.1 hf).1; omega)) hf) fun b o ⟨h1, h2, h3, h4⟩ => ⟨h1, h2, h3, fun u hu => h4 u (hpm2.mem_iff.2 hu)⟩)
          by_cases hjl : j0 < i ∧ ¬ E listed j0
          · obtain ⟨hlb, hQn⟩ := hlate hjl.1
            obtain ⟨oj, hoj⟩ : ∃ oj, l[j0]? = some oj := ⟨l[j0]'(by omega), List.getElem?_eq_getElem (by omega)⟩
            have hw0 := step1 listed a w j0 oj (Exit.then (wpList P ⟨l⟩ Q (l.drop i)) Q) hs hc ⟨hno, β1, Ox, hS, hI⟩ hjl.1 hoj hjl.2
              (fun e he hb => by
                have hlt := back_ok hback hoj he hb
                exact hall0 e.on (by omega) (by omega))
              fun a' w' hJ1 => hgo _ a' w' hJ1 fun j hj => by
                rw [hset listed j0 j hs (by omega)]
                by_cases hjj : j = j0
                · exact .inl hjj
                · exact .inr (hall0 j hj fun q => hjj q.2)
            have hw1 : wpList P ⟨l⟩ Q (oj :: l.drop i) a w := by
              have h1 := wpOp_of_list hoj hw0
              have hoj' : (⟨l⟩ : Array Oper)[j0]? = some oj := by simpa using hoj
              unfold wpOp at h1
              rw [hoj'] at h1
              exact h1
            have hdrop : l.drop i = o :: l.drop (i + 1) := by
              rw [List.drop_eq_getElem_cons hil, (List.getElem?_eq_some_iff.1 ho).2]
            rw [hdrop] at hw1
            have hw2 := swap_late hlb hQn hoj ho hw1
            have hw3 : wpOp P ⟨l⟩ Q i (wpList P ⟨l⟩ Q (oj :: l.drop (i + 1))) a w := by
              have ho' : (⟨l⟩ : Array Oper)[i]? = some o := by simpa using ho
              unfold wpOp
              rw [ho']
              exact hw2
            refine wpOp_mono (fun a w hw' => ih _ a w ⟨by simp [hs], hcl, .inr (.inr ⟨hjl.1, hil, fun j hj => ?_, oj, hoj, hw'⟩)⟩ hcnt) hw3
            rw [hset listed i j hs hil]
            constructor
            · rintro (rfl | hEj)
              · omega
              · rcases Nat.lt_or_ge j i with h1 | h1
                · exact ⟨by omega, fun q => hjl.2 (q ▸ hEj)⟩
                · exact absurd hEj (hno j h1)
            · rintro ⟨h1, h2⟩
              rcases Nat.lt_or_ge j i with h3 | h3
              · exact .inr (hall0 j h3 fun q => h2 q.2)
              · exact .inl (by omega)
          · have hall : ∀ j, j < i → E listed j := fun j hj => by
              by_cases hjj : j = j0
              · subst hjj
                exact Classical.byContradiction fun q => hjl ⟨hj, q⟩
              · exact hall0 j hj fun q => hjj q.2
            have hw := hgo listed a w ⟨hno, β1, Ox, hS, hI⟩ hall
            refine wpOp_mono (fun a w hw' => ih _ a w ⟨by simp [hs], hcl, .inr (.inl ⟨i + 1, by omega, fun j hj => ?_, hw'⟩)⟩ hcnt) (wpOp_of_drop ho hw)
            rw [hset listed i j hs hil]
            constructor
            · rintro (rfl | hEj)
              · omega
              · rcases Nat.lt_or_ge j i with h1 | h1
                · omega
                · exact absurd hEj (hno j h1)
            · intro hlt
              rcases Nat.lt_or_ge j i with h1 | h1
              · exact .inr (hall j h1)
              · exact .inl (by omega)
      · -- one of the last
        have hall : ∀ j, j < i → E listed j := by
          intro j hj
          have hpi : p < i := by
            rcases Nat.lt_or_ge i k with h1 | h1
            · exact absurd ((hE i hil).2 h1) hniE
            · omega
          exact behind_ok hc l.length i j (fin_okL hfin (by omega) hil hj (by omega)) fun o' ho' => by rw [ho] at ho'; injection ho' with ho'; subst ho'; exact hpre
        have hik : i = k := by
          rcases Nat.lt_or_ge i k with h1 | h1
          · exact absurd ((hE i hil).2 h1) hniE
          · rcases Nat.lt_or_ge k i with h2 | h2
            · have := (hE k (by omega)).1 (hall k h2); omega
            · omega
        subst hik
        refine wpOp_mono (fun a w hw' => ih _ a w ⟨by simp [hs], hcl, .inr (.inl ⟨i + 1, by omega, fun j hj => ?_, hw'⟩)⟩ hcnt) (wpOp_of_drop ho hw)
        rw [hset listed i j hs hil, hE j hj]
        constructor
        · rintro (rfl | h1) <;> omega
        · intro h1
          rcases Nat.lt_or_ge j i with h2 | h2
          · exact .inr h2
          · exact .inl (by omega)
      · -- the late one
        have hij : i = j0 := by
          rcases Nat.lt_or_ge p i with h1 | h1
          · exfalso
            have := behind_ok hc l.length i j0 (fin_okL hfin (by omega) hil (by omega) (by omega)) fun o' ho' => by rw [ho] at ho'; injection ho' with ho'; subst ho'; exact hpre
            exact absurd rfl ((hE j0 (by omega)).1 this).2
          · exact Classical.byContradiction fun q => hniE ((hE i hil).2 ⟨h1, q⟩)
        subst hij
        rw [ho] at hoj; injection hoj with hoj; subst hoj
        have hw3 : wpOp P ⟨l⟩ Q i (wpList P ⟨l⟩ Q (l.drop (p + 1))) a w := by
          have ho' : (⟨l⟩ : Array Oper)[i]? = some o := by simpa using ho
          unfold wpOp
          rw [ho']
          exact hw
        refine wpOp_mono (fun a w hw' => ih _ a w ⟨by simp [hs], hcl, .inr (.inl ⟨p + 1, by omega, fun j hj => ?_, hw'⟩)⟩ hcnt) hw3
        rw [hset listed i j hs hil, hE j hj]
        constructor
        · rintro (rfl | h1) <;> omega
        · intro h1
          by_cases hjj : j = i
          · exact .inl hjj
          · exact .inr ⟨by omega, hjj⟩
  refine main _ _ a _ ⟨by simp, fun i o hE => ?_, .inl ⟨fun k _ hE => ?_, β, T0, ?_, ?_⟩⟩ ?_
  · simp only [E] at hE; simp [Array.getD_eq_getD_getElem?, Array.getElem?_replicate] at hE
    split at hE <;> simp at hE
  · simp only [E] at hE; simp [Array.getD_eq_getD_getElem?, Array.getElem?_replicate] at hE
    split at hE <;> simp at hE
  · refine { sz := h.sz, df := h.df, fr := h.fr, pn := fun f hf p _ => (by injection hf with hf; subst hf; rfl), tm := h.tm, bel := h.bel.drew, dat := ⟨?_, h.dat.evo (w' := w.drew) (Evo.of_blocks (Nat.le_refl _) fun _ _ _ => rfl)⟩, obj := h.obj, own := fun t ht => ⟨t.keep (h.own t ht).1 (fun _ _ => rfl) (Evo.of_blocks (Nat.le_refl _) fun _ _ _ => rfl), (h.own t ht).2⟩, dHH := h.dHH, dHO := h.dHO, dOO := h.dOO }
    intro i fv hE
    simp only [E] at hE; simp [Array.getD_eq_getD_getElem?, Array.getElem?_replicate] at hE
    split at hE <;> simp at hE
  · have : ownSo q ds (fun i => (Array.replicate l.length false).getD i false) a (List.range p) = [] := by
      unfold ownSo
      rw [filterMap_same (f := fun _ => none) fun j hj => ?_]
      · simp
      · have : (Array.replicate l.length false).getD j false = false := by
          simp [Array.getD_eq_getD_getElem?, Array.getElem?_replicate]
          try (split <;> rfl)
        simp only [this, cond_false]
        split <;> rfl
    have e : (⟨l⟩ : Array Oper).size = l.length := rfl
    have e2 : (Array.replicate l.length false).getD i0 false = false := by
      simp [Array.getD_eq_getD_getElem?, Array.getElem?_replicate]
      try (split <;> rfl)
    simp only [e, this, e2, cond_false, List.append_nil]
    exact List.Perm.refl _
  · refine Nat.le_trans (List.length_filter_le _ _) (by simp)
where
  filter_lt {α : Type} {f g : α → Bool} : ∀ {l : List α} {x : α}, (∀ y, f y = true → g y = true) → x ∈ l → f x = false → g x = true → (l.filter f).length < (l.filter g).length
    | y :: ys, x, hfg, hx, h1, h2 => by
      have hle : ∀ zs : List α, (zs.filter f).length ≤ (zs.filter g).length := by
        intro zs
        induction zs with
        | nil => simp
        | cons z zs ih =>
          simp only [List.filter_cons]
          cases hf : f z with
          | true => rw [hfg z hf]; simpa using ih
          | false => cases hg : g z <;> simp <;> omega
      rcases List.mem_cons.1 hx with rfl | hx
      · simp only [List.filter_cons, h1, h2]
        have := hle ys
        simp; omega
      · have := filter_lt hfg hx h1 h2
        simp only [List.filter_cons]
        cases hf : f y with
        | true => rw [hfg y hf]; simpa using this
        | false => cases hg : g y <;> simp <;> omega
end
end Gx
