/- A region whose order is drawn, once more: what is known of a temporary may speak of those it stands behind. -/
import Derived.Test.YtnlnadfpfekeiaaDoorXO
namespace Gx
open Go Go.RowKit Gd
set_option linter.unusedVariables false
set_option linter.unusedSimpArgs false
theorem fin_okL {l : List Oper} {p k i : Nat} (h : finL l p = true) (hk : p ≤ k) (hkl : k < l.length) (hi : i < k) : behindB l l.length k i = true := by
  have h1 := List.all_eq_true.1 h k (List.mem_range.2 hkl)
  simp only [Bool.or_eq_true] at h1
  rcases h1 with h1 | h1
  · have := Nat.le_of_ble_eq_true h1; omega
  · exact List.all_eq_true.1 h1 i (List.mem_range.2 hi)
structure FA where
  p : Ok → World → Act → Prop
  evo : ∀ {ok w w' a}, p ok w a → Evo ok w w' → p ok w' a
  weak : ∀ {ok ok' w a}, p ok w a → (∀ b o, ok b o → ok' b o) → p ok' w a
section
variable {P : Program} {T : Tab} {β : Nat → Nat} {X : Cx} {G : GL} {D : List DF} {H : HL} {O : List TL} {a : Act} {w w' : World}
def doneA (F : List FA) (E : Nat → Prop) (a : Act) : DF where
  p := fun ok w => ∀ (i : Nat) fv, E i → F[i]? = some fv → fv.p ok w a
  evo := fun h he i fv h1 h2 => fv.evo (h i fv h1 h2) he
  weak := fun h hk i fv h1 h2 => fv.weak (h i fv h1 h2) hk
def StepB (OW : (Nat → Bool) → Act → List TL) (β0 : Nat → Nat) (P : Program) (l : List Oper) (X : Cx) (G : GL) (D : List DF) (H : HL) (O : List TL) (ds : List Nat) (F : List FA) (i : Nat) : Prop :=
  match ds[i]?, F[i]?, l[i]? with
  | some d, some fv, some o =>
    ∀ (E : Nat → Bool) (β : Nat → Nat) (a : Act) (w : World) (dX : DF) (Ox : List TL) (Q : Exit → Act → World → Prop), closed l (fun j => E j = true) → E i = false → (∀ e ∈ o.after.toList, Region.binds .any e = true → E e.on = true) →
      Sb β ⟨X.n, X.ok, X.w, remD ds d, a, some β0, X.lent, X.lok⟩ G (dX :: D) H (Ox ++ O) a w → Ox.Perm (OW E a) →
      (∀ (j : Nat) (gv : FA), predB l i j = true → F[j]? = some gv → gv.p (okOf X.ok X.w.heap.size β H (Ox ++ O) w) w a) →
      (∀ β' a' w' Ox', Sb β' ⟨X.n, X.ok, X.w, remD ds d, a, some β0, X.lent, X.lok⟩ G (dX :: D) H (Ox' ++ O) a' w' → fv.p (okOf X.ok X.w.heap.size β' H (Ox' ++ O) w') w' a' →
        ((∀ j e : Nat, j ≠ i → ds[j]? = some e → a'.tmps.getD e undef = a.tmps.getD e undef) → Ox'.Perm (OW (fun j => j == i || E j) a')) → Q .normal a' w') →
      wpList P ⟨l⟩ Q [o] a w
  | _, _, _ => True
theorem draw_ruleB (OW : (Nat → Bool) → Act → List TL) {Ox0 : List TL} (h : Sb β X G D H (Ox0 ++ O) a w) (hO0 : Ox0.Perm (OW (fun _ => false) a)) {id : Nat} {l : List Oper} {Q : Exit → Act → World → Prop} (hX : isNil X.res = true) (hm : P.follows .mixedOrders = true) (p : Nat) (hOE : ∀ (E E' : Nat → Bool) (a : Act), (∀ i, i < p → E i = E' i) → OW E a = OW E' a)
    (ds : List Nat) (F : List FA) (hlen : Nat.beq ds.length p = true) (hlF : Nat.beq F.length p = true) (hple : Nat.ble p l.length = true) (hback : Gd.backB l = true) (hfin : finL l p = true) (hnd : nodupB ds = true)
    (hloc : ∀ (i : Nat) fv, F[i]? = some fv → ∀ (a a' : Act) ok w, (∀ j e : Nat, (j = i ∨ predB l i j = true) → ds[j]? = some e → a'.tmps.getD e undef = a.tmps.getD e undef) → fv.p ok w a → fv.p ok w a')
    (hstep : AllB (StepB OW β P l X G D H O ds F) p)
    (hend : ∀ β' a' w' Ox, Sb β' {X with pin := some β} G D H (Ox ++ O) a' w' → Ox.Perm (OW (fun _ => true) a') → (∀ (i : Nat) fv, F[i]? = some fv → fv.p (okOf X.ok X.w.heap.size β' H (Ox ++ O) w') w' a') → wpList P ⟨l⟩ Q (l.drop p) a' w') :
    (Code.region id ⟨l⟩ true).wp P Q a w := by
  refine wp_region_any hm ?_
  have hpl := Nat.le_of_ble_eq_true hple
  have hdl := Nat.eq_of_beq_eq_true hlen
  have hFl := Nat.eq_of_beq_eq_true hlF
  have hNd := nodupB_ok hnd
  have hXr : X.res = [] := by
    cases hr : X.res with
    | nil => rfl
    | cons x xs => rw [hr] at hX; simp [isNil] at hX
  let E (listed : Array Bool) : Nat → Prop := fun i => listed.getD i false = true
  let J1 (listed : Array Bool) (a : Act) (w : World) : Prop := (∀ k, p ≤ k → ¬ E listed k) ∧ ∃ β1 Ox, Sb β1 {X with pin := some β} G (doneA F (E listed) a :: D) H (Ox ++ O) a w ∧ Ox.Perm (OW (fun i => listed.getD i false) a)
  let J (listed : Array Bool) (a : Act) (w : World) : Prop := listed.size = l.length ∧ closed l (E listed) ∧
    (J1 listed a w ∨ (∃ k, p < k ∧ (∀ i, i < l.length → (E listed i ↔ i < k)) ∧ wpList P ⟨l⟩ Q (l.drop k) a w))
  have hset : ∀ (listed : Array Bool) (i j : Nat), listed.size = l.length → i < l.length → (E (listed.setIfInBounds i true) j ↔ (j = i ∨ E listed j)) := by
    intro listed i j hs hi
    simp only [E, Array.getD_eq_getD_getElem?, Array.getElem?_setIfInBounds, hs]
    by_cases hj : i = j
    · subst hj; simp [hi]
    · have hj' : ¬ j = i := fun e => hj e.symm
      simp [hj, hj']
  have hsetB : ∀ (listed : Array Bool) (i j : Nat), listed.size = l.length → i < l.length → (listed.setIfInBounds i true).getD j false = (j == i || listed.getD j false) := by
    intro listed i j hs hi
    have := hset listed i j hs hi
    simp only [E] at this
    cases h1 : (listed.setIfInBounds i true).getD j false with
    | true =>
      rcases this.1 h1 with rfl | h2
      · simp
      · simp [h2]
    | false =>
      cases h2 : (j == i || listed.getD j false) with
      | false => rfl
      | true =>
        simp only [Bool.or_eq_true, beq_iff_eq] at h2
        rw [this.2 h2] at h1; cases h1
  have hgo : ∀ listed a w, J1 listed a w → (∀ j, j < p → E listed j) → wpList P ⟨l⟩ Q (l.drop p) a w := by
    rintro listed a w ⟨hno, β1, Ox, hS, hI⟩ hall
    have hS' : Sb β1 {X with pin := some β} G D H (Ox ++ O) a w := { hS with dat := hS.dat.2 }
    refine hend β1 a w Ox hS' ?_ fun j fv hf => hS.dat.1 j fv (hall j (by have := (List.getElem?_eq_some_iff.1 hf).1; omega)) hf
    rwa [hOE _ (fun _ => true) a fun i hi => hall i hi] at hI
  have hdone : ∀ listed a w, J listed a w → (∀ i, i < l.length → E listed i) → Q .normal a w := by
    rintro listed a w ⟨hs, hc, h1 | ⟨k, hk, hE, hw⟩⟩ hall
    · have hpm : p = l.length := by
        rcases Nat.lt_or_ge p l.length with hlt | hge
        · exact absurd (hall p hlt) (h1.1 p (Nat.le_refl _))
        · omega
      have := hgo listed a w h1 fun i hi => hall i (by omega)
      rw [hpm, List.drop_length] at this
      exact this
    · have hkl : l.length ≤ k := by
        rcases Nat.lt_or_ge k l.length with hlt | hge
        · have := (hE k hlt).1 (hall k hlt); omega
        · exact hge
      rw [List.drop_eq_nil_of_le hkl] at hw
      exact hw
  have step1 : ∀ (listed : Array Bool) (a : Act) (w : World) (i : Nat) (o : Oper) (Q' : Exit → Act → World → Prop), listed.size = l.length → closed l (E listed) → J1 listed a w → i < p → l[i]? = some o → ¬ E listed i →
      (∀ e ∈ o.after.toList, Region.binds .any e = true → listed.getD e.on false = true) → (∀ a' w', J1 (listed.setIfInBounds i true) a' w' → Q' .normal a' w') → wpList P ⟨l⟩ Q' [o] a w := by
    rintro listed a w i o Q' hs hc ⟨hno, β1, Ox, hS, hI⟩ hip ho hniE hpre hK
    have hil : i < l.length := by omega
    obtain ⟨d, hd⟩ : ∃ d, ds[i]? = some d := ⟨ds[i]'(by omega), List.getElem?_eq_getElem (by omega)⟩
    obtain ⟨fv, hf⟩ : ∃ fv, F[i]? = some fv := ⟨F[i]'(by omega), List.getElem?_eq_getElem (by omega)⟩
    have hnotE : listed.getD i false = false := by
      cases h1 : listed.getD i false with
      | false => rfl
      | true => exact absurd h1 hniE
    have hst := hstep.get hip
    simp only [StepB, hd, hf, ho] at hst
    refine hst (fun i => listed.getD i false) β1 a w (doneA F (E listed) a) Ox Q' hc hnotE hpre ?_ hI ?_ ?_
    · exact { hS with fr := fun _ _ => rfl }
    · intro j gv hp hg
      have hEj : E listed j := by
        simp only [predB, ho] at hp
        obtain ⟨e', he', hb'⟩ := List.any_eq_true.1 hp
        simp only [Bool.and_eq_true] at hb'
        rw [← Nat.eq_of_beq_eq_true hb'.2]
        exact hpre e' he' hb'.1
      exact hS.dat.1 j gv hEj hg
    · intro β' a' w' Ox' hS' hfv hos
      have hgd : ∀ (j e : Nat), j ≠ i → ds[j]? = some e → a'.tmps.getD e undef = a.tmps.getD e undef := by
        intro j e hji hj
        have hne : e ≠ d := by
          intro he
          subst he
          have h1 := (List.getElem?_eq_some_iff.1 hj)
          have h2 := (List.getElem?_eq_some_iff.1 hd)
          have hpw := List.pairwise_iff_getElem.1 hNd
          rcases Nat.lt_or_ge j i with hlt | hge
          · exact hpw j i h1.1 h2.1 hlt (h1.2.trans h2.2.symm)
          · exact hpw i j h2.1 h1.1 (by omega) (h2.2.trans h1.2.symm)
        have hfr' := hS'.fr e (mem_remD (List.mem_of_getElem? hj) hne)
        simp only [Array.getD_eq_getD_getElem?]
        rw [hfr']
      refine hK a' w' ⟨fun k hk hEk => ?_, β', Ox', ?_, ?_⟩
      case refine_3 =>
        have := hos hgd
        rwa [hOE _ (fun j => (listed.setIfInBounds i true).getD j false) a' fun j _ => (hsetB listed i j hs hil).symm] at this
      · rw [hset listed i k hs hil] at hEk
        rcases hEk with rfl | hEk
        · omega
        · exact hno k hk hEk
      · have hdX := hS'.dat.1
        refine { sz := hS'.sz, df := hS'.df, fr := by (show ∀ t ∈ X.res, _; rw [hXr]; simp), pn := hS'.pn, tm := hS'.tm, bel := hS'.bel, dat := ⟨?_, hS'.dat.2⟩, obj := hS'.obj, own := hS'.own, dHH := hS'.dHH, dHO := hS'.dHO, dOO := hS'.dOO }
        intro j gv hEj hg
        rw [hset listed i j hs hil] at hEj
        by_cases hji : j = i
        · subst hji
          rw [hf] at hg; injection hg with hg; subst hg
          exact hfv
        · have hEj' : E listed j := hEj.resolve_left hji
          refine hloc j gv hg a a' _ _ (fun j' e hj' he => ?_) (hdX j gv hEj' hg)
          refine hgd j' e (fun hij => ?_) he
          subst hij
          rcases hj' with hj' | hj'
          · exact hji hj'.symm
          · simp only [predB] at hj'
            split at hj'
            · rename_i oj hoj
              obtain ⟨e', he', hb'⟩ := List.any_eq_true.1 hj'
              simp only [Bool.and_eq_true] at hb'
              have := hc j oj hEj' hoj e' he' hb'.1
              rw [Nat.eq_of_beq_eq_true hb'.2] at this
              exact hniE this
            · cases hj'
  have main : ∀ (fuel : Nat) (listed : Array Bool) (a : Act) (w : World), J listed a w → ((List.range l.length).filter fun i => !listed.getD i false).length ≤ fuel → wpAny P .any ⟨l⟩ Q fuel listed a w := by
    intro fuel
    induction fuel with
    | zero =>
      intro listed a w hJ hle
      have hall : ∀ i, i < l.length → E listed i := by
        intro i hi
        cases hl : listed.getD i false with
        | true => exact hl
        | false =>
          have : i ∈ (List.range l.length).filter fun i => !listed.getD i false := List.mem_filter.2 ⟨List.mem_range.2 hi, by rw [hl]; rfl⟩
          have hnil := List.eq_nil_of_length_eq_zero (Nat.le_zero.1 hle)
          rw [hnil] at this; simp at this
      refine ⟨?_, hdone listed a w hJ hall⟩
      apply List.eq_nil_iff_forall_not_mem.2
      intro i hi
      rw [ready_iff] at hi
      have h1 := hall i hi.1
      have h2 := hi.2.1
      simp only [E] at h1
      have h3 : listed.getD i true = listed.getD i false := by simp [Array.getD, hJ.1, hi.1]
      rw [h3, h1] at h2; cases h2
    | succ fuel ih =>
      intro listed a w hJ hle
      refine ⟨fun hr => hdone listed a w hJ (all_listed hJ.1 hback hr), fun i hi => ?_⟩
      rw [ready_iff] at hi
      obtain ⟨hil, hnl, o, ho, hpre⟩ := hi
      obtain ⟨hs, hc, hcase⟩ := hJ
      have hniE : ¬ E listed i := by
        intro hE
        have h3 : listed.getD i true = listed.getD i false := by simp [Array.getD, hs, hil]
        rw [h3] at hnl; simp only [E] at hE; rw [hE] at hnl; cases hnl
      have hcl : closed l (E (listed.setIfInBounds i true)) := by
        intro j oj hj hoj e he hb
        rw [hset listed i _ hs hil] at hj ⊢
        rcases hj with rfl | hj
        · rw [ho] at hoj; injection hoj with hoj; subst hoj
          exact .inr (hpre e he hb)
        · exact .inr (hc j oj hj hoj e he hb)
      have hcnt : ((List.range l.length).filter fun j => !(listed.setIfInBounds i true).getD j false).length ≤ fuel := by
        have hlt : ((List.range l.length).filter fun j => !(listed.setIfInBounds i true).getD j false).length < ((List.range l.length).filter fun j => !listed.getD j false).length := by
          apply filter_lt (x := i)
          · intro j hj
            have := hset listed i j hs hil
            simp only [E] at this
            cases h1 : listed.getD j false with
            | false => rfl
            | true => rw [this.2 (.inr h1)] at hj; cases hj
          · exact List.mem_range.2 hil
          · have := (hset listed i i hs hil).2 (.inl rfl)
            simp only [E] at this; rw [this]; rfl
          · cases h1 : listed.getD i false with
            | true => exact absurd h1 hniE
            | false => rfl
        omega
      rcases hcase with hJ1 | ⟨k, hk, hE, hw⟩
      · rcases Nat.lt_or_ge i p with hip | hip
        ·
          exact wpOp_of_list ho (step1 listed a w i o (Exit.then (wpAny P .any ⟨l⟩ Q fuel (listed.setIfInBounds i true)) Q) hs hc hJ1 hip ho hniE hpre fun a' w' hJ1 => ih _ a' w' ⟨by simp [hs], hcl, .inl hJ1⟩ hcnt)
        ·
          have hall : ∀ j, j < i → E listed j := fun j hj => behind_ok hc l.length i j (fin_okL hfin hip hil hj) fun o' ho' => by rw [ho] at ho'; injection ho' with ho'; subst ho'; exact hpre
          have hip' : i = p := by
            rcases Nat.lt_or_ge p i with hlt | hge
            · exact absurd (hall p hlt) (hJ1.1 p (Nat.le_refl _))
            · omega
          subst hip'
          have hw := hgo listed a w hJ1 hall
          refine wpOp_mono (fun a w hw' => ih _ a w ⟨by simp [hs], hcl, .inr ⟨i + 1, by omega, fun j hj => ?_, hw'⟩⟩ hcnt) (wpOp_of_drop ho hw)
          rw [hset listed i j hs hil]
          constructor
          · rintro (rfl | hEj)
            · omega
            · rcases Nat.lt_or_ge j i with h1 | h1
              · omega
              · exact absurd hEj (hJ1.1 j h1)
          · intro hlt
            rcases Nat.lt_or_ge j i with h1 | h1
            · exact .inr (hall j h1)
            · exact .inl (by omega)
      ·
        have hall : ∀ j, j < i → E listed j := by
          intro j hj
          have hpi : p < i := by
            rcases Nat.lt_or_ge i k with h1 | h1
            · exact absurd ((hE i hil).2 h1) hniE
            · omega
          exact behind_ok hc l.length i j (fin_okL hfin (by omega) hil hj) fun o' ho' => by rw [ho] at ho'; injection ho' with ho'; subst ho'; exact hpre
        have hik : i = k := by
          rcases Nat.lt_or_ge i k with h1 | h1
          · exact absurd ((hE i hil).2 h1) hniE
          · rcases Nat.lt_or_ge k i with h2 | h2
            · have := (hE k (by omega)).1 (hall k h2); omega
            · omega
        subst hik
        refine wpOp_mono (fun a w hw' => ih _ a w ⟨by simp [hs], hcl, .inr ⟨i + 1, by omega, fun j hj => ?_, hw'⟩⟩ hcnt) (wpOp_of_drop ho hw)
        rw [hset listed i j hs hil, hE j hj]
        constructor
        · rintro (rfl | h1) <;> omega
        · intro h1
          rcases Nat.lt_or_ge j i with h2 | h2
          · exact .inr h2
          · exact .inl (by omega)
  refine main _ _ a _ ⟨by simp, fun i o hE => ?_, .inl ⟨fun k _ hE => ?_, β, Ox0, ?_, ?_⟩⟩ ?_
  · simp only [E] at hE; simp [Array.getD_eq_getD_getElem?, Array.getElem?_replicate] at hE
    split at hE <;> simp at hE
  · simp only [E] at hE; simp [Array.getD_eq_getD_getElem?, Array.getElem?_replicate] at hE
    split at hE <;> simp at hE
  · refine { sz := h.sz, df := h.df, fr := h.fr, pn := fun f hf p _ => (by injection hf with hf; subst hf; rfl), tm := h.tm, bel := h.bel.drew, dat := ⟨?_, h.dat.evo (w' := w.drew) (Evo.of_blocks (Nat.le_refl _) fun _ _ _ => rfl)⟩, obj := h.obj, own := fun t ht => ⟨t.keep (h.own t ht).1 (fun _ _ => rfl) (Evo.of_blocks (Nat.le_refl _) fun _ _ _ => rfl), (h.own t ht).2⟩, dHH := h.dHH, dHO := h.dHO, dOO := h.dOO }
    intro i fv hE
    simp only [E] at hE; simp [Array.getD_eq_getD_getElem?, Array.getElem?_replicate] at hE
    split at hE <;> simp at hE
  · have e : (⟨l⟩ : Array Oper).size = l.length := rfl
    rwa [hOE _ (fun i => (Array.replicate (⟨l⟩ : Array Oper).size false).getD i false) a fun i hi => by
      have : (Array.replicate (⟨l⟩ : Array Oper).size false).getD i false = false := by
        simp only [Array.getD_eq_getD_getElem?, Array.getElem?_replicate]
        split <;> rfl
      exact this.symm] at hO0
  · refine Nat.le_trans (List.length_filter_le _ _) (by simp)
where
  filter_lt {α : Type} {f g : α → Bool} : ∀ {l : List α} {x : α}, (∀ y, f y = true → g y = true) → x ∈ l → f x = false → g x = true → (l.filter f).length < (l.filter g).length
    | y :: ys, x, hfg, hx, h1, h2 => by
      have hle : ∀ zs : List α, (zs.filter f).length ≤ (zs.filter g).length := by
        intro zs
        induction zs with
        | nil => simp
        | cons z zs ih =>
          simp only [List.filter_cons]
          cases hf : f z with
          | true => rw [hfg z hf]; simpa using ih
          | false => cases hg : g z <;> simp <;> omega
      rcases List.mem_cons.1 hx with rfl | hx
      · simp only [List.filter_cons, h1, h2]
        have := hle ys
        simp; omega
      · have := filter_lt hfg hx h1 h2
        simp only [List.filter_cons]
        cases hf : f y with
        | true => rw [hfg y hf]; simpa using this
        | false => cases hg : g y <;> simp <;> omega
end
end Gx
