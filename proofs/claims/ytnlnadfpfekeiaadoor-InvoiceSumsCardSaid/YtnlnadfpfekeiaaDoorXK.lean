/- Operations that make or change objects. -/
import Derived.Test.YtnlnadfpfekeiaaDoorXJ
namespace Gx
open Go Go.RowKit Gd
set_option linter.unusedVariables false
set_option linter.unusedSimpArgs false
def allG (n : Nat) (a : Act) : GL := (List.range n).map fun t => (t, Gd.AV.v (a.tmps.getD t undef))
theorem lookN_map {f : Nat → Gd.AV} : ∀ {l : List Nat} {t : Nat}, t ∈ l → lookN (l.map fun t => (t, f t)) t = some (f t)
  | k :: l, t, h => by
    simp only [List.map_cons, lookN]
    cases hb : Nat.beq k t with
    | true => have := Nat.eq_of_beq_eq_true hb; subst this; rfl
    | false =>
      rcases List.mem_cons.1 h with rfl | h
      · simp [Nat.beq_refl] at hb
      · exact lookN_map h
section
variable {P : Program} {X : Cx} {β β' : Nat → Nat} {ρ ρ' : Nat → Value} {S : St} {a a' : Act} {w w' : World} {cur : Conds}
theorem Rel.toG (h : Rel X β ρ S a w) : Sb (fun _ => 0) X (allG X.n a) (S.env.map (enD β ρ a)) [] (memO β ρ S.mem) a w :=
  { sz := h.sz, df := h.df, fr := h.fr, pn := h.pn, bel := h.bel, dat := h.dat, obj := h.obj, own := h.own, dHH := h.dHH, dHO := h.dHO, dOO := h.dOO,
    tm := fun p hp => by
      obtain ⟨t, ht, rfl⟩ := List.mem_map.1 hp
      have hlt : t < a.tmps.size := by rw [h.sz]; exact List.mem_range.1 ht
      simp [den_v, Array.getElem?_eq_getElem hlt, Array.getD_eq_getD_getElem?] }
theorem gvT (h : Rel X β ρ S a w) {t : Nat} (ht : t < X.n) : gv (allG X.n a) (.tmp t) = some (.v (a.eval (.tmp t))) := by
  simp only [gv, allG]
  rw [lookN_map (f := fun t => Gd.AV.v (a.tmps.getD t undef)) (List.mem_range.2 ht)]
  rfl
theorem lt_of_get (h : Rel X β ρ S a w) {t : Nat} {v : Value} (hv : a.tmps[t]? = some v) : t < X.n := by
  rw [← h.sz]
  rcases Nat.lt_or_ge t a.tmps.size with h1 | h1
  · exact h1
  · rw [Array.getElem?_eq_none h1] at hv; cases hv
theorem gvE (h : Rel X β ρ S a w) (hc : holdsC a cur) {x : Operand} {v : AV} (hx : ev S cur x = some v) : gv (allG X.n a) x = some (.v (a.eval x)) := by
  cases x with
  | tmp t =>
    simp only [ev] at hx
    split at hx
    · rename_i e he
      obtain ⟨hb, hx⟩ := bvT hx
      obtain ⟨cs, h1, h2⟩ := h.get he (subC_ok hb hc)
      exact gvT h (lt_of_get h h1)
    · cases hx
  | const v => rfl
  | func f => rfl
  | global g => rfl
theorem guardG (h : Rel X β ρ S a w) {ops : Array Oper} {o : Oper} (hw : Region.wanted o (yielded ops a.tmps) = true) : guardV ops (allG X.n a) o = some true := by
  unfold guardV
  unfold Region.wanted at hw
  split
  · rfl
  · rename_i j want hg
    rw [hg] at hw
    simp only [beq_iff_eq] at hw
    unfold yielded at hw
    split
    · rename_i p hp
      rw [hp] at hw
      split
      · rename_i t ht
        simp only [Option.bind_some, ht] at hw
        split at hw
        · rename_i b hb
          simp at hw; subst hw
          have hlt := lt_of_get h hb
          have := gvT h hlt
          simp only [gv] at this
          rw [this]
          simp [Act.eval, hb]
        · cases hw
      · rename_i ht
        simp [ht] at hw
    · rename_i hp
      simp [hp] at hw
theorem Rel.fin {env env' : List En} {mem' : List (Nat × Ob)} {O' : List TL} {d : Nat} {v : Value} (hn : ∀ e ∈ env, True) (h' : Sb (fun _ => 0) X (setN (allG X.n a) d (.v v)) (env.map (enD β ρ a)) [] O' a' w') (hsz : a.tmps.size = X.n) (hd : okD X d = true)
    (hO : SimL O' (memO β' ρ' mem')) (hcr : ∀ e ∈ env', ∀ (ok : Ok) (w : World) (cs : List Value), cr β ρ ok w false e.av cs → cr β' ρ' ok w false e.av cs) (he : ∀ e ∈ env', e ∈ env ∧ e.t ≠ d ∧ ∀ c ∈ e.cs, c.1 ≠ d)
    {x : AV} {c : List Value} (hv : v = x.val c) (hx : cr β' ρ' (okR X β' ρ' mem' w') w' false x c) : Rel X β' ρ' ⟨⟨d, [], x⟩ :: env', mem'⟩ a' w' := by
  have h1 := h'.simO hO
  have hoth : ∀ t, t ≠ d → a'.tmps[t]? = a.tmps[t]? := by
    intro t ht
    rcases Nat.lt_or_ge t X.n with hlt | hge
    · have hm : (t, Gd.AV.v (a.tmps.getD t undef)) ∈ setN (allG X.n a) d (.v v) := by
        refine .tail _ ?_
        have : ∀ {l : GL}, (t, Gd.AV.v (a.tmps.getD t undef)) ∈ l → (t, Gd.AV.v (a.tmps.getD t undef)) ∈ remN l d := by
          intro l
          induction l with
          | nil => intro h; cases h
          | cons q l ih =>
            intro h
            obtain ⟨k, y⟩ := q
            simp only [remN]
            cases hb : Nat.beq k d with
            | true =>
              rcases List.mem_cons.1 h with e | h
              · injection e with e1 _; subst e1; exact absurd (Nat.eq_of_beq_eq_true hb) ht
              · exact ih h
            | false =>
              rcases List.mem_cons.1 h with e | h
              · rw [e]; exact .head _
              · exact .tail _ (ih h)
        exact this (List.mem_map.2 ⟨t, List.mem_range.2 hlt, rfl⟩)
      have := h1.tm _ hm
      simp only [den_v] at this
      rw [this]
      have hlt' : t < a.tmps.size := by omega
      simp [Array.getD_eq_getD_getElem?, Array.getElem?_eq_getElem hlt']
    · rw [Array.getElem?_eq_none (by have := h1.sz; omega), Array.getElem?_eq_none (by omega)]
  have hdv : rd a' d = some v := by
    have := h1.tm (d, .v v) (.head _)
    rw [rd_lt (okD_small hd)]
    simpa [den_v] using this
  have hrd : ∀ t, t ≠ d → rd a' t = rd a t := fun t ht => by unfold rd; rw [hoth t ht]
  refine Rel.ofSb h1 rfl fun e hm => ?_
  rcases List.mem_cons.1 hm with rfl | hm
  · exact ⟨fun _ => ⟨c, by rw [hdv, hv], hx⟩, .inl (holdsC_nil _)⟩
  · obtain ⟨h2, h3, h4⟩ := he e hm
    have hp := AllD_mem.1 h1.dat _ (List.mem_map.2 ⟨e, h2, rfl⟩)
    have hcc : holdsC a' e.cs ↔ holdsC a e.cs := ⟨fun hc c hm => by rw [← hoth _ (h4 c hm)]; exact hc c hm, fun hc c hm => by rw [hoth _ (h4 c hm)]; exact hc c hm⟩
    refine ⟨fun hc => ?_, ?_⟩
    · obtain ⟨cs, h5, h6⟩ := hp.1 (hcc.1 hc)
      exact ⟨cs, by rw [hrd _ h3]; exact h5, hcr e hm _ _ _ h6⟩
    · rw [hcc, hrd _ h3]; exact hp.2
theorem offF_rem {l : List En} {d : Nat} (h : offF d l = true) : ∀ e ∈ l, e.t ≠ d ∧ ∀ c ∈ e.cs, c.1 ≠ d := by
  induction l with
  | nil => intro e he; cases he
  | cons x l ih =>
    simp only [offF, Bool.and_eq_true] at h
    intro e he
    rcases List.mem_cons.1 he with rfl | he
    · have h1 := h.1
      simp only [Bool.not_eq_true', Bool.or_eq_false_iff] at h1
      exact ⟨fun e' => by rw [e'] at h1; simp [Nat.beq_refl] at h1, usesT_ok h1.2⟩
    · exact ih h.2 e he
def agP (pr : List Nat) (β β' : Nat → Nat) (ρ ρ' : Nat → Value) : Prop := ∀ i ∈ pr, β' i = β i ∧ ρ' i = ρ i
theorem agP.refl (pr : List Nat) (β : Nat → Nat) (ρ : Nat → Value) : agP pr β β ρ ρ := fun _ _ => ⟨rfl, rfl⟩
theorem agP.trans {pr : List Nat} {β1 β2 β3 : Nat → Nat} {ρ1 ρ2 ρ3 : Nat → Value} (h : agP pr β1 β2 ρ1 ρ2) (k : agP pr β2 β3 ρ2 ρ3) : agP pr β1 β3 ρ1 ρ3 :=
  fun i hi => ⟨(k i hi).1.trans (h i hi).1, (k i hi).2.trans (h i hi).2⟩
theorem agP_off {pr : List Nat} {d : Nat} (h : memN pr d = false) (ha : offBy d β β' ρ ρ') : agP pr β β' ρ ρ' :=
  fun i hi => ha i fun e => by subst e; rw [memN_ok.2 hi] at h; cases h
structure Keeps (S S' : XS) (β β' : Nat → Nat) (ρ ρ' : Nat → Value) : Prop where
  fix : S'.fix = S.fix
  fixM : S'.fixM = S.fixM
  prot : S'.prot = S.prot
  ag : agP S.prot β β' ρ ρ'
theorem Keeps.refl (S : XS) (β : Nat → Nat) (ρ : Nat → Value) : Keeps S S β β ρ ρ := ⟨rfl, rfl, rfl, agP.refl _ _ _⟩
theorem Keeps.trans {S1 S2 S3 : XS} {β1 β2 β3 : Nat → Nat} {ρ1 ρ2 ρ3 : Nat → Value} (h : Keeps S1 S2 β1 β2 ρ1 ρ2) (k : Keeps S2 S3 β2 β3 ρ2 ρ3) : Keeps S1 S3 β1 β3 ρ1 ρ3 :=
  ⟨k.fix.trans h.fix, k.fixM.trans h.fixM, k.prot.trans h.prot, h.ag.trans (by rw [← h.prot]; exact k.ag)⟩
theorem okW_ok {n d : Nat} {S : XS} (h : okW n S d = true) (hn : X.n = n) (hr : X.res = []) : okD X d = true ∧ offF d S.fix = true := by
  simp only [okW, Bool.and_eq_true] at h
  refine ⟨?_, h.2⟩
  simp only [okD, hr, notIn, hn, Bool.true_and, Bool.and_eq_true]
  exact h.1
theorem remE_append {d : Nat} {l m : List En} (h : offF d m = true) : remE (l ++ m) d = remE l d ++ m := by
  induction l with
  | nil =>
    simp only [List.nil_append, remE]
    induction m with
    | nil => rfl
    | cons x m ih =>
      simp only [offF, Bool.and_eq_true] at h
      have h1 := h.1
      simp only [Bool.not_eq_true'] at h1
      simp only [remE, h1, cond_false, ih h.2]
  | cons x l ih =>
    simp only [List.cons_append, remE, ih]
    cases (Nat.beq x.t d || usesT d x.cs) <;> rfl
theorem put_flat {S : XS} {d : Nat} {cs : Conds} {x : AV} (h : offF d S.fix = true) : (S.put d cs x).flat = S.flat.put d cs x := by
  simp only [XS.flat, XS.put, St.put, remE_append h, List.cons_append]
theorem okB_ok {S : XS} {d : Nat} (h : okB S d = true) : freshM d (S.mem ++ S.fixM) = true ∧ offI d S.fix = true ∧ memN S.prot d = false := by
  simp only [okB, Bool.and_eq_true] at h
  refine ⟨?_, h.1.2, by simpa using h.2⟩
  have key : ∀ {l m : List (Nat × Ob)}, freshM d l = true → freshM d m = true → freshM d (l ++ m) = true := by
    intro l m hl hm
    induction l with
    | nil => exact hm
    | cons q l ih =>
      obtain ⟨k, o⟩ := q
      cases o with
      | mapT k1 v path e u xs hole => cases hole <;> simp only [freshM, Bool.and_eq_true, List.cons_append] at hl ⊢ <;> exact ⟨hl.1, ih hl.2⟩
      | _ => simp only [freshM, Bool.and_eq_true, List.cons_append] at hl ⊢; exact ⟨hl.1, ih hl.2⟩
  exact key h.1.1.1 h.1.1.2
theorem born_env {S : XS} {d : Nat} (hI : offI d S.fix = true) (hF : offF d S.fix = true) : ∀ e ∈ remE (dropId d S.env) d ++ S.fix, e ∈ S.flat.env ∧ noId d e.av = true ∧ e.t ≠ d ∧ ∀ c ∈ e.cs, c.1 ≠ d := by
  intro e he
  rcases List.mem_append.1 he with he | he
  · obtain ⟨h1, h2, h3⟩ := remE_mem he
    obtain ⟨h4, h5⟩ := dropId_mem h1
    exact ⟨List.mem_append_left _ h4, h5, h2, h3⟩
  · obtain ⟨h1, h2⟩ := offF_rem hF e he
    exact ⟨List.mem_append_right _ he, offI_mem hI e he, h1, h2⟩
end
end Gx
