/- One operation of an open region. -/
import Derived.Test.YtnlnadfpfekeiaaDoorXR2
namespace Gx
open Go Go.RowKit Gd
set_option linter.unusedVariables false
set_option linter.unusedSimpArgs false
theorem beqN {a b : Nat} (h : a ≠ b) : Nat.beq a b = false := by
  cases hb : Nat.beq a b with
  | true => exact absurd (Nat.eq_of_beq_eq_true hb) h
  | false => rfl
theorem visZ_mem {l0 : List Oper} {p i : Nat} {acc : Got} {Zs : List (Nat × Ob)} {id : Nat} {ob : Ob} (h : (id, ob) ∈ visZ l0 p i acc Zs) :
    lateT l0 p i = true ∧ behT l0 i id acc 0 = true ∧ id ∈ keysM Zs ∧ curO allE id acc 0 (lookM Zs id) = some ob := by
  unfold visZ at h
  split at h
  · cases h
  · rename_i hZ
    cases hl : lateT l0 p i with
    | false => rw [hl] at h; cases h
    | true =>
      rw [hl] at h
      simp only [cond_true] at h
      obtain ⟨q, hq, hf⟩ := List.mem_filterMap.1 h
      obtain ⟨hb, hf⟩ := bvT hf
      split at hf
      · rename_i ob' hc
        injection hf with hf
        injection hf with h1 h2
        subst h1; subst h2
        exact ⟨rfl, hb, List.mem_map.2 ⟨q, hq, rfl⟩, hc⟩
      · cases hf
theorem lateT_at {l0 : List Oper} {p i k : Nat} {o : Oper} (h : lateT l0 p i = true) (hk : k < p) (hi : i < k) (ho : l0[k]? = some o) (hm : mayT o = true) : behindB l0 l0.length k i = true := by
  have := List.all_eq_true.1 h k (List.mem_range.2 hk)
  rw [ho] at this
  simp only [hm, Bool.not_true, Bool.or_false, Bool.or_eq_true] at this
  rcases this with h1 | h1
  · have := Nat.le_of_ble_eq_true h1; omega
  · exact h1
section
variable {P : Program} {Y : TX} {Zs : List (Nat × Ob)} {n : Nat} {l0 : List Oper} {ds : List Nat} {S0 : XS} {R : Type} {r : R}
theorem mayT_of {o : Oper} {i : Nat} {acc : Got} {g : Nat × AV × Gk} {id : Nat} (hG : GotOk P Y Zs n l0 ds S0 o i acc g) (ht : touches id g.1 g.2.2 = true) (hne : newG g.2.2 = true → g.1 ≠ id) : mayT o = true := by
  obtain ⟨d, v, q⟩ := g
  have hf := hG.fnd
  cases q with
  | v => cases ht
  | u => cases ht
  | c => cases ht
  | b ns => cases ht
  | r u e zs c => exact absurd (Nat.eq_of_beq_eq_true (show Nat.beq d id = true from ht)) (hne rfl)
  | o t c => exact absurd (Nat.eq_of_beq_eq_true (show Nat.beq d id = true from ht)) (hne rfl)
  | t u e zs h =>
    obtain ⟨t, s, x, _, _, _, _, _, hop, _⟩ := hf.2.2
    unfold mayT
    rw [hG.dst rfl, hop]
  | w j ob =>
    unfold mayT
    rw [(hG.ndst rfl).1]
section
variable {X : Cx} {β : Nat → Nat} {ρ : Nat → Value} {a0 : Act} {w0 : World} {acc : Got}
theorem curO_none {E : Nat → Bool} {i gt : Nat} {g : Nat × AV × Gk} (hg : acc[i]? = some g) (hi : E i = false) (hz : okB S0 gt = true ∧ freshM gt Zs = true ∧ noTouch gt (acc.take i) = true)
    (hl : ∀ j g', acc[j]? = some g' → i < j → touches gt g'.1 g'.2.2 = true → E j = false) : curO E gt acc 0 (lookM Zs gt) = none := by
  rw [curO_late fun k g' hk ht => ?_]
  · exact (freshM_look hz.2.1).1
  · rw [Nat.zero_add]
    rcases Nat.lt_trichotomy k i with h1 | h1 | h1
    · have := noTouch_at hz.2.2 (k := k) (g := g') (by rw [List.getElem?_take, if_pos h1]; exact hk)
      rw [this] at ht; cases ht
    · rw [h1]; exact hi
    · exact hl k g' hk h1 ht
theorem OW_born {E : Nat → Bool} {a a' : Act} {i gt : Nat} {v : AV} {q : Gk} {Ox : List TL} {ob : Ob} {t : TL} (hdsE : ds = acc.map (·.1)) (hN : (namesZ Zs acc).Nodup) (hnd : ds.Nodup) (hg : acc[i]? = some (gt, v, q)) (hq : newG q = true) (hi : E i = false)
    (hz : okB S0 gt = true ∧ freshM gt Zs = true ∧ noTouch gt (acc.take i) = true) (ht : ∀ id, gt ≠ id → touches id gt q = false) (hl : ∀ j g', acc[j]? = some g' → i < j → touches gt g'.1 g'.2.2 = true → E j = false)
    (_hr : True = True) (hOX : Ox.Perm (OWx β ρ Zs acc E a)) (hgd : ∀ (j e : Nat), j ≠ i → ds[j]? = some e → a'.tmps.getD e undef = a.tmps.getD e undef) (hc : curG gt gt q none = some ob) (htl : tlAt β ρ (a'.tmps.getD gt undef) gt ob = t) :
    (OWx β ρ Zs acc (insE E i) a').Perm (t :: Ox) := by
  have hgr : gt ∈ rowIds acc := rowIds_mem.2 ⟨_, _, List.mem_of_getElem? hg, hq⟩
  have hcg : curO E gt acc 0 (lookM Zs gt) = none := curO_none hg hi hz hl
  obtain ⟨rest, p1, p2⟩ := filterMap_at (f := fX β ρ Zs acc E a) (f' := fX β ρ Zs acc (insE E i) a') hN (List.mem_append_right _ hgr) fun j _ hj => fX_same hdsE hnd hg hgd (ht j (Ne.symm hj))
  simp only [fX, hcg, Option.map_none, Option.toList_none, List.nil_append] at p1
  refine p2.trans ?_
  simp only [fX]
  rw [curO_ins hg hi hl, hcg]
  simp only [hc, Option.map_some, Option.toList_some, tlX, memN_of hgr, cond_true, htl]
  exact List.Perm.cons _ (hOX.trans p1).symm
theorem stepD_ok (hT : TabOk P Y.T) (hG0 : GlobOk Y.gl (okN X) X.w) (hX : X.n = n) (hr : X.res = []) (h : Rel X β ρ S0.flat a0 w0) (hnd : ds.Nodup) (hA : AccOk P Y Zs n l0 ds S0 acc) (hdsE : ds = acc.map (·.1)) (hN : (namesZ Zs acc).Nodup) (hZf : ∀ d ∈ rowIds acc, d ∉ keysM Zs) (i : Nat) :
    StepB (OWx β ρ Zs acc) (fun _ => 0) P l0 X (restG X ds a0) (S0.flat.env.map (enD β ρ a0)) [] (memO β ρ S0.flat.mem) ds (acc.map (gotA β ρ)) i := by
  unfold StepB
  split
  · rename_i d fv o hd hf ho
    rw [List.getElem?_map] at hf
    obtain ⟨g, hg, hfv⟩ := Option.map_eq_some_iff.1 hf
    obtain ⟨o', ho', hG⟩ := hA.2 i g hg
    rw [ho] at ho'; injection ho' with ho'; subst ho'
    have hgd : g.1 = d := by rw [← hG.ix]; exact getD_some hd
    subst hgd
    intro E β1 a w dX Ox Q hcl hEi hpre hS hOX hpred hend
    have hlateB : ∀ k, behindB l0 l0.length k i = true → E k = false := fun k hb => by
      cases hE : E k with
      | false => rfl
      | true =>
        have : E i = true := behind_ok hcl l0.length k i hb fun o' ho' e he hb' => hcl k o' hE ho' e he hb'
        rw [hEi] at this; cases this
    have hearly : ∀ {id : Nat}, behT l0 i id (acc.take i) 0 = true → ∀ j g', acc[j]? = some g' → j < i → touches id g'.1 g'.2.2 = true → E j = true := fun hb j g' hj hji ht => by
      have h1 := behT_at hb (k := j) (g := g') (by rw [List.getElem?_take, if_pos hji]; exact hj) ht
      rw [Nat.zero_add] at h1
      exact behind_ok hcl l0.length i j h1 fun o' ho' e he hb' => by rw [ho] at ho'; injection ho' with ho'; subst ho'; exact hpre e he hb'
    have hlate : ∀ {id : Nat}, touches id g.1 g.2.2 = true → ∀ j g', acc[j]? = some g' → i < j → touches id g'.1 g'.2.2 = true → E j = false := fun hti j g' hj hij ht => by
      obtain ⟨oj, _, hGj⟩ := hA.2 j g' hj
      have h1 := behT_at (tb_ok hGj ht) (k := i) (g := g) (by rw [List.getElem?_take, if_pos hij]; exact hg) hti
      rw [Nat.zero_add] at h1
      exact hlateB j h1
    have hsz0 : a.tmps.size = X.n := hS.sz
    have hdin : g.1 ∈ ds := List.mem_of_getElem? hd
    have hwant : Region.wanted o (yielded ⟨l0⟩ a.tmps) = ranG g.2.2 := by
      have hgd := hG.gd
      unfold guardD at hgd
      split at hgd
      · cases hgd
      · rename_i hgt
        injection hgd with hgd
        rw [← hgd]; exact wanted_none (gTmp_none hgt) _
      · rename_i t want hgt
        obtain ⟨hp, hgd⟩ := bvT hgd
        have hiff := wanted_iff (a := a) hgt
        split at hgd
        · rename_i b hlk
          injection hgd with hgd
          obtain ⟨j, hj', hdj, hix, hwr⟩ := acc_idx hnd hA (lookG_mem hlk)
          simp only at hix hdj
          rw [hix] at hp
          obtain ⟨cs, q1, q2⟩ := hpred j _ hp (by rw [List.getElem?_map, hj']; rfl)
          have hlt : t < a.tmps.size := by rw [hsz0]; exact okD_lt (okW_ok (hwr rfl) hX hr).1
          have q2' : cs = [.bool b] := q2
          subst q2'
          have q3 : a.tmps[t]? = some (.bool b) := by
            have : a.tmps.getD t undef = .bool b := q1
            rw [← this]; simp [Array.getD_eq_getD_getElem?, hlt]
          rw [← hgd]
          cases hw : Region.wanted o (yielded ⟨l0⟩ a.tmps) with
          | true =>
            have := hiff.1 hw
            rw [q3] at this
            injection this with this
            injection this with this
            subst this; simp
          | false =>
            cases hbw : (b == want) with
            | false => rfl
            | true =>
              have : b = want := by simpa using hbw
              subst this
              rw [hiff.2 q3] at hw; cases hw
        · cases hgd
        · obtain ⟨hsk, hgd⟩ := bvT hgd
          injection hgd with hgd
          rw [← hgd]
          obtain ⟨v', hm⟩ := isSkipG_mem hsk
          obtain ⟨j, hj', hdj, hix, hwr⟩ := acc_idx hnd hA hm
          simp only at hix hdj
          rw [hix] at hp
          have q1 := hpred j _ hp (by rw [List.getElem?_map, hj']; rfl)
          have q1' : a.tmps.getD t undef = undef := q1
          cases hw : Region.wanted o (yielded ⟨l0⟩ a.tmps) with
          | false => rfl
          | true =>
            have := hiff.1 hw
            rw [Array.getD_eq_getD_getElem?, this] at q1'
            cases q1'
    have hloc : RelW β ρ (okOf X.ok X.w.heap.size β1 [] (Ox ++ memO β ρ S0.flat.mem) w) (locS l0 ds Zs S0 i (acc.take i) o) a w := by
      refine ⟨fun e he => ?_, fun id ob hob => ?_⟩
      · obtain ⟨hcs, hlook⟩ := locE_mem he
        refine ⟨fun _ => ?_, .inl (by rw [hcs]; exact holdsC_nil a)⟩
        rcases hlook with ⟨h1, h2⟩ | ⟨h1, h2, hlt0⟩ | ⟨h2, hlt0⟩
        · obtain ⟨j, hj', hdj, hix, hwr⟩ := acc_idx hnd hA (lookG_mem h1)
          simp only at hix hdj
          rw [hix] at h2
          obtain ⟨cs, q1, q2⟩ := hpred j _ h2 (by rw [List.getElem?_map, hj']; rfl)
          have hlt : e.t < a.tmps.size := by rw [hsz0]; exact okD_lt (okW_ok (hwr rfl) hX hr).1
          refine ⟨cs, ?_, q2⟩
          rw [← q1, rd_lt (okD_small (okW_ok (hwr rfl) hX hr).1)]
          simp [Array.getD_eq_getD_getElem?, hlt]
        · have hD := AllD_mem.1 hS.dat _ (.tail _ (List.mem_map.2 ⟨e, h2, rfl⟩))
          obtain ⟨cs, q1, q2⟩ := hD.1 (by rw [hcs]; exact holdsC_nil a0)
          rw [rd_lt hlt0] at q1
          have hlt : e.t < X.n := lt_of_get h q1
          have := hS.tm _ (restG_mem hlt (notIn_ok h1) a0)
          simp only [den_v] at this
          refine ⟨cs, ?_, q2⟩
          rw [rd_lt hlt0, this, ← q1]
          have hlt' : e.t < a0.tmps.size := by rw [h.sz]; exact hlt
          simp [Array.getD_eq_getD_getElem?, hlt']
        · have hD := AllD_mem.1 hS.dat _ (.tail _ (List.mem_map.2 ⟨e, h2, rfl⟩))
          obtain ⟨cs, q1, q2⟩ := hD.1 (by rw [hcs]; exact holdsC_nil a0)
          refine ⟨cs, ?_, q2⟩
          rw [← q1]
          unfold rd
          rw [hlt0]; rfl
      · obtain ⟨l1, l2, e1, _⟩ := lookM_split hob
        have hmem : (id, ob) ∈ S0.flat.mem ++ visZ l0 ds.length i (acc.take i) Zs := by
          have e1' : S0.flat.mem ++ visZ l0 ds.length i (acc.take i) Zs = l1 ++ (id, ob) :: l2 := e1
          rw [e1']; simp
        rcases List.mem_append.1 hmem with hmem | hmem
        · exact (hS.own _ (List.mem_append_right _ (List.mem_map.2 ⟨_, hmem, rfl⟩))).1
        · obtain ⟨hlt, hbt, hkey, hcur⟩ := visZ_mem hmem
          have hcE : curO E id acc 0 (lookM Zs id) = some ob := by
            rw [curO_now hg hEi (hearly hbt) fun j g' hj hij ht => ?_, hcur]
            obtain ⟨oj, hoj, hGj⟩ := hA.2 j g' hj
            refine hlateB j (lateT_at hlt (by rw [← hA.1]; exact acc_lt hj) hij hoj (mayT_of hGj ht fun hq e => ?_))
            subst e
            exact hZf _ (rowIds_mem.2 ⟨_, _, List.mem_of_getElem? (by rw [hj]), hq⟩) hkey
          have hin : tlX β ρ acc a id ob ∈ Ox := hOX.mem_iff.2 (List.mem_filterMap.2 ⟨id, List.mem_append_left _ hkey, by simp only [fX, hcE, Option.map_some]⟩)
          have := (hS.own _ (List.mem_append_left _ hin)).1
          have htx : tlX β ρ acc a id ob = tlOf β ρ id ob := by
            unfold tlX
            cases hm : memN (rowIds acc) id with
            | false => rfl
            | true => exact absurd hkey (hZf _ (memN_ok' hm))
          rw [htx] at this
          exact this
    have hGd : ∀ p ∈ restG X ds a0, p.1 ≠ g.1 := fun p hp e => (restG_not hp).1 (e ▸ hdin)
    have hput : ∀ v, Sb β1 ⟨X.n, X.ok, X.w, remD ds g.1, a, some (fun _ => 0), X.lent, X.lok⟩ (restG X ds a0) (dX :: S0.flat.env.map (enD β ρ a0)) [] (Ox ++ memO β ρ S0.flat.mem) (a.put (some g.1) v) w := fun v =>
      { sz := by simp [Act.put, hsz0], df := hS.df, fr := fun t ht => (put_other (fun e => remD_ne (e ▸ ht)) _).trans (hS.fr t ht), pn := hS.pn,
        tm := fun p hp => (put_other (hGd p hp) _).trans (hS.tm p hp), bel := hS.bel, dat := hS.dat, obj := hS.obj, own := hS.own, dHH := hS.dHH, dHO := hS.dHO, dOO := hS.dOO }
    obtain ⟨gt, gv0, gq⟩ := g
    simp only at hdin hput
    have hok : isW gq = false → okD X gt = true := fun hq => (okW_ok (hG.wr hq) hX hr).1
    have hdlt : isW gq = false → gt < a.tmps.size := fun hq => by rw [hsz0]; exact okD_lt (hok hq)
    have hpv : isW gq = false → ∀ v, (a.put (some gt) v).tmps.getD gt undef = v := fun hq v => by simp [Act.put, Array.getD_eq_getD_getElem?, hdlt hq]
    have hSG : Sb β1 ⟨X.n, X.ok, X.w, remD ds gt, a, some (fun _ => 0), X.lent, X.lok⟩ (allG X.n a) (dX :: S0.flat.env.map (enD β ρ a0)) [] (Ox ++ memO β ρ S0.flat.mem) a w :=
      { sz := hS.sz, df := hS.df, fr := hS.fr, pn := hS.pn, bel := hS.bel, dat := hS.dat, obj := hS.obj, own := hS.own, dHH := hS.dHH, dHO := hS.dHO, dOO := hS.dOO,
        tm := fun p hp => by
          obtain ⟨t, ht, rfl⟩ := List.mem_map.1 hp
          have hlt : t < a.tmps.size := by rw [hsz0]; exact List.mem_range.1 ht
          simp [den_v, Array.getElem?_eq_getElem hlt, Array.getD_eq_getD_getElem?] }
    have hokd : isW gq = false → okD ⟨X.n, X.ok, X.w, remD ds gt, a, some (fun _ => 0), X.lent, X.lok⟩ gt = true := fun hq => by
      have hok := hok hq
      simp only [okD, Bool.and_eq_true] at hok ⊢
      exact ⟨hok.1, notIn_of remD_ne, hok.2.2⟩
    have hback : ∀ {v : Value} {O' : List TL} {a' : Act} {w' : World}, Sb β1 ⟨X.n, X.ok, X.w, remD ds gt, a, some (fun _ => 0), X.lent, X.lok⟩ (setN (allG X.n a) gt (.v v)) (dX :: S0.flat.env.map (enD β ρ a0)) [] O' a' w' →
        Sb β1 ⟨X.n, X.ok, X.w, remD ds gt, a, some (fun _ => 0), X.lent, X.lok⟩ (restG X ds a0) (dX :: S0.flat.env.map (enD β ρ a0)) [] O' a' w' ∧ a'.tmps.getD gt undef = v := by
      intro v O' a' w' hS'
      refine ⟨Sb.lessG hS' fun p hp => ?_, ?_⟩
      · obtain ⟨r1, r2, r3⟩ := restG_not hp
        have r4 := hS.tm p hp
        refine .tail _ ?_
        have hne := hGd p hp
        have hm : p ∈ allG X.n a := by
          refine List.mem_map.2 ⟨p.1, List.mem_range.2 r2, ?_⟩
          obtain ⟨p1, p2⟩ := p
          simp only at r3 r4 ⊢
          subst r3
          simp only [den_v] at r4
          rw [Array.getD_eq_getD_getElem?, r4]; rfl
        have : ∀ {l : GL}, p ∈ l → p ∈ remN l gt := by
          intro l
          induction l with
          | nil => intro h; cases h
          | cons x l ih =>
            intro h
            obtain ⟨k, y⟩ := x
            simp only [remN]
            cases hb : Nat.beq k gt with
            | true =>
              rcases List.mem_cons.1 h with e | h
              · subst e; exact absurd (Nat.eq_of_beq_eq_true hb) hne
              · exact ih h
            | false =>
              rcases List.mem_cons.1 h with e | h
              · rw [e]; exact .head _
              · exact .tail _ (ih h)
        exact this hm
      · have := hS'.tm _ (.head _)
        simp only [den_v] at this
        simp [Array.getD_eq_getD_getElem?, this]
    cases gq with
    | v =>
      have hw : Region.wanted o (yielded ⟨l0⟩ a.tmps) = true := hwant
      obtain ⟨h1, h2⟩ := hG.fnd
      refine h1 (show GlobOk Y.gl (okN ⟨X.n, X.ok, X.w, remD ds gt, a, some (fun _ => 0), X.lent, X.lok⟩) X.w from hG0) hSG hloc hw (guardS hsz0 hw) (hG.dst rfl) (hokd rfl) fun a' w' cs hS' hcr => ?_
      obtain ⟨q1, q2⟩ := hback hS'
      refine hend β1 a' w' Ox q1 ?_ ?_
      · rw [← hfv]
        exact ⟨cs, q2, hcr⟩
      · intro hgd
        show Ox.Perm (OWx β ρ Zs acc (insE E i) _)
        rw [OW_same hdsE hnd hg hgd (fun _ => rfl)]
        exact hOX
    | u =>
      have hw : Region.wanted o (yielded ⟨l0⟩ a.tmps) = false := hwant
      unfold wpList
      rw [if_neg (by rw [hw]; simp)]
      show Q .normal (a.put o.dst undef) w
      rw [hG.dst rfl]
      refine hend β1 _ w Ox (hput _) ?_ ?_
      · rw [← hfv]
        exact hpv rfl _
      · intro hgd
        show Ox.Perm (OWx β ρ Zs acc (insE E i) _)
        rw [OW_same hdsE hnd hg hgd (fun _ => rfl)]
        exact hOX
    | c =>
      have hw : Region.wanted o (yielded ⟨l0⟩ a.tmps) = true := hwant
      obtain ⟨t, rfl, c1, c2, c3⟩ := hG.fnd
      obtain ⟨v', u, e, zs, c, hm⟩ := isRowG_mem c1
      obtain ⟨j, hj, hdj, hix, _⟩ := acc_idx hnd hA hm
      simp only at hix hdj
      rw [hix] at c2
      have hrun : (execOp a.eval o).run P w = .ok (.value (a.eval (.tmp t))) w := by
        unfold execOp
        rcases c3 with c3 | c3 <;> rw [c3] <;> rfl
      refine wpList_go hw (wp_value hrun ?_)
      rw [hG.dst rfl]
      have hne : t ≠ gt := fun e => by
        subst e
        have h2 := (List.getElem?_eq_some_iff.1 hd)
        have h3 := hnd.idxOf_getElem i h2.1
        rw [h2.2] at h3
        simp only at h3
        rw [hix] at h3
        subst h3
        rw [hj] at hg
        injection hg with hg
        injection hg with _ hg
        injection hg with _ hg
        cases hg
      refine hend β1 _ w Ox (hput _) ?_ ?_
      · rw [← hfv]
        show (a.put (some gt) _).tmps.getD gt undef = (a.put (some gt) _).tmps.getD t undef
        rw [hpv rfl, Array.getD_eq_getD_getElem?, put_other hne]
        simp [Act.eval, Array.getD_eq_getD_getElem?]
      · intro hgd
        show Ox.Perm (OWx β ρ Zs acc (insE E i) _)
        rw [OW_same hdsE hnd hg hgd (fun _ => rfl)]
        exact hOX
    | r u e zs c =>
      have hw : Region.wanted o (yielded ⟨l0⟩ a.tmps) = true := hwant
      have hgv := guardS (ops := ⟨l0⟩) hsz0 hw
      obtain ⟨h1, hb, hmade⟩ := hG.fnd
      rcases hmade with ⟨t, lo, co, te, ee, lv, cv, k1, k2, nl, nc, za, z, hop, hte, htd, he, hl, hc, hli, hci, hza, hz, hsz, hzl, hby, hmk, hqn⟩ | ⟨t, s, x, te, ee, xv, ys, hop, hte, htd, he, hs, hx, hy, hpos, hby, hzl, hsz, happ⟩
      rotate_left
      · obtain ⟨c1, hse, hs2⟩ := hloc.ev (holdsC_nil a) hs
        have hs2' : c1 = _ := hs2
        subst hs2'
        have hse' : a.eval s = .slice none 0 0 := hse
        have hag : (Ty.sl u).agg = xv.isAgg := by
          cases xv with
          | d t' y' => obtain ⟨rfl, _⟩ := Ty.cast_ok (by simpa only [asD] using hy); rfl
          | ag l => simp [asD] at hy
          | _ => rfl
        have hiv := hloc.asD (holdsC_nil a) hx hy hag
        obtain ⟨A2, c2, hev, hyv⟩ := slForm (r := rt u) hiv
        have hnil := Sb.addNilM hSG e (rt u)
        rw [op_eta o, hG.dst rfl, hop] at hgv ⊢
        refine step_mappend hT hnil [] (Ox ++ memO β ρ S0.flat.mem) (r := rt u) hgv (hokd rfl) hte htd he (by rw [rt_size]; exact Nat.eq_of_beq_eq_true hsz) hzl hpos hby rfl (by rw [gvW hloc hsz0 hs, hse']) (by rw [gvW hloc hsz0 hx, hev]) (hyv.weak ?_) happ fun A' c' a' w' hS' => ?_
        · rintro b o ⟨o1, o2, o3, o4⟩
          refine ⟨o1, o2, o3, fun t ht hc => ?_⟩
          rcases List.mem_cons.1 ht with rfl | ht
          · cases hc
          · exact o4 t ht hc
        · obtain ⟨q1, q2⟩ := hback hS'
          refine hend β1 a' w' (ml (.slice A' zs.length c') e (rt u) zs :: Ox) q1 ?_ ?_
          · rw [← hfv]
            exact ⟨A', c', q2⟩
          · intro hgd
            refine (OW_born (ob := .row e u zs) hdsE hN hnd hg rfl hEi (okZ_ok hb) (fun id hi => by simp [touches, beqN hi]) (hlate (Nat.beq_refl _)) rfl hOX hgd (by rw [show curG gt gt (Gk.r u e zs c) none = some (.row e u zs) by simp [curG, Nat.beq_refl]]) ?_).symm
            simp only [tlAt, q2]
      rw [op_eta o, hG.dst rfl, hop] at hgv ⊢
      refine step_make hT hSG (r := rt u) hgv (hokd rfl) hte htd he (by rw [rt_size]; exact Nat.eq_of_beq_eq_true hsz) hzl hby (fun ok w => asD_ok (β := β) (ρ := ρ) (M := []) (by simp [lookM]) hz (zeroAV_ok hza))
        (by rw [gvW hloc hsz0 hl, hloc.int (holdsC_nil a) hl hli]) (by rw [gvW hloc hsz0 hc, hloc.int (holdsC_nil a) hc hci]) hmk fun b a' w' hS' => ?_
      obtain ⟨q1, q2⟩ := hback hS'
      refine hend β1 a' w' (ml (.slice (some ⟨b, 0, none⟩) zs.length nc.toNat) e (rt u) zs :: Ox) q1 ?_ ?_
      · rw [← hfv]
        exact ⟨_, _, q2⟩
      · intro hgd
        refine (OW_born (ob := .row e u zs) hdsE hN hnd hg rfl hEi (okZ_ok hb) (fun id hi => by simp [touches, beqN hi]) (hlate (Nat.beq_refl _)) rfl hOX hgd (by rw [show curG gt gt (Gk.r u e zs c) none = some (.row e u zs) by simp [curG, Nat.beq_refl]]) ?_).symm
        simp only [tlAt, q2]
    | o t c =>
      have hw : Region.wanted o (yielded ⟨l0⟩ a.tmps) = true := hwant
      obtain ⟨h1, hb, e, ty, hop, he, hc, hids⟩ := hG.fnd
      have hrun : (execOp a.eval o).run P w = .ok (.value (.pointer (some ⟨w.heap.size, 0, none⟩))) (w.alloc (.cells (cellsL e.z).toArray t)) := by
        unfold execOp
        simp only [hop]
        simp [Instr.alloc, run_zeroValue hT w he, newVar, newRow, cellsL_eq]
      refine wpList_go hw (wp_value hrun ?_)
      rw [hG.dst rfl]
      have hbel : Below w.heap.size w (w.alloc (.cells (cellsL e.z).toArray t)) := (Below.refl _ _).alloc (Nat.le_refl _) _
      refine hend β1 _ _ (tlVar β ρ w.heap.size t c :: Ox) ((hput _).allocTL hbel (fun g hg => ?_) ⟨cellsL e.z, heap_alloc_new w _, zeroAV_ok hc⟩) ?_ ?_
      · have hg' : g = w.heap.size := hg
        omega
      · rw [← hfv]
        exact ⟨w.heap.size, hpv rfl _⟩
      · intro hgd
        refine (OW_born (ob := .var t c) hdsE hN hnd hg rfl hEi (okZ_ok hb) (fun id hi => by simp [touches, beqN hi]) (hlate (Nat.beq_refl _)) rfl hOX hgd (by rw [show curG gt gt (Gk.o t c) none = some (.var t c) by simp [curG, Nat.beq_refl]]) ?_).symm
        simp only [tlAt, hpv rfl, blkV]
    | b ns =>
      have hw : Region.wanted o (yielded ⟨l0⟩ a.tmps) = true := hwant
      obtain ⟨h1, hns, _⟩ := hG.fnd
      have hrows : ∀ t ∈ ns, t ∈ ds ∧ t < X.n ∧ t < 100000 ∧ t ≠ gt ∧ ∃ A m c, a.tmps.getD t undef = .slice A m c := fun t ht => by
        obtain ⟨c1, c2⟩ := hns t ht
        obtain ⟨v', u, e, zs, c, hm⟩ := isRowG_mem c1
        obtain ⟨j, hj, hdj, hix, hwr⟩ := acc_idx hnd hA hm
        simp only at hix hdj
        rw [hix] at c2
        obtain ⟨A, c', q1⟩ := hpred j _ c2 (by rw [List.getElem?_map, hj]; rfl)
        have hok' := (okW_ok (hwr rfl) hX hr).1
        refine ⟨List.mem_of_getElem? hdj, okD_lt hok', ?_, fun e => ?_, A, _, c', q1⟩
        · have := okD_small hok'
          exact Nat.lt_of_succ_le (Nat.le_of_ble_eq_true this)
        · subst e
          have h2 := (List.getElem?_eq_some_iff.1 hd)
          have h3 := hnd.idxOf_getElem i h2.1
          rw [h2.2] at h3
          simp only at h3
          rw [hix] at h3
          subst h3
          rw [hj] at hg
          injection hg with hg
          injection hg with _ hg
          injection hg with _ hg
          cases hg
      have hlocB : RelW (updBk a ns β) (updV a ns ρ) (okOf X.ok X.w.heap.size β1 [] (Ox ++ memO β ρ S0.flat.mem) w) (locB ds ns (locS l0 ds Zs S0 i (acc.take i) o)) a w := by
        refine ⟨fun e he => ?_, fun id ob hob => by cases hob⟩
        rcases List.mem_append.1 he with he | he
        · obtain ⟨t, ht, rfl⟩ := List.mem_map.1 he
          obtain ⟨r1, r2, r3, _, A, m, c, r4⟩ := hrows t ht
          refine ⟨fun _ => ⟨[a.tmps.getD t undef], ?_, ?_⟩, .inl (holdsC_nil a)⟩
          · have hlt : t < a.tmps.size := by rw [hsz0]; exact r2
            show rd a t = _
            unfold rd
            rw [show Nat.blt t 100000 = true from Nat.ble_eq_true_of_le r3]
            simp [Array.getD_eq_getD_getElem?, hlt]
            rfl
          · exact ⟨⟨_, rfl, .inl (by rw [(updP_at (β := β) ht).2])⟩, by rw [(updP_at (β := β) ht).2]; exact ⟨A, m, c, r4⟩⟩
        · have hfil : ∀ {l : List En}, e ∈ filE ds l → e ∈ l ∧ noneOf ds e.av = true := by
            intro l
            induction l with
            | nil => intro h; cases h
            | cons x l ih =>
              intro h
              simp only [filE] at h
              cases hb : noneOf ds x.av with
              | true =>
                rw [hb] at h
                rcases List.mem_cons.1 h with rfl | h
                · exact ⟨.head _, hb⟩
                · exact ⟨.tail _ (ih h).1, (ih h).2⟩
              | false => rw [hb] at h; exact ⟨.tail _ (ih h).1, (ih h).2⟩
          obtain ⟨hm, hn⟩ := hfil he
          obtain ⟨g1, g2⟩ := hloc.1 e hm
          refine ⟨fun hc => ?_, g2⟩
          obtain ⟨cs, q1, q2⟩ := g1 hc
          unfold noneOf at hn
          rw [List.all_eq_true] at hn
          refine ⟨cs, q1, updP_ind (C := fun β' ρ' => cr β' ρ' _ w false e.av cs) q2 fun d hd β' ρ' h' => cr_noId (offBy_upd d β' ρ' _ _) (hn d (hrows d hd).1) h'⟩
      refine h1 (show GlobOk Y.gl (okN ⟨X.n, X.ok, X.w, remD ds gt, a, some (fun _ => 0), X.lent, X.lok⟩) X.w from hG0) hSG hlocB hw (guardS hsz0 hw) (hG.dst rfl) (hokd rfl) fun a' w' cs hS' hcr => ?_
      obtain ⟨q1, q2⟩ := hback hS'
      have hcg := updP_congr (a := a) (a' := a') (l := ns) (β := β) (ρ := ρ) fun t ht => by
        obtain ⟨r1, r2, r3, r5, A, m, c, r4⟩ := hrows t ht
        have hm : (t, Gd.AV.v (a.tmps.getD t undef)) ∈ setN (allG X.n a) gt (.v (gv0.val cs)) := by
          refine .tail _ ?_
          have h0 : (t, Gd.AV.v (a.tmps.getD t undef)) ∈ allG X.n a := List.mem_map.2 ⟨t, List.mem_range.2 r2, rfl⟩
          revert h0
          generalize allG X.n a = l
          intro h0
          induction l with
          | nil => cases h0
          | cons x l ih =>
            obtain ⟨k, y⟩ := x
            simp only [remN]
            cases hb : Nat.beq k gt with
            | true =>
              rcases List.mem_cons.1 h0 with e | h0
              · injection e with e _; exact absurd (e.trans (Nat.eq_of_beq_eq_true hb)) r5
              · exact ih h0
            | false =>
              rcases List.mem_cons.1 h0 with e | h0
              · rw [e]; exact .head _
              · exact .tail _ (ih h0)
        have := hS'.tm _ hm
        simp only [den_v] at this
        rw [Array.getD_eq_getD_getElem?, this]; rfl
      refine hend β1 a' w' Ox q1 ?_ ?_
      · rw [← hfv]
        exact ⟨cs, q2, by rw [hcg.1, hcg.2]; exact hcr⟩
      · intro hgd
        show Ox.Perm (OWx β ρ Zs acc (insE E i) _)
        rw [OW_same hdsE hnd hg hgd (fun _ => rfl)]
        exact hOX
    | t u e zs h0 =>
      have hw : Region.wanted o (yielded ⟨l0⟩ a.tmps) = true := hwant
      obtain ⟨h1, hb, t, s, x, te, ee, xv, xs, ys, hop, hC, hte, htd, he, hs, hx, hy, hpos, hby, hzl, hsz, hyn, happ⟩ := hG.fnd
      obtain ⟨hsm, hbt, hcu⟩ := curB_ok hC
      have hkey := isSomeN_key hsm
      have hgr : gt ∈ rowIds acc := rowIds_mem.2 ⟨_, _, List.mem_of_getElem? hg, rfl⟩
      have hne : h0 ≠ gt := fun e => hZf gt hgr (e ▸ hkey)
      have hth : touches h0 gt (Gk.t u e zs h0) = true := by simp [touches, Nat.beq_refl]
      have htg : touches gt gt (Gk.t u e zs h0) = true := by simp [touches, Nat.beq_refl]
      have hch : curO E h0 acc 0 (lookM Zs h0) = some (.tail e u xs) := by rw [curO_now hg hEi (hearly hbt) (hlate hth), hcu]
      have hcg : curO E gt acc 0 (lookM Zs gt) = none := curO_none hg hEi (okZ_ok hb) (hlate htg)
      have hth0 : tlX β ρ acc a h0 (.tail e u xs) = tlOf β ρ h0 (.tail e u xs) := by
        unfold tlX
        cases hm : memN (rowIds acc) h0 with
        | false => rfl
        | true => exact absurd hkey (hZf _ (memN_ok' hm))
      obtain ⟨Oz, hOz0, hOz1⟩ := filterMap_two (f := fX β ρ Zs acc E a) hN (x := h0) (y := gt) (List.mem_append_left _ hkey) (List.mem_append_right _ hgr) hne (by simp only [fX, hcg, Option.map_none])
      have hOz : Ox.Perm (tlOf β ρ h0 (.tail e u xs) :: Oz) := by
        refine hOX.trans (hOz0.trans ?_)
        simp only [fX, hch, Option.map_some, hth0]
        exact List.Perm.refl _
      have hfinT : ∀ {a' : Act} {A' : Option Addr} {c' : Nat}, a'.tmps.getD gt undef = .slice A' zs.length c' → (∀ (j e : Nat), j ≠ i → ds[j]? = some e → a'.tmps.getD e undef = a.tmps.getD e undef) → (tlTail (.slice A' zs.length c') e (rt u) zs :: Oz).Perm (OWx β ρ Zs acc (insE E i) a') := fun {a' A' c'} q2 hgd => by
        have h1 := hOz1 (fX β ρ Zs acc (insE E i) a') (by
          simp only [fX]
          rw [curO_ins hg hEi (hlate hth), hch]
          simp [curG, beqN (Ne.symm hne), Nat.beq_refl]) fun j hj hjh hjg => fX_same hdsE hnd hg hgd (by simp [touches, beqN (Ne.symm hjg), beqN (Ne.symm hjh)])
        refine (h1.trans ?_).symm
        simp only [fX]
        rw [curO_ins hg hEi (hlate htg), hcg]
        simp only [curG, Nat.beq_refl, cond_true, Option.map_some, tlX, memN_of hgr, tlAt, q2]
        exact List.Perm.refl _
      have hpm : (Ox ++ memO β ρ S0.flat.mem).Perm (tlOf β ρ h0 (.tail e u xs) :: (Oz ++ memO β ρ S0.flat.mem)) := hOz.append_right _
      have hSP := hSG.perm hpm
      have hgv := guardS (ops := ⟨l0⟩) hsz0 hw
      obtain ⟨c1, hse, ⟨v0, hs2, hz0⟩, A, m, c, hρ⟩ := hloc.ev (holdsC_nil a) hs
      subst hs2
      have hag : (Ty.sl u).agg = xv.isAgg := by
        cases xv with
        | d t' y' => obtain ⟨rfl, _⟩ := Ty.cast_ok (by simpa only [asD] using hy); rfl
        | ag l => simp [asD] at hy
        | _ => rfl
      have hiv := hloc.asD (holdsC_nil a) hx hy hag
      obtain ⟨A2, c2, hev, hyv⟩ := slForm (r := rt u) hiv
      have htl : tlOf β ρ h0 (.tail e u xs) = tlTail (.slice A m c) e (rt u) xs := by simp only [tlOf, hρ]
      rw [htl] at hSP
      have hokp : ∀ b o, okOf X.ok X.w.heap.size β1 [] (Ox ++ memO β ρ S0.flat.mem) w b o → okOf X.ok X.w.heap.size β1 [] (tlTail (.slice A m c) e (rt u) xs :: (Oz ++ memO β ρ S0.flat.mem)) w b o := fun b o ⟨q1, q2, q3, q4⟩ => ⟨q1, q2, q3, fun u hu => q4 u (by rw [← htl] at hu; exact hpm.mem_iff.2 hu)⟩
      rw [op_eta o, hG.dst rfl, hop] at hgv ⊢
      rcases hz0 with hz0 | ⟨h00, A0, hz0⟩
      case inr =>
        have hse' : a.eval s = .slice A0 0 0 := by rw [hse, ← hz0]; rfl
        have hxs : xs = [] := by
          have := (hSP.own _ (.head _)).1.1
          rw [← hρ, h00] at this
          obtain ⟨A', c', q1, _⟩ := slForm this
          injection q1 with _ q2
          exact List.length_eq_zero_iff.1 q2.symm
        subst hxs
        have hSD := Sb.remake (O' := Oz ++ memO β ρ S0.flat.mem) hSP (fun t' ht' => .inl ⟨t', .tail _ ht', fun _ hg => hg, fun _ _ hc => hc, (hSP.own t' (.tail _ ht')).1⟩) (List.pairwise_cons.1 hSP.dOO).2
        refine step_zappend (a := a) hT hSD (r := rt u) hgv (hokd rfl) hte htd he (by rw [rt_size]; exact Nat.eq_of_beq_eq_true hsz) hzl hpos hby (by rw [gvW hloc hsz0 hs, hse']) (by rw [gvW hloc hsz0 hx, hev]) ?_ happ (fun hz _ _ => ?_) fun A' c' a' w' hS' => ?_
        · refine hyv.weak fun b o hk => ?_
          obtain ⟨q1, q2, q3, q4⟩ := hokp b o hk
          exact ⟨q1, q2, q3, fun u hu => q4 u (.tail _ hu)⟩
        · have := (app_ok happ).2
          rw [hz] at this
          simp only [List.nil_append] at this
          rw [← this] at hyn
          cases hyn
        · have hS2 := Sb.toTail hS' (by rw [rt_size, ← Nat.eq_of_beq_eq_true hsz]; exact hpos)
          obtain ⟨q1, q2⟩ := hback hS2
          refine hend β1 a' w' (tlTail (.slice A' zs.length c') e (rt u) zs :: Oz) q1 ?_ ?_
          · rw [← hfv]
            exact ⟨A', c', q2⟩
          · exact fun hgd => hfinT q2 hgd
      have hse' : a.eval s = .slice A m c := by rw [hse, ← hρ, ← hz0]; rfl
      refine step_appT hT hSP hgv (hokd rfl) hte htd he hsz hpos hby hzl (by rw [gvW hloc hsz0 hs, hse']) (by rw [gvW hloc hsz0 hx, hev]) ?_ happ fun A' c' a' w' hS' => ?_
      · exact hyv.weak hokp
      · obtain ⟨q1, q2⟩ := hback hS'
        refine hend β1 a' w' (tlTail (.slice A' zs.length c') e (rt u) zs :: Oz) q1 ?_ ?_
        · rw [← hfv]
          exact ⟨A', c', q2⟩
        · exact fun hgd => hfinT q2 hgd
    | w id ob =>
      have hw : Region.wanted o (yielded ⟨l0⟩ a.tmps) = true := hwant
      obtain ⟨hdn, _⟩ := hG.ndst rfl
      obtain ⟨t, p, x, e, v, hop, he, hx, hsz, hval, hin, hcase⟩ := hG.fnd
      have hti : touches id gt (Gk.w id ob) = true := Nat.beq_refl _
      obtain ⟨dv, h3, h4⟩ := hloc.ev (holdsC_nil a) hx
      have hdl := cr_len h4
      have hes := Nat.eq_of_beq_eq_true hsz
      have hcells : cellsL (v.val dv) = dv := cellsL_val' h4 hval hin
      have hcc : (v.val dv).cells.toList = dv := by rw [← cellsL_eq, hcells]
      have hcsz : (v.val dv).cells.size = e.size := by rw [← Array.length_toList, hcc]; omega
      have hsame : ∀ j ∈ namesZ Zs acc, j ≠ id → fX β ρ Zs acc (insE E i) a j = fX β ρ Zs acc E a j := fun j _ hj => fX_same hdsE hnd hg (fun _ _ _ _ => rfl) (by simp [touches, beqN (Ne.symm hj)])
      have hput0 : a.put o.dst undef = a := by rw [hdn]; rfl
      rcases hcase with ⟨path, tid, c, c', hcu, hset, hno, rfl, htgt⟩ | ⟨j, sz, ps, et, u, xs, y, c, z, hpe, hcu, hy, hset, hz, hsu, hpos, hsm, rfl⟩
      · obtain ⟨hbt, hcu⟩ := curA_ok hcu
        have hcE : curO E id acc 0 (lookM Zs id) = some (.var tid c) := by rw [curO_now hg hEi (hearly hbt) (hlate hti), hcu]
        have hcI : curO (insE E i) id acc 0 (lookM Zs id) = some (.var tid c') := by
          rw [curO_ins hg hEi (hlate hti)]
          simp only [curG, Nat.beq_refl, cond_true]
        obtain ⟨hidn, gb, hpa, htl⟩ : id ∈ namesZ Zs acc ∧ ∃ gb, a.eval p = .pointer (some ⟨gb, offP path, none⟩) ∧ ∀ c0, tlX β ρ acc a id (.var tid c0) = tlVar β ρ gb tid c0 := by
          rcases htgt with ⟨hpe, hsm⟩ | ⟨rfl, rfl, hvar, hpr⟩
          · have hkey := isSomeN_key hsm
            obtain ⟨c1, h1, h2⟩ := hloc.ev (holdsC_nil a) hpe
            have h2' : c1 = _ := h2
            subst h2'
            refine ⟨List.mem_append_left _ hkey, β id, h1, fun c0 => ?_⟩
            unfold tlX
            cases hm : memN (rowIds acc) id with
            | false => rfl
            | true => exact absurd hkey (hZf _ (memN_ok' hm))
          · obtain ⟨v', ty, c0, hm⟩ := isVarG_mem hvar
            obtain ⟨j, hj, hdj, hix, hwr⟩ := acc_idx hnd hA hm
            simp only at hix hdj
            rw [hix] at hpr
            obtain ⟨b, q1⟩ := hpred j _ hpr (by rw [List.getElem?_map, hj]; rfl)
            have hgr : id ∈ rowIds acc := rowIds_mem.2 ⟨_, _, List.mem_of_getElem? hj, rfl⟩
            have q1' : a.tmps.getD id undef = .pointer (some ⟨b, 0, none⟩) := q1
            refine ⟨List.mem_append_right _ hgr, b, ?_, fun c0 => ?_⟩
            · show a.tmps.getD id undef = _
              rw [q1']; rfl
            · unfold tlX
              rw [memN_of hgr]
              simp only [cond_true, tlAt, q1', blkV]
        obtain ⟨Oz, p1, p2⟩ := filterMap_at (f := fX β ρ Zs acc E a) (f' := fX β ρ Zs acc (insE E i) a) hN hidn hsame
        simp only [fX, hcE, Option.map_some, Option.toList_some, htl] at p1
        have p2' : (OWx β ρ Zs acc (insE E i) a).Perm (tlVar β ρ gb tid c' :: Oz) := by
          refine p2.trans ?_
          simp only [fX, hcI, Option.map_some, Option.toList_some, htl]
          exact List.Perm.refl _
        have hpm : (Ox ++ memO β ρ S0.flat.mem).Perm (tlVar β ρ gb tid c :: (Oz ++ memO β ρ S0.flat.mem)) := (hOX.trans p1).append_right _
        have hSP := hS.perm hpm
        obtain ⟨cs, hh, hc⟩ := (hSP.own _ (.head _)).1
        have hokp : ∀ b o, okOf X.ok X.w.heap.size β1 [] (Ox ++ memO β ρ S0.flat.mem) w b o → okOf X.ok X.w.heap.size β1 [] (tlVar β ρ gb tid c :: (Oz ++ memO β ρ S0.flat.mem)) w b o := fun b o ⟨q1, q2, q3, q4⟩ => ⟨q1, q2, q3, fun u hu => q4 u (hpm.mem_iff.2 hu)⟩
        have h4' := cr_weak h4 hokp
        obtain ⟨h5, h6⟩ := setP_ok (β := β) (ρ := ρ) h4' hset hc
        have hst := run_storeCells_at P gb (offP path) tid dv 0 cs.toArray w hh (by simp; omega) (cr_flat h4 hin)
        simp only [Nat.add_zero, List.toList_toArray] at hst
        have hrun : (execOp a.eval o).run P w = .ok .skip (w.setRow gb (cs.take (offP path) ++ dv ++ cs.drop (offP path + dv.length)).toArray) := by
          unfold execOp
          rw [hop]
          simp only [hpa, h3]
          simp [Instr.storeAt, Instr.sureAddr, storeVar, run_sizeOf' hT w he, hcsz, hcc, hst]
        refine wpList_go hw ?_
        unfold Oper.wp
        rw [hrun]
        show wpList P ⟨l0⟩ Q [] (a.put o.dst undef) _
        rw [hput0]
        have hSU := hSP.upd (O1 := []) (O2 := Oz ++ memO β ρ S0.flat.mem) (t := tlVar β ρ gb tid c) rfl (t' := tlVar β ρ gb tid c') (w' := w.setRow gb (cs.take (offP path) ++ dv ++ cs.drop (offP path + dv.length)).toArray) rfl rfl rfl (by simp) (fun b hb hn => setRow_other _ _ _ _ fun e => hn e) (fun b o hb => hb) (fun g hg => .inl hg) (fun hevo hok => by
          refine ⟨_, setRow_heap _ _ _ _ _ _ hh, ?_⟩
          exact cr_weak (cr_evo h5 hevo) hok)
        refine hend β1 a _ (tlVar β ρ gb tid c' :: Oz) hSU ?_ fun _ => p2'.symm
        rw [← hfv]; trivial
      · obtain ⟨hbt, hcu⟩ := curA_ok hcu
        have hkey := isSomeN_key hsm
        have hcE : curO E id acc 0 (lookM Zs id) = some (.row et u xs) := by rw [curO_now hg hEi (hearly hbt) (hlate hti), hcu]
        have hcI : curO (insE E i) id acc 0 (lookM Zs id) = some (.row et u (xs.set j.toNat z)) := by
          rw [curO_ins hg hEi (hlate hti)]
          simp only [curG, Nat.beq_refl, cond_true]
        have htl : ∀ zs : List u.De, tlX β ρ acc a id (.row et u zs) = ml (ρ id) et (rt u) zs := fun zs => by
          unfold tlX
          cases hm : memN (rowIds acc) id with
          | false => rfl
          | true => exact absurd hkey (hZf _ (memN_ok' hm))
        obtain ⟨Oz, p1, p2⟩ := filterMap_at (f := fX β ρ Zs acc E a) (f' := fX β ρ Zs acc (insE E i) a) hN (List.mem_append_left _ hkey) hsame
        simp only [fX, hcE, Option.map_some, Option.toList_some, htl] at p1
        have p2' : (OWx β ρ Zs acc (insE E i) a).Perm (ml (ρ id) et (rt u) (xs.set j.toNat z) :: Oz) := by
          refine p2.trans ?_
          simp only [fX, hcI, Option.map_some, Option.toList_some, htl]
          exact List.Perm.refl _
        have hpm : (Ox ++ memO β ρ S0.flat.mem).Perm (ml (ρ id) et (rt u) xs :: (Oz ++ memO β ρ S0.flat.mem)) := (hOX.trans p1).append_right _
        have hSP := hS.perm hpm
        have hokp : ∀ b o, okOf X.ok X.w.heap.size β1 [] (Ox ++ memO β ρ S0.flat.mem) w b o → okOf X.ok X.w.heap.size β1 [] (ml (ρ id) et (rt u) xs :: (Oz ++ memO β ρ S0.flat.mem)) w b o := fun b o ⟨q1, q2, q3, q4⟩ => ⟨q1, q2, q3, fun u hu => q4 u (hpm.mem_iff.2 hu)⟩
        obtain ⟨c1, h1, g0, hg0, h2'⟩ := hloc.ev (holdsC_nil a) hpe
        subst h2'
        have hszu := Nat.eq_of_beq_eq_true hsu
        subst hszu
        have h4' := cr_weak h4 hokp
        obtain ⟨hl0, cs0, hown0, hr0⟩ := (hSP.own _ (.head _)).1
        obtain ⟨g, c0, hv⟩ : ∃ g c0, ρ id = .slice (some ⟨g, 0, none⟩) xs.length c0 := by
          rcases hown0.2 with ⟨hv, h0⟩ | ⟨g, cap, cur, fz, hv, _⟩
          · rw [hv] at hg0; cases hg0
          · exact ⟨g, cap, by rw [hv, hl0]⟩
        have hgg : g0 = g := by rw [hv] at hg0; simp [Value.ownBlock] at hg0; omega
        subst hgg
        have hoff : offP ps + dv.length ≤ u.size := by
          have hrep := repA_at hr0 (idx_ok hy).2
          obtain ⟨_, h6⟩ := setP_ok (β := β) (ρ := ρ) h4' hset (show cr β ρ _ w false (.d u y) _ from hrep)
          have := (rt u).len hrep
          have h7 := rt_size u
          omega
        have hmm : ∀ id' ob', lookM (locS l0 ds Zs S0 i (acc.take i) o).mem id' = some ob' → (tlOf β ρ id' ob').p (okOf X.ok X.w.heap.size β1 [] (ml (ρ id) et (rt u) xs :: (Oz ++ memO β ρ S0.flat.mem)) w) w := fun id' ob' ho' => (tlOf β ρ id' ob').weak (hloc.2 id' ob' ho') hokp
        rw [hv] at hSP
        obtain ⟨cur, fz, ⟨hh, hfz⟩, hlen, hSU⟩ := Sb.mset hSP [] (Oz ++ memO β ρ S0.flat.mem) rfl hy (by rw [rt_size]; exact Nat.le_of_ble_eq_true hpos) (off := offP ps) (ds := dv) (z := z) (by rw [rt_size]; exact hoff) (cr_flat h4 hin) (fun es hes => by
          rw [← hv] at hes ⊢
          obtain ⟨h5, _⟩ := setP_ok (β := β) (ρ := ρ) h4' hset (show cr β ρ _ w false (.d u y) es from hes)
          exact asD_ok hmm hz h5)
        rw [rt_size] at hSU hlen
        have hst := run_storeCells_atS P g0 (j.toNat * u.size + offP ps) et fz dv 0 cur w hh hfz (by omega) (cr_flat h4 hin)
        simp only [Nat.add_zero] at hst
        have hrun : (execOp a.eval o).run P w = .ok .skip (w.setRow g0 (cur.toList.take (j.toNat * u.size + offP ps) ++ dv ++ cur.toList.drop (j.toNat * u.size + offP ps + dv.length)).toArray) := by
          have h1' : a.eval p = .pointer (some ⟨g0, j.toNat * u.size + offP ps, none⟩) := h1
          unfold execOp
          rw [hop]
          simp only [h1', h3]
          simp [Instr.storeAt, Instr.sureAddr, storeVar, run_sizeOf' hT w he, hcsz, hcc, hst]
        refine wpList_go hw ?_
        unfold Oper.wp
        rw [hrun]
        show wpList P ⟨l0⟩ Q [] (a.put o.dst undef) _
        rw [hput0]
        refine hend β1 a _ (ml (ρ id) et (rt u) (xs.set j.toNat z) :: Oz) (by rw [hv]; exact hSU) ?_ fun _ => p2'.symm
        rw [← hfv]; trivial
  · trivial
end
end
end Gx
