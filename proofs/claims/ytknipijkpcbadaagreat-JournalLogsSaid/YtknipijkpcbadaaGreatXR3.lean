/- One operation of an open region. -/
import Derived.Test.YtknipijkpcbadaaGreatXRb
import Derived.Test.YtknipijkpcbadaaGreatXMy
import Derived.StillTail
namespace Gx
open Go Go.RowKit Gd
set_option linter.unusedVariables false
set_option linter.unusedSimpArgs false
theorem beqN {a b : Nat} (h : a ≠ b) : Nat.beq a b = false := by
  cases hb : Nat.beq a b with
  | true => exact absurd (Nat.eq_of_beq_eq_true hb) h
  | false => rfl
theorem visZ_mem {l0 : List Oper} {p i : Nat} {acc : Got} {Zs : List (Nat × Ob)} {id : Nat} {ob : Ob} (h : (id, ob) ∈ visZ l0 p i acc Zs) :
    lateT l0 p i = true ∧ behT l0 i id acc 0 = true ∧ id ∈ keysM Zs ∧ curO allE id acc 0 (lookM Zs id) = some ob := by
  unfold visZ at h
  split at h
  · cases h
  · rename_i hZ
    cases hl : lateT l0 p i with
    | false => rw [hl] at h; cases h
    | true =>
      rw [hl] at h
      simp only [cond_true] at h
      obtain ⟨q, hq, hf⟩ := List.mem_filterMap.1 h
      obtain ⟨hb, hf⟩ := bvT hf
      split at hf
      · rename_i ob' hc
        injection hf with hf
        injection hf with h1 h2
        subst h1; subst h2
        exact ⟨rfl, hb, List.mem_map.2 ⟨q, hq, rfl⟩, hc⟩
      · cases hf
theorem lateT_at {l0 : List Oper} {p i k : Nat} {o : Oper} (h : lateT l0 p i = true) (hk : k < p) (hi : i < k) (ho : l0[k]? = some o) (hm : mayT o = true) : behindB l0 l0.length k i = true := by
  have := List.all_eq_true.1 h k (List.mem_range.2 hk)
  rw [ho] at this
  simp only [hm, Bool.not_true, Bool.or_false, Bool.or_eq_true] at this
  rcases this with h1 | h1
  · have := Nat.le_of_ble_eq_true h1; omega
  · exact h1
section
variable {P : Program} {Y : TX} {Zs : List (Nat × Ob)} {n : Nat} {l0 : List Oper} {ds : List Nat} {S0 : XS} {R : Type} {r : R}
theorem mayT_of {o : Oper} {i : Nat} {acc : Got} {g : Nat × AV × Gk} {id : Nat} (hG : GotOk P Y Zs n l0 ds S0 o i acc g) (ht : touches id g.1 g.2.2 = true) (hne : newG g.2.2 = true → g.1 ≠ id) : mayT o = true := by
  obtain ⟨d, v, q⟩ := g
  have hf := hG.fnd
  cases q with
  | v => cases ht
  | u => cases ht
  | c => cases ht
  | b ns => cases ht
  | r u e zs c => exact absurd (Nat.eq_of_beq_eq_true (show Nat.beq d id = true from ht)) (hne rfl)
  | o t c => exact absurd (Nat.eq_of_beq_eq_true (show Nat.beq d id = true from ht)) (hne rfl)
  | t u e zs h =>
    obtain ⟨t, s, x, _, _, _, _, _, hop, _⟩ := hf.2.2
    unfold mayT
    rw [hG.dst rfl, hop]
  | w j ob =>
    unfold mayT
    rw [(hG.ndst rfl).1]
section
variable {X : Cx} {β : Nat → Nat} {ρ : Nat → Value} {a0 : Act} {w0 : World} {acc : Got}
theorem curO_none {E : Nat → Bool} {i gt : Nat} {g : Nat × AV × Gk} (hg : acc[i]? = some g) (hi : E i = false) (hz : okB S0 gt = true ∧ freshM gt Zs = true ∧ noTouch gt (acc.take i) = true)
    (hl : ∀ j g', acc[j]? = some g' → i < j → touches gt g'.1 g'.2.2 = true → E j = false) : curO E gt acc 0 (lookM Zs gt) = none := by
  rw [curO_late fun k g' hk ht => ?_]
  · exact (freshM_look hz.2.1).1
  · rw [Nat.zero_add]
    rcases Nat.lt_trichotomy k i with h1 | h1 | h1
    · have := noTouch_at hz.2.2 (k := k) (g := g') (by rw [List.getElem?_take, if_pos h1]; exact hk)
      rw [this] at ht; cases ht
    · rw [h1]; exact hi
    · exact hl k g' hk h1 ht
theorem OW_born {E : Nat → Bool} {a a' : Act} {i gt : Nat} {v : AV} {q : Gk} {Ox : List TL} {ob : Ob} {t : TL} (hdsE : ds = acc.map (·.1)) (hN : (namesZ Zs acc).Nodup) (hnd : ds.Nodup) (hg : acc[i]? = some (gt, v, q)) (hq : newG q = true) (hi : E i = false)
    (hz : okB S0 gt = true ∧ freshM gt Zs = true ∧ noTouch gt (acc.take i) = true) (ht : ∀ id, gt ≠ id → touches id gt q = false) (hl : ∀ j g', acc[j]? = some g' → i < j → touches gt g'.1 g'.2.2 = true → E j = false)
    (_hr : True = True) (hOX : Ox.Perm (OWx β ρ Zs acc E a)) (hgd : ∀ (j e : Nat), j ≠ i → ds[j]? = some e → a'.tmps.getD e undef = a.tmps.getD e undef) (hc : curG gt gt q none = some ob) (htl : tlAt β ρ (a'.tmps.getD gt undef) gt ob = t) :
    (OWx β ρ Zs acc (insE E i) a').Perm (t :: Ox) := by
  have hgr : gt ∈ rowIds acc := rowIds_mem.2 ⟨_, _, List.mem_of_getElem? hg, hq⟩
  have hcg : curO E gt acc 0 (lookM Zs gt) = none := curO_none hg hi hz hl
  obtain ⟨rest, p1, p2⟩ := filterMap_at (f := fX β ρ Zs acc E a) (f' := fX β ρ Zs acc (insE E i) a') hN (List.mem_append_right _ hgr) fun j _ hj => fX_same hdsE hnd hg hgd (ht j (Ne.symm hj))
  simp only [fX, hcg, Option.map_none, Option.toList_none, List.nil_append] at p1
  refine p2.trans ?_
  simp only [fX]
  rw [curO_ins hg hi hl, hcg]
  simp only [hc, Option.map_some, Option.toList_some, tlX, memN_of hgr, cond_true, htl]
  exact List.Perm.cons _ (hOX.trans p1).symm
theorem stepD_ok (hT : TabOk P Y.T) (hG0 : GlobOk Y.gl (okN X) X.w) (hX : X.n = n) (hr : X.res = []) (h : Rel X β ρ S0.flat a0 w0) (hnd : ds.Nodup) (hA : AccOk P Y Zs n l0 ds S0 acc) (hdsE : ds = acc.map (·.1)) (hN : (namesZ Zs acc).Nodup) (hZf : ∀ d ∈ rowIds acc, d ∉ keysM Zs) (i : Nat) :
    StepB (OWx β ρ Zs acc) (fun _ => 0) P l0 X (restG X ds a0) (S0.flat.env.map (enD β ρ a0)) [] (memO β ρ S0.flat.mem) ds (acc.map (gotA β ρ)) i := by
  unfold StepB
  split
  · rename_i d fv o hd hf ho
    rw [List.getElem?_map] at hf
    obtain ⟨g, hg, hfv⟩ := Option.map_eq_some_iff.1 hf
    obtain ⟨o', ho', hG⟩ := hA.2 i g hg
    rw [ho] at ho'; injection ho' with ho'; subst ho'
    have hgd : g.1 = d := by rw [← hG.ix]; exact getD_some hd
    subst hgd
    intro E β1 a w dX Ox Q hcl hEi hpre hS hOX hpred hend
    have hlateB : ∀ k, behindB l0 l0.length k i = true → E k = false := fun k hb => by
      cases hE : E k with
      | false => rfl
      | true =>
        have : E i = true := behind_ok hcl l0.length k i hb fun o' ho' e he hb' => hcl k o' hE ho' e he hb'
        rw [hEi] at this; cases this
    have hearly : ∀ {id : Nat}, behT l0 i id (acc.take i) 0 = true → ∀ j g', acc[j]? = some g' → j < i → touches id g'.1 g'.2.2 = true → E j = true := fun hb j g' hj hji ht => by
      have h1 := behT_at hb (k := j) (g := g') (by rw [List.getElem?_take, if_pos hji]; exact hj) ht
      rw [Nat.zero_add] at h1
      exact behind_ok hcl l0.length i j h1 fun o' ho' e he hb' => by rw [ho] at ho'; injection ho' with ho'; subst ho'; exact hpre e he hb'
    have hlate : ∀ {id : Nat}, touches id g.1 g.2.2 = true → ∀ j g', acc[j]? = some g' → i < j → touches id g'.1 g'.2.2 = true → E j = false := fun hti j g' hj hij ht => by
      obtain ⟨oj, _, hGj⟩ := hA.2 j g' hj
      have h1 := behT_at (tb_ok hGj ht) (k := i) (g := g) (by rw [List.getElem?_take, if_pos hij]; exact hg) hti
      rw [Nat.zero_add] at h1
      exact hlateB j h1
    have hsz0 : a.tmps.size = X.n := hS.sz
    have hdin : g.1 ∈ ds := List.mem_of_getElem? hd
    have hwant : Region.wanted o (yielded ⟨l0⟩ a.tmps) = ranG g.2.2 := by
      have hgd := hG.gd
      unfold guardD at hgd
      split at hgd
      · cases hgd
      · rename_i hgt
        injection hgd with hgd
        rw [← hgd]; exact wanted_none (gTmp_none hgt) _
      · rename_i t want hgt
        obtain ⟨hp, hgd⟩ := bvT hgd
        have hiff := wanted_iff (a := a) hgt
        split at hgd
        · rename_i b hlk
          injection hgd with hgd
          obtain ⟨j, hj', hdj, hix, hwr⟩ := acc_idx hnd hA (lookG_mem hlk)
          simp only at hix hdj
          rw [hix] at hp
          obtain ⟨cs, q1, q2⟩ := hpred j _ hp (by rw [List.getElem?_map, hj']; rfl)
          have hlt : t < a.tmps.size := by rw [hsz0]; exact okD_lt (okW_ok (hwr rfl) hX hr).1
          have q2' : cs = [.bool b] := q2
          subst q2'
          have q3 : a.tmps[t]? = some (.bool b) := by
            have : a.tmps.getD t undef = .bool b := q1
            rw [← this]; simp [Array.getD_eq_getD_getElem?, hlt]
          rw [← hgd]
          cases hw : Region.wanted o (yielded ⟨l0⟩ a.tmps) with
          | true =>
            have := hiff.1 hw
            rw [q3] at this
            injection this with this
            injection this with this
            subst this; simp
          | false =>
            cases hbw : (b == want) with
            | false => rfl
            | true =>
              have : b = want := by simpa using hbw
              subst this
              rw [hiff.2 q3] at hw; cases hw
        · cases hgd
        · obtain ⟨hsk, hgd⟩ := bvT hgd
          injection hgd with hgd
          rw [← hgd]
          obtain ⟨v', hm⟩ := isSkipG_mem hsk
          obtain ⟨j, hj', hdj, hix, hwr⟩ := acc_idx hnd hA hm
          simp only at hix hdj
          rw [hix] at hp
          have q1 := hpred j _ hp (by rw [List.getElem?_map, hj']; rfl)
          have q1' : a.tmps.getD t undef = undef := q1
          cases hw : Region.wanted o (yielded ⟨l0⟩ a.tmps) with
          | false => rfl
          | true =>
            have := hiff.1 hw
            rw [Array.getD_eq_getD_getElem?, this] at q1'
            cases q1'
    have hloc : RelW β ρ (okOf X.ok X.w.heap.size β1 [] (Ox ++ memO β ρ S0.flat.mem) w) (locS l0 ds Zs S0 i (acc.take i) o) a w := by
      refine ⟨fun e he => ?_, fun id ob hob => ?_⟩
      · obtain ⟨hcs, hlook⟩ := locE_mem he
        refine ⟨fun _ => ?_, .inl (by rw [hcs]; exact holdsC_nil a)⟩
        rcases hlook with ⟨h1, h2⟩ | ⟨h1, h2, hlt0⟩ | ⟨h2, hlt0⟩
        · obtain ⟨j, hj', hdj, hix, hwr⟩ := acc_idx hnd hA (lookG_mem h1)
          simp only at hix hdj
          rw [hix] at h2
          obtain ⟨cs, q1, q2⟩ := hpred j _ h2 (by rw [List.getElem?_map, hj']; rfl)
          have hlt : e.t < a.tmps.size := by rw [hsz0]; exact okD_lt (okW_ok (hwr rfl) hX hr).1
          refine ⟨cs, ?_, q2⟩
          rw [← q1, rd_lt (okD_small (okW_ok (hwr rfl) hX hr).1)]
          simp [Array.getD_eq_getD_getElem?, hlt]
        · have hD := AllD_mem.1 hS.dat _ (.tail _ (List.mem_map.2 ⟨e, h2, rfl⟩))
          obtain ⟨cs, q1, q2⟩ := hD.1 (by rw [hcs]; exact holdsC_nil a0)
          rw [rd_lt hlt0] at q1
          have hlt : e.t < X.n := lt_of_get h q1
          have := hS.tm _ (restG_mem hlt (notIn_ok h1) a0)
          simp only [den_v] at this
          refine ⟨cs, ?_, q2⟩
          rw [rd_lt hlt0, this, ← q1]
          have hlt' : e.t < a0.tmps.size := by rw [h.sz]; exact hlt
          simp [Array.getD_eq_getD_getElem?, hlt']
        · have hD := AllD_mem.1 hS.dat _ (.tail _ (List.mem_map.2 ⟨e, h2, rfl⟩))
          obtain ⟨cs, q1, q2⟩ := hD.1 (by rw [hcs]; exact holdsC_nil a0)
          refine ⟨cs, ?_, q2⟩
          rw [← q1]
          unfold rd
          rw [hlt0]; rfl
      · obtain ⟨l1, l2, e1, _⟩ := lookM_split hob
        have hmem : (id, ob) ∈ S0.flat.mem ++ visZ l0 ds.length i (acc.take i) Zs := by
          have e1' : S0.flat.mem ++ visZ l0 ds.length i (acc.take i) Zs = l1 ++ (id, ob) :: l2 := e1
          rw [e1']; simp
        rcases List.mem_append.1 hmem with hmem | hmem
        · exact (hS.own _ (List.mem_append_right _ (List.mem_map.2 ⟨_, hmem, rfl⟩))).1
        · obtain ⟨hlt, hbt, hkey, hcur⟩ := visZ_mem hmem
          have hcE : curO E id acc 0 (lookM Zs id) = some ob := by
            rw [curO_now hg hEi (hearly hbt) fun j g' hj hij ht => ?_, hcur]
            obtain ⟨oj, hoj, hGj⟩ := hA.2 j g' hj
            refine hlateB j (lateT_at hlt (by rw [← hA.1]; exact acc_lt hj) hij hoj (mayT_of hGj ht fun hq e => ?_))
            subst e
            exact hZf _ (rowIds_mem.2 ⟨_, _, List.mem_of_getElem? (by rw [hj]), hq⟩) hkey
          have hin : tlX β ρ acc a id ob ∈ Ox := hOX.mem_iff.2 (List.mem_filterMap.2 ⟨id, List.mem_append_left _ hkey, by simp only [fX, hcE, Option.map_some]⟩)
          have := (hS.own _ (List.mem_append_left _ hin)).1
          have htx : tlX β ρ acc a id ob = tlOf β ρ id ob := by
            unfold tlX
            cases hm : memN (rowIds acc) id with
            | false => rfl
            | true => exact absurd hkey (hZf _ (memN_ok' hm))
          rw [htx] at this
          exact this
    have hGd : ∀ p ∈ restG X ds a0, p.1 ≠ g.1 := fun p hp e => (restG_not hp).1 (e ▸ hdin)
    have hput : ∀ v, Sb β1 ⟨X.n, X.ok, X.w, remD ds g.1, a, some (fun _ => 0), X.lent, X.lok⟩ (restG X ds a0) (dX :: S0.flat.env.map (enD β ρ a0)) [] (Ox ++ memO β ρ S0.flat.mem) (a.put (some g.1) v) w := fun v =>
      { sz := by simp [Act.put, hsz0], df := hS.df, fr := fun t ht => (put_other (fun e => remD_ne (e ▸ ht)) _).trans (hS.fr t ht), pn := hS.pn,
        tm := fun p hp => (put_other (hGd p hp) _).trans (hS.tm p hp), bel := hS.bel, dat := hS.dat, obj := hS.obj, own := hS.own, dHH := hS.dHH, dHO := hS.dHO, dOO := hS.dOO }
    obtain ⟨gt, gv0, gq⟩ := g
    simp only at hdin hput
    have hok : isW gq = false → okD X gt = true := fun hq => (okW_ok (hG.wr hq) hX hr).1
    have hdlt : isW gq = false → gt < a.tmps.size := fun hq => by rw [hsz0]; exact okD_lt (hok hq)
    have hpv : isW gq = false → ∀ v, (a.put (some gt) v).tmps.getD gt undef = v := fun hq v => by simp [Act.put, Array.getD_eq_getD_getElem?, hdlt hq]
    have hSG : Sb β1 ⟨X.n, X.ok, X.w, remD ds gt, a, some (fun _ => 0), X.lent, X.lok⟩ (allG X.n a) (dX :: S0.flat.env.map (enD β ρ a0)) [] (Ox ++ memO β ρ S0.flat.mem) a w :=
      { sz := hS.sz, df := hS.df, fr := hS.fr, pn := hS.pn, bel := hS.bel, dat := hS.dat, obj := hS.obj, own := hS.own, dHH := hS.dHH, dHO := hS.dHO, dOO := hS.dOO,
        tm := fun p hp => by
          obtain ⟨t, ht, rfl⟩ := List.mem_map.1 hp
          have hlt : t < a.tmps.size := by rw [hsz0]; exact List.mem_range.1 ht
          simp [den_v, Array.getElem?_eq_getElem hlt, Array.getD_eq_getD_getElem?] }
    have hokd : isW gq = false → okD ⟨X.n, X.ok, X.w, remD ds gt, a, some (fun _ => 0), X.lent, X.lok⟩ gt = true := fun hq => by
      have hok := hok hq
      simp only [okD, Bool.and_eq_true] at hok ⊢
      exact ⟨hok.1, notIn_of remD_ne, hok.2.2⟩
    have hback : ∀ {v : Value} {O' : List TL} {a' : Act} {w' : World}, Sb β1 ⟨X.n, X.ok, X.w, remD ds gt, a, some (fun _ => 0), X.lent, X.lok⟩ (setN (allG X.n a) gt (.v v)) (dX :: S0.flat.env.map (enD β ρ a0)) [] O' a' w' →
        Sb β1 ⟨X.n, X.ok, X.w, remD ds gt, a, some (fun _ => 0), X.lent, X.lok⟩ (restG X ds a0) (dX :: S0.flat.env.map (enD β ρ a0)) [] O' a' w' ∧ a'.tmps.getD gt undef = v := by
      intro v O' a' w' hS'
      refine ⟨Sb.lessG hS' fun p hp => ?_, ?_⟩
      · obtain ⟨r1, r2, r3⟩ := restG_not hp
        have r4 := hS.tm p hp
        refine .tail _ ?_
        have hne := hGd p hp
        have hm : p ∈ allG X.n a := by
          refine List.mem_map.2 ⟨p.1, List.mem_range.2 r2, ?_⟩
          obtain ⟨p1, p2⟩ := p
          simp only at r3 r4 ⊢
          subst r3
          simp only [den_v] at r4
          rw [Array.getD_eq_getD_getElem?, r4]; rfl
        have : ∀ {l : GL}, p ∈ l → p ∈ remN l gt := by
          intro l
          induction l with
          | nil => intro h; cases h
          | cons x l ih =>
            intro h
            obtain ⟨k, y⟩ := x
            simp only [remN]
            cases hb : Nat.beq k gt with
            | true =>
              rcases List.mem_cons.1 h with e | h
              · subst e; exact absurd (Nat.eq_of_beq_eq_true hb) hne
              · exact ih h
            | false =>
              rcases List.mem_cons.1 h with e | h
              · rw [e]; exact .head _
              · exact .tail _ (ih h)
        exact this hm
      · have := hS'.tm _ (.head _)
        simp only [den_v] at this
        simp [Array.getD_eq_getD_getElem?, this]
    cases gq with
    | v =>
      have hw : Region.wanted o (yielded ⟨l0⟩ a.tmps) = true := hwant
      obtain ⟨h1, h2⟩ := hG.fnd
      refine h1 (show GlobOk Y.gl (okN ⟨X.n, X.ok, X.w, remD ds gt, a, some (fun _ => 0), X.lent, X.lok⟩) X.w from hG0) hSG hloc hw (guardS hsz0 hw) (hG.dst rfl) (hokd rfl) fun a' w' cs hS' hcr => ?_
      obtain ⟨q1, q2⟩ := hback hS'
      refine hend β1 a' w' Ox q1 ?_ ?_
      · rw [← hfv]
        exact ⟨cs, q2, hcr⟩
      · intro hgd
        show Ox.Perm (OWx β ρ Zs acc (insE E i) _)
        rw [OW_same hdsE hnd hg hgd (fun _ => rfl)]
        exact hOX
    | u =>
      have hw : Region.wanted o (yielded ⟨l0⟩ a.tmps) = false := hwant
      unfold wpList
      rw [if_neg (by rw [hw]; simp)]
      show Q .normal (a.put o.dst undef) w
      rw [hG.dst rfl]
      refine hend β1 _ w Ox (hput _) ?_ ?_
      · rw [← hfv]
        exact hpv rfl _
      · intro hgd
        show Ox.Perm (OWx β ρ Zs acc (insE E i) _)
        rw [OW_same hdsE hnd hg hgd (fun _ => rfl)]
        exact hOX
    | c =>
      have hw : Region.wanted o (yielded ⟨l0⟩ a.tmps) = true := hwant
      obtain ⟨t, rfl, c1, c2, c3⟩ := hG.fnd
      obtain ⟨v', u, e, zs, c, hm⟩ := isRowG_mem c1
      obtain ⟨j, hj, hdj, hix, _⟩ := acc_idx hnd hA hm
      simp only at hix hdj
      rw [hix] at c2
      have hrun : (execOp a.eval o).run P w = .ok (.value (a.eval (.tmp t))) w := by
        unfold execOp
        rcases c3 with c3 | c3 <;> rw [c3] <;> rfl
      refine wpList_go hw (wp_value hrun ?_)
      rw [hG.dst rfl]
      have hne : t ≠ gt := fun e => by
        subst e
        have h2 := (List.getElem?_eq_some_iff.1 hd)
        have h3 := hnd.idxOf_getElem i h2.1
        rw [h2.2] at h3
        simp only at h3
        rw [hix] at h3
        subst h3
        rw [hj] at hg
        injection hg with hg
        injection hg with _ hg
        injection hg with _ hg
        cases hg
      refine hend β1 _ w Ox (hput _) ?_ ?_
      · rw [← hfv]
        show (a.put (some gt) _).tmps.getD gt undef = (a.put (some gt) _).tmps.getD t undef
        rw [hpv rfl, Array.getD_eq_getD_getElem?, put_other hne]
        simp [Act.eval, Array.getD_eq_getD_getElem?]
      · intro hgd
        show Ox.Perm (OWx β ρ Zs acc (insE E i) _)
        rw [OW_same hdsE hnd hg hgd (fun _ => rfl)]
        exact hOX
    | r u e zs c =>
      have hw : Region.wanted o (yielded ⟨l0⟩ a.tmps) = true := hwant
      have hgv := guardS (ops := ⟨l0⟩) hsz0 hw
      obtain ⟨h1, hb, hmade⟩ := hG.fnd
      rcases hmade with ⟨t, lo, co, te, ee, lv, cv, k1, k2, nl, nc, za, z, hop, hte, htd, he, hl, hc, hli, hci, hza, hz, hsz, hzl, hby, hmk, hqn⟩ | ⟨t, s, x, te, ee, xv, ys, hop, hte, htd, he, hs, hx, hy, hpos, hby, hzl, hsz, happ⟩
      rotate_left
      · obtain ⟨c1, hse, hs2⟩ := hloc.ev (holdsC_nil a) hs
        have hs2' : c1 = _ := hs2
        subst hs2'
        have hse' : a.eval s = .slice none 0 0 := hse
        have hag : (Ty.sl u).agg = xv.isAgg := by
          cases xv with
          | d t' y' => obtain ⟨rfl, _⟩ := Ty.cast_ok (by simpa only [asD] using hy); rfl
          | ag l => simp [asD] at hy
          | _ => rfl
        have hiv := hloc.asD (holdsC_nil a) hx hy hag
        obtain ⟨A2, c2, hev, hyv⟩ := slForm (r := rt u) hiv
        have hnil := Sb.addNilM hSG e (rt u)
        rw [op_eta o, hG.dst rfl, hop] at hgv ⊢
        refine step_mappend hT hnil [] (Ox ++ memO β ρ S0.flat.mem) (r := rt u) hgv (hokd rfl) hte htd he (by rw [rt_size]; exact Nat.eq_of_beq_eq_true hsz) hzl hpos hby rfl (by rw [gvW hloc hsz0 hs, hse']) (by rw [gvW hloc hsz0 hx, hev]) ((srcS_of hyv).weak ?_) happ fun A' c' a' w' hS' => ?_
        · rintro b o ⟨o1, o2, o3, o4⟩
          refine ⟨o1, o2, o3, fun t ht hc => ?_⟩
          rcases List.mem_cons.1 ht with rfl | ht
          · cases hc
          · exact o4 t ht hc
        · obtain ⟨q1, q2⟩ := hback hS'
          refine hend β1 a' w' (ml (.slice A' zs.length c') e (rt u) zs :: Ox) q1 ?_ ?_
          · rw [← hfv]
            exact ⟨A', c', q2⟩
          · intro hgd
            refine (OW_born (ob := .row e u zs) hdsE hN hnd hg rfl hEi (okZ_ok hb) (fun id hi => by simp [touches, beqN hi]) (hlate (Nat.beq_refl _)) rfl hOX hgd (by rw [show curG gt gt (Gk.r u e zs c) none = some (.row e u zs) by simp [curG, Nat.beq_refl]]) ?_).symm
            simp only [tlAt, q2]
      rw [op_eta o, hG.dst rfl, hop] at hgv ⊢
      refine step_make hT hSG (r := rt u) hgv (hokd rfl) hte htd he (by rw [rt_size]; exact Nat.eq_of_beq_eq_true hsz) hzl hby (fun ok w => asD_ok (β := β) (ρ := ρ) (M := []) (by simp [lookM]) hz (zeroAV_ok hza))
        (by rw [gvW hloc hsz0 hl, hloc.int (holdsC_nil a) hl hli]) (by rw [gvW hloc hsz0 hc, hloc.int (holdsC_nil a) hc hci]) hmk fun b a' w' hS' => ?_
      obtain ⟨q1, q2⟩ := hback hS'
      refine hend β1 a' w' (ml (.slice (some ⟨b, 0, none⟩) zs.length nc.toNat) e (rt u) zs :: Ox) q1 ?_ ?_
      · rw [← hfv]
        exact ⟨_, _, q2⟩
      · intro hgd
        refine (OW_born (ob := .row e u zs) hdsE hN hnd hg rfl hEi (okZ_ok hb) (fun id hi => by simp [touches, beqN hi]) (hlate (Nat.beq_refl _)) rfl hOX hgd (by rw [show curG gt gt (Gk.r u e zs c) none = some (.row e u zs) by simp [curG, Nat.beq_refl]]) ?_).symm
        simp only [tlAt, q2]
    | o t c =>
      have hw : Region.wanted o (yielded ⟨l0⟩ a.tmps) = true := hwant
      obtain ⟨h1, hb, e, ty, hop, he, hc, hids⟩ := hG.fnd
      have hrun : (execOp a.eval o).run P w = .ok (.value (.pointer (some ⟨w.heap.size, 0, none⟩))) (w.alloc (.cells (cellsL e.z).toArray t)) := by
        unfold execOp
        simp only [hop]
        simp [Instr.alloc, run_zeroValue hT w he, newVar, newRow, cellsL_eq]
      refine wpList_go hw (wp_value hrun ?_)
      rw [hG.dst rfl]
      have hbel : Below w.heap.size w (w.alloc (.cells (cellsL e.z).toArray t)) := (Below.refl _ _).alloc (Nat.le_refl _) _
      refine hend β1 _ _ (tlVar β ρ w.heap.size t c :: Ox) ((hput _).allocTL hbel (fun g hg => ?_) ⟨cellsL e.z, heap_alloc_new w _, zeroAV_ok hc⟩) ?_ ?_
      · have hg' : g = w.heap.size := hg
        omega
      · rw [← hfv]
        exact ⟨w.heap.size, hpv rfl _⟩
      · intro hgd
        refine (OW_born (ob := .var t c) hdsE hN hnd hg rfl hEi (okZ_ok hb) (fun id hi => by simp [touches, beqN hi]) (hlate (Nat.beq_refl _)) rfl hOX hgd (by rw [show curG gt gt (Gk.o t c) none = some (.var t c) by simp [curG, Nat.beq_refl]]) ?_).symm
        simp only [tlAt, hpv rfl, blkV]
    | b ns =>
      have hw : Region.wanted o (yielded ⟨l0⟩ a.tmps) = true := hwant
      obtain ⟨h1, hns, _⟩ := hG.fnd
      have hrows : ∀ t ∈ ns, t ∈ ds ∧ t < X.n ∧ t < 100000 ∧ t ≠ gt ∧ ∃ A m c, a.tmps.getD t undef = .slice A m c := fun t ht => by
        obtain ⟨c1, c2⟩ := hns t ht
        obtain ⟨v', u, e, zs, c, hm⟩ := isRowG_mem c1
        obtain ⟨j, hj, hdj, hix, hwr⟩ := acc_idx hnd hA hm
        simp only at hix hdj
        rw [hix] at c2
        obtain ⟨A, c', q1⟩ := hpred j _ c2 (by rw [List.getElem?_map, hj]; rfl)
        have hok' := (okW_ok (hwr rfl) hX hr).1
        refine ⟨List.mem_of_getElem? hdj, okD_lt hok', ?_, fun e => ?_, A, _, c', q1⟩
        · have := okD_small hok'
          exact Nat.lt_of_succ_le (Nat.le_of_ble_eq_true this)
        · subst e
          have h2 := (List.getElem?_eq_some_iff.1 hd)
          have h3 := hnd.idxOf_getElem i h2.1
          rw [h2.2] at h3
          simp only at h3
          rw [hix] at h3
          subst h3
          rw [hj] at hg
          injection hg with hg
          injection hg with _ hg
          injection hg with _ hg
          cases hg
      have hlocB : RelW (updBk a ns β) (updV a ns ρ) (okOf X.ok X.w.heap.size β1 [] (Ox ++ memO β ρ S0.flat.mem) w) (locB ds ns (locS l0 ds Zs S0 i (acc.take i) o)) a w := by
        refine ⟨fun e he => ?_, fun id ob hob => by cases hob⟩
        rcases List.mem_append.1 he with he | he
        · obtain ⟨t, ht, rfl⟩ := List.mem_map.1 he
          obtain ⟨r1, r2, r3, _, A, m, c, r4⟩ := hrows t ht
          refine ⟨fun _ => ⟨[a.tmps.getD t undef], ?_, ?_⟩, .inl (holdsC_nil a)⟩
          · have hlt : t < a.tmps.size := by rw [hsz0]; exact r2
            show rd a t = _
            unfold rd
            rw [show Nat.blt t 100000 = true from Nat.ble_eq_true_of_le r3]
            simp [Array.getD_eq_getD_getElem?, hlt]
            rfl
          · exact ⟨⟨_, rfl, .inl (by rw [(updP_at (β := β) ht).2])⟩, by rw [(updP_at (β := β) ht).2]; exact ⟨A, m, c, r4⟩⟩
        · have hfil : ∀ {l : List En}, e ∈ filE ds l → e ∈ l ∧ noneOf ds e.av = true := by
            intro l
            induction l with
            | nil => intro h; cases h
            | cons x l ih =>
              intro h
              simp only [filE] at h
              cases hb : noneOf ds x.av with
              | true =>
                rw [hb] at h
                rcases List.mem_cons.1 h with rfl | h
                · exact ⟨.head _, hb⟩
                · exact ⟨.tail _ (ih h).1, (ih h).2⟩
              | false => rw [hb] at h; exact ⟨.tail _ (ih h).1, (ih h).2⟩
          obtain ⟨hm, hn⟩ := hfil he
          obtain ⟨g1, g2⟩ := hloc.1 e hm
          refine ⟨fun hc => ?_, g2⟩
          obtain ⟨cs, q1, q2⟩ := g1 hc
          unfold noneOf at hn
          rw [List.all_eq_true] at hn
          refine ⟨cs, q1, updP_ind (C := fun β' ρ' => cr β' ρ' _ w false e.av cs) q2 fun d hd β' ρ' h' => cr_noId (offBy_upd d β' ρ' _ _) (hn d (hrows d hd).1) h'⟩
      refine h1 (show GlobOk Y.gl (okN ⟨X.n, X.ok, X.w, remD ds gt, a, some (fun _ => 0), X.lent, X.lok⟩) X.w from hG0) hSG hlocB hw (guardS hsz0 hw) (hG.dst rfl) (hokd rfl) fun a' w' cs hS' hcr => ?_
      obtain ⟨q1, q2⟩ := hback hS'
      have hcg := updP_congr (a := a) (a' := a') (l := ns) (β := β) (ρ := ρ) fun t ht => by
        obtain ⟨r1, r2, r3, r5, A, m, c, r4⟩ := hrows t ht
        have hm : (t, Gd.AV.v (a.tmps.getD t undef)) ∈ setN (allG X.n a) gt (.v (gv0.val cs)) := by
          refine .tail _ ?_
          have h0 : (t, Gd.AV.v (a.tmps.getD t undef)) ∈ allG X.n a := List.mem_map.2 ⟨t, List.mem_range.2 r2, rfl⟩
          revert h0
          generalize allG X.n a = l
          intro h0
          induction l with
          | nil => cases h0
          | cons x l ih =>
            obtain ⟨k, y⟩ := x
            simp only [remN]
            cases hb : Nat.beq k gt with
            | true =>
              rcases List.mem_cons.1 h0 with e | h0
              · injection e with e _; exact absurd (e.trans (Nat.eq_of_beq_eq_true hb)) r5
              · exact ih h0
            | false =>
              rcases List.mem_cons.1 h0 with e | h0
              · rw [e]; exact .head _
              · exact .tail _ (ih h0)
        have := hS'.tm _ hm
        simp only [den_v] at this
        rw [Array.getD_eq_getD_getElem?, this]; rfl
      refine hend β1 a' w' Ox q1 ?_ ?_
      · rw [← hfv]
        exact ⟨cs, q2, by rw [hcg.1, hcg.2]; exact hcr⟩
      · intro hgd
        show Ox.Perm (OWx β ρ Zs acc (insE E i) _)
        rw [OW_same hdsE hnd hg hgd (fun _ => rfl)]
        exact hOX
    | t u e zs h0 =>
      have hw : Region.wanted o (yielded ⟨l0⟩ a.tmps) = true := hwant
      obtain ⟨h1, hb, t, s, x, te, ee, xv, xs, ys, hop, hC, hte, htd, he, hs, hx, hy, hpos, hby, hzl, hsz, hyn, happ⟩ := hG.fnd
      obtain ⟨hsm, hbt, hcu⟩ := curB_ok hC
      have hkey := isSomeN_key hsm
      have hgr : gt ∈ rowIds acc := rowIds_mem.2 ⟨_, _, List.mem_of_getElem? hg, rfl⟩
      have hne : h0 ≠ gt := fun e => hZf gt hgr (e ▸ hkey)
      have hth : touches h0 gt (Gk.t u e zs h0) = true := by simp [touches, Nat.beq_refl]
      have htg : touches gt gt (Gk.t u e zs h0) = true := by simp [touches, Nat.beq_refl]
      have hch : curO E h0 acc 0 (lookM Zs h0) = some (.tail e u xs) := by rw [curO_now hg hEi (hearly hbt) (hlate hth), hcu]
      have hcg : curO E gt acc 0 (lookM Zs gt) = none := curO_none hg hEi (okZ_ok hb) (hlate htg)
      have hth0 : tlX β ρ acc a h0 (.tail e u xs) = tlOf β ρ h0 (.tail e u xs) := by
        unfold tlX
        cases hm : memN (rowIds acc) h0 with
        | false => rfl
        | true => exact absurd hkey (hZf _ (memN_ok' hm))
      obtain ⟨Oz, hOz0, hOz1⟩ := filterMap_two (f := fX β ρ Zs acc E a) hN (x := h0) (y := gt) (List.mem_append_left _ hkey) (List.mem_append_right _ hgr) hne (by simp only [fX, hcg, Option.map_none])
      have hOz : Ox.Perm (tlOf β ρ h0 (.tail e u xs) :: Oz) := by
        refine hOX.trans (hOz0.trans ?_)
        simp only [fX, hch, Option.map_some, hth0]
        exact List.Perm.refl _
      have hfinT : ∀ {a' : Act} {A' : Option Addr} {c' : Nat}, a'.tmps.getD gt undef = .slice A' zs.length c' → (∀ (j e : Nat), j ≠ i → ds[j]? = some e → a'.tmps.getD e undef = a.tmps.getD e undef) → (tlTail (.slice A' zs.length c') e (rt u) zs :: Oz).Perm (OWx β ρ Zs acc (insE E i) a') := fun {a' A' c'} q2 hgd => by
        have h1 := hOz1 (fX β ρ Zs acc (insE E i) a') (by
          simp only [fX]
          rw [curO_ins hg hEi (hlate hth), hch]
          simp [curG, beqN (Ne.symm hne), Nat.beq_refl]) fun j hj hjh hjg => fX_same hdsE hnd hg hgd (by simp [touches, beqN (Ne.symm hjg), beqN (Ne.symm hjh)])
        refine (h1.trans ?_).symm
        simp only [fX]
        rw [curO_ins hg hEi (hlate htg), hcg]
        simp only [curG, Nat.beq_refl, cond_true, Option.map_some, tlX, memN_of hgr, tlAt, q2]
        exact List.Perm.refl _
      have hpm : (Ox ++ memO β ρ S0.flat.mem).Perm (tlOf β ρ h0 (.tail e u xs) :: (Oz ++ memO β ρ S0.flat.mem)) := hOz.append_right _
      have hSP := hSG.perm hpm
      have hgv := guardS (ops := ⟨l0⟩) hsz0 hw
      obtain ⟨c1, hse, ⟨v0, hs2, hz0⟩, A, m, c, hρ⟩ := hloc.ev (holdsC_nil a) hs
      subst hs2
      have hag : (Ty.sl u).agg = xv.isAgg := by
        cases xv with
        | d t' y' => obtain ⟨rfl, _⟩ := Ty.cast_ok (by simpa only [asD] using hy); rfl
        | ag l => simp [asD] at hy
        | _ => rfl
      have hiv := hloc.asD (holdsC_nil a) hx hy hag
      obtain ⟨A2, c2, hev, hyv⟩ := slForm (r := rt u) hiv
      have htl : tlOf β ρ h0 (.tail e u xs) = tlTail (.slice A m c) e (rt u) xs := by simp only [tlOf, hρ]
      rw [htl] at hSP
      have hokp : ∀ b o, okOf X.ok X.w.heap.size β1 [] (Ox ++ memO β ρ S0.flat.mem) w b o → okOf X.ok X.w.heap.size β1 [] (tlTail (.slice A m c) e (rt u) xs :: (Oz ++ memO β ρ S0.flat.mem)) w b o := fun b o ⟨q1, q2, q3, q4⟩ => ⟨q1, q2, q3, fun u hu => q4 u (by rw [← htl] at hu; exact hpm.mem_iff.2 hu)⟩
      rw [op_eta o, hG.dst rfl, hop] at hgv ⊢
      rcases hz0 with hz0 | ⟨h00, A0, hz0⟩
      case inr =>
        have hse' : a.eval s = .slice A0 0 0 := by rw [hse, ← hz0]; rfl
        have hxs : xs = [] := by
          have := (hSP.own _ (.head _)).1.1
          rw [← hρ, h00] at this
          obtain ⟨A', c', q1, _⟩ := slForm this
          injection q1 with _ q2
          exact List.length_eq_zero_iff.1 q2.symm
        subst hxs
        have hSD := Sb.remake (O' := Oz ++ memO β ρ S0.flat.mem) hSP (fun t' ht' => .inl ⟨t', .tail _ ht', fun _ hg => hg, fun _ _ hc => hc, (hSP.own t' (.tail _ ht')).1⟩) (List.pairwise_cons.1 hSP.dOO).2
        refine step_zappend (a := a) hT hSD (r := rt u) hgv (hokd rfl) hte htd he (by rw [rt_size]; exact Nat.eq_of_beq_eq_true hsz) hzl hpos hby (by rw [gvW hloc hsz0 hs, hse']) (by rw [gvW hloc hsz0 hx, hev]) ?_ happ (fun hz _ _ => ?_) fun A' c' a' w' hS' => ?_
        · refine (srcS_of hyv).weak fun b o hk => ?_
          obtain ⟨q1, q2, q3, q4⟩ := hokp b o hk
          exact ⟨q1, q2, q3, fun u hu => q4 u (.tail _ hu)⟩
        · have := (app_ok happ).2
          rw [hz] at this
          simp only [List.nil_append] at this
          rw [← this] at hyn
          cases hyn
        · have hS2 := Sb.toTail hS' (by rw [rt_size, ← Nat.eq_of_beq_eq_true hsz]; exact hpos)
          obtain ⟨q1, q2⟩ := hback hS2
          refine hend β1 a' w' (tlTail (.slice A' zs.length c') e (rt u) zs :: Oz) q1 ?_ ?_
          · rw [← hfv]
            exact ⟨A', c', q2⟩
          · exact fun hgd => hfinT q2 hgd
      have hse' : a.eval s = .slice A m c := by rw [hse, ← hρ, ← hz0]; rfl
      refine step_appT hT hSP hgv (hokd rfl) hte htd he hsz hpos hby hzl (by rw [gvW hloc hsz0 hs, hse']) (by rw [gvW hloc hsz0 hx, hev]) ?_ happ fun A' c' a' w' hS' => ?_
      · exact hyv.weak hokp
      · obtain ⟨q1, q2⟩ := hback hS'
        refine hend β1 a' w' (tlTail (.slice A' zs.length c') e (rt u) zs :: Oz) q1 ?_ ?_
        · rw [← hfv]
          exact ⟨A', c', q2⟩
        · exact fun hgd => hfinT q2 hgd
    | w id ob =>
      have hw : Region.wanted o (yielded ⟨l0⟩ a.tmps) = true := hwant
      obtain ⟨hdn, _⟩ := hG.ndst rfl
      obtain ⟨t, p, x, e, v, hop, he, hx, hsz, hval, hin, hcase⟩ := hG.fnd
      have hti : touches id gt (Gk.w id ob) = true := Nat.beq_refl _
      obtain ⟨dv, h3, h4⟩ := hloc.ev (holdsC_nil a) hx
      have hdl := cr_len h4
      have hes := Nat.eq_of_beq_eq_true hsz
      have hcells : cellsL (v.val dv) = dv := cellsL_val' h4 hval hin
      have hcc : (v.val dv).cells.toList = dv := by rw [← cellsL_eq, hcells]
      have hcsz : (v.val dv).cells.size = e.size := by rw [← Array.length_toList, hcc]; omega
      have hsame : ∀ j ∈ namesZ Zs acc, j ≠ id → fX β ρ Zs acc (insE E i) a j = fX β ρ Zs acc E a j := fun j _ hj => fX_same hdsE hnd hg (fun _ _ _ _ => rfl) (by simp [touches, beqN (Ne.symm hj)])
      have hput0 : a.put o.dst undef = a := by rw [hdn]; rfl
      rcases hcase with ⟨path, tid, c, c', hcu, hset, hno, rfl, htgt⟩ | ⟨j, sz, ps, et, u, xs, y, c, z, hpe, hcu, hy, hset, hz, hsu, hpos, hsm, rfl⟩
      · obtain ⟨hbt, hcu⟩ := curA_ok hcu
        have hcE : curO E id acc 0 (lookM Zs id) = some (.var tid c) := by rw [curO_now hg hEi (hearly hbt) (hlate hti), hcu]
        have hcI : curO (insE E i) id acc 0 (lookM Zs id) = some (.var tid c') := by
          rw [curO_ins hg hEi (hlate hti)]
          simp only [curG, Nat.beq_refl, cond_true]
        obtain ⟨hidn, gb, hpa, htl⟩ : id ∈ namesZ Zs acc ∧ ∃ gb, a.eval p = .pointer (some ⟨gb, offP path, none⟩) ∧ ∀ c0, tlX β ρ acc a id (.var tid c0) = tlVar β ρ gb tid c0 := by
          rcases htgt with ⟨hpe, hsm⟩ | ⟨rfl, rfl, hvar, hpr⟩
          · have hkey := isSomeN_key hsm
            obtain ⟨c1, h1, h2⟩ := hloc.ev (holdsC_nil a) hpe
            have h2' : c1 = _ := h2
            subst h2'
            refine ⟨List.mem_append_left _ hkey, β id, h1, fun c0 => ?_⟩
            unfold tlX
            cases hm : memN (rowIds acc) id with
            | false => rfl
            | true => exact absurd hkey (hZf _ (memN_ok' hm))
          · obtain ⟨v', ty, c0, hm⟩ := isVarG_mem hvar
            obtain ⟨j, hj, hdj, hix, hwr⟩ := acc_idx hnd hA hm
            simp only at hix hdj
            rw [hix] at hpr
            obtain ⟨b, q1⟩ := hpred j _ hpr (by rw [List.getElem?_map, hj]; rfl)
            have hgr : id ∈ rowIds acc := rowIds_mem.2 ⟨_, _, List.mem_of_getElem? hj, rfl⟩
            have q1' : a.tmps.getD id undef = .pointer (some ⟨b, 0, none⟩) := q1
            refine ⟨List.mem_append_right _ hgr, b, ?_, fun c0 => ?_⟩
            · show a.tmps.getD id undef = _
              rw [q1']; rfl
            · unfold tlX
              rw [memN_of hgr]
              simp only [cond_true, tlAt, q1', blkV]
        obtain ⟨Oz, p1, p2⟩ := filterMap_at (f := fX β ρ Zs acc E a) (f' := fX β ρ Zs acc (insE E i) a) hN hidn hsame
        simp only [fX, hcE, Option.map_some, Option.toList_some, htl] at p1
        have p2' : (OWx β ρ Zs acc (insE E i) a).Perm (tlVar β ρ gb tid c' :: Oz) := by
          refine p2.trans ?_
          simp only [fX, hcI, Option.map_some, Option.toList_some, htl]
          exact List.Perm.refl _
        have hpm : (Ox ++ memO β ρ S0.flat.mem).Perm (tlVar β ρ gb tid c :: (Oz ++ memO β ρ S0.flat.mem)) := (hOX.trans p1).append_right _
        have hSP := hS.perm hpm
        obtain ⟨cs, hh, hc⟩ := (hSP.own _ (.head _)).1
        have hokp : ∀ b o, okOf X.ok X.w.heap.size β1 [] (Ox ++ memO β ρ S0.flat.mem) w b o → okOf X.ok X.w.heap.size β1 [] (tlVar β ρ gb tid c :: (Oz ++ memO β ρ S0.flat.mem)) w b o := fun b o ⟨q1, q2, q3, q4⟩ => ⟨q1, q2, q3, fun u hu => q4 u (hpm.mem_iff.2 hu)⟩
        have h4' := cr_weak h4 hokp
        obtain ⟨h5, h6⟩ := setP_ok (β := β) (ρ := ρ) h4' hset hc
        have hst := run_storeCells_at P gb (offP path) tid dv 0 cs.toArray w hh (by simp; omega) (cr_flat h4 hin)
        simp only [Nat.add_zero, List.toList_toArray] at hst
        have hrun : (execOp a.eval o).run P w = .ok .skip (w.setRow gb (cs.take (offP path) ++ dv ++ cs.drop (offP path + dv.length)).toArray) := by
          unfold execOp
          rw [hop]
          simp only [hpa, h3]
          simp [Instr.storeAt, Instr.sureAddr, storeVar, run_sizeOf' hT w he, hcsz, hcc, hst]
        refine wpList_go hw ?_
        unfold Oper.wp
        rw [hrun]
        show wpList P ⟨l0⟩ Q [] (a.put o.dst undef) _
        rw [hput0]
        have hSU := hSP.upd (O1 := []) (O2 := Oz ++ memO β ρ S0.flat.mem) (t := tlVar β ρ gb tid c) rfl (t' := tlVar β ρ gb tid c') (w' := w.setRow gb (cs.take (offP path) ++ dv ++ cs.drop (offP path + dv.length)).toArray) rfl rfl rfl (by simp) (fun b hb hn => setRow_other _ _ _ _ fun e => hn e) (fun b o hb => hb) (fun g hg => .inl hg) (fun hevo hok => by
          refine ⟨_, setRow_heap _ _ _ _ _ _ hh, ?_⟩
          exact cr_weak (cr_evo h5 hevo) hok)
        refine hend β1 a _ (tlVar β ρ gb tid c' :: Oz) hSU ?_ fun _ => p2'.symm
        rw [← hfv]; trivial
      · obtain ⟨hbt, hcu⟩ := curA_ok hcu
        have hkey := isSomeN_key hsm
        have hcE : curO E id acc 0 (lookM Zs id) = some (.row et u xs) := by rw [curO_now hg hEi (hearly hbt) (hlate hti), hcu]
        have hcI : curO (insE E i) id acc 0 (lookM Zs id) = some (.row et u (xs.set j.toNat z)) := by
          rw [curO_ins hg hEi (hlate hti)]
          simp only [curG, Nat.beq_refl, cond_true]
        have htl : ∀ zs : List u.De, tlX β ρ acc a id (.row et u zs) = ml (ρ id) et (rt u) zs := fun zs => by
          unfold tlX
          cases hm : memN (rowIds acc) id with
          | false => rfl
          | true => exact absurd hkey (hZf _ (memN_ok' hm))
        obtain ⟨Oz, p1, p2⟩ := filterMap_at (f := fX β ρ Zs acc E a) (f' := fX β ρ Zs acc (insE E i) a) hN (List.mem_append_left _ hkey) hsame
        simp only [fX, hcE, Option.map_some, Option.toList_some, htl] at p1
        have p2' : (OWx β ρ Zs acc (insE E i) a).Perm (ml (ρ id) et (rt u) (xs.set j.toNat z) :: Oz) := by
          refine p2.trans ?_
          simp only [fX, hcI, Option.map_some, Option.toList_some, htl]
          exact List.Perm.refl _
        have hpm : (Ox ++ memO β ρ S0.flat.mem).Perm (ml (ρ id) et (rt u) xs :: (Oz ++ memO β ρ S0.flat.mem)) := (hOX.trans p1).append_right _
        have hSP := hS.perm hpm
        have hokp : ∀ b o, okOf X.ok X.w.heap.size β1 [] (Ox ++ memO β ρ S0.flat.mem) w b o → okOf X.ok X.w.heap.size β1 [] (ml (ρ id) et (rt u) xs :: (Oz ++ memO β ρ S0.flat.mem)) w b o := fun b o ⟨q1, q2, q3, q4⟩ => ⟨q1, q2, q3, fun u hu => q4 u (hpm.mem_iff.2 hu)⟩
        obtain ⟨c1, h1, g0, hg0, h2'⟩ := hloc.ev (holdsC_nil a) hpe
        subst h2'
        have hszu := Nat.eq_of_beq_eq_true hsu
        subst hszu
        have h4' := cr_weak h4 hokp
        obtain ⟨hl0, cs0, hown0, hr0⟩ := (hSP.own _ (.head _)).1
        obtain ⟨g, c0, hv⟩ : ∃ g c0, ρ id = .slice (some ⟨g, 0, none⟩) xs.length c0 := by
          rcases hown0.2 with ⟨hv, h0⟩ | ⟨g, cap, cur, fz, hv, _⟩
          · rw [hv] at hg0; cases hg0
          · exact ⟨g, cap, by rw [hv, hl0]⟩
        have hgg : g0 = g := by rw [hv] at hg0; simp [Value.ownBlock] at hg0; omega
        subst hgg
        have hoff : offP ps + dv.length ≤ u.size := by
          have hrep := repA_at hr0 (idx_ok hy).2
          obtain ⟨_, h6⟩ := setP_ok (β := β) (ρ := ρ) h4' hset (show cr β ρ _ w false (.d u y) _ from hrep)
          have := (rt u).len hrep
          have h7 := rt_size u
          omega
        have hmm : ∀ id' ob', lookM (locS l0 ds Zs S0 i (acc.take i) o).mem id' = some ob' → (tlOf β ρ id' ob').p (okOf X.ok X.w.heap.size β1 [] (ml (ρ id) et (rt u) xs :: (Oz ++ memO β ρ S0.flat.mem)) w) w := fun id' ob' ho' => (tlOf β ρ id' ob').weak (hloc.2 id' ob' ho') hokp
        rw [hv] at hSP
        obtain ⟨cur, fz, ⟨hh, hfz⟩, hlen, hSU⟩ := Sb.mset hSP [] (Oz ++ memO β ρ S0.flat.mem) rfl hy (by rw [rt_size]; exact Nat.le_of_ble_eq_true hpos) (off := offP ps) (ds := dv) (z := z) (by rw [rt_size]; exact hoff) (cr_flat h4 hin) (fun es hes => by
          rw [← hv] at hes ⊢
          obtain ⟨h5, _⟩ := setP_ok (β := β) (ρ := ρ) h4' hset (show cr β ρ _ w false (.d u y) es from hes)
          exact asD_ok hmm hz h5)
        rw [rt_size] at hSU hlen
        have hst := run_storeCells_atS P g0 (j.toNat * u.size + offP ps) et fz dv 0 cur w hh hfz (by omega) (cr_flat h4 hin)
        simp only [Nat.add_zero] at hst
        have hrun : (execOp a.eval o).run P w = .ok .skip (w.setRow g0 (cur.toList.take (j.toNat * u.size + offP ps) ++ dv ++ cur.toList.drop (j.toNat * u.size + offP ps + dv.length)).toArray) := by
          have h1' : a.eval p = .pointer (some ⟨g0, j.toNat * u.size + offP ps, none⟩) := h1
          unfold execOp
          rw [hop]
          simp only [h1', h3]
          simp [Instr.storeAt, Instr.sureAddr, storeVar, run_sizeOf' hT w he, hcsz, hcc, hst]
        refine wpList_go hw ?_
        unfold Oper.wp
        rw [hrun]
        show wpList P ⟨l0⟩ Q [] (a.put o.dst undef) _
        rw [hput0]
        refine hend β1 a _ (ml (ρ id) et (rt u) (xs.set j.toNat z) :: Oz) (by rw [hv]; exact hSU) ?_ fun _ => p2'.symm
        rw [← hfv]; trivial
  · trivial
end
end
end Gx

/- Behind an open region. -/
namespace Gx
open Go Go.RowKit Gd
set_option linter.unusedVariables false
set_option linter.unusedSimpArgs false
section
variable {P : Program} {Y : TX} {Zs : List (Nat × Ob)} {n : Nat} {l0 : List Oper} {ds : List Nat} {S0 : XS} {R : Type} {r : R}
section
variable {X : Cx} {β : Nat → Nat} {ρ : Nat → Value} {a0 : Act} {w0 : World} {acc : Got}
theorem simT_trans {t1 t2 t3 : TL} (h : simT t1 t2) (k : simT t2 t3) : simT t1 t3 :=
  ⟨fun g => (k.1 g).trans (h.1 g), fun b o => (k.2.1 b o).trans (h.2.1 b o), fun ok w hp => k.2.2 ok w (h.2.2 ok w hp)⟩
theorem SimL_trans : ∀ {l1 l2 l3 : List TL}, SimL l1 l2 → SimL l2 l3 → SimL l1 l3
  | _, _, _, .nil, .nil => .nil
  | _, _, _, .cons h r, .cons k q => .cons (simT_trans h k) (SimL_trans r q)
def Qo (ds : List Nat) : Ob → Prop
  | .row _ _ _ => True
  | .tail _ _ _ => True
  | .var _ c => noneOf ds c = true
  | _ => False
theorem curO_src {E : Nat → Bool} {id : Nat} {ob : Ob} : ∀ {l : Got} {j : Nat} {c : Option Ob}, curO E id l j c = some ob → c = some ob ∨ ∃ (k : Nat) (g : Nat × AV × Gk), l[k]? = some g ∧ touches id g.1 g.2.2 = true ∧ ∃ c', curG id g.1 g.2.2 c' = some ob
  | [], j, c, h => .inl h
  | (d, v, q) :: l, j, c, h => by
    simp only [curO] at h
    rcases curO_src h with h1 | ⟨k, g, h1, h2, h3⟩
    · cases ht : touches id d q with
      | false =>
        rw [curG_no ht] at h1
        refine .inl ?_
        cases hE : E j <;> rw [hE] at h1 <;> exact h1
      | true =>
        cases hE : E j with
        | false => rw [hE] at h1; exact .inl h1
        | true => rw [hE] at h1; exact .inr ⟨0, (d, v, q), rfl, ht, c, h1⟩
    · exact .inr ⟨k + 1, g, by simpa using h1, h2, h3⟩
theorem cur_Q (hA : AccOk P Y Zs n l0 ds S0 acc) {id : Nat} {ob : Ob} {E : Nat → Bool} (h : curO E id acc 0 (lookM Zs id) = some ob) : lookM Zs id = some ob ∨ Qo ds ob := by
  rcases curO_src h with h | ⟨k, g, h1, h2, c', h3⟩
  · exact .inl h
  · obtain ⟨o, _, hG⟩ := hA.2 k g h1
    obtain ⟨d, v, q⟩ := g
    have hf := hG.fnd
    refine .inr ?_
    cases q with
    | v => cases h2
    | u => cases h2
    | c => cases h2
    | b ns => cases h2
    | r u e zs c =>
      have h2' : Nat.beq d id = true := h2
      simp only [curG, h2', cond_true, Option.some.injEq] at h3
      subst h3; trivial
    | o t c =>
      have h2' : Nat.beq d id = true := h2
      simp only [curG, h2', cond_true, Option.some.injEq] at h3
      subst h3
      obtain ⟨_, _, _, _, _, hids⟩ := hf.2.2
      exact noneOf_nil hids
    | t u e zs h0 =>
      simp only [curG] at h3
      cases hb : Nat.beq d id with
      | true =>
        simp only [hb, cond_true, Option.some.injEq] at h3
        subst h3; trivial
      | false =>
        have h2' : (Nat.beq d id || Nat.beq h0 id) = true := h2
        rw [hb] at h2'
        simp only [Bool.false_or] at h2'
        simp only [hb, cond_false, h2', cond_true] at h3
        cases h3
    | w j b0 =>
      have h2' : Nat.beq j id = true := h2
      simp only [curG, h2', cond_true, Option.some.injEq] at h3
      subst h3
      obtain ⟨_, _, _, _, _, _, _, _, _, _, _, hc⟩ := hf
      rcases hc with ⟨_, _, _, _, _, _, hno, rfl, _⟩ | ⟨_, _, _, _, _, _, _, _, _, _, _, _, _, _, _, _, _, rfl⟩
      · exact hno
      · trivial
theorem SimL_filter {β' : Nat → Nat} {ρ' : Nat → Value} {f : Nat → Option Ob} {g : Nat → Ob → TL} : ∀ {l : List Nat}, (∀ id ∈ l, ∀ ob, f id = some ob → simT (g id ob) (tlOf β' ρ' id ob)) → SimL (l.filterMap fun id => (f id).map (g id)) (memO β' ρ' (l.filterMap fun id => match f id with
    | some ob => some (id, ob)
    | none => none))
  | [], _ => .nil
  | id :: l, h => by
    have ih := SimL_filter (l := l) fun id' hm => h id' (.tail _ hm)
    simp only [List.filterMap_cons]
    cases hf : f id with
    | none => simpa using ih
    | some ob => exact .cons (h id (.head _) ob hf) ih
theorem fresh1 {d id : Nat} {ob : Ob} : ∀ {M : List (Nat × Ob)}, freshM d M = true → lookM M id = some ob → freshM d [(id, ob)] = true
  | [], _, h => by simp [lookM] at h
  | (k, x) :: l, hf, h => by
    simp only [lookM] at h
    have hs : freshM d [(k, x)] = true ∧ freshM d l = true := by
      cases x with
      | mapT kk v path e u xs hole =>
        cases hole <;> simp only [freshM, Bool.and_eq_true] at hf ⊢ <;> simp only [hf, and_self]
      | _ => simp only [freshM, Bool.and_eq_true] at hf ⊢; simp only [hf, and_self]
    cases hb : Nat.beq k id with
    | true =>
      rw [hb] at h
      simp only [cond_true, Option.some.injEq] at h
      subst h
      rw [← Nat.eq_of_beq_eq_true hb]; exact hs.1
    | false => rw [hb] at h; exact fresh1 hs.2 h
theorem own_fin (hA : AccOk P Y Zs n l0 ds S0 acc) (hdsE : ds = acc.map (·.1)) (hZf : ∀ d ∈ rowIds acc, d ∉ keysM Zs ∧ freshM d Zs = true) {a : Act} : SimL (OWx β ρ Zs acc allE a) (memO (updBk a (rowIds acc) β) (updV a (rowIds acc) ρ) (gotM Zs acc)) := by
  refine SimL_filter (f := fun id => curO allE id acc 0 (lookM Zs id)) fun id hid ob hob => ?_
  unfold tlX
  have hrd : ∀ d ∈ rowIds acc, d ∈ ds := fun d hd => by
    obtain ⟨v, q, hm, _⟩ := rowIds_mem.1 hd
    rw [hdsE]; exact List.mem_map.2 ⟨_, hm, rfl⟩
  cases hm : memN (rowIds acc) id with
  | true =>
    have hm' := memN_ok' hm
    have hq : Qo ds ob := by
      rcases cur_Q hA hob with h | h
      · rw [(freshM_look (hZf id hm').2).1] at h; cases h
      · exact h
    have hB := updP_at (a := a) (β := β) (ρ := ρ) hm'
    simp only [cond_true]
    cases ob with
    | row e t xs => simp only [tlAt, tlOf, hB.2]; exact simT.refl _
    | tail e t xs => simp only [tlAt, tlOf, hB.2]; exact simT.refl _
    | var t c =>
      simp only [tlAt, tlOf, hB.1]
      refine ⟨fun _ => Iff.rfl, fun _ _ => Iff.rfl, fun ok w ⟨cs, h1, h2⟩ => ⟨cs, h1, ?_⟩⟩
      have hn : ∀ d ∈ ds, noId d c = true := List.all_eq_true.1 hq
      exact updP_ind (C := fun β' ρ' => cr β' ρ' ok w false c cs) h2 fun d hd β1 ρ1 h1 => cr_noId (offBy_upd d β1 ρ1 _ _) (hn d (hrd d hd)) h1
    | map k v xs => exact hq.elim
    | mapT k v path e u xs hole => exact hq.elim
  | false =>
    simp only [cond_false]
    have hnr : id ∉ rowIds acc := fun h => by rw [memN_of h] at hm; cases hm
    have hfr : ∀ d ∈ rowIds acc, freshM d [(id, ob)] = true := fun d hd => by
      rcases cur_Q hA hob with h | h
      · exact fresh1 (hZf d hd).2 h
      · have hne : (!Nat.beq id d) = true := by
          rw [beqN fun (e : id = d) => hnr (by rw [e]; exact hd)]; rfl
        cases ob with
        | row e t xs => simp only [freshM, hne, Bool.and_self]
        | tail e t xs => simp only [freshM, hne, Bool.and_self]
        | var t c =>
          have hn : ∀ d ∈ ds, noId d c = true := List.all_eq_true.1 h
          simp only [freshM, hne, hn d (hrd d hd), Bool.and_self]
        | map k v xs => exact h.elim
        | mapT k v path e u xs hole => exact h.elim
    have := updP_ind (a := a) (l := rowIds acc) (β := β) (ρ := ρ) (C := fun β' ρ' => SimL (memO β ρ [(id, ob)]) (memO β' ρ' [(id, ob)])) (SimL.refl _) fun d hd β1 ρ1 h1 => SimL_trans h1 (sim_off (offBy_upd d β1 ρ1 _ _) (hfr d hd))
    simp only [memO, List.map_cons, List.map_nil] at this
    cases this with
    | cons h _ => exact h
theorem look_nodup : ∀ {M : List (Nat × Ob)}, (keysM M).Nodup → ∀ q ∈ M, lookM M q.1 = some q.2
  | [], _, q, h => by cases h
  | (k, x) :: l, hn, q, h => by
    have hn' := List.nodup_cons.1 (show (k :: keysM l).Nodup from hn)
    simp only [lookM]
    rcases List.mem_cons.1 h with rfl | h
    · simp [Nat.beq_refl]
    · have hne : k ≠ q.1 := fun e => hn'.1 (e ▸ List.mem_map.2 ⟨q, h, rfl⟩)
      rw [beqN hne]
      exact look_nodup hn'.2 q h
theorem OW_zero (hZn : (keysM Zs).Nodup) (hZf : ∀ d ∈ rowIds acc, d ∉ keysM Zs) {a : Act} : OWx β ρ Zs acc (fun _ => false) a = memO β ρ Zs := by
  unfold OWx namesZ
  have h0 : ∀ id c, curO (fun _ => false) id acc 0 c = c := fun id c => curO_late fun _ _ _ _ => rfl
  rw [List.filterMap_append]
  have e2 : (rowIds acc).filterMap (fX β ρ Zs acc (fun _ => false) a) = [] := by
    rw [List.filterMap_eq_nil_iff]
    intro d hd
    simp only [fX, h0]
    cases hl : lookM Zs d with
    | none => rfl
    | some ob => exact absurd (isSomeN_key (by rw [hl]; rfl)) (hZf d hd)
  rw [e2, List.append_nil]
  unfold keysM memO
  rw [List.filterMap_map, ← List.filterMap_eq_map]
  refine filterMap_same fun q hq => ?_
  simp only [Function.comp, fX, h0, look_nodup hZn q hq, Option.map_some, tlX]
  cases hm : memN (rowIds acc) q.1 with
  | false => rfl
  | true => exact absurd (List.mem_map.2 ⟨q, hq, rfl⟩) (hZf _ (memN_ok' hm))
theorem rowIds_sub : ∀ acc : Got, (rowIds acc).Sublist (acc.map (·.1))
  | [] => List.Sublist.refl _
  | (d, v, q) :: l => by
    have := rowIds_sub l
    cases q <;> simp only [rowIds, List.map_cons] <;> first | exact this.cons_cons _ | exact this.cons _
theorem remEs_mem : ∀ {ds : List Nat} {env : List En} {e : En}, e ∈ remEs env ds → e ∈ env ∧ ∀ d ∈ ds, noId d e.av = true ∧ e.t ≠ d ∧ ∀ c ∈ e.cs, c.1 ≠ d
  | [], env, e, h => ⟨h, by simp⟩
  | d :: ds, env, e, h => by
    obtain ⟨h1, h2⟩ := remEs_mem (ds := ds) h
    obtain ⟨h3, h4, h5⟩ := remE_mem h1
    obtain ⟨h6, h7⟩ := dropId_mem h3
    refine ⟨h6, fun d' hd => ?_⟩
    rcases List.mem_cons.1 hd with rfl | hd
    · exact ⟨h7, h4, h5⟩
    · exact h2 d' hd
theorem gotE_mem : ∀ {acc : Got} {e : En}, e ∈ gotE acc → ∃ q, (e.t, e.av, q) ∈ acc ∧ e.cs = [] ∧ isW q = false
  | [], e, h => by cases h
  | (d, v, q) :: l, e, h => by
    by_cases hw : isW q = true
    · cases q <;> simp [isW] at hw
      obtain ⟨q', h1, h2, h3⟩ := gotE_mem (acc := l) h
      exact ⟨q', .tail _ h1, h2, h3⟩
    · have h' : e ∈ ⟨d, [], v⟩ :: gotE l := by cases q <;> first | exact h | exact absurd rfl hw
      rcases List.mem_cons.1 h' with rfl | h'
      · exact ⟨q, .head _, rfl, by simpa using hw⟩
      · obtain ⟨q', h1, h2, h3⟩ := gotE_mem h'
        exact ⟨q', .tail _ h1, h2, h3⟩
theorem Sb.re0 {G : GL} {D : List DF} {O : List TL} {a' : Act} {w' : World} {β1 β2 : Nat → Nat} {f : Nat → Nat} (h : Sb β1 {X with pin := some f} G D [] O a' w') (hp : X.pin = none) (hG : ∀ q ∈ G, den β1 q.2 = den β2 q.2) : Sb β2 X G D [] O a' w' := by
  have hok : ∀ b o, okOf X.ok X.w.heap.size β1 [] O w' b o → okOf X.ok X.w.heap.size β2 [] O w' b o := fun b o ⟨h1, h2, _, h4⟩ => ⟨h1, h2, by simp, h4⟩
  exact { sz := h.sz, df := h.df, fr := h.fr, pn := fun g hg => (by rw [hp] at hg; cases hg), tm := fun q hq => (h.tm q hq).trans (congrArg some (hG q hq)), bel := h.bel, dat := h.dat.weak hok, obj := by simp,
          own := fun t ht => ⟨t.weak (h.own t ht).1 hok, (h.own t ht).2⟩, dHH := by simp, dHO := by simp, dOO := h.dOO }
theorem regionD_ok (hT : TabOk P Y.T) {K : List Con} (hK : ∀ c ∈ K, ConOk P Y.gl c ∧ Runs P c.f) (hG0 : GlobOk Y.gl (okN X) X.w) {hn : Hn} (hmix : P.follows .mixedOrders = true) (hX : X.n = n) (hr : X.res = []) (hp : X.pin = none) (hn9 : Nat.ble n 1000000000 = true) (hZb : nodupN (keysM Zs) = true) (hC : Rel X β ρ ⟨S0.flat.env, Zs ++ S0.flat.mem⟩ a0 w0) {p : Nat} (hb : drawB l0 p ds = true)
    {k : Hn → Got → Option R} (hs : runD Y n l0 ds Zs S0 K hn (l0.take p) 0 [] k = some r) {id : Nat} {Q : Exit → Act → World → Prop}
    (H : ∀ (β' : Nat → Nat) (ρ' : Nat → Value) (a' : Act) (w' : World) (acc : Got) (h' : Hn), k h' acc = some r → Keeps S0 (gotS S0 ds Zs acc) β β' ρ ρ' → Rel X β' ρ' (gotS S0 ds Zs acc).flat a' w' → wpList P ⟨l0⟩ Q (l0.drop p) a' w') :
    (Code.region id ⟨l0⟩ true).wp P Q a0 w0 := by
  have eM : memO β ρ (Zs ++ S0.flat.mem) = memO β ρ Zs ++ memO β ρ S0.flat.mem := List.map_append
  have h : Rel X β ρ S0.flat a0 w0 := Sb.subO hC (by rw [show memO β ρ (⟨S0.flat.env, Zs ++ S0.flat.mem⟩ : St).mem = _ from eM]; exact List.sublist_append_right _ _)
  have hZn := nodupN_ok hZb
  have hn9' := Nat.le_of_ble_eq_true hn9
  unfold drawB at hb
  simp only [Bool.and_eq_true] at hb
  obtain ⟨⟨⟨⟨hple, hlen⟩, hback⟩, hfin⟩, hndB⟩ := hb
  have hnd := nodupB_ok hndB
  have hpl := Nat.le_of_ble_eq_true hple
  have hdl := Nat.eq_of_beq_eq_true hlen
  obtain ⟨acc, ⟨h', hk⟩, htr⟩ := runD_ok (P := P) hT hK hs
  obtain ⟨hal, hall⟩ := htr.get
  simp only [List.nil_append] at hk
  have halen : acc.length = ds.length := by rw [hal, List.length_take, hdl]; omega
  have hA : AccOk P Y Zs n l0 ds S0 acc := by
    refine ⟨halen, fun i g hg => ?_⟩
    have hi : i < acc.length := by
      rcases Nat.lt_or_ge i acc.length with q | q
      · exact q
      · rw [List.getElem?_eq_none q] at hg; cases hg
    have hip : i < p := by omega
    have ho : l0[i]? = some l0[i] := List.getElem?_eq_getElem (by omega)
    obtain ⟨g', q1, q2⟩ := hall i l0[i] (by rw [List.getElem?_take, if_pos hip]; exact ho)
    rw [hg] at q1; injection q1 with q1; subst q1
    refine ⟨l0[i], ho, ?_⟩
    simpa using q2
  have hmemG : ∀ g ∈ acc, ∃ o i, acc[i]? = some g ∧ GotOk P Y Zs n l0 ds S0 o i (acc.take i) g := fun g hg => by
    obtain ⟨i, hi⟩ := List.getElem?_of_mem hg
    obtain ⟨o, _, hG⟩ := hA.2 i g hi
    exact ⟨o, i, hi, hG⟩
  have hdsE : ds = acc.map (·.1) := by
    refine List.ext_getElem? fun i => ?_
    rcases Nat.lt_or_ge i acc.length with hi | hi
    · rw [List.getElem?_map, List.getElem?_eq_getElem hi]
      obtain ⟨o, _, hG⟩ := hA.2 i acc[i] (List.getElem?_eq_getElem hi)
      exact some_getD (by omega) hG.ix
    · rw [List.getElem?_eq_none (by omega), List.getElem?_eq_none (by simpa using hi)]
  have hgds : ∀ g ∈ acc, g.1 ∈ ds := fun g hg => by rw [hdsE]; exact List.mem_map.2 ⟨g, hg, rfl⟩
  have hdsg : ∀ d ∈ ds, d < X.n → okD X d = true ∧ offF d S0.fix = true := fun d hd hlt => by
    rw [hdsE] at hd
    obtain ⟨g, hg, rfl⟩ := List.mem_map.1 hd
    obtain ⟨o, i, _, hG⟩ := hmemG g hg
    cases hq : isW g.2.2 with
    | false => exact okW_ok (hG.wr hq) hX hr
    | true =>
      have := (hG.ndst hq).2
      omega
  have hrow3 : ∀ d ∈ rowIds acc, d ∈ ds ∧ okB S0 d = true ∧ freshM d Zs = true ∧ d < X.n := fun d hd => by
    obtain ⟨v, q, hm, hq⟩ := rowIds_mem.1 hd
    obtain ⟨o, i, _, hG⟩ := hmemG _ hm
    refine ⟨hgds _ hm, ?_⟩
    cases q with
    | r u e zs c => exact ⟨(okZ_ok hG.fnd.2.1).1, (okZ_ok hG.fnd.2.1).2.1, okD_lt (okW_ok (hG.wr rfl) hX hr).1⟩
    | t u e zs c => exact ⟨(okZ_ok hG.fnd.2.1).1, (okZ_ok hG.fnd.2.1).2.1, okD_lt (okW_ok (hG.wr rfl) hX hr).1⟩
    | o t c => exact ⟨(okZ_ok hG.fnd.2.1).1, (okZ_ok hG.fnd.2.1).2.1, okD_lt (okW_ok (hG.wr rfl) hX hr).1⟩
    | _ => cases hq
  have hrow : ∀ d ∈ rowIds acc, d ∈ ds ∧ okB S0 d = true := fun d hd => ⟨(hrow3 d hd).1, (hrow3 d hd).2.1⟩
  have hZf : ∀ d ∈ rowIds acc, d ∉ keysM Zs ∧ freshM d Zs = true := fun d hd => ⟨(freshM_look (hrow3 d hd).2.2.1).2, (hrow3 d hd).2.2.1⟩
  have hN : (namesZ Zs acc).Nodup := by
    unfold namesZ
    rw [List.nodup_append]
    refine ⟨hZn, (hdsE ▸ hnd : (acc.map (·.1)).Nodup).sublist (rowIds_sub acc), fun x hx y hy e => ?_⟩
    subst e
    exact (hZf _ hy).1 hx
  have hSb : Sb (fun _ => 0) X (restG X ds a0) (S0.flat.env.map (enD β ρ a0)) [] (memO β ρ Zs ++ memO β ρ S0.flat.mem) a0 w0 := by
    rw [← eM]
    exact hC.toG.lessG fun q hq => (List.mem_filter.1 hq).1
  refine draw_ruleB (OWx β ρ Zs acc) (β := fun _ => 0) (G := restG X ds a0) (D := S0.flat.env.map (enD β ρ a0)) (H := []) (O := memO β ρ S0.flat.mem) hSb (by rw [OW_zero hZn fun d hd => (hZf d hd).1])
    (by rw [hr]; rfl) hmix p (fun E E' a hE => filterMap_same fun id _ => by
      unfold fX
      rw [curO_congr (E := E) (E' := E') fun k g hk _ => by rw [Nat.zero_add]; exact hE k (by have := acc_lt hk; omega)]) ds (acc.map (gotA β ρ)) hlen (by rw [List.length_map, halen]; exact hlen) hple hback hfin hndB (gotA_loc hA hnd)
    (AllB_all fun i _ => stepD_ok hT hG0 hX hr h hnd hA hdsE hN (fun d hd => (hZf d hd).1) i) fun β1 a' w' Ox hS' hOx hf0 => ?_
  have hS := hS'.perm (hOx.append_right _)
  have hf : ∀ (i : Nat) fv, (acc.map (gotA β ρ))[i]? = some fv → fv.p (okOf X.ok X.w.heap.size β1 [] (OWx β ρ Zs acc allE a' ++ memO β ρ S0.flat.mem) w') w' a' := fun i fv hi =>
    fv.weak (hf0 i fv hi) fun b o ⟨q1, q2, q3, q4⟩ => ⟨q1, q2, q3, fun u hu => q4 u ((hOx.append_right _).mem_iff.2 hu)⟩
  have hat : ∀ d ∈ rowIds acc, updG a' acc ρ d = a'.tmps.getD d undef := fun d hd => (updP_at (β := β) hd).2
  have hatB : ∀ d ∈ rowIds acc, updH a' acc β d = blkV (a'.tmps.getD d undef) := fun d hd => (updP_at (ρ := ρ) hd).1
  have hsim : SimL (memO β ρ S0.flat.mem) (memO (updH a' acc β) (updG a' acc ρ) S0.flat.mem) :=
    updP_ind (C := fun β' ρ' => SimL (memO β ρ S0.flat.mem) (memO β' ρ' S0.flat.mem)) (SimL.refl _) fun d hd β1 ρ1 h1 => SimL_trans h1 (sim_off (offBy_upd d β1 ρ1 _ _) (okB_ok (hrow d hd).2).1)
  have hcr : ∀ {ok : Ok} {w : World} {x : AV} {cs : List Value}, (∀ d ∈ rowIds acc, noId d x = true) → cr β ρ ok w false x cs → cr (updH a' acc β) (updG a' acc ρ) ok w false x cs := fun {ok w x cs} hn hc =>
    updP_ind (C := fun β' ρ' => cr β' ρ' ok w false x cs) hc fun d hd β1 ρ1 h1 => cr_noId (offBy_upd d β1 ρ1 _ _) (hn d hd) h1
  have hag : agP S0.prot β (updH a' acc β) ρ (updG a' acc ρ) :=
    updP_ind (C := fun β' ρ' => agP S0.prot β β' ρ ρ') (agP.refl _ _ _) fun d hd β1 ρ1 h1 => h1.trans (agP_off (okB_ok (hrow d hd).2).2.2 (offBy_upd d β1 ρ1 _ _))
  refine H (updH a' acc β) (updG a' acc ρ) a' w' acc h' hk ⟨rfl, rfl, rfl, hag⟩ ?_
  have hS0 := Sb.re0 (β2 := fun _ => 0) hS hp fun q hq => by rw [(restG_not hq).2.2]; rfl
  have hown : SimL (OWx β ρ Zs acc allE a') (memO (updH a' acc β) (updG a' acc ρ) (gotM Zs acc)) := own_fin hA hdsE hZf
  have hO : SimL (OWx β ρ Zs acc allE a' ++ memO β ρ S0.flat.mem) (memO (updH a' acc β) (updG a' acc ρ) (gotS S0 ds Zs acc).flat.mem) := by
    have e : memO (updH a' acc β) (updG a' acc ρ) (gotS S0 ds Zs acc).flat.mem = memO (updH a' acc β) (updG a' acc ρ) (gotM Zs acc) ++ memO (updH a' acc β) (updG a' acc ρ) S0.flat.mem := by simp [memO, gotS, XS.flat]
    rw [e]
    exact hown.append hsim
  have hS1 := hS0.simO hO
  have hok : ∀ b o, okOf X.ok X.w.heap.size β1 [] (OWx β ρ Zs acc allE a' ++ memO β ρ S0.flat.mem) w' b o → okR X (updH a' acc β) (updG a' acc ρ) (gotS S0 ds Zs acc).flat.mem w' b o := fun b o ⟨h1, h2, _, h4⟩ => hO.ok b o ⟨h1, h2, by simp, h4⟩
  have hoth : ∀ t, (t < X.n → t ∉ ds) → a'.tmps[t]? = a0.tmps[t]? := fun t ht => by
    rcases Nat.lt_or_ge t X.n with hlt | hge
    · have ht := ht hlt
      have := hS0.tm _ (restG_mem hlt ht a0)
      simp only [den_v] at this
      rw [this]
      have hlt' : t < a0.tmps.size := by rw [h.sz]; exact hlt
      simp [Array.getD_eq_getD_getElem?, Array.getElem?_eq_getElem hlt']
    · rw [Array.getElem?_eq_none (by rw [hS0.sz]; exact hge), Array.getElem?_eq_none (by rw [h.sz]; exact hge)]
  have hothR : ∀ t, (t < X.n → t ∉ ds) → rd a' t = rd a0 t := fun t ht => by unfold rd; rw [hoth t ht]
  have hold : ∀ e ∈ S0.flat.env, (∀ d ∈ rowIds acc, noId d e.av = true) → (∀ d ∈ ds, d < X.n → e.t ≠ d ∧ ∀ c ∈ e.cs, c.1 ≠ d) → (enD (updH a' acc β) (updG a' acc ρ) a' e).p (okR X (updH a' acc β) (updG a' acc ρ) (gotS S0 ds Zs acc).flat.mem w') w' := by
    intro e he h1 h2
    have hD := AllD_mem.1 hS0.dat _ (List.mem_map.2 ⟨e, he, rfl⟩)
    have het : e.t < X.n → e.t ∉ ds := fun hlt hm => (h2 _ hm hlt).1 rfl
    have hcs : ∀ c ∈ e.cs, c.1 < X.n → c.1 ∉ ds := fun c hc hlt hm => (h2 _ hm hlt).2 c hc rfl
    have hcc : holdsC a' e.cs ↔ holdsC a0 e.cs := ⟨fun hc c hm => by rw [← hoth _ (hcs c hm)]; exact hc c hm, fun hc c hm => by rw [hoth _ (hcs c hm)]; exact hc c hm⟩
    refine ⟨fun hc => ?_, ?_⟩
    · obtain ⟨cs, q1, q2⟩ := hD.1 (hcc.1 hc)
      refine ⟨cs, by rw [hothR _ het]; exact q1, cr_weak (hcr h1 q2) ?_⟩
      exact fun b o hbo => hO.ok b o hbo
    · rw [hcc, hothR _ het]; exact hD.2
  have hfin : Rel X (updH a' acc β) (updG a' acc ρ) ⟨(gotS S0 ds Zs acc).flat.env, (gotS S0 ds Zs acc).flat.mem⟩ a' w' := Rel.ofSb hS1 rfl fun e he => by
    have he' : e ∈ (gotE acc ++ remEs S0.env ds) ++ S0.fix := he
    rcases List.mem_append.1 he' with he' | he'
    · rcases List.mem_append.1 he' with he' | he'
      · obtain ⟨q, hm, hcs, hqw⟩ := gotE_mem he'
        obtain ⟨o, i, hi, hG⟩ := hmemG _ hm
        have hdi : ds[i]? = some e.t := by rw [hdsE, List.getElem?_map, hi]; rfl
        have hF := hf i (gotA β ρ (e.t, e.av, q)) (by rw [List.getElem?_map, hi]; rfl)
        have hoke := (okW_ok (hG.wr hqw) hX hr).1
        have hlt : e.t < a'.tmps.size := by rw [hS0.sz]; exact okD_lt hoke
        have hge : rd a' e.t = some (a'.tmps.getD e.t undef) := by rw [rd_lt (okD_small hoke)]; simp [Array.getD_eq_getD_getElem?, hlt]
        refine ⟨fun _ => ?_, .inl (by rw [hcs]; exact holdsC_nil a')⟩
        cases q with
        | v =>
          obtain ⟨cs, q1, q2⟩ := hF
          have hn := hG.fnd.2
          unfold noneOf at hn
          rw [List.all_eq_true] at hn
          exact ⟨cs, by rw [← q1]; exact hge, cr_weak (hcr (fun d hd => hn d (hrow d hd).1) q2) hok⟩
        | u =>
          have hav : e.av = .tp .nil := hG.fnd
          have hF' : a'.tmps.getD e.t undef = undef := hF
          rw [hav]
          exact ⟨[.tuple #[]], by rw [hge, hF']; rfl, [], rfl, rfl⟩
        | o t c =>
          obtain ⟨b, q1⟩ := hF
          have hav := hG.fnd.1
          have hid : e.t ∈ rowIds acc := rowIds_mem.2 ⟨_, _, hm, rfl⟩
          rw [hav]
          refine ⟨[.pointer (some ⟨updH a' acc β e.t, 0, none⟩)], ?_, rfl⟩
          rw [hatB _ hid, hge, q1]; rfl
        | w j0 b0 => cases hqw
        | b ns =>
          obtain ⟨cs, q1, q2⟩ := hF
          obtain ⟨_, hns, hids⟩ := hG.fnd
          refine ⟨cs, by rw [← q1]; exact hge, cr_weak (cr_agree (fun i hi => ?_) q2) hok⟩
          by_cases hmn : i ∈ ns
          · have hrw : i ∈ rowIds acc := by
              have := (hns i hmn).1
              obtain ⟨v', u, e1, zs, c, hm'⟩ := isRowG_mem this
              exact rowIds_mem.2 ⟨_, _, List.mem_of_mem_take hm', rfl⟩
            rw [hatB i hrw, hat i hrw, (updP_at (ρ := ρ) hmn).1, (updP_at (β := β) hmn).2]
            exact ⟨rfl, rfl⟩
          · have hnr : i ∉ rowIds acc := fun q => hmn (hids i hi (hrow i q).1)
            have p1 := updP_not (a := a') (β := β) (ρ := ρ) hmn
            have p2 := updP_not (a := a') (β := β) (ρ := ρ) hnr
            exact ⟨p2.1.trans p1.1.symm, p2.2.trans p1.2.symm⟩
        | r u e1 zs c =>
          obtain ⟨b, c0, q1⟩ := hF
          have hav := hG.fnd.1
          have hid : e.t ∈ rowIds acc := rowIds_mem.2 ⟨_, _, hm, rfl⟩
          rw [hav]
          refine ⟨[updG a' acc ρ e.t], ?_, ⟨_, rfl, .inl rfl⟩, ?_⟩
          · rw [hat _ hid]; exact hge
          · rw [hat _ hid]; exact ⟨_, _, _, q1⟩
        | t u e1 zs c =>
          obtain ⟨b, c0, q1⟩ := hF
          have hav := hG.fnd.1
          have hid : e.t ∈ rowIds acc := rowIds_mem.2 ⟨_, _, hm, rfl⟩
          rw [hav]
          refine ⟨[updG a' acc ρ e.t], ?_, ⟨_, rfl, .inl rfl⟩, ?_⟩
          · rw [hat _ hid]; exact hge
          · rw [hat _ hid]; exact ⟨_, _, _, q1⟩
        | c =>
          obtain ⟨t, hav, c1, c2, c3⟩ := hG.fnd
          obtain ⟨v', u, e1, zs, c, hm'⟩ := isRowG_mem c1
          have hm' := List.mem_of_mem_take hm'
          obtain ⟨i', hi'⟩ := List.getElem?_of_mem hm'
          obtain ⟨b, c0, q1⟩ := hf i' (gotA β ρ (t, v', Gk.r u e1 zs c)) (by rw [List.getElem?_map, hi']; rfl)
          have hid : t ∈ rowIds acc := rowIds_mem.2 ⟨_, _, hm', rfl⟩
          have hav' : e.av = .s t := hav
          rw [hav'] at hF ⊢
          have hF' : a'.tmps.getD e.t undef = a'.tmps.getD t undef := hF
          refine ⟨[updG a' acc ρ t], ?_, ⟨_, rfl, .inl rfl⟩, ?_⟩
          · rw [hat _ hid, ← hF']; exact hge
          · rw [hat _ hid]; exact ⟨_, _, _, q1⟩
      · obtain ⟨h1, h2⟩ := remEs_mem he'
        exact hold e (List.mem_append_left _ h1) (fun d hd => (h2 d (hrow d hd).1).1) fun d hd _ => (h2 d hd).2
    · refine hold e (List.mem_append_right _ he') (fun d hd => ?_) fun d hd hlt => offF_rem (hdsg d hd hlt).2 e he'
      exact offI_mem (okB_ok (hrow d hd).2).2.1 e he'
  exact hfin
end
end
end Gx

/- Regions, control, functions. -/
namespace Gx
open Go Go.RowKit Gd
set_option linter.unusedVariables false
set_option linter.unusedSimpArgs false
def KsOk (P : Program) (gl : List (Nat × Σ t : Ty, t.De)) (K : List Con) : Prop := ∀ c ∈ K, ConOk P gl c ∧ Runs P c.f
def KsX (P : Program) (Y : TX) (X : Cx) (K : List Con) : Prop := KsOk P Y.gl K ∧ GlobOk Y.gl (okN X) X.w
theorem datA_agg {M : List (Nat × Ob)} (x : AV) : (datA M x).isAgg = x.isAgg := by
  cases x with
  | s id =>
    simp only [datA]
    split <;> rfl
  | _ => rfl
theorem datA_val {M : List (Nat × Ob)} (x : AV) (cs : List Value) : (datA M x).val cs = x.val cs := by
  unfold AV.val
  rw [datA_agg]
theorem datA_ids {M : List (Nat × Ob)} : ∀ {x : AV} {i : Nat}, i ∈ allIds (datA M x) → i ∈ allIds x
  | .s id, i, h => by
    simp only [datA] at h
    split at h
    · cases h
    · exact h
  | .ag l, i, h => datA_ids (x := l) h
  | .cons x r, i, h => by
    rcases List.mem_append.1 (show i ∈ allIds (datA M x) ++ allIds (datA M r) from h) with h | h
    · exact List.mem_append_left _ (datA_ids h)
    · exact List.mem_append_right _ (datA_ids h)
  | .d .., i, h => h
  | .p .., i, h => h
  | .e .., i, h => h
  | .m _, i, h => h
  | .w .., i, h => h
  | .a .., i, h => h
  | .z, i, h => h
  | .ns, i, h => h
  | .np, i, h => h
  | .nm, i, h => h
  | .nf, i, h => h
  | .f .., i, h => h
  | .tp _, i, h => h
  | .nil, i, h => h
section
variable {β : Nat → Nat} {ρ : Nat → Value} {ok : Ok} {w : World}
theorem datA_ok {M : List (Nat × Ob)} (hM : ∀ id o, lookM M id = some o → (tlOf β ρ id o).p ok w) : ∀ {m : Bool} {x : AV} {cs : List Value}, cr β ρ ok w m x cs → cr β ρ ok w m (datA M x) cs
  | m, .s id, cs, h => by
    simp only [datA]
    split
    · rename_i e t xs ho
      have h1 := (hM _ _ ho).1
      have h' : (∃ v, cs = [v] ∧ zal v (ρ id)) ∧ ∃ A n c, ρ id = .slice A n c := by cases m <;> exact h
      obtain ⟨⟨v, rfl, hz⟩, _⟩ := h'
      have h2 : (rt (.sl t)).rep ok w xs [v] := ⟨_, rfl, isV_sl.1 (zal_isV hz h1)⟩
      cases m <;> exact h2
    · exact h
  | m, .ag l, cs, h => by
    have h' : cr β ρ ok w false l cs := by cases m <;> exact h
    have := datA_ok hM (m := false) (x := l) h'
    cases m <;> exact this
  | true, .cons x r, cs, ⟨c1, vs, h1, h2, h3⟩ => ⟨c1, vs, by rw [h1, datA_val], datA_ok hM h2, datA_ok hM h3⟩
  | false, .cons x r, cs, ⟨c1, c2, h1, h2, h3⟩ => ⟨c1, c2, h1, datA_ok hM h2, datA_ok hM h3⟩
  | m, .d .., cs, h => h
  | m, .p .., cs, h => h
  | m, .e .., cs, h => h
  | m, .m _, cs, h => h
  | m, .w .., cs, h => h
  | m, .a .., cs, h => h
  | m, .z, cs, h => h
  | m, .ns, cs, h => h
  | m, .np, cs, h => h
  | m, .nm, cs, h => h
  | m, .nf, cs, h => h
  | m, .f .., cs, h => h
  | m, .tp _, cs, h => h
  | m, .nil, cs, h => h
end
theorem Sb.replO {β0 : Nat → Nat} {X : Cx} {G : GL} {D : List DF} {H : HL} {O1 O2 : List TL} {t t' : TL} {a : Act} {w : World} (h : Sb β0 X G D H (O1 ++ t :: O2) a w) (h1 : ∀ g, t'.blks g ↔ t.blks g) (h2 : ∀ b o, t'.cov b o ↔ t.cov b o)
    (hp : t'.p (okOf X.ok X.w.heap.size β0 H (O1 ++ t :: O2) w) w) : Sb β0 X G D H (O1 ++ t' :: O2) a w := by
  have hmem : ∀ u ∈ O1 ++ t' :: O2, u = t' ∨ u ∈ O1 ++ t :: O2 := fun u hu => by
    rcases List.mem_append.1 hu with hu | hu
    · exact .inr (List.mem_append_left _ hu)
    · rcases List.mem_cons.1 hu with hu | hu
      · exact .inl hu
      · exact .inr (List.mem_append_right _ (.tail _ hu))
  have ht : t ∈ O1 ++ t :: O2 := List.mem_append_right _ (.head _)
  have hok : ∀ b o, okOf X.ok X.w.heap.size β0 H (O1 ++ t :: O2) w b o → okOf X.ok X.w.heap.size β0 H (O1 ++ t' :: O2) w b o := fun b o ⟨q1, q2, q3, q4⟩ => ⟨q1, q2, q3, fun u hu hc => by
    rcases hmem u hu with rfl | hu
    · exact q4 t ht ((h2 b o).1 hc)
    · exact q4 u hu hc⟩
  refine { sz := h.sz, df := h.df, fr := h.fr, pn := h.pn, tm := h.tm, bel := h.bel, dat := h.dat.weak hok, obj := h.obj, own := fun u hu => ?_, dHH := h.dHH, dHO := fun p hp' u hu => ?_, dOO := ?_ }
  · rcases hmem u hu with rfl | hu
    · exact ⟨u.weak hp hok, fun g hg => (h.own t ht).2 g ((h1 g).1 hg)⟩
    · exact ⟨u.weak (h.own u hu).1 hok, (h.own u hu).2⟩
  · rcases hmem u hu with rfl | hu
    · exact fun hb => h.dHO p hp' t ht ((h1 _).1 hb)
    · exact h.dHO p hp' u hu
  · have := h.dOO
    rw [List.pairwise_append, List.pairwise_cons] at this ⊢
    refine ⟨this.1, ⟨fun u hu g hg => this.2.1.1 u hu g ((h1 g).1 hg), this.2.1.2⟩, fun x hx y hy g hg hg2 => ?_⟩
    rcases List.mem_cons.1 hy with rfl | hy
    · exact this.2.2 x hx t (.head _) g hg ((h1 g).1 hg2)
    · exact this.2.2 x hx y (.tail _ hy) g hg hg2
theorem dt_ok {X : Cx} {β : Nat → Nat} {ρ : Nat → Value} {a : Act} {w : World} {S : XS} (h : Rel X β ρ S.flat a w) {id : Nat} {tid : TypeId} {c : AV} (hm : lookM S.mem id = some (.var tid c)) : Rel X β ρ (S.set id (.var tid (datA S.flat.mem c))).flat a w := by
  have hm' : lookM S.flat.mem id = some (.var tid c) := lookM_append hm
  obtain ⟨l1, l2, e1, e2, e3⟩ := lookM_split hm'
  have hE : (S.set id (.var tid (datA S.flat.mem c))).flat = ⟨S.flat.env, setM S.flat.mem id (.var tid (datA S.flat.mem c))⟩ := by
    simp only [XS.flat, XS.set]
    rw [setM_append hm]
  rw [hE, e2]
  have hO : memO β ρ S.flat.mem = memO β ρ l1 ++ tlOf β ρ id (.var tid c) :: memO β ρ l2 := by rw [e1]; simp [memO]
  have hmem : memO β ρ (l1 ++ (id, Ob.var tid (datA S.flat.mem c)) :: l2) = memO β ρ l1 ++ tlOf β ρ id (.var tid (datA S.flat.mem c)) :: memO β ρ l2 := by simp [memO]
  have h0 : Sb (fun _ => 0) X [] (S.flat.env.map (enD β ρ a)) [] (memO β ρ l1 ++ tlOf β ρ id (.var tid c) :: memO β ρ l2) a w := by rw [← hO]; exact h
  obtain ⟨cs, q1, q2⟩ := (h.ob hm').1
  have hS := Sb.replO h0 (t' := tlOf β ρ id (.var tid (datA S.flat.mem c))) (fun _ => Iff.rfl) (fun _ _ => Iff.rfl) (by
    rw [← hO]
    exact ⟨cs, q1, datA_ok h.mm q2⟩)
  exact Rel.ofSb hS hmem.symm fun e he => by
    have := AllD_mem.1 hS.dat _ (List.mem_map.2 ⟨e, he, rfl⟩)
    rw [← hmem] at this
    exact this
section
variable {P : Program} {Y : TX} {X : Cx} {S : XS} {β β' : Nat → Nat} {ρ ρ' : Nat → Value} {a a' : Act} {w w' : World} {n N : Nat} {K : List Con}
variable {Q : Exit → Act → World → Prop} {R : Type} {r : R}
theorem selE_mem {env : List En} : ∀ {ts : List Nat}, ∀ e ∈ selE env ts, e ∈ env
  | [], e, he => by simp [selE] at he
  | t :: ts, e, he => by
    simp only [selE] at he
    split at he
    · rename_i x hx
      rcases List.mem_cons.1 he with rfl | he
      · exact (lookE_ok hx).1
      · exact selE_mem e he
    · exact selE_mem e he
theorem Rel.ent (h : Rel X β ρ S.flat a w) (ks ms : List Nat) : Rel X β ρ (S.ent ks ms).flat a w := by
  have h1 : Rel X β ρ ⟨S.env ++ (selE S.env ks ++ S.fix), S.flat.mem⟩ a w := Rel.less (S := S.flat) h fun e he => by
    rcases List.mem_append.1 he with he | he
    · exact List.mem_append_left _ he
    · rcases List.mem_append.1 he with he | he
      · exact List.mem_append_left _ (selE_mem e he)
      · exact List.mem_append_right _ he
  refine h1.permM ?_
  simp only [XS.flat, XS.ent]
  have := splitM_perm ms S.mem
  rw [← List.append_assoc]
  exact ((List.perm_append_comm.trans this).append_right _).symm
theorem out_flat (ks ms : List Nat) (S1 : St) : (S.out ks ms S1).flat = ((S.ent ks ms).re S1).flat := by simp [XS.flat, XS.out, XS.re, XS.ent]
theorem dec_re {S0 S' : XS} {Γ : Shp} (h : Rel X β ρ S'.flat a w) (hk : S'.fix = S0.fix ∧ S'.fixM = S0.fixM ∧ S'.prot = S0.prot) {x : Γ.De} (hd : S'.dec Γ = some x) :
    ∃ β' ρ', agP S0.prot β β' ρ ρ' ∧ Rel X β' ρ' (S0.re (enc Γ x)).flat a w := by
  obtain ⟨β', ρ', h1, h2⟩ := XS.dec_ok h hd
  rw [hk.2.2] at h1
  rw [hk.1, hk.2.1] at h2
  exact ⟨β', ρ', h1, h2⟩
theorem put_same (h : Rel X β ρ S.flat a w) {t : Nat} {x : AV} (he : lookE S.env t = some ⟨t, [], x⟩) : Rel X β ρ (XS.put S t [] x).flat a w := by
  obtain ⟨hm, _⟩ := lookE_ok he
  refine Rel.less (S := S.flat) h fun e hE => ?_
  rcases List.mem_append.1 hE with hE | hE
  · rcases List.mem_cons.1 hE with rfl | hE
    · exact List.mem_append_left _ hm
    · exact List.mem_append_left _ (remE_mem hE).1
  · exact List.mem_append_right _ hE
theorem put_lit (h : Rel X β ρ S.flat a w) {t : Nat} {b : Bool} (he : lookE S.env t = some ⟨t, [], .d .bool b⟩) : Rel X β ρ (XS.put S t [] (.d .bool b)).flat a w := by
  obtain ⟨hm, _⟩ := lookE_ok he
  refine Rel.less (S := S.flat) h fun e hE => ?_
  rcases List.mem_append.1 hE with hE | hE
  · rcases List.mem_cons.1 hE with rfl | hE
    · exact List.mem_append_left _ hm
    · exact List.mem_append_left _ (remE_mem hE).1
  · exact List.mem_append_right _ hE
theorem runH_ok (hT : TabOk P Y.T) (hK : KsX P Y X K) (hX : X.n = n) (hr : X.res = []) {ops : List Oper} {Q : Exit → Act → World → Prop} : ∀ {R : Type} {r : R} (h : Hn) {l rest : List Oper} {S : XS} {β : Nat → Nat} {ρ : Nat → Value} {a : Act} {w : World} {k : XS → Option R},
    Rel X β ρ S.flat a w → runH Y K n ops h l S k = some r → KOk P ⟨ops⟩ Q rest X S β ρ k r → wpList P ⟨ops⟩ Q (l ++ rest) a w
  | R, r, .done, l, rest, S, β, ρ, a, w, k, hS, hs, H => by
    cases l with
    | nil => exact H β ρ S a w (by simpa [runH] using hs) (Keeps.refl _ _ _) hS
    | cons o l => simp [runH] at hs
  | R, r, .n m g, l, rest, S, β, ρ, a, w, k, hS, hs, H => by
    simp only [runH] at hs
    have := runN_ok (P := P) (X := X) (Q := Q) (r := r) (stepG Y n ops) (fun h1 h2 h3 => stepG_ok hT hX hr h1 h2 h3) (l1 := l.take m) (rest := l.drop m ++ rest) hS hs fun β' ρ' S' a' w' h1 h2 h3 => runH_ok hT hK hX hr g h3 h1 (H.after h2)
    rwa [← List.append_assoc, List.take_append_drop] at this
  | R, r, .nl m g, l, rest, S, β, ρ, a, w, k, hS, hs, H => by
    simp only [runH] at hs
    have := runN_ok (P := P) (X := X) (Q := Q) (r := r) (Gx.stepL Y n ops) (fun h1 h2 h3 => stepL_ok hT hX hr h1 h2 h3) (l1 := l.take m) (rest := l.drop m ++ rest) hS hs fun β' ρ' S' a' w' h1 h2 h3 => runH_ok hT hK hX hr g h3 h1 (H.after h2)
    rwa [← List.append_assoc, List.take_append_drop] at this
  | R, r, .call c g, l, rest, S, β, ρ, a, w, k, hS, hs, H => by
    simp only [runH] at hs
    split at hs
    · rename_i con o l' hc
      split at hs
      · rename_i hg
        have hcm := hK.1 con (List.mem_of_getElem? hc)
        exact stepCall_ok hX hr hS (wanted_none (gTmp_none hg) _) hcm.1 hK.2 hcm.2 hs fun β' ρ' S' a' w' h1 h2 h3 => runH_ok hT hK hX hr g h3 h1 (H.after h2)
      · rename_i t want hg
        split at hs
        · rename_i t' b he
          split at hs
          · rename_i hb
            have hbw : b = want := by simpa using hb
            subst hbw
            obtain ⟨cs, h1, h2⟩ := hS.get he (holdsC_nil a)
            have h2' : cs = _ := h2
            subst h2'
            have hcm := hK.1 con (List.mem_of_getElem? hc)
            exact stepCall_ok hX hr hS ((wanted_iff hg).2 h1) hcm.1 hK.2 hcm.2 hs fun β' ρ' S' a' w' h1 h2 h3 => runH_ok hT hK hX hr g h3 h1 (H.after h2)
          · cases hs
        · cases hs
      · cases hs
    · cases hs
  | R, r, .fz id g, l, rest, S, β, ρ, a, w, k, hS, hs, H => by
    simp only [runH] at hs
    have h1 : Rel X β ρ (XS.flat { S with mem := freezeX [id] S.mem }) a w := by
      have := Rel.freeze S.mem (l0 := []) (F := S.fixM) (ks := [id]) hS
      simp only [List.nil_append] at this
      exact this
    exact runH_ok hT hK hX hr g h1 hs (H.after ⟨rfl, rfl, rfl, agP.refl _ _ _⟩)
  | R, r, .keep ts g, l, rest, S, β, ρ, a, w, k, hS, hs, H => by
    simp only [runH] at hs
    have h1 : Rel X β ρ (XS.flat { S with env := selE S.env ts }) a w := Rel.less (S := S.flat) hS fun e he => by
      rcases List.mem_append.1 he with he | he
      · exact List.mem_append_left _ (selE_mem e he)
      · exact List.mem_append_right _ he
    exact runH_ok hT hK hX hr g h1 hs (H.after ⟨rfl, rfl, rfl, agP.refl _ _ _⟩)
  | R, r, .mt id path e g, l, rest, S, β, ρ, a, w, k, hS, hs, H => by
    simp only [runH] at hs
    split at hs
    · rename_i kk v hm
      split at hs
      · rename_i u f hf
        obtain ⟨hq, hs⟩ := bvT hs
        obtain ⟨ρ1, h1, h2⟩ := mt_ok hS hm hf hq
        exact runH_ok hT hK hX hr g h2 hs (H.after h1)
      · cases hs
    · cases hs
  | R, r, .op src id d g, l, rest, S, β, ρ, a, w, k, hS, hs, H => by
    simp only [runH] at hs
    split at hs
    · rename_i kk v path e u xs hm
      split at hs
      · rename_i u1 f av hf hsrc
        split at hs
        · rename_i key hkey
          obtain ⟨hb, hs⟩ := bvT hs
          simp only [Bool.and_eq_true] at hb
          have hu : u1 = u := by
            obtain ⟨f0, hf0, _⟩ := (hS.ob (lookM_append (m := S.fixM) hm)).1
            rw [hf] at hf0
            injection hf0 with hf0
            injection hf0
          subst hu
          obtain ⟨ρ1, h1, h2⟩ := op_ok hS hm hf hb.1.1 key hb.1.2 hb.2
          exact runH_ok hT hK hX hr g h2 hs (H.after h1)
        · cases hs
      · cases hs
    · cases hs
  | R, r, .fm id g, l, rest, S, β, ρ, a, w, k, hS, hs, H => by
    simp only [runH] at hs
    split at hs
    · rename_i kk v path e u xs hm
      exact runH_ok hT hK hX hr g (fm_ok hS hm) hs (H.after ⟨rfl, rfl, rfl, agP.refl _ _ _⟩)
    · cases hs
  | R, r, .md m g, l, rest, S, β, ρ, a, w, k, hS, hs, H => by simp [runH] at hs
  | R, r, .tl g, l, rest, S, β, ρ, a, w, k, hS, hs, H => by simp [runH] at hs
  | R, r, .dt _ g, l, rest, S, β, ρ, a, w, k, hS, hs, H => by simp [runH] at hs
  | R, r, .si t i x y, l, rest, S, β, ρ, a, w, k, hS, hs, H => by
    simp only [runH] at hs
    split at hs
    · rename_i t' kd v he
      obtain ⟨hf, hs⟩ := bvT hs
      split at hs
      · rename_i hv
        subst hv
        have ht : t' = t := (lookE_ok he).2
        subst ht
        exact runH_ok hT hK hX hr x (put_same hS he) hs (H.after ⟨rfl, rfl, rfl, agP.refl _ _ _⟩)
      · exact runH_ok hT hK hX hr y hS hs H
    · cases hs
  | R, r, .so t x y, l, rest, S, β, ρ, a, w, k, hS, hs, H => by simp [runH] at hs
  | R, r, .sp t m ks ms Γ x y g, l, rest, S, β, ρ, a, w, k, hS, hs, H => by
    simp only [runH] at hs
    split at hs
    · rename_i t' v he
      have ht' : t' = t := (lookE_ok he).2
      subst ht'
      obtain ⟨hb, hs⟩ := bvT hs
      obtain ⟨z, hz, hs⟩ := bindE hs
      have hp := put_lit hS he
      have fin : KOk P ⟨ops⟩ Q (l.drop m ++ rest) X ((XS.put S t' [] (.d .bool v)).ent ks ms) β ρ (fun S' => S'.dec Γ) z := by
        intro β1 ρ1 S' a' w' hd hk h1
        obtain ⟨β2, ρ2, h2, h3⟩ := dec_re (S0 := (XS.put S t' [] (.d .bool v)).ent ks ms) h1 ⟨hk.fix, hk.fixM, hk.prot⟩ hd
        rw [← out_flat] at h3
        refine runH_ok hT hK hX hr g h3 hs (H.after ⟨rfl, rfl, rfl, ?_⟩)
        exact agP.trans hk.ag h2
      have e : l ++ rest = l.take m ++ (l.drop m ++ rest) := by rw [← List.append_assoc, List.take_append_drop]
      rw [e]
      cases v with
      | true =>
        rw [if_pos rfl] at hz
        exact runH_ok hT hK hX hr x (hp.ent ks ms) hz fin
      | false =>
        rw [if_neg (by simp)] at hz
        exact runH_ok hT hK hX hr y (hp.ent ks ms) hz fin
    · cases hs
theorem runG_ok : ∀ {R : Type} {r : R} (h : Hn) {S : XS} {ρ : Nat → Value} {k : XS → Option R}, Rel X β ρ S.flat a w → runG h S k = some r → ∃ S' ρ', k S' = some r ∧ Keeps S S' β β ρ ρ' ∧ Rel X β ρ' S'.flat a w
  | R, r, .done, S, ρ, k, hS, hs => ⟨S, ρ, hs, Keeps.refl _ _ _, hS⟩
  | R, r, .fz id g, S, ρ, k, hS, hs => by
    simp only [runG] at hs
    have h1 : Rel X β ρ (XS.flat { S with mem := freezeX [id] S.mem }) a w := by
      have := Rel.freeze S.mem (l0 := []) (F := S.fixM) (ks := [id]) hS
      simp only [List.nil_append] at this
      exact this
    obtain ⟨S', ρ', q1, q2, q3⟩ := runG_ok g h1 hs
    exact ⟨S', ρ', q1, ⟨q2.fix, q2.fixM, q2.prot, q2.ag⟩, q3⟩
  | R, r, .mt id path e g, S, ρ, k, hS, hs => by
    simp only [runG] at hs
    split at hs
    · rename_i kk v hm
      split at hs
      · rename_i u f hf
        obtain ⟨hq, hs⟩ := bvT hs
        obtain ⟨ρ1, h1, h2⟩ := mt_ok hS hm hf hq
        obtain ⟨S', ρ', q1, q2, q3⟩ := runG_ok g h2 hs
        exact ⟨S', ρ', q1, h1.trans q2, q3⟩
      · cases hs
    · cases hs
  | R, r, .op src id d g, S, ρ, k, hS, hs => by
    simp only [runG] at hs
    split at hs
    · rename_i kk v path e u xs hm
      split at hs
      · rename_i u1 f av hf hsrc
        split at hs
        · rename_i key hkey
          obtain ⟨hb, hs⟩ := bvT hs
          simp only [Bool.and_eq_true] at hb
          have hu : u1 = u := by
            obtain ⟨f0, hf0, _⟩ := (hS.ob (lookM_append (m := S.fixM) hm)).1
            rw [hf] at hf0
            injection hf0 with hf0
            injection hf0
          subst hu
          obtain ⟨ρ1, h1, h2⟩ := op_ok hS hm hf hb.1.1 key hb.1.2 hb.2
          obtain ⟨S', ρ', q1, q2, q3⟩ := runG_ok g h2 hs
          exact ⟨S', ρ', q1, h1.trans q2, q3⟩
        · cases hs
      · cases hs
    · cases hs
  | R, r, .fm id g, S, ρ, k, hS, hs => by
    simp only [runG] at hs
    split at hs
    · rename_i kk v path e u xs hm
      obtain ⟨S', ρ', q1, q2, q3⟩ := runG_ok g (fm_ok hS hm) hs
      exact ⟨S', ρ', q1, ⟨q2.fix, q2.fixM, q2.prot, q2.ag⟩, q3⟩
    · cases hs
  | R, r, .n _ _, S, ρ, k, hS, hs => by simp [runG] at hs
  | R, r, .nl _ _, S, ρ, k, hS, hs => by simp [runG] at hs
  | R, r, .md _ _, S, ρ, k, hS, hs => by simp [runG] at hs
  | R, r, .keep _ _, S, ρ, k, hS, hs => by simp [runG] at hs
  | R, r, .sp _ _ _ _ _ _ _ _, S, ρ, k, hS, hs => by simp [runG] at hs
  | R, r, .call _ _, S, ρ, k, hS, hs => by simp [runG] at hs
  | R, r, .tl _, S, ρ, k, hS, hs => by simp [runG] at hs
  | R, r, .dt id g, S, ρ, k, hS, hs => by
    simp only [runG] at hs
    split at hs
    · rename_i tid c hm
      obtain ⟨S', ρ', q1, q2, q3⟩ := runG_ok g (dt_ok hS hm) hs
      exact ⟨S', ρ', q1, ⟨q2.fix, q2.fixM, q2.prot, q2.ag⟩, q3⟩
    · cases hs
  | R, r, .so _ _ _, S, ρ, k, hS, hs => by simp [runG] at hs
  | R, r, .si _ _ _ _, S, ρ, k, hS, hs => by simp [runG] at hs
def TOk (P : Program) (ops : Array Oper) (Q : Act → Prop) (rest : List Oper) (X : Cx) (w : World) (S0 : XS) (β : Nat → Nat) (ρ : Nat → Value) {R : Type} (k : XS → Option R) (r : R) : Prop :=
  ∀ (β' : Nat → Nat) (ρ' : Nat → Value) (S' : XS) (a' : Act), k S' = some r → Keeps S0 S' β β' ρ ρ' → Rel X β' ρ' S'.flat a' w → wpStill P ops w Q rest a'
theorem TOk.after {ops : Array Oper} {Q : Act → Prop} {rest : List Oper} {k : XS → Option R} (h : TOk P ops Q rest X w S β ρ k r) {S1 : XS} {β1 : Nat → Nat} {ρ1 : Nat → Value} (hk : Keeps S S1 β β1 ρ ρ1) : TOk P ops Q rest X w S1 β1 ρ1 k r :=
  fun β' ρ' S' a' h1 h2 h3 => h β' ρ' S' a' h1 (hk.trans h2) h3
section
variable {ops : List Oper} {Qs : Act → Prop} {rest : List Oper} {k : XS → Option R}
theorem still_go {o : Oper} (hw : Region.wanted o (yielded ⟨ops⟩ a.tmps) = true) {v : Value} (hr : (execOp a.eval o).run P w = .ok (.value v) w) (h : wpStill P ⟨ops⟩ w Qs rest (a.put o.dst v)) : wpStill P ⟨ops⟩ w Qs (o :: rest) a := by
  unfold wpStill
  rw [if_pos hw]
  unfold Oper.still
  rw [hr, Oper.stillUpon_value]
  exact h
theorem still_skip {o : Oper} (hw : Region.wanted o (yielded ⟨ops⟩ a.tmps) = false) (h : wpStill P ⟨ops⟩ w Qs rest (a.put o.dst undef)) : wpStill P ⟨ops⟩ w Qs (o :: rest) a := by
  unfold wpStill
  rw [if_neg (by rw [hw]; simp)]
  exact h
theorem stepT_ok (hT : TabOk P Y.T) (hX : X.n = n) (hr : X.res = []) (h : Rel X β ρ S.flat a w) {o : Oper} (hw : Region.wanted o (yielded ⟨ops⟩ a.tmps) = true) (hs : stepT Y n o S k = some r) (H : TOk P ⟨ops⟩ Qs rest X w S β ρ k r) : wpStill P ⟨ops⟩ w Qs (o :: rest) a := by
  unfold stepT at hs
  split at hs
  · rename_i d hd
    obtain ⟨hb, hs⟩ := bvT hs
    obtain ⟨av, hk, hsem⟩ := stepQ_ok (P := P) hT rfl hs
    obtain ⟨h1, h2⟩ := okW_ok hb hX hr
    obtain ⟨cs, h3, h4⟩ := hsem h.toW (holdsC_nil a)
    refine still_go hw h3 ?_
    rw [hd]
    refine H β ρ _ _ hk (keeps_put S d [] av) ?_
    rw [put_flat h2]
    exact h.put0 h1 h4
  · cases hs
theorem skipT_ok (hX : X.n = n) (hr : X.res = []) (h : Rel X β ρ S.flat a w) {o : Oper} (hw : Region.wanted o (yielded ⟨ops⟩ a.tmps) = false) (hs : skipO n o S k = some r) (H : TOk P ⟨ops⟩ Qs rest X w S β ρ k r) : wpStill P ⟨ops⟩ w Qs (o :: rest) a := by
  refine still_skip hw ?_
  unfold skipO at hs
  split at hs
  · rename_i d hd
    obtain ⟨hb, hk⟩ := bvT hs
    obtain ⟨h1, h2⟩ := okW_ok hb hX hr
    rw [hd]
    refine H β ρ _ _ hk (keeps_put S d [] _) ?_
    rw [put_flat h2]
    exact h.put0 h1 (x := .tp .nil) (c := [.tuple #[]]) ⟨[], rfl, rfl⟩
  · rename_i hd
    rw [hd]
    exact H β ρ _ _ hs (Keeps.refl _ _ _) h
theorem stepCT_ok (hT : TabOk P Y.T) (hX : X.n = n) (hr : X.res = []) (h : Rel X β ρ S.flat a w) {o : Oper} {t : Nat} {want : Bool} (hg : gTmp ops o = some (some (t, want))) (hs : stepC Y n t want o S k = some r) (H : TOk P ⟨ops⟩ Qs rest X w S β ρ k r) :
    wpStill P ⟨ops⟩ w Qs (o :: rest) a := by
  unfold stepC at hs
  split at hs
  · rename_i t' cs b d he hd
    obtain ⟨hb, hs⟩ := bvT hs
    simp only [Bool.and_eq_true] at hb
    obtain ⟨h1, h2⟩ := okW_ok hb.1.1 hX hr
    have htd := neB hb.1.2
    have hud : ∀ c ∈ cs, c.1 ≠ d := usesT_ok (by simpa using hb.2)
    split at hs
    · rename_i v hv
      obtain ⟨hm, ht'⟩ := lookE_ok he
      simp only at ht'
      subst ht'
      have hkeep : ∀ u : Value, holdsC (a.put (some d) u) ((t', want) :: cs) ↔ holdsC a ((t', want) :: cs) := by
        intro u
        have hne : ∀ c ∈ (t', want) :: cs, c.1 ≠ d := by
          intro c hc
          rcases List.mem_cons.1 hc with rfl | hc
          · exact htd
          · exact hud c hc
        exact ⟨fun hc c hm => by rw [← put_other (hne c hm) u]; exact hc c hm, fun hc c hm => by rw [put_other (hne c hm) u]; exact hc c hm⟩
      by_cases hw : Region.wanted o (yielded ⟨ops⟩ a.tmps) = true
      · have htb := (wanted_iff hg).1 hw
        have hcs : holdsC a cs := by
          rcases (h.en hm).2 with h3 | h3
          · exact h3
          · simp only at h3; rw [rd_lt (lookE_lt he), htb] at h3; simp [undef] at h3
        have hcur : holdsC a ((t', want) :: cs) := by
          intro c hc
          rcases List.mem_cons.1 hc with rfl | hc
          · exact htb
          · exact hcs c hc
        obtain ⟨c, h3, h4⟩ := evalP_ok hT h.toW hcur hv
        refine still_go hw h3 ?_
        rw [hd]
        refine H β ρ _ _ hs (keeps_put S d _ _) ?_
        rw [put_flat h2]
        exact h.put h1 (fun _ => ⟨c, rfl, h4⟩) (.inl ((hkeep _).2 hcur))
      · have hw' : Region.wanted o (yielded ⟨ops⟩ a.tmps) = false := by simpa using hw
        refine still_skip hw' ?_
        rw [hd]
        refine H β ρ _ _ hs (keeps_put S d _ _) ?_
        rw [put_flat h2]
        refine h.put h1 (fun hc => ?_) (.inr rfl)
        have := (hkeep _).1 hc
        exact absurd ((wanted_iff hg).2 (this _ (.head _))) hw
    · cases hs
  · cases hs
theorem stepGT_ok (hT : TabOk P Y.T) (hX : X.n = n) (hr : X.res = []) (h : Rel X β ρ S.flat a w) {o : Oper} (hs : stepGT Y n ops o S k = some r) (H : TOk P ⟨ops⟩ Qs rest X w S β ρ k r) : wpStill P ⟨ops⟩ w Qs (o :: rest) a := by
  unfold stepGT at hs
  split at hs
  · rename_i hg
    exact stepT_ok hT hX hr h (wanted_none (gTmp_none hg) _) hs H
  · rename_i t want hg
    exact stepCT_ok hT hX hr h hg hs H
  · cases hs
theorem stepLT_ok (hT : TabOk P Y.T) (hX : X.n = n) (hr : X.res = []) (h : Rel X β ρ S.flat a w) {o : Oper} (hs : stepLT Y n ops o S k = some r) (H : TOk P ⟨ops⟩ Qs rest X w S β ρ k r) : wpStill P ⟨ops⟩ w Qs (o :: rest) a := by
  unfold stepLT at hs
  split at hs
  · rename_i hg
    exact stepT_ok hT hX hr h (wanted_none (gTmp_none hg) _) hs H
  · rename_i t want hg
    split at hs
    · rename_i t' b he
      obtain ⟨cs, h1, h2⟩ := h.get he (holdsC_nil a)
      have h2' : cs = _ := h2
      subst h2'
      have h1' : a.tmps[t]? = some (.bool b) := h1
      split at hs
      · rename_i hb
        have : b = want := by simpa using hb
        subst this
        exact stepT_ok hT hX hr h ((wanted_iff hg).2 h1') hs H
      · rename_i hb
        refine skipT_ok hX hr h ?_ hs H
        have hne : b ≠ want := by simpa using hb
        cases hw : Region.wanted o (yielded ⟨ops⟩ a.tmps) with
        | false => rfl
        | true =>
          have := (wanted_iff hg).1 hw
          rw [h1'] at this
          injection this with this
          injection this with this
          exact absurd this hne
    · rename_i t' he
      obtain ⟨cs, h1, vs, h2, h3⟩ := h.get he (holdsC_nil a)
      subst h2
      refine skipT_ok hX hr h ?_ hs H
      cases hw : Region.wanted o (yielded ⟨ops⟩ a.tmps) with
      | false => rfl
      | true =>
        have := (wanted_iff hg).1 hw
        rw [h1] at this
        injection this with this
        cases this
    · cases hs
  · cases hs
theorem runNT_ok (st : Oper → XS → (XS → Option R) → Option R)
    (hst : ∀ {o : Oper} {rest : List Oper} {S : XS} {β : Nat → Nat} {ρ : Nat → Value} {a : Act} {k : XS → Option R}, Rel X β ρ S.flat a w → st o S k = some r → TOk P ⟨ops⟩ Qs rest X w S β ρ k r → wpStill P ⟨ops⟩ w Qs (o :: rest) a) :
    ∀ {l1 rest : List Oper} {S : XS} {β : Nat → Nat} {ρ : Nat → Value} {a : Act} {k : XS → Option R}, Rel X β ρ S.flat a w → runN st l1 S k = some r → TOk P ⟨ops⟩ Qs rest X w S β ρ k r → wpStill P ⟨ops⟩ w Qs (l1 ++ rest) a
  | [], rest, S, β, ρ, a, k, h, hs, H => H β ρ S a hs (Keeps.refl _ _ _) h
  | o :: l1, rest, S, β, ρ, a, k, h, hs, H => by
    simp only [runN] at hs
    refine hst (rest := l1 ++ rest) h hs fun β' ρ' S' a' hk hkeep h' => ?_
    exact runNT_ok st hst h' hk (H.after hkeep)
end
theorem runT_ok (hT : TabOk P Y.T) (hX : X.n = n) (hr : X.res = []) {ops : List Oper} {Qs : Act → Prop} : ∀ {R : Type} {r : R} (h : Hn) {l rest : List Oper} {S : XS} {β : Nat → Nat} {ρ : Nat → Value} {a : Act} {k : XS → Option R},
    Rel X β ρ S.flat a w → runT Y n ops h l S k = some r → TOk P ⟨ops⟩ Qs rest X w S β ρ k r → wpStill P ⟨ops⟩ w Qs (l ++ rest) a
  | R, r, .done, l, rest, S, β, ρ, a, k, hS, hs, H => by
    cases l with
    | nil => exact H β ρ S a (by simpa [runT] using hs) (Keeps.refl _ _ _) hS
    | cons o l => simp [runT] at hs
  | R, r, .n m g, l, rest, S, β, ρ, a, k, hS, hs, H => by
    simp only [runT] at hs
    have := runNT_ok (P := P) (X := X) (w := w) (r := r) (stepGT Y n ops) (fun h1 h2 h3 => stepGT_ok hT hX hr h1 h2 h3) (l1 := l.take m) (rest := l.drop m ++ rest) hS hs fun β' ρ' S' a' h1 h2 h3 => runT_ok hT hX hr g h3 h1 (H.after h2)
    rwa [← List.append_assoc, List.take_append_drop] at this
  | R, r, .nl m g, l, rest, S, β, ρ, a, k, hS, hs, H => by
    simp only [runT] at hs
    have := runNT_ok (P := P) (X := X) (w := w) (r := r) (stepLT Y n ops) (fun h1 h2 h3 => stepLT_ok hT hX hr h1 h2 h3) (l1 := l.take m) (rest := l.drop m ++ rest) hS hs fun β' ρ' S' a' h1 h2 h3 => runT_ok hT hX hr g h3 h1 (H.after h2)
    rwa [← List.append_assoc, List.take_append_drop] at this
  | R, r, .call c g, l, rest, S, β, ρ, a, k, hS, hs, H => by simp [runT] at hs
  | R, r, .fz id g, l, rest, S, β, ρ, a, k, hS, hs, H => by simp [runT] at hs
  | R, r, .keep ts g, l, rest, S, β, ρ, a, k, hS, hs, H => by simp [runT] at hs
  | R, r, .md m g, l, rest, S, β, ρ, a, k, hS, hs, H => by simp [runT] at hs
  | R, r, .mt _ _ _ _, l, rest, S, β, ρ, a, k, hS, hs, H => by simp [runT] at hs
  | R, r, .op _ _ _ _, l, rest, S, β, ρ, a, k, hS, hs, H => by simp [runT] at hs
  | R, r, .fm _ _, l, rest, S, β, ρ, a, k, hS, hs, H => by simp [runT] at hs
  | R, r, .tl g, l, rest, S, β, ρ, a, k, hS, hs, H => by simp [runT] at hs
  | R, r, .dt _ g, l, rest, S, β, ρ, a, k, hS, hs, H => by simp [runT] at hs
  | R, r, .si _ _ _ _, l, rest, S, β, ρ, a, k, hS, hs, H => by simp [runT] at hs
  | R, r, .so t x y, l, rest, S, β, ρ, a, k, hS, hs, H => by simp [runT] at hs
  | R, r, .sp t m ks ms Γ x y g, l, rest, S, β, ρ, a, k, hS, hs, H => by
    simp only [runT] at hs
    split at hs
    · rename_i t' v he
      have ht' : t' = t := (lookE_ok he).2
      subst ht'
      obtain ⟨hb, hs⟩ := bvT hs
      obtain ⟨z, hz, hs⟩ := bindE hs
      have hp := put_lit hS he
      have fin : TOk P ⟨ops⟩ Qs (l.drop m ++ rest) X w ((XS.put S t' [] (.d .bool v)).ent ks ms) β ρ (fun S' => S'.dec Γ) z := by
        intro β1 ρ1 S' a' hd hk h1
        obtain ⟨β2, ρ2, h2, h3⟩ := dec_re (S0 := (XS.put S t' [] (.d .bool v)).ent ks ms) h1 ⟨hk.fix, hk.fixM, hk.prot⟩ hd
        rw [← out_flat] at h3
        refine runT_ok hT hX hr g h3 hs (H.after ⟨rfl, rfl, rfl, ?_⟩)
        exact agP.trans hk.ag h2
      have e : l ++ rest = l.take m ++ (l.drop m ++ rest) := by rw [← List.append_assoc, List.take_append_drop]
      rw [e]
      cases v with
      | true =>
        rw [if_pos rfl] at hz
        exact runT_ok hT hX hr x (hp.ent ks ms) hz fin
      | false =>
        rw [if_neg (by simp)] at hz
        exact runT_ok hT hX hr y (hp.ent ks ms) hz fin
    · cases hs
theorem Rel.drew (h : Rel X β ρ S.flat a w) : Rel X β ρ S.flat a { w with drawn := w.drawn + 1 } := Sb.below h ((Below.refl _ _).drew)
end
end Gx

/- A region whose order is drawn, by an invariant alone. -/
namespace Gx
open Go Go.RowKit Gd
set_option linter.unusedVariables false
set_option linter.unusedSimpArgs false
section
variable {P : Program} {a : Act} {w : World}
theorem draw_rule0 (I : (Nat → Bool) → Act → World → Prop) {id : Nat} {l : List Oper} {Q : Exit → Act → World → Prop} (hm : P.follows .mixedOrders = true) (p : Nat) (hIE : ∀ (E E' : Nat → Bool) (a : Act) (w : World), (∀ i, i < p → E i = E' i) → I E a w → I E' a w)
    (hple : Nat.ble p l.length = true) (hback : Gd.backB l = true) (hfin : finL l p = true) (h0 : I (fun _ => false) a w.drew)
    (hstep : ∀ (E : Nat → Bool) (i : Nat) (o : Oper) (a : Act) (w : World) (Q' : Exit → Act → World → Prop), i < p → l[i]? = some o → closed l (fun j => E j = true) → E i = false → (∀ e ∈ o.after.toList, Region.binds .any e = true → E e.on = true) → I E a w →
      (∀ a' w', I (fun j => j == i || E j) a' w' → Q' .normal a' w') → wpList P ⟨l⟩ Q' [o] a w)
    (hend : ∀ a' w', I (fun _ => true) a' w' → wpList P ⟨l⟩ Q (l.drop p) a' w') :
    (Code.region id ⟨l⟩ true).wp P Q a w := by
  refine wp_region_any hm ?_
  have hpl := Nat.le_of_ble_eq_true hple
  let E (listed : Array Bool) : Nat → Prop := fun i => listed.getD i false = true
  let J1 (listed : Array Bool) (a : Act) (w : World) : Prop := (∀ k, p ≤ k → ¬ E listed k) ∧ I (fun i => listed.getD i false) a w
  let J (listed : Array Bool) (a : Act) (w : World) : Prop := listed.size = l.length ∧ closed l (E listed) ∧
    (J1 listed a w ∨ (∃ k, p < k ∧ (∀ i, i < l.length → (E listed i ↔ i < k)) ∧ wpList P ⟨l⟩ Q (l.drop k) a w))
  have hset : ∀ (listed : Array Bool) (i j : Nat), listed.size = l.length → i < l.length → (E (listed.setIfInBounds i true) j ↔ (j = i ∨ E listed j)) := by
    intro listed i j hs hi
    simp only [E, Array.getD_eq_getD_getElem?, Array.getElem?_setIfInBounds, hs]
    by_cases hj : i = j
    · subst hj; simp [hi]
    · have hj' : ¬ j = i := fun e => hj e.symm
      simp [hj, hj']
  have hsetB : ∀ (listed : Array Bool) (i j : Nat), listed.size = l.length → i < l.length → (listed.setIfInBounds i true).getD j false = (j == i || listed.getD j false) := by
    intro listed i j hs hi
    have := hset listed i j hs hi
    simp only [E] at this
    cases h1 : (listed.setIfInBounds i true).getD j false with
    | true =>
      rcases this.1 h1 with rfl | h2
      · simp
      · simp [h2]
    | false =>
      cases h2 : (j == i || listed.getD j false) with
      | false => rfl
      | true =>
        simp only [Bool.or_eq_true, beq_iff_eq] at h2
        rw [this.2 h2] at h1; cases h1
  have hgo : ∀ listed a w, J1 listed a w → (∀ j, j < p → E listed j) → wpList P ⟨l⟩ Q (l.drop p) a w := by
    rintro listed a w ⟨hno, hI⟩ hall
    exact hend a w (hIE _ _ a w (fun i hi => hall i hi) hI)
  have hdone : ∀ listed a w, J listed a w → (∀ i, i < l.length → E listed i) → Q .normal a w := by
    rintro listed a w ⟨hs, hc, h1 | ⟨k, hk, hE, hw⟩⟩ hall
    · have hpm : p = l.length := by
        rcases Nat.lt_or_ge p l.length with hlt | hge
        · exact absurd (hall p hlt) (h1.1 p (Nat.le_refl _))
        · omega
      have := hgo listed a w h1 fun i hi => hall i (by omega)
      rw [hpm, List.drop_length] at this
      exact this
    · have hkl : l.length ≤ k := by
        rcases Nat.lt_or_ge k l.length with hlt | hge
        · have := (hE k hlt).1 (hall k hlt); omega
        · exact hge
      rw [List.drop_eq_nil_of_le hkl] at hw
      exact hw
  have step1 : ∀ (listed : Array Bool) (a : Act) (w : World) (i : Nat) (o : Oper) (Q' : Exit → Act → World → Prop), listed.size = l.length → closed l (E listed) → J1 listed a w → i < p → l[i]? = some o → ¬ E listed i →
      (∀ e ∈ o.after.toList, Region.binds .any e = true → listed.getD e.on false = true) → (∀ a' w', J1 (listed.setIfInBounds i true) a' w' → Q' .normal a' w') → wpList P ⟨l⟩ Q' [o] a w := by
    rintro listed a w i o Q' hs hc ⟨hno, hI⟩ hip ho hniE hpre hK
    have hil : i < l.length := by omega
    have hnotE : listed.getD i false = false := by
      cases h1 : listed.getD i false with
      | false => rfl
      | true => exact absurd h1 hniE
    refine hstep (fun i => listed.getD i false) i o a w Q' hip ho hc hnotE hpre hI fun a' w' hI' => hK a' w' ⟨fun k hk hEk => ?_, hIE _ _ a' w' (fun j _ => (hsetB listed i j hs hil).symm) hI'⟩
    rw [hset listed i k hs hil] at hEk
    rcases hEk with rfl | hEk
    · omega
    · exact hno k hk hEk
  have main : ∀ (fuel : Nat) (listed : Array Bool) (a : Act) (w : World), J listed a w → ((List.range l.length).filter fun i => !listed.getD i false).length ≤ fuel → wpAny P .any ⟨l⟩ Q fuel listed a w := by
    intro fuel
    induction fuel with
    | zero =>
      intro listed a w hJ hle
      have hall : ∀ i, i < l.length → E listed i := by
        intro i hi
        cases hl : listed.getD i false with
        | true => exact hl
        | false =>
          have : i ∈ (List.range l.length).filter fun i => !listed.getD i false := List.mem_filter.2 ⟨List.mem_range.2 hi, by rw [hl]; rfl⟩
          have hnil := List.eq_nil_of_length_eq_zero (Nat.le_zero.1 hle)
          rw [hnil] at this; simp at this
      refine ⟨?_, hdone listed a w hJ hall⟩
      apply List.eq_nil_iff_forall_not_mem.2
      intro i hi
      rw [ready_iff] at hi
      have h1 := hall i hi.1
      have h2 := hi.2.1
      simp only [E] at h1
      have h3 : listed.getD i true = listed.getD i false := by simp [Array.getD, hJ.1, hi.1]
      rw [h3, h1] at h2; cases h2
    | succ fuel ih =>
      intro listed a w hJ hle
      refine ⟨fun hr => hdone listed a w hJ (all_listed hJ.1 hback hr), fun i hi => ?_⟩
      rw [ready_iff] at hi
      obtain ⟨hil, hnl, o, ho, hpre⟩ := hi
      obtain ⟨hs, hc, hcase⟩ := hJ
      have hniE : ¬ E listed i := by
        intro hE
        have h3 : listed.getD i true = listed.getD i false := by simp [Array.getD, hs, hil]
        rw [h3] at hnl; simp only [E] at hE; rw [hE] at hnl; cases hnl
      have hcl : closed l (E (listed.setIfInBounds i true)) := by
        intro j oj hj hoj e he hb
        rw [hset listed i _ hs hil] at hj ⊢
        rcases hj with rfl | hj
        · rw [ho] at hoj; injection hoj with hoj; subst hoj
          exact .inr (hpre e he hb)
        · exact .inr (hc j oj hj hoj e he hb)
      have hcnt : ((List.range l.length).filter fun j => !(listed.setIfInBounds i true).getD j false).length ≤ fuel := by
        have hlt : ((List.range l.length).filter fun j => !(listed.setIfInBounds i true).getD j false).length < ((List.range l.length).filter fun j => !listed.getD j false).length := by
          apply draw_ruleB.filter_lt (x := i)
          · intro j hj
            have := hset listed i j hs hil
            simp only [E] at this
            cases h1 : listed.getD j false with
            | false => rfl
            | true => rw [this.2 (.inr h1)] at hj; cases hj
          · exact List.mem_range.2 hil
          · have := (hset listed i i hs hil).2 (.inl rfl)
            simp only [E] at this; rw [this]; rfl
          · cases h1 : listed.getD i false with
            | true => exact absurd h1 hniE
            | false => rfl
        omega
      rcases hcase with hJ1 | ⟨k, hk, hE, hw⟩
      · rcases Nat.lt_or_ge i p with hip | hip
        ·
          exact wpOp_of_list ho (step1 listed a w i o (Exit.then (wpAny P .any ⟨l⟩ Q fuel (listed.setIfInBounds i true)) Q) hs hc hJ1 hip ho hniE hpre fun a' w' hJ1 => ih _ a' w' ⟨by simp [hs], hcl, .inl hJ1⟩ hcnt)
        ·
          have hall : ∀ j, j < i → E listed j := fun j hj => behind_ok hc l.length i j (fin_okL hfin hip hil hj) fun o' ho' => by rw [ho] at ho'; injection ho' with ho'; subst ho'; exact hpre
          have hip' : i = p := by
            rcases Nat.lt_or_ge p i with hlt | hge
            · exact absurd (hall p hlt) (hJ1.1 p (Nat.le_refl _))
            · omega
          subst hip'
          have hw := hgo listed a w hJ1 hall
          refine wpOp_mono (fun a w hw' => ih _ a w ⟨by simp [hs], hcl, .inr ⟨i + 1, by omega, fun j hj => ?_, hw'⟩⟩ hcnt) (wpOp_of_drop ho hw)
          rw [hset listed i j hs hil]
          constructor
          · rintro (rfl | hEj)
            · omega
            · rcases Nat.lt_or_ge j i with h1 | h1
              · omega
              · exact absurd hEj (hJ1.1 j h1)
          · intro hlt
            rcases Nat.lt_or_ge j i with h1 | h1
            · exact .inr (hall j h1)
            · exact .inl (by omega)
      ·
        have hall : ∀ j, j < i → E listed j := by
          intro j hj
          have hpi : p < i := by
            rcases Nat.lt_or_ge i k with h1 | h1
            · exact absurd ((hE i hil).2 h1) hniE
            · omega
          exact behind_ok hc l.length i j (fin_okL hfin (by omega) hil hj) fun o' ho' => by rw [ho] at ho'; injection ho' with ho'; subst ho'; exact hpre
        have hik : i = k := by
          rcases Nat.lt_or_ge i k with h1 | h1
          · exact absurd ((hE i hil).2 h1) hniE
          · rcases Nat.lt_or_ge k i with h2 | h2
            · have := (hE k (by omega)).1 (hall k h2); omega
            · omega
        subst hik
        refine wpOp_mono (fun a w hw' => ih _ a w ⟨by simp [hs], hcl, .inr ⟨i + 1, by omega, fun j hj => ?_, hw'⟩⟩ hcnt) (wpOp_of_drop ho hw)
        rw [hset listed i j hs hil, hE j hj]
        constructor
        · rintro (rfl | h1) <;> omega
        · intro h1
          rcases Nat.lt_or_ge j i with h2 | h2
          · exact .inr h2
          · exact .inl (by omega)
  refine main _ _ a _ ⟨by simp, fun i o hE => ?_, .inl ⟨fun k _ hE => ?_, ?_⟩⟩ ?_
  · simp only [E] at hE; simp [Array.getD_eq_getD_getElem?, Array.getElem?_replicate] at hE
    split at hE <;> simp at hE
  · simp only [E] at hE; simp [Array.getD_eq_getD_getElem?, Array.getElem?_replicate] at hE
    split at hE <;> simp at hE
  · refine hIE (fun _ => false) _ a _ (fun i hi => ?_) h0
    simp only [Array.getD_eq_getD_getElem?, Array.getElem?_replicate]
    split <;> rfl
  · refine Nat.le_trans (List.length_filter_le _ _) (by simp)
end
end Gx
