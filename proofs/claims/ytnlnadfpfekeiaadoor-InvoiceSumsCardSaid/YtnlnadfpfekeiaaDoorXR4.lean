/- Behind an open region. -/
import Derived.Test.YtnlnadfpfekeiaaDoorXR3
namespace Gx
open Go Go.RowKit Gd
set_option linter.unusedVariables false
set_option linter.unusedSimpArgs false
section
variable {P : Program} {Y : TX} {Zs : List (Nat × Ob)} {n : Nat} {l0 : List Oper} {ds : List Nat} {S0 : XS} {R : Type} {r : R}
section
variable {X : Cx} {β : Nat → Nat} {ρ : Nat → Value} {a0 : Act} {w0 : World} {acc : Got}
theorem simT_trans {t1 t2 t3 : TL} (h : simT t1 t2) (k : simT t2 t3) : simT t1 t3 :=
  ⟨fun g => (k.1 g).trans (h.1 g), fun b o => (k.2.1 b o).trans (h.2.1 b o), fun ok w hp => k.2.2 ok w (h.2.2 ok w hp)⟩
theorem SimL_trans : ∀ {l1 l2 l3 : List TL}, SimL l1 l2 → SimL l2 l3 → SimL l1 l3
  | _, _, _, .nil, .nil => .nil
  | _, _, _, .cons h r, .cons k q => .cons (simT_trans h k) (SimL_trans r q)
def Qo (ds : List Nat) : Ob → Prop
  | .row _ _ _ => True
  | .tail _ _ _ => True
  | .var _ c => noneOf ds c = true
  | _ => False
theorem curO_src {E : Nat → Bool} {id : Nat} {ob : Ob} : ∀ {l : Got} {j : Nat} {c : Option Ob}, curO E id l j c = some ob → c = some ob ∨ ∃ (k : Nat) (g : Nat × AV × Gk), l[k]? = some g ∧ touches id g.1 g.2.2 = true ∧ ∃ c', curG id g.1 g.2.2 c' = some ob
  | [], j, c, h => .inl h
  | (d, v, q) :: l, j, c, h => by
    simp only [curO] at h
    rcases curO_src h with h1 | ⟨k, g, h1, h2, h3⟩
    · cases ht : touches id d q with
      | false =>
        rw [curG_no ht] at h1
        refine .inl ?_
        cases hE : E j <;> rw [hE] at h1 <;> exact h1
      | true =>
        cases hE : E j with
        | false => rw [hE] at h1; exact .inl h1
        | true => rw [hE] at h1; exact .inr ⟨0, (d, v, q), rfl, ht, c, h1⟩
    · exact .inr ⟨k + 1, g, by simpa using h1, h2, h3⟩
theorem cur_Q (hA : AccOk P Y Zs n l0 ds S0 acc) {id : Nat} {ob : Ob} {E : Nat → Bool} (h : curO E id acc 0 (lookM Zs id) = some ob) : lookM Zs id = some ob ∨ Qo ds ob := by
  rcases curO_src h with h | ⟨k, g, h1, h2, c', h3⟩
  · exact .inl h
  · obtain ⟨o, _, hG⟩ := hA.2 k g h1
    obtain ⟨d, v, q⟩ := g
    have hf := hG.fnd
    refine .inr ?_
    cases q with
    | v => cases h2
    | u => cases h2
    | c => cases h2
    | b ns => cases h2
    | r u e zs c =>
      have h2' : Nat.beq d id = true := h2
      simp only [curG, h2', cond_true, Option.some.injEq] at h3
      subst h3; trivial
    | o t c =>
      have h2' : Nat.beq d id = true := h2
      simp only [curG, h2', cond_true, Option.some.injEq] at h3
      subst h3
      obtain ⟨_, _, _, _, _, hids⟩ := hf.2.2
      exact noneOf_nil hids
    | t u e zs h0 =>
      simp only [curG] at h3
      cases hb : Nat.beq d id with
      | true =>
        simp only [hb, cond_true, Option.some.injEq] at h3
        subst h3; trivial
      | false =>
        have h2' : (Nat.beq d id || Nat.beq h0 id) = true := h2
        rw [hb] at h2'
        simp only [Bool.false_or] at h2'
        simp only [hb, cond_false, h2', cond_true] at h3
        cases h3
    | w j b0 =>
      have h2' : Nat.beq j id = true := h2
      simp only [curG, h2', cond_true, Option.some.injEq] at h3
      subst h3
      obtain ⟨_, _, _, _, _, _, _, _, _, _, _, hc⟩ := hf
      rcases hc with ⟨_, _, _, _, _, _, hno, rfl, _⟩ | ⟨_, _, _, _, _, _, _, _, _, _, _, _, _, _, _, _, _, rfl⟩
      · exact hno
      · trivial
theorem SimL_filter {β' : Nat → Nat} {ρ' : Nat → Value} {f : Nat → Option Ob} {g : Nat → Ob → TL} : ∀ {l : List Nat}, (∀ id ∈ l, ∀ ob, f id = some ob → simT (g id ob) (tlOf β' ρ' id ob)) → SimL (l.filterMap fun id => (f id).map (g id)) (memO β' ρ' (l.filterMap fun id => match f id with
    | some ob => some (id, ob)
    | none => none))
  | [], _ => .nil
  | id :: l, h => by
    have ih := SimL_filter (l := l) fun id' hm => h id' (.tail _ hm)
    simp only [List.filterMap_cons]
    cases hf : f id with
    | none => simpa using ih
    | some ob => exact .cons (h id (.head _) ob hf) ih
theorem fresh1 {d id : Nat} {ob : Ob} : ∀ {M : List (Nat × Ob)}, freshM d M = true → lookM M id = some ob → freshM d [(id, ob)] = true
  | [], _, h => by simp [lookM] at h
  | (k, x) :: l, hf, h => by
    simp only [lookM] at h
    have hs : freshM d [(k, x)] = true ∧ freshM d l = true := by
      cases x with
      | mapT kk v path e u xs hole =>
        cases hole <;> simp only [freshM, Bool.and_eq_true] at hf ⊢ <;> simp only [hf, and_self]
      | _ => simp only [freshM, Bool.and_eq_true] at hf ⊢; simp only [hf, and_self]
    cases hb : Nat.beq k id with
    | true =>
      rw [hb] at h
      simp only [cond_true, Option.some.injEq] at h
      subst h
      rw [← Nat.eq_of_beq_eq_true hb]; exact hs.1
    | false => rw [hb] at h; exact fresh1 hs.2 h
theorem own_fin (hA : AccOk P Y Zs n l0 ds S0 acc) (hdsE : ds = acc.map (·.1)) (hZf : ∀ d ∈ rowIds acc, d ∉ keysM Zs ∧ freshM d Zs = true) {a : Act} : SimL (OWx β ρ Zs acc allE a) (memO (updBk a (rowIds acc) β) (updV a (rowIds acc) ρ) (gotM Zs acc)) := by
  refine SimL_filter (f := fun id => curO allE id acc 0 (lookM Zs id)) fun id hid ob hob => ?_
  unfold tlX
  have hrd : ∀ d ∈ rowIds acc, d ∈ ds := fun d hd => by
    obtain ⟨v, q, hm, _⟩ := rowIds_mem.1 hd
    rw [hdsE]; exact List.mem_map.2 ⟨_, hm, rfl⟩
  cases hm : memN (rowIds acc) id with
  | true =>
    have hm' := memN_ok' hm
    have hq : Qo ds ob := by
      rcases cur_Q hA hob with h | h
      · rw [(freshM_look (hZf id hm').2).1] at h; cases h
      · exact h
    have hB := updP_at (a := a) (β := β) (ρ := ρ) hm'
    simp only [cond_true]
    cases ob with
    | row e t xs => simp only [tlAt, tlOf, hB.2]; exact simT.refl _
    | tail e t xs => simp only [tlAt, tlOf, hB.2]; exact simT.refl _
    | var t c =>
      simp only [tlAt, tlOf, hB.1]
      refine ⟨fun _ => Iff.rfl, fun _ _ => Iff.rfl, fun ok w ⟨cs, h1, h2⟩ => ⟨cs, h1, ?_⟩⟩
      have hn : ∀ d ∈ ds, noId d c = true := List.all_eq_true.1 hq
      exact updP_ind (C := fun β' ρ' => cr β' ρ' ok w false c cs) h2 fun d hd β1 ρ1 h1 => cr_noId (offBy_upd d β1 ρ1 _ _) (hn d (hrd d hd)) h1
    | map k v xs => exact hq.elim
    | mapT k v path e u xs hole => exact hq.elim
  | false =>
    simp only [cond_false]
    have hnr : id ∉ rowIds acc := fun h => by rw [memN_of h] at hm; cases hm
    have hfr : ∀ d ∈ rowIds acc, freshM d [(id, ob)] = true := fun d hd => by
      rcases cur_Q hA hob with h | h
      · exact fresh1 (hZf d hd).2 h
      · have hne : (!Nat.beq id d) = true := by
          rw [beqN fun (e : id = d) => hnr (by rw [e]; exact hd)]; rfl
        cases ob with
        | row e t xs => simp only [freshM, hne, Bool.and_self]
        | tail e t xs => simp only [freshM, hne, Bool.and_self]
        | var t c =>
          have hn : ∀ d ∈ ds, noId d c = true := List.all_eq_true.1 h
          simp only [freshM, hne, hn d (hrd d hd), Bool.and_self]
        | map k v xs => exact h.elim
        | mapT k v path e u xs hole => exact h.elim
    have := updP_ind (a := a) (l := rowIds acc) (β := β) (ρ := ρ) (C := fun β' ρ' => SimL (memO β ρ [(id, ob)]) (memO β' ρ' [(id, ob)])) (SimL.refl _) fun d hd β1 ρ1 h1 => SimL_trans h1 (sim_off (offBy_upd d β1 ρ1 _ _) (hfr d hd))
    simp only [memO, List.map_cons, List.map_nil] at this
    cases this with
    | cons h _ => exact h
theorem look_nodup : ∀ {M : List (Nat × Ob)}, (keysM M).Nodup → ∀ q ∈ M, lookM M q.1 = some q.2
  | [], _, q, h => by cases h
  | (k, x) :: l, hn, q, h => by
    have hn' := List.nodup_cons.1 (show (k :: keysM l).Nodup from hn)
    simp only [lookM]
    rcases List.mem_cons.1 h with rfl | h
    · simp [Nat.beq_refl]
    · have hne : k ≠ q.1 := fun e => hn'.1 (e ▸ List.mem_map.2 ⟨q, h, rfl⟩)
      rw [beqN hne]
      exact look_nodup hn'.2 q h
theorem OW_zero (hZn : (keysM Zs).Nodup) (hZf : ∀ d ∈ rowIds acc, d ∉ keysM Zs) {a : Act} : OWx β ρ Zs acc (fun _ => false) a = memO β ρ Zs := by
  unfold OWx namesZ
  have h0 : ∀ id c, curO (fun _ => false) id acc 0 c = c := fun id c => curO_late fun _ _ _ _ => rfl
  rw [List.filterMap_append]
  have e2 : (rowIds acc).filterMap (fX β ρ Zs acc (fun _ => false) a) = [] := by
    rw [List.filterMap_eq_nil_iff]
    intro d hd
    simp only [fX, h0]
    cases hl : lookM Zs d with
    | none => rfl
    | some ob => exact absurd (isSomeN_key (by rw [hl]; rfl)) (hZf d hd)
  rw [e2, List.append_nil]
  unfold keysM memO
  rw [List.filterMap_map, ← List.filterMap_eq_map]
  refine filterMap_same fun q hq => ?_
  simp only [Function.comp, fX, h0, look_nodup hZn q hq, Option.map_some, tlX]
  cases hm : memN (rowIds acc) q.1 with
  | false => rfl
  | true => exact absurd (List.mem_map.2 ⟨q, hq, rfl⟩) (hZf _ (memN_ok' hm))
theorem rowIds_sub : ∀ acc : Got, (rowIds acc).Sublist (acc.map (·.1))
  | [] => List.Sublist.refl _
  | (d, v, q) :: l => by
    have := rowIds_sub l
    cases q <;> simp only [rowIds, List.map_cons] <;> first | exact this.cons_cons _ | exact this.cons _
theorem remEs_mem : ∀ {ds : List Nat} {env : List En} {e : En}, e ∈ remEs env ds → e ∈ env ∧ ∀ d ∈ ds, noId d e.av = true ∧ e.t ≠ d ∧ ∀ c ∈ e.cs, c.1 ≠ d
  | [], env, e, h => ⟨h, by simp⟩
  | d :: ds, env, e, h => by
    obtain ⟨h1, h2⟩ := remEs_mem (ds := ds) h
    obtain ⟨h3, h4, h5⟩ := remE_mem h1
    obtain ⟨h6, h7⟩ := dropId_mem h3
    refine ⟨h6, fun d' hd => ?_⟩
    rcases List.mem_cons.1 hd with rfl | hd
    · exact ⟨h7, h4, h5⟩
    · exact h2 d' hd
theorem gotE_mem : ∀ {acc : Got} {e : En}, e ∈ gotE acc → ∃ q, (e.t, e.av, q) ∈ acc ∧ e.cs = [] ∧ isW q = false
  | [], e, h => by cases h
  | (d, v, q) :: l, e, h => by
    by_cases hw : isW q = true
    · cases q <;> simp [isW] at hw
      obtain ⟨q', h1, h2, h3⟩ := gotE_mem (acc := l) h
      exact ⟨q', .tail _ h1, h2, h3⟩
    · have h' : e ∈ ⟨d, [], v⟩ :: gotE l := by cases q <;> first | exact h | exact absurd rfl hw
      rcases List.mem_cons.1 h' with rfl | h'
      · exact ⟨q, .head _, rfl, by simpa using hw⟩
      · obtain ⟨q', h1, h2, h3⟩ := gotE_mem h'
        exact ⟨q', .tail _ h1, h2, h3⟩
theorem Sb.re0 {G : GL} {D : List DF} {O : List TL} {a' : Act} {w' : World} {β1 β2 : Nat → Nat} {f : Nat → Nat} (h : Sb β1 {X with pin := some f} G D [] O a' w') (hp : X.pin = none) (hG : ∀ q ∈ G, den β1 q.2 = den β2 q.2) : Sb β2 X G D [] O a' w' := by
  have hok : ∀ b o, okOf X.ok X.w.heap.size β1 [] O w' b o → okOf X.ok X.w.heap.size β2 [] O w' b o := fun b o ⟨h1, h2, _, h4⟩ => ⟨h1, h2, by simp, h4⟩
  exact { sz := h.sz, df := h.df, fr := h.fr, pn := fun g hg => (by rw [hp] at hg; cases hg), tm := fun q hq => (h.tm q hq).trans (congrArg some (hG q hq)), bel := h.bel, dat := h.dat.weak hok, obj := by simp,
          own := fun t ht => ⟨t.weak (h.own t ht).1 hok, (h.own t ht).2⟩, dHH := by simp, dHO := by simp, dOO := h.dOO }
theorem regionD_ok (hT : TabOk P Y.T) {K : List Con} (hK : ∀ c ∈ K, ConOk P Y.gl c ∧ Runs P c.f) (hG0 : GlobOk Y.gl (okN X) X.w) {hn : Hn} (hmix : P.follows .mixedOrders = true) (hX : X.n = n) (hr : X.res = []) (hp : X.pin = none) (hn9 : Nat.ble n 1000000000 = true) (hZb : nodupN (keysM Zs) = true) (hC : Rel X β ρ ⟨S0.flat.env, Zs ++ S0.flat.mem⟩ a0 w0) {p : Nat} (hb : drawB l0 p ds = true)
    {k : Hn → Got → Option R} (hs : runD Y n l0 ds Zs S0 K hn (l0.take p) 0 [] k = some r) {id : Nat} {Q : Exit → Act → World → Prop}
    (H : ∀ (β' : Nat → Nat) (ρ' : Nat → Value) (a' : Act) (w' : World) (acc : Got) (h' : Hn), k h' acc = some r → Keeps S0 (gotS S0 ds Zs acc) β β' ρ ρ' → Rel X β' ρ' (gotS S0 ds Zs acc).flat a' w' → wpList P ⟨l0⟩ Q (l0.drop p) a' w') :
    (Code.region id ⟨l0⟩ true).wp P Q a0 w0 := by
  have eM : memO β ρ (Zs ++ S0.flat.mem) = memO β ρ Zs ++ memO β ρ S0.flat.mem := List.map_append
  have h : Rel X β ρ S0.flat a0 w0 := Sb.subO hC (by rw [show memO β ρ (⟨S0.flat.env, Zs ++ S0.flat.mem⟩ : St).mem = _ from eM]; exact List.sublist_append_right _ _)
  have hZn := nodupN_ok hZb
  have hn9' := Nat.le_of_ble_eq_true hn9
  unfold drawB at hb
  simp only [Bool.and_eq_true] at hb
  obtain ⟨⟨⟨⟨hple, hlen⟩, hback⟩, hfin⟩, hndB⟩ := hb
  have hnd := nodupB_ok hndB
  have hpl := Nat.le_of_ble_eq_true hple
  have hdl := Nat.eq_of_beq_eq_true hlen
  obtain ⟨acc, ⟨h', hk⟩, htr⟩ := runD_ok (P := P) hT hK hs
  obtain ⟨hal, hall⟩ := htr.get
  simp only [List.nil_append] at hk
  have halen : acc.length = ds.length := by rw [hal, List.length_take, hdl]; omega
  have hA : AccOk P Y Zs n l0 ds S0 acc := by
    refine ⟨halen, fun i g hg => ?_⟩
    have hi : i < acc.length := by
      rcases Nat.lt_or_ge i acc.length with q | q
      · exact q
      · rw [List.getElem?_eq_none q] at hg; cases hg
    have hip : i < p := by omega
    have ho : l0[i]? = some l0[i] := List.getElem?_eq_getElem (by omega)
    obtain ⟨g', q1, q2⟩ := hall i l0[i] (by rw [List.getElem?_take, if_pos hip]; exact ho)
    rw [hg] at q1; injection q1 with q1; subst q1
    refine ⟨l0[i], ho, ?_⟩
    simpa using q2
  have hmemG : ∀ g ∈ acc, ∃ o i, acc[i]? = some g ∧ GotOk P Y Zs n l0 ds S0 o i (acc.take i) g := fun g hg => by
    obtain ⟨i, hi⟩ := List.getElem?_of_mem hg
    obtain ⟨o, _, hG⟩ := hA.2 i g hi
    exact ⟨o, i, hi, hG⟩
  have hdsE : ds = acc.map (·.1) := by
    refine List.ext_getElem? fun i => ?_
    rcases Nat.lt_or_ge i acc.length with hi | hi
    · rw [List.getElem?_map, List.getElem?_eq_getElem hi]
      obtain ⟨o, _, hG⟩ := hA.2 i acc[i] (List.getElem?_eq_getElem hi)
      exact some_getD (by omega) hG.ix
    · rw [List.getElem?_eq_none (by omega), List.getElem?_eq_none (by simpa using hi)]
  have hgds : ∀ g ∈ acc, g.1 ∈ ds := fun g hg => by rw [hdsE]; exact List.mem_map.2 ⟨g, hg, rfl⟩
  have hdsg : ∀ d ∈ ds, d < X.n → okD X d = true ∧ offF d S0.fix = true := fun d hd hlt => by
    rw [hdsE] at hd
    obtain ⟨g, hg, rfl⟩ := List.mem_map.1 hd
    obtain ⟨o, i, _, hG⟩ := hmemG g hg
    cases hq : isW g.2.2 with
    | false => exact okW_ok (hG.wr hq) hX hr
    | true =>
      have := (hG.ndst hq).2
      omega
  have hrow3 : ∀ d ∈ rowIds acc, d ∈ ds ∧ okB S0 d = true ∧ freshM d Zs = true ∧ d < X.n := fun d hd => by
    obtain ⟨v, q, hm, hq⟩ := rowIds_mem.1 hd
    obtain ⟨o, i, _, hG⟩ := hmemG _ hm
    refine ⟨hgds _ hm, ?_⟩
    cases q with
    | r u e zs c => exact ⟨(okZ_ok hG.fnd.2.1).1, (okZ_ok hG.fnd.2.1).2.1, okD_lt (okW_ok (hG.wr rfl) hX hr).1⟩
    | t u e zs c => exact ⟨(okZ_ok hG.fnd.2.1).1, (okZ_ok hG.fnd.2.1).2.1, okD_lt (okW_ok (hG.wr rfl) hX hr).1⟩
    | o t c => exact ⟨(okZ_ok hG.fnd.2.1).1, (okZ_ok hG.fnd.2.1).2.1, okD_lt (okW_ok (hG.wr rfl) hX hr).1⟩
    | _ => cases hq
  have hrow : ∀ d ∈ rowIds acc, d ∈ ds ∧ okB S0 d = true := fun d hd => ⟨(hrow3 d hd).1, (hrow3 d hd).2.1⟩
  have hZf : ∀ d ∈ rowIds acc, d ∉ keysM Zs ∧ freshM d Zs = true := fun d hd => ⟨(freshM_look (hrow3 d hd).2.2.1).2, (hrow3 d hd).2.2.1⟩
  have hN : (namesZ Zs acc).Nodup := by
    unfold namesZ
    rw [List.nodup_append]
    refine ⟨hZn, (hdsE ▸ hnd : (acc.map (·.1)).Nodup).sublist (rowIds_sub acc), fun x hx y hy e => ?_⟩
    subst e
    exact (hZf _ hy).1 hx
  have hSb : Sb (fun _ => 0) X (restG X ds a0) (S0.flat.env.map (enD β ρ a0)) [] (memO β ρ Zs ++ memO β ρ S0.flat.mem) a0 w0 := by
    rw [← eM]
    exact hC.toG.lessG fun q hq => (List.mem_filter.1 hq).1
  refine draw_ruleB (OWx β ρ Zs acc) (β := fun _ => 0) (G := restG X ds a0) (D := S0.flat.env.map (enD β ρ a0)) (H := []) (O := memO β ρ S0.flat.mem) hSb (by rw [OW_zero hZn fun d hd => (hZf d hd).1])
    (by rw [hr]; rfl) hmix p (fun E E' a hE => filterMap_same fun id _ => by
      unfold fX
      rw [curO_congr (E := E) (E' := E') fun k g hk _ => by rw [Nat.zero_add]; exact hE k (by have := acc_lt hk; omega)]) ds (acc.map (gotA β ρ)) hlen (by rw [List.length_map, halen]; exact hlen) hple hback hfin hndB (gotA_loc hA hnd)
    (AllB_all fun i _ => stepD_ok hT hG0 hX hr h hnd hA hdsE hN (fun d hd => (hZf d hd).1) i) fun β1 a' w' Ox hS' hOx hf0 => ?_
  have hS := hS'.perm (hOx.append_right _)
  have hf : ∀ (i : Nat) fv, (acc.map (gotA β ρ))[i]? = some fv → fv.p (okOf X.ok X.w.heap.size β1 [] (OWx β ρ Zs acc allE a' ++ memO β ρ S0.flat.mem) w') w' a' := fun i fv hi =>
    fv.weak (hf0 i fv hi) fun b o ⟨q1, q2, q3, q4⟩ => ⟨q1, q2, q3, fun u hu => q4 u ((hOx.append_right _).mem_iff.2 hu)⟩
  have hat : ∀ d ∈ rowIds acc, updG a' acc ρ d = a'.tmps.getD d undef := fun d hd => (updP_at (β := β) hd).2
  have hatB : ∀ d ∈ rowIds acc, updH a' acc β d = blkV (a'.tmps.getD d undef) := fun d hd => (updP_at (ρ := ρ) hd).1
  have hsim : SimL (memO β ρ S0.flat.mem) (memO (updH a' acc β) (updG a' acc ρ) S0.flat.mem) :=
    updP_ind (C := fun β' ρ' => SimL (memO β ρ S0.flat.mem) (memO β' ρ' S0.flat.mem)) (SimL.refl _) fun d hd β1 ρ1 h1 => SimL_trans h1 (sim_off (offBy_upd d β1 ρ1 _ _) (okB_ok (hrow d hd).2).1)
  have hcr : ∀ {ok : Ok} {w : World} {x : AV} {cs : List Value}, (∀ d ∈ rowIds acc, noId d x = true) → cr β ρ ok w false x cs → cr (updH a' acc β) (updG a' acc ρ) ok w false x cs := fun {ok w x cs} hn hc =>
    updP_ind (C := fun β' ρ' => cr β' ρ' ok w false x cs) hc fun d hd β1 ρ1 h1 => cr_noId (offBy_upd d β1 ρ1 _ _) (hn d hd) h1
  have hag : agP S0.prot β (updH a' acc β) ρ (updG a' acc ρ) :=
    updP_ind (C := fun β' ρ' => agP S0.prot β β' ρ ρ') (agP.refl _ _ _) fun d hd β1 ρ1 h1 => h1.trans (agP_off (okB_ok (hrow d hd).2).2.2 (offBy_upd d β1 ρ1 _ _))
  refine H (updH a' acc β) (updG a' acc ρ) a' w' acc h' hk ⟨rfl, rfl, rfl, hag⟩ ?_
  have hS0 := Sb.re0 (β2 := fun _ => 0) hS hp fun q hq => by rw [(restG_not hq).2.2]; rfl
  have hown : SimL (OWx β ρ Zs acc allE a') (memO (updH a' acc β) (updG a' acc ρ) (gotM Zs acc)) := own_fin hA hdsE hZf
  have hO : SimL (OWx β ρ Zs acc allE a' ++ memO β ρ S0.flat.mem) (memO (updH a' acc β) (updG a' acc ρ) (gotS S0 ds Zs acc).flat.mem) := by
    have e : memO (updH a' acc β) (updG a' acc ρ) (gotS S0 ds Zs acc).flat.mem = memO (updH a' acc β) (updG a' acc ρ) (gotM Zs acc) ++ memO (updH a' acc β) (updG a' acc ρ) S0.flat.mem := by simp [memO, gotS, XS.flat]
    rw [e]
    exact hown.append hsim
  have hS1 := hS0.simO hO
  have hok : ∀ b o, okOf X.ok X.w.heap.size β1 [] (OWx β ρ Zs acc allE a' ++ memO β ρ S0.flat.mem) w' b o → okR X (updH a' acc β) (updG a' acc ρ) (gotS S0 ds Zs acc).flat.mem w' b o := fun b o ⟨h1, h2, _, h4⟩ => hO.ok b o ⟨h1, h2, by simp, h4⟩
  have hoth : ∀ t, (t < X.n → t ∉ ds) → a'.tmps[t]? = a0.tmps[t]? := fun t ht => by
    rcases Nat.lt_or_ge t X.n with hlt | hge
    · have ht := ht hlt
      have := hS0.tm _ (restG_mem hlt ht a0)
      simp only [den_v] at this
      rw [this]
      have hlt' : t < a0.tmps.size := by rw [h.sz]; exact hlt
      simp [Array.getD_eq_getD_getElem?, Array.getElem?_eq_getElem hlt']
    · rw [Array.getElem?_eq_none (by rw [hS0.sz]; exact hge), Array.getElem?_eq_none (by rw [h.sz]; exact hge)]
  have hothR : ∀ t, (t < X.n → t ∉ ds) → rd a' t = rd a0 t := fun t ht => by unfold rd; rw [hoth t ht]
  have hold : ∀ e ∈ S0.flat.env, (∀ d ∈ rowIds acc, noId d e.av = true) → (∀ d ∈ ds, d < X.n → e.t ≠ d ∧ ∀ c ∈ e.cs, c.1 ≠ d) → (enD (updH a' acc β) (updG a' acc ρ) a' e).p (okR X (updH a' acc β) (updG a' acc ρ) (gotS S0 ds Zs acc).flat.mem w') w' := by
    intro e he h1 h2
    have hD := AllD_mem.1 hS0.dat _ (List.mem_map.2 ⟨e, he, rfl⟩)
    have het : e.t < X.n → e.t ∉ ds := fun hlt hm => (h2 _ hm hlt).1 rfl
    have hcs : ∀ c ∈ e.cs, c.1 < X.n → c.1 ∉ ds := fun c hc hlt hm => (h2 _ hm hlt).2 c hc rfl
    have hcc : holdsC a' e.cs ↔ holdsC a0 e.cs := ⟨fun hc c hm => by rw [← hoth _ (hcs c hm)]; exact hc c hm, fun hc c hm => by rw [hoth _ (hcs c hm)]; exact hc c hm⟩
    refine ⟨fun hc => ?_, ?_⟩
    · obtain ⟨cs, q1, q2⟩ := hD.1 (hcc.1 hc)
      refine ⟨cs, by rw [hothR _ het]; exact q1, cr_weak (hcr h1 q2) ?_⟩
      exact fun b o hbo => hO.ok b o hbo
    · rw [hcc, hothR _ het]; exact hD.2
  have hfin : Rel X (updH a' acc β) (updG a' acc ρ) ⟨(gotS S0 ds Zs acc).flat.env, (gotS S0 ds Zs acc).flat.mem⟩ a' w' := Rel.ofSb hS1 rfl fun e he => by
    have he' : e ∈ (gotE acc ++ remEs S0.env ds) ++ S0.fix := he
    rcases List.mem_append.1 he' with he' | he'
    · rcases List.mem_append.1 he' with he' | he'
      · obtain ⟨q, hm, hcs, hqw⟩ := gotE_mem he'
        obtain ⟨o, i, hi, hG⟩ := hmemG _ hm
        have hdi : ds[i]? = some e.t := by rw [hdsE, List.getElem?_map, hi]; rfl
        have hF := hf i (gotA β ρ (e.t, e.av, q)) (by rw [List.getElem?_map, hi]; rfl)
        have hoke := (okW_ok (hG.wr hqw) hX hr).1
        have hlt : e.t < a'.tmps.size := by rw [hS0.sz]; exact okD_lt hoke
        have hge : rd a' e.t = some (a'.tmps.getD e.t undef) := by rw [rd_lt (okD_small hoke)]; simp [Array.getD_eq_getD_getElem?, hlt]
        refine ⟨fun _ => ?_, .inl (by rw [hcs]; exact holdsC_nil a')⟩
        cases q with
        | v =>
          obtain ⟨cs, q1, q2⟩ := hF
          have hn := hG.fnd.2
          unfold noneOf at hn
          rw [List.all_eq_true] at hn
          exact ⟨cs, by rw [← q1]; exact hge, cr_weak (hcr (fun d hd => hn d (hrow d hd).1) q2) hok⟩
        | u =>
          have hav : e.av = .tp .nil := hG.fnd
          have hF' : a'.tmps.getD e.t undef = undef := hF
          rw [hav]
          exact ⟨[.tuple #[]], by rw [hge, hF']; rfl, [], rfl, rfl⟩
        | o t c =>
          obtain ⟨b, q1⟩ := hF
          have hav := hG.fnd.1
          have hid : e.t ∈ rowIds acc := rowIds_mem.2 ⟨_, _, hm, rfl⟩
          rw [hav]
          refine ⟨[.pointer (some ⟨updH a' acc β e.t, 0, none⟩)], ?_, rfl⟩
          rw [hatB _ hid, hge, q1]; rfl
        | w j0 b0 => cases hqw
        | b ns =>
          obtain ⟨cs, q1, q2⟩ := hF
          obtain ⟨_, hns, hids⟩ := hG.fnd
          refine ⟨cs, by rw [← q1]; exact hge, cr_weak (cr_agree (fun i hi => ?_) q2) hok⟩
          by_cases hmn : i ∈ ns
          · have hrw : i ∈ rowIds acc := by
              have := (hns i hmn).1
              obtain ⟨v', u, e1, zs, c, hm'⟩ := isRowG_mem this
              exact rowIds_mem.2 ⟨_, _, List.mem_of_mem_take hm', rfl⟩
            rw [hatB i hrw, hat i hrw, (updP_at (ρ := ρ) hmn).1, (updP_at (β := β) hmn).2]
            exact ⟨rfl, rfl⟩
          · have hnr : i ∉ rowIds acc := fun q => hmn (hids i hi (hrow i q).1)
            have p1 := updP_not (a := a') (β := β) (ρ := ρ) hmn
            have p2 := updP_not (a := a') (β := β) (ρ := ρ) hnr
            exact ⟨p2.1.trans p1.1.symm, p2.2.trans p1.2.symm⟩
        | r u e1 zs c =>
          obtain ⟨b, c0, q1⟩ := hF
          have hav := hG.fnd.1
          have hid : e.t ∈ rowIds acc := rowIds_mem.2 ⟨_, _, hm, rfl⟩
          rw [hav]
          refine ⟨[updG a' acc ρ e.t], ?_, ⟨_, rfl, .inl rfl⟩, ?_⟩
          · rw [hat _ hid]; exact hge
          · rw [hat _ hid]; exact ⟨_, _, _, q1⟩
        | t u e1 zs c =>
          obtain ⟨b, c0, q1⟩ := hF
          have hav := hG.fnd.1
          have hid : e.t ∈ rowIds acc := rowIds_mem.2 ⟨_, _, hm, rfl⟩
          rw [hav]
          refine ⟨[updG a' acc ρ e.t], ?_, ⟨_, rfl, .inl rfl⟩, ?_⟩
          · rw [hat _ hid]; exact hge
          · rw [hat _ hid]; exact ⟨_, _, _, q1⟩
        | c =>
          obtain ⟨t, hav, c1, c2, c3⟩ := hG.fnd
          obtain ⟨v', u, e1, zs, c, hm'⟩ := isRowG_mem c1
          have hm' := List.mem_of_mem_take hm'
          obtain ⟨i', hi'⟩ := List.getElem?_of_mem hm'
          obtain ⟨b, c0, q1⟩ := hf i' (gotA β ρ (t, v', Gk.r u e1 zs c)) (by rw [List.getElem?_map, hi']; rfl)
          have hid : t ∈ rowIds acc := rowIds_mem.2 ⟨_, _, hm', rfl⟩
          have hav' : e.av = .s t := hav
          rw [hav'] at hF ⊢
          have hF' : a'.tmps.getD e.t undef = a'.tmps.getD t undef := hF
          refine ⟨[updG a' acc ρ t], ?_, ⟨_, rfl, .inl rfl⟩, ?_⟩
          · rw [hat _ hid, ← hF']; exact hge
          · rw [hat _ hid]; exact ⟨_, _, _, q1⟩
      · obtain ⟨h1, h2⟩ := remEs_mem he'
        exact hold e (List.mem_append_left _ h1) (fun d hd => (h2 d (hrow d hd).1).1) fun d hd _ => (h2 d hd).2
    · refine hold e (List.mem_append_right _ he') (fun d hd => ?_) fun d hd hlt => offF_rem (hdsg d hd hlt).2 e he'
      exact offI_mem (okB_ok (hrow d hd).2).2.1 e he'
  exact hfin
end
end
end Gx
