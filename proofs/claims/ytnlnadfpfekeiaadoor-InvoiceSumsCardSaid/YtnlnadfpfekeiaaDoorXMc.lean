/- Maps whose values hold a slice that may be appended to: their entries. -/
import Derived.Test.YtnlnadfpfekeiaaDoorXE
namespace Gx
open Go Go.RowKit Gd
set_option linter.unusedVariables false
set_option linter.unusedSimpArgs false
section
variable {β : Nat → Nat} {ρ ρ' : Nat → Value} {ok : Ok} {w : World}
theorem slF_rep : ∀ {fs : Ty} {k : Nat} {t : Ty} {g : fs.De → t.De} {o : Nat} {x : fs.De} {cs : List Value}, slF fs k = some ⟨t, g, o⟩ → (rt fs).rep ok w x cs →
    ∃ c1 c2 c3, cs = c1 ++ c2 ++ c3 ∧ c1.length = o ∧ (rt t).rep ok w (g x) c2
  | .pr f r, 0, t, g, o, x, cs, h, ⟨c1, c2, e, h1, h2⟩ => by
    simp [slF] at h
    obtain ⟨rfl, h⟩ := h
    have h := eq_of_heq h
    injection h with hg ho
    subst hg; subst ho
    exact ⟨[], c1, c2, by simpa using e, rfl, h1⟩
  | .pr f r, k + 1, t, g, o, x, cs, h, ⟨c1, c2, e, h1, h2⟩ => by
    simp only [slF] at h
    split at h
    · rename_i t' g' o' hk
      simp at h
      obtain ⟨rfl, h⟩ := h
      have h := eq_of_heq h
      injection h with hg ho
      subst hg; subst ho
      obtain ⟨d1, d2, d3, q1, q2, q3⟩ := slF_rep hk h2
      refine ⟨c1 ++ d1, d2, d3, by rw [e, q1]; simp, ?_, q3⟩
      rw [List.length_append, q2, (rt f).len h1, rt_size]
    · cases h
  | .int _, 0, t, g, o, x, cs, h, hr => by
    simp [slF] at h; obtain ⟨rfl, h⟩ := h; have h := eq_of_heq h; injection h with hg ho; subst hg; subst ho
    exact ⟨[], cs, [], by simp, rfl, hr⟩
  | .bool, 0, t, g, o, x, cs, h, hr => by
    simp [slF] at h; obtain ⟨rfl, h⟩ := h; have h := eq_of_heq h; injection h with hg ho; subst hg; subst ho
    exact ⟨[], cs, [], by simp, rfl, hr⟩
  | .str, 0, t, g, o, x, cs, h, hr => by
    simp [slF] at h; obtain ⟨rfl, h⟩ := h; have h := eq_of_heq h; injection h with hg ho; subst hg; subst ho
    exact ⟨[], cs, [], by simp, rfl, hr⟩
  | .sl _, 0, t, g, o, x, cs, h, hr => by
    simp [slF] at h; obtain ⟨rfl, h⟩ := h; have h := eq_of_heq h; injection h with hg ho; subst hg; subst ho
    exact ⟨[], cs, [], by simp, rfl, hr⟩
  | .arr _ _, 0, t, g, o, x, cs, h, hr => by
    simp [slF] at h; obtain ⟨rfl, h⟩ := h; have h := eq_of_heq h; injection h with hg ho; subst hg; subst ho
    exact ⟨[], cs, [], by simp, rfl, hr⟩
  | .st _, 0, t, g, o, x, cs, h, hr => by
    simp [slF] at h; obtain ⟨rfl, h⟩ := h; have h := eq_of_heq h; injection h with hg ho; subst hg; subst ho
    exact ⟨[], cs, [], by simp, rfl, hr⟩
  | .int _, _ + 1, _, _, _, _, _, h, _ => by simp [slF] at h
  | .bool, _ + 1, _, _, _, _, _, h, _ => by simp [slF] at h
  | .str, _ + 1, _, _, _, _, _, h, _ => by simp [slF] at h
  | .sl _, _ + 1, _, _, _, _, _, h, _ => by simp [slF] at h
  | .arr _ _, _ + 1, _, _, _, _, _, h, _ => by simp [slF] at h
  | .st _, _ + 1, _, _, _, _, _, h, _ => by simp [slF] at h
  | .unit, _, _, _, _, _, _, h, _ => by simp [slF] at h
theorem slAt_rep : ∀ {path : List PS} {v u : Ty} {f : v.De → List u.De} {y : v.De} {cs : List Value}, slAt v path = some ⟨u, f⟩ → (rt v).rep ok w y cs →
    ∃ s, cs[offP path]? = some s ∧ isV (rSl (rt u)) ok w (f y) s
  | [], v, u, f, y, cs, h, hr => by
    cases v <;> simp [slAt] at h
    obtain ⟨rfl, h⟩ := h
    have h := eq_of_heq h
    subst h
    obtain ⟨s, hs, h1⟩ := hr
    refine ⟨s, by rw [hs]; rfl, ?_⟩
    exact isV_sl.2 h1
  | .f k off :: ps, v, u, f, y, cs, h, hr => by
    cases v <;> simp only [slAt] at h <;> first | (cases h; done) | skip
    rename_i fs
    split at h
    · rename_i t g o hk
      cases hb : Nat.beq o off with
      | false => rw [hb] at h; cases h
      | true =>
        rw [hb] at h
        simp only [cond_true] at h
        have hbo := Nat.eq_of_beq_eq_true hb
        subst hbo
        split at h
        · rename_i u' f' hf
          simp at h
          obtain ⟨rfl, h⟩ := h
          have h := eq_of_heq h
          subst h
          obtain ⟨c1, c2, c3, e1, e2, e3⟩ := slF_rep hk (show (rt fs).rep ok w y cs from hr)
          obtain ⟨s, e4, e5⟩ := slAt_rep hf e3
          refine ⟨s, ?_, e5⟩
          have hlt : offP ps < c2.length := by
            rcases Nat.lt_or_ge (offP ps) c2.length with q | q
            · exact q
            · rw [List.getElem?_eq_none q] at e4; cases e4
          rw [e1]
          simp only [offP, PS.off]
          rw [List.append_assoc, List.getElem?_append_right (by omega), e2, Nat.add_sub_cancel_left, List.getElem?_append_left hlt]
          exact e4
        · cases h
    · cases h
  | .i _ _ :: _, v, _, _, _, _, h, _ => by cases v <;> simp [slAt] at h
theorem isV_cells {t : Ty} {x : t.De} {v : Value} (h : isV (rt t) ok w x v) : (rt t).rep ok w x (cellsL v) := by
  obtain ⟨cs, h1, h2⟩ := cr_of_isV (β := fun _ => 0) (ρ := fun _ => undef) h
  have := cellsL_val' h1 rfl rfl
  rw [h2, this]; exact h1
end
section
variable {k v u : Ty} {e off : Nat} {f : v.De → List u.De} {ok : Ok} {w : World} {hv : Value}
abbrev distP (vs : List Value) : Prop := vs.Pairwise fun a b => ∀ g, a.ownBlock = some g → b.ownBlock ≠ some g
theorem mapQ_all {hole : Option k.De} (hno : hole = none) {h2 : Option k.De} {hv2 : Value} : ∀ {xs : List (k.De × v.De)} {es : List MapEntry} {vs : List Value}, mapQ (rt k) (rt v) (rt u) e off f hole hv ok w xs es vs → (∀ x ∈ xs, h2 ≠ some x.1) → mapQ (rt k) (rt v) (rt u) e off f h2 hv2 ok w xs es vs
  | [], [], [], h, _ => h
  | x :: xs, en :: es, s :: vs, ⟨h1, h2', h3, h4⟩, hn => ⟨h1, h2', .inr ⟨hn x (.head _), by
      rcases h3 with ⟨q, _⟩ | ⟨_, q⟩
      · rw [hno] at q; cases q
      · exact q⟩, mapQ_all hno h4 fun y hy => hn y (.tail _ hy)⟩
  | [], [], _ :: _, h, _ => h.elim
  | [], _ :: _, _, h, _ => h.elim
  | _ :: _, [], _, h, _ => h.elim
  | _ :: _, _ :: _, [], h, _ => h.elim
theorem mapQ_none {kh : k.De} : ∀ {xs : List (k.De × v.De)} {es : List MapEntry} {vs : List Value}, mapQ (rt k) (rt v) (rt u) e off f (some kh) hv ok w xs es vs → kh ∉ xs.map Prod.fst → mapQ (rt k) (rt v) (rt u) e off f none hv ok w xs es vs
  | [], [], [], h, _ => h
  | x :: xs, en :: es, s :: vs, ⟨h1, h2', h3, h4⟩, hn => ⟨h1, h2', .inr ⟨by simp, by
      rcases h3 with ⟨q, _⟩ | ⟨_, q⟩
      · injection q with q; exact absurd (by simp [q]) hn
      · exact q⟩, mapQ_none h4 fun hm => hn (by simp only [List.map_cons, List.mem_cons]; exact .inr hm)⟩
  | [], [], _ :: _, h, _ => h.elim
  | [], _ :: _, _, h, _ => h.elim
  | _ :: _, [], _, h, _ => h.elim
  | _ :: _, _ :: _, [], h, _ => h.elim
theorem findL_not (hk : keyT k = true) {key : k.De} : ∀ {xs : List (k.De × v.De)}, key ∉ xs.map Prod.fst → findL key xs = none
  | [], _ => rfl
  | x :: xs, h => by
    simp only [List.map_cons, List.mem_cons, not_or] at h
    simp only [findL]
    cases he : eqK k key x.1 with
    | true => exact absurd ((eqK_iff hk).1 he) h.1
    | false => exact findL_not hk h.2
theorem findL_mem (hk : keyT k = true) {key : k.De} : ∀ {xs : List (k.De × v.De)}, findL key xs = none → key ∉ xs.map Prod.fst
  | [], _ => by simp
  | x :: xs, h => by
    simp only [findL] at h
    cases he : eqK k key x.1 with
    | true => rw [he] at h; cases h
    | false =>
      rw [he] at h
      simp only [List.map_cons, List.mem_cons, not_or]
      exact ⟨fun e' => (by rw [e', (eqK_iff hk).2 rfl] at he; cases he), findL_mem hk h⟩
theorem mapQ_open (hk : keyT k = true) {key : k.De} (hs : ∀ {y : v.De} {cs : List Value}, (rt v).rep ok w y cs → ∃ s, cs[off]? = some s ∧ isV (rSl (rt u)) ok w (f y) s) :
    ∀ {xs : List (k.De × v.De)} {es : List MapEntry} {vs : List Value}, mapQ (rt k) (rt v) (rt u) e off f none hv ok w xs es vs → (xs.map Prod.fst).Nodup → distP vs →
    (findL key xs = none ∧ ∀ sv, mapQ (rt k) (rt v) (rt u) e off f (some key) sv ok w xs es vs) ∨
    ∃ vs' sv y, findL key xs = some y ∧ mapQ (rt k) (rt v) (rt u) e off f (some key) sv ok w xs es vs' ∧ sv ∈ vs ∧ (∀ s ∈ vs', s = undef ∨ s ∈ vs) ∧ distP vs' ∧ (∀ s ∈ vs', ∀ g, s.ownBlock = some g → sv.ownBlock ≠ some g) ∧
      isV (rSl (rt u)) ok w (f y) sv ∧ ∃ ys, w.ownsRowS 0 e (rt u).size sv (lenV sv) ys
  | [], [], [], h, _, _ => .inl ⟨rfl, fun _ => trivial⟩
  | x :: xs, en :: es, s :: vs, ⟨h1, h2, h3, h4⟩, hnd, hdp => by
    have hnd' := List.nodup_cons.1 (by simpa using hnd : (x.1 :: xs.map Prod.fst).Nodup)
    have hdp' := List.pairwise_cons.1 hdp
    obtain ⟨q1, q2, q3⟩ : none ≠ some x.1 ∧ (∃ c, (cellsL en.val)[off]? = some c ∧ zal c s) ∧ ∃ ys, w.ownsRowS 0 e (rt u).size s (lenV s) ys := by
      rcases h3 with ⟨q, _⟩ | q
      · cases q
      · exact q
    simp only [findL]
    cases he : eqK k key x.1 with
    | true =>
      have hkx := (eqK_iff hk).1 he
      subst hkx
      obtain ⟨s', e1, e2⟩ := hs (isV_cells h2)
      have e2 : isV (rSl (rt u)) ok w (f x.2) s := by
        obtain ⟨c, qc, qz⟩ := q2
        rw [qc] at e1; injection e1 with e1; subst e1
        exact zal_isV' qz e2
      refine .inr ⟨undef :: vs, s, x.2, rfl, ⟨h1, h2, .inl ⟨rfl, rfl, q2⟩, mapQ_all rfl h4 fun y hy e' => ?_⟩, .head _, ?_, ?_, ?_, e2, q3⟩
      · injection e' with e'
        exact hnd'.1 (List.mem_map.2 ⟨y, hy, e'.symm⟩)
      · intro t ht
        rcases List.mem_cons.1 ht with rfl | ht
        · exact .inl rfl
        · exact .inr (.tail _ ht)
      · exact List.pairwise_cons.2 ⟨fun b hb g hg => (by cases hg), hdp'.2⟩
      · intro t ht g hg hg2
        rcases List.mem_cons.1 ht with rfl | ht
        · cases hg
        · exact hdp'.1 t ht g hg2 hg
    | false =>
      have hne : some key ≠ some x.1 := fun e' => by injection e' with e'; rw [e', (eqK_iff hk).2 rfl] at he; cases he
      rcases mapQ_open hk hs h4 hnd'.2 hdp'.2 with ⟨r1, r2⟩ | ⟨vs', sv, y, r1, r2, r3, r4, r5, r6, r7⟩
      · exact .inl ⟨r1, fun sv => ⟨h1, h2, .inr ⟨hne, q2, q3⟩, r2 sv⟩⟩
      · refine .inr ⟨s :: vs', sv, y, r1, ⟨h1, h2, .inr ⟨hne, q2, q3⟩, r2⟩, .tail _ r3, ?_, ?_, ?_, r7⟩
        · intro t ht
          rcases List.mem_cons.1 ht with rfl | ht
          · exact .inr (.head _)
          · exact (r4 t ht).imp id (.tail _)
        · refine List.pairwise_cons.2 ⟨fun b hb g hg => ?_, r5⟩
          rcases r4 b hb with rfl | hb
          · intro e'; cases e'
          · exact hdp'.1 b hb g hg
        · intro t ht g hg hg2
          rcases List.mem_cons.1 ht with rfl | ht
          · exact hdp'.1 sv r3 g hg hg2
          · exact r6 t ht g hg hg2
  | [], [], _ :: _, h, _, _ => h.elim
  | [], _ :: _, _, h, _, _ => h.elim
  | _ :: _, [], _, h, _, _ => h.elim
  | _ :: _, _ :: _, [], h, _, _ => h.elim
theorem mapQ_close (hk : keyT k = true) {kh : k.De} {y : v.De} {nv sv : Value} (hnv : isV (rt v) ok w y nv) (hc : ∃ c, (cellsL nv)[off]? = some c ∧ zal c sv) (ho : ∃ ys, w.ownsRowS 0 e (rt u).size sv (lenV sv) ys) :
    ∀ {xs : List (k.De × v.De)} {es : List MapEntry} {vs : List Value}, mapQ (rt k) (rt v) (rt u) e off f (some kh) hv ok w xs es vs → (xs.map Prod.fst).Nodup → distP vs → (∀ s ∈ vs, ∀ g, s.ownBlock = some g → sv.ownBlock ≠ some g) →
    (findL kh xs = none ∧ distP (vs ++ [sv]) ∧ ∀ c, mapQ (rt k) (rt v) (rt u) e off f none hv ok w (putL kh y xs) (es ++ [⟨keyV k kh, nv, c⟩]) (vs ++ [sv])) ∨
    ∃ (j : Nat) (en : MapEntry) (vs' : List Value), es[j]? = some en ∧ en.key = keyV k kh ∧ (∃ y', findL kh xs = some y') ∧ (∀ i, i < j → ∀ x, xs[i]? = some x → eqK k kh x.1 = false) ∧ (∃ x, xs[j]? = some x ∧ eqK k kh x.1 = true) ∧ distP vs' ∧ (∀ s ∈ vs', s = sv ∨ s ∈ vs) ∧
      mapQ (rt k) (rt v) (rt u) e off f none hv ok w (putL kh y xs) (es.modify j fun e => { e with key := keyV k kh, val := nv }) vs'
  | [], [], [], h, _, _, _ => .inl ⟨rfl, by simp, fun c => ⟨isV_key hk kh, hnv, .inr ⟨by simp, hc, ho⟩, trivial⟩⟩
  | x :: xs, en :: es, s :: vs, ⟨h1, h2, h3, h4⟩, hnd, hdp, hds => by
    have hnd' := List.nodup_cons.1 (by simpa using hnd : (x.1 :: xs.map Prod.fst).Nodup)
    have hdp' := List.pairwise_cons.1 hdp
    simp only [findL, putL]
    cases he : eqK k kh x.1 with
    | true =>
      have hkx := (eqK_iff hk).1 he
      refine .inr ⟨0, en, sv :: vs, rfl, by rw [hkx]; exact keyV_rep hk h1, ⟨_, rfl⟩, fun i hi => by omega, ⟨x, rfl, he⟩, ?_, ?_, ⟨isV_key hk kh, hnv, .inr ⟨by simp, hc, ho⟩, mapQ_none h4 (by rw [hkx]; exact hnd'.1)⟩⟩
      · exact List.pairwise_cons.2 ⟨fun b hb g hg hg2 => hds b (.tail _ hb) g hg2 hg, hdp'.2⟩
      · intro t ht
        rcases List.mem_cons.1 ht with rfl | ht
        · exact .inl rfl
        · exact .inr (.tail _ ht)
    | false =>
      have hne : some kh ≠ some x.1 := fun e' => by injection e' with e'; rw [e', (eqK_iff hk).2 rfl] at he; cases he
      have h3' : (∃ c, (cellsL en.val)[off]? = some c ∧ zal c s) ∧ ∃ ys, w.ownsRowS 0 e (rt u).size s (lenV s) ys := by
        rcases h3 with ⟨q, _⟩ | ⟨_, q⟩
        · exact absurd q hne
        · exact q
      rcases mapQ_close hk hnv hc ho h4 hnd'.2 hdp'.2 (fun t ht => hds t (.tail _ ht)) with ⟨r1, r2, r3⟩ | ⟨j, en', vs', r1, r2, r3, r4, r5, r6, r7, r8⟩
      · refine .inl ⟨r1, ?_, fun c => ⟨h1, h2, .inr ⟨by simp, h3'⟩, r3 c⟩⟩
        refine List.pairwise_cons.2 ⟨fun b hb g hg => ?_, r2⟩
        rcases List.mem_append.1 hb with hb | hb
        · exact hdp'.1 b hb g hg
        · simp at hb; subst hb; exact hds s (.head _) g hg
      · refine .inr ⟨j + 1, en', s :: vs', by simpa using r1, r2, r3, ?_, by simpa using r5, ?_, ?_, ⟨h1, h2, .inr ⟨by simp, h3'⟩, r8⟩⟩
        · intro i hi x' hx'
          cases i with
          | zero => simp at hx'; subst hx'; exact he
          | succ i => exact r4 i (by omega) x' (by simpa using hx')
        · refine List.pairwise_cons.2 ⟨fun b hb g hg => ?_, r6⟩
          rcases r7 b hb with rfl | hb
          · exact hds s (.head _) g hg
          · exact hdp'.1 b hb g hg
        · intro t ht
          rcases List.mem_cons.1 ht with rfl | ht
          · exact .inr (.head _)
          · exact (r7 t ht).imp id (.tail _)
  | [], [], _ :: _, h, _, _, _ => h.elim
  | [], _ :: _, _, h, _, _, _ => h.elim
  | _ :: _, [], _, h, _, _, _ => h.elim
  | _ :: _, _ :: _, [], h, _, _, _ => h.elim
end
section
variable {P : Program} {Y : TX} {w : World}
theorem keyV_eq (hT : TabOk P Y.T) {kt : TypeId} {te : TE} (ht : lookT Y.T kt = some te) {t : Ty} (h : descK Y.T t te.d = true) {x y : t.De} (w0 : World) (he : keyV t x = keyV t y) : x = y := by
  have h1 := run_equalK hT ht h x y w0
  have h2 := run_equalK hT ht h y y w0
  rw [he, h2] at h1
  injection h1 with h1
  exact (eqK_iff (descK_key h)).1 (h1 ▸ (eqK_iff (descK_key h)).2 rfl)
theorem mapP_at {κ ν : Type} {rk : RT κ} {s : RT ν} {ok : Ok} {w : World} : ∀ {xs : List (κ × ν)} {es : List MapEntry} {j : Nat} {e : MapEntry}, mapP rk s ok w xs es → es[j]? = some e → ∃ x, xs[j]? = some x ∧ isV rk ok w x.1 e.key
  | [], es, j, e, h, he => by
    have : es = [] := h
    subst this; simp at he
  | x :: xs, es, j, e, ⟨e0, es', h0, h1, h2, h3⟩, he => by
    subst h0
    cases j with
    | zero => simp at he; subst he; exact ⟨x, rfl, h1⟩
    | succ j => obtain ⟨y, q1, q2⟩ := mapP_at h3 (by simpa using he); exact ⟨y, by simpa using q1, q2⟩
theorem mapQ_at {k v u : Ty} {e off : Nat} {f : v.De → List u.De} {ok : Ok} {w : World} {hole : Option k.De} {hv : Value} : ∀ {xs : List (k.De × v.De)} {es : List MapEntry} {vs : List Value} {j : Nat} {en : MapEntry}, mapQ (rt k) (rt v) (rt u) e off f hole hv ok w xs es vs → es[j]? = some en →
    ∃ x, xs[j]? = some x ∧ isV (rt k) ok w x.1 en.key ∧ isV (rt v) ok w x.2 en.val ∧ (hole = some x.1 → ∃ c, (cellsL en.val)[off]? = some c ∧ zal c hv)
  | [], [], [], j, en, h, he => by simp at he
  | x :: xs, en :: es, s :: vs, j, en', ⟨h1, h2, h3, h4⟩, he => by
    cases j with
    | zero =>
      simp at he; subst he
      refine ⟨x, rfl, h1, h2, fun hh => ?_⟩
      rcases h3 with ⟨_, _, q⟩ | ⟨q, _⟩
      · exact q
      · exact absurd hh q
    | succ j => obtain ⟨y, q1, q2⟩ := mapQ_at h4 (by simpa using he); exact ⟨y, by simpa using q1, q2⟩
  | [], [], _ :: _, _, _, h, _ => h.elim
  | [], _ :: _, _, _, _, h, _ => h.elim
  | _ :: _, [], _, _, _, h, _ => h.elim
  | _ :: _, _ :: _, [], _, _, h, _ => h.elim
def nilAt (cs : List Value) (o : Nat) : Bool := match cs[o]? with
  | some (.slice none 0 0) => true
  | _ => false
theorem nilAt_ok {cs : List Value} {o : Nat} (h : nilAt cs o = true) : cs[o]? = some (.slice none 0 0) := by
  unfold nilAt at h
  split at h
  · assumption
  · cases h
theorem look_hole (hT : TabOk P Y.T) {t kt et : TypeId} {te tk tz : TE} (hte : lookT Y.T t = some te) (htd : te.d = .map kt et) (htk : lookT Y.T kt = some tk) (htz : lookT Y.T et = some tz) {k v u : Ty} (hd : descK Y.T k tk.d = true)
    {β : Nat → Nat} {ρ : Nat → Value} {ok : Ok} {id h : Nat} {path : List PS} {e : TypeId} {xs : List (k.De × v.De)} {kh : k.De} (hp : (tlOf β ρ id (.mapT k v path e u xs (some (kh, h)))).p ok w)
    {z0 : v.De} (hzv : isV (rt v) ok w z0 tz.z) (hnil : nilAt (cellsL tz.z) (offP path) = true) {av : AV} (hav : setP path (.d v ((findL kh xs).getD z0)) (.s h) = some av) (hag : v.agg = av.isAgg) (c : Bool) :
    ∃ cs, (Instr.lookup t (.map (some (β id))) (keyV k kh) c).run P w = .ok (if c = true then .tuple #[av.val cs, .bool (findL kh xs).isSome] else av.val cs) w ∧ cr β ρ ok w false av cs := by
  obtain ⟨f, hf, es, clock, hg, hq, hnd, hst, hdp, hvg, habs⟩ := hp
  obtain ⟨v0, hrun, hv0, hcase⟩ := run_lookup hT hte htd htk htz hd hg (mapQ_P hq) kh hzv c
  have hcell : ∃ c0, (cellsL v0)[offP path]? = some c0 ∧ zal c0 (ρ h) := by
    rcases hcase with ⟨q1, rfl⟩ | ⟨j, en, q1, q2, rfl⟩
    · have : ρ h = .slice none 0 0 := habs kh rfl (findL_mem (descK_key hd) q1)
      rw [this]; exact ⟨_, nilAt_ok hnil, .inl rfl⟩
    · obtain ⟨x, r1, r2, r3, r4⟩ := mapQ_at hq q1
      have r5 := keyV_rep (descK_key hd) r2
      rw [q2] at r5
      have r6 := keyV_eq hT htk hd w r5
      exact r4 (by show some kh = _; rw [r6])
  obtain ⟨c0, hcell, hz0⟩ := hcell
  have hrep := isV_cells hv0
  obtain ⟨s, s1, s2⟩ := slAt_rep hf hrep
  rw [hcell] at s1; injection s1 with s1; subst s1
  have hsl : cr β ρ ok w false (.s h) [c0] := ⟨⟨_, rfl, hz0⟩, by
    rcases hz0 with rfl | ⟨h0, _⟩
    · obtain ⟨A, n, c, h1, _⟩ := isV_sl.1 s2; exact ⟨A, n, c, h1⟩
    · exact ⟨_, _, _, h0⟩⟩
  obtain ⟨p1, p2⟩ := setP_ok hsl hav (show cr β ρ ok w false (.d v ((findL kh xs).getD z0)) (cellsL v0) from hrep)
  have hlt : offP path < (cellsL v0).length := (List.getElem?_eq_some_iff.1 hcell).1
  have hsame : (cellsL v0).take (offP path) ++ [c0] ++ (cellsL v0).drop (offP path + [c0].length) = cellsL v0 := by
    have hget : (cellsL v0)[offP path] = c0 := (List.getElem?_eq_some_iff.1 hcell).2
    rw [← hget]
    simp
  rw [hsame] at p1
  refine ⟨cellsL v0, ?_, p1⟩
  have hval : av.val (cellsL v0) = v0 := by
    obtain ⟨cs, h1, h2⟩ := cr_of_isV (β := β) (ρ := ρ) hv0
    have h3 := cellsL_val' h1 rfl rfl
    rw [h2, h3]
    have : (AV.d v ((findL kh xs).getD z0)).isAgg = av.isAgg := hag
    simp only [AV.val, this]
  rw [hval]; exact hrun
end
end Gx
