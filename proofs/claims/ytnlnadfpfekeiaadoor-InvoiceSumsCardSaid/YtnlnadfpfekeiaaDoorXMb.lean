/- Maps whose values hold a slice that may be appended to: opened, closed, made, frozen. -/
import Derived.Test.YtnlnadfpfekeiaaDoorXL
namespace Gd
open Go Go.RowKit
section
variable {β : Nat → Nat} {X : Cx} {G : GL} {D : List DF} {H : HL} {O : List TL} {a : Act} {w w' : World}
theorem Sb.repl {A A' R : List TL} (h : Sb β X G D [] (A ++ R) a w) (hos : w'.os = w.os) (htp : w'.tape = w.tape) (hout : w'.output = w.output) (hsz : w.heap.size = w'.heap.size) {L : List Nat}
    (hblk : ∀ b, b ∉ L → w'.heap[b]? = w.heap[b]?) (hL : ∀ g ∈ L, ∃ t ∈ A, ∀ o, t.cov g o)
    (hb' : ∀ t ∈ A', ∀ g, t.blks g → ∃ s ∈ A, s.blks g) (hc' : ∀ t ∈ A', ∀ b o, t.cov b o → ∃ s ∈ A, s.cov b o)
    (hp : Evo (okOf X.ok X.w.heap.size β [] (A ++ R) w) w w' → (∀ b o, okOf X.ok X.w.heap.size β [] (A ++ R) w b o → okOf X.ok X.w.heap.size β [] (A' ++ R) w' b o) → ∀ t ∈ A', t.p (okOf X.ok X.w.heap.size β [] (A' ++ R) w') w')
    (hd : A'.Pairwise fun s t => ∀ g, s.blks g → ¬ t.blks g) : Sb β X G D [] (A' ++ R) a w' := by
  have hpw := List.pairwise_append.1 h.dOO
  have hLb : ∀ g ∈ L, ∃ t ∈ A, t.blks g := fun g hg => let ⟨t, ht, hc⟩ := hL g hg; ⟨t, ht, t.cb (hc 0)⟩
  have hevo : Evo (okOf X.ok X.w.heap.size β [] (A ++ R) w) w w' := Evo.of_blocks (Nat.le_of_eq hsz) fun b o hk => hblk b fun hb => by
    obtain ⟨t, ht, hc⟩ := hL b hb
    exact hk.2.2.2 t (by simp [ht]) (hc o)
  have hok : ∀ b o, okOf X.ok X.w.heap.size β [] (A ++ R) w b o → okOf X.ok X.w.heap.size β [] (A' ++ R) w' b o := by
    rintro b o ⟨h1, h2, h3, h4⟩
    refine ⟨h1, by omega, h3, fun u hu hc => ?_⟩
    rcases List.mem_append.1 hu with hu | hu
    · obtain ⟨s, hs, hsc⟩ := hc' u hu b o hc
      exact h4 s (by simp [hs]) hsc
    · exact h4 u (by simp [hu]) hc
  have hmine : ∀ t ∈ A', ∀ g, t.blks g → X.mine g := fun t ht g hg => let ⟨s, hs, hsg⟩ := hb' t ht g hg; (h.own s (by simp [hs])).2 g hsg
  refine { sz := h.sz, df := h.df, fr := h.fr, pn := h.pn, tm := h.tm, bel := ?_, dat := (h.dat.evo hevo).weak hok, obj := by simp, own := ?_, dHH := by simp, dHO := by simp, dOO := ?_ }
  · refine h.bel.trans ⟨hos, htp, hout, Nat.le_of_eq hsz, fun k hk hn => hblk k fun hb => ?_⟩
    obtain ⟨t, ht, hg⟩ := hLb k hb
    exact ((h.own t (by simp [ht])).2 k hg).elim (fun h => by omega) hn
  · intro u hu
    rcases List.mem_append.1 hu with hu | hu
    · exact ⟨hp hevo hok u hu, hmine u hu⟩
    · have := h.own u (by simp [hu] : u ∈ A ++ R)
      refine ⟨u.weak (u.keep this.1 (fun g hg => hblk g fun hb => ?_) hevo) hok, this.2⟩
      obtain ⟨t, ht, hg2⟩ := hLb g hb
      exact hpw.2.2 t ht u hu g hg2 hg
  · refine List.pairwise_append.2 ⟨hd, hpw.2.1, fun t ht u hu g hg hg2 => ?_⟩
    obtain ⟨s, hs, hsg⟩ := hb' t ht g hg
    exact hpw.2.2 s hs u hu g hsg hg2
end
end Gd
namespace Gx
open Go Go.RowKit Gd
set_option linter.unusedVariables false
set_option linter.unusedSimpArgs false
section
variable {β : Nat → Nat} {ρ ρ' : Nat → Value} {ok : Ok} {w : World}
theorem navA_nav : ∀ {ps : List PS} {x y : AV}, navA ps x = some y → nav ps x = some y
  | [], x, y, h => h
  | .f k off :: ps, x, y, h => by
    cases x <;> simp only [navA] at h <;> first | (cases h; done) | skip
    rename_i l
    simp only [nav, kidsOf]
    split at h
    · rename_i z0 o hk
      rw [hk]
      cases hb : Nat.beq o off with
      | false => rw [hb] at h; cases h
      | true => rw [hb] at h; simp only [hb, cond_true]; exact navA_nav h
    · cases h
  | .i _ _ :: _, x, y, h => by cases x <;> simp [navA] at h
theorem noSE_mem {d : Nat} : ∀ {l : List En}, noSE d l = true → ∀ e ∈ l, noS d e.av = true
  | [], _, e, he => by cases he
  | x :: l, h, e, he => by
    simp only [noSE, Bool.and_eq_true] at h
    rcases List.mem_cons.1 he with rfl | he
    · exact h.1
    · exact noSE_mem h.2 e he
theorem cr_noS {d : Nat} (ha : ∀ i, i ≠ d → ρ' i = ρ i) : ∀ {m : Bool} {x : AV} {cs : List Value}, noS d x = true → cr β ρ ok w m x cs → cr β ρ' ok w m x cs
  | m, .d t x, cs, _, h => by cases m <;> exact h
  | m, .p id path, cs, hn, h => by cases m <;> exact h
  | m, .e id path, cs, hn, h => by
    have := ha id (neB (by simpa [noS] using hn))
    cases m <;> (simp only [cr] at h ⊢; rw [this]; exact h)
  | m, .s id, cs, hn, h => by
    have := ha id (neB (by simpa [noS] using hn))
    cases m <;> (simp only [cr] at h ⊢; rw [this]; exact h)
  | m, .m id, cs, hn, h => by cases m <;> exact h
  | m, .w .., cs, hn, h => by cases m <;> exact h
  | m, .a t x, cs, _, h => by cases m <;> exact h
  | m, .z, cs, _, h => by cases m <;> exact h
  | m, .ns, cs, _, h => by cases m <;> exact h
  | m, .np, cs, _, h => by cases m <;> exact h
  | m, .nm, cs, _, h => by cases m <;> exact h
  | m, .nf, cs, _, h => by cases m <;> exact h
  | m, .f fn caps, cs, hn, h => by cases m <;> exact let ⟨vs, h1, h2⟩ := h; ⟨vs, h1, cr_noS ha (by simpa [noS] using hn) h2⟩
  | m, .ag l, cs, hn, h => by cases m <;> exact cr_noS ha (m := false) (x := l) (by simpa [noS] using hn) h
  | m, .tp l, cs, hn, h => by cases m <;> exact let ⟨vs, h1, h2⟩ := h; ⟨vs, h1, cr_noS ha (by simpa [noS] using hn) h2⟩
  | m, .nil, cs, _, h => by cases m <;> exact h
  | true, .cons x r, cs, hn, h => by
    simp only [noS, Bool.and_eq_true] at hn
    exact let ⟨c1, vs, h1, h2, h3⟩ := h; ⟨c1, vs, h1, cr_noS ha hn.1 h2, cr_noS ha hn.2 h3⟩
  | false, .cons x r, cs, hn, h => by
    simp only [noS, Bool.and_eq_true] at hn
    exact let ⟨c1, vs, h1, h2, h3⟩ := h; ⟨c1, vs, h1, cr_noS ha hn.1 h2, cr_noS ha hn.2 h3⟩
theorem sim_noS {d : Nat} (ha : ∀ i, i ≠ d → ρ' i = ρ i) : ∀ {M : List (Nat × Ob)}, noSM d M = true → SimL (memO β ρ M) (memO β ρ' M)
  | [], _ => .nil
  | (k, o) :: l, h => by
    have hk : k ≠ d ∧ noSM d l = true := by
      cases o with
      | mapT k1 v path e u xs hole => cases hole <;> simp only [noSM, Bool.and_eq_true] at h <;> first | exact ⟨neB h.1.1, h.2⟩ | exact ⟨neB h.1, h.2⟩
      | var t c => simp only [noSM, Bool.and_eq_true] at h; exact ⟨neB h.1.1, h.2⟩
      | _ => simp only [noSM, Bool.and_eq_true] at h; exact ⟨neB h.1, h.2⟩
    refine .cons ?_ (sim_noS ha hk.2)
    have h2 := ha k hk.1
    cases o with
    | var t c =>
      simp only [noSM, Bool.and_eq_true] at h
      refine ⟨fun g => Iff.rfl, fun b o => Iff.rfl, fun ok w hp => ?_⟩
      obtain ⟨cs, hh, hc⟩ := hp
      exact ⟨cs, hh, cr_noS ha h.1.2 hc⟩
    | row e t xs => simp only [tlOf, h2]; exact simT.refl _
    | tail e t xs => simp only [tlOf, h2]; exact simT.refl _
    | map k v xs => exact simT.refl _
    | mapT k1 v path e u xs hole =>
      have hv : holeV ρ' hole = holeV ρ hole := by
        cases hole with
        | none => rfl
        | some q =>
          simp only [noSM, Bool.and_eq_true] at h
          exact ha q.2 (neB h.1.2)
      simp only [tlOf, h2, hv]; exact simT.refl _
end
section
variable {X : Cx} {β β' : Nat → Nat} {ρ ρ' : Nat → Value} {S : XS} {a : Act} {w w' : World}
theorem Rel.permM {env : List En} {m m' : List (Nat × Ob)} (h : Rel X β ρ ⟨env, m⟩ a w) (hp : m.Perm m') : Rel X β ρ ⟨env, m'⟩ a w := Sb.perm h (hp.map _)
theorem lookM_perm {l : List (Nat × Ob)} {id : Nat} {o : Ob} (h : lookM l id = some o) : l.Perm ((id, o) :: remM l id) := by
  obtain ⟨l1, l2, e1, _, e3⟩ := lookM_split h
  rw [e3, e1]
  exact List.perm_middle
theorem lookM_remM {l : List (Nat × Ob)} {id d : Nat} (hne : id ≠ d) : lookM (remM l d) id = lookM l id := by
  induction l with
  | nil => rfl
  | cons q l ih =>
    simp only [remM]
    cases hb : Nat.beq q.1 d with
    | true =>
      have := Nat.eq_of_beq_eq_true hb
      simp only [cond_true, lookM]
      cases hb2 : Nat.beq q.1 id with
      | true => exact absurd ((Nat.eq_of_beq_eq_true hb2).symm.trans this) hne
      | false => rfl
    | false =>
      simp only [cond_false, lookM]
      cases Nat.beq q.1 id with
      | true => rfl
      | false => exact ih
theorem Rel.repl {env env' : List En} {A A' R : List (Nat × Ob)} (h : Rel X β ρ ⟨env, A ++ R⟩ a w) (hos : w'.os = w.os) (htp : w'.tape = w.tape) (hout : w'.output = w.output) (hsz : w.heap.size = w'.heap.size) {L : List Nat}
    (hblk : ∀ b, b ∉ L → w'.heap[b]? = w.heap[b]?) (hL : ∀ g ∈ L, ∃ t ∈ memO β ρ A, ∀ o, t.cov g o)
    (hb' : ∀ t ∈ memO β ρ' A', ∀ g, t.blks g → ∃ s ∈ memO β ρ A, s.blks g) (hc' : ∀ t ∈ memO β ρ' A', ∀ b o, t.cov b o → ∃ s ∈ memO β ρ A, s.cov b o)
    (hp : ∀ ok', Evo (okR X β ρ (A ++ R) w) w w' → (∀ b o, okR X β ρ (A ++ R) w b o → ok' b o) → ∀ t ∈ memO β ρ' A', t.p ok' w')
    (hd : (memO β ρ' A').Pairwise fun s t => ∀ g, s.blks g → ¬ t.blks g) (hR : SimL (memO β ρ R) (memO β ρ' R))
    (he : ∀ e ∈ env', e ∈ env ∧ ∀ (ok : Ok) (w : World) (cs : List Value), cr β ρ ok w false e.av cs → cr β ρ' ok w false e.av cs) : Rel X β ρ' ⟨env', A' ++ R⟩ a w' := by
  have h0 : Sb (fun _ => 0) X [] (env.map (enD β ρ a)) [] (memO β ρ A ++ memO β ρ R) a w := by
    have : memO β ρ (A ++ R) = memO β ρ A ++ memO β ρ R := List.map_append
    rw [← this]; exact h
  have e0 : memO β ρ (A ++ R) = memO β ρ A ++ memO β ρ R := List.map_append
  have h1 := h0.repl (A' := memO β ρ' A') (w' := w') hos htp hout hsz hblk hL hb' hc' (fun q1 q2 => hp _ (by simpa only [okR, e0] using q1) (by simpa only [okR, e0] using q2)) hd
  have h2 := h1.simO ((SimL.refl _).append hR)
  have e1 : memO β ρ' (A' ++ R) = memO β ρ' A' ++ memO β ρ' R := List.map_append
  refine Rel.ofSb h2 e1.symm fun e hm => ?_
  obtain ⟨q1, q2⟩ := he e hm
  have hD := AllD_mem.1 h2.dat _ (List.mem_map.2 ⟨e, q1, rfl⟩)
  rw [← e1] at hD
  exact ⟨fun hc => let ⟨cs, r1, r2⟩ := hD.1 hc; ⟨cs, r1, q2 _ _ _ r2⟩, hD.2⟩
theorem noSM_app {d : Nat} : ∀ {l m : List (Nat × Ob)}, noSM d l = true → noSM d m = true → noSM d (l ++ m) = true
  | [], m, _, h => h
  | (k, o) :: l, m, h, hm => by
    cases o with
    | mapT k1 v path e u xs hole => cases hole <;> simp only [noSM, Bool.and_eq_true, List.cons_append] at h ⊢ <;> exact ⟨h.1, noSM_app h.2 hm⟩
    | _ => simp only [noSM, Bool.and_eq_true, List.cons_append] at h ⊢; exact ⟨h.1, noSM_app h.2 hm⟩
theorem quietS_ok {id : Nat} (h : quietS S id = true) : (∀ e ∈ S.flat.env, noS id e.av = true) ∧ noSM id (remM S.mem id ++ S.fixM) = true ∧ memN S.prot id = false := by
  simp only [quietS, Bool.and_eq_true] at h
  refine ⟨fun e he => ?_, noSM_app h.1.1.2 h.1.2, by simpa using h.2⟩
  rcases List.mem_append.1 he with he | he
  · exact noSE_mem h.1.1.1.1 e he
  · exact noSE_mem h.1.1.1.2 e he
theorem toFront (h : Rel X β ρ S.flat a w) {id : Nat} {o : Ob} (hm : lookM S.mem id = some o) : Rel X β ρ ⟨S.flat.env, [(id, o)] ++ (remM S.mem id ++ S.fixM)⟩ a w := by
  have := Rel.permM (env := S.flat.env) (m := S.flat.mem) (m' := ((id, o) :: remM S.mem id) ++ S.fixM) h ((lookM_perm hm).append_right _)
  exact this
theorem okR_front {id : Nat} {o : Ob} (hm : lookM S.mem id = some o) {b f : Nat} (hbo : okR X β ρ S.flat.mem w b f) : okR X β ρ ([(id, o)] ++ (remM S.mem id ++ S.fixM)) w b f :=
  ⟨hbo.1, hbo.2.1, hbo.2.2.1, fun t ht => hbo.2.2.2 t (by
      have hpm : (memO β ρ S.flat.mem).Perm (memO β ρ ([(id, o)] ++ (remM S.mem id ++ S.fixM))) := List.Perm.map _ (by
        have := (lookM_perm hm).append_right S.fixM
        exact this)
      exact hpm.mem_iff.2 ht)⟩
theorem upd_ne {α : Type} {f : Nat → α} {d : Nat} {v : α} : ∀ i, i ≠ d → upd f d v i = f i := fun i h => upd_other f v h
theorem mt_ok (h : Rel X β ρ S.flat a w) {id : Nat} {k v : Ty} (hm : lookM S.mem id = some (.map k v [])) {path : List PS} {e : TypeId} {u : Ty} {f : v.De → List u.De} (hf : slAt v path = some ⟨u, f⟩) (hq : quietS S id = true) :
    ∃ ρ', Keeps S (S.swap id (.mapT k v path e u [] none)) β β ρ ρ' ∧ Rel X β ρ' (S.swap id (.mapT k v path e u [] none)).flat a w := by
  obtain ⟨q1, q2, q3⟩ := quietS_ok hq
  have hF := toFront h hm
  obtain ⟨⟨es, clock, hg, hp, hnd, hst⟩, _⟩ := h.ob (lookM_append hm)
  have hes : es.toList = [] := hp
  have e0 : vsOf (upd ρ id (.tuple #[]) id) = [] := by rw [upd_same]; rfl
  refine ⟨upd ρ id (.tuple #[]), ⟨rfl, rfl, rfl, agP_off q3 fun i hi => ⟨rfl, upd_ne i hi⟩⟩, ?_⟩
  refine Rel.repl (A' := [(id, .mapT k v path e u [] none)]) hF rfl rfl rfl rfl (L := []) (fun _ _ => rfl) (by simp) ?_ ?_ ?_ (by simp) (sim_noS upd_ne q2) fun e he => ⟨he, fun ok w cs hc => cr_noS upd_ne (q1 e he) hc⟩
  · intro t ht g hg
    have : t = tlOf β (upd ρ id (.tuple #[])) id (.mapT k v path e u [] none) := by simpa [memO] using ht
    subst this
    refine ⟨_, .head _, ?_⟩
    simp only [tlOf, tlMapT, e0] at hg
    rcases hg with hg | ⟨_, hv, _⟩
    · exact hg
    · cases hv
  · intro t ht b o hc
    have : t = tlOf β (upd ρ id (.tuple #[])) id (.mapT k v path e u [] none) := by simpa [memO] using ht
    subst this
    refine ⟨_, .head _, ?_⟩
    simp only [tlOf, tlMapT, e0] at hc
    rcases hc with hc | ⟨_, hv, _⟩
    · exact hc
    · cases hv
  · intro ok' _ _ t ht
    have : t = tlOf β (upd ρ id (.tuple #[])) id (.mapT k v path e u [] none) := by simpa [memO] using ht
    subst this
    refine ⟨f, hf, es, clock, hg, ?_, by simp, hst, ?_, ?_, ?_⟩
    · rw [hes, e0]; trivial
    · rw [e0]; exact .nil
    · rw [e0]; simp
    · intro k0 hk; cases hk
theorem fm_ok (h : Rel X β ρ S.flat a w) {id : Nat} {k v : Ty} {path : List PS} {e : TypeId} {u : Ty} {xs : List (k.De × v.De)} (hm : lookM S.mem id = some (.mapT k v path e u xs none)) :
    Rel X β ρ (S.swap id (.map k v xs)).flat a w := by
  have hF := toFront h hm
  obtain ⟨⟨f, hf, es, clock, hg, hp, hnd, hst, _⟩, _⟩ := h.ob (lookM_append hm)
  refine Rel.repl (A' := [(id, .map k v xs)]) hF rfl rfl rfl rfl (L := []) (fun _ _ => rfl) (by simp) ?_ ?_ ?_ (by simp) (SimL.refl _) fun e he => ⟨he, fun ok w cs hc => hc⟩
  · intro t ht g hg
    have : t = tlOf β ρ id (.map k v xs) := by simpa [memO] using ht
    subst this
    exact ⟨_, .head _, .inl hg⟩
  · intro t ht b o hc
    have : t = tlOf β ρ id (.map k v xs) := by simpa [memO] using ht
    subst this
    exact ⟨_, .head _, .inl hc⟩
  · intro ok' _ hok t ht
    have : t = tlOf β ρ id (.map k v xs) := by simpa [memO] using ht
    subst this
    exact ⟨es, clock, hg, mapP_weak (mapQ_P hp) fun b o hbo => hok b o (okR_front hm hbo), hnd, hst⟩
theorem op_ok (h : Rel X β ρ S.flat a w) {id : Nat} {k v : Ty} {path : List PS} {e : TypeId} {u : Ty} {xs : List (k.De × v.De)} (hm : lookM S.mem id = some (.mapT k v path e u xs none)) {f : v.De → List u.De} (hf : slAt v path = some ⟨u, f⟩) (hk : keyT k = true) (key : k.De)
    {d : Nat} (hq : quietS S id = true) (hb : okB S d = true) :
    ∃ ρ', Keeps S ((S.swap id (.mapT k v path e u xs (some (key, d)))).born d (.tail e u (optL f (findL key xs)))) β β ρ ρ' ∧
      Rel X β ρ' ((S.swap id (.mapT k v path e u xs (some (key, d)))).born d (.tail e u (optL f (findL key xs)))).flat a w := by
  obtain ⟨q1, q2, q3⟩ := quietS_ok hq
  obtain ⟨b1, b2, b3⟩ := okB_ok hb
  have hF := toFront h hm
  obtain ⟨⟨f0, hf0, es, clock, hg, hp, hnd, hst, hdp, hvg, _⟩, _⟩ := h.ob (lookM_append hm)
  rw [hf] at hf0
  injection hf0 with hf0
  injection hf0 with _ hf0
  subst hf0
  have hid : id ≠ d := (freshM_ok b1 (id, .mapT k v path e u xs none) (List.mem_append_left _ ((lookM_perm hm).mem_iff.2 (.head _)))).1
  have key0 : ∃ vs' sv, (∀ s ∈ vs', s = undef ∨ s ∈ vsOf (ρ id)) ∧ (sv = .slice none 0 0 ∨ sv ∈ vsOf (ρ id)) ∧ mapQ (rt k) (rt v) (rt u) e (offP path) f (some key) sv (okR X β ρ S.flat.mem w) w xs es.toList vs' ∧ distP vs' ∧
      (∀ s ∈ vs', ∀ g, s.ownBlock = some g → sv.ownBlock ≠ some g) ∧ (key ∉ xs.map Prod.fst → sv = .slice none 0 0) ∧ isV (rSl (rt u)) (okR X β ρ S.flat.mem w) w (optL f (findL key xs)) sv ∧ ∃ ys, w.ownsRowS 0 e (rt u).size sv (lenV sv) ys := by
    rcases mapQ_open hk (fun hr => slAt_rep hf hr) hp hnd hdp with ⟨r1, r2⟩ | ⟨vs', sv, y, r1, r2, r3, r4, r5, r6, r7, r8⟩
    · refine ⟨vsOf (ρ id), .slice none 0 0, fun s hs => .inr hs, .inl rfl, r2 _, hdp, fun s _ g _ e' => (by cases e'), fun _ => rfl, ?_, [], World.ownsRowS_nil _ _ _ _⟩
      rw [r1]; exact slNil
    · refine ⟨vs', sv, r4, .inr r3, r2, r5, r6, fun hn => ?_, ?_, r8⟩
      · rw [findL_not hk hn] at r1; cases r1
      · rw [r1]; exact r7
  obtain ⟨vs', sv, v1, v2, v3, v4, v5, v6, v7, v8⟩ := key0
  let ρ' := upd (upd ρ d sv) id (.tuple vs'.toArray)
  have hρid : vsOf (ρ' id) = vs' := by simp only [ρ', upd_same]; simp [vsOf]
  have hρd : ρ' d = sv := by simp only [ρ', upd_other _ _ (fun e : d = id => hid e.symm), upd_same]
  have hρo : ∀ i, i ≠ id → i ≠ d → ρ' i = ρ i := fun i h1 h2 => by simp only [ρ', upd_other _ _ h1, upd_other _ _ h2]
  refine ⟨ρ', ⟨rfl, rfl, rfl, fun i hi => ⟨rfl, hρo i (fun e => ?_) (fun e => ?_)⟩⟩, ?_⟩
  · subst e; rw [memN_ok.2 hi] at q3; cases q3
  · subst e; rw [memN_ok.2 hi] at b3; cases b3
  have hfr := Rel.repl (ρ' := ρ') (env' := dropId d S.env ++ S.fix) (A' := [(d, .tail e u (optL f (findL key xs))), (id, .mapT k v path e u xs (some (key, d)))]) hF rfl rfl rfl rfl (L := []) (fun _ _ => rfl) (by simp)
    (fun t ht g hg => ⟨_, .head _, ?_⟩) (fun t ht b o hc => ⟨_, .head _, ?_⟩) (fun ok' _ hok t ht => ?_) ?_ ?_ ?_
  · exact hfr
  · simp only [memO, List.map_cons, List.map_nil, List.mem_cons, List.not_mem_nil, or_false] at ht
    rcases ht with rfl | rfl
    · simp only [tlOf, tlTail, hρd] at hg
      rcases v2 with v2 | v2
      · rw [v2] at hg; cases hg
      · exact .inr ⟨sv, v2, hg⟩
    · simp only [tlOf, tlMapT, hρid] at hg
      rcases hg with hg | ⟨s, hs, hg⟩
      · exact .inl hg
      · rcases v1 s hs with rfl | hs
        · cases hg
        · exact .inr ⟨s, hs, hg⟩
  · simp only [memO, List.map_cons, List.map_nil, List.mem_cons, List.not_mem_nil, or_false] at ht
    rcases ht with rfl | rfl
    · simp only [tlOf, tlTail, hρd] at hc
      rcases v2 with v2 | v2
      · rw [v2] at hc; cases hc.1
      · exact .inr ⟨sv, v2, hc⟩
    · simp only [tlOf, tlMapT, hρid] at hc
      rcases hc with hc | ⟨s, hs, hc, hl⟩
      · exact .inl hc
      · rcases v1 s hs with rfl | hs
        · cases hc
        · exact .inr ⟨s, hs, hc, hl⟩
  · have hok' : ∀ b o, okR X β ρ S.flat.mem w b o → ok' b o := fun b o hbo => hok b o (okR_front hm hbo)
    simp only [memO, List.map_cons, List.map_nil, List.mem_cons, List.not_mem_nil, or_false] at ht
    rcases ht with rfl | rfl
    · simp only [tlOf, tlTail, hρd]
      exact ⟨v7.weak hok', v8⟩
    · refine ⟨f, hf, es, clock, hg, ?_, hnd, hst, ?_, ?_, ?_⟩
      · rw [hρid]
        have : holeV ρ' (some (key, d)) = sv := hρd
        rw [this]
        exact mapQ_weak v3 hok'
      · rw [hρid]; exact v4
      · rw [hρid]
        intro s hs
        rcases v1 s hs with rfl | hs
        · intro e'; cases e'
        · exact hvg s hs
      · intro k0 hk0 hn
        injection hk0 with hk0
        subst hk0
        show holeV ρ' (some (key, d)) = _
        have : holeV ρ' (some (key, d)) = sv := hρd
        rw [this]; exact v6 hn
  · simp only [memO, List.map_cons, List.map_nil]
    refine List.pairwise_cons.2 ⟨fun t ht g hg hg2 => ?_, List.pairwise_cons.2 ⟨by simp, .nil⟩⟩
    simp only [List.mem_cons, List.not_mem_nil, or_false] at ht
    subst ht
    simp only [tlOf, tlTail, hρd] at hg
    simp only [tlOf, tlMapT, hρid] at hg2
    rcases hg2 with rfl | ⟨s, hs, hg2⟩
    · rcases v2 with v2 | v2
      · rw [v2] at hg; cases hg
      · exact hvg sv v2 hg
    · exact v5 s hs g hg2 hg
  · have s1 : SimL (memO β ρ (remM S.mem id ++ S.fixM)) (memO β (upd ρ id (.tuple vs'.toArray)) (remM S.mem id ++ S.fixM)) := sim_noS upd_ne q2
    have hfr2 : freshM d (remM S.mem id ++ S.fixM) = true := by
      have hall : ∀ {l : List (Nat × Ob)}, freshM d l = true → freshM d (remM l id) = true := by
        intro l
        induction l with
        | nil => intro h; exact h
        | cons q l ih =>
          obtain ⟨k0, o⟩ := q
          intro h
          have hl : freshM d l = true := by
            cases o with
            | mapT k1 v path e u xs hole => cases hole <;> simp only [freshM, Bool.and_eq_true] at h <;> exact h.2
            | _ => simp only [freshM, Bool.and_eq_true] at h; exact h.2
          simp only [remM]
          cases hb : Nat.beq k0 id with
          | true => exact hl
          | false =>
            simp only [cond_false]
            cases o with
            | mapT k1 v path e u xs hole => cases hole <;> simp only [freshM, Bool.and_eq_true] at h ⊢ <;> exact ⟨h.1, ih hl⟩
            | _ => simp only [freshM, Bool.and_eq_true] at h ⊢; exact ⟨h.1, ih hl⟩
      have happ : ∀ {l m : List (Nat × Ob)}, freshM d (l ++ m) = true → freshM d l = true ∧ freshM d m = true := by
        intro l m
        induction l with
        | nil => intro h; exact ⟨rfl, h⟩
        | cons q l ih =>
          obtain ⟨k0, o⟩ := q
          intro h
          cases o with
          | mapT k1 v path e u xs hole => cases hole <;> simp only [freshM, Bool.and_eq_true, List.cons_append] at h ⊢ <;> exact ⟨⟨h.1, (ih h.2).1⟩, (ih h.2).2⟩
          | _ => simp only [freshM, Bool.and_eq_true, List.cons_append] at h ⊢; exact ⟨⟨h.1, (ih h.2).1⟩, (ih h.2).2⟩
      have happ2 : ∀ {l m : List (Nat × Ob)}, freshM d l = true → freshM d m = true → freshM d (l ++ m) = true := by
        intro l m hl hm
        induction l with
        | nil => exact hm
        | cons q l ih =>
          obtain ⟨k0, o⟩ := q
          cases o with
          | mapT k1 v path e u xs hole => cases hole <;> simp only [freshM, Bool.and_eq_true, List.cons_append] at hl ⊢ <;> exact ⟨hl.1, ih hl.2⟩
          | _ => simp only [freshM, Bool.and_eq_true, List.cons_append] at hl ⊢; exact ⟨hl.1, ih hl.2⟩
      exact happ2 (hall (happ b1).1) (happ b1).2
    have s2 : SimL (memO β (upd ρ id (.tuple vs'.toArray)) (remM S.mem id ++ S.fixM)) (memO β ρ' (remM S.mem id ++ S.fixM)) := sim_off (d := d) (fun i hi => ⟨rfl, by
      simp only [ρ', upd]
      by_cases h1 : i = id
      · simp [h1]
      · simp [h1, hi]⟩) hfr2
    have tr : ∀ {l1 l2 l3 : List TL}, SimL l1 l2 → SimL l2 l3 → SimL l1 l3 := by
      intro l1 l2 l3 h1
      induction h1 generalizing l3 with
      | nil => intro h2; exact h2
      | cons h r ih =>
        intro h2
        cases h2 with
        | cons k q => exact .cons ⟨fun g => (k.1 g).trans (h.1 g), fun b o => (k.2.1 b o).trans (h.2.1 b o), fun ok w hp => k.2.2 ok w (h.2.2 ok w hp)⟩ (ih q)
    exact tr s1 s2
  · intro e he
    have hmem : e ∈ S.flat.env ∧ noId d e.av = true := by
      rcases List.mem_append.1 he with he | he
      · obtain ⟨m1, m2⟩ := dropId_mem he
        exact ⟨List.mem_append_left _ m1, m2⟩
      · exact ⟨List.mem_append_right _ he, offI_mem b2 e he⟩
    refine ⟨hmem.1, fun ok w cs hc => ?_⟩
    have c1 := cr_noS (ρ' := upd ρ id (.tuple vs'.toArray)) upd_ne (q1 e hmem.1) hc
    exact cr_noId (β' := β) (ρ' := ρ') (d := d) (fun i hi => ⟨rfl, by
      simp only [ρ', upd]
      by_cases h1 : i = id
      · simp [h1]
      · simp [h1, hi]⟩) hmem.2 c1
end
section
variable {P : Program} {Y : TX} {X : Cx} {S : XS} {β β' : Nat → Nat} {ρ ρ' : Nat → Value} {a a' : Act} {w w' : World} {n : Nat}
variable {ops : Array Oper} {Q : Exit → Act → World → Prop} {rest : List Oper} {R : Type} {k : XS → Option R} {r : R}
theorem s_close (hT : TabOk P Y.T) (h : Rel X β ρ S.flat a w) {o : Oper} (hw : Region.wanted o (yielded ops a.tmps) = true) {t : TypeId} {m ky x : Operand} (hop : o.op = .mapUpdate t m ky x) (hd : o.dst = none) {te tk : TE} {kt et : TypeId} (hte : lookT Y.T t = some te) (htd : te.d = .map kt et) (htk : lookT Y.T kt = some tk)
    {id h' h0 : Nat} {kv xv : AV} {kk v u : Ty} {path : List PS} {e : TypeId} {xs : List (kk.De × v.De)} {ys : List u.De} {key kh : kk.De} {y : v.De} (hm : S.ev [] m = some (.m id)) (hkv : S.ev [] ky = some kv) (hx : S.ev [] x = some xv) (hmo : lookM S.mem id = some (.mapT kk v path e u xs (some (kh, h0)))) (hkey : asD [] kv kk = some key)
    (hch : eqK kk key kh = true) (hnav : navA path xv = some (.s h')) (hmh : lookM S.mem h' = some (.tail e u ys)) (hy : asD S.flat.mem xv v = some y)
    (hdk : descK Y.T kk tk.d = true) (hka : (kk.agg == kv.isAgg) = true) (hva : (v.agg == xv.isAgg) = true) (hq : quietS { S with mem := remM S.mem h' } id = true)
    (hk : k (XS.swap { S with mem := remM S.mem h' } id (.mapT kk v path e u (putL kh y xs) none)) = some r) (H : KOk P ops Q rest X S β ρ k r) : wpList P ops Q (o :: rest) a w := by
  have hkk := (eqK_iff (descK_key hdk)).1 hch
  subst hkk
  have hne : id ≠ h' := fun e' => by subst e'; rw [hmo] at hmh; cases hmh
  obtain ⟨c1, h1, h2⟩ := h.ev (holdsC_nil a) hm
  have h2' : c1 = [.map (some (β id))] := h2
  subst h2'
  have h1' : a.eval m = .map (some (β id)) := h1
  have hxv : isV (rt v) (okR X β ρ S.flat.mem w) w y (a.eval x) := h.asD (holdsC_nil a) hx hy (bEq hva)
  obtain ⟨c3, h3, h4⟩ := h.ev (holdsC_nil a) hkv
  have hkr : isV (rt kk) (okR X β ρ S.flat.mem w) w key (a.eval ky) := by
    refine ⟨c3, asD_ok (M := []) (β := β) (ρ := ρ) (by simp [lookM]) hkey h4, ?_⟩
    rw [h3]; simp only [AV.val, RT.val, rt_agg, bEq hka]; cases kv.isAgg <;> rfl
  have hke := keyV_rep (descK_key hdk) hkr
  obtain ⟨c5, h5, h6⟩ := h.ev (holdsC_nil a) hx
  have hcell : ∃ c, (cellsL (a.eval x))[offP path]? = some c ∧ zal c (ρ h') := by
    obtain ⟨n1, n2⟩ := nav_ok (navA_nav hnav) h6
    obtain ⟨⟨v0, n3, nz⟩, _⟩ := n1
    have n3 : (c5.drop (offP path)).take 1 = [v0] := n3
    have n4 : c5[offP path]? = some v0 := by
      have := congrArg (fun l => l[0]?) n3
      simpa [List.getElem?_take] using this
    refine ⟨v0, ?_, nz⟩
    have : cellsL (a.eval x) = c5 := by
      rw [h5]
      cases path with
      | nil =>
        simp [navA] at hnav; subst hnav
        exact cellsL_val' h6 rfl rfl
      | cons p ps =>
        cases p with
        | i _ _ => cases xv <;> simp [navA] at hnav
        | f kf off =>
          cases xv <;> simp only [navA] at hnav <;> first | (cases hnav; done) | skip
          simp [AV.val, AV.isAgg, cellsL]
    rw [this]; exact n4
  have hm' : lookM S.flat.mem id = some (.mapT kk v path e u xs (some (key, h0))) := lookM_append hmo
  obtain ⟨⟨f, hf, es, clock, hg, hp, hnd, hst, hdp, hvg, _⟩, hmine⟩ := h.ob hm'
  obtain ⟨⟨ht1, ht2⟩, _⟩ := h.ob (lookM_append (m := S.fixM) hmh)
  have hm1 : lookM (remM S.mem h') id = some (.mapT kk v path e u xs (some (key, h0))) := by rw [lookM_remM hne]; exact hmo
  have hpm : S.flat.mem.Perm ([(h', Ob.tail e u ys), (id, Ob.mapT kk v path e u xs (some (key, h0)))] ++ (remM (remM S.mem h') id ++ S.fixM)) := by
    have p1 := (lookM_perm hmh).append_right S.fixM
    have p2 := ((lookM_perm hm1).append_right S.fixM).cons (h', Ob.tail e u ys)
    exact p1.trans p2
  have hF := Rel.permM (env := S.flat.env) (m := S.flat.mem) h hpm
  have hdis : ∀ g, (ρ h').ownBlock = some g → ¬ (g = β id ∨ ∃ s ∈ vsOf (ρ id), s.ownBlock = some g) := by
    have hOO : (memO β ρ ([(h', Ob.tail e u ys), (id, Ob.mapT kk v path e u xs (some (key, h0)))] ++ (remM (remM S.mem h') id ++ S.fixM))).Pairwise fun s t => ∀ g, s.blks g → ¬ t.blks g := hF.dOO
    have := (List.pairwise_cons.1 hOO).1 (tlOf β ρ id (.mapT kk v path e u xs (some (key, h0)))) (.head _)
    exact this
  obtain ⟨q1, q2, q3⟩ := quietS_ok hq
  have hokF : ∀ {b f : Nat}, okR X β ρ S.flat.mem w b f → okR X β ρ ([(h', Ob.tail e u ys), (id, Ob.mapT kk v path e u xs (some (key, h0)))] ++ (remM (remM S.mem h') id ++ S.fixM)) w b f := fun hbo =>
    ⟨hbo.1, hbo.2.1, hbo.2.2.1, fun t ht => hbo.2.2.2 t ((hpm.map _).mem_iff.2 ht)⟩
  have main : ∃ es' clock' vs', (Instr.mapUpdate t (.map (some (β id))) (keyV kk key) (a.eval x)).run P w = .ok () { w with heap := w.heap.setIfInBounds (β id) (.map es' clock') } ∧
      mapQ (rt kk) (rt v) (rt u) e (offP path) f none undef (okR X β ρ S.flat.mem w) w (putL key y xs) es'.toList vs' ∧ stampP es' clock' ∧ distP vs' ∧ ∀ s ∈ vs', s = ρ h' ∨ s ∈ vsOf (ρ id) := by
    have conv : ∀ {hv : Value} {xs : List (kk.De × v.De)} {es : List MapEntry} {vs : List Value}, mapQ (rt kk) (rt v) (rt u) e (offP path) f none hv (okR X β ρ S.flat.mem w) w xs es vs → mapQ (rt kk) (rt v) (rt u) e (offP path) f none undef (okR X β ρ S.flat.mem w) w xs es vs := fun hq0 => mapQ_all rfl hq0 fun _ _ => by simp
    rcases mapQ_close (descK_key hdk) hxv hcell ht2 hp hnd hdp (fun s hs g hg hg2 => hdis g hg2 (.inr ⟨s, hs, hg⟩)) with ⟨r1, r2, r3⟩ | ⟨j, en, vs', r1, r2, ⟨y', r3⟩, r4, ⟨xj, r5, r6⟩, r7, r8, r9⟩
    · rcases find_map hT htk hdk key w (mapQ_P hp) with ⟨s1, s2⟩ | ⟨j, en, y', s1, _⟩
      · refine ⟨_, _, _, (run_mapStore hT hte htd htk hdk hg key).1 s2, ?_, stamp_push hst _ _, r2, ?_⟩
        · simpa using conv (r3 clock)
        · intro s hs
          rcases List.mem_append.1 hs with hs | hs
          · exact .inr hs
          · simp at hs; exact .inl hs
      · rw [r1] at s1; cases s1
    · rcases find_map hT htk hdk key w (mapQ_P hp) with ⟨s1, s2⟩ | ⟨j', en', y2, s1, s2, s3, s4, s5⟩
      · rw [r3] at s1; cases s1
      · have hjj : j' = j := by
          obtain ⟨x', x1, x2⟩ := mapP_at (mapQ_P hp) s3
          have x3 := keyV_rep (descK_key hdk) x2
          rw [s4] at x3
          have x4 := keyV_eq hT htk hdk w x3
          have x5 : key = xj.1 := (eqK_iff (descK_key hdk)).1 r6
          have g1 : (xs.map Prod.fst)[j']? = some key := by rw [List.getElem?_map, x1]; show some x'.1 = _; rw [← x4]
          have g2 : (xs.map Prod.fst)[j]? = some key := by rw [List.getElem?_map, r5]; show some xj.1 = _; rw [← x5]
          obtain ⟨l1, g1'⟩ := List.getElem?_eq_some_iff.1 g1
          obtain ⟨l2, g2'⟩ := List.getElem?_eq_some_iff.1 g2
          have hpw := List.pairwise_iff_getElem.1 hnd
          rcases Nat.lt_trichotomy j' j with hl | hl | hl
          · exact absurd (g1'.trans g2'.symm) (hpw _ _ l1 l2 hl)
          · exact hl
          · exact absurd (g2'.trans g1'.symm) (hpw _ _ l2 l1 hl)
        subst hjj
        rw [s3] at r1; injection r1 with r1; subst r1
        refine ⟨_, _, vs', (run_mapStore hT hte htd htk hdk hg key).2 j' en' s2 s3 s4, ?_, stamp_modify hst _ _ _, r7, r8⟩
        simpa using conv r9
  obtain ⟨es', clock', vs', hrun, hQ, hst', hdp', hvs'⟩ := main
  have hrun' : (execOp a.eval o).run P w = .ok .skip { w with heap := w.heap.setIfInBounds (β id) (.map es' clock') } := by
    unfold execOp
    rw [hop]
    simp only [h1', hke]
    simp [hrun]
  refine wpList_go hw ?_
  unfold Oper.wp
  rw [hrun']
  show wpList P ops Q rest (a.put o.dst undef) _
  rw [hd]
  have hgl := heap_lt hg
  have e0 : vsOf (upd ρ id (.tuple vs'.toArray) id) = vs' := by rw [upd_same]; simp [vsOf]
  have hvb : ∀ s ∈ vs', ∀ g, s.ownBlock = some g → g ≠ β id := by
    intro s hs g hg e'
    rcases hvs' s hs with rfl | hs
    · exact hdis g hg (.inl e')
    · exact hvg s hs (by rw [hg, e'])
  have hne2 : ∀ b, b ≠ β id → (w.heap.setIfInBounds (β id) (.map es' clock'))[b]? = w.heap[b]? := fun b hb => (MapKept.heap_set hg).2 b hb
  refine H β (upd ρ id (.tuple vs'.toArray)) _ _ _ hk ⟨rfl, rfl, rfl, agP_off q3 fun i hi => ⟨rfl, upd_ne i hi⟩⟩ ?_
  refine Rel.repl (a := a) (w' := { w with heap := w.heap.setIfInBounds (β id) (.map es' clock') }) (ρ' := upd ρ id (.tuple vs'.toArray)) (env' := S.flat.env) (A' := [(id, .mapT kk v path e u (putL key y xs) none)]) hF rfl rfl rfl (by simp) (L := [β id]) (fun b hb => hne2 b (by simpa using hb)) ?_ ?_ ?_ ?_ (by simp) (sim_noS upd_ne q2) fun e he => ⟨he, fun ok w cs hc => cr_noS upd_ne (q1 e he) hc⟩
  · intro g hg'
    have : g = β id := by simpa using hg'
    exact ⟨tlOf β ρ id (.mapT kk v path e u xs (some (key, h0))), by simp [memO], fun o => .inl this⟩
  · intro t ht g hg'
    have : t = tlOf β (upd ρ id (.tuple vs'.toArray)) id (.mapT kk v path e u (putL key y xs) none) := by simpa [memO] using ht
    subst this
    simp only [tlOf, tlMapT, e0] at hg'
    rcases hg' with hg' | ⟨s, hs, hg'⟩
    · exact ⟨tlOf β ρ id (.mapT kk v path e u xs (some (key, h0))), by simp [memO], .inl hg'⟩
    · rcases hvs' s hs with rfl | hs
      · exact ⟨tlOf β ρ h' (.tail e u ys), by simp [memO], hg'⟩
      · exact ⟨tlOf β ρ id (.mapT kk v path e u xs (some (key, h0))), by simp [memO], .inr ⟨s, hs, hg'⟩⟩
  · intro t ht b o hc
    have : t = tlOf β (upd ρ id (.tuple vs'.toArray)) id (.mapT kk v path e u (putL key y xs) none) := by simpa [memO] using ht
    subst this
    simp only [tlOf, tlMapT, e0] at hc
    rcases hc with hc | ⟨s, hs, hc, hl⟩
    · exact ⟨tlOf β ρ id (.mapT kk v path e u xs (some (key, h0))), by simp [memO], .inl hc⟩
    · rcases hvs' s hs with rfl | hs
      · exact ⟨tlOf β ρ h' (.tail e u ys), by simp [memO], hc, hl⟩
      · exact ⟨tlOf β ρ id (.mapT kk v path e u xs (some (key, h0))), by simp [memO], .inr ⟨s, hs, hc, hl⟩⟩
  · intro ok' hevo hok t ht
    have : t = tlOf β (upd ρ id (.tuple vs'.toArray)) id (.mapT kk v path e u (putL key y xs) none) := by simpa [memO] using ht
    subst this
    refine ⟨f, hf, es', clock', (MapKept.heap_set hg).1, ?_, (putL_keys (descK_key hdk) key y hnd).1, hst', ?_, ?_, ?_⟩
    · rw [e0]
      have hevo' : Evo (okR X β ρ S.flat.mem w) w { w with heap := w.heap.setIfInBounds (β id) (.map es' clock') } := hevo.mono fun b o hbo => hokF hbo
      exact mapQ_weak (mapQ_evo hQ (fun s hs b hb => hne2 b (hvb s hs b hb)) hevo') fun b o hbo => hok b o (hokF hbo)
    · rw [e0]; exact hdp'
    · rw [e0]; intro s hs e'; exact hvb s hs _ e' rfl
    · intro k0 hk0; cases hk0
end
end Gx
