/- States by their shapes. -/
import Derived.Test.YtnlnadfpfekeiaaDoorXI
namespace Gd
open Go Go.RowKit
section
variable {β : Nat → Nat} {X : Cx} {G : GL} {D : List DF} {H : HL} {O : List TL} {a : Act} {w w' : World}
theorem Sb.remake {O' : List TL} (h : Sb β X G D H O a w)
    (hp : ∀ t' ∈ O', (∃ t ∈ O, (∀ g, t'.blks g → t.blks g) ∧ (∀ b o, t'.cov b o → t.cov b o) ∧ t'.p (okOf X.ok X.w.heap.size β H O w) w) ∨ ((∀ g, ¬ t'.blks g) ∧ ∀ ok w, t'.p ok w))
    (hd : O'.Pairwise fun s t => ∀ g, s.blks g → ¬ t.blks g) : Sb β X G D H O' a w := by
  have hok : ∀ b o, okOf X.ok X.w.heap.size β H O w b o → okOf X.ok X.w.heap.size β H O' w b o := by
    rintro b o ⟨h1, h2, h3, h4⟩
    refine ⟨h1, h2, h3, fun u hu hc => ?_⟩
    rcases hp u hu with ⟨t, ht, _, h6, _⟩ | ⟨h5, _⟩
    · exact h4 t ht (h6 b o hc)
    · exact h5 b (u.cb hc)
  refine { sz := h.sz, df := h.df, fr := h.fr, pn := h.pn, tm := h.tm, bel := h.bel, dat := h.dat.weak hok, obj := h.obj, own := fun u hu => ?_, dHH := h.dHH, dHO := fun p hp' u hu hg => ?_, dOO := hd }
  · rcases hp u hu with ⟨t, ht, h5, _, h7⟩ | ⟨h5, h6⟩
    · exact ⟨u.weak h7 hok, fun g hg => (h.own t ht).2 g (h5 g hg)⟩
    · exact ⟨h6 _ _, fun g hg => absurd hg (h5 g)⟩
  · rcases hp u hu with ⟨t, ht, h5, _⟩ | ⟨h5, _⟩
    · exact h.dHO p hp' t ht (h5 _ hg)
    · exact h5 _ hg
end
end Gd
namespace Gx
open Go Go.RowKit Gd
set_option linter.unusedVariables false
set_option linter.unusedSimpArgs false
section
variable {X : Cx} {β : Nat → Nat} {ρ : Nat → Value} {S : St} {a : Act} {w w' : World}
theorem lookM_key : ∀ {M : List (Nat × Ob)} {c : Nat} {o : Ob}, lookM M c = some o → (c, o) ∈ M
  | q :: l, c, o, h => by
    obtain ⟨l1, l2, h1, _⟩ := lookM_split h
    rw [h1]; simp
theorem Rel.disj (h : Rel X β ρ S a w) {c c' : Nat} {o o' : Ob} (h1 : lookM S.mem c = some o) (h2 : lookM S.mem c' = some o') (hne : c ≠ c') : ∀ g, (tlOf β ρ c o).blks g → ¬ (tlOf β ρ c' o').blks g := by
  obtain ⟨l1, l2, hl, _⟩ := lookM_split h1
  have hm := lookM_key h2
  have hp : ((l1 ++ (c, o) :: l2).map fun q => tlOf β ρ q.1 q.2).Pairwise fun s t => ∀ g, s.blks g → ¬ t.blks g := by rw [← hl]; exact h.dOO
  rw [List.map_append, List.map_cons] at hp
  have hp1 := List.pairwise_append.1 hp
  have hp2 := List.pairwise_cons.1 hp1.2.1
  rw [hl] at hm
  intro g hg hg2
  rcases List.mem_append.1 hm with hm | hm
  · exact hp1.2.2 _ (List.mem_map.2 ⟨_, hm, rfl⟩) _ (.head _) g hg2 hg
  · rcases List.mem_cons.1 hm with hm | hm
    · injection hm with e _; exact hne e.symm
    · exact hp2.1 _ (List.mem_map.2 ⟨_, hm, rfl⟩) g hg hg2
theorem Sb.toTail {β : Nat → Nat} {G : GL} {D : List DF} {O : List TL} {τ : Type} {r : RT τ} {xs : List τ} {A : Option Addr} {c e : Nat} (h : Sb β X G D [] (ml (.slice A xs.length c) e r xs :: O) a w) (hs : Nat.ble 1 r.size = true) :
    Sb β X G D [] (tlTail (.slice A xs.length c) e r xs :: O) a w := by
  have h2 := h.freeze rfl hs
  have hiv : isV (rSl r) _ w xs (.slice A xs.length c) := h2.d 0 rfl
  have h3 := { h2 with dat := h2.dat.2 }
  refine Sb.remake h3 (fun u hu => ?_) ?_
  · rcases List.mem_cons.1 hu with rfl | hu
    · exact .inl ⟨_, .head _, fun g hg => hg, fun b o hc => hc, hiv, (h3.own _ (.head _)).1⟩
    · exact .inl ⟨u, .tail _ hu, fun _ hg => hg, fun _ _ hc => hc, (h3.own u (.tail _ hu)).1⟩
  · have := List.pairwise_cons.1 h3.dOO
    exact List.pairwise_cons.2 ⟨fun u hu g hg => this.1 u hu g hg, this.2⟩
theorem Rel.freeze1 {env : List En} {l1 l2 : List (Nat × Ob)} {id : Nat} {e : TypeId} {t : Ty} {xs : List t.De} (h : Rel X β ρ ⟨env, l1 ++ (id, .row e t xs) :: l2⟩ a w) (hs : Nat.ble 1 t.size = true) :
    Rel X β ρ ⟨env, l1 ++ (id, .tail e t xs) :: l2⟩ a w := by
  unfold Rel at h ⊢
  simp only [memO, List.map_append, List.map_cons] at h ⊢
  have h1 := h.perm (O' := tlOf β ρ id (.row e t xs) :: (l1.map (fun q => tlOf β ρ q.1 q.2) ++ l2.map (fun q => tlOf β ρ q.1 q.2))) List.perm_middle
  obtain ⟨⟨hl, cs, hown, hr⟩, _⟩ := h1.own _ (.head _)
  obtain ⟨A, c, hv⟩ : ∃ A c, ρ id = .slice A xs.length c := by
    rcases hown.2 with ⟨hv, h0⟩ | ⟨g, cap, cur, fz, hv, _⟩
    · exact ⟨none, 0, by rw [hv, ← hl, h0]⟩
    · exact ⟨_, cap, by rw [hv, hl]⟩
  have hO : tlOf β ρ id (.row e t xs) = ml (.slice A xs.length c) e (rt t) xs := by simp only [tlOf, hv]
  rw [hO] at h1
  have h2 := h1.freeze rfl (by rw [rt_size]; exact hs)
  have hiv : isV (rSl (rt t)) _ w xs (.slice A xs.length c) := h2.d 0 rfl
  have h3 := { h2 with dat := h2.dat.2 }
  have h4 : Sb (fun _ => 0) X [] (List.map (enD β ρ a) env) [] (tlOf β ρ id (.tail e t xs) :: (l1.map (fun q => tlOf β ρ q.1 q.2) ++ l2.map (fun q => tlOf β ρ q.1 q.2))) a w := by
    refine Sb.remake h3 (fun u hu => ?_) ?_
    · rcases List.mem_cons.1 hu with rfl | hu
      · refine .inl ⟨_, .head _, fun g hg => ?_, fun b o hc => ?_, ?_⟩
        · have hg' : (ρ id).ownBlock = some g := hg
          rw [hv] at hg'; exact hg'
        · have hc' : (ρ id).ownBlock = some b ∧ lenV (ρ id) * (rt t).size ≤ o := hc
          rw [hv] at hc'; exact hc'
        · simp only [tlOf, tlTail, hv]
          exact ⟨hiv, (h3.own _ (.head _)).1⟩
      · exact .inl ⟨u, .tail _ hu, fun _ hg => hg, fun _ _ hc => hc, (h3.own u (.tail _ hu)).1⟩
    · have := List.pairwise_cons.1 h3.dOO
      refine List.pairwise_cons.2 ⟨fun u hu g hg => this.1 u hu g ?_, this.2⟩
      have hg' : (ρ id).ownBlock = some g := hg
      rw [hv] at hg'; exact hg'
  exact h4.perm List.perm_middle.symm
theorem Rel.freeze : ∀ (l : List (Nat × Ob)) {l0 F : List (Nat × Ob)} {env : List En} {ks : List Nat}, Rel X β ρ ⟨env, l0 ++ l ++ F⟩ a w → Rel X β ρ ⟨env, l0 ++ freezeX ks l ++ F⟩ a w
  | [], l0, F, env, ks, h => h
  | (id, .row e t xs) :: l, l0, F, env, ks, h => by
    simp only [freezeX]
    cases hb : (memN ks id && Nat.ble 1 t.size) with
    | true =>
      simp only [cond_true]
      simp only [Bool.and_eq_true] at hb
      have h1 : Rel X β ρ ⟨env, l0 ++ (id, .row e t xs) :: (l ++ F)⟩ a w := by simpa using h
      have h2 := h1.freeze1 hb.2
      have h3 := Rel.freeze l (l0 := l0 ++ [(id, .tail e t xs)]) (F := F) (ks := ks) (by simpa using h2)
      simpa using h3
    | false =>
      simp only [cond_false]
      have h3 := Rel.freeze l (l0 := l0 ++ [(id, .row e t xs)]) (F := F) (ks := ks) (by simpa using h)
      simpa using h3
  | (id, .var t c) :: l, l0, F, env, ks, h => by
    have h3 := Rel.freeze l (l0 := l0 ++ [(id, .var t c)]) (F := F) (ks := ks) (by simpa using h)
    simpa [freezeX] using h3
  | (id, .tail e t xs) :: l, l0, F, env, ks, h => by
    have h3 := Rel.freeze l (l0 := l0 ++ [(id, .tail e t xs)]) (F := F) (ks := ks) (by simpa using h)
    simpa [freezeX] using h3
  | (id, .map k v xs) :: l, l0, F, env, ks, h => by
    have h3 := Rel.freeze l (l0 := l0 ++ [(id, .map k v xs)]) (F := F) (ks := ks) (by simpa using h)
    simpa [freezeX] using h3
  | (id, .mapT k v path e u xs hole) :: l, l0, F, env, ks, h => by
    have h3 := Rel.freeze l (l0 := l0 ++ [(id, .mapT k v path e u xs hole)]) (F := F) (ks := ks) (by simpa using h)
    simpa [freezeX] using h3
theorem ofL_ok : ∀ {ts : List Ty} {l : List DV} {x : Tup ts}, ofL ts l = some x → toL ts x = l
  | [], l, x, h => by
    cases l with
    | nil => rfl
    | cons _ _ => simp [ofL] at h
  | [t], l, x, h => by
    match l, h with
    | [v], h =>
      obtain ⟨e, hx⟩ := Ty.cast_ok (by simpa [ofL] using h)
      obtain ⟨u, y⟩ := v
      simp only at e
      subst e
      simp only at hx
      subst hx
      rfl
    | [], h => simp [ofL] at h
    | _ :: _ :: _, h => simp [ofL] at h
  | t :: u :: ts, l, x, h => by
    match l, h with
    | [], h => simp [ofL] at h
    | v :: vs, h =>
      simp only [ofL] at h
      split at h
      · rename_i a b ha hb
        simp at h; subst h
        obtain ⟨e, hx⟩ := Ty.cast_ok ha
        obtain ⟨s, y⟩ := v
        simp only at e
        subst e
        simp only at hx
        subst hx
        have := ofL_ok hb
        simp only [toL, this]
      · cases h
def newB (ri : List (Nat × Nat)) (β : Nat → Nat) : Nat → Nat := fun i => match lookN ri i with
  | some c => β c
  | none => β i
def newR (ri : List (Nat × Nat)) (pr : List Nat) (ρ : Nat → Value) : Nat → Value := fun i => match lookN ri i with
  | some c => ρ c
  | none => bif memN pr i then ρ i else .slice none 0 0
theorem isId_ok {ri : List (Nat × Nat)} {i c : Nat} (h : isId ri i c = true) : lookN ri i = some c := by
  unfold isId at h
  split at h
  · rename_i j hj; rw [hj, Nat.eq_of_beq_eq_true h]
  · cases h
theorem pathEq_ok : ∀ {p q : List PS}, pathEq p q = true → p = q
  | [], [], _ => rfl
  | a :: l, b :: m, h => by
    simp only [pathEq, Bool.and_eq_true] at h
    have h2 := pathEq_ok h.2
    have h1 := h.1
    cases a <;> cases b <;> simp only [PS.beq, Bool.and_eq_true] at h1 <;> first | (cases h1; done) | skip
    rw [Nat.eq_of_beq_eq_true h1.1, Nat.eq_of_beq_eq_true h1.2, h2]
  | [], _ :: _, h => by cases h
  | _ :: _, [], h => by cases h
theorem isNone_ok {α : Type} {x : Option α} (h : isNone x = true) : x = none := by cases x with
  | none => rfl
  | some _ => cases h
variable {ok : Ok} {M : List (Nat × Ob)} {ri : List (Nat × Nat)} {pr : List Nat}
theorem decSk_ok (hM : ∀ id o, lookM M id = some o → (tlOf β ρ id o).p ok w) :
    ∀ {sk : Sk} {m : Bool} {x : AV} {cs : List Value} {l : List DV} (rest : List DV), decSk M ri pr sk x = some l → cr β ρ ok w m x cs → (m = true → sk.isL = true) →
      ∃ y, encSk sk (l ++ rest) = (y, rest) ∧ cr (newB ri β) (newR ri pr ρ) ok w m y cs ∧ y.isAgg = x.isAgg
  | .d t, true, x, cs, l, rest, h, hc, hm => by cases hm rfl
  | .d t, false, x, cs, l, rest, h, hc, hm => by
    simp only [decSk] at h
    split at h
    · rename_i y hy
      obtain ⟨hb, h⟩ := bvT h
      simp at h; subst h
      exact ⟨.d t y, rfl, asD_ok hM hy hc, bEq hb⟩
    · cases h
  | .p id path, true, x, cs, l, rest, h, hc, hm => by cases hm rfl
  | .p id path, false, x, cs, l, rest, h, hc, hm => by
    cases x <;> simp only [decSk] at h <;> first | (cases h; done) | skip
    rename_i c path'
    obtain ⟨hb, h⟩ := bvT h
    simp only [Bool.and_eq_true] at hb
    simp at h; subst h
    have h1 := isId_ok hb.1
    have h2 := pathEq_ok hb.2
    subst h2
    refine ⟨.p id path, rfl, ?_, rfl⟩
    have hc' : cs = [.pointer (some ⟨β c, offP path, none⟩)] := hc
    show cs = [.pointer (some ⟨newB ri β id, offP path, none⟩)]
    rw [hc']; simp only [newB, h1]
  | .s id, true, x, cs, l, rest, h, hc, hm => by cases hm rfl
  | .s id, false, x, cs, l, rest, h, hc, hm => by
    cases x <;> simp only [decSk] at h <;> first | (cases h; done) | skip
    · rename_i c
      obtain ⟨hb, h⟩ := bvT h
      simp only [Bool.and_eq_true] at hb
      simp at h; subst h
      have h1 := isId_ok hb.1
      refine ⟨.s id, rfl, ?_, rfl⟩
      obtain ⟨h2, h3⟩ := hc
      have e : newR ri pr ρ id = ρ c := by simp only [newR, h1]
      exact ⟨by rw [e]; exact h2, by rw [e]; exact h3⟩
    · obtain ⟨hb, h⟩ := bvT h
      simp only [Bool.and_eq_true] at hb
      simp at h; subst h
      have h1 := isNone_ok hb.1
      refine ⟨.s id, rfl, ?_, rfl⟩
      have hc' : cs = [.slice none 0 0] := hc
      have e : newR ri pr ρ id = .slice none 0 0 := by
        simp only [newR, h1]
        have := hb.2
        cases hp : memN pr id with
        | true => rw [hp] at this; cases this
        | false => rfl
      exact ⟨⟨_, hc', .inl e.symm⟩, none, 0, 0, e⟩
  | .m id, true, x, cs, l, rest, h, hc, hm => by cases hm rfl
  | .m id, false, x, cs, l, rest, h, hc, hm => by
    cases x <;> simp only [decSk] at h <;> first | (cases h; done) | skip
    rename_i c
    obtain ⟨hb, h⟩ := bvT h
    simp at h; subst h
    have h1 := isId_ok hb
    refine ⟨.m id, rfl, ?_, rfl⟩
    have hc' : cs = [.map (some (β c))] := hc
    show cs = [.map (some (newB ri β id))]
    rw [hc']; simp only [newB, h1]
  | .ns, true, x, cs, l, rest, h, hc, hm => by cases hm rfl
  | .ns, false, x, cs, l, rest, h, hc, hm => by cases x <;> simp [decSk] at h; subst h; exact ⟨.ns, rfl, hc, rfl⟩
  | .np, true, x, cs, l, rest, h, hc, hm => by cases hm rfl
  | .np, false, x, cs, l, rest, h, hc, hm => by cases x <;> simp [decSk] at h; subst h; exact ⟨.np, rfl, hc, rfl⟩
  | .nm, true, x, cs, l, rest, h, hc, hm => by cases hm rfl
  | .nm, false, x, cs, l, rest, h, hc, hm => by cases x <;> simp [decSk] at h; subst h; exact ⟨.nm, rfl, hc, rfl⟩
  | .nf, true, x, cs, l, rest, h, hc, hm => by cases hm rfl
  | .nf, false, x, cs, l, rest, h, hc, hm => by cases x <;> simp [decSk] at h; subst h; exact ⟨.nf, rfl, hc, rfl⟩
  | .z, true, x, cs, l, rest, h, hc, hm => by cases hm rfl
  | .z, false, x, cs, l, rest, h, hc, hm => by cases x <;> simp [decSk] at h; subst h; exact ⟨.z, rfl, hc, rfl⟩
  | .f fn c, true, x, cs, l, rest, h, hc, hm => by cases hm rfl
  | .f fn c, false, x, cs, l, rest, h, hc, hm => by
    cases x <;> simp only [decSk] at h <;> first | (cases h; done) | skip
    rename_i fn' x'
    obtain ⟨hb, h0⟩ := bvT h
    simp only [Bool.and_eq_true] at hb
    have h1 := Nat.eq_of_beq_eq_true hb.1
    subst h1
    obtain ⟨vs, h2, h3⟩ := hc
    obtain ⟨y, h4, h5, _⟩ := decSk_ok hM (m := true) rest h0 h3 fun _ => hb.2
    exact ⟨.f fn y, by simp only [encSk, h4], ⟨vs, h2, h5⟩, rfl⟩
  | .ag s, true, x, cs, l, rest, h, hc, hm => by cases hm rfl
  | .ag s, false, x, cs, l, rest, h, hc, hm => by
    simp only [decSk] at h
    split at h
    · rename_i y hy
      obtain ⟨z0, h1, h2, _⟩ := decSk_ok hM (m := false) rest h (kidsOf_ok hy hc) fun e => by cases e
      refine ⟨.ag z0, by simp only [encSk, h1], h2, ?_⟩
      unfold kidsOf at hy
      split at hy <;> first | rfl | cases hy
    · cases h
  | .nil, m, x, cs, l, rest, h, hc, hm => by
    cases x <;> simp [decSk] at h
    subst h
    refine ⟨.nil, rfl, ?_, rfl⟩
    cases m <;> exact hc
  | .cons a b, true, x, cs, l, rest, h, hc, hm => by
    cases x <;> simp only [decSk] at h <;> first | (cases h; done) | skip
    rename_i x r
    split at h
    · rename_i u v hu hv
      simp at h; subst h
      obtain ⟨c1, vs, h1, h2, h3⟩ := hc
      obtain ⟨y, e1, e2, e3⟩ := decSk_ok hM (m := false) (v ++ rest) hu h2 fun e => by cases e
      obtain ⟨z0, e4, e5, e6⟩ := decSk_ok hM (m := true) rest hv h3 fun _ => by simpa [Sk.isL] using hm rfl
      refine ⟨.cons y z0, by simp only [encSk, List.append_assoc, e1, e4], ⟨c1, vs, ?_, e2, e5⟩, rfl⟩
      rw [h1]
      simp only [AV.val, e3]
    · cases h
  | .cons a b, false, x, cs, l, rest, h, hc, hm => by
    cases x <;> simp only [decSk] at h <;> first | (cases h; done) | skip
    rename_i x r
    split at h
    · rename_i u v hu hv
      simp at h; subst h
      obtain ⟨c1, c2, h1, h2, h3⟩ := hc
      obtain ⟨y, e1, e2, e3⟩ := decSk_ok hM (m := false) (v ++ rest) hu h2 fun e => by cases e
      obtain ⟨z0, e4, e5, e6⟩ := decSk_ok hM (m := false) rest hv h3 fun e => by cases e
      exact ⟨.cons y z0, by simp only [encSk, List.append_assoc, e1, e4], ⟨c1, c2, h1, e2, e5⟩, rfl⟩
    · cases h
theorem decEnv_ok (hM : ∀ id o, lookM M id = some o → (tlOf β ρ id o).p ok w) {env : List En} (hE : ∀ e ∈ env, (enD β ρ a e).p ok w) :
    ∀ {Γe : List (Nat × Sk)} {l : List DV} (rest : List DV), decEnv M ri pr env Γe = some l →
      ∃ es, encEnv Γe (l ++ rest) = (es, rest) ∧ ∀ e ∈ es, (enD (newB ri β) (newR ri pr ρ) a e).p ok w ∧ Nat.blt e.t 100000 = true
  | [], l, rest, h => by simp [decEnv] at h; subst h; exact ⟨[], rfl, by simp⟩
  | (t, s) :: g, l, rest, h => by
    simp only [decEnv] at h
    split at h
    · rename_i t' x hx
      split at h
      · rename_i u v hu hv
        simp at h; subst h
        obtain ⟨hm, ht⟩ := lookE_ok hx
        simp only at ht
        subst ht
        obtain ⟨cs, h1, h2⟩ := (hE _ hm).1 (holdsC_nil a)
        obtain ⟨y, h3, h4, h5⟩ := decSk_ok hM (v ++ rest) hu h2 fun e => by cases e
        obtain ⟨es, h6, h7⟩ := decEnv_ok hM hE rest hv
        refine ⟨⟨t', [], y⟩ :: es, by simp only [encEnv, List.append_assoc, h3, h6], fun e he => ?_⟩
        rcases List.mem_cons.1 he with rfl | he
        · refine ⟨⟨fun _ => ⟨cs, ?_, h4⟩, .inl (holdsC_nil a)⟩, lookE_lt hx⟩
          rw [h1]; simp only [AV.val, h5]
        · exact h7 e he
      · cases h
    · cases h
theorem lookM_append {l m : List (Nat × Ob)} {c : Nat} {o : Ob} (h : lookM l c = some o) : lookM (l ++ m) c = some o := by
  induction l with
  | nil => simp [lookM] at h
  | cons q l ih =>
    simp only [lookM, List.cons_append] at h ⊢
    cases hb : Nat.beq q.1 c with
    | true => rw [hb] at h; exact h
    | false => rw [hb] at h; exact ih h
def obRel (β : Nat → Nat) (ρ : Nat → Value) (ri : List (Nat × Nat)) (pr : List Nat) (ok : Ok) (w : World) (M : List (Nat × Ob)) (id : Nat) (o : Ob) : Prop :=
  (∃ c ob, lookN ri id = some c ∧ lookM M c = some ob ∧ (∀ g, (tlOf (newB ri β) (newR ri pr ρ) id o).blks g → (tlOf β ρ c ob).blks g) ∧ (∀ b f, (tlOf (newB ri β) (newR ri pr ρ) id o).cov b f → (tlOf β ρ c ob).cov b f) ∧ (tlOf (newB ri β) (newR ri pr ρ) id o).p ok w) ∨
  (lookN ri id = none ∧ (∀ g, ¬ (tlOf (newB ri β) (newR ri pr ρ) id o).blks g) ∧ ∀ ok w, (tlOf (newB ri β) (newR ri pr ρ) id o).p ok w)
theorem nil_row {v : Value} (hv : v = .slice none 0 0) {e : Nat} {τ : Type} {r : RT τ} (ok : Ok) (w : World) : (ml v e r []).p ok w := by
  subst hv
  exact ⟨rfl, [], World.ownsRowS_nil _ _ _ _, rfl⟩
theorem nil_tail {v : Value} (hv : v = .slice none 0 0) {e : Nat} {τ : Type} {r : RT τ} (ok : Ok) (w : World) : (tlTail v e r []).p ok w := by
  subst hv
  exact ⟨slNil, [], World.ownsRowS_nil _ _ _ _⟩
theorem decMem_ok {M0 F : List (Nat × Ob)} (hM : ∀ id o, lookM (M0 ++ F) id = some o → (tlOf β ρ id o).p ok w) :
    ∀ {Γm : List (Nat × SkO)} {l : List DV}, protR ri pr Γm = true → decMem M0 F ri pr Γm = some l →
      (encMem Γm l).map Prod.fst = Γm.map Prod.fst ∧ ∀ q ∈ encMem Γm l, obRel β ρ ri pr ok w M0 q.1 q.2
  | [], l, _, h => by simp [decMem] at h; subst h; exact ⟨rfl, by simp [encMem]⟩
  | (id, s) :: g, l, hp, h => by
    simp only [protR, Bool.and_eq_true] at hp
    simp only [decMem] at h
    split at h
    · rename_i o ho
      split at h
      · rename_i u v hu hv
        simp at h; subst h
        have key : ∃ ob', encO s (u ++ v) = some (ob', v) ∧ obRel β ρ ri pr ok w M0 id ob' := by
          unfold lookR at ho
          split at ho
          · rename_i hn
            simp at ho; subst ho
            have hnp : memN pr id = false := by
              have := hp.1
              cases hm : memN pr id with
              | false => rfl
              | true =>
                rw [hm] at this
                simp only [isId, hn, Bool.not_true, Bool.or_self] at this
                cases this
            have e : newR ri pr ρ id = .slice none 0 0 := by simp only [newR, hn, hnp, cond_false]
            have nb : ∀ g, ¬ (newR ri pr ρ id).ownBlock = some g := by rw [e]; intro g hg; cases hg
            cases s with
            | row e' t =>
              simp only [decO] at hu
              simp at hu; subst hu
              refine ⟨.row e' t [], ?_, .inr ⟨hn, nb, fun ok w => nil_row e ok w⟩⟩
              simp [encO, Ty.cast, Ty.beq_refl]
            | tail e' t =>
              simp only [decO] at hu
              simp at hu; subst hu
              refine ⟨.tail e' t [], ?_, .inr ⟨hn, fun g hg => nb g hg, fun ok w => nil_tail e ok w⟩⟩
              simp [encO, Ty.cast, Ty.beq_refl]
            | var tid c => simp [decO] at hu
            | map k u' => simp [decO] at hu
            | mapT k u' path e t => simp [decO] at hu
          · rename_i c hc
            split at ho
            · rename_i ob hob
              simp at ho; subst ho
              have hpo := hM c ob (lookM_append hob)
              have eR : newR ri pr ρ id = ρ c := by simp only [newR, hc]
              have eB : newB ri β id = β c := by simp only [newB, hc]
              cases s with
              | var tid sk =>
                cases ob <;> simp only [decO] at hu <;> first | (cases hu; done) | skip
                rename_i tid' x
                obtain ⟨hb, hu0⟩ := bvT hu
                have := Nat.eq_of_beq_eq_true hb
                subst this
                obtain ⟨cs, h1, h2⟩ := hpo
                obtain ⟨y, h3, h4, h5⟩ := decSk_ok hM v hu0 h2 fun e => by cases e
                refine ⟨.var tid y, by simp only [encO, h3], .inl ⟨c, _, hc, hob, ?_, ?_, cs, by rw [eB]; exact h1, h4⟩⟩
                · intro g hg
                  have hg' : g = newB ri β id := hg
                  show g = β c
                  rw [hg', eB]
                · intro b f hg
                  have hg' : b = newB ri β id := hg
                  show b = β c
                  rw [hg', eB]
              | row e' t =>
                cases ob <;> simp only [decO] at hu <;> first | (cases hu; done) | skip
                rename_i e2 t2 xs
                obtain ⟨hb, hu0⟩ := bvT hu
                clear hu
                simp only [Bool.and_eq_true] at hb
                have h1 := Nat.eq_of_beq_eq_true hb.1
                have h2 := Ty.beq_eq hb.2
                subst h1; subst h2
                simp at hu0; subst hu0
                refine ⟨.row e' t xs, by simp [encO, Ty.cast, Ty.beq_refl], .inl ⟨c, _, hc, hob, ?_, ?_, ?_⟩⟩ <;> simp only [tlOf, eR]
                · exact fun _ hg => hg
                · exact fun _ _ hg => hg
                · exact hpo
              | tail e' t =>
                cases ob <;> simp only [decO] at hu <;> first | (cases hu; done) | skip
                rename_i e2 t2 xs
                obtain ⟨hb, hu0⟩ := bvT hu
                clear hu
                simp only [Bool.and_eq_true] at hb
                have h1 := Nat.eq_of_beq_eq_true hb.1
                have h2 := Ty.beq_eq hb.2
                subst h1; subst h2
                simp at hu0; subst hu0
                refine ⟨.tail e' t xs, by simp [encO, Ty.cast, Ty.beq_refl], .inl ⟨c, _, hc, hob, ?_, ?_, ?_⟩⟩ <;> simp only [tlOf, eR]
                · exact fun _ hg => hg
                · exact fun _ _ hg => hg
                · exact hpo
              | map k u' =>
                cases ob <;> simp only [decO] at hu <;> first | (cases hu; done) | skip
                rename_i k2 u2 xs
                obtain ⟨hb, hu0⟩ := bvT hu
                clear hu
                simp only [Bool.and_eq_true] at hb
                have h1 := Ty.beq_eq hb.1
                have h2 := Ty.beq_eq hb.2
                subst h1; subst h2
                simp at hu0; subst hu0
                refine ⟨.map k u' xs, by simp [encO, Ty.cast, Ty.beq_refl], .inl ⟨c, _, hc, hob, ?_, ?_, ?_⟩⟩ <;> simp only [tlOf, eB]
                · exact fun _ hg => hg
                · exact fun _ _ hg => hg
                · exact hpo
              | mapT k u' path e t =>
                cases ob <;> simp only [decO] at hu <;> first | (cases hu; done) | skip
                rename_i k2 u2 path2 e2 t2 xs hole
                obtain ⟨hb, hu0⟩ := bvT hu
                clear hu
                simp only [Bool.and_eq_true] at hb
                obtain ⟨⟨⟨⟨⟨b1, b2⟩, b3⟩, b4⟩, b5⟩, b6⟩ := hb
                have h1 := Ty.beq_eq b1
                have h2 := Ty.beq_eq b2
                have h3 := pathEq_ok b3
                have h4 := Nat.eq_of_beq_eq_true b4
                have h5 := Ty.beq_eq b5
                subst h1; subst h2; subst h3; subst h4; subst h5
                have h6 := isNone_ok b6
                subst h6
                simp at hu0; subst hu0
                refine ⟨.mapT k u' path e t xs none, by simp [encO, Ty.cast, Ty.beq_refl], .inl ⟨c, _, hc, hob, ?_, ?_, ?_⟩⟩ <;> simp only [tlOf, eB, eR]
                · exact fun _ hg => hg
                · exact fun _ _ hg => hg
                · exact hpo
            · cases ho
        obtain ⟨ob', h1, h2⟩ := key
        obtain ⟨h3, h4⟩ := decMem_ok hM hp.2 hv
        simp only [encMem, h1]
        refine ⟨by simp [h3], fun q hq => ?_⟩
        rcases List.mem_cons.1 hq with rfl | hq
        · exact h2
        · exact h4 q hq
      · cases h
    · cases h
theorem memN_ok : ∀ {l : List Nat} {t : Nat}, memN l t = true ↔ t ∈ l
  | [], t => by simp [memN]
  | k :: l, t => by
    simp only [memN, Bool.or_eq_true, List.mem_cons, memN_ok (l := l)]
    constructor
    · rintro (h | h)
      · exact .inl (Nat.eq_of_beq_eq_true h).symm
      · exact .inr h
    · rintro (h | h)
      · subst h; exact .inl (Nat.beq_refl _)
      · exact .inr h
theorem agree_p {pr : List Nat} (hi : protI pr ri = true) : ∀ i ∈ pr, newB ri β i = β i ∧ newR ri pr ρ i = ρ i := by
  have key : ∀ {ri : List (Nat × Nat)}, protI pr ri = true → ∀ i ∈ pr, ∀ c, lookN ri i = some c → c = i := by
    intro ri
    induction ri with
    | nil => intro _ i _ c hc; simp [lookN] at hc
    | cons q l ih =>
      obtain ⟨k, x⟩ := q
      intro h i hi c hc
      simp only [protI, Bool.and_eq_true] at h
      simp only [lookN] at hc
      cases hb : Nat.beq k i with
      | true =>
        rw [hb] at hc
        simp at hc; subst hc
        have := Nat.eq_of_beq_eq_true hb
        subst this
        have h1 := h.1
        rw [memN_ok.2 hi] at h1
        exact (Nat.eq_of_beq_eq_true (by simpa using h1)).symm
      | false => rw [hb] at hc; exact ih h.2 i hi c hc
  intro i hm
  cases hl : lookN ri i with
  | none => exact ⟨by simp only [newB, hl], by simp only [newR, hl, memN_ok.2 hm, cond_true]⟩
  | some c =>
    have := key hi i hm c hl
    subst this
    exact ⟨by simp only [newB, hl], by simp only [newR, hl]⟩
theorem nodupR_ok : ∀ {Γm : List (Nat × SkO)} {mem : List (Nat × Ob)} {cs : List Nat}, nodupR ri Γm cs = true → mem.map Prod.fst = Γm.map Prod.fst →
    (mem.Pairwise fun q q' => ∀ c c', lookN ri q.1 = some c → lookN ri q'.1 = some c' → c ≠ c') ∧ ∀ q ∈ mem, ∀ c, lookN ri q.1 = some c → c ∉ cs
  | [], mem, cs, _, hm => by
    have : mem = [] := by simpa using hm
    subst this; exact ⟨.nil, by simp⟩
  | (id, s) :: g, mem, cs, h, hm => by
    cases mem with
    | nil => simp at hm
    | cons q mem =>
      simp only [List.map_cons, List.cons.injEq] at hm
      obtain ⟨h1, h2⟩ := hm
      simp only [nodupR] at h
      split at h
      · rename_i c hc
        simp only [Bool.and_eq_true] at h
        obtain ⟨h3, h4⟩ := nodupR_ok h.2 h2
        refine ⟨List.pairwise_cons.2 ⟨fun q' hq' c1 c2 e1 e2 e => ?_, h3⟩, fun q' hq' c1 e1 => ?_⟩
        · rw [h1, hc] at e1
          injection e1 with e1; subst e1; subst e
          exact h4 q' hq' c e2 (.head _)
        · rcases List.mem_cons.1 hq' with rfl | hq'
          · rw [h1, hc] at e1
            injection e1 with e1; subst e1
            intro hm
            have := h.1
            rw [memN_ok.2 hm] at this
            cases this
          · exact fun hm => h4 q' hq' c1 e1 (.tail _ hm)
      · rename_i hn
        obtain ⟨h3, h4⟩ := nodupR_ok h h2
        refine ⟨List.pairwise_cons.2 ⟨fun q' hq' c1 c2 e1 e2 e => ?_, h3⟩, fun q' hq' c1 e1 => ?_⟩
        · rw [h1, hn] at e1; cases e1
        · rcases List.mem_cons.1 hq' with rfl | hq'
          · rw [h1, hn] at e1; cases e1
          · exact h4 q' hq' c1 e1
theorem cr_agree {β β' : Nat → Nat} {ρ ρ' : Nat → Value} : ∀ {m : Bool} {x : AV} {cs : List Value}, (∀ i ∈ allIds x, β' i = β i ∧ ρ' i = ρ i) → cr β ρ ok w m x cs → cr β' ρ' ok w m x cs
  | m, .d t x, cs, _, h => by cases m <;> exact h
  | m, .p id path, cs, hn, h => by
    have := (hn id (.head _)).1
    cases m <;> (simp only [cr] at h ⊢; rw [this]; exact h)
  | m, .e id path, cs, hn, h => by
    have := (hn id (.head _)).2
    cases m <;> (simp only [cr] at h ⊢; rw [this]; exact h)
  | m, .s id, cs, hn, h => by
    have := (hn id (.head _)).2
    cases m <;> (simp only [cr] at h ⊢; rw [this]; exact h)
  | m, .m id, cs, hn, h => by
    have := (hn id (.head _)).1
    cases m <;> (simp only [cr] at h ⊢; rw [this]; exact h)
  | m, .w id _ _, cs, hn, h => by
    have := (hn id (.head _)).1
    cases m <;> (simp only [cr] at h ⊢; rw [this]; exact h)
  | m, .a t x, cs, _, h => by cases m <;> exact h
  | m, .z, cs, _, h => by cases m <;> exact h
  | m, .ns, cs, _, h => by cases m <;> exact h
  | m, .np, cs, _, h => by cases m <;> exact h
  | m, .nm, cs, _, h => by cases m <;> exact h
  | m, .nf, cs, _, h => by cases m <;> exact h
  | m, .f fn caps, cs, hn, h => by cases m <;> exact let ⟨vs, h1, h2⟩ := h; ⟨vs, h1, cr_agree (fun i hi => hn i (by simpa [allIds] using hi)) h2⟩
  | m, .ag l, cs, hn, h => by cases m <;> exact cr_agree (m := false) (x := l) (fun i hi => hn i (by simpa [allIds] using hi)) h
  | m, .tp l, cs, hn, h => by cases m <;> exact let ⟨vs, h1, h2⟩ := h; ⟨vs, h1, cr_agree (fun i hi => hn i (by simpa [allIds] using hi)) h2⟩
  | m, .nil, cs, _, h => by cases m <;> exact h
  | true, .cons x r, cs, hn, h => by
    exact let ⟨c1, vs, h1, h2, h3⟩ := h; ⟨c1, vs, h1, cr_agree (fun i hi => hn i (by simp [allIds, hi])) h2, cr_agree (fun i hi => hn i (by simp [allIds, hi])) h3⟩
  | false, .cons x r, cs, hn, h => by
    exact let ⟨c1, vs, h1, h2, h3⟩ := h; ⟨c1, vs, h1, cr_agree (fun i hi => hn i (by simp [allIds, hi])) h2, cr_agree (fun i hi => hn i (by simp [allIds, hi])) h3⟩
theorem fixE_ok {β β' : Nat → Nat} {ρ ρ' : Nat → Value} {l : List En} (ha : ∀ i ∈ idsE l, β' i = β i ∧ ρ' i = ρ i) : ∀ e ∈ l, (enD β ρ a e).p ok w → (enD β' ρ' a e).p ok w := by
  intro e he h
  have h1 : ∀ i ∈ allIds e.av, β' i = β i ∧ ρ' i = ρ i := by
    intro i hi
    refine ha i ?_
    clear ha h
    induction l with
    | nil => cases he
    | cons x l ih =>
      simp only [idsE, List.mem_append]
      rcases List.mem_cons.1 he with rfl | he
      · exact .inl hi
      · exact .inr (ih he)
  exact ⟨fun hc => let ⟨cs, h2, h3⟩ := h.1 hc; ⟨cs, h2, cr_agree h1 h3⟩, h.2⟩
theorem fixM_ok {β β' : Nat → Nat} {ρ ρ' : Nat → Value} : ∀ {l : List (Nat × Ob)}, (∀ i ∈ idsM l, β' i = β i ∧ ρ' i = ρ i) → ∀ q ∈ l, (∀ g, (tlOf β' ρ' q.1 q.2).blks g ↔ (tlOf β ρ q.1 q.2).blks g) ∧ (∀ b o, (tlOf β' ρ' q.1 q.2).cov b o ↔ (tlOf β ρ q.1 q.2).cov b o) ∧
    ∀ ok w, (tlOf β ρ q.1 q.2).p ok w → (tlOf β' ρ' q.1 q.2).p ok w
  | (id, o) :: l, ha, q, hq => by
    rcases List.mem_cons.1 hq with rfl | hq
    · obtain ⟨h1, h2⟩ := ha id (by
        cases o with
        | mapT k v path e u xs hole => cases hole <;> simp [idsM]
        | _ => simp [idsM])
      cases o with
      | var t c =>
        refine ⟨fun g => by simp only [tlOf, tlVar]; rw [h1], fun b o => by simp only [tlOf, tlVar]; rw [h1], fun ok w hp => ?_⟩
        obtain ⟨cs, hh, hc⟩ := hp
        exact ⟨cs, by rw [h1]; exact hh, cr_agree (fun i hi => ha i (by simp [idsM, hi])) hc⟩
      | row e t xs => simp only [tlOf, h2]; exact ⟨fun _ => trivial, fun _ _ => trivial, fun _ _ h => h⟩
      | tail e t xs => simp only [tlOf, h2]; exact ⟨fun _ => trivial, fun _ _ => trivial, fun _ _ h => h⟩
      | map k v xs => simp only [tlOf, h1]; exact ⟨fun _ => trivial, fun _ _ => trivial, fun _ _ h => h⟩
      | mapT k v path e u xs hole =>
        have hv : holeV ρ' hole = holeV ρ hole := by
          cases hole with
          | none => rfl
          | some q => exact (ha q.2 (by simp [idsM])).2
        simp only [tlOf, h1, h2, hv]; exact ⟨fun _ => trivial, fun _ _ => trivial, fun _ _ h => h⟩
    · exact fixM_ok (fun i hi => ha i (by
        cases o with
        | mapT k v path e u xs hole => cases hole <;> simp [idsM, hi]
        | _ => simp [idsM, hi])) q hq
theorem Rel.decF {Γ : Shp} {env fix : List En} {M F : List (Nat × Ob)} {ri : List (Nat × Nat)} {pr : List Nat} (h : Rel X β ρ ⟨env ++ fix, M ++ F⟩ a w) {x : Γ.De}
    (hd : Gx.decF Γ ri (pr ++ (idsE fix ++ idsM F)) (env ++ fix) M F = some x) :
    ∃ β' ρ', (∀ i ∈ pr, β' i = β i ∧ ρ' i = ρ i) ∧ Rel X β' ρ' ⟨(enc Γ x).env ++ fix, (enc Γ x).mem ++ F⟩ a w ∧
      (∀ q ∈ (enc Γ x).mem, ∀ c, lookN ri q.1 = some c → β' q.1 = β c ∧ ρ' q.1 = ρ c) := by
  unfold Gx.decF decR at hd
  obtain ⟨hb, hd⟩ := bvT hd
  simp only [Bool.and_eq_true] at hb
  obtain ⟨⟨⟨b1, b2⟩, b3⟩, b4⟩ := hb
  have h1 := Rel.freeze M (l0 := []) (F := F) (ks := dEnv (env ++ fix) Γ.env ++ dMem M ri Γ.mem) h
  simp only [List.nil_append] at h1
  split at hd
  · rename_i u v hu hv
    have hx := ofL_ok hd
    have hM := h1.mm
    obtain ⟨es, e1, e2⟩ := decEnv_ok (M := frz Γ ri (env ++ fix) M ++ F) hM (fun e he => h1.en he) v hu
    obtain ⟨m1, m2⟩ := decMem_ok hM b3 hv
    have henc : enc Γ x = ⟨es, encMem Γ.mem v⟩ := by
      unfold enc
      rw [hx, e1]
    rw [henc]
    have hag := agree_p (β := β) (ρ := ρ) b4
    have hagF : ∀ i ∈ idsM F, newB ri β i = β i ∧ newR ri (pr ++ (idsE fix ++ idsM F)) ρ i = ρ i := fun i hi => hag i (by simp [hi])
    have hagE : ∀ i ∈ idsE fix, newB ri β i = β i ∧ newR ri (pr ++ (idsE fix ++ idsM F)) ρ i = ρ i := fun i hi => hag i (by simp [hi])
    refine ⟨newB ri β, newR ri (pr ++ (idsE fix ++ idsM F)) ρ, fun i hi => hag i (by simp [hi]), ?_, ?_⟩
    · have hS : Sb (fun _ => 0) X [] (List.map (enD β ρ a) (env ++ fix)) [] (memO (newB ri β) (newR ri (pr ++ (idsE fix ++ idsM F)) ρ) (encMem Γ.mem v ++ F)) a w := by
        have hpw : (List.map (fun q => tlOf β ρ q.1 q.2) (frz Γ ri (env ++ fix) M) ++ List.map (fun q => tlOf β ρ q.1 q.2) F).Pairwise fun s t => ∀ g, s.blks g → ¬ t.blks g := by rw [← List.map_append]; exact h1.dOO
        have hpw' := List.pairwise_append.1 hpw
        refine Sb.remake h1 (fun t' ht' => ?_) ?_
        · obtain ⟨q, hq, rfl⟩ := List.mem_map.1 ht'
          rcases List.mem_append.1 hq with hq | hq
          · rcases m2 q hq with ⟨c, ob, h2, h3, h4, h5, h6⟩ | ⟨_, h4, h5⟩
            · exact .inl ⟨_, List.mem_map.2 ⟨_, List.mem_append_left _ (lookM_key h3), rfl⟩, h4, h5, h6⟩
            · exact .inr ⟨h4, h5⟩
          · obtain ⟨f1, f2, f3⟩ := fixM_ok hagF q hq
            exact .inl ⟨_, List.mem_map.2 ⟨q, List.mem_append_right _ hq, rfl⟩, fun g hg => (f1 g).1 hg, fun b o hc => (f2 b o).1 hc, f3 _ _ (h1.own _ (List.mem_map.2 ⟨q, List.mem_append_right _ hq, rfl⟩)).1⟩
        · rw [memO, List.map_append]
          obtain ⟨n1, _⟩ := nodupR_ok b1 m1
          refine List.pairwise_append.2 ⟨?_, ?_, ?_⟩
          · rw [List.pairwise_map]
            refine List.Pairwise.imp_of_mem ?_ n1
            intro q q' hq hq' hne g hg hg'
            rcases m2 q hq with ⟨c, ob, h2, h3, h4, _⟩ | ⟨_, h4, _⟩
            · rcases m2 q' hq' with ⟨c', ob', h2', h3', h4', _⟩ | ⟨_, h4', _⟩
              · exact h1.disj (lookM_append h3) (lookM_append h3') (hne c c' h2 h2') g (h4 g hg) (h4' g hg')
              · exact h4' g hg'
            · exact h4 g hg
          · rw [List.pairwise_map]
            have := List.pairwise_map.1 hpw'.2.1
            refine List.Pairwise.imp_of_mem ?_ this
            intro q q' hq hq' hne g hg hg'
            exact hne g ((fixM_ok hagF q hq).1 g |>.1 hg) ((fixM_ok hagF q' hq').1 g |>.1 hg')
          · intro t ht t' ht' g hg hg'
            obtain ⟨q, hq, rfl⟩ := List.mem_map.1 ht
            obtain ⟨q', hq', rfl⟩ := List.mem_map.1 ht'
            rcases m2 q hq with ⟨c, ob, h2, h3, h4, _⟩ | ⟨_, h4, _⟩
            · exact hpw'.2.2 _ (List.mem_map.2 ⟨_, lookM_key h3, rfl⟩) _ (List.mem_map.2 ⟨q', hq', rfl⟩) g (h4 g hg) ((fixM_ok hagF q' hq').1 g |>.1 hg')
            · exact h4 g hg
      have hok : ∀ b o, okR X β ρ (frz Γ ri (env ++ fix) M ++ F) w b o → okR X (newB ri β) (newR ri (pr ++ (idsE fix ++ idsM F)) ρ) (encMem Γ.mem v ++ F) w b o := by
        rintro b o ⟨o1, o2, o3, o4⟩
        refine ⟨o1, o2, o3, fun t' ht' hc => ?_⟩
        obtain ⟨q, hq, rfl⟩ := List.mem_map.1 ht'
        rcases List.mem_append.1 hq with hq | hq
        · rcases m2 q hq with ⟨c, ob, h2, h3, h4, h5, h6⟩ | ⟨_, h4, h5⟩
          · exact o4 _ (List.mem_map.2 ⟨_, List.mem_append_left _ (lookM_key h3), rfl⟩) (h5 b o hc)
          · exact h4 b ((tlOf _ _ q.1 q.2).cb hc)
        · exact o4 _ (List.mem_map.2 ⟨q, List.mem_append_right _ hq, rfl⟩) ((fixM_ok hagF q hq).2.1 b o |>.1 hc)
      refine Rel.ofSb hS rfl fun e he => ?_
      rcases List.mem_append.1 he with he | he
      · exact (enD _ _ a e).weak (e2 e he).1 hok
      · exact (enD _ _ a e).weak (fixE_ok hagE e he (h1.en (List.mem_append_right _ he))) hok
    · intro q hq c hc
      exact ⟨by simp only [newB, hc], by simp only [newR, hc]⟩
  · cases hd
theorem XS.dec_ok {S : XS} {Γ : Shp} (h : Rel X β ρ S.flat a w) {x : Γ.De} (hd : S.dec Γ = some x) :
    ∃ β' ρ', (∀ i ∈ S.prot, β' i = β i ∧ ρ' i = ρ i) ∧ Rel X β' ρ' ⟨(enc Γ x).env ++ S.fix, (enc Γ x).mem ++ S.fixM⟩ a w := by
  obtain ⟨β', ρ', h1, h2, _⟩ := Rel.decF (pr := S.prot) h hd
  exact ⟨β', ρ', h1, h2⟩
end
end Gx
