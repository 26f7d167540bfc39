/- States, and what becomes of them: new objects, other names. -/
import Derived.Test.YtnlnadfpfekeiaaDoorXH
namespace Gd
open Go Go.RowKit
section
variable {β : Nat → Nat} {X : Cx} {G : GL} {D : List DF} {H : HL} {O : List TL} {a : Act} {w w' : World}
def simT (t t' : TL) : Prop := (∀ g, t'.blks g ↔ t.blks g) ∧ (∀ b o, t'.cov b o ↔ t.cov b o) ∧ ∀ ok w, t.p ok w → t'.p ok w
inductive SimL : List TL → List TL → Prop
  | nil : SimL [] []
  | cons {t t' : TL} {l l' : List TL} (h : simT t t') (r : SimL l l') : SimL (t :: l) (t' :: l')
theorem simT.refl (t : TL) : simT t t := ⟨fun _ => Iff.rfl, fun _ _ => Iff.rfl, fun _ _ h => h⟩
theorem SimL.refl : ∀ l : List TL, SimL l l
  | [] => .nil
  | t :: l => .cons (simT.refl t) (SimL.refl l)
theorem SimL.mem {l l' : List TL} (h : SimL l l') : ∀ t' ∈ l', ∃ t ∈ l, simT t t' := by
  induction h with
  | nil => simp
  | cons h r ih =>
    intro u hu
    rcases List.mem_cons.1 hu with rfl | hu
    · exact ⟨_, .head _, h⟩
    · obtain ⟨t, ht, hs⟩ := ih u hu; exact ⟨t, .tail _ ht, hs⟩
theorem SimL.mem' {l l' : List TL} (h : SimL l l') : ∀ t ∈ l, ∃ t' ∈ l', simT t t' := by
  induction h with
  | nil => simp
  | cons h r ih =>
    intro u hu
    rcases List.mem_cons.1 hu with rfl | hu
    · exact ⟨_, .head _, h⟩
    · obtain ⟨t, ht, hs⟩ := ih u hu; exact ⟨t, .tail _ ht, hs⟩
theorem SimL.pw {l l' : List TL} (h : SimL l l') (hp : l.Pairwise fun s t => ∀ g, s.blks g → ¬ t.blks g) : l'.Pairwise fun s t => ∀ g, s.blks g → ¬ t.blks g := by
  induction h with
  | nil => exact .nil
  | cons h r ih =>
    have := List.pairwise_cons.1 hp
    refine List.pairwise_cons.2 ⟨fun u hu g hg hg2 => ?_, ih this.2⟩
    obtain ⟨t, ht, hs⟩ := r.mem u hu
    exact this.1 t ht g ((h.1 g).1 hg) ((hs.1 g).1 hg2)
theorem SimL.append {l l' m m' : List TL} (h : SimL l l') (k : SimL m m') : SimL (l ++ m) (l' ++ m') := by
  induction h with
  | nil => exact k
  | cons h _ ih => exact .cons h ih
theorem SimL.ok {l l' : List TL} (h : SimL l l') {ok0 : Ok} {B : Nat} : ∀ b o, okOf ok0 B β H l w b o → okOf ok0 B β H l' w b o := by
  rintro b o ⟨h1, h2, h3, h4⟩
  refine ⟨h1, h2, h3, fun u hu hc => ?_⟩
  obtain ⟨t, ht, hs⟩ := h.mem u hu
  exact h4 t ht ((hs.2.1 b o).1 hc)
theorem Sb.simO {O' : List TL} (h : Sb β X G D H O a w) (hs : SimL O O') : Sb β X G D H O' a w :=
  { sz := h.sz, df := h.df, fr := h.fr, pn := h.pn, tm := h.tm, bel := h.bel, dat := h.dat.weak hs.ok, obj := h.obj, own := fun u hu => let ⟨t, ht, hst⟩ := hs.mem u hu; ⟨u.weak (hst.2.2 _ _ (h.own t ht).1) hs.ok, fun g hg => (h.own t ht).2 g ((hst.1 g).1 hg)⟩, dHH := h.dHH, dHO := fun p hp u hu hg => let ⟨t, ht, hst⟩ := hs.mem u hu; h.dHO p hp t ht ((hst.1 _).1 hg), dOO := hs.pw h.dOO }
theorem Sb.subO {O' : List TL} (h : Sb β X G D H O a w) (hs : O'.Sublist O) : Sb β X G D H O' a w := by
  have hok : ∀ b o, okOf X.ok X.w.heap.size β H O w b o → okOf X.ok X.w.heap.size β H O' w b o := fun b o ⟨h1, h2, h3, h4⟩ => ⟨h1, h2, h3, fun u hu => h4 u (hs.subset hu)⟩
  exact { sz := h.sz, df := h.df, fr := h.fr, pn := h.pn, tm := h.tm, bel := h.bel, dat := h.dat.weak hok, obj := h.obj, own := fun u hu => ⟨u.weak (h.own u (hs.subset hu)).1 hok, (h.own u (hs.subset hu)).2⟩, dHH := h.dHH, dHO := fun p hp u hu => h.dHO p hp u (hs.subset hu), dOO := h.dOO.sublist hs }
theorem okOf_call {O1 O1' O2 : List TL} {L : List Nat} (h : Sb β X G D [] (O1 ++ O2) a w) (_ : w.heap.size ≤ w'.heap.size) (hL : ∀ g ∈ L, ∃ t ∈ O1, t.blks g) :
    ∀ b o, okOf (okL L (okOf X.ok X.w.heap.size β [] (O1 ++ O2) w)) w.heap.size β [] O1' w' b o → okOf X.ok X.w.heap.size β [] (O1' ++ O2) w' b o := by
  rintro b o ⟨h1, h2, _, h4⟩
  have hO2 : ∀ u ∈ O2, ¬ u.cov b o → ∀ v ∈ O1' ++ O2, v = u → ¬ v.cov b o := fun u _ hn v _ e => e ▸ hn
  have fin : (X.ok b o ∨ X.w.heap.size ≤ b) → (∀ u ∈ O2, ¬ u.cov b o) → okOf X.ok X.w.heap.size β [] (O1' ++ O2) w' b o := by
    intro h5 h6
    refine ⟨h5, h2, by simp, fun u hu => ?_⟩
    rcases List.mem_append.1 hu with hu | hu
    · exact h4 u hu
    · exact h6 u hu
  rcases h1 with (h1 | h1) | h1
  · exact fin h1.1 fun u hu => h1.2.2.2 u (by simp [hu])
  · obtain ⟨t, ht, hg⟩ := hL b h1
    have hm := (h.own t (by simp [ht])).2 b hg
    refine fin (X.mine_ok hm o) fun u hu hc => ?_
    exact (List.pairwise_append.1 h.dOO).2.2 t ht u hu b hg (u.cb hc)
  · refine fin (.inr (Nat.le_trans h.bel.size h1)) fun u hu hc => ?_
    have := h.olt (t := u) (by simp [hu]) (u.cb hc)
    omega
theorem Sb.callO {O1 O1' O2 : List TL} {L : List Nat} (h : Sb β X G D [] (O1 ++ O2) a w) (hb : BelowL L w.heap.size w w') (hL : ∀ g ∈ L, ∃ t ∈ O1, t.blks g) (hcov : ∀ t ∈ O1, ∀ b o, t.blks b → t.cov b o)
    (hp : ∀ t ∈ O1', t.p (okOf (okL L (okOf X.ok X.w.heap.size β [] (O1 ++ O2) w)) w.heap.size β [] O1' w') w' ∧ ∀ g, t.blks g → w.heap.size ≤ g ∨ g ∈ L) (hd : O1'.Pairwise fun s t => ∀ g, s.blks g → ¬ t.blks g) :
    Sb β X G D [] (O1' ++ O2) a w' := by
  have hpw := List.pairwise_append.1 h.dOO
  have hsame : ∀ b, b < w.heap.size → (∀ t ∈ O1, ¬ t.blks b) → w'.heap[b]? = w.heap[b]? := fun b hb' hn => hb.block b hb' fun hm => by obtain ⟨t, ht, hg⟩ := hL b hm; exact hn t ht hg
  have hevo : Evo (okOf X.ok X.w.heap.size β [] (O1 ++ O2) w) w w' := Evo.of_blocks hb.size fun b o hk => hsame b hk.2.1 fun t ht hg => hk.2.2.2 t (by simp [ht]) (hcov t ht b o hg)
  have hok : ∀ b o, okOf X.ok X.w.heap.size β [] (O1 ++ O2) w b o → okOf X.ok X.w.heap.size β [] (O1' ++ O2) w' b o := by
    rintro b o ⟨h1, h2, h3, h4⟩
    refine ⟨h1, Nat.lt_of_lt_of_le h2 hb.size, h3, fun u hu hc => ?_⟩
    rcases List.mem_append.1 hu with hu | hu
    · rcases (hp u hu).2 b (u.cb hc) with hg | hg
      · omega
      · obtain ⟨t, ht, hg⟩ := hL b hg
        exact h4 t (by simp [ht]) (hcov t ht b o hg)
    · exact h4 u (by simp [hu]) hc
  have hmine : ∀ t ∈ O1', ∀ g, t.blks g → X.mine g := by
    intro t ht g hg
    rcases (hp t ht).2 g hg with h1 | h1
    · exact .inl (Nat.le_trans h.bel.size h1)
    · obtain ⟨u, hu, hg⟩ := hL g h1
      exact (h.own u (by simp [hu])).2 g hg
  have hO2 : ∀ u ∈ O2, ∀ g, u.blks g → w'.heap[g]? = w.heap[g]? := fun u hu g hg => hsame g (h.olt (by simp [hu]) hg) fun t ht hg2 => hpw.2.2 t ht u hu g hg2 hg
  refine { sz := h.sz, df := h.df, fr := h.fr, pn := h.pn, tm := h.tm, bel := ?_, dat := (h.dat.evo hevo).weak hok, obj := by simp, own := ?_, dHH := by simp, dHO := by simp, dOO := ?_ }
  · refine h.bel.trans ⟨hb.os, hb.tape, hb.output, hb.size, fun k hk hn => hsame k (Nat.lt_of_lt_of_le hk h.bel.size) fun t ht hg => ?_⟩
    exact ((h.own t (by simp [ht])).2 k hg).elim (fun h => by omega) hn
  · intro u hu
    rcases List.mem_append.1 hu with hu | hu
    · exact ⟨u.weak (hp u hu).1 (okOf_call h hb.size hL), hmine u hu⟩
    · have := h.own u (by simp [hu] : u ∈ O1 ++ O2)
      exact ⟨u.weak (u.keep this.1 (hO2 u hu) hevo) hok, this.2⟩
  · refine List.pairwise_append.2 ⟨hd, hpw.2.1, fun t ht u hu g hg hg2 => ?_⟩
    rcases (hp t ht).2 g hg with h1 | h1
    · have := h.olt (t := u) (by simp [hu]) hg2; omega
    · obtain ⟨v, hv, hg3⟩ := hL g h1
      exact hpw.2.2 v hv u hu g hg3 hg2
end
end Gd
namespace Gx
open Go Go.RowKit Gd
set_option linter.unusedVariables false
set_option linter.unusedSimpArgs false
def upd {α : Type} (f : Nat → α) (d : Nat) (v : α) : Nat → α := fun i => if i = d then v else f i
theorem upd_same {α : Type} (f : Nat → α) (d : Nat) (v : α) : upd f d v d = v := by simp [upd]
theorem upd_other {α : Type} (f : Nat → α) {d i : Nat} (v : α) (h : i ≠ d) : upd f d v i = f i := by simp [upd, h]
def offBy (d : Nat) (β β' : Nat → Nat) (ρ ρ' : Nat → Value) : Prop := ∀ i, i ≠ d → β' i = β i ∧ ρ' i = ρ i
theorem offBy_upd (d : Nat) (β : Nat → Nat) (ρ : Nat → Value) (g : Nat) (v : Value) : offBy d β (upd β d g) ρ (upd ρ d v) := fun i h => ⟨upd_other _ _ h, upd_other _ _ h⟩
theorem neB {a b : Nat} (h : (!Nat.beq a b) = true) : a ≠ b := by
  intro e; subst e; simp [Nat.beq_refl] at h
section
variable {β β' : Nat → Nat} {ρ ρ' : Nat → Value} {ok : Ok} {w : World} {d : Nat}
theorem cr_noId (ha : offBy d β β' ρ ρ') : ∀ {m : Bool} {x : AV} {cs : List Value}, noId d x = true → cr β ρ ok w m x cs → cr β' ρ' ok w m x cs
  | m, .d t x, cs, _, h => by cases m <;> exact h
  | m, .p id path, cs, hn, h => by
    have := (ha id (neB (by simpa [noId] using hn))).1
    cases m <;> (simp only [cr] at h ⊢; rw [this]; exact h)
  | m, .e id path, cs, hn, h => by
    have := (ha id (neB (by simpa [noId] using hn))).2
    cases m <;> (simp only [cr] at h ⊢; rw [this]; exact h)
  | m, .s id, cs, hn, h => by
    have := (ha id (neB (by simpa [noId] using hn))).2
    cases m <;> (simp only [cr] at h ⊢; rw [this]; exact h)
  | m, .m id, cs, hn, h => by
    have := (ha id (neB (by simpa [noId] using hn))).1
    cases m <;> (simp only [cr] at h ⊢; rw [this]; exact h)
  | m, .w id _ _, cs, hn, h => by
    have := (ha id (neB (by simpa [noId] using hn))).1
    cases m <;> (simp only [cr] at h ⊢; rw [this]; exact h)
  | m, .a t x, cs, _, h => by cases m <;> exact h
  | m, .z, cs, _, h => by cases m <;> exact h
  | m, .ns, cs, _, h => by cases m <;> exact h
  | m, .np, cs, _, h => by cases m <;> exact h
  | m, .nm, cs, _, h => by cases m <;> exact h
  | m, .nf, cs, _, h => by cases m <;> exact h
  | m, .f fn caps, cs, hn, h => by cases m <;> exact let ⟨vs, h1, h2⟩ := h; ⟨vs, h1, cr_noId ha (by simpa [noId] using hn) h2⟩
  | m, .ag l, cs, hn, h => by cases m <;> exact cr_noId ha (m := false) (x := l) (by simpa [noId] using hn) h
  | m, .tp l, cs, hn, h => by cases m <;> exact let ⟨vs, h1, h2⟩ := h; ⟨vs, h1, cr_noId ha (by simpa [noId] using hn) h2⟩
  | m, .nil, cs, _, h => by cases m <;> exact h
  | true, .cons x r, cs, hn, h => by
    simp only [noId, Bool.and_eq_true] at hn
    exact let ⟨c1, vs, h1, h2, h3⟩ := h; ⟨c1, vs, h1, cr_noId ha hn.1 h2, cr_noId ha hn.2 h3⟩
  | false, .cons x r, cs, hn, h => by
    simp only [noId, Bool.and_eq_true] at hn
    exact let ⟨c1, vs, h1, h2, h3⟩ := h; ⟨c1, vs, h1, cr_noId ha hn.1 h2, cr_noId ha hn.2 h3⟩
def noIdO (d : Nat) : Ob → Prop
  | .var _ c => noId d c = true
  | .mapT _ _ _ _ _ _ (some q) => q.2 ≠ d
  | _ => True
theorem freshM_ok : ∀ {M : List (Nat × Ob)}, freshM d M = true → ∀ q ∈ M, q.1 ≠ d ∧ noIdO d q.2
  | [], _, q, hq => by cases hq
  | (k, o) :: l, h, q, hq => by
    cases o with
    | var t c =>
      simp only [freshM, Bool.and_eq_true] at h
      rcases List.mem_cons.1 hq with rfl | hq
      · exact ⟨neB h.1.1, h.1.2⟩
      · exact freshM_ok h.2 q hq
    | mapT k1 v path e u xs hole =>
      cases hole with
      | none =>
        simp only [freshM, Bool.and_eq_true] at h
        rcases List.mem_cons.1 hq with rfl | hq
        · exact ⟨neB h.1, trivial⟩
        · exact freshM_ok h.2 q hq
      | some q0 =>
        simp only [freshM, Bool.and_eq_true] at h
        rcases List.mem_cons.1 hq with rfl | hq
        · exact ⟨neB h.1.1, neB h.1.2⟩
        · exact freshM_ok h.2 q hq
    | _ =>
      simp only [freshM, Bool.and_eq_true] at h
      rcases List.mem_cons.1 hq with rfl | hq
      · exact ⟨neB h.1, trivial⟩
      · exact freshM_ok h.2 q hq
theorem sim_off (ha : offBy d β β' ρ ρ') : ∀ {M : List (Nat × Ob)}, freshM d M = true → SimL (memO β ρ M) (memO β' ρ' M)
  | [], _ => .nil
  | (k, o) :: l, h => by
    have hq := freshM_ok h (k, o) (.head _)
    have hl : freshM d l = true := by
      cases o with
      | mapT k1 v path e u xs hole => cases hole <;> simp only [freshM, Bool.and_eq_true] at h <;> exact h.2
      | _ => simp only [freshM, Bool.and_eq_true] at h; exact h.2
    refine .cons ?_ (sim_off ha hl)
    obtain ⟨h1, h2⟩ := ha k hq.1
    cases o with
    | var t c =>
      refine ⟨fun g => by simp only [tlOf, tlVar]; rw [h1], fun b o => by simp only [tlOf, tlVar]; rw [h1], fun ok w hp => ?_⟩
      obtain ⟨cs, hh, hc⟩ := hp
      exact ⟨cs, by rw [h1]; exact hh, cr_noId ha hq.2 hc⟩
    | row e t xs => simp only [tlOf, h2]; exact simT.refl _
    | tail e t xs => simp only [tlOf, h2]; exact simT.refl _
    | map k v xs => simp only [tlOf, h1]; exact simT.refl _
    | mapT k1 v path e u xs hole =>
      have hv : holeV ρ' hole = holeV ρ hole := by
        cases hole with
        | none => rfl
        | some q => exact (ha q.2 hq.2).2
      simp only [tlOf, h1, h2, hv]; exact simT.refl _
theorem enD_off {a : Act} (ha : offBy d β β' ρ ρ') {e : En} (hn : noId d e.av = true) (h : (enD β ρ a e).p ok w) : (enD β' ρ' a e).p ok w :=
  ⟨fun hc => let ⟨cs, h1, h2⟩ := h.1 hc; ⟨cs, h1, cr_noId ha hn h2⟩, h.2⟩
theorem dropId_mem {l : List En} {e : En} (h : e ∈ dropId d l) : e ∈ l ∧ noId d e.av = true := by
  induction l with
  | nil => cases h
  | cons x l ih =>
    simp only [dropId] at h
    cases hb : noId d x.av with
    | true =>
      rw [hb] at h
      rcases List.mem_cons.1 h with rfl | h
      · exact ⟨.head _, hb⟩
      · exact ⟨.tail _ (ih h).1, (ih h).2⟩
    | false => rw [hb] at h; exact ⟨.tail _ (ih h).1, (ih h).2⟩
theorem offI_mem {l : List En} (h : offI d l = true) : ∀ e ∈ l, noId d e.av = true := by
  induction l with
  | nil => intro e he; cases he
  | cons x l ih =>
    simp only [offI, Bool.and_eq_true] at h
    intro e he
    rcases List.mem_cons.1 he with rfl | he
    · exact h.1
    · exact ih h.2 e he
end
section
variable {X : Cx} {β β' : Nat → Nat} {ρ ρ' : Nat → Value} {S : St} {a : Act} {w w' : World} {d : Nat}
theorem Rel.off (h : Rel X β ρ S a w) (ha : offBy d β β' ρ ρ') (hf : freshM d S.mem = true) {env' : List En} (he : ∀ e ∈ env', e ∈ S.env ∧ noId d e.av = true) : Rel X β' ρ' ⟨env', S.mem⟩ a w := by
  have h1 := Sb.simO h (sim_off ha hf)
  refine { h1 with dat := AllD_mem.2 fun x hx => ?_ }
  obtain ⟨e, hm, rfl⟩ := List.mem_map.1 hx
  obtain ⟨h2, h3⟩ := he e hm
  exact enD_off ha h3 ((enD β ρ a e).weak (h.en h2) (sim_off ha hf).ok)
theorem Rel.ofSb {G : GL} {D : List DF} {O : List TL} (h : Sb (fun _ => 0) X G D [] O a w) {mem : List (Nat × Ob)} (hO : O = memO β ρ mem) {env : List En}
    (he : ∀ e ∈ env, (enD β ρ a e).p (okR X β ρ mem w) w) : Rel X β ρ ⟨env, mem⟩ a w := by
  subst hO
  exact { h with tm := by simp, dat := AllD_mem.2 fun x hx => by obtain ⟨e, hm, rfl⟩ := List.mem_map.1 hx; exact he e hm }
theorem Rel.alloc (h : Rel X β ρ S a w) (ha : offBy d β β' ρ ρ') (hf : freshM d S.mem = true) {env' : List En} (he : ∀ e ∈ env', e ∈ S.env ∧ noId d e.av = true) (hb : Below w.heap.size w w') {o : Ob}
    (ht : ∀ g, (tlOf β' ρ' d o).blks g → w.heap.size ≤ g) (hq : (tlOf β' ρ' d o).p (okR X β' ρ' ((d, o) :: S.mem) w') w') : Rel X β' ρ' ⟨env', (d, o) :: S.mem⟩ a w' :=
  Sb.allocTL (h.off ha hf he) hb ht hq
end
end Gx
