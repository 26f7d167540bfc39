/- Calls. -/
import Derived.Test.YtnlnadfpfekeiaaDoorXN
namespace Gx
open Go Go.RowKit Gd
set_option linter.unusedVariables false
set_option linter.unusedSimpArgs false
def PostC (c : Con) (β : Nat → Nat) (ρ : Nat → Value) (ok : Ok) (L : List Nat) (w : World) (y : c.Δ.De) (v : Value) (w' : World) : Prop :=
  ∃ (β' : Nat → Nat) (ρ' : Nat → Value), agP (c.Γ.mem.map Prod.fst) β β' ρ ρ' ∧
    (∃ cs, v = (resAV (enc c.Δ y).env).val cs ∧ cr β' ρ' (okOf (okL L ok) w.heap.size (fun _ => 0) [] (memO β' ρ' (enc c.Δ y).mem) w') w' false (resAV (enc c.Δ y).env) cs) ∧
    (∀ t ∈ memO β' ρ' (enc c.Δ y).mem, t.p (okOf (okL L ok) w.heap.size (fun _ => 0) [] (memO β' ρ' (enc c.Δ y).mem) w') w' ∧ ∀ g, t.blks g → w.heap.size ≤ g ∨ g ∈ L) ∧
    (memO β' ρ' (enc c.Δ y).mem).Pairwise fun s t => ∀ g, s.blks g → ¬ t.blks g
def GlobOk (gl : List (Nat × Σ t : Ty, t.De)) (ok : Ok) (w : World) : Prop :=
  ∀ q ∈ gl, isAt (rt q.2.1) ok w q.2.2 (.pointer (some ⟨q.1, 0, none⟩)) ∧ ok q.1 0 ∧ ∃ cs t fz, w.heap[q.1]? = some (.cells cs t fz) ∧ cs.size = q.2.1.size
theorem GlobOk.keep {gl : List (Nat × Σ t : Ty, t.De)} {ok : Ok} {w w' : World} (h : GlobOk gl ok w) (hs : w.heap.size ≤ w'.heap.size) (hb : ∀ b o, ok b o → w'.heap[b]? = w.heap[b]?) : GlobOk gl ok w' :=
  fun q hq => let ⟨h1, h2, h3⟩ := h q hq; ⟨h1.evo (Evo.of_blocks hs hb), h2, by rw [hb _ _ h2]; exact h3⟩
theorem GlobOk.weak {gl : List (Nat × Σ t : Ty, t.De)} {ok ok' : Ok} {w : World} (h : GlobOk gl ok w) (hk : ∀ b o, ok b o → ok' b o) : GlobOk gl ok' w := fun q hq => let ⟨h1, h2, h3⟩ := h q hq; ⟨h1.weak hk, hk _ _ h2, h3⟩
def okN (X : Cx) : Ok := fun b o => X.ok b o ∧ b ∉ X.lent ∧ b < X.w.heap.size
theorem glob_here {gl : List (Nat × Σ t : Ty, t.De)} {X : Cx} {β : Nat → Nat} {G : GL} {D : List DF} {O : List TL} {a : Act} {w : World} (h : Sb β X G D [] O a w) (hG : GlobOk gl (okN X) X.w) : GlobOk gl (okOf X.ok X.w.heap.size β [] O w) w := by
  refine (hG.keep h.bel.size fun b o hk => h.bel.block b hk.2.2 hk.2.1).weak fun b o hk => ⟨.inl hk.1, Nat.lt_of_lt_of_le hk.2.2 h.bel.size, by simp, fun t ht hc => ?_⟩
  rcases (h.own t ht).2 b (t.cb hc) with h1 | h1
  · have := hk.2.2; omega
  · exact hk.2.1 h1
def ConOk (P : Program) (gl : List (Nat × Σ t : Ty, t.De)) (c : Con) : Prop :=
  ∀ (ok : Ok) (w : World) (L : List Nat) (β : Nat → Nat) (ρ : Nat → Value) (x : c.Γ.De) (y : c.Δ.De) (vs : List Value), (∀ b o, ok b o → b < w.heap.size) → GlobOk gl ok w → vs.length = c.Γ.env.length → Lends (memO β ρ (enc c.Γ x).mem) L ok w →
    (∀ e ∈ (enc c.Γ x).env, ∃ cs, vs[e.t]? = some (e.av.val cs) ∧ cr β ρ ok w false e.av cs) → c.fn x = some y → Calls P c.f ⟨vs⟩ w (RetL L w (PostC c β ρ ok L w y))
section
variable {β β' : Nat → Nat} {ρ ρ' : Nat → Value} {ok : Ok} {w : World}
theorem cr_ren {g : Nat → Nat} : ∀ {m : Bool} {x : AV} {cs : List Value}, (∀ i ∈ allIds x, β' (g i) = β i ∧ ρ' (g i) = ρ i) → cr β ρ ok w m x cs → cr β' ρ' ok w m (renAV g x) cs
  | m, .d t x, cs, _, h => by cases m <;> exact h
  | m, .p id path, cs, hn, h => by
    have := (hn id (.head _)).1
    cases m <;> (simp only [cr, renAV] at h ⊢; rw [this]; exact h)
  | m, .e id path, cs, hn, h => by
    have := (hn id (.head _)).2
    cases m <;> (simp only [cr, renAV] at h ⊢; rw [this]; exact h)
  | m, .s id, cs, hn, h => by
    have := (hn id (.head _)).2
    cases m <;> (simp only [cr, renAV] at h ⊢; rw [this]; exact h)
  | m, .m id, cs, hn, h => by
    have := (hn id (.head _)).1
    cases m <;> (simp only [cr, renAV] at h ⊢; rw [this]; exact h)
  | m, .w id _ _, cs, hn, h => by
    have := (hn id (.head _)).1
    cases m <;> (simp only [cr, renAV] at h ⊢; rw [this]; exact h)
  | m, .a t x, cs, _, h => by cases m <;> exact h
  | m, .z, cs, _, h => by cases m <;> exact h
  | m, .ns, cs, _, h => by cases m <;> exact h
  | m, .np, cs, _, h => by cases m <;> exact h
  | m, .nm, cs, _, h => by cases m <;> exact h
  | m, .nf, cs, _, h => by cases m <;> exact h
  | m, .f fn caps, cs, hn, h => by cases m <;> exact let ⟨vs, h1, h2⟩ := h; ⟨vs, h1, cr_ren (fun i hi => hn i (by simpa [allIds] using hi)) h2⟩
  | m, .ag l, cs, hn, h => by cases m <;> exact cr_ren (m := false) (x := l) (fun i hi => hn i (by simpa [allIds] using hi)) h
  | m, .tp l, cs, hn, h => by cases m <;> exact let ⟨vs, h1, h2⟩ := h; ⟨vs, h1, cr_ren (fun i hi => hn i (by simpa [allIds] using hi)) h2⟩
  | m, .nil, cs, _, h => by cases m <;> exact h
  | true, .cons x r, cs, hn, h => by
    obtain ⟨c1, vs, h1, h2, h3⟩ := h
    refine ⟨c1, vs, ?_, cr_ren (fun i hi => hn i (by simp [allIds, hi])) h2, cr_ren (fun i hi => hn i (by simp [allIds, hi])) h3⟩
    rw [h1]; cases x <;> rfl
  | false, .cons x r, cs, hn, h => by
    exact let ⟨c1, vs, h1, h2, h3⟩ := h; ⟨c1, vs, h1, cr_ren (fun i hi => hn i (by simp [allIds, hi])) h2, cr_ren (fun i hi => hn i (by simp [allIds, hi])) h3⟩
theorem ren_val (g : Nat → Nat) (x : AV) (cs : List Value) : (renAV g x).val cs = x.val cs := by cases x <;> rfl
theorem ren_sim {g : Nat → Nat} : ∀ {l : List (Nat × Ob)}, (∀ i ∈ idsM l, β' (g i) = β i ∧ ρ' (g i) = ρ i) → SimL (memO β ρ l) (memO β' ρ' (renMem g l))
  | [], _ => .nil
  | (id, o) :: l, h => by
    have h1 := h id (by
      cases o with
      | mapT k v path e u xs hole => cases hole <;> simp [idsM]
      | _ => simp [idsM])
    refine .cons ?_ (ren_sim fun i hi => h i (by
      cases o with
      | mapT k v path e u xs hole => cases hole <;> simp [idsM, hi]
      | _ => simp [idsM, hi]))
    cases o with
    | var t c =>
      refine ⟨fun b => by simp only [tlOf, tlVar, renO]; rw [h1.1], fun b o => by simp only [tlOf, tlVar, renO]; rw [h1.1], fun ok w hp => ?_⟩
      obtain ⟨cs, hh, hc⟩ := hp
      exact ⟨cs, by rw [h1.1]; exact hh, cr_ren (fun i hi => h i (by simp [idsM, hi])) hc⟩
    | row e t xs => simp only [tlOf, renO, h1.2]; exact simT.refl _
    | tail e t xs => simp only [tlOf, renO, h1.2]; exact simT.refl _
    | map k v xs => simp only [tlOf, renO, h1.1]; exact simT.refl _
    | mapT k v path e u xs hole =>
      cases hole with
      | none => simp only [tlOf, renO, h1.1, h1.2, holeV]; exact simT.refl _
      | some q =>
        have h2 := (h q.2 (by simp [idsM])).2
        simp only [tlOf, renO, h1.1, h1.2, holeV, holeK, h2]; exact simT.refl _
theorem agree_sim {l : List (Nat × Ob)} (h : ∀ i ∈ idsM l, β' i = β i ∧ ρ' i = ρ i) : SimL (memO β ρ l) (memO β' ρ' l) := by
  have := ren_sim (g := id) (β' := β') (ρ' := ρ') h
  have e : renMem id l = l := by
    have hav : ∀ x : AV, renAV id x = x := by intro x; induction x <;> simp_all [renAV]
    have : ∀ q : Nat × Ob, (id q.1, renO id q.2) = q := by intro q; obtain ⟨i, o⟩ := q; cases o with
      | mapT k v path e u xs hole => cases hole <;> simp [renO]
      | _ => simp [renO, hav]
    simp only [renMem]
    rw [List.map_congr_left (g := fun q => q) (fun q _ => this q)]
    simp
  rw [e] at this
  exact this
end
theorem lookM_rem {c t : Nat} (hne : t ≠ c) : ∀ M : List (Nat × Ob), lookM (remM M t) c = lookM M c
  | [] => rfl
  | q :: l => by
    simp only [remM, lookM]
    cases hb : Nat.beq q.1 t with
    | true =>
      have h1 := Nat.eq_of_beq_eq_true hb
      cases hc : Nat.beq q.1 c with
      | true => exact absurd (h1.symm.trans (Nat.eq_of_beq_eq_true hc)) hne
      | false => rfl
    | false =>
      simp only [cond_false, lookM, lookM_rem hne l]
theorem splitM_perm : ∀ (ids : List Nat) (M : List (Nat × Ob)), ((splitM M ids).2 ++ (splitM M ids).1).Perm M
  | [], M => by simp [splitM]
  | t :: ts, M => by
    simp only [splitM]
    split
    · rename_i o ho
      obtain ⟨l1, l2, h1, _, h3⟩ := lookM_split ho
      have := splitM_perm ts (remM M t)
      simp only [List.cons_append]
      refine (List.Perm.cons _ this).trans ?_
      rw [h3, h1]
      exact List.perm_middle.symm
    · exact splitM_perm ts M
theorem splitM_mem : ∀ {ids : List Nat} {M : List (Nat × Ob)} {c : Nat} {o : Ob}, ids.Nodup → c ∈ ids → lookM M c = some o → (c, o) ∈ (splitM M ids).2
  | t :: ts, M, c, o, hn, hc, ho => by
    have hn' := List.nodup_cons.1 hn
    simp only [splitM]
    rcases List.mem_cons.1 hc with rfl | hc
    · rw [ho]; exact .head _
    · have hne : t ≠ c := fun e => hn'.1 (e ▸ hc)
      split
      · exact .tail _ (splitM_mem hn'.2 hc (by rw [lookM_rem hne]; exact ho))
      · exact splitM_mem hn'.2 hc ho
theorem splitM_sub : ∀ {ids : List Nat} {M : List (Nat × Ob)}, ids.Nodup → ∀ q ∈ (splitM M ids).2, q.1 ∈ ids ∧ lookM M q.1 = some q.2
  | [], M, _, q, hq => by simp [splitM] at hq
  | t :: ts, M, hn, q, hq => by
    have hn' := List.nodup_cons.1 hn
    simp only [splitM] at hq
    split at hq
    · rename_i o ho
      rcases List.mem_cons.1 hq with rfl | hq
      · exact ⟨.head _, ho⟩
      · obtain ⟨h1, h2⟩ := splitM_sub hn'.2 q hq
        exact ⟨.tail _ h1, by rw [lookM_rem (fun e => hn'.1 (by rw [e]; exact h1))] at h2; exact h2⟩
    · obtain ⟨h1, h2⟩ := splitM_sub hn'.2 q hq
      exact ⟨.tail _ h1, h2⟩
theorem encEnv_cs : ∀ {Γe : List (Nat × Sk)} {l : List DV}, ∀ e ∈ (encEnv Γe l).1, e.cs = []
  | [], l, e, he => by simp [encEnv] at he
  | (t, s) :: g, l, e, he => by
    simp only [encEnv] at he
    rcases List.mem_cons.1 he with rfl | he
    · rfl
    · exact encEnv_cs e he
theorem lentIds_mem {ri : List (Nat × Nat)} : ∀ {Γm : List (Nat × SkO)} {id c : Nat}, id ∈ Γm.map Prod.fst → lookN ri id = some c → c ∈ lentIds ri Γm
  | (k, s) :: l, id, c, h, hc => by
    simp only [lentIds]
    rcases List.mem_cons.1 h with e | h
    · simp only at e; subst e
      rw [hc]; exact .head _
    · split
      · exact .tail _ (lentIds_mem h hc)
      · exact lentIds_mem h hc
theorem lentIds_sub {ri : List (Nat × Nat)} : ∀ {Γm : List (Nat × SkO)} {c : Nat}, c ∈ lentIds ri Γm → ∃ id ∈ Γm.map Prod.fst, lookN ri id = some c
  | (k, s) :: l, c, h => by
    simp only [lentIds] at h
    split at h
    · rename_i x hx
      rcases List.mem_cons.1 h with rfl | h
      · exact ⟨k, .head _, hx⟩
      · obtain ⟨id, h1, h2⟩ := lentIds_sub h; exact ⟨id, .tail _ h1, h2⟩
    · obtain ⟨id, h1, h2⟩ := lentIds_sub h; exact ⟨id, .tail _ h1, h2⟩
theorem lentIds_nodup {ri : List (Nat × Nat)} : ∀ {Γm : List (Nat × SkO)} {cs : List Nat}, nodupR ri Γm cs = true → (lentIds ri Γm).Nodup ∧ ∀ c ∈ lentIds ri Γm, c ∉ cs
  | [], _, _ => ⟨.nil, by simp [lentIds]⟩
  | (id, s) :: l, cs, h => by
    simp only [nodupR] at h
    simp only [lentIds]
    split at h
    · rename_i c hc
      simp only [Bool.and_eq_true] at h
      obtain ⟨h1, h2⟩ := lentIds_nodup h.2
      refine ⟨List.nodup_cons.2 ⟨fun hm => h2 c hm (.head _), h1⟩, fun x hx => ?_⟩
      rcases List.mem_cons.1 hx with rfl | hx
      · intro hm
        have := h.1
        rw [memN_ok.2 hm] at this
        cases this
      · exact fun hm => h2 x hx (.tail _ hm)
    · exact lentIds_nodup h
def blkO (β : Nat → Nat) (ρ : Nat → Value) : Nat × Ob → List Nat
  | (id, .var _ _) => [β id]
  | (id, .map _ _ _) => [β id]
  | (id, .mapT _ _ _ _ _ _ _) => β id :: (vsOf (ρ id)).flatMap blkL
  | (id, _) => blkL (ρ id)
theorem mem_blkO {β : Nat → Nat} {ρ : Nat → Value} {q : Nat × Ob} {g : Nat} : g ∈ blkO β ρ q ↔ (tlOf β ρ q.1 q.2).blks g := by
  obtain ⟨id, o⟩ := q
  cases o with
  | var t c => simp [blkO, tlOf, tlVar]
  | row e t xs => simp only [blkO, mem_blkL, tlOf, ml]
  | tail e t xs => simp only [blkO, mem_blkL, tlOf, tlTail]
  | map k v xs => simp [blkO, tlOf, tlMap]
  | mapT k v path e u xs hole => simp only [blkO, tlOf, tlMapT, List.mem_cons, List.mem_flatMap, mem_blkL]
def isTailO : Ob → Bool
  | .tail _ _ _ => true
  | .mapT _ _ _ _ _ _ _ => true
  | _ => false
theorem full_cov {β : Nat → Nat} {ρ : Nat → Value} {id : Nat} {o : Ob} (h : isTailO o = false) {b : Nat} (f : Nat) (hb : (tlOf β ρ id o).blks b) : (tlOf β ρ id o).cov b f := by
  cases o with
  | tail e t xs => cases h
  | var t c => exact hb
  | row e t xs => exact hb
  | map k v xs => exact hb
  | mapT k v path e u xs hole => cases h
theorem decMem_kind {M F : List (Nat × Ob)} {ri : List (Nat × Nat)} {pr : List Nat} : ∀ {Γm : List (Nat × SkO)} {l : List DV}, noTail Γm = true → decMem M F ri pr Γm = some l → ∀ q ∈ Γm, ∀ c ob, lookN ri q.1 = some c → lookM M c = some ob → isTailO ob = false
  | (id, s) :: g, l, hn, h, q, hq, c, ob, hc, hob => by
    simp only [decMem] at h
    split at h
    · rename_i o ho
      split at h
      · rename_i u v hu hv
        have hn' : noTail g = true := by cases s <;> simp_all [noTail]
        rcases List.mem_cons.1 hq with rfl | hq
        · simp only [lookR, hc, hob] at ho
          simp at ho; subst ho
          cases s <;> cases ob <;> simp_all [decO, noTail, isTailO]
        · exact decMem_kind hn' hv q hq c ob hc hob
      · cases h
    · cases h
section
variable {P : Program} {Y : TX} {X : Cx} {S : XS} {β β' : Nat → Nat} {ρ ρ' : Nat → Value} {a a' : Act} {w w' : World} {n : Nat}
variable {ops : Array Oper} {Q : Exit → Act → World → Prop} {rest : List Oper} {R : Type} {k : XS → Option R} {r : R}
theorem argE_ok (h : Rel X β ρ S.flat a w) : ∀ {xs : List Operand} {i : Nat} {es : List En} (pre : List Value), pre.length = i → argE S xs i = some es →
    es.length = xs.length ∧ ∀ e ∈ es, (enD β ρ ⟨(pre ++ xs.map a.eval).toArray, []⟩ e).p (okR X β ρ S.flat.mem w) w
  | [], i, es, pre, _, he => by simp [argE] at he; subst he; exact ⟨rfl, by simp⟩
  | x :: xs, i, es, pre, hi, he => by
    simp only [argE] at he
    split at he
    · rename_i v r hv hr
      obtain ⟨hbi, he⟩ := bvT he
      simp at he; subst he
      obtain ⟨cs, h1, h2⟩ := h.ev (holdsC_nil a) hv
      obtain ⟨h3, h4⟩ := argE_ok h (xs := xs) (i := i + 1) (pre ++ [a.eval x]) (by simp [hi]) hr
      refine ⟨by simp [h3], fun e hm => ?_⟩
      have hl : pre ++ [a.eval x] ++ xs.map a.eval = pre ++ (x :: xs).map a.eval := by simp
      rw [hl] at h4
      rcases List.mem_cons.1 hm with rfl | hm
      · refine ⟨fun _ => ⟨cs, ?_, h2⟩, .inl (holdsC_nil _)⟩
        rw [rd_lt hbi]
        simp only [List.getElem?_toArray]
        rw [List.getElem?_append_right (by omega), ← hi]
        simp [h1]
      · exact h4 e hm
    · cases he
theorem argE_cs {S : XS} : ∀ {xs : List Operand} {i : Nat} {es : List En}, argE S xs i = some es → ∀ e ∈ es, e.cs = []
  | [], i, es, he => by simp [argE] at he; subst he; simp
  | x :: xs, i, es, he => by
    simp only [argE] at he
    split at he
    · rename_i v r hv hr
      obtain ⟨_, he⟩ := bvT he
      simp at he; subst he
      intro e hm
      rcases List.mem_cons.1 hm with rfl | hm
      · rfl
      · exact argE_cs hr e hm
    · cases he
theorem capE_ok {ok : Ok} {w : World} : ∀ {x : AV} {i : Nat} {cs : List En} {vs : List Value} (pre : List Value), pre.length = i → capE x i = some cs → cr β ρ ok w true x vs →
    cs.length = vs.length ∧ (∀ e ∈ cs, e.cs = []) ∧ ∀ e ∈ cs, (enD β ρ ⟨(pre ++ vs).toArray, []⟩ e).p ok w
  | .nil, i, cs, vs, pre, _, he, h => by
    simp [capE] at he; subst he
    have : vs = [] := h
    subst this
    exact ⟨rfl, by simp, by simp⟩
  | .cons y r, i, cs, vs, pre, hi, he, h => by
    simp only [capE] at he
    split at he
    · rename_i l hl
      obtain ⟨hbi, he⟩ := bvT he
      simp at he; subst he
      obtain ⟨c1, vs', rfl, h1, h2⟩ := h
      obtain ⟨h3, h4, h5⟩ := capE_ok (pre ++ [y.val c1]) (by simp [hi]) hl h2
      refine ⟨by simp [h3], fun e hm => ?_, fun e hm => ?_⟩
      · rcases List.mem_cons.1 hm with rfl | hm
        · rfl
        · exact h4 e hm
      · rcases List.mem_cons.1 hm with rfl | hm
        · refine ⟨fun _ => ⟨c1, ?_, h1⟩, .inl (holdsC_nil _)⟩
          rw [rd_lt hbi]
          simp only [List.getElem?_toArray]
          rw [List.getElem?_append_right (by omega), ← hi]
          simp
        · have := h5 e hm
          rwa [show pre ++ [y.val c1] ++ vs' = pre ++ y.val c1 :: vs' by simp] at this
    · cases he
theorem en_ext {ok : Ok} {w : World} {l post : List Value} {e : En} (hc : e.cs = []) (h : (enD β ρ ⟨l.toArray, []⟩ e).p ok w) : (enD β ρ ⟨(l ++ post).toArray, []⟩ e).p ok w := by
  obtain ⟨cs, h1, h2⟩ := h.1 (by rw [hc]; exact holdsC_nil _)
  refine ⟨fun _ => ⟨cs, ?_, h2⟩, .inl (by rw [hc]; exact holdsC_nil _)⟩
  unfold rd at h1 ⊢
  cases hb : Nat.blt e.t 100000 with
  | false => rw [hb] at h1; exact h1
  | true =>
    rw [hb] at h1
    simp only [cond_true, List.getElem?_toArray] at h1 ⊢
    have hlt := (List.getElem?_eq_some_iff.1 h1).1
    rw [List.getElem?_append_left hlt]; exact h1
theorem agP_find {ri : List (Nat × Nat)} {d : Nat} {Γk : List Nat} {S : XS} {M : List (Nat × Ob)} : ∀ {l : List Nat}, newOk ri d Γk S M l = true → ∀ j ∈ l, (∃ c, lookN ri j = some c ∧ newId ri d j = c ∧ j ∈ Γk) ∨
    (lookN ri j = none ∧ freshM (newId ri d j) M = true ∧ freshM (newId ri d j) S.fixM = true ∧ offI (newId ri d j) S.fix = true ∧ offI (newId ri d j) S.env = true ∧ memN S.prot (newId ri d j) = false ∧ j ∉ Γk)
  | i :: l, h, j, hj => by
    simp only [newOk, Bool.and_eq_true] at h
    rcases List.mem_cons.1 hj with rfl | hj
    · have h1 := h.1
      cases hl : lookN ri j with
      | some c =>
        rw [hl] at h1
        simp only [isSomeN, cond_true] at h1
        exact .inl ⟨c, rfl, by simp only [newId, hl], memN_ok.1 h1⟩
      | none =>
        rw [hl] at h1
        simp only [isSomeN, cond_false, Bool.and_eq_true] at h1
        obtain ⟨⟨⟨⟨⟨a1, a2⟩, a3⟩, a4⟩, a5⟩, a6⟩ := h1
        refine .inr ⟨rfl, a1, a2, a3, a4, by simpa using a5, fun hm => ?_⟩
        rw [memN_ok.2 hm] at a6; cases a6
    · exact agP_find h.2 j hj
theorem allMem_ok {ks : List Nat} : ∀ {l : List Nat}, allMem ks l = true → ∀ i ∈ l, i ∈ ks
  | x :: l, h, i, hi => by
    simp only [allMem, Bool.and_eq_true] at h
    rcases List.mem_cons.1 hi with rfl | hi
    · exact memN_ok.1 h.1
    · exact allMem_ok h.2 i hi
theorem nodupN_ok : ∀ {l : List Nat}, nodupN l = true → l.Nodup
  | [], _ => .nil
  | x :: l, h => by
    simp only [nodupN, Bool.and_eq_true] at h
    refine List.nodup_cons.2 ⟨fun hm => ?_, nodupN_ok h.2⟩
    have := h.1
    rw [memN_ok.2 hm] at this; cases this
def backB (g : Nat → Nat) (ks : List Nat) (β2 β : Nat → Nat) : Nat → Nat := fun i => match ks.find? fun j => g j == i with
  | some j => β2 j
  | none => β i
def backR (g : Nat → Nat) (ks : List Nat) (ρ2 ρ : Nat → Value) : Nat → Value := fun i => match ks.find? fun j => g j == i with
  | some j => ρ2 j
  | none => ρ i
theorem find_inj {g : Nat → Nat} : ∀ {ks : List Nat}, (ks.map g).Nodup → ∀ j ∈ ks, (ks.find? fun i => g i == g j) = some j
  | x :: l, hn, j, hj => by
    have hn' := List.nodup_cons.1 (by simpa using hn : (g x :: l.map g).Nodup)
    rcases List.mem_cons.1 hj with rfl | hj
    · simp
    · have hne : g x ≠ g j := fun e => hn'.1 (by rw [e]; exact List.mem_map.2 ⟨j, hj, rfl⟩)
      have : (g x == g j) = false := by simpa using hne
      simp only [List.find?_cons, this]
      exact find_inj hn'.2 j hj
theorem noId_ids {d : Nat} : ∀ {x : AV}, noId d x = true → d ∉ allIds x
  | .p id _, h => by intro hm; have hm : d = id := (by simpa [allIds] using hm); subst hm; simp [noId, Nat.beq_refl] at h
  | .e id _, h => by intro hm; have hm : d = id := (by simpa [allIds] using hm); subst hm; simp [noId, Nat.beq_refl] at h
  | .s id, h => by intro hm; have hm : d = id := (by simpa [allIds] using hm); subst hm; simp [noId, Nat.beq_refl] at h
  | .m id, h => by intro hm; have hm : d = id := (by simpa [allIds] using hm); subst hm; simp [noId, Nat.beq_refl] at h
  | .w id _ _, h => by intro hm; have hm : d = id := (by simpa [allIds] using hm); subst hm; simp [noId, Nat.beq_refl] at h
  | .f _ c, h => by simp only [noId] at h; simpa [allIds] using noId_ids h
  | .ag l, h => by simp only [noId] at h; simpa [allIds] using noId_ids h
  | .tp l, h => by simp only [noId] at h; simpa [allIds] using noId_ids h
  | .cons x r, h => by
    simp only [noId, Bool.and_eq_true] at h
    simp only [allIds, List.mem_append, not_or]
    exact ⟨noId_ids h.1, noId_ids h.2⟩
  | .d _ _, _ => by simp [allIds]
  | .a _ _, _ => by simp [allIds]
  | .z, _ => by simp [allIds]
  | .ns, _ => by simp [allIds]
  | .np, _ => by simp [allIds]
  | .nm, _ => by simp [allIds]
  | .nf, _ => by simp [allIds]
  | .nil, _ => by simp [allIds]
theorem freshM_ids {d : Nat} : ∀ {M : List (Nat × Ob)}, freshM d M = true → d ∉ idsM M
  | [], _ => by simp [idsM]
  | (k, o) :: l, h => by
    have hq := freshM_ok h (k, o) (.head _)
    have hl : freshM d l = true := by
      cases o with
      | mapT k1 v path e u xs hole => cases hole <;> simp only [freshM, Bool.and_eq_true] at h <;> exact h.2
      | _ => simp only [freshM, Bool.and_eq_true] at h; exact h.2
    have ih := freshM_ids hl
    cases o with
    | var t c =>
      have := noId_ids hq.2
      simp only [idsM, List.mem_cons, List.mem_append, not_or]
      exact ⟨fun e => hq.1 e.symm, this, ih⟩
    | mapT k1 v path e u xs hole =>
      cases hole with
      | none =>
        simp only [idsM, List.mem_cons, not_or]
        exact ⟨fun e => hq.1 e.symm, ih⟩
      | some q =>
        simp only [idsM, List.mem_cons, not_or]
        exact ⟨fun e => hq.1 e.symm, fun e => hq.2 e.symm, ih⟩
    | _ =>
      simp only [idsM, List.mem_cons, not_or]
      exact ⟨fun e => hq.1 e.symm, ih⟩
theorem valsE_ok {β : Nat → Nat} {ρ : Nat → Value} {ok : Ok} {w : World} : ∀ {es : List En} {vs : List Value} {i : Nat}, (∀ (j : Nat) e, es[j]? = some e → ∃ cs, vs[j]? = some (e.av.val cs) ∧ cr β ρ ok w false e.av cs) → vs.length = es.length → cr β ρ ok w true (valsE es) vs
  | [], vs, i, _, hl => List.eq_nil_of_length_eq_zero (by simpa using hl)
  | e :: es, [], i, _, hl => by simp at hl
  | e :: es, v :: vs, i, h, hl => by
    obtain ⟨cs, h1, h2⟩ := h 0 e rfl
    have h1' : v = e.av.val cs := by simpa using h1
    exact ⟨cs, vs, by rw [h1'], h2, valsE_ok (i := i) (fun j e' he => by simpa using h (j + 1) e' (by simpa using he)) (by simpa using hl)⟩
theorem idsE_valsE : ∀ (es : List En), allIds (valsE es) = idsE es
  | [] => rfl
  | e :: es => by simp only [valsE, allIds, idsE, idsE_valsE es]
theorem resAV_ids (es : List En) : ∀ i ∈ allIds (resAV es), i ∈ idsE es := by
  intro i hi
  unfold resAV at hi
  split at hi
  · simpa [idsE] using hi
  · simpa [allIds, idsE_valsE] using hi
theorem stepCall_ok (hX : X.n = n) (hr : X.res = []) (h : Rel X β ρ S.flat a w) {o : Oper} (hw : Region.wanted o (yielded ops a.tmps) = true) {c : Con} (hc : ConOk P Y.gl c) (hG : GlobOk Y.gl (okN X) X.w) (hrun : Runs P c.f) (hs : stepCall n c o S k = some r) (H : KOk P ops Q rest X S β ρ k r) :
    wpList P ops Q (o :: rest) a w := by
  unfold stepCall at hs
  split at hs
  · rename_i x0 xs ts d hop hd
    split at hs
    · rename_i f caps hx0
      have hb := (bvT hs).1
      replace hs := (bvT hs).2
      simp only [Bool.and_eq_true] at hb
      have hf := Nat.eq_of_beq_eq_true hb.1
      obtain ⟨hd1, hd2⟩ := okW_ok hb.2 hX hr
      split at hs
      · rename_i es0 cs0 hes0 hcs0
        obtain ⟨cf, hf1, vc, hf2, hf3⟩ := h.ev (holdsC_nil a) hx0
        subst hf2
        replace hf1 : a.eval x0 = .func (.func f) #[] vc.toArray := hf1
        obtain ⟨el0, hE00⟩ := argE_ok h [] rfl hes0
        simp only [List.nil_append] at hE00
        obtain ⟨el1, _, hE01⟩ := capE_ok (xs.map a.eval) (by simp) hcs0 hf3
        have el : (es0 ++ cs0).length = (xs.map a.eval ++ vc).length := by simp [el0, el1]
        have hE0 : ∀ e ∈ es0 ++ cs0, (enD β ρ ⟨(xs.map a.eval ++ vc).toArray, []⟩ e).p (okR X β ρ S.flat.mem w) w := by
          intro e he
          rcases List.mem_append.1 he with he | he
          · exact en_ext (argE_cs hes0 e he) (hE00 e he)
          · exact hE01 e he
        generalize es0 ++ cs0 = es at *
        generalize hri : findR c.Γ ⟨es, S.mem⟩ = ri at hs
        unfold stepCall.callE at hs
        split at hs
        · rename_i x hx
          have hb2 := (bvT hs).1
          replace hs := (bvT hs).2
          simp only [Bool.and_eq_true] at hb2
          have hlen := Nat.eq_of_beq_eq_true hb2.2
          obtain ⟨y, hy, hs⟩ := bindE hs
          unfold stepCall.callR at hs
          have hb3 := (bvT hs).1
          replace hs := (bvT hs).2
          simp only [Bool.and_eq_true] at hb3
          obtain ⟨⟨⟨n1, n2⟩, n3⟩, n4⟩ := hb3
          have h1 : Rel X β ρ ⟨S.env ++ S.fix, frz c.Γ ri es S.mem ++ S.fixM⟩ a w := by
            have := Rel.freeze S.mem (l0 := []) (F := S.fixM) (ks := dEnv es c.Γ.env ++ dMem S.mem ri c.Γ.mem) h
            simp only [List.nil_append] at this
            exact this
          have hM := h1.mm
          unfold decF decR at hx
          obtain ⟨hbx, hx⟩ := bvT hx
          simp only [Bool.and_eq_true] at hbx
          obtain ⟨⟨⟨b1, b2⟩, b3⟩, b4⟩ := hbx
          split at hx
          · rename_i u v hu hv
            have hxl := ofL_ok hx
            have hokk : ∀ b f, okR X β ρ S.flat.mem w b f → okR X β ρ (frz c.Γ ri es S.mem ++ S.fixM) w b f := by
              rintro b f ⟨o1, o2, o3, o4⟩
              refine ⟨o1, o2, o3, fun t' ht' hcv => ?_⟩
              obtain ⟨q, hq, rfl⟩ := List.mem_map.1 ht'
              have key : ∀ {l : List (Nat × Ob)} {ks : List Nat} {q : Nat × Ob}, q ∈ freezeX ks l → ∃ o', (q.1, o') ∈ l ∧ ∀ b f, (tlOf β ρ q.1 q.2).cov b f → (tlOf β ρ q.1 o').cov b f := by
                intro l
                induction l with
                | nil => intro ks q hq; cases hq
                | cons p l ih =>
                  intro ks q hq
                  obtain ⟨id, ob⟩ := p
                  have other : q ∈ freezeX ks l → ∃ o', (q.1, o') ∈ (id, ob) :: l ∧ ∀ b f, (tlOf β ρ q.1 q.2).cov b f → (tlOf β ρ q.1 o').cov b f := fun hq => let ⟨o', p1, p2⟩ := ih hq; ⟨o', .tail _ p1, p2⟩
                  cases ob with
                  | row e t xs =>
                    simp only [freezeX] at hq
                    rcases List.mem_cons.1 hq with e' | hq
                    · cases hbb : (memN ks id && Nat.ble 1 t.size) with
                      | true =>
                        rw [hbb] at e'; subst e'
                        exact ⟨.row e t xs, .head _, fun b f hcv => hcv.1⟩
                      | false =>
                        rw [hbb] at e'; subst e'
                        exact ⟨.row e t xs, .head _, fun b f hcv => hcv⟩
                    · exact other hq
                  | var t' c' =>
                    simp only [freezeX] at hq
                    rcases List.mem_cons.1 hq with e' | hq
                    · subst e'; exact ⟨_, .head _, fun b f hcv => hcv⟩
                    · exact other hq
                  | tail e t xs =>
                    simp only [freezeX] at hq
                    rcases List.mem_cons.1 hq with e' | hq
                    · subst e'; exact ⟨_, .head _, fun b f hcv => hcv⟩
                    · exact other hq
                  | map k' v' xs =>
                    simp only [freezeX] at hq
                    rcases List.mem_cons.1 hq with e' | hq
                    · subst e'; exact ⟨_, .head _, fun b f hcv => hcv⟩
                    · exact other hq
                  | mapT k' v' path e u xs hole =>
                    simp only [freezeX] at hq
                    rcases List.mem_cons.1 hq with e' | hq
                    · subst e'; exact ⟨_, .head _, fun b f hcv => hcv⟩
                    · exact other hq
              rcases List.mem_append.1 hq with hq | hq
              · obtain ⟨o', p1, p2⟩ := key hq
                exact o4 _ (List.mem_map.2 ⟨(q.1, o'), List.mem_append_left _ p1, rfl⟩) (p2 b f hcv)
              · exact o4 _ (List.mem_map.2 ⟨q, List.mem_append_right _ hq, rfl⟩) hcv
            obtain ⟨es', e1, e2⟩ := decEnv_ok hM (fun e he => (enD β ρ _ e).weak (hE0 e he) hokk) v hu
            obtain ⟨m1, m2⟩ := decMem_ok hM b3 hv
            have henc : enc c.Γ x = ⟨es', encMem c.Γ.mem v⟩ := by unfold enc; rw [hxl, e1]
            have hkind := decMem_kind hb2.1 hv
            obtain ⟨ln1, _⟩ := lentIds_nodup b1
            have hperm := splitM_perm (lentIds ri c.Γ.mem) (frz c.Γ ri es S.mem)
            generalize hM0 : frz c.Γ ri es S.mem = M0 at *
            have h2 : Sb (fun _ => 0) X [] ((S.env ++ S.fix).map (enD β ρ a)) [] (memO β ρ (splitM M0 (lentIds ri c.Γ.mem)).2 ++ memO β ρ ((splitM M0 (lentIds ri c.Γ.mem)).1 ++ S.fixM)) a w := by
              refine Sb.perm h1 ?_
              rw [← List.map_append]
              refine List.Perm.map _ ?_
              rw [← List.append_assoc]
              exact (hperm.append_right _).symm
            have hok2 : ∀ b f, okR X β ρ (M0 ++ S.fixM) w b f → okOf X.ok X.w.heap.size (fun _ => 0) [] (memO β ρ (splitM M0 (lentIds ri c.Γ.mem)).2 ++ memO β ρ ((splitM M0 (lentIds ri c.Γ.mem)).1 ++ S.fixM)) w b f := by
              rintro b f ⟨o1, o2, o3, o4⟩
              refine ⟨o1, o2, o3, fun t' ht' => ?_⟩
              refine o4 t' ?_
              have hp2 := (hperm.append_right S.fixM).symm.map fun q => tlOf β ρ q.1 q.2
              rw [List.append_assoc] at hp2
              exact hp2.mem_iff.2 (by rw [List.map_append]; exact ht')
            generalize hr1 : (splitM M0 (lentIds ri c.Γ.mem)).1 = Mr at *
            generalize hl1 : (splitM M0 (lentIds ri c.Γ.mem)).2 = Ml at *
            have hMl : ∀ id ∈ c.Γ.mem.map Prod.fst, ∀ cc ob, lookN ri id = some cc → lookM M0 cc = some ob → (cc, ob) ∈ Ml := by
              intro id hid cc ob e3 e4
              have := splitM_mem ln1 (lentIds_mem hid e3) e4
              rw [hl1] at this
              exact this
            have hmk : ∀ q ∈ encMem c.Γ.mem v, q.1 ∈ c.Γ.mem.map Prod.fst := by
              intro q hq
              rw [← m1]
              exact List.mem_map.2 ⟨q, hq, rfl⟩
            have hval : ∀ q ∈ encMem c.Γ.mem v, (∃ cc ob, lookN ri q.1 = some cc ∧ (cc, ob) ∈ Ml ∧ isTailO ob = false ∧ (∀ g, (tlOf (newB ri β) (newR ri [] ρ) q.1 q.2).blks g → (tlOf β ρ cc ob).blks g)) ∨ (∀ g, ¬ (tlOf (newB ri β) (newR ri [] ρ) q.1 q.2).blks g) := by
              intro q hq
              rcases m2 q hq with ⟨cc, ob, e3, e4, e5, _⟩ | ⟨_, e5, _⟩
              · have hid := hmk q hq
                obtain ⟨q', hq', he'⟩ := List.mem_map.1 hid
                exact .inl ⟨cc, ob, e3, hMl _ hid _ _ e3 e4, hkind q' hq' cc ob (by rw [he']; exact e3) e4, e5⟩
              · exact .inr e5
            have hLm : ∀ g, g ∈ (encMem c.Γ.mem v).flatMap (blkO (newB ri β) (newR ri [] ρ)) ↔ ∃ q ∈ encMem c.Γ.mem v, (tlOf (newB ri β) (newR ri [] ρ) q.1 q.2).blks g := by
              intro g
              rw [List.mem_flatMap]
              exact ⟨fun ⟨q, hq, hg⟩ => ⟨q, hq, mem_blkO.1 hg⟩, fun ⟨q, hq, hg⟩ => ⟨q, hq, mem_blkO.2 hg⟩⟩
            generalize hL : (encMem c.Γ.mem v).flatMap (blkO (newB ri β) (newR ri [] ρ)) = L at hLm
            have hLends : Lends (memO (newB ri β) (newR ri [] ρ) (enc c.Γ x).mem) L (okOf X.ok X.w.heap.size (fun _ => 0) [] (memO β ρ Ml ++ memO β ρ (Mr ++ S.fixM)) w) w := by
              rw [henc]
              refine ⟨fun t ht => ?_, ?_, fun g hg => ?_⟩
              · obtain ⟨q, hq, rfl⟩ := List.mem_map.1 ht
                refine ⟨?_, fun g hg => (hLm g).2 ⟨q, hq, hg⟩, fun g f hg hok => ?_⟩
                · rcases m2 q hq with ⟨_, _, _, _, _, _, e6⟩ | ⟨_, _, e6⟩
                  · exact (tlOf _ _ q.1 q.2).weak e6 hok2
                  · exact e6 _ _
                · rcases hval q hq with ⟨cc, ob, _, e4, e5, e6⟩ | e6
                  · exact hok.2.2.2 _ (List.mem_append_left _ (List.mem_map.2 ⟨_, e4, rfl⟩)) (full_cov e5 f (e6 g hg))
                  · exact e6 g hg
              · obtain ⟨p1, _⟩ := nodupR_ok b1 m1
                show ((encMem c.Γ.mem v).map _).Pairwise _
                rw [List.pairwise_map]
                refine List.Pairwise.imp_of_mem ?_ p1
                intro q q' hq hq' hne g hg hg'
                rcases m2 q hq with ⟨cc, ob, e3, e4, e5, _⟩ | ⟨_, e5, _⟩
                · rcases m2 q' hq' with ⟨cc', ob', e3', e4', e5', _⟩ | ⟨_, e5', _⟩
                  · exact h1.disj (lookM_append e4) (lookM_append e4') (hne cc cc' e3 e3') g (e5 g hg) (e5' g hg')
                  · exact e5' g hg'
                · exact e5 g hg
              · obtain ⟨q, hq, hg⟩ := (hLm g).1 hg
                exact ⟨_, List.mem_map.2 ⟨q, hq, rfl⟩, hg⟩
            have hargs : ∀ e ∈ (enc c.Γ x).env, ∃ cs, (xs.map a.eval ++ vc)[e.t]? = some (e.av.val cs) ∧ cr (newB ri β) (newR ri [] ρ) (okOf X.ok X.w.heap.size (fun _ => 0) [] (memO β ρ Ml ++ memO β ρ (Mr ++ S.fixM)) w) w false e.av cs := by
              intro e he
              rw [henc] at he
              have hcs : e.cs = [] := by
                have := encEnv_cs (Γe := c.Γ.env) (l := u ++ v) e (by rw [e1]; exact he)
                exact this
              obtain ⟨cs, p1, p2⟩ := (e2 e he).1.1 (by rw [hcs]; exact holdsC_nil _)
              rw [rd_lt (e2 e he).2] at p1
              exact ⟨cs, by simpa using p1, cr_weak p2 hok2⟩
            have hcall := hc _ w L _ _ x y (xs.map a.eval ++ vc) (fun b f hk => hk.2.1) (glob_here h2 hG) (by rw [← el, hlen]) hLends hargs hy
            subst hf
            refine wpList_go hw ?_
            have hrun' : (execOp a.eval o).run P w = .ok (.enter c.f ⟨xs.map a.eval ++ vc⟩) w := by
              unfold execOp
              rw [hop]
              have hm : (Array.mk xs).map a.eval = ⟨xs.map a.eval⟩ := by simp
              simp [resolve, hm, hf1, Deferred.ofValue, invoke, run_callFunc hrun]
            unfold Oper.wp
            rw [hrun']
            refine hcall.mono ?_
            rintro e' w' ⟨v0, rfl, ⟨β2, ρ2, hag, ⟨cs, hv0, hcr⟩, hT2, hpw2⟩, hbel⟩
            show wpList P ops Q rest (a.put o.dst v0) w'
            rw [hd]
            have hLl : ∀ g ∈ L, ∃ t ∈ memO β ρ Ml, t.blks g := by
              intro g hg
              obtain ⟨q, hq, hg⟩ := (hLm g).1 hg
              rcases hval q hq with ⟨cc, ob, _, e4, _, e6⟩ | e6
              · exact ⟨_, List.mem_map.2 ⟨_, e4, rfl⟩, e6 g hg⟩
              · exact absurd hg (e6 g)
            have hcov : ∀ t ∈ memO β ρ Ml, ∀ b f, t.blks b → t.cov b f := by
              intro t ht b f hb
              obtain ⟨q, hq, rfl⟩ := List.mem_map.1 ht
              rw [← hl1] at hq
              obtain ⟨p1, p2⟩ := splitM_sub ln1 q hq
              obtain ⟨id, p3, p4⟩ := lentIds_sub p1
              obtain ⟨q', hq', he'⟩ := List.mem_map.1 p3
              exact full_cov (hkind q' hq' q.1 q.2 (by rw [he']; exact p4) p2) f hb
            have h3 := Sb.callO h2 hbel hLl hcov hT2 hpw2
            generalize hS1 : enc c.Δ y = S1 at *
            have hA : ∀ j ∈ S1.mem.map Prod.fst, backB (newId ri d) (S1.mem.map Prod.fst) β2 β (newId ri d j) = β2 j ∧ backR (newId ri d) (S1.mem.map Prod.fst) ρ2 ρ (newId ri d j) = ρ2 j := by
              intro j hj
              have := find_inj (g := newId ri d) (ks := S1.mem.map Prod.fst) (by rw [List.map_map]; exact nodupN_ok n2) j hj
              exact ⟨by simp only [backB, this], by simp only [backR, this]⟩
            have hB : ∀ i, (∀ j ∈ S1.mem.map Prod.fst, lookN ri j = none → newId ri d j ≠ i) → backB (newId ri d) (S1.mem.map Prod.fst) β2 β i = β i ∧ backR (newId ri d) (S1.mem.map Prod.fst) ρ2 ρ i = ρ i := by
              intro i hi
              cases hfd : (S1.mem.map Prod.fst).find? (fun j => newId ri d j == i) with
              | none => exact ⟨by simp only [backB, hfd], by simp only [backR, hfd]⟩
              | some j =>
                have hj := List.mem_of_find?_eq_some hfd
                have hji : newId ri d j = i := by simpa using List.find?_some hfd
                rcases agP_find n1 j hj with ⟨cc, p1, p2, p3⟩ | ⟨p1, _⟩
                · obtain ⟨q1, q2⟩ := hag j p3
                  have : cc = i := by rw [← p2]; exact hji
                  subst this
                  exact ⟨by simp only [backB, hfd]; rw [q1]; simp only [newB, p1], by simp only [backR, hfd]; rw [q2]; simp only [newR, p1]⟩
                · exact absurd hji (hi j hj p1)
            have hfr := fun j hj (hn : lookN ri j = none) => (agP_find n1 j hj).resolve_left fun ⟨cc, p1, _⟩ => by rw [hn] at p1; cases p1
            have hEnv : ∀ e ∈ S.env ++ S.fix, ∀ i ∈ allIds e.av, backB (newId ri d) (S1.mem.map Prod.fst) β2 β i = β i ∧ backR (newId ri d) (S1.mem.map Prod.fst) ρ2 ρ i = ρ i := by
              intro e he i hi
              refine hB i fun j hj hn hji => ?_
              obtain ⟨_, _, _, p4, p5, _⟩ := hfr j hj hn
              have hno : noId (newId ri d j) e.av = true := by
                rcases List.mem_append.1 he with he | he
                · exact offI_mem p5 e he
                · exact offI_mem p4 e he
              exact noId_ids hno (by rw [hji]; exact hi)
            have hMem : ∀ i ∈ idsM (Mr ++ S.fixM), backB (newId ri d) (S1.mem.map Prod.fst) β2 β i = β i ∧ backR (newId ri d) (S1.mem.map Prod.fst) ρ2 ρ i = ρ i := by
              intro i hi
              refine hB i fun j hj hn hji => ?_
              obtain ⟨_, p2, p3, _⟩ := hfr j hj hn
              have happ : ∀ (l m : List (Nat × Ob)), idsM (l ++ m) = idsM l ++ idsM m := by
                intro l m
                induction l with
                | nil => rfl
                | cons q l ih =>
                  obtain ⟨k0, o0⟩ := q
                  cases o0 with
                  | mapT k1 v path e u xs hole => cases hole <;> simp [idsM, ih]
                  | _ => simp [idsM, ih]
              rw [happ, List.mem_append] at hi
              rcases hi with hi | hi
              · exact freshM_ids p2 (by rw [hji]; exact hi)
              · exact freshM_ids p3 (by rw [hji]; exact hi)
            have hsim : SimL (memO β2 ρ2 S1.mem ++ memO β ρ (Mr ++ S.fixM)) (memO (backB (newId ri d) (S1.mem.map Prod.fst) β2 β) (backR (newId ri d) (S1.mem.map Prod.fst) ρ2 ρ) (renMem (newId ri d) S1.mem) ++ memO (backB (newId ri d) (S1.mem.map Prod.fst) β2 β) (backR (newId ri d) (S1.mem.map Prod.fst) ρ2 ρ) (Mr ++ S.fixM)) :=
              (ren_sim fun i hi => hA i (allMem_ok n4 i hi)).append (agree_sim hMem)
            have h4 := Sb.simO h3 hsim
            have hmemO : memO (backB (newId ri d) (S1.mem.map Prod.fst) β2 β) (backR (newId ri d) (S1.mem.map Prod.fst) ρ2 ρ) (renMem (newId ri d) S1.mem) ++ memO (backB (newId ri d) (S1.mem.map Prod.fst) β2 β) (backR (newId ri d) (S1.mem.map Prod.fst) ρ2 ρ) (Mr ++ S.fixM) =
                memO (backB (newId ri d) (S1.mem.map Prod.fst) β2 β) (backR (newId ri d) (S1.mem.map Prod.fst) ρ2 ρ) ((renMem (newId ri d) S1.mem ++ Mr) ++ S.fixM) := by simp only [memO, List.map_append, List.append_assoc]
            have h5 : Rel X (backB (newId ri d) (S1.mem.map Prod.fst) β2 β) (backR (newId ri d) (S1.mem.map Prod.fst) ρ2 ρ) ⟨S.env ++ S.fix, (renMem (newId ri d) S1.mem ++ Mr) ++ S.fixM⟩ a w' := by
              refine Rel.ofSb h4 hmemO fun e he => ?_
              have hp := AllD_mem.1 h4.dat _ (List.mem_map.2 ⟨e, he, rfl⟩)
              rw [hmemO] at hp
              exact ⟨fun hcc => let ⟨cs, q1, q2⟩ := hp.1 hcc; ⟨cs, q1, cr_agree (hEnv e he) q2⟩, hp.2⟩
            have hres : cr (backB (newId ri d) (S1.mem.map Prod.fst) β2 β) (backR (newId ri d) (S1.mem.map Prod.fst) ρ2 ρ) (okR X (backB (newId ri d) (S1.mem.map Prod.fst) β2 β) (backR (newId ri d) (S1.mem.map Prod.fst) ρ2 ρ) ((renMem (newId ri d) S1.mem ++ Mr) ++ S.fixM) w') w' false (renAV (newId ri d) (resAV S1.env)) cs := by
              have q1 := cr_ren (g := newId ri d) (fun i hi => hA i (allMem_ok n3 i (resAV_ids _ i hi))) hcr
              refine cr_weak q1 fun b f hk => ?_
              have q2 := hsim.ok b f (okOf_call h2 hbel.size hLl b f hk)
              rw [hmemO] at q2
              exact q2
            have h6 := h5.put0 hd1 hres
            have hvv : (renAV (newId ri d) (resAV S1.env)).val cs = v0 := by rw [hv0]; exact ren_val _ _ _
            rw [hvv] at h6
            refine H _ _ _ _ _ hs ⟨rfl, rfl, rfl, fun i hi => hB i fun j hj hn hji => ?_⟩ ?_
            · obtain ⟨_, _, _, _, _, p6, _⟩ := hfr j hj hn
              rw [hji, memN_ok.2 hi] at p6; cases p6
            · rw [put_flat (S := ⟨S.env, S.fix, renMem (newId ri d) S1.mem ++ Mr, S.fixM, S.prot⟩) hd2]
              exact h6
          · cases hx
        · cases hs
      · cases hs
    · cases hs
  · cases hs
end
end Gx
