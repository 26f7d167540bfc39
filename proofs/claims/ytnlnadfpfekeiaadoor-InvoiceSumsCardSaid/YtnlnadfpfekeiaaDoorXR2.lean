/- Objects of an open region. -/
import Derived.Test.YtnlnadfpfekeiaaDoorXR
namespace Gx
open Go Go.RowKit Gd
set_option linter.unusedVariables false
set_option linter.unusedSimpArgs false
theorem curG_no {id d : Nat} {q : Gk} {c : Option Ob} (h : touches id d q = false) : curG id d q c = c := by
  cases q <;> simp only [touches, Bool.or_eq_false_iff] at h <;> simp only [curG]
  · rw [h]; rfl
  · rw [h.1, h.2]; rfl
  · rw [h]; rfl
  · rw [h]; rfl
theorem curO_append {E : Nat → Bool} {id : Nat} : ∀ {l1 l2 : Got} {j : Nat} {c : Option Ob}, curO E id (l1 ++ l2) j c = curO E id l2 (j + l1.length) (curO E id l1 j c)
  | [], l2, j, c => rfl
  | (d, v, q) :: l1, l2, j, c => by
    simp only [List.cons_append, curO, curO_append (l1 := l1), List.length_cons]
    rw [show j + 1 + l1.length = j + (l1.length + 1) by omega]
theorem curO_congr {E E' : Nat → Bool} {id : Nat} : ∀ {l : Got} {j : Nat} {c : Option Ob}, (∀ k g, l[k]? = some g → touches id g.1 g.2.2 = true → E (j + k) = E' (j + k)) → curO E id l j c = curO E' id l j c
  | [], j, c, _ => rfl
  | (d, v, q) :: l, j, c, h => by
    simp only [curO]
    have e : (bif E j then curG id d q c else c) = (bif E' j then curG id d q c else c) := by
      cases ht : touches id d q with
      | true => rw [show E j = E' j from h 0 _ rfl ht]
      | false => rw [curG_no ht]; cases E j <;> cases E' j <;> rfl
    rw [e]
    exact curO_congr fun k g hk ht => by
      have := h (k + 1) g (by simpa using hk) ht
      rw [show j + 1 + k = j + (k + 1) by omega]; exact this
theorem curO_late {E : Nat → Bool} {id : Nat} : ∀ {l : Got} {j : Nat} {c : Option Ob}, (∀ k g, l[k]? = some g → touches id g.1 g.2.2 = true → E (j + k) = false) → curO E id l j c = c
  | [], j, c, _ => rfl
  | (d, v, q) :: l, j, c, h => by
    simp only [curO]
    have e : (bif E j then curG id d q c else c) = c := by
      cases ht : touches id d q with
      | true => rw [show E j = false from h 0 _ rfl ht]; rfl
      | false => rw [curG_no ht]; cases E j <;> rfl
    rw [e]
    exact curO_late fun k g hk ht => by
      have := h (k + 1) g (by simpa using hk) ht
      rw [show j + 1 + k = j + (k + 1) by omega]; exact this
abbrev insE (E : Nat → Bool) (i : Nat) : Nat → Bool := fun j => j == i || E j
theorem acc_split {acc : Got} {i : Nat} {g : Nat × AV × Gk} (hg : acc[i]? = some g) : acc = acc.take i ++ g :: acc.drop (i + 1) ∧ (acc.take i).length = i := by
  have hi : i < acc.length := acc_lt hg
  rw [List.getElem?_eq_getElem hi] at hg
  injection hg with hg
  refine ⟨?_, by rw [List.length_take]; omega⟩
  rw [← hg, ← List.drop_eq_getElem_cons hi, List.take_append_drop]
section
variable {E : Nat → Bool} {acc : Got} {i id : Nat} {g : Nat × AV × Gk} {c : Option Ob}
theorem curO_now (hg : acc[i]? = some g) (hi : E i = false) (he : ∀ j g', acc[j]? = some g' → j < i → touches id g'.1 g'.2.2 = true → E j = true) (hl : ∀ j g', acc[j]? = some g' → i < j → touches id g'.1 g'.2.2 = true → E j = false) :
    curO E id acc 0 c = curO allE id (acc.take i) 0 c := by
  obtain ⟨e1, e2⟩ := acc_split hg
  have e3 : curO E id acc 0 c = curO E id (acc.take i ++ g :: acc.drop (i + 1)) 0 c := by rw [← e1]
  rw [e3, curO_append, e2, Nat.zero_add]
  obtain ⟨d, v, q⟩ := g
  simp only [curO, hi, cond_false]
  rw [curO_late fun k g' hk ht => hl (i + 1 + k) g' (by rw [List.getElem?_drop] at hk; exact hk) (by omega) ht]
  refine curO_congr fun k g' hk ht => ?_
  rw [List.getElem?_take] at hk
  split at hk
  · rw [Nat.zero_add, he k g' hk (by omega) ht]; rfl
  · cases hk
theorem curO_ins (hg : acc[i]? = some g) (hi : E i = false) (hl : ∀ j g', acc[j]? = some g' → i < j → touches id g'.1 g'.2.2 = true → E j = false) :
    curO (insE E i) id acc 0 c = curG id g.1 g.2.2 (curO E id acc 0 c) := by
  obtain ⟨e1, e2⟩ := acc_split hg
  have e3 : ∀ E, curO E id acc 0 c = curO E id (acc.take i ++ g :: acc.drop (i + 1)) 0 c := fun E => by rw [← e1]
  rw [e3, e3, curO_append, curO_append, e2, Nat.zero_add]
  obtain ⟨d, v, q⟩ := g
  simp only [curO, hi, cond_false, BEq.rfl, Bool.true_or, cond_true]
  have h1 : curO (insE E i) id (acc.take i) 0 c = curO E id (acc.take i) 0 c := curO_congr fun k g' hk ht => by
    have : k < i := by have := acc_lt hk; omega
    simp only [insE, Nat.zero_add]
    rw [show (k == i) = false by simp; omega]; rfl
  have h2 : ∀ c', curO (insE E i) id (acc.drop (i + 1)) (i + 1) c' = c' := fun c' => curO_late fun k g' hk ht => by
    simp only [insE]
    rw [show (i + 1 + k == i) = false by simp; omega]
    exact hl (i + 1 + k) g' (by rw [List.getElem?_drop] at hk; exact hk) (by omega) ht
  have h3 : ∀ c', curO E id (acc.drop (i + 1)) (i + 1) c' = c' := fun c' => curO_late fun k g' hk ht => hl (i + 1 + k) g' (by rw [List.getElem?_drop] at hk; exact hk) (by omega) ht
  rw [h2, h3, h1]
  simp only [insE, BEq.rfl, Bool.true_or, cond_true]
theorem curO_not (hg : acc[i]? = some g) (ht : touches id g.1 g.2.2 = false) : curO (insE E i) id acc 0 c = curO E id acc 0 c :=
  curO_congr fun k g' hk ht' => by
    rw [Nat.zero_add]
    by_cases e : k = i
    · subst e
      rw [hg] at hk; injection hk with hk; subst hk
      rw [ht] at ht'; cases ht'
    · simp only [insE]
      rw [show (k == i) = false by simp; omega]; rfl
end
theorem filterMap_at {α β : Type} {f f' : α → Option β} {x0 : α} : ∀ {l : List α}, l.Nodup → x0 ∈ l → (∀ j ∈ l, j ≠ x0 → f' j = f j) → ∃ rest, (l.filterMap f).Perm ((f x0).toList ++ rest) ∧ (l.filterMap f').Perm ((f' x0).toList ++ rest)
  | y :: ys, hn, hi, h => by
    have hn' := List.nodup_cons.1 hn
    rcases List.mem_cons.1 hi with rfl | hi
    · have : ys.filterMap f' = ys.filterMap f := filterMap_same fun j hj => h j (.tail _ hj) fun e => hn'.1 (e ▸ hj)
      refine ⟨ys.filterMap f, ?_, ?_⟩
      · simp only [List.filterMap_cons]
        cases f x0 <;> exact List.Perm.refl _
      · simp only [List.filterMap_cons, this]
        cases f' x0 <;> exact List.Perm.refl _
    · have hy : y ≠ x0 := fun e => hn'.1 (e ▸ hi)
      obtain ⟨rest, h1, h2⟩ := filterMap_at hn'.2 hi fun j hj => h j (.tail _ hj)
      simp only [List.filterMap_cons, h y (.head _) hy]
      cases f y with
      | none => exact ⟨rest, h1, h2⟩
      | some z => exact ⟨z :: rest, (List.Perm.cons z h1).trans List.perm_middle.symm, (List.Perm.cons z h2).trans List.perm_middle.symm⟩
theorem filterMap_two {α β : Type} [DecidableEq α] {f : α → Option β} {x y : α} {l : List α} (hn : l.Nodup) (hx : x ∈ l) (hy : y ∈ l) (hxy : x ≠ y) (hfy : f y = none) :
    ∃ rest, (l.filterMap f).Perm ((f x).toList ++ rest) ∧ ∀ f' : α → Option β, f' x = none → (∀ j ∈ l, j ≠ x → j ≠ y → f' j = f j) → (l.filterMap f').Perm ((f' y).toList ++ rest) := by
  obtain ⟨r1, p1, p2⟩ := filterMap_at (f := f) (f' := fun z => if z = x then none else f z) hn hx fun j _ hj => if_neg hj
  refine ⟨r1, p1, fun f' hfx h => ?_⟩
  obtain ⟨r2, p3, p4⟩ := filterMap_at (f := fun z => if z = x then none else f z) (f' := f') hn hy fun j hj hjy => by
    by_cases e : j = x
    · rw [e, if_pos rfl, hfx]
    · rw [if_neg e, h j hj e hjy]
  rw [if_pos rfl] at p2
  rw [if_neg (Ne.symm hxy), hfy] at p3
  exact p4.trans (List.Perm.append_left _ (p3.symm.trans p2))
section
variable {β : Nat → Nat} {ρ : Nat → Value} {Zs : List (Nat × Ob)} {acc : Got} {E : Nat → Bool} {a a' : Act} {i : Nat} {g : Nat × AV × Gk}
theorem memN_of {l : List Nat} {t : Nat} (h : t ∈ l) : memN l t = true := by
  induction l with
  | nil => cases h
  | cons k l ih =>
    simp only [memN, Bool.or_eq_true]
    rcases List.mem_cons.1 h with rfl | h
    · exact .inl (Nat.beq_refl _)
    · exact .inr (ih h)
theorem fX_same {ds : List Nat} (hds : ds = acc.map (·.1)) (hnd : ds.Nodup) (hg : acc[i]? = some g) (hgd : ∀ (j e : Nat), j ≠ i → ds[j]? = some e → a'.tmps.getD e undef = a.tmps.getD e undef) {id : Nat} (ht : touches id g.1 g.2.2 = false) :
    fX β ρ Zs acc (insE E i) a' id = fX β ρ Zs acc E a id := by
  unfold fX
  rw [curO_not hg ht]
  cases hm : memN (rowIds acc) id with
  | false =>
    congr 1; funext ob; simp only [tlX, hm, cond_false]
  | true =>
    obtain ⟨v, q, hmem, hq⟩ := rowIds_mem.1 (memN_ok' hm)
    obtain ⟨j, hj⟩ := List.getElem?_of_mem hmem
    have hji : j ≠ i := fun e => by
      subst e
      rw [hg] at hj; injection hj with hj; subst hj
      cases q <;> simp [newG] at hq <;> simp [touches, Nat.beq_refl] at ht
    have := hgd j id hji (by rw [hds, List.getElem?_map, hj]; rfl)
    congr 1; funext ob; simp only [tlX, hm, cond_true, this]
theorem OW_same {ds : List Nat} (hds : ds = acc.map (·.1)) (hnd : ds.Nodup) (hg : acc[i]? = some g) (hgd : ∀ (j e : Nat), j ≠ i → ds[j]? = some e → a'.tmps.getD e undef = a.tmps.getD e undef) (ht : ∀ id, touches id g.1 g.2.2 = false) :
    OWx β ρ Zs acc (insE E i) a' = OWx β ρ Zs acc E a := filterMap_same fun id _ => fX_same hds hnd hg hgd (ht id)
end
theorem behT_at {l0 : List Oper} {i id : Nat} : ∀ {acc : Got} {j k : Nat} {g : Nat × AV × Gk}, behT l0 i id acc j = true → acc[k]? = some g → touches id g.1 g.2.2 = true → behindB l0 l0.length i (j + k) = true
  | [], j, k, g, _, hk, _ => by simp at hk
  | (d, v, q) :: l, j, k, g, h, hk, ht => by
    simp only [behT, Bool.and_eq_true, Bool.or_eq_true, Bool.not_eq_true'] at h
    cases k with
    | zero =>
      simp at hk; subst hk
      rcases h.1 with h1 | h1
      · rw [h1] at ht; cases ht
      · exact h1
    | succ k =>
      have := behT_at h.2 (by simpa using hk) ht
      rw [show j + (k + 1) = j + 1 + k by omega]; exact this
theorem noTouch_at {id : Nat} : ∀ {acc : Got} {k : Nat} {g : Nat × AV × Gk}, noTouch id acc = true → acc[k]? = some g → touches id g.1 g.2.2 = false
  | [], k, g, _, hk => by simp at hk
  | (d, v, q) :: l, k, g, h, hk => by
    simp only [noTouch, Bool.and_eq_true, Bool.not_eq_true'] at h
    cases k with
    | zero => simp at hk; subst hk; exact h.1
    | succ k => exact noTouch_at h.2 (by simpa using hk)
theorem behT_no {l0 : List Oper} {i id : Nat} : ∀ {acc : Got} {j : Nat}, noTouch id acc = true → behT l0 i id acc j = true
  | [], _, _ => rfl
  | (d, v, q) :: l, j, h => by
    simp only [noTouch, Bool.and_eq_true, Bool.not_eq_true'] at h
    simp only [behT, h.1, Bool.not_false, Bool.true_or, Bool.true_and]
    exact behT_no h.2
section
variable {P : Program} {Y : TX} {Zs : List (Nat × Ob)} {n : Nat} {l0 : List Oper} {ds : List Nat} {S0 : XS} {o : Oper} {i : Nat} {acc : Got} {g : Nat × AV × Gk} {id : Nat}
theorem curA_ok {ob : Ob} (h : curA l0 Zs i acc id = some ob) : behT l0 i id acc 0 = true ∧ curO allE id acc 0 (lookM Zs id) = some ob := by
  unfold curA at h
  exact bvT h
theorem curB_ok {ob : Ob} (h : curB l0 Zs i acc id = some ob) : isSomeN (lookM Zs id) = true ∧ behT l0 i id acc 0 = true ∧ curO allE id acc 0 (lookM Zs id) = some ob := by
  unfold curB at h
  obtain ⟨h1, h2⟩ := bvT h
  exact ⟨h1, curA_ok h2⟩
theorem okZ_ok {d : Nat} (h : okZ Zs S0 d acc = true) : okB S0 d = true ∧ freshM d Zs = true ∧ noTouch d acc = true := by
  unfold okZ at h
  simp only [Bool.and_eq_true] at h
  exact ⟨h.1.1, h.1.2, h.2⟩
theorem tb_ok (hG : GotOk P Y Zs n l0 ds S0 o i acc g) (ht : touches id g.1 g.2.2 = true) : behT l0 i id acc 0 = true := by
  obtain ⟨d, v, q⟩ := g
  have hf := hG.fnd
  cases q with
  | v => cases ht
  | u => cases ht
  | c => cases ht
  | b ns => cases ht
  | r u e zs c =>
    have := Nat.eq_of_beq_eq_true (show Nat.beq d id = true from ht)
    subst this
    exact behT_no (okZ_ok hf.2.1).2.2
  | o t c =>
    have := Nat.eq_of_beq_eq_true (show Nat.beq d id = true from ht)
    subst this
    exact behT_no (okZ_ok hf.2.1).2.2
  | t u e zs h =>
    have ht' : (Nat.beq d id || Nat.beq h id) = true := ht
    simp only [Bool.or_eq_true] at ht'
    rcases ht' with h1 | h1
    · rw [← Nat.eq_of_beq_eq_true h1]
      exact behT_no (okZ_ok hf.2.1).2.2
    · rw [← Nat.eq_of_beq_eq_true h1]
      obtain ⟨_, _, _, _, _, _, _, _, _, hC, _⟩ := hf.2.2
      exact (curB_ok hC).2.1
  | w j ob =>
    have := Nat.eq_of_beq_eq_true (show Nat.beq j id = true from ht)
    subst this
    obtain ⟨_, _, _, _, _, _, _, _, _, _, _, hc⟩ := hf
    rcases hc with ⟨_, _, _, _, hc, _⟩ | ⟨_, _, _, _, _, _, _, _, _, _, hc, _⟩
    · exact (curA_ok hc).1
    · exact (curA_ok hc).1
theorem freshM_look {d : Nat} : ∀ {M : List (Nat × Ob)}, freshM d M = true → lookM M d = none ∧ d ∉ keysM M
  | [], _ => ⟨rfl, by simp [keysM]⟩
  | (k, ob) :: l, h => by
    have h' : Nat.beq k d = false ∧ freshM d l = true := by
      cases ob with
      | mapT k v path e u xs hole =>
        cases hole <;> simp only [freshM, Bool.and_eq_true, Bool.not_eq_true'] at h
        · exact ⟨h.1, h.2⟩
        · exact ⟨h.1.1, h.2⟩
      | _ =>
        simp only [freshM, Bool.and_eq_true, Bool.not_eq_true'] at h
        first | exact ⟨h.1, h.2⟩ | exact ⟨h.1.1, h.2⟩
    obtain ⟨h1, h2⟩ := freshM_look h'.2
    refine ⟨by simp only [lookM, h'.1, cond_false]; exact h1, fun hm => ?_⟩
    rcases List.mem_cons.1 (show d ∈ k :: keysM l from hm) with rfl | hm
    · simp [Nat.beq_refl] at h'
    · exact h2 hm
theorem isSomeN_key : ∀ {M : List (Nat × Ob)} {id : Nat}, isSomeN (lookM M id) = true → id ∈ keysM M
  | [], id, h => by simp [lookM, isSomeN] at h
  | (k, ob) :: l, id, h => by
    simp only [lookM] at h
    cases hb : Nat.beq k id with
    | true => rw [Nat.eq_of_beq_eq_true hb]; exact .head _
    | false => rw [hb] at h; exact .tail _ (isSomeN_key h)
end
end Gx
