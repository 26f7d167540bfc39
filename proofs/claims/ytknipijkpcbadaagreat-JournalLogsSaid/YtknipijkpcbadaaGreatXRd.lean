/- One operation, with the rest of the state set aside. -/
import Derived.Test.YtknipijkpcbadaaGreatXR3
import Derived.Test.YtknipijkpcbadaaGreatXFa
import Derived.Test.YtknipijkpcbadaaGreatGAppend
import Derived.Lib.ItoaNum
import Derived.Lib.LaidTab
import Derived.Lib.AppendIntMem
import Derived.Lib.Bytealg
import Derived.Lib.SlTrimSet
import Derived.Lib.Walk
namespace Gx
open Go Go.RowKit Gd
set_option linter.unusedVariables false
set_option linter.unusedSimpArgs false
theorem noTail_cov {β : Nat → Nat} {ρ : Nat → Value} : ∀ {M : List (Nat × Ob)} {q : Nat × Ob}, noTailM M = true → q ∈ M → ∀ {b o : Nat}, (tlOf β ρ q.1 q.2).blks b → (tlOf β ρ q.1 q.2).cov b o
  | (k, ob) :: l, q, h, hq, b, o, hb => by
    cases ob with
    | tail e t xs => cases h
    | mapT k1 v p e u xs hl => cases h
    | _ =>
      rcases List.mem_cons.1 hq with rfl | hq
      · exact hb
      · exact noTail_cov (M := l) h hq hb
def SameT (o : Oper) (a a' : Act) : Prop := ∀ t, o.dst ≠ some t → a'.tmps[t]? = a.tmps[t]?
def QSame (o : Oper) (a : Act) (Q : Exit → Act → World → Prop) : Exit → Act → World → Prop
  | .normal, a', w' => SameT o a a' → Q .normal a' w'
  | e, a', w' => Q e a' w'
theorem sameT_put (o : Oper) (a : Act) (v : Value) : SameT o a (a.put o.dst v) := by
  intro t ht
  cases hd : o.dst with
  | none => rfl
  | some d => exact put_other (fun e => ht (by rw [hd, e])) v
theorem wpList_same {P : Program} {ops : Array Oper} {Q : Exit → Act → World → Prop} {o : Oper} {a : Act} {w : World} (h : wpList P ops (QSame o a Q) [o] a w) : wpList P ops Q [o] a w := by
  unfold wpList at h ⊢
  split at h
  · rename_i hw
    rw [if_pos hw]
    rcases h with h | ⟨h1, h2⟩
    · left
      unfold Oper.wp at h ⊢
      cases hr : (execOp a.eval o).run P w with
      | ok nx w' =>
        rw [hr] at h
        cases nx with
        | value v => exact h (sameT_put o a v)
        | skip => exact h (sameT_put o a undef)
        | defer d =>
          refine h fun t ht => ?_
          have := sameT_put o { a with defers := d :: a.defers } undef t ht
          exact this
        | enter f args =>
          refine Calls.mono h fun e w' he => ?_
          cases e with
          | returned v => exact he (sameT_put o a v)
          | panicked c => exact he
          | outgrown => exact he
        | row r args => exact Rows.mono h fun v w' hv => hv (sameT_put o a v)
        | _ => exact h.elim
      | halt hl w' =>
        rw [hr] at h
        cases hl with
        | panic v => exact h
        | _ => exact h.elim
    · exact .inr ⟨h1, h2⟩
  · rename_i hw
    rw [if_neg hw]
    exact h (sameT_put o a undef)
open Classical in
noncomputable def blksL (n : Nat) (O : List TL) : List Nat := (List.range n).filter fun g => decide (∃ t ∈ O, t.blks g)
section
variable {P : Program} {Y : TX} {X : Cx} {β : Nat → Nat} {ρ : Nat → Value} {a : Act} {w : World} {ops : Array Oper} {Q : Exit → Act → World → Prop} {o : Oper}
theorem frame_ok (hG : GlobOk Y.gl (okN X) X.w) (hr : X.res = []) (hp : X.pin = none) {Ve Fe : List En} {Vm Fm : List (Nat × Ob)} {S1 : St} {pr : List Nat} (h : Rel X β ρ ⟨Ve ++ Fe, Vm ++ Fm⟩ a w) (hV : noTailM Vm = true)
    (hF : ∀ e ∈ Fe, (∀ i ∈ allIds e.av, i ∈ pr) ∧ ∀ d, o.dst = some d → e.t ≠ d ∧ ∀ c ∈ e.cs, c.1 ≠ d) (hFm : ∀ i ∈ idsM Fm, i ∈ pr)
    (hstep : ∀ (X1 : Cx) (Q1 : Exit → Act → World → Prop), X1.n = X.n → X1.res = [] → X1.pin = none → GlobOk Y.gl (okN X1) X1.w → Rel X1 β ρ ⟨Ve, Vm⟩ a w → (∀ β' ρ' a' w', agP pr β β' ρ ρ' → Rel X1 β' ρ' S1 a' w' → Q1 .normal a' w') → wpList P ops Q1 [o] a w)
    (H : ∀ β' ρ' a' w', agP pr β β' ρ ρ' → Rel X β' ρ' ⟨S1.env ++ Fe, S1.mem ++ Fm⟩ a' w' → Q .normal a' w') : wpList P ops Q [o] a w := by
  have eM : memO β ρ (Vm ++ Fm) = memO β ρ Vm ++ memO β ρ Fm := List.map_append
  have hS : Sb (fun _ => 0) X [] ((Ve ++ Fe).map (enD β ρ a)) [] (memO β ρ Vm ++ memO β ρ Fm) a w := by rw [← eM]; exact h
  have hL1 : ∀ t ∈ memO β ρ Vm, ∀ g, t.blks g → g ∈ blksL w.heap.size (memO β ρ Vm) := fun t ht g hg => by
    unfold blksL
    exact List.mem_filter.2 ⟨List.mem_range.2 (hS.olt (List.mem_append_left _ ht) hg), by simp only [decide_eq_true_eq]; exact ⟨t, ht, hg⟩⟩
  have hL2 : ∀ g ∈ blksL w.heap.size (memO β ρ Vm), ∃ t ∈ memO β ρ Vm, t.blks g := fun g hg => by
    unfold blksL at hg
    have := (List.mem_filter.1 hg).2
    simpa only [decide_eq_true_eq] using this
  have hcov : ∀ t ∈ memO β ρ Vm, ∀ b o, t.blks b → t.cov b o := fun t ht b o hb => by
    obtain ⟨q, hq, rfl⟩ := List.mem_map.1 ht
    exact noTail_cov hV hq hb
  have hk : ∀ b f, okOf X.ok X.w.heap.size (fun _ => 0) [] (memO β ρ Vm ++ memO β ρ Fm) w b f → okOf (okL (blksL w.heap.size (memO β ρ Vm)) (okOf X.ok X.w.heap.size (fun _ => 0) [] (memO β ρ Vm ++ memO β ρ Fm) w)) w.heap.size (fun _ => 0) [] (memO β ρ Vm) w b f :=
    fun b f hbo => ⟨.inl (.inl hbo), hbo.2.1, by simp, fun t ht hc => hbo.2.2.2 t (List.mem_append_left _ ht) hc⟩
  refine wpList_same (hstep (cxL (blksL w.heap.size (memO β ρ Vm)) X.n (okOf X.ok X.w.heap.size (fun _ => 0) [] (memO β ρ Vm ++ memO β ρ Fm) w) w) (QSame o a Q) rfl rfl rfl ?_ ?_ fun β' ρ' a' w' hag hR hsame => ?_)
  · exact (glob_here hS hG).weak fun b f hbo => ⟨.inl hbo, fun hbl => by
      obtain ⟨t, ht, hg⟩ := hL2 b hbl
      exact hbo.2.2.2 t (List.mem_append_left _ ht) (hcov t ht b f hg), hbo.2.1⟩
  · exact { sz := hS.sz, df := hS.df, fr := by simp, pn := by simp, tm := by simp, bel := BelowL.refl _ _ _, obj := by simp, dHH := by simp, dHO := by simp,
            dat := AllD_mem.2 fun x hx => by
              obtain ⟨e, he, rfl⟩ := List.mem_map.1 hx
              exact (enD β ρ a e).weak (AllD_mem.1 hS.dat _ (List.mem_map.2 ⟨e, List.mem_append_left _ he, rfl⟩)) hk,
            own := fun t ht => ⟨t.weak (hS.own t (List.mem_append_left _ ht)).1 hk, fun g hg => .inr (hL1 t ht g hg)⟩,
            dOO := (List.pairwise_append.1 hS.dOO).1 }
  · have hC := Sb.callO (O1' := memO β' ρ' S1.mem) hS hR.bel hL2 hcov (fun t ht => ⟨(hR.own t ht).1, fun g hg => (hR.own t ht).2 g hg⟩) hR.dOO
    have hsim : SimL (memO β ρ Fm) (memO β' ρ' Fm) := agree_sim fun i hi => hag i (hFm i hi)
    have hC2 := hC.simO ((SimL.refl (memO β' ρ' S1.mem)).append hsim)
    have hmem : memO β' ρ' (S1.mem ++ Fm) = memO β' ρ' S1.mem ++ memO β' ρ' Fm := List.map_append
    have hC3 : Sb (fun _ => 0) X [] [] [] (memO β' ρ' S1.mem ++ memO β' ρ' Fm) a' w' :=
      { sz := hR.sz, df := hR.df, fr := by rw [hr]; simp, pn := by rw [hp]; simp, tm := by simp, bel := hC2.bel, dat := trivial, obj := by simp, own := hC2.own, dHH := by simp, dHO := by simp, dOO := hC2.dOO }
    refine H β' ρ' a' w' hag (Rel.ofSb hC3 hmem.symm fun e he => ?_)
    rcases List.mem_append.1 he with he | he
    · have h1 := AllD_mem.1 hR.dat _ (List.mem_map.2 ⟨e, he, rfl⟩)
      refine (enD β' ρ' a' e).weak h1 fun b f hbf => ?_
      have h2 := okOf_call hS hR.bel.size hL2 b f hbf
      have h3 := ((SimL.refl (memO β' ρ' S1.mem)).append hsim).ok b f h2
      unfold okR
      rw [hmem]
      exact h3
    · have h1 := AllD_mem.1 hC2.dat _ (List.mem_map.2 ⟨e, List.mem_append_right _ he, rfl⟩)
      obtain ⟨hi, hd⟩ := hF e he
      have ht : ∀ t, (∀ d, o.dst = some d → t ≠ d) → a'.tmps[t]? = a.tmps[t]? := fun t ht => hsame t fun hd => ht t hd rfl
      have hcc : holdsC a' e.cs ↔ holdsC a e.cs := ⟨fun hc c hm => by rw [← ht _ fun d hd' => (hd d hd').2 c hm]; exact hc c hm, fun hc c hm => by rw [ht _ fun d hd' => (hd d hd').2 c hm]; exact hc c hm⟩
      have hrd : rd a' e.t = rd a e.t := by unfold rd; rw [ht _ fun d hd' => (hd d hd').1]
      refine ⟨fun hc => ?_, ?_⟩
      · obtain ⟨cs, q1, q2⟩ := h1.1 (hcc.1 hc)
        refine ⟨cs, by rw [hrd]; exact q1, ?_⟩
        unfold okR
        rw [hmem]
        exact cr_agree (fun i hm => hag i (hi i hm)) q2
      · rw [hcc, hrd]; exact h1.2
end
end Gx

/- Regions of open order by ordinary steps: what is found, what is one's own. -/
namespace Gx
open Go Go.RowKit Gd
set_option linter.unusedVariables false
set_option linter.unusedSimpArgs false
theorem upC_no {id : Nat} {e : EC} {c : Option Ob} (h : touchC id e = false) : upC id e c = c := by
  unfold touchC at h
  unfold upC
  cases hl : lookU e.ups id with
  | none => rfl
  | some x => rw [hl] at h; cases h
theorem curC_append {E : Nat → Bool} {id : Nat} : ∀ {l1 l2 : List EC} {j : Nat} {c : Option Ob}, curC E id (l1 ++ l2) j c = curC E id l2 (j + l1.length) (curC E id l1 j c)
  | [], l2, j, c => rfl
  | e :: l1, l2, j, c => by
    simp only [List.cons_append, curC, curC_append (l1 := l1), List.length_cons]
    rw [show j + 1 + l1.length = j + (l1.length + 1) by omega]
theorem curC_congr {E E' : Nat → Bool} {id : Nat} : ∀ {l : List EC} {j : Nat} {c : Option Ob}, (∀ (k : Nat) e, l[k]? = some e → touchC id e = true → E (j + k) = E' (j + k)) → curC E id l j c = curC E' id l j c
  | [], j, c, _ => rfl
  | e0 :: l, j, c, h => by
    simp only [curC]
    have e : (bif E j then upC id e0 c else c) = (bif E' j then upC id e0 c else c) := by
      cases ht : touchC id e0 with
      | true => rw [show E j = E' j from h 0 _ rfl ht]
      | false => rw [upC_no ht]; cases E j <;> cases E' j <;> rfl
    rw [e]
    exact curC_congr fun k g hk ht => by
      have := h (k + 1) g (by simpa using hk) ht
      rw [show j + 1 + k = j + (k + 1) by omega]; exact this
theorem curC_late {E : Nat → Bool} {id : Nat} : ∀ {l : List EC} {j : Nat} {c : Option Ob}, (∀ (k : Nat) e, l[k]? = some e → touchC id e = true → E (j + k) = false) → curC E id l j c = c
  | [], j, c, _ => rfl
  | e0 :: l, j, c, h => by
    simp only [curC]
    have e : (bif E j then upC id e0 c else c) = c := by
      cases ht : touchC id e0 with
      | true => rw [show E j = false from h 0 _ rfl ht]; rfl
      | false => rw [upC_no ht]; cases E j <;> rfl
    rw [e]
    exact curC_late fun k g hk ht => by
      have := h (k + 1) g (by simpa using hk) ht
      rw [show j + 1 + k = j + (k + 1) by omega]; exact this
theorem ec_split {acc : List EC} {i : Nat} {g : EC} (hg : acc[i]? = some g) : acc = acc.take i ++ g :: acc.drop (i + 1) ∧ (acc.take i).length = i := by
  have hi : i < acc.length := (List.getElem?_eq_some_iff.1 hg).1
  rw [List.getElem?_eq_getElem hi] at hg
  injection hg with hg
  refine ⟨?_, by rw [List.length_take]; omega⟩
  rw [← hg, ← List.drop_eq_getElem_cons hi, List.take_append_drop]
section
variable {E : Nat → Bool} {acc : List EC} {i id : Nat} {g : EC} {c : Option Ob}
theorem curC_now (hg : acc[i]? = some g) (hi : E i = false) (he : ∀ (j : Nat) g', acc[j]? = some g' → j < i → touchC id g' = true → E j = true) (hl : ∀ (j : Nat) g', acc[j]? = some g' → i < j → touchC id g' = true → E j = false) :
    curC E id acc 0 c = curC allE id (acc.take i) 0 c := by
  obtain ⟨e1, e2⟩ := ec_split hg
  have e3 : curC E id acc 0 c = curC E id (acc.take i ++ g :: acc.drop (i + 1)) 0 c := by rw [← e1]
  rw [e3, curC_append, e2, Nat.zero_add]
  simp only [curC, hi, cond_false]
  rw [curC_late fun k g' hk ht => hl (i + 1 + k) g' (by rw [List.getElem?_drop] at hk; exact hk) (by omega) ht]
  refine curC_congr fun k g' hk ht => ?_
  rw [List.getElem?_take] at hk
  split at hk
  · rw [Nat.zero_add, he k g' hk (by omega) ht]; rfl
  · cases hk
theorem curC_ins (hg : acc[i]? = some g) (hi : E i = false) (hl : ∀ (j : Nat) g', acc[j]? = some g' → i < j → touchC id g' = true → E j = false) :
    curC (insE E i) id acc 0 c = upC id g (curC E id acc 0 c) := by
  obtain ⟨e1, e2⟩ := ec_split hg
  have e3 : ∀ E, curC E id acc 0 c = curC E id (acc.take i ++ g :: acc.drop (i + 1)) 0 c := fun E => by rw [← e1]
  rw [e3, e3, curC_append, curC_append, e2, Nat.zero_add]
  simp only [curC, hi, cond_false, BEq.rfl, Bool.true_or, cond_true]
  have h1 : curC (insE E i) id (acc.take i) 0 c = curC E id (acc.take i) 0 c := curC_congr fun k g' hk ht => by
    have : k < i := by
      rw [List.getElem?_take] at hk
      split at hk
      · assumption
      · cases hk
    simp only [insE, Nat.zero_add]
    rw [show (k == i) = false by simp; omega]; rfl
  have h2 : ∀ c', curC (insE E i) id (acc.drop (i + 1)) (i + 1) c' = c' := fun c' => curC_late fun k g' hk ht => by
    simp only [insE]
    rw [show (i + 1 + k == i) = false by simp; omega]
    exact hl (i + 1 + k) g' (by rw [List.getElem?_drop] at hk; exact hk) (by omega) ht
  have h3 : ∀ c', curC E id (acc.drop (i + 1)) (i + 1) c' = c' := fun c' => curC_late fun k g' hk ht => hl (i + 1 + k) g' (by rw [List.getElem?_drop] at hk; exact hk) (by omega) ht
  rw [h2, h3, h1]
  simp only [insE, BEq.rfl, Bool.true_or, cond_true]
theorem curC_not (hg : acc[i]? = some g) (ht : touchC id g = false) : curC (insE E i) id acc 0 c = curC E id acc 0 c :=
  curC_congr fun k g' hk ht' => by
    rw [Nat.zero_add]
    by_cases e : k = i
    · subst e
      rw [hg] at hk; injection hk with hk; subst hk
      rw [ht] at ht'; cases ht'
    · simp only [insE]
      rw [show (k == i) = false by simp; omega]; rfl
theorem envC_mem {E : Nat → Bool} : ∀ {acc : List EC} {j : Nat} {e : En}, e ∈ envC E acc j → ∃ (k : Nat) (g : EC), acc[k]? = some g ∧ E (j + k) = true ∧ g.has = true ∧ e = ⟨g.d, [], g.av⟩
  | [], j, e, h => by cases h
  | g :: l, j, e, h => by
    simp only [envC] at h
    cases hb : (E j && g.has) with
    | true =>
      rw [hb] at h
      simp only [Bool.and_eq_true] at hb
      rcases List.mem_cons.1 h with rfl | h
      · exact ⟨0, g, rfl, hb.1, hb.2, rfl⟩
      · obtain ⟨k, g', h1, h2, h3, h4⟩ := envC_mem h
        exact ⟨k + 1, g', by simpa using h1, by rw [show j + (k + 1) = j + 1 + k by omega]; exact h2, h3, h4⟩
    | false =>
      rw [hb] at h
      obtain ⟨k, g', h1, h2, h3, h4⟩ := envC_mem h
      exact ⟨k + 1, g', by simpa using h1, by rw [show j + (k + 1) = j + 1 + k by omega]; exact h2, h3, h4⟩
theorem envC_of {E : Nat → Bool} : ∀ {acc : List EC} {j k : Nat} {g : EC}, acc[k]? = some g → E (j + k) = true → g.has = true → (⟨g.d, [], g.av⟩ : En) ∈ envC E acc j
  | [], j, k, g, h, _, _ => by simp at h
  | g0 :: l, j, 0, g, h, h1, h2 => by
    simp at h; subst h
    simp only [envC]
    rw [show (E j && g0.has) = true by rw [show E j = true from h1, h2]; rfl]
    exact .head _
  | g0 :: l, j, k + 1, g, h, h1, h2 => by
    have := envC_of (acc := l) (j := j + 1) (k := k) (by simpa using h) (by rw [show j + 1 + k = j + (k + 1) by omega]; exact h1) h2
    simp only [envC]
    cases (E j && g0.has) with
    | true => exact .tail _ this
    | false => exact this
end
theorem perm_part {ids : List Nat} : ∀ {names : List Nat}, ids.Nodup → names.Nodup → (∀ i ∈ ids, i ∈ names) → names.Perm (ids ++ names.filter fun i => !memN ids i) := by
  induction ids with
  | nil =>
    intro names _ _ _
    have : (names.filter fun i => !memN [] i) = names := List.filter_eq_self.2 fun _ _ => rfl
    rw [this]
    exact List.Perm.refl _
  | cons x ids ih =>
    intro names hi hn hs
    have hi' := List.nodup_cons.1 hi
    obtain ⟨l1, l2, rfl⟩ := List.append_of_mem (hs x (.head _))
    have hn2 : (l1 ++ l2).Nodup ∧ x ∉ l1 ++ l2 := by
      have := (List.perm_middle.nodup_iff (l₁ := l1 ++ x :: l2)).1 hn
      exact ⟨(List.nodup_cons.1 this).2, (List.nodup_cons.1 this).1⟩
    have h1 := ih (names := l1 ++ l2) hi'.2 hn2.1 fun i him => by
      have := hs i (.tail _ him)
      rcases List.mem_append.1 this with h | h
      · exact List.mem_append_left _ h
      · rcases List.mem_cons.1 h with rfl | h
        · exact absurd him hi'.1
        · exact List.mem_append_right _ h
    have e : ((l1 ++ x :: l2).filter fun i => !memN (x :: ids) i) = (l1 ++ l2).filter fun i => !memN ids i := by
      have hf : ∀ l : List Nat, x ∉ l → (l.filter fun i => !memN (x :: ids) i) = l.filter fun i => !memN ids i := fun l hx => by
        refine List.filter_congr fun i him => ?_
        have hne : x ≠ i := fun e => hx (e ▸ him)
        simp only [memN, beqN hne, Bool.false_or]
      rw [List.filter_append, List.filter_cons]
      have hx0 : (!memN (x :: ids) x) = false := by simp [memN, Nat.beq_refl]
      rw [hx0]
      simp only [Bool.false_eq_true, if_false]
      rw [hf l1 fun h => hn2.2 (List.mem_append_left _ h), hf l2 fun h => hn2.2 (List.mem_append_right _ h), List.filter_append]
    rw [e]
    exact List.perm_middle.trans (List.Perm.cons x h1)
end Gx

/- One operation of a region of open order, by an ordinary step. -/
namespace Gx
open Go Go.RowKit Gd
set_option linter.unusedVariables false
set_option linter.unusedSimpArgs false
theorem splitM_eq : ∀ {ids : List Nat} {M : List (Nat × Ob)}, ids.Nodup → (splitM M ids).2 = ids.filterMap fun t => optP t (lookM M t)
  | [], M, _ => rfl
  | t :: ts, M, hn => by
    have hn' := List.nodup_cons.1 hn
    simp only [splitM, List.filterMap_cons]
    cases hl : lookM M t with
    | none => simp only [optP]; exact splitM_eq hn'.2
    | some o =>
      simp only [optP]
      rw [splitM_eq (M := remM M t) hn'.2]
      congr 1
      exact filterMap_same fun j hj => by rw [lookM_remM fun (e : j = t) => hn'.1 (by rw [← e]; exact hj)]; cases lookM M j <;> rfl
theorem lookU_map {f : Nat → Option Ob} {id : Nat} : ∀ {ids : List Nat}, lookU (ids.map fun i => (i, f i)) id = if id ∈ ids then some (f id) else none
  | [] => rfl
  | k :: l => by
    simp only [List.map_cons, lookU]
    cases hb : Nat.beq k id with
    | true =>
      have := Nat.eq_of_beq_eq_true hb
      subst this
      simp
    | false =>
      have hne : id ≠ k := fun e => by subst e; simp [Nat.beq_refl] at hb
      simp only [cond_false, lookU_map (ids := l), List.mem_cons, hne, false_or]
section
variable {P : Program} {Y : TX} {X : Cx} {β : Nat → Nat} {ρ : Nat → Value} {a : Act} {w : World} {ops : Array Oper} {Q : Exit → Act → World → Prop} {o : Oper}
theorem openStep (hG : GlobOk Y.gl (okN X) X.w) (hr : X.res = []) (hp : X.pin = none) {names : List Nat} {Zs Mb : List (Nat × Ob)} {acc : List EC} {E : Nat → Bool} {B Ve : List En} {i : Nat} {g : EC} {tch ro bs pr : List Nat} {S1 : XS}
    (h : Rel X β ρ ⟨envC E acc 0 ++ B, objC names Zs acc E ++ Mb⟩ a w) (hg : acc[i]? = some g) (hi : E i = false) (hnn : names.Nodup) (hnd : (tch ++ ro ++ bs).Nodup) (hsub : ∀ id ∈ tch ++ ro ++ bs, id ∈ names)
    (hearly : ∀ id ∈ tch ++ ro, ∀ (j : Nat) g', acc[j]? = some g' → j < i → touchC id g' = true → E j = true) (hlate : ∀ id ∈ tch ++ ro ++ bs, ∀ (j : Nat) g', acc[j]? = some g' → i < j → touchC id g' = true → E j = false)
    (hbs : ∀ id ∈ bs, curC E id acc 0 (lookM Zs id) = none) (hVe : ∀ e ∈ Ve, e ∈ envC E acc 0 ++ B) (hups : g.ups = (tch ++ bs).map fun id => (id, lookM S1.mem id)) (hgd : g.has = true → ∃ cs, (⟨g.d, cs, g.av⟩ : En) ∈ S1.env ∧ cs = []) (hod : ∀ d, o.dst = some d → d = g.d)
    (hnt : noTailM ((tch.filterMap fun id => optP id (curC allE id (acc.take i) 0 (lookM Zs id))) ++ ro.filterMap fun id => optP id (curC allE id (acc.take i) 0 (lookM Zs id))) = true)
    (hF : ∀ e ∈ envC E acc 0 ++ B, (∀ i ∈ allIds e.av, i ∈ pr) ∧ ∀ d, o.dst = some d → e.t ≠ d ∧ ∀ c ∈ e.cs, c.1 ≠ d) (hFm : ∀ id ∈ idsM (((names.filter fun j => !memN (tch ++ ro ++ bs) j).filterMap fun id => optP id (curC E id acc 0 (lookM Zs id))) ++ Mb), id ∈ pr)
    (hstep : ∀ (X1 : Cx) (Q1 : Exit → Act → World → Prop), X1.n = X.n → X1.res = [] → X1.pin = none → GlobOk Y.gl (okN X1) X1.w → Rel X1 β ρ ⟨Ve, (tch.filterMap fun id => optP id (curC allE id (acc.take i) 0 (lookM Zs id))) ++ ro.filterMap fun id => optP id (curC allE id (acc.take i) 0 (lookM Zs id))⟩ a w → (∀ β' ρ' a' w', agP pr β β' ρ ρ' → Rel X1 β' ρ' ⟨S1.env, S1.mem ++ (ro.filterMap fun id => optP id (curC allE id (acc.take i) 0 (lookM Zs id)))⟩ a' w' → Q1 .normal a' w') → wpList P ops Q1 [o] a w)
    (H : ∀ β' ρ' a' w', agP pr β β' ρ ρ' → Rel X β' ρ' ⟨envC (insE E i) acc 0 ++ B, objC names Zs acc (insE E i) ++ Mb⟩ a' w' → Q .normal a' w') : wpList P ops Q [o] a w := by
  have hpart := perm_part hnd hnn hsub
  have hnow : ∀ id ∈ tch ++ ro, curC E id acc 0 (lookM Zs id) = curC allE id (acc.take i) 0 (lookM Zs id) := fun id hm => curC_now hg hi (hearly id hm) (hlate id (List.mem_append_left _ hm))
  have hT : (tch.filterMap fun id => optP id (curC E id acc 0 (lookM Zs id))) = tch.filterMap fun id => optP id (curC allE id (acc.take i) 0 (lookM Zs id)) := (filterMap_same fun id hm => by rw [hnow id (List.mem_append_left _ hm)])
  have hR : (ro.filterMap fun id => optP id (curC E id acc 0 (lookM Zs id))) = ro.filterMap fun id => optP id (curC allE id (acc.take i) 0 (lookM Zs id)) := (filterMap_same fun id hm => by rw [hnow id (List.mem_append_right _ hm)])
  have hB0 : (bs.filterMap fun id => optP id (curC E id acc 0 (lookM Zs id))) = [] := by
    rw [List.filterMap_eq_nil_iff]
    intro id hm
    rw [hbs id hm]; rfl
  have hpm : (objC names Zs acc E ++ Mb).Perm ((tch.filterMap fun id => optP id (curC allE id (acc.take i) 0 (lookM Zs id))) ++ (ro.filterMap fun id => optP id (curC allE id (acc.take i) 0 (lookM Zs id))) ++ (((names.filter fun j => !memN (tch ++ ro ++ bs) j).filterMap fun id => optP id (curC E id acc 0 (lookM Zs id))) ++ Mb)) := by
    have h1 := hpart.filterMap fun id => optP id (curC E id acc 0 (lookM Zs id))
    rw [List.filterMap_append, List.filterMap_append, List.filterMap_append, hT, hR, hB0, List.append_nil] at h1
    rw [← List.append_assoc]
    exact h1.append_right Mb
  have h2 : Rel X β ρ ⟨Ve ++ (envC E acc 0 ++ B), _⟩ a w := Rel.less (Rel.permM h hpm) fun e he => by
    rcases List.mem_append.1 he with he | he
    · exact hVe e he
    · exact he
  refine frame_ok hG hr hp h2 hnt hF hFm hstep fun β' ρ' a' w' hag hR1 => H β' ρ' a' w' hag ?_
  have htc : ∀ id, touchC id g = decide (id ∈ tch ++ bs) := fun id => by
    unfold touchC
    rw [hups, lookU_map]
    by_cases hm : id ∈ tch ++ bs
    · rw [if_pos hm]; simp [isSomeN, hm]
    · rw [if_neg hm]; simp [isSomeN, hm]
  have hup : ∀ id ∈ tch ++ bs, curC (insE E i) id acc 0 (lookM Zs id) = lookM S1.mem id := fun id hm => by
    have hm3 : id ∈ tch ++ ro ++ bs := by
      rcases List.mem_append.1 hm with h | h
      · exact List.mem_append_left _ (List.mem_append_left _ h)
      · exact List.mem_append_right _ h
    rw [curC_ins hg hi (hlate id hm3)]
    unfold upC
    rw [hups, lookU_map, if_pos hm]
  have hoff : ∀ id, id ∉ tch ++ bs → curC (insE E i) id acc 0 (lookM Zs id) = curC E id acc 0 (lookM Zs id) := fun id hm => curC_not hg (by rw [htc]; simpa using hm)
  have hnd2 := List.nodup_append.1 hnd
  have hnd3 := List.nodup_append.1 hnd2.1
  have hndtb : (tch ++ bs).Nodup := by
    rw [List.nodup_append]
    exact ⟨hnd3.1, hnd2.2.1, fun x hx y hy => hnd2.2.2 x (List.mem_append_left _ hx) y hy⟩
  have hpm2 : (objC names Zs acc (insE E i) ++ Mb).Perm ((splitM S1.mem (tch ++ bs)).2 ++ (ro.filterMap fun id => optP id (curC allE id (acc.take i) 0 (lookM Zs id))) ++ (((names.filter fun j => !memN (tch ++ ro ++ bs) j).filterMap fun id => optP id (curC E id acc 0 (lookM Zs id))) ++ Mb)) := by
    have h1 := hpart.filterMap fun id => optP id (curC (insE E i) id acc 0 (lookM Zs id))
    rw [List.filterMap_append, List.filterMap_append, List.filterMap_append] at h1
    have e1 : ((tch.filterMap fun id => optP id (curC (insE E i) id acc 0 (lookM Zs id))) ++ (bs.filterMap fun id => optP id (curC (insE E i) id acc 0 (lookM Zs id)))) = (splitM S1.mem (tch ++ bs)).2 := by
      rw [splitM_eq hndtb, ← List.filterMap_append]
      exact filterMap_same fun id hm => by rw [hup id hm]
    have e2 : (ro.filterMap fun id => optP id (curC (insE E i) id acc 0 (lookM Zs id))) = (ro.filterMap fun id => optP id (curC allE id (acc.take i) 0 (lookM Zs id))) := by
      rw [← hR]
      refine filterMap_same fun id hm => by
        rw [hoff id fun hm2 => ?_]
        rcases List.mem_append.1 hm2 with h | h
        · exact hnd3.2.2 id h id hm rfl
        · exact hnd2.2.2 id (List.mem_append_right _ hm) id h rfl
    have e3 : ((names.filter fun j => !memN (tch ++ ro ++ bs) j).filterMap fun id => optP id (curC (insE E i) id acc 0 (lookM Zs id))) = (names.filter fun j => !memN (tch ++ ro ++ bs) j).filterMap fun id => optP id (curC E id acc 0 (lookM Zs id)) := by
      refine filterMap_same fun id hm => by
        rw [hoff id fun hm2 => ?_]
        have h3 := (List.mem_filter.1 hm).2
        have hm3 : id ∈ tch ++ ro ++ bs := by
          rcases List.mem_append.1 hm2 with h | h
          · exact List.mem_append_left _ (List.mem_append_left _ h)
          · exact List.mem_append_right _ h
        rw [memN_of hm3] at h3; cases h3
    rw [e2, e3] at h1
    rw [← e1, ← List.append_assoc]
    refine (h1.append_right Mb).trans ?_
    refine List.Perm.append_right _ (List.Perm.append_right _ ?_)
    rw [List.append_assoc, List.append_assoc]
    exact List.Perm.append_left _ List.perm_append_comm
  have hsp : (S1.mem ++ (ro.filterMap fun id => optP id (curC allE id (acc.take i) 0 (lookM Zs id))) ++ (((names.filter fun j => !memN (tch ++ ro ++ bs) j).filterMap fun id => optP id (curC E id acc 0 (lookM Zs id))) ++ Mb)).Perm ((splitM S1.mem (tch ++ bs)).1 ++ ((splitM S1.mem (tch ++ bs)).2 ++ (ro.filterMap fun id => optP id (curC allE id (acc.take i) 0 (lookM Zs id))) ++ (((names.filter fun j => !memN (tch ++ ro ++ bs) j).filterMap fun id => optP id (curC E id acc 0 (lookM Zs id))) ++ Mb))) := by
    have h1 := (splitM_perm (tch ++ bs) S1.mem).symm.trans List.perm_append_comm
    have h3 := (h1.append_right (ro.filterMap fun id => optP id (curC allE id (acc.take i) 0 (lookM Zs id)))).append_right (((names.filter fun j => !memN (tch ++ ro ++ bs) j).filterMap fun id => optP id (curC E id acc 0 (lookM Zs id))) ++ Mb)
    simpa only [List.append_assoc] using h3
  have hR2 := Rel.permM hR1 hsp
  have hR3 : Rel X β' ρ' ⟨S1.env ++ (envC E acc 0 ++ B), (splitM S1.mem (tch ++ bs)).2 ++ (ro.filterMap fun id => optP id (curC allE id (acc.take i) 0 (lookM Zs id))) ++ (((names.filter fun j => !memN (tch ++ ro ++ bs) j).filterMap fun id => optP id (curC E id acc 0 (lookM Zs id))) ++ Mb)⟩ a' w' := Sb.subO hR2 ((List.sublist_append_right _ _).map _)
  refine Rel.less (Rel.permM hR3 hpm2.symm) fun e he => ?_
  rcases List.mem_append.1 he with he | he
  · obtain ⟨k, g', q1, q2, q3, rfl⟩ := envC_mem he
    rw [Nat.zero_add] at q2
    by_cases hki : k = i
    · subst hki
      rw [hg] at q1; injection q1 with q1; subst q1
      obtain ⟨cs, hm, rfl⟩ := hgd q3
      exact List.mem_append_left _ hm
    · simp only [insE] at q2
      rw [show (k == i) = false by simp; omega, Bool.false_or] at q2
      exact List.mem_append_right _ (List.mem_append_left _ (envC_of q1 (by rw [Nat.zero_add]; exact q2) q3))
  · exact List.mem_append_right _ (List.mem_append_right _ he)
end
end Gx

/- A region of open order by ordinary steps: the interpreter. -/
namespace Gx
open Go Go.RowKit Gd
set_option linter.unusedVariables false
set_option linter.unusedSimpArgs false
theorem lookC_mem : ∀ {acc : List EC} {t : Nat} {v : AV}, lookC acc t = some v → ∃ g ∈ acc, g.d = t ∧ g.has = true ∧ g.av = v
  | [], t, v, h => by simp [lookC] at h
  | g :: l, t, v, h => by
    simp only [lookC] at h
    cases hb : (Nat.beq g.d t && g.has) with
    | true =>
      rw [hb] at h
      simp only [Bool.and_eq_true] at hb
      simp only [cond_true, Option.some.injEq] at h
      exact ⟨g, .head _, Nat.eq_of_beq_eq_true hb.1, hb.2, h⟩
    | false =>
      rw [hb] at h
      obtain ⟨g', h1, h2⟩ := lookC_mem h
      exact ⟨g', .tail _ h1, h2⟩
theorem visE_mem {l0 : List Oper} {ds : List Nat} {i : Nat} {acc : List EC} {B : List En} : ∀ {ts : List Nat} {e : En}, e ∈ visE l0 ds i acc B ts →
    (e.cs = [] ∧ lookC acc e.t = some e.av ∧ predB l0 i (ds.idxOf e.t) = true) ∨ e ∈ B
  | [], e, h => by
    obtain ⟨h1, h2, h3⟩ := varE_mem (by simpa [visE] using h)
    exact .inr h2
  | t :: ts, e, h => by
    simp only [visE] at h
    split at h
    · rename_i v hv
      cases hp : predB l0 i (ds.idxOf t) with
      | true =>
        rw [hp] at h
        rcases List.mem_cons.1 h with rfl | h
        · exact .inl ⟨rfl, hv, hp⟩
        · exact visE_mem h
      | false => rw [hp] at h; exact visE_mem h
    · cases hb : notIn ds t with
      | true =>
        rw [hb] at h
        simp only [cond_true] at h
        split at h
        · rename_i t' v he
          obtain ⟨h1, h2⟩ := lookE_ok he
          rcases List.mem_cons.1 h with rfl | h
          · exact .inr h1
          · exact visE_mem h
        · exact visE_mem h
      | false => rw [hb] at h; exact visE_mem h
theorem apart_ok {l m : List Nat} (h : apart l m = true) {x : Nat} (h1 : x ∈ l) (h2 : x ∈ m) : False := by
  have := List.all_eq_true.1 h x h1
  rw [memN_of h2] at this; cases this
section
variable {R : Type} (Y : TX) (K : List Con) (n : Nat) (l0 : List Oper) (ds : List Nat) (Zs : List (Nat × Ob)) (B : List En) (prA : List Nat)
def TrC : List HD → List Oper → Nat → List EC → List EC → Prop
  | [], [], _, _, [] => True
  | hc :: hs, o :: l, i, acc, g :: acc2 => (∃ S1, runH (R := XS) Y K n l0 hc.h [o] (seenC l0 ds Zs B prA hc o i acc) some = some S1 ∧ stepDC n ds Zs hc o i acc S1 = some g) ∧ TrC hs l (i + 1) (acc ++ [g]) acc2
  | _, _, _, _, _ => False
end
section
variable {R : Type} {r : R} {Y : TX} {K : List Con} {n : Nat} {l0 : List Oper} {ds : List Nat} {Zs : List (Nat × Ob)} {B : List En} {prA : List Nat}
theorem setEC_same {acc : List EC} {t : Nat} {b : Bool} (h : lookC acc t = some (.d .bool b)) : setEC acc t b = acc := by
  induction acc with
  | nil => rfl
  | cons g l ih =>
    simp only [lookC] at h
    simp only [setEC]
    cases hb : (Nat.beq g.d t && g.has) with
    | true =>
      rw [hb] at h
      simp only [cond_true, Option.some.injEq] at h
      obtain ⟨gd, gv, gh, gu⟩ := g
      simp only at h
      subst h
      rfl
    | false =>
      rw [hb] at h
      simp only [cond_false]
      rw [ih h]
theorem runC_tr : ∀ {ht : HT} {l : List Oper} {i : Nat} {hs : List HD} {acc : List EC} {k : Hn → List HD → List EC → Option R}, runC Y K n l0 ds Zs B prA ht l i hs acc k = some r →
    ∃ h hs2 acc2, k h (hs ++ hs2) (acc ++ acc2) = some r ∧ TrC Y K n l0 ds Zs B prA hs2 l i acc acc2 ∧ ∀ x ∈ allBs hs2, x ∈ allBsT ht
  | .tl h, [], i, hs, acc, k, hr => ⟨h, [], [], by simpa [runC] using hr, trivial, by simp [allBs]⟩
  | .tl h, _ :: _, i, hs, acc, k, hr => by simp [runC] at hr
  | .op hc t, [], i, hs, acc, k, hr => by simp [runC] at hr
  | .op hc t, o :: l, i, hs, acc, k, hr => by
    simp only [runC] at hr
    obtain ⟨S1, h1, h2⟩ := runH_one hr
    split at h1
    · rename_i g hg
      obtain ⟨h, hs2, acc2, h3, h4, h5⟩ := runC_tr h1
      refine ⟨h, hc :: hs2, g :: acc2, by simpa using h3, ⟨⟨S1, h2, hg⟩, h4⟩, fun x hx => ?_⟩
      rcases List.mem_append.1 hx with hx | hx
      · exact List.mem_append_left _ hx
      · exact List.mem_append_right _ (h5 x hx)
    · cases h1
  | .so t a b, l, i, hs, acc, k, hr => by
    simp only [runC] at hr
    split at hr
    · rename_i v hv
      cases v with
      | true =>
        rw [if_pos rfl, setEC_same hv] at hr
        obtain ⟨h, hs2, acc2, h3, h4, h5⟩ := runC_tr hr
        exact ⟨h, hs2, acc2, h3, h4, fun x hx => List.mem_append_left _ (h5 x hx)⟩
      | false =>
        rw [if_neg (by simp), setEC_same hv] at hr
        obtain ⟨h, hs2, acc2, h3, h4, h5⟩ := runC_tr hr
        exact ⟨h, hs2, acc2, h3, h4, fun x hx => List.mem_append_right _ (h5 x hx)⟩
    · cases hr
theorem TrC.get : ∀ {hs : List HD} {l : List Oper} {i : Nat} {acc acc2 : List EC}, TrC Y K n l0 ds Zs B prA hs l i acc acc2 → acc2.length = l.length ∧ hs.length = l.length ∧ ∀ (j : Nat) o, l[j]? = some o → ∃ g hc S1, acc2[j]? = some g ∧ hs[j]? = some hc ∧
    runH (R := XS) Y K n l0 hc.h [o] (seenC l0 ds Zs B prA hc o (i + j) (acc ++ acc2.take j)) some = some S1 ∧ stepDC n ds Zs hc o (i + j) (acc ++ acc2.take j) S1 = some g
  | [], [], i, acc, [], _ => ⟨rfl, rfl, by simp⟩
  | [], [], i, acc, _ :: _, h => h.elim
  | [], _ :: _, i, acc, _, h => by simp [TrC] at h
  | _ :: _, [], i, acc, _, h => by simp [TrC] at h
  | _ :: _, _ :: _, i, acc, [], h => by simp [TrC] at h
  | hc :: hs, o :: l, i, acc, g :: acc2, h => by
    obtain ⟨⟨S1, q1, q2⟩, h0⟩ := h
    obtain ⟨h2, h2', h3⟩ := TrC.get h0
    refine ⟨by simp [h2], by simp [h2'], fun j o' ho => ?_⟩
    cases j with
    | zero =>
      simp at ho; subst ho
      exact ⟨g, hc, S1, rfl, rfl, by simpa using q1, by simpa using q2⟩
    | succ j =>
      obtain ⟨g', hc', S1', p1, p2, p3, p4⟩ := h3 j o' (by simpa using ho)
      refine ⟨g', hc', S1', by simpa using p1, by simpa using p2, ?_, ?_⟩
      · rw [show i + (j + 1) = i + 1 + j by omega]; simpa using p3
      · rw [show i + (j + 1) = i + 1 + j by omega]; simpa using p4
end
end Gx

/- A region of open order by ordinary steps. -/
namespace Gx
open Go Go.RowKit Gd
set_option linter.unusedVariables false
set_option linter.unusedSimpArgs false
theorem stepDC_ok {n : Nat} {ds : List Nat} {Zs : List (Nat × Ob)} {hc : HD} {o : Oper} {i : Nat} {acc : List EC} {S1 : XS} {g : EC} (h : stepDC n ds Zs hc o i acc S1 = some g) :
    noTailM (objsC hc.tch Zs acc ++ objsC hc.ro Zs acc) = true ∧ allMem hc.nm (idsM S1.mem) = true ∧ (g.ups = (hc.tch ++ hc.bs).map fun id => (id, lookM S1.mem id)) ∧ ds.getD i 0 = g.d ∧ allMem hc.nm (allIds g.av) = true ∧ (∀ d, o.dst = some d → d = g.d ∧ d < n) ∧ (g.has = true → ∃ cs, (⟨g.d, cs, g.av⟩ : En) ∈ S1.env ∧ cs = []) ∧ (o.dst = none → n ≤ 1000000000 → n ≤ g.d) := by
  unfold stepDC at h
  obtain ⟨hb, h⟩ := bvT h
  simp only [Bool.and_eq_true] at hb
  split at h
  · rename_i d hd
    split at h
    · rename_i t av hl
      obtain ⟨hb2, h⟩ := bvT h
      simp only [Bool.and_eq_true] at hb2
      simp only [Option.some.injEq] at h
      subst h
      obtain ⟨hm, ht⟩ := lookE_ok hl
      simp only at ht
      subst ht
      exact ⟨hb.1, hb.2, rfl, Nat.eq_of_beq_eq_true hb2.1.1, hb2.1.2, fun d' hd' => by rw [hd] at hd'; injection hd' with hd'; subst hd'; exact ⟨rfl, Nat.le_of_ble_eq_true hb2.2⟩, fun _ => ⟨[], hm, rfl⟩, fun hn => by rw [hd] at hn; cases hn⟩
    · cases h
  · rename_i hd
    obtain ⟨hb2, h⟩ := bvT h
    simp only [Option.some.injEq] at h
    subst h
    exact ⟨hb.1, hb.2, rfl, Nat.eq_of_beq_eq_true hb2, (by trivial), (fun d' hd' => by rw [hd] at hd'; cases hd'), (fun h => by cases h), fun _ hn => by simp only; omega⟩
theorem idsM_append : ∀ {l m : List (Nat × Ob)} {i : Nat}, i ∈ idsM (l ++ m) → i ∈ idsM l ∨ i ∈ idsM m
  | [], m, i, h => .inr h
  | (k, ob) :: l, m, i, h => by
    have key : ∀ {xs : List Nat}, i ∈ xs ++ idsM (l ++ m) → i ∈ xs ++ idsM l ∨ i ∈ idsM m := fun {xs} h => by
      rcases List.mem_append.1 h with h | h
      · exact .inl (List.mem_append_left _ h)
      · exact (idsM_append h).imp (List.mem_append_right _) id
    cases ob with
    | var t c => exact key (xs := k :: allIds c) (by simpa [idsM] using h) |>.imp (by simp [idsM]) id
    | mapT a b p e u xs hole =>
      cases hole with
      | none => exact key (xs := [k]) (by simpa [idsM] using h) |>.imp (by simp [idsM]) id
      | some q => exact key (xs := [k, q.2]) (by simpa [idsM] using h) |>.imp (by simp [idsM]) id
    | _ => exact key (xs := [k]) (by simpa [idsM] using h) |>.imp (by simp [idsM]) id
theorem idsM_sel {f : Nat → Option Ob} {i : Nat} : ∀ {ids : List Nat}, i ∈ idsM (ids.filterMap fun id => optP id (f id)) → ∃ id ∈ ids, ∃ ob, f id = some ob ∧ i ∈ idsM [(id, ob)]
  | [], h => by cases h
  | id :: ids, h => by
    simp only [List.filterMap_cons] at h
    cases hf : f id with
    | none =>
      rw [hf] at h
      obtain ⟨id', h1, ob, h2, h3⟩ := idsM_sel (ids := ids) h
      exact ⟨id', .tail _ h1, ob, h2, h3⟩
    | some ob =>
      rw [hf] at h
      rcases idsM_append (l := [(id, ob)]) h with h | h
      · exact ⟨id, .head _, ob, hf, h⟩
      · obtain ⟨id', h1, ob', h2, h3⟩ := idsM_sel (ids := ids) h
        exact ⟨id', .tail _ h1, ob', h2, h3⟩
theorem idsM_look {M : List (Nat × Ob)} {id i : Nat} {ob : Ob} : lookM M id = some ob → i ∈ idsM [(id, ob)] → i ∈ idsM M := by
  intro h hi
  obtain ⟨l1, l2, e, w1, w2⟩ := lookM_split h
  rw [e]
  clear e h w1 w2
  induction l1 with
  | nil =>
    have key : ∀ {xs ys : List Nat}, i ∈ xs ++ [] → i ∈ xs ++ ys := fun h => List.mem_append_left _ (by simpa using h)
    cases ob with
    | var t c => have := key (xs := id :: allIds c) (ys := idsM l2) (by simpa [idsM] using hi); simpa [idsM] using this
    | mapT a b p e u xs hole =>
      cases hole with
      | none => have := key (xs := [id]) (ys := idsM l2) (by simpa [idsM] using hi); simpa [idsM] using this
      | some q => have := key (xs := [id, q.2]) (ys := idsM l2) (by simpa [idsM] using hi); simpa [idsM] using this
    | _ => have := key (xs := [id]) (ys := idsM l2) (by simpa [idsM] using hi); simpa [idsM] using this
  | cons q l ih =>
    obtain ⟨k, x⟩ := q
    cases x with
    | var t c => simp only [List.cons_append, idsM]; exact .tail _ (List.mem_append_right _ ih)
    | mapT a b p e u xs hole =>
      cases hole with
      | none => simp only [List.cons_append, idsM]; exact .tail _ ih
      | some q => simp only [List.cons_append, idsM]; exact .tail _ (.tail _ ih)
    | _ => simp only [List.cons_append, idsM]; exact .tail _ ih
theorem curC_src {E : Nat → Bool} {id : Nat} {ob : Ob} : ∀ {l : List EC} {j : Nat} {c : Option Ob}, curC E id l j c = some ob → c = some ob ∨ ∃ (k : Nat) (g : EC), l[k]? = some g ∧ E (j + k) = true ∧ lookU g.ups id = some (some ob)
  | [], j, c, h => .inl h
  | g0 :: l, j, c, h => by
    simp only [curC] at h
    rcases curC_src h with h1 | ⟨k, g, h1, h2, h3⟩
    · cases hE : E j with
      | false => rw [hE] at h1; exact .inl h1
      | true =>
        rw [hE] at h1
        simp only [cond_true, upC] at h1
        cases hl : lookU g0.ups id with
        | none => rw [hl] at h1; exact .inl h1
        | some x => rw [hl] at h1; simp only at h1; subst h1; exact .inr ⟨0, g0, rfl, hE, hl⟩
    · exact .inr ⟨k + 1, g, by simpa using h1, by rw [show j + (k + 1) = j + 1 + k by omega]; exact h2, h3⟩
end Gx

/- A region of open order by ordinary steps: sound. -/
namespace Gx
open Go Go.RowKit Gd
set_option linter.unusedVariables false
set_option linter.unusedSimpArgs false
theorem allBs_mem : ∀ {hs : List HD} {i : Nat}, (∃ hc ∈ hs, i ∈ hc.bs) → i ∈ allBs hs
  | [], i, ⟨_, h, _⟩ => by cases h
  | h :: l, i, ⟨hc, hm, hi⟩ => by
    rcases List.mem_cons.1 hm with rfl | hm
    · exact List.mem_append_left _ hi
    · exact List.mem_append_right _ (allBs_mem ⟨hc, hm, hi⟩)
theorem cfl_at {l0 : List Oper} {hs : List HD} (h : cflB l0 hs = true) {i j : Nat} {hi hj : HD} (h1 : hs[i]? = some hi) (h2 : hs[j]? = some hj) (hji : j < i) : settled l0 i j hi hj = true := by
  have hil := (List.getElem?_eq_some_iff.1 h1).1
  have := List.all_eq_true.1 (List.all_eq_true.1 h i (List.mem_range.2 hil)) j (List.mem_range.2 hji)
  rw [h1, h2] at this
  exact this
theorem nm_at {l0 : List Oper} {hs : List HD} (h : nmB l0 hs = true) {i j : Nat} {hi hj : HD} (h1 : hs[i]? = some hi) (h2 : hs[j]? = some hj) (hji : i ≠ j) : apart hi.bs hj.nm = true ∨ behindB l0 l0.length j i = true := by
  have hil := (List.getElem?_eq_some_iff.1 h1).1
  have hjl := (List.getElem?_eq_some_iff.1 h2).1
  have := List.all_eq_true.1 (List.all_eq_true.1 h i (List.mem_range.2 hil)) j (List.mem_range.2 hjl)
  rw [h1, h2] at this
  simp only [beqN hji, Bool.false_or, Bool.or_eq_true] at this
  exact this
theorem idsM_left {m : List (Nat × Ob)} {i : Nat} : ∀ {l : List (Nat × Ob)}, i ∈ idsM l → i ∈ idsM (l ++ m)
  | [], h => by cases h
  | (k, x) :: l, h => by
    have key : ∀ {xs : List Nat}, i ∈ xs ++ idsM l → i ∈ xs ++ idsM (l ++ m) := fun {xs} h => by
      rcases List.mem_append.1 h with h | h
      · exact List.mem_append_left _ h
      · exact List.mem_append_right _ (idsM_left h)
    cases x with
    | var t c => have := key (xs := k :: allIds c) (by simpa [idsM] using h); simpa [idsM] using this
    | mapT a b p e u xs hole =>
      cases hole with
      | none => have := key (xs := [k]) (by simpa [idsM] using h); simpa [idsM] using this
      | some q => have := key (xs := [k, q.2]) (by simpa [idsM] using h); simpa [idsM] using this
    | _ => have := key (xs := [k]) (by simpa [idsM] using h); simpa [idsM] using this
theorem idsM_right {m : List (Nat × Ob)} {i : Nat} (h : i ∈ idsM m) : ∀ {l : List (Nat × Ob)}, i ∈ idsM (l ++ m)
  | [] => h
  | (k, x) :: l => by
    have ih := idsM_right h (l := l)
    cases x with
    | var t c => simp only [List.cons_append, idsM]; exact .tail _ (List.mem_append_right _ ih)
    | mapT a b p e u xs hole =>
      cases hole with
      | none => simp only [List.cons_append, idsM]; exact .tail _ ih
      | some q => simp only [List.cons_append, idsM]; exact .tail _ (.tail _ ih)
    | _ => simp only [List.cons_append, idsM]; exact .tail _ ih
theorem envC_congr {E E' : Nat → Bool} : ∀ {acc : List EC} {j : Nat}, (∀ k, k < acc.length → E (j + k) = E' (j + k)) → envC E acc j = envC E' acc j
  | [], _, _ => rfl
  | g :: l, j, h => by
    have h0 := h 0 (by simp)
    rw [Nat.add_zero] at h0
    have ih : envC E l (j + 1) = envC E' l (j + 1) := envC_congr fun k hk => by
      have := h (k + 1) (by simp only [List.length_cons]; omega)
      rwa [show j + (k + 1) = j + 1 + k by omega] at this
    simp only [envC, h0, ih]
theorem envC_none : ∀ {acc : List EC} {j : Nat}, envC (fun _ => false) acc j = []
  | [], _ => rfl
  | g :: l, j => by simp only [envC, Bool.false_and, cond_false]; exact envC_none
theorem objC_none {Zs : List (Nat × Ob)} {bs : List Nat} {acc : List EC} (hN : (keysM Zs ++ bs).Nodup) : objC (keysM Zs ++ bs) Zs acc (fun _ => false) = Zs := by
  unfold objC
  have h0 : ∀ id c, curC (fun _ => false) id acc 0 c = c := fun id c => curC_late fun _ _ _ _ => rfl
  obtain ⟨n1, n2, n3⟩ := List.nodup_append.1 hN
  rw [List.filterMap_append]
  have e2 : (bs.filterMap fun id => optP id (curC (fun _ => false) id acc 0 (lookM Zs id))) = [] := by
    rw [List.filterMap_eq_nil_iff]
    intro d hd
    rw [h0]
    cases hl : lookM Zs d with
    | none => rfl
    | some ob => exact absurd rfl (n3 d (isSomeN_key (by rw [hl]; rfl)) d hd)
  rw [e2, List.append_nil]
  unfold keysM
  rw [List.filterMap_map]
  refine (filterMap_same (f := some) fun q hq => ?_).trans List.filterMap_some
  simp only [Function.comp, h0, look_nodup n1 q hq, optP]
section
variable {P : Program} {Y : TX} {X : Cx} {K : List Con} {n : Nat} {l0 : List Oper} {ds : List Nat} {Zs Mb : List (Nat × Ob)} {B : List En} {prA prB : List Nat} {R : Type} {r : R} {β : Nat → Nat} {ρ : Nat → Value} {a : Act} {w : World}
theorem openRegion (hT : TabOk P Y.T) (hmix : P.follows .mixedOrders = true) (hK : KsX P Y X K) (hX : X.n = n) (hr : X.res = []) (hp : X.pin = none) {ht : HT} {p : Nat} (h : Rel X β ρ ⟨B, Zs ++ Mb⟩ a w)
    (hBt : ∀ e ∈ B, ∀ d ∈ ds, d < n → e.t ≠ d ∧ ∀ c ∈ e.cs, c.1 ≠ d) (hBi : ∀ e ∈ B, ∀ i ∈ allIds e.av, i ∈ prB) (hMi : ∀ i ∈ idsM (Zs ++ Mb), i ∈ prB)
    (hb : drawB l0 p ds = true) {k : Hn → List HD → List EC → Option R} (hs : runC Y K n l0 ds Zs B prA ht (l0.take p) 0 [] [] k = some r)
    (hch : ∀ h hs0 acc, k h hs0 acc = some r → chkC l0 (keysM Zs) prB prA hs0 = true) (hpA : ∀ i ∈ prB, i ∈ prA) {id : Nat} {Q : Exit → Act → World → Prop}
    (H : ∀ β' ρ' a' w' h hs0 acc, k h hs0 acc = some r → (∀ (x : Nat), (∀ hc ∈ hs0, x ∉ hc.wr) → ∀ g ∈ acc, touchC x g = false) → (∀ x ∈ allBs hs0, x ∈ allBsT ht) → agP prB β β' ρ ρ' → Rel X β' ρ' ⟨envC allE acc 0 ++ B, objC (keysM Zs ++ allBs hs0) Zs acc allE ++ Mb⟩ a' w' → wpList P ⟨l0⟩ Q (l0.drop p) a' w') : (Code.region id ⟨l0⟩ true).wp P Q a w := by
  unfold drawB at hb
  simp only [Bool.and_eq_true] at hb
  obtain ⟨⟨⟨⟨hple, hlen⟩, hback⟩, hfin⟩, hndB⟩ := hb
  have hnd := nodupB_ok hndB
  have hpl := Nat.le_of_ble_eq_true hple
  have hdl := Nat.eq_of_beq_eq_true hlen
  obtain ⟨hn, hs0, acc, hk, htr, hbT⟩ := runC_tr hs
  simp only [List.nil_append] at hk
  have hchk := hch _ _ _ hk
  unfold chkC at hchk
  simp only [Bool.and_eq_true] at hchk
  obtain ⟨⟨⟨⟨⟨hcf, hnm⟩, hNb⟩, hapB⟩, hNAb⟩, hall0⟩ := hchk
  have hN := nodupN_ok hNb
  have hNA : ∀ i ∈ keysM Zs ++ allBs hs0, i ∈ prA := fun i hi => allMem_ok hNAb i hi
  have hprB : ∀ i ∈ prB, i ∈ prA ∧ i ∉ allBs hs0 := fun i hi => ⟨hpA i hi, fun h2 => apart_ok hapB hi h2⟩
  have hal0 : ∀ hc ∈ hs0, nodupN hc.al = true ∧ allMem (keysM Zs ++ allBs hs0) hc.al = true ∧ allMem prA hc.nm = true := fun hc hm => by
    have := List.all_eq_true.1 hall0 hc hm
    simp only [Bool.and_eq_true] at this
    exact ⟨this.1.1, this.1.2, this.2⟩
  have hNm : ∀ hc ∈ hs0, ∀ i ∈ hc.nm, i ∈ prA := fun hc hm i hi => allMem_ok (hal0 hc hm).2.2 i hi
  have hal : ∀ hc ∈ hs0, (hc.tch ++ hc.ro ++ hc.bs).Nodup ∧ ∀ i ∈ hc.tch ++ hc.ro ++ hc.bs, i ∈ keysM Zs ++ allBs hs0 := fun hc hm => ⟨nodupN_ok (hal0 hc hm).1, fun i hi => allMem_ok (hal0 hc hm).2.1 i hi⟩
  obtain ⟨hal1, hal2, hall⟩ := htr.get
  have hap : acc.length = p := by rw [hal1, List.length_take]; omega
  simp only [List.nil_append, Nat.zero_add] at hall
  have hget : ∀ (i : Nat) o, i < p → l0[i]? = some o → ∃ g hc S1, acc[i]? = some g ∧ hs0[i]? = some hc ∧ runH (R := XS) Y K n l0 hc.h [o] (seenC l0 ds Zs B prA hc o i (acc.take i)) some = some S1 ∧ stepDC n ds Zs hc o i (acc.take i) S1 = some g := fun i o hi ho => hall i o (by rw [List.getElem?_take, if_pos hi]; exact ho)
  have hof : ∀ (j : Nat) g, acc[j]? = some g → j < p ∧ ∃ o hc S1, l0[j]? = some o ∧ hs0[j]? = some hc ∧ stepDC n ds Zs hc o j (acc.take j) S1 = some g := fun j g hg => by
    have hj : j < p := by have := (List.getElem?_eq_some_iff.1 hg).1; omega
    obtain ⟨g', hc, S1, q1, q2, _, q4⟩ := hget j l0[j] hj (List.getElem?_eq_getElem (by omega))
    rw [hg] at q1; injection q1 with q1; subst q1
    exact ⟨hj, _, hc, S1, List.getElem?_eq_getElem (by omega), q2, q4⟩
  have htch : ∀ (j : Nat) g hc x, acc[j]? = some g → hs0[j]? = some hc → touchC x g = true → x ∈ hc.wr := fun j g hc x hg hh ht => by
    obtain ⟨_, o, hc', S1, _, q2, q3⟩ := hof j g hg
    rw [hh] at q2; injection q2 with q2; subst q2
    unfold touchC at ht
    rw [(stepDC_ok q3).2.2.1, lookU_map] at ht
    by_cases hm : x ∈ hc.tch ++ hc.bs
    · exact hm
    · rw [if_neg hm] at ht; simp [isSomeN] at ht
  have hdsj : ∀ (j : Nat) g, acc[j]? = some g → ds[j]? = some g.d := fun j g hg => by
    obtain ⟨hj, o, hc, S1, _, _, q3⟩ := hof j g hg
    exact some_getD (by omega) (stepDC_ok q3).2.2.2.1
  have hno : ∀ (x : Nat), (∀ hc ∈ hs0, x ∉ hc.wr) → ∀ g ∈ acc, touchC x g = false := fun x hx g hg => by
    obtain ⟨j, hj⟩ := List.getElem?_of_mem hg
    obtain ⟨hjp, o, hc, S1, p1, p2, p3⟩ := hof j g hj
    cases ht : touchC x g with
    | false => rfl
    | true => exact absurd (htch j g hc x hj p2 ht) (hx hc (List.mem_of_getElem? p2))
  refine draw_rule0 (fun E a w => ∃ β' ρ', agP prB β β' ρ ρ' ∧ Rel X β' ρ' ⟨envC E acc 0 ++ B, objC (keysM Zs ++ allBs hs0) Zs acc E ++ Mb⟩ a w) hmix p (fun E E' a w hE ⟨β', ρ', q1, q2⟩ => ⟨β', ρ', q1, ?_⟩) hple hback hfin ⟨β, ρ, agP.refl _ _ _, ?_⟩ (fun E i o a w Q' hip ho hcl hEi hpre ⟨β1, ρ1, hag, hR⟩ hQ => ?_) fun a' w' ⟨β', ρ', q1, q2⟩ => H β' ρ' a' w' hn hs0 acc hk hno hbT q1 q2
  · have e1 : envC E acc 0 = envC E' acc 0 := envC_congr fun k hk => by rw [Nat.zero_add]; exact hE k (by omega)
    have e2 : objC (keysM Zs ++ allBs hs0) Zs acc E = objC (keysM Zs ++ allBs hs0) Zs acc E' := filterMap_same fun id _ => by
      rw [curC_congr (E := E) (E' := E') fun k e hk _ => by rw [Nat.zero_add]; exact hE k (by have := (List.getElem?_eq_some_iff.1 hk).1; omega)]
    rw [e1, e2] at q2
    exact q2
  · rw [envC_none, objC_none hN]
    exact Sb.below h ((Below.refl _ _).drew)
  · obtain ⟨g, hc, S1, hg, hhc, hrun, hst⟩ := hget i o hip ho
    obtain ⟨t1, t2, t3, t4, t5, t6, t7, t8⟩ := stepDC_ok hst
    obtain ⟨al1, al2⟩ := hal hc (List.mem_of_getElem? hhc)
    have hlateB : ∀ j, behindB l0 l0.length j i = true → E j = false := fun j hbj => by
      cases hE : E j with
      | false => rfl
      | true =>
        have : E i = true := behind_ok hcl l0.length j i hbj fun o' ho' e he hb' => hcl j o' hE ho' e he hb'
        rw [hEi] at this; cases this
    have hearB : ∀ j, behindB l0 l0.length i j = true → E j = true := fun j hbj => behind_ok hcl l0.length i j hbj fun o' ho' e he hb' => by rw [ho] at ho'; injection ho' with ho'; subst ho'; exact hpre e he hb'
    have hlate : ∀ id ∈ hc.tch ++ hc.ro ++ hc.bs, ∀ (j : Nat) g', acc[j]? = some g' → i < j → touchC id g' = true → E j = false := fun id hm j g' hj hij ht => by
      obtain ⟨hjp, oj, hcj, S1j, p1, p2, p3⟩ := hof j g' hj
      have hw := htch j g' hcj id hj p2 ht
      have hse := cfl_at hcf p2 hhc hij
      unfold settled at hse
      simp only [Bool.and_eq_true, Bool.or_eq_true] at hse
      rcases hse.1 with ⟨s1, s2⟩ | s1
      · exfalso
        rcases List.mem_append.1 hm with hm | hm
        · rcases List.mem_append.1 hm with hm | hm
          · exact apart_ok s1 (List.mem_append_left _ hm : id ∈ hc.wr) (by
              rcases List.mem_append.1 hw with q | q
              · exact List.mem_append_left _ (List.mem_append_left _ q)
              · exact List.mem_append_right _ q)
          · exact apart_ok s2 hm hw
        · exact apart_ok s1 (List.mem_append_right _ hm : id ∈ hc.wr) (by
              rcases List.mem_append.1 hw with q | q
              · exact List.mem_append_left _ (List.mem_append_left _ q)
              · exact List.mem_append_right _ q)
      · exact hlateB j s1
    have hearly : ∀ id ∈ hc.tch ++ hc.ro, ∀ (j : Nat) g', acc[j]? = some g' → j < i → touchC id g' = true → E j = true := fun id hm j g' hj hij ht => by
      obtain ⟨hjp, oj, hcj, S1j, p1, p2, p3⟩ := hof j g' hj
      have hw := htch j g' hcj id hj p2 ht
      have hse := cfl_at hcf hhc p2 hij
      unfold settled at hse
      simp only [Bool.and_eq_true, Bool.or_eq_true] at hse
      rcases hse.1 with ⟨s1, s2⟩ | s1
      · exact (apart_ok s1 hw (List.mem_append_left _ hm)).elim
      · exact hearB j s1
    have hbsA : ∀ id ∈ hc.bs, id ∈ allBs hs0 := fun id hm => allBs_mem ⟨hc, List.mem_of_getElem? hhc, hm⟩
    have hbs : ∀ id ∈ hc.bs, curC E id acc 0 (lookM Zs id) = none := fun id hm => by
      have hz : lookM Zs id = none := by
        cases hl : lookM Zs id with
        | none => rfl
        | some ob => exact absurd rfl ((List.nodup_append.1 hN).2.2 id (isSomeN_key (by rw [hl]; rfl)) id (hbsA id hm))
      rw [hz]
      refine curC_late fun j g' hj ht => ?_
      rw [Nat.zero_add]
      rcases Nat.lt_trichotomy j i with hji | hji | hji
      · obtain ⟨hjp, oj, hcj, S1j, p1, p2, p3⟩ := hof j g' hj
        have hse := cfl_at hcf hhc p2 hji
        unfold settled at hse
        simp only [Bool.and_eq_true] at hse
        exact (apart_ok hse.2 hm (htch j g' hcj id hj p2 ht)).elim
      · rw [hji]; exact hEi
      · exact hlate id (List.mem_append_right _ hm) j g' hj hji ht
    have hprs : ∀ x ∈ prB, x ∈ withoutN prA hc.bs := fun x hx => by
      obtain ⟨q1, q2⟩ := hprB x hx
      refine List.mem_filter.2 ⟨q1, ?_⟩
      cases hm : memN hc.bs x with
      | false => rfl
      | true => exact absurd (hbsA x (memN_ok' hm)) q2
    have hnmj : ∀ (j : Nat) g', acc[j]? = some g' → E j = true → ∀ hcj, hs0[j]? = some hcj → ∀ x ∈ hcj.nm, x ∈ withoutN prA hc.bs := fun j g' hj hE hcj p2 x hx => by
      refine List.mem_filter.2 ⟨hNm hcj (List.mem_of_getElem? p2) x hx, ?_⟩
      cases hm : memN hc.bs x with
      | false => rfl
      | true =>
        have hij : i ≠ j := fun e => by subst e; rw [hEi] at hE; cases hE
        rcases nm_at hnm hhc p2 hij with q | q
        · exact (apart_ok q (memN_ok' hm) hx).elim
        · rw [hlateB j q] at hE; cases hE
    refine openStep hK.2 hr hp (S1 := S1) (tch := hc.tch) (ro := hc.ro) (bs := hc.bs) (pr := withoutN prA hc.bs) (Ve := visE l0 ds i (acc.take i) B (opTmps o ++ gTs l0 o)) hR hg hEi hN al1 al2 hearly hlate hbs (fun e he => ?_) t3 t7 (fun d hd => (t6 d hd).1) t1 (fun e he => ?_) (fun x hx => ?_) (fun X1 Q1 x1 x2 x3 x4 x5 x6 => ?_) fun β' ρ' a' w' y1 y2 => hQ a' w' ⟨β', ρ', agP.trans hag fun x hx => y1 x (hprs x hx), y2⟩
    · rcases visE_mem he with ⟨v1, v2, v3⟩ | v1
      · obtain ⟨g', m1, m2, m3, m4⟩ := lookC_mem v2
        obtain ⟨j, hj⟩ := List.getElem?_of_mem m1
        rw [List.getElem?_take] at hj
        split at hj
        · rename_i hji
          have hd' := hdsj j g' hj
          have hix : ds.idxOf e.t = j := by
            have hjl := (List.getElem?_eq_some_iff.1 hd').1
            have := hnd.idxOf_getElem j hjl
            rw [(List.getElem?_eq_some_iff.1 hd').2, m2] at this
            exact this
          rw [hix] at v3
          have hEj : E j = true := by
            simp only [predB, ho] at v3
            obtain ⟨e', he', hb'⟩ := List.any_eq_true.1 v3
            simp only [Bool.and_eq_true] at hb'
            rw [← Nat.eq_of_beq_eq_true hb'.2]
            exact hpre e' he' hb'.1
          refine List.mem_append_left _ ?_
          have := envC_of (E := E) (acc := acc) (j := 0) (k := j) hj (by rw [Nat.zero_add]; exact hEj) m3
          obtain ⟨et, ecs, eav⟩ := e
          simp only at v1 m2 m4
          subst v1; subst m2; subst m4
          exact this
        · cases hj
      · exact List.mem_append_right _ v1
    · rcases List.mem_append.1 he with he | he
      · obtain ⟨j, g', q1, q2, q3, rfl⟩ := envC_mem he
        rw [Nat.zero_add] at q2
        obtain ⟨hjp, oj, hcj, S1j, p1, p2, p3⟩ := hof j g' q1
        refine ⟨fun x hx => hnmj j g' q1 q2 hcj p2 x (allMem_ok (stepDC_ok p3).2.2.2.2.1 x hx), fun d hd => ⟨fun e => ?_, by simp⟩⟩
        have e1 := (t6 d hd).1
        have d1 := hdsj j g' q1
        have d2 := hdsj i g hg
        have hij : j = i := by
          obtain ⟨b1, c1⟩ := List.getElem?_eq_some_iff.1 d1
          obtain ⟨b2, c2⟩ := List.getElem?_eq_some_iff.1 d2
          have a1 := hnd.idxOf_getElem j b1
          have a2 := hnd.idxOf_getElem i b2
          rw [show ds[j] = ds[i] from c1.trans (e.trans (e1.trans c2.symm))] at a1
          exact a1.symm.trans a2
        rw [hij, hEi] at q2; cases q2
      · refine ⟨fun x hx => hprs x (hBi e he x hx), fun d hd => ?_⟩
        obtain ⟨e1, e2⟩ := t6 d hd
        exact hBt e he d (by rw [e1]; exact List.mem_of_getElem? (hdsj i g hg)) e2
    · rcases idsM_append hx with hx | hx
      · obtain ⟨id, h1, ob, h2, h3⟩ := idsM_sel hx
        rcases curC_src h2 with h6 | ⟨j, g', q1, q2, q3⟩
        · exact hprs x (hMi x (idsM_left (idsM_look h6 h3)))
        · rw [Nat.zero_add] at q2
          obtain ⟨hjp, oj, hcj, S1j, p1, p2, p3⟩ := hof j g' q1
          refine hnmj j g' q1 q2 hcj p2 x (allMem_ok (stepDC_ok p3).2.1 x ?_)
          rw [(stepDC_ok p3).2.2.1, lookU_map] at q3
          split at q3
          · exact idsM_look (Option.some.inj q3) h3
          · cases q3
      · exact hprs x (hMi x (idsM_right hx))
    · have hflat : (seenC l0 ds Zs B prA hc o i (acc.take i)).flat = ⟨visE l0 ds i (acc.take i) B (opTmps o ++ gTs l0 o), objsC hc.tch Zs (acc.take i) ++ objsC hc.ro Zs (acc.take i)⟩ := by
        simp only [XS.flat, seenC, List.append_nil]
      have := runH_ok hT (X := X1) ⟨hK.1, x4⟩ (x1.trans hX) x2 (Q := Q1) hc.h (l := [o]) (rest := []) (S := seenC l0 ds Zs B prA hc o i (acc.take i)) (a := a) (w := w) (by rw [hflat]; exact x5) hrun fun β' ρ' S' a' w' k1 k2 k3 => by
        simp only [Option.some.injEq] at k1
        subst k1
        have kf : S'.fix = [] := k2.fix
        have km : S'.fixM = objsC hc.ro Zs (acc.take i) := k2.fixM
        refine x6 β' ρ' a' w' k2.ag ?_
        have e : S'.flat = ⟨S'.env, S'.mem ++ objsC hc.ro Zs (acc.take i)⟩ := by simp only [XS.flat, kf, km, List.append_nil]
        rw [e] at k3
        exact k3
      simpa using this
end
end Gx

/- A region of open order by ordinary steps, as the interpreter walks it. -/
namespace Gx
open Go Go.RowKit Gd
set_option linter.unusedVariables false
set_option linter.unusedSimpArgs false
theorem datE_mem {M : List (Nat × Ob)} : ∀ {B : List En} {e : En}, e ∈ datE M B → ∃ e0 ∈ B, e = ⟨e0.t, e0.cs, datA M e0.av⟩
  | [], e, h => by cases h
  | e0 :: l, e, h => by
    simp only [datE] at h
    cases hb : anyTail M (idsOf e0.av) with
    | true =>
      rw [hb] at h
      rcases List.mem_cons.1 h with rfl | h
      · exact ⟨e0, .head _, rfl⟩
      · obtain ⟨e1, h1, h2⟩ := datE_mem h
        exact ⟨e1, .tail _ h1, h2⟩
    | false =>
      rw [hb] at h
      obtain ⟨e1, h1, h2⟩ := datE_mem h
      exact ⟨e1, .tail _ h1, h2⟩
theorem perm4 {α : Type} (a b c d : List α) : ((a ++ b) ++ (c ++ d)).Perm ((a ++ c) ++ (b ++ d)) := by
  rw [List.append_assoc, List.append_assoc]
  refine List.Perm.append_left a ?_
  rw [← List.append_assoc, ← List.append_assoc]
  exact List.perm_append_comm.append_right d
theorem curC_none {E : Nat → Bool} {id : Nat} : ∀ {l : List EC} {j : Nat} {c : Option Ob}, (∀ g ∈ l, touchC id g = false) → curC E id l j c = c
  | [], j, c, _ => rfl
  | g :: l, j, c, h => by
    simp only [curC]
    rw [upC_no (h g (.head _))]
    rw [show (bif E j then c else c) = c by cases E j <;> rfl]
    exact curC_none fun g' hg => h g' (.tail _ hg)
theorem objC_append {l m : List Nat} {Zs : List (Nat × Ob)} {acc : List EC} {E : Nat → Bool} : objC (l ++ m) Zs acc E = objC l Zs acc E ++ objC m Zs acc E := List.filterMap_append
theorem keysM_append {l m : List (Nat × Ob)} : keysM (l ++ m) = keysM l ++ keysM m := List.map_append
section
variable {P : Program} {Y : TX} {X : Cx} {K : List Con} {n : Nat} {l0 : List Oper} {ds : List Nat} {R : Type} {r : R} {β : Nat → Nat} {ρ : Nat → Value} {a : Act} {w : World}
theorem datE_ok {B : List En} {M Z : List (Nat × Ob)} (h : Rel X β ρ ⟨B, M ++ Z⟩ a w) : Rel X β ρ ⟨datE M B ++ B, M ++ Z⟩ a w := by
  refine Rel.ofSb h rfl fun e he => ?_
  rcases List.mem_append.1 he with he | he
  · obtain ⟨e0, h0, rfl⟩ := datE_mem he
    obtain ⟨h1, h2⟩ := h.en h0
    refine ⟨fun hc => ?_, h2⟩
    obtain ⟨cs, q1, q2⟩ := h1 hc
    exact ⟨cs, by rw [q1, datA_val], datA_ok (fun id o ho => h.mm id o (lookM_append ho)) q2⟩
  · exact h.en he
theorem regionC_ok (hT : TabOk P Y.T) (hmix : P.follows .mixedOrders = true) (hK : KsX P Y X K) (hX : X.n = n) (hr : X.res = []) (hp : X.pin = none) {S : XS} (h : Rel X β ρ S.flat a w) {p : Nat} {zs zf : List Nat} {ht : HT}
    (hb : drawB l0 p ds = true) (hfx : (ds.all fun d => offF d S.fix) = true) {k : Hn → XS → Option R}
    (hs : dcI Y K n l0 p ds (splitM S.mem zs).2 (splitM S.fixM zf).2 (splitM S.mem zs).1 (splitM S.fixM zf).1 ht S (remEs S.env (ds ++ allBsT ht) ++ S.fix) k = some r) {id : Nat} {Q : Exit → Act → World → Prop}
    (H : ∀ (β' : Nat → Nat) (ρ' : Nat → Value) (S' : XS) (a' : Act) (w' : World) (h' : Hn), k h' S' = some r → Keeps S S' β β' ρ ρ' → Rel X β' ρ' S'.flat a' w' → wpList P ⟨l0⟩ Q (l0.drop p) a' w') : (Code.region id ⟨l0⟩ true).wp P Q a w := by
  have hm := splitM_perm zs S.mem
  have hf := splitM_perm zf S.fixM
  revert hs hm hf
  generalize (splitM S.mem zs).2 = Z1
  generalize (splitM S.mem zs).1 = M1
  generalize (splitM S.fixM zf).2 = Z2
  generalize (splitM S.fixM zf).1 = F1
  intro hs hm hf
  unfold dcI dcR at hs
  have hpm : S.flat.mem.Perm ((Z1 ++ Z2) ++ (M1 ++ F1)) := (hm.symm.append hf.symm).trans (perm4 Z1 M1 Z2 F1)
  have hBm : ∀ e ∈ remEs S.env (ds ++ allBsT ht) ++ S.fix, e ∈ S.flat.env ∧ ∀ d ∈ ds, e.t ≠ d ∧ ∀ c ∈ e.cs, c.1 ≠ d := fun e he => by
    rcases List.mem_append.1 he with he | he
    · obtain ⟨q1, q2⟩ := remEs_mem he
      exact ⟨List.mem_append_left _ q1, fun d hd => (q2 d (List.mem_append_left _ hd)).2⟩
    · exact ⟨List.mem_append_right _ he, fun d hd => offF_rem (List.all_eq_true.1 hfx d hd) e he⟩
  have h1 : Rel X β ρ ⟨remEs S.env (ds ++ allBsT ht) ++ S.fix, (M1 ++ F1) ++ (Z1 ++ Z2)⟩ a w := Rel.permM (Rel.less h fun e he => (hBm e he).1) (hpm.trans List.perm_append_comm)
  have h2 := Rel.permM (datE_ok h1) (List.perm_append_comm (l₁ := M1 ++ F1) (l₂ := Z1 ++ Z2))
  refine openRegion hT hmix hK hX hr hp (prB := idsE (remEs S.env (ds ++ allBsT ht) ++ S.fix) ++ idsM ((Z1 ++ Z2) ++ (M1 ++ F1)) ++ S.prot) (Mb := M1 ++ F1) h2 (fun e he d hd _ => ?_) (fun e he i hi => ?_) (fun i hi => List.mem_append_left _ (List.mem_append_right _ hi)) hb hs
    (fun hh hs0 acc hk => ?_) (fun i hi => List.mem_append_left _ (List.mem_append_left _ hi)) fun β' ρ' a' w' hh hs0 acc hk hno hbT hag hR => ?_
  · rcases List.mem_append.1 he with he | he
    · obtain ⟨e0, q1, rfl⟩ := datE_mem he
      exact (hBm e0 q1).2 d hd
    · exact (hBm e he).2 d hd
  · refine List.mem_append_left _ (List.mem_append_left _ ?_)
    rcases List.mem_append.1 he with he | he
    · obtain ⟨e0, q1, rfl⟩ := datE_mem he
      exact idsE_mem q1 (datA_ids hi)
    · exact idsE_mem he hi
  · have := (bvT hk).1
    simp only [Bool.and_eq_true] at this
    exact this.1
  · obtain ⟨hck, hk⟩ := bvT hk
    simp only [Bool.and_eq_true] at hck
    obtain ⟨hck, hkf⟩ := hck
    have hnd : (keysM (Z1 ++ Z2)).Nodup := by
      unfold chkC at hck
      simp only [Bool.and_eq_true] at hck
      exact (List.nodup_append.1 (nodupN_ok hck.1.1.1.2)).1
    refine H β' ρ' _ a' w' hh hk ⟨rfl, rfl, rfl, fun i hi => hag i (List.mem_append_right _ hi)⟩ ?_
    have e2 : objC (keysM Z2) (Z1 ++ Z2) acc allE = Z2 := by
      unfold objC keysM
      rw [List.filterMap_map]
      refine (filterMap_same (f := some) fun q hq => ?_).trans List.filterMap_some
      have hq2 : q.1 ∈ keysM Z2 := List.mem_map.2 ⟨q, hq, rfl⟩
      have hl := look_nodup hnd q (List.mem_append_right _ hq)
      simp only [Function.comp, hl]
      rw [curC_none fun g hg => hno q.1 (fun hc hm2 hw => apart_ok (List.all_eq_true.1 hkf hc hm2) hw hq2) g hg]
      rfl
    have e1 : objC (keysM (Z1 ++ Z2) ++ allBs hs0) (Z1 ++ Z2) acc allE = (objC (keysM Z1) (Z1 ++ Z2) acc allE ++ Z2) ++ objC (allBs hs0) (Z1 ++ Z2) acc allE := by
      rw [objC_append, keysM_append, objC_append, e2]
    have e3 : objC (keysM Z1 ++ allBs hs0) (Z1 ++ Z2) acc allE = objC (keysM Z1) (Z1 ++ Z2) acc allE ++ objC (allBs hs0) (Z1 ++ Z2) acc allE := objC_append
    rw [e1] at hR
    have hperm : (((objC (keysM Z1) (Z1 ++ Z2) acc allE ++ Z2) ++ objC (allBs hs0) (Z1 ++ Z2) acc allE) ++ (M1 ++ F1)).Perm ((objC (keysM Z1 ++ allBs hs0) (Z1 ++ Z2) acc allE ++ M1) ++ S.fixM) := by
      rw [e3]
      have p1 : ((objC (keysM Z1) (Z1 ++ Z2) acc allE ++ Z2) ++ objC (allBs hs0) (Z1 ++ Z2) acc allE).Perm ((objC (keysM Z1) (Z1 ++ Z2) acc allE ++ objC (allBs hs0) (Z1 ++ Z2) acc allE) ++ Z2) := by
        rw [List.append_assoc, List.append_assoc]
        exact List.Perm.append_left _ List.perm_append_comm
      exact ((p1.append_right _).trans (perm4 _ _ _ _)).trans (List.Perm.append_left _ hf)
    refine Rel.less (Rel.permM hR hperm) fun e he => ?_
    rcases List.mem_append.1 he with he | he
    · rcases List.mem_append.1 he with he | he
      · exact List.mem_append_left _ he
      · exact List.mem_append_right _ (List.mem_append_right _ (List.mem_append_left _ he))
    · exact List.mem_append_right _ (List.mem_append_right _ (List.mem_append_right _ he))
end
end Gx

/- Control. -/
namespace Gx
open Go Go.RowKit Gd
set_option linter.unusedVariables false
set_option linter.unusedSimpArgs false
section
variable {P : Program} {Y : TX} {X : Cx} {S : XS} {β β' : Nat → Nat} {ρ ρ' : Nat → Value} {a a' : Act} {w w' : World} {n N : Nat} {K : List Con}
variable {Q : Exit → Act → World → Prop} {R : Type} {r : R}
def Ex.exit : Ex → Exit
  | .n => .normal
  | .x i => .exit i
  | .r => .ret
theorem Ex.beq_ok {a b : Ex} (h : Ex.beq a b = true) : a = b := by
  cases a <;> cases b <;> simp [Ex.beq] at h <;> first | rfl | (rw [h])
def COk (Q : Exit → Act → World → Prop) (X : Cx) (S0 : XS) (β : Nat → Nat) (ρ : Nat → Value) {R : Type} (k : Ex → XS → Option R) (r : R) : Prop :=
  ∀ (e : Ex) (β' : Nat → Nat) (ρ' : Nat → Value) (S' : XS) (a' : Act) (w' : World), k e S' = some r → Keeps S0 S' β β' ρ ρ' → Rel X β' ρ' S'.flat a' w' → Q e.exit a' w'
theorem COk.after {k : Ex → XS → Option R} (h : COk Q X S β ρ k r) {S1 : XS} {β1 : Nat → Nat} {ρ1 : Nat → Value} (hk : Keeps S S1 β β1 ρ ρ1) : COk Q X S1 β1 ρ1 k r :=
  fun e β' ρ' S' a' w' h1 h2 h3 => h e β' ρ' S' a' w' h1 (hk.trans h2) h3
theorem inj_ok {k : Ex → XS → Option R} (ks ms : List Nat) : ∀ {l : Exs} {e : Ex} {S' : XS} {x : SumT l}, inj l e S' = some x → outS S ks ms k l x = some r →
    S'.fix = (S.ent ks ms).fix ∧ S'.fixM = (S.ent ks ms).fixM ∧ S'.prot = (S.ent ks ms).prot → Rel X β ρ S'.flat a w →
    ∃ β' ρ' S1, k e (S.out ks ms S1) = some r ∧ agP S.prot β β' ρ ρ' ∧ Rel X β' ρ' (S.out ks ms S1).flat a w
  | [q], e, S', x, hi, ho, hk, h => by
    simp only [inj] at hi
    obtain ⟨hb, hd⟩ := bvT hi
    have := Ex.beq_ok hb
    subst this
    obtain ⟨β', ρ', h1, h2⟩ := dec_re (S0 := S.ent ks ms) h hk hd
    rw [← out_flat] at h2
    exact ⟨β', ρ', enc q.2 x, ho, h1, h2⟩
  | q :: q2 :: l, e, S', x, hi, ho, hk, h => by
    simp only [inj] at hi
    cases hb : Ex.beq q.1 e with
    | true =>
      rw [hb] at hi
      have := Ex.beq_ok hb
      subst this
      simp only [cond_true] at hi
      split at hi
      · rename_i y hd
        injection hi with hi; subst hi
        obtain ⟨β', ρ', h1, h2⟩ := dec_re (S0 := S.ent ks ms) h hk hd
        rw [← out_flat] at h2
        exact ⟨β', ρ', enc q.2 y, ho, h1, h2⟩
      · cases hi
    | false =>
      rw [hb] at hi
      simp only [cond_false] at hi
      split at hi
      · rename_i y hd
        injection hi with hi; subst hi
        exact inj_ok ks ms hd ho hk h
      · cases hi
theorem runI_ok (hT : TabOk P Y.T) (hmix : P.follows .mixedOrders = true) (hK : KsX P Y X K) (hX : X.n = n) (hr : X.res = []) (hpin : X.pin = none) : ∀ {R : Type} {r : R} (an : An) {c : Code} {S : XS} {β : Nat → Nat} {ρ : Nat → Value} {a : Act} {w : World} {k : Ex → XS → Option R} {Q : Exit → Act → World → Prop},
    Rel X β ρ S.flat a w → runI Y K n N an c S k = some r → COk Q X S β ρ k r → c.wp P Q a w
  | R, r, .nil, c, S, β, ρ, a, w, k, Q, h, hs, H => by
    cases c <;> simp only [runI] at hs <;> first | (cases hs; done) | skip
    · exact wp_skip (H .n β ρ S a w hs (Keeps.refl _ _ _) h)
    · rename_i id; exact wp_exit (H (.x id) β ρ S a w hs (Keeps.refl _ _ _) h)
    · exact wp_ret (H .r β ρ S a w hs (Keeps.refl _ _ _) h)
  | R, r, .reg hn, c, S, β, ρ, a, w, k, Q, h, hs, H => by
    cases c with
    | region id ops draw =>
      obtain ⟨ops⟩ := ops
      cases draw with
      | true => simp [runI] at hs
      | false =>
        simp only [runI] at hs
        refine wp_region_list ?_
        have := runH_ok hT hK hX hr (Q := Q) hn (l := ops) (rest := []) h hs fun β' ρ' S' a' w' h1 h2 h3 => H .n β' ρ' S' a' w' h1 h2 h3
        simpa using this
    | _ => simp [runI] at hs
  | R, r, .dr m g1 g2, c, S, β, ρ, a, w, k, Q, h, hs, H => by
    cases c with
    | region id ops draw =>
      obtain ⟨ops⟩ := ops
      cases draw with
      | false => simp [runI] at hs
      | true =>
        simp only [runI] at hs
        obtain ⟨hb, hs⟩ := bvT hs
        have hm : P.follows .mixedOrders = true := hmix
        unfold orderB at hb
        have tail : ∀ (β' : Nat → Nat) (ρ' : Nat → Value) (S' : XS) (a' : Act), runH Y K n ops g2 (ops.drop m) S' (k .n) = some r → Keeps S S' β β' ρ ρ' → Rel X β' ρ' S'.flat a' { w with drawn := w.drawn + 1 } → wpList P ⟨ops⟩ Q (ops.drop m) a' { w with drawn := w.drawn + 1 } := by
          intro β' ρ' S' a' h1 h2 h3
          have := runH_ok hT hK hX hr (Q := Q) g2 (l := ops.drop m) (rest := []) h3 h1 fun β2 ρ2 S2 a2 w2 q1 q2 q3 => H .n β2 ρ2 S2 a2 w2 q1 (h2.trans q2) q3
          simpa using this
        cases hlt : Nat.blt m ops.length with
        | true =>
          rw [hlt] at hb
          refine wp_region_still_tail m hm hb ?_
          have := runT_ok hT hX hr (w := { w with drawn := w.drawn + 1 }) (Qs := fun a' => wpList P ⟨ops⟩ Q (ops.drop m) a' { w with drawn := w.drawn + 1 }) g1 (l := ops.take m) (rest := []) h.drew hs fun β' ρ' S' a' h1 h2 h3 => tail β' ρ' S' a' h1 h2 h3
          simpa using this
        | false =>
          rw [hlt] at hb
          simp only [cond_false, Bool.and_eq_true] at hb
          have hm2 := Nat.eq_of_beq_eq_true hb.1
          refine wp_region_still_lit hm hb.2 ?_
          have := runT_ok hT hX hr (w := { w with drawn := w.drawn + 1 }) (Qs := fun a' => wpList P ⟨ops⟩ Q (ops.drop m) a' { w with drawn := w.drawn + 1 }) g1 (l := ops.take m) (rest := []) h.drew hs fun β' ρ' S' a' h1 h2 h3 => tail β' ρ' S' a' h1 h2 h3
          rw [hm2] at this
          simp only [List.take_length, List.append_nil, List.drop_length] at this
          exact this
    | _ => simp [runI] at hs
  | R, r, .dm p ds zs g2, c, S, β, ρ, a, w, k, Q, h, hs, H => by
    cases c with
    | region id ops draw =>
      obtain ⟨ops⟩ := ops
      cases draw with
      | false => simp [runI] at hs
      | true =>
        simp only [runI] at hs
        obtain ⟨hb, hs⟩ := bvT hs
        simp only [Bool.and_eq_true] at hb
        have hC : Rel X β ρ ⟨XS.flat { S with mem := (splitM S.mem zs).1 } |>.env, (splitM S.mem zs).2 ++ (XS.flat { S with mem := (splitM S.mem zs).1 }).mem⟩ a w := by
          have hpm : (S.mem ++ S.fixM).Perm ((splitM S.mem zs).2 ++ ((splitM S.mem zs).1 ++ S.fixM)) := by
            rw [← List.append_assoc]
            exact ((splitM_perm zs S.mem).append_right S.fixM).symm
          exact Rel.permM (env := S.flat.env) (m := S.flat.mem) h hpm
        refine regionD_ok hT hK.1 hK.2 hmix hX hr hpin hb.1.2 hb.2 hC hb.1.1 hs fun β' ρ' a' w' acc h' h1 h2 h3 => ?_
        have hk0 : Keeps S { S with mem := (splitM S.mem zs).1 } β β ρ ρ := ⟨rfl, rfl, rfl, agP.refl _ _ _⟩
        have := runH_ok hT hK hX hr (Q := Q) h' (l := ops.drop p) (rest := []) h3 h1 fun β2 ρ2 S2 a2 w2 q1 q2 q3 => H .n β2 ρ2 S2 a2 w2 q1 ((hk0.trans h2).trans q2) q3
        simpa using this
    | _ => simp [runI] at hs
  | R, r, .dc p ds zs zf ht, c, S, β, ρ, a, w, k, Q, h, hs, H => by
    cases c with
    | region id ops draw =>
      obtain ⟨ops⟩ := ops
      cases draw with
      | false => simp [runI] at hs
      | true =>
        simp only [runI] at hs
        obtain ⟨hb, hs⟩ := bvT hs
        simp only [Bool.and_eq_true] at hb
        refine regionC_ok hT hmix hK hX hr hpin h hb.1 hb.2 hs fun β' ρ' S' a' w' h' h1 h2 h3 => ?_
        have := runH_ok hT hK hX hr (Q := Q) h' (l := ops.drop p) (rest := []) h3 h1 fun β2 ρ2 S2 a2 w2 q1 q2 q3 => H .n β2 ρ2 S2 a2 w2 q1 (h2.trans q2) q3
        simpa using this
    | _ => simp [runI] at hs
  | R, r, .ch t i x y, c, S, β, ρ, a, w, k, Q, h, hs, H => by
    simp only [runI] at hs
    cases hb : isLitE S t i with
    | true => rw [hb] at hs; exact runI_ok hT hmix hK hX hr hpin x h hs H
    | false => rw [hb] at hs; exact runI_ok hT hmix hK hX hr hpin y h hs H
  | R, r, .gh g x, c, S, β, ρ, a, w, k, Q, h, hs, H => by
    simp only [runI] at hs
    obtain ⟨S1, ρ1, q1, q2, q3⟩ := runG_ok g h hs
    exact runI_ok hT hmix hK hX hr hpin x q3 q1 (H.after q2)
  | R, r, .two x y, c, S, β, ρ, a, w, k, Q, h, hs, H => by
    cases c <;> simp only [runI] at hs <;> first | (cases hs; done) | skip
    · rename_i c1 c2
      refine wp_seq (runI_ok hT hmix hK hX hr hpin x h hs fun e β' ρ' S' a' w' h1 h2 h3 => ?_)
      cases e with
      | n => exact runI_ok hT hmix hK hX hr hpin y h3 h1 (H.after h2)
      | x i => exact H (.x i) β' ρ' S' a' w' h1 h2 h3
      | r => exact H .r β' ρ' S' a' w' h1 h2 h3
    · rename_i co c1 c2
      split at hs
      · rename_i v hv
        obtain ⟨cs, h1, h2⟩ := h.ev (holdsC_nil a) hv
        have h2' : cs = _ := h2
        subst h2'
        have h1' : a.eval co = .bool v := h1
        refine wp_cond_split h1' (fun hv => ?_) (fun hv => ?_)
        · rw [if_pos hv] at hs
          exact runI_ok hT hmix hK hX hr hpin x h hs H
        · rw [if_neg (by rw [hv]; simp)] at hs
          exact runI_ok hT hmix hK hX hr hpin y h hs H
      · cases hs
  | R, r, .un x, c, S, β, ρ, a, w, k, Q, h, hs, H => by
    cases c <;> simp only [runI] at hs <;> first | (cases hs; done) | skip
    rename_i id c1
    refine wp_block (runI_ok hT hmix hK hX hr hpin x h hs fun e β' ρ' S' a' w' h1 h2 h3 => ?_)
    cases e with
    | n => exact H .n β' ρ' S' a' w' h1 h2 h3
    | x i =>
      simp only at h1
      show if i = id then Q .normal a' w' else Q (.exit i) a' w'
      cases hb : Nat.beq i id with
      | true =>
        rw [hb] at h1
        rw [if_pos (Nat.eq_of_beq_eq_true hb)]
        exact H .n β' ρ' S' a' w' h1 h2 h3
      | false =>
        rw [hb] at h1
        rw [if_neg (fun e => by rw [e, Nat.beq_refl] at hb; cases hb)]
        exact H (.x i) β' ρ' S' a' w' h1 h2 h3
    | r => exact H .r β' ρ' S' a' w' h1 h2 h3
  | R, r, .jn ks ms exs x, c, S, β, ρ, a, w, k, Q, h, hs, H => by
    simp only [runI] at hs
    obtain ⟨z, hz, ho⟩ := bindE hs
    refine runI_ok hT hmix hK hX hr hpin x (h.ent ks ms) hz fun e β' ρ' S' a' w' h1 h2 h3 => ?_
    obtain ⟨β2, ρ2, S1, h4, h5, h6⟩ := inj_ok ks ms h1 ho ⟨h2.fix, h2.fixM, h2.prot⟩ h3
    refine H e β2 ρ2 _ a' w' h4 ⟨rfl, rfl, rfl, ?_⟩ h6
    exact agP.trans h2.ag h5
  | R, r, .lp ks ms Γ exs x, c, S, β, ρ, a, w, k, Q, h, hs, H => by
    cases c <;> simp only [runI] at hs <;> first | (cases hs; done) | skip
    rename_i c1
    split at hs
    · rename_i s0 hs0
      obtain ⟨z, hz, ho⟩ := bindE hs
      obtain ⟨β1, ρ1, h1, h2⟩ := dec_re (S0 := S.ent ks ms) (h.ent ks ms) ⟨rfl, rfl, rfl⟩ hs0
      refine wp_loop_fuel (fun m a w => ∃ s β' ρ', agP S.prot β β' ρ ρ' ∧ Rel X β' ρ' ((S.ent ks ms).re (enc Γ s)).flat a w ∧ loopN _ m s = some z) N ⟨s0, β1, ρ1, h1, h2, hz⟩ ?_
      rintro m a1 w1 ⟨s, β', ρ', h3, h4, h5⟩
      cases m with
      | zero => simp [loopN] at h5
      | succ m =>
        simp only [loopN] at h5
        obtain ⟨q, hq, h5⟩ := bindE h5
        refine runI_ok hT hmix hK hX hr hpin x h4 hq fun e β2 ρ2 S' a' w' h6 h7 h8 => ?_
        cases e with
        | n =>
          simp only at h6
          split at h6
          · rename_i s' hd
            injection h6 with h6; subst h6
            obtain ⟨β3, ρ3, h9, h10⟩ := dec_re (S0 := S.ent ks ms) h8 ⟨h7.fix, h7.fixM, h7.prot⟩ hd
            exact ⟨m, Nat.lt_succ_self m, s', β3, ρ3, (h3.trans h7.ag).trans h9, h10, h5⟩
          · cases h6
        | x i =>
          simp only at h6
          split at h6
          · rename_i s' hd
            injection h6 with h6; subst h6
            injection h5 with h5; subst h5
            obtain ⟨β3, ρ3, S1, h9, h10, h11⟩ := inj_ok ks ms hd ho ⟨h7.fix, h7.fixM, h7.prot⟩ h8
            exact H (.x i) β3 ρ3 _ a' w' h9 ⟨rfl, rfl, rfl, (h3.trans h7.ag).trans h10⟩ h11
          · cases h6
        | r =>
          simp only at h6
          split at h6
          · rename_i s' hd
            injection h6 with h6; subst h6
            injection h5 with h5; subst h5
            obtain ⟨β3, ρ3, S1, h9, h10, h11⟩ := inj_ok ks ms hd ho ⟨h7.fix, h7.fixM, h7.prot⟩ h8
            exact H .r β3 ρ3 _ a' w' h9 ⟨rfl, rfl, rfl, (h3.trans h7.ag).trans h10⟩ h11
          · cases h6
    · cases hs
theorem asAddr_some (p : Addr) : (asAddr (.pointer (some p)) : Sem Addr) = pure p := rfl
theorem resE_ok (hT : TabOk P Y.T) (h : Rel X β ρ S.flat a w) : ∀ {rs : List ResultVar} {i : Nat} {es : List En} (pre : List Value), pre.length = i → resE Y S rs i = some es →
    ∃ vs : List Value, vs.length = rs.length ∧ es.length = rs.length ∧ Sem.run P (rs.mapM fun r => match r with | .tmp t => (pure (a.tmps.getD t undef) : Sem Value) | .cell ad t => do loadVar t (← asAddr (a.tmps.getD ad undef))) w = .ok vs w ∧
      ∀ e ∈ es, (enD β ρ ⟨(pre ++ vs).toArray, []⟩ e).p (okR X β ρ S.flat.mem w) w
  | [], i, es, pre, _, he => by simp [resE] at he; subst he; exact ⟨[], rfl, rfl, rfl, by simp⟩
  | .tmp t :: rs, i, es, pre, hi, he => by
    simp only [resE] at he
    split at he
    · rename_i v r hv hr
      obtain ⟨hbi, he⟩ := bvT he
      simp at he; subst he
      obtain ⟨cs, h1, h2⟩ := h.ev (holdsC_nil a) hv
      obtain ⟨vs, h3, h4, h5, h6⟩ := resE_ok hT h (rs := rs) (i := i + 1) (pre ++ [a.tmps.getD t undef]) (by simp [hi]) hr
      refine ⟨a.tmps.getD t undef :: vs, by simp [h3], by simp [h4], ?_, fun e hm => ?_⟩
      · rw [List.mapM_cons]
        simp only [pure_bind, Sem.run_bind, h5]
        rfl
      · exact resCons hi hbi (h1 ▸ rfl) h2 h6 e hm
    · cases he
  | .cell ad t :: rs, i, es, pre, hi, he => by
    simp only [resE] at he
    split at he
    · rename_i v r hv hr
      obtain ⟨hbi, he⟩ := bvT he
      simp at he; subst he
      obtain ⟨cs, h1, h2⟩ := evalP_ok (P := P) (o := ⟨none, .load t (.tmp ad), 0, "", #[], none⟩) hT h.toW (holdsC_nil a) hv
      obtain ⟨vs, h3, h4, h5, h6⟩ := resE_ok hT h (rs := rs) (i := i + 1) (pre ++ [v.val cs]) (by simp [hi]) hr
      have hp : ∃ p, a.tmps.getD ad undef = .pointer (some p) := by
        simp only [evalP] at hv
        split at hv
        · rename_i id path he' hx
          obtain ⟨cs1, q1, q2⟩ := h.ev (holdsC_nil a) hx
          have q2' : cs1 = _ := q2
          subst q2'
          exact ⟨_, q1⟩
        · rename_i t' y he' hx
          obtain ⟨cs1, q1, v0, q2, b, o, _, q3, _⟩ := h.ev (holdsC_nil a) hx
          subst q2; subst q3
          exact ⟨_, q1⟩
        · cases hv
      obtain ⟨p, hp⟩ := hp
      have hl : (loadVar t p).run P w = .ok (v.val cs) w := by
        have h1' := h1
        unfold execOp at h1'
        have hp' : a.eval (.tmp ad) = .pointer (some p) := hp
        simp only [hp', Instr.loadAt, Instr.sureAddr, Sem.run_bind, Sem.run_pure, Result.andThen_ok] at h1'
        cases hr : (loadVar t p).run P w with
        | ok v1 w1 =>
          rw [hr] at h1'
          simp at h1'
          rw [h1'.1, h1'.2]
        | _ => rw [hr] at h1'; simp [Result.andThen] at h1'
      refine ⟨v.val cs :: vs, by simp [h3], by simp [h4], ?_, fun e hm => ?_⟩
      · rw [List.mapM_cons]
        simp only [hp, asAddr_some, pure_bind, Sem.run_bind, hl, Result.andThen_ok, h5]
        rfl
      · exact resCons hi hbi rfl h2 h6 e hm
    · cases he
where
  resCons {i : Nat} {pre vs : List Value} {v0 : Value} {v : AV} {cs : List Value} {r : List En} (hi : pre.length = i) (hbi : Nat.blt i 100000 = true) (hv : v0 = v.val cs) (h2 : cr β ρ (okR X β ρ S.flat.mem w) w false v cs)
      (h6 : ∀ e ∈ r, (enD β ρ ⟨(pre ++ [v0] ++ vs).toArray, []⟩ e).p (okR X β ρ S.flat.mem w) w) : ∀ e ∈ (⟨i, [], v⟩ :: r : List En), (enD β ρ ⟨(pre ++ v0 :: vs).toArray, []⟩ e).p (okR X β ρ S.flat.mem w) w := by
    intro e hm
    have hl : pre ++ [v0] ++ vs = pre ++ (v0 :: vs) := by simp
    rw [hl] at h6
    rcases List.mem_cons.1 hm with rfl | hm
    · refine ⟨fun _ => ⟨cs, ?_, h2⟩, .inl (holdsC_nil _)⟩
      rw [rd_lt hbi]
      simp only [List.getElem?_toArray]
      rw [List.getElem?_append_right (by omega), ← hi]
      simp only [Nat.sub_self, List.getElem?_cons_zero]
      exact congrArg some hv
    · exact h6 e hm
theorem keysUp_ok : ∀ {l : List (Nat × Sk)} {i : Nat} {vs : List DV}, keysUp l i = true → ∀ (j : Nat) e, (encEnv l vs).1[j]? = some e → e.t = i + j ∧ e.cs = []
  | [], i, vs, _, j, e, h => by simp [encEnv] at h
  | (t, s) :: l, i, vs, hk, j, e, h => by
    simp only [keysUp, Bool.and_eq_true] at hk
    simp only [encEnv] at h
    cases j with
    | zero =>
      simp at h; subst h
      exact ⟨Nat.eq_of_beq_eq_true hk.1, rfl⟩
    | succ j =>
      obtain ⟨h1, h2⟩ := keysUp_ok hk.2 j e (by simpa using h)
      exact ⟨by omega, h2⟩
theorem encEnv_len : ∀ {l : List (Nat × Sk)} {vs : List DV}, (encEnv l vs).1.length = l.length
  | [], vs => rfl
  | (t, s) :: l, vs => by simp only [encEnv, List.length_cons, encEnv_len]
theorem globE_ok {gl : List (Nat × Σ t : Ty, t.De)} {ok ok' : Ok} {w : World} {β : Nat → Nat} {ρ : Nat → Value} {a : Act} (h : GlobOk gl ok w) (hk : ∀ b o, ok b o → ok' b o) : ∀ e ∈ globE gl, (enD β ρ a e).p ok' w := by
  intro e he
  obtain ⟨q, hq, rfl⟩ := List.mem_map.1 he
  refine ⟨fun _ => ⟨[.pointer (some ⟨q.1, 0, none⟩)], rd_var a q.1, _, rfl, (h q hq).1.weak hk⟩, .inl (holdsC_nil a)⟩
theorem conNone {P : Program} {gl : List (Nat × Σ t : Ty, t.De)} {c : Con} (h : ∀ x, c.fn x = none) : ConOk P gl c := fun ok w L β ρ x y vs _ _ _ _ _ hy => by rw [h] at hy; cases hy
def S00 (Y : TX) (c : Con) (x : c.Γ.De) : XS := ⟨(enc c.Γ x).env, globE Y.gl, (enc c.Γ x).mem, [], c.Γ.mem.map Prod.fst⟩
def kFin (Y : TX) (fn : Func) (c : Con) : Ex → XS → Option c.Δ.De := fun e S => match e with
  | .x _ => none
  | .n => fin Y fn c.Δ S
  | .r => fin Y fn c.Δ S
theorem body_ok (hT : TabOk P Y.T) {f : FuncId} {fn : Func} (hf : P.funcs[f]? = some fn) {c : Con} (hcf : c.f = f) {code : Code} (hb : fn.body = some code) (hble : Nat.ble c.Γ.env.length fn.ntmps = true) (hku : keysUp c.Γ.env 0 = true) (hks : Nat.blt c.Γ.env.length 100000 = true)
    (hway : ∀ (x : c.Γ.De) (y : c.Δ.De) (X : Cx) (β : Nat → Nat) (ρ : Nat → Value) (a : Act) (w : World) (Q : Exit → Act → World → Prop), c.fn x = some y → GlobOk Y.gl (okN X) X.w → X.n = fn.ntmps → X.res = [] → X.pin = none → Rel X β ρ (S00 Y c x).flat a w → COk Q X (S00 Y c x) β ρ (kFin Y fn c) y → code.wp P Q a w) : ConOk P Y.gl c := by
  intro ok w L β ρ x y vs hok hG hlen hL hargs hy
  rw [hcf]
  refine enter_okL (n := fn.ntmps) (L := L) (O := memO β ρ (enc c.Γ x).mem) (D := []) hok hf hb rfl (by rw [hlen]; exact hble) trivial hL fun a h0 => ?_
  have hk0 : ∀ b o, ok b o → okR (cxL L fn.ntmps ok w) β ρ (enc c.Γ x).mem w b o := fun b o hbo => ⟨.inl (.inl hbo), hok b o hbo, by simp, fun t ht hc => (hL.1 t ht).2.2 b o (t.cb hc) hbo⟩
  have hR : Rel (cxL L fn.ntmps ok w) β ρ (XS.flat ⟨(enc c.Γ x).env, globE Y.gl, (enc c.Γ x).mem, [], c.Γ.mem.map Prod.fst⟩) a w := by
    have e : XS.flat ⟨(enc c.Γ x).env, globE Y.gl, (enc c.Γ x).mem, [], c.Γ.mem.map Prod.fst⟩ = ⟨(enc c.Γ x).env ++ globE Y.gl, (enc c.Γ x).mem⟩ := by simp [XS.flat]
    rw [e]
    refine Rel.ofSb h0 rfl fun e he => ?_
    rcases List.mem_append.1 he with he | he
    case inr => exact globE_ok hG hk0 e he
    obtain ⟨cs, h1, h2⟩ := hargs e he
    have hcs : e.cs = [] := by
      unfold enc at he
      split at he
      rename_i es r hes
      exact encEnv_cs (Γe := c.Γ.env) e (by rw [hes]; exact he)
    refine ⟨fun _ => ⟨cs, ?_, cr_weak h2 hk0⟩, .inl (by rw [hcs]; exact holdsC_nil a)⟩
    have hz : ∀ {us : List Value} {i j : Nat} {v : Value}, us[j]? = some v → (i + j, Gd.AV.v v) ∈ zipG us i := by
      intro us
      induction us with
      | nil => intro i j v h; simp at h
      | cons u us ih =>
        intro i j v h
        cases j with
        | zero => simp at h; subst h; exact .head _
        | succ j =>
          have := ih (i := i + 1) (j := j) (v := v) (by simpa using h)
          rw [show i + (j + 1) = i + 1 + j by omega]
          exact .tail _ this
    have hsm : Nat.blt e.t 100000 = true := by
      obtain ⟨j, hj⟩ := List.getElem?_of_mem he
      have hk2 : e.t = 0 + j := by
        unfold enc at hj
        split at hj
        rename_i es0 r0 hes0
        exact (keysUp_ok (vs := toL c.Γ.tys x) hku j e (by rw [hes0]; exact hj)).1
      have hjl : j < c.Γ.env.length := by
        have h4 := (List.getElem?_eq_some_iff.1 hj).1
        unfold enc at h4
        have h5 := encEnv_len (l := c.Γ.env) (vs := toL c.Γ.tys x)
        split at h4
        rename_i es0 r0 hes0
        rw [hes0] at h5
        simp only at h4 h5
        omega
      have := Nat.le_of_ble_eq_true hks
      rw [hk2]
      exact Nat.ble_eq_true_of_le (by omega)
    have := h0.tm _ (hz (i := 0) h1)
    rw [rd_lt hsm]
    simpa [den_v] using this
  refine hway x y _ β ρ a w _ hy (hG.weak fun b o hbo => ⟨.inl hbo, fun hbl => hL.2.2 b hbl |>.elim fun t ht => (hL.1 t ht.1).2.2 b o ht.2 hbo, hok b o hbo⟩) rfl rfl rfl hR fun e β' ρ' S' a' w' h1 h2 h3 => ?_
  have key : fin Y fn c.Δ S' = some y → bodyPost P fn (RetL L w (PostC c β ρ ok L w y)) .ret a' w' := by
    intro hfin
    unfold fin at hfin
    split at hfin
    · rename_i es hes
      obtain ⟨hkb, hd⟩ := bvT hfin
      simp only [Bool.and_eq_true] at hkb
      have hksm := Nat.le_of_ble_eq_true hkb.2
      replace hkb := hkb.1
      have hel := Nat.eq_of_beq_eq_true hkb.2
      obtain ⟨rv, r1, r2, r3, r4⟩ := resE_ok hT h3 [] rfl hes
      simp only [List.nil_append] at r4
      have hRes : Rel { cxL L fn.ntmps ok w with n := rv.length } β' ρ' (XS.flat ⟨es, [], S'.mem, S'.fixM, S'.prot⟩) ⟨rv.toArray, []⟩ w' := by
        have e : XS.flat ⟨es, [], S'.mem, S'.fixM, S'.prot⟩ = ⟨es, S'.flat.mem⟩ := by simp [XS.flat]
        rw [e]
        have hSb : Sb (fun _ => 0) { cxL L fn.ntmps ok w with n := rv.length } [] [] [] (memO β' ρ' S'.flat.mem) ⟨rv.toArray, []⟩ w' :=
          { sz := by simp, df := rfl, fr := by simp, pn := by simp, tm := by simp, bel := h3.bel, dat := trivial, obj := by simp, own := h3.own, dHH := by simp, dHO := by simp, dOO := h3.dOO }
        exact Rel.ofSb hSb rfl fun e he => r4 e he
      obtain ⟨β2, ρ2, h4, h5⟩ := XS.dec_ok hRes hd
      have hfm : S'.fixM = [] := h2.fixM
      have hpr : S'.prot = c.Γ.mem.map Prod.fst := h2.prot
      rw [hfm] at h5
      simp only [List.append_nil] at h5
      have hfacts : ∀ (j : Nat) e, (enc c.Δ y).env[j]? = some e → ∃ cs, rv[j]? = some (e.av.val cs) ∧ cr β2 ρ2 (okOf (okL L ok) w.heap.size (fun _ => 0) [] (memO β2 ρ2 (enc c.Δ y).mem) w') w' false e.av cs := by
        intro j e he
        have hk2 : e.t = 0 + j ∧ e.cs = [] := by
          unfold enc at he
          split at he
          rename_i es0 r0 hes0
          exact keysUp_ok (vs := toL c.Δ.tys y) hkb.1 j e (by rw [hes0]; exact he)
        have hen := h5.en (List.mem_of_getElem? he)
        obtain ⟨cs, q1, q2⟩ := hen.1 (by rw [hk2.2]; exact holdsC_nil _)
        rw [hk2.1, Nat.zero_add] at q1
        have hjl : j < c.Δ.env.length := by
          have h4 := (List.getElem?_eq_some_iff.1 he).1
          unfold enc at h4
          have h5 := encEnv_len (l := c.Δ.env) (vs := toL c.Δ.tys y)
          split at h4
          rename_i es0 r0 hes0
          rw [hes0] at h5
          simp only at h4 h5
          omega
        rw [rd_lt (Nat.ble_eq_true_of_le (by omega))] at q1
        exact ⟨cs, by simpa using q1, q2⟩
      have hlenE : (enc c.Δ y).env.length = rv.length := by
        have : (enc c.Δ y).env.length = c.Δ.env.length := by
          unfold enc
          have := encEnv_len (l := c.Δ.env) (vs := toL c.Δ.tys y)
          split
          rename_i es0 r0 hes0
          rw [hes0] at this
          exact this
        omega
      have hres : (results fn a'.tmps).run P w' = .ok (if h : rv.toArray.size = 1 then rv.toArray[0] else .tuple rv.toArray) w' := by
        unfold results
        rw [Array.mapM_eq_mapM_toList]
        simp only [Sem.run_bind, Sem.run_map, bind_pure_comp]
        exact congrArg (fun z : Result (List Value) => (z.andThen fun a w' => Result.ok a.toArray w').andThen fun a w' => Result.ok (if h : a.size = 1 then a[0] else Value.tuple a) w') r3
      refine ⟨h3.df, _, hres, _, rfl, ⟨β2, ρ2, ?_, ?_, ?_, ?_⟩, h3.bel⟩
      · exact agP.trans h2.ag (by rw [← hpr]; exact h4)
      · by_cases hl1 : rv.length = 1
        · obtain ⟨e0, he0⟩ := List.length_eq_one_iff.1 (hlenE.trans hl1)
          obtain ⟨cs, q1, q2⟩ := hfacts 0 e0 (by rw [he0]; rfl)
          have hra : resAV (enc c.Δ y).env = e0.av := by rw [he0]; rfl
          rw [hra]
          refine ⟨cs, ?_, q2⟩
          rw [dif_pos (by simpa using hl1)]
          have hlt : 0 < rv.length := by omega
          rw [List.getElem?_eq_getElem hlt] at q1
          exact Option.some.inj q1
        · have hra : resAV (enc c.Δ y).env = .tp (valsE (enc c.Δ y).env) := by
            unfold resAV
            split
            · rename_i e0 he0
              exact absurd (by rw [← hlenE, he0]; rfl) hl1
            · rfl
          rw [hra]
          refine ⟨[.tuple rv.toArray], ?_, rv, rfl, ?_⟩
          · rw [dif_neg (by simpa using hl1)]; rfl
          · exact valsE_ok (i := 0) hfacts hlenE.symm
      · exact fun t ht => h5.own t ht
      · exact h5.dOO
    · cases hfin
  cases e with
  | n => exact key h1
  | x i => cases h1
  | r => exact key h1
theorem runF_ok (hT : TabOk P Y.T) (hmix : P.follows .mixedOrders = true) (hK : KsOk P Y.gl K) {f : FuncId} {fn : Func} (hf : P.funcs[f]? = some fn) {an : An} {c : Con} (hcf : c.f = f) (hrun : ∀ x, c.fn x = runF Y K N fn an c.Γ c.Δ x) : ConOk P Y.gl c := by
  cases hb : fn.body with
  | none =>
    refine conNone fun x => ?_
    rw [hrun]
    unfold runF
    rw [hb]
  | some code =>
    by_cases hc : (Nat.ble c.Γ.env.length fn.ntmps && (keysUp c.Γ.env 0 && Nat.blt c.Γ.env.length 100000)) = true
    · have hc' := hc
      simp only [Bool.and_eq_true] at hc'
      refine body_ok hT hf hcf hb hc'.1 hc'.2.1 hc'.2.2 fun x y X β ρ a w Q hy hG hX hr hp hR H => ?_
      rw [hrun] at hy
      unfold runF at hy
      rw [hb, hc] at hy
      exact runI_ok hT hmix ⟨hK, hG⟩ hX hr hp an hR hy H
    · refine conNone fun x => ?_
      rw [hrun]
      unfold runF
      rw [hb]
      simp only
      rw [show (Nat.ble c.Γ.env.length fn.ntmps && (keysUp c.Γ.env 0 && Nat.blt c.Γ.env.length 100000)) = false from Bool.eq_false_iff.2 hc]
      rfl
end
end Gx
namespace Gx
open Go
theorem ksNil {P : Program} {gl : List (Nat × Σ t : Ty, t.De)} : KsOk P gl [] := fun _ h => by cases h
theorem ksCons {P : Program} {c : Con} {gl : List (Nat × Σ t : Ty, t.De)} {K : List Con} (h : ConOk P gl c) (hr : Gd.Runs P c.f) (hk : KsOk P gl K) : KsOk P gl (c :: K) := fun d hd => by
  rcases List.mem_cons.1 hd with rfl | hd
  · exact ⟨h, hr⟩
  · exact hk d hd
end Gx

/- From a statement's arguments to data, and back to the statement. -/
namespace Gx
open Go Go.RowKit Gd Go.WideShapes Go.ChangeShapes
set_option linter.unusedVariables false
set_option linter.unusedSimpArgs false
def gd : (t : Ty) → t.De → Prop
  | .int k, x => goodI k x
  | .bool, _ => True
  | .str, x => goodS x
  | .sl e, x => goodL (gd e) x
  | .arr _ e, x => ∀ y ∈ x, gd e y
  | .unit, _ => True
  | .pr f r, x => gd f x.1 ∧ gd r x.2
  | .st fs, x => gd fs x
  | .ref, _ => True
  | .rose _, _ => True
abbrev OpensT (P : Program) (t : TypeId) (ty : Ty) : Prop := Opens P (rt ty) t (gd ty)
section
variable {P : Program}
theorem openT_int {t : TypeId} {k : IntKind} (ht : P.underlying t = some (.int k)) (hc : P.cellsOf t = 1) : OpensT P t (.int k) := opens_int ht hc
theorem openT_str {t : TypeId} (ht : P.underlying t = some .string) (hc : P.cellsOf t = 1) : OpensT P t .str := opens_str ht hc
theorem openT_sl {t e : TypeId} {ty : Ty} (ht : P.underlying t = some (.slice e)) (hc : P.cellsOf t = 1) (he : OpensT P e ty) (hpos : Nat.ble 1 ty.size = true) : OpensT P t (.sl ty) :=
  opens_sl ht hc he (by rw [rt_size]; exact Nat.le_of_ble_eq_true hpos)
inductive OpenF (P : Program) (ff : Array Field) : Ty → Nat → Nat → Prop
  | last {ty : Ty} {i off t : Nat} {f : Field} (ho : OpensT P t ty) (hi : ff[i]? = some f) (ht : f.type = t) (hoff : f.offset = off) : OpenF P ff ty i off
  | pr {ty r : Ty} {i off t : Nat} {f : Field} (ho : OpensT P t ty) (hi : ff[i]? = some f) (ht : f.type = t) (hoff : f.offset = off) (hr : OpenF P ff r (i + 1) (off + ty.size)) : OpenF P ff (.pr ty r) i off
theorem openF_rep {ff : Array Field} {H : Type} {enc : TypeId × Value → H} {w : World} {n : Nat} {cs : List Value} {xs : List (DataW H × List MemPlace)}
    (hlen : xs.length = ff.size) (hf : ∀ (i : Nat) (f : Field), ff[i]? = some f → DataW.trod enc P w 0 (fun _ => true) true n f.type ((cs.drop f.offset).take (P.cellsOf f.type)) = xs[i]?) :
    ∀ {ty : Ty} {i off : Nat}, OpenF P ff ty i off → cs.length = off + ty.size → ∃ y, (rt ty).rep (lt w) w y (cs.drop off) ∧ gd ty y := by
  intro ty i off h
  induction h with
  | last ho hi ht hoff =>
    intro hl
    obtain ⟨y, h1, h2⟩ := Opens.fld ho hlen hf _ _ hi ht hoff
    rw [List.take_of_length_le (by simp; rw [rt_size]; omega)] at h1
    exact ⟨y, h1, h2⟩
  | pr ho hi ht hoff hr ih =>
    intro hl
    rename_i ty r i off t f
    obtain ⟨y, h1, h2⟩ := Opens.fld ho hlen hf _ _ hi ht hoff
    have hl' : cs.length = off + ty.size + r.size := by
      have : (Ty.pr ty r).size = ty.size + r.size := rfl
      omega
    obtain ⟨z, h3, h4⟩ := ih hl'
    refine ⟨(y, z), ⟨_, cs.drop (off + ty.size), ?_, h1, h3⟩, h2, h4⟩
    rw [rt_size, ← List.drop_drop]
    exact (List.take_append_drop _ _).symm
theorem openT_st {t : TypeId} {fs : Ty} {ff : Array Field} (ht : P.underlying t = some (.struct ff)) (hc : P.cellsOf t = fs.size) (ho : OpenF P ff fs 0 0) : OpensT P t (.st fs) := by
  refine ⟨by rw [hc, rt_size]; rfl, fun hv => ⟨fun _ => ?_, fun h => nomatch h⟩, fun enc w n cs x h => ?_⟩
  · obtain ⟨c, rfl, _⟩ := okWide_struct ht hv; exact ⟨_, rfl⟩
  · obtain ⟨xs, m, _, _, hl, hlen, hf⟩ := DataW.trod_struct ht h
    obtain ⟨y, h1, h2⟩ := openF_rep hlen hf ho (by rw [hl, hc]; simp)
    exact ⟨y, by simpa [rt, rAgg] using h1, h2⟩
theorem lends_nil {ok : Ok} {w : World} {β : Nat → Nat} {ρ : Nat → Value} : Lends (memO β ρ []) [] ok w := ⟨by simp [memO], .nil, by simp⟩
section
variable {β : Nat → Nat} {ρ : Nat → Value} {ok : Ok} {w : World}
theorem args1 {t0 : Ty} {x0 : t0.De} {v0 : Value} (h0 : isV (rt t0) ok w x0 v0) :
    ∀ e ∈ [(⟨0, [], .d t0 x0⟩ : En)], ∃ cs, [v0][e.t]? = some (e.av.val cs) ∧ cr β ρ ok w false e.av cs := by
  intro e he
  obtain ⟨c0, p0, q0⟩ := cr_of_isV (β := β) (ρ := ρ) h0
  rcases List.mem_cons.1 he with rfl | he
  · exact ⟨c0, by rw [q0]; rfl, p0⟩
  · cases he
theorem post_true {c : Con} {y : c.Δ.De} {f : FuncId} {args : Array Value} (h : Calls P f args w (RetL [] w (PostC c β ρ ok [] w y))) (hy : resAV (enc c.Δ y).env = .d .bool true) : Calls P f args w (Ret w (R1 rBool ok w true)) := by
  refine h.mono ?_
  rintro e w' ⟨v, rfl, ⟨β', ρ', _, ⟨cs, h1, h2⟩, _⟩, hb⟩
  refine ⟨v, rfl, ?_, hb⟩
  rw [hy] at h1 h2
  have h2' : cs = [.bool true] := h2
  subst h2'
  exact isV_bool.2 h1
end
end
end Gx

/- Functions of the library, by the kit's contracts; the package-level variables that a statement lists. -/
namespace Gx
open Go Go.RowKit Go.Lib Go.Sort Gd
set_option linter.unusedVariables false
set_option linter.unusedSimpArgs false
set_option linter.constructorNameAsVariable false
section
variable {P : Program} {gl : List (Nat × Σ t : Ty, t.De)}
end
end Gx

/- slices.Clone. -/
namespace Gx
open Go Go.RowKit Gd
set_option linter.unusedVariables false
set_option linter.unusedSimpArgs false
section
variable {P : Program} {Y : TX}
theorem run_eqS {t el : TypeId} {A : Option Addr} {m c : Nat} {w : World} (hu : (underlying t).run P w = .ok (.slice el) w) : (Op.equal t (.slice A m c) (.slice none 0 0)).run P w = .ok A.isNone w := by
  show (Op.equalIn (9999 + 1) t _ _).run P w = _
  rw [Op.equalIn]
  cases A <;> simp [Sem.run_bind, hu]
abbrev shSl (u : Ty) : Shp := ⟨[(0, .d (.sl u))], []⟩
def cloneC (f : FuncId) (u : Ty) (Δ : Shp) (fc : List u.De → Option Δ.De) : Con := ⟨f, shSl u, Δ, fc⟩
def cloneF {α : Type} (bytes : Nat) (xs : List α) : Option (List α) := (app bytes [] xs).bind fun zs => some zs
def kRet (Y : TX) (fn : Func) (c : Con) : Ex → XS → Option c.Δ.De := fun e S => match e with
  | .r => fin Y fn c.Δ S
  | _ => none
def slT (T : Tab) (t : TypeId) : Bool := match lookT T t with
  | some te => isSomeN (isSliceD te.d)
  | none => false
def S2c (S1 : XS) (v : AV) (b : Bool) : XS := (S1.put 3 [] v).put 4 [] (.d .bool b)
theorem clone_gen (hT : TabOk P Y.T) (hmix : P.follows .mixedOrders = true) {fn : Func} {c : Con} (hf : P.funcs[c.f]? = some fn) {v0 : c.Γ.De → AV} {fA : c.Γ.De → Option c.Δ.De} (hn : fn.ntmps = 8) {R0 A C : Code} {i1 : Nat} {o1 o2 : Oper} (hb : fn.body = some (.seq R0 (.seq (.seq (.region i1 ⟨[o1, o2]⟩ false) (.cond (.tmp 4) A .skip)) C)))
    (h1d : o1.dst = some 3) (h1o : o1.op = .move (.tmp 0)) (h1g : o1.guard = none) (h2d : o2.dst = some 4) {t yt : TypeId} (h2o : o2.op = .binOp .eql t (.tmp 3) (.const (.slice none 0 0)) yt) (h2g : o2.guard = none) (hsl : slT Y.T t = true)
    (hku : (Nat.ble c.Γ.env.length 8 && (keysUp c.Γ.env 0 && Nat.blt c.Γ.env.length 100000)) = true) {an0 anA anC : An} (hoff : ∀ x, okW 8 (XS.put (S00 Y c x) 2 [] .ns) 3 = true ∧ okW 8 (XS.put (S00 Y c x) 2 [] .ns) 4 = true)
    (hen : ∀ x, (⟨0, [], v0 x⟩ : En) ∈ (((S00 Y c x).put 2 [] .ns).flat).env)
    (hv0 : ∀ (x : c.Γ.De) (X : Cx) (β : Nat → Nat) (ρ : Nat → Value) (a : Act) (w : World) (cs : List Value), Rel X β ρ (((S00 Y c x).put 2 [] .ns).flat) a w → cr β ρ (okR X β ρ (((S00 Y c x).put 2 [] .ns).flat).mem w) w false (v0 x) cs →
      ∃ A0 m0 c0, (v0 x).val cs = .slice A0 m0 c0 ∧ (A0 = none → fA x = c.fn x))
    (h0 : ∀ x, runI Y [] 8 0 an0 R0 (S00 Y c x) (fun e S => match e with | .n => some S | _ => none) = some ((S00 Y c x).put 2 [] .ns))
    (hA : ∀ x, runI Y [] 8 0 anA A (S2c ((S00 Y c x).put 2 [] .ns) (v0 x) true) (kRet Y fn c) = fA x)
    (hC : ∀ x, runI Y [] 8 0 anC C (S2c ((S00 Y c x).put 2 [] .ns) (v0 x) false) (kRet Y fn c) = c.fn x) : ConOk P Y.gl c := by
  obtain ⟨te, el, hte, htd⟩ : ∃ te el, lookT Y.T t = some te ∧ te.d = .slice el := by
    unfold slT at hsl
    split at hsl
    · rename_i te hte
      cases hd : isSliceD te.d with
      | none => rw [hd] at hsl; cases hsl
      | some el => exact ⟨te, el, hte, isSliceD_ok hd⟩
    · cases hsl
  simp only [Bool.and_eq_true] at hku
  refine body_ok hT hf rfl hb (by rw [hn]; exact hku.1) hku.2.1 hku.2.2 fun xs y X β ρ a w Q hy hG hX hr hp hR H => ?_
  have hX8 : X.n = 8 := hX.trans hn
  have hK : KsX P Y X [] := ⟨(fun _ h => by cases h), hG⟩
  refine wp_seq (runI_ok hT hmix hK hX8 hr hp an0 hR (h0 xs) fun e β1 ρ1 S1 a1 w1 k1 k2 k3 => ?_)
  cases e with
  | x i => cases k1
  | r => cases k1
  | n =>
    simp only [Option.some.injEq] at k1
    subst k1
    obtain ⟨cs, q1, q2⟩ := (k3.en (hen xs)).1 (holdsC_nil a1)
    obtain ⟨A0, m0, c0, hv, hnil⟩ := hv0 xs X β1 ρ1 a1 w1 cs k3 q2
    have hev0 : a1.eval (.tmp 0) = .slice A0 m0 c0 := by
      rw [← hv]
      have q1' : a1.tmps[0]? = some ((v0 xs).val cs) := q1
      show a1.tmps.getD 0 undef = _
      simp [Array.getD_eq_getD_getElem?, q1']
    have hokd3 := (okW_ok (S := (S00 Y c xs).put 2 [] .ns) (show okW 8 _ 3 = true from (hoff xs).1) hX8 hr)
    have hokd4 := (okW_ok (S := (S00 Y c xs).put 2 [] .ns) (show okW 8 _ 4 = true from (hoff xs).2) hX8 hr)
    have r1 := k3.put0 hokd3.1 (x := v0 xs) (c := cs) q2
    have r2 := r1.put0 hokd4.1 (x := .d .bool A0.isNone) (c := [.bool A0.isNone]) rfl
    have hfin : ∀ b, A0.isNone = b → Rel X β1 ρ1 (S2c ((S00 Y c xs).put 2 [] .ns) (v0 xs) b).flat ((a1.put (some 3) ((v0 xs).val cs)).put (some 4) (.bool b)) w1 := fun b hb => by
      subst hb
      have e : (S2c ((S00 Y c xs).put 2 [] .ns) (v0 xs) A0.isNone).flat = (((((S00 Y c xs).put 2 [] .ns).flat).put 3 [] (v0 xs)).put 4 [] (.d .bool A0.isNone)) := by
        exact (put_flat (S := ((S00 Y c xs).put 2 [] .ns).put 3 [] (v0 xs)) hokd4.2).trans (congrArg (fun z => St.put z 4 [] (.d .bool A0.isNone)) (put_flat hokd3.2))
      rw [e]
      exact r2
    have hev3 : (a1.put (some 3) ((v0 xs).val cs)).eval (.tmp 3) = .slice A0 m0 c0 := by
      have hlt : 3 < a1.tmps.size := by rw [k3.sz, hX8]; decide
      show (a1.put (some 3) ((v0 xs).val cs)).tmps.getD 3 undef = _
      rw [← hv]
      simp [Act.put, Array.getD_eq_getD_getElem?, hlt]
    have hkeep : ∀ b, Keeps ((S00 Y c xs).put 2 [] .ns) (S2c ((S00 Y c xs).put 2 [] .ns) (v0 xs) b) β1 β1 ρ1 ρ1 := fun b => ⟨rfl, rfl, rfl, agP.refl _ _ _⟩
    refine wp_seq (wp_seq ?_)
    refine wp_region_list ?_
    refine wpList_go (wanted_none h1g _) (wp_value (w' := w1) (v := .slice A0 m0 c0) (by
      unfold execOp
      rw [h1o]
      rw [← hev0]; rfl) ?_)
    rw [h1d, ← hv]
    refine wpList_go (wanted_none h2g _) (wp_value (w' := w1) (v := .bool A0.isNone) (by
      unfold execOp
      rw [h2o]
      have hu := run_under hT w1 hte
      rw [htd] at hu
      have he := run_eqS (A := A0) (m := m0) (c := c0) hu
      simp [hev3, show (a1.put (some 3) ((v0 xs).val cs)).eval (.const (.slice none 0 0)) = .slice none 0 0 from rfl, eqGuard, binOp, he]) ?_)
    rw [h2d]
    have hev4 : ∀ b : Bool, ((a1.put (some 3) ((v0 xs).val cs)).put (some 4) (.bool b)).eval (.tmp 4) = .bool b := fun b => by
      have hlt : 4 < a1.tmps.size := by rw [k3.sz, hX8]; decide
      show ((a1.put (some 3) ((v0 xs).val cs)).put (some 4) (.bool b)).tmps.getD 4 undef = _
      simp [Act.put, Array.getD_eq_getD_getElem?, hlt]
    cases hA0 : A0.isNone with
    | true =>
      have hyy : fA xs = some y := (hnil (by cases A0 with | none => rfl | some x => cases hA0)).trans hy
      refine wp_cond_split (hev4 true) (fun _ => ?_) (fun h => by cases h)
      refine runI_ok hT hmix hK hX8 hr hp anA (hfin true hA0) ((hA xs).trans hyy) fun e β' ρ' S' a' w' g1 g2 g3 => ?_
      cases e with
      | x i => cases g1
      | n => cases g1
      | r => exact H .r β' ρ' S' a' w' g1 ((k2.trans (hkeep true)).trans g2) g3
    | false =>
      refine wp_cond_split (hev4 false) (fun h => by cases h) (fun _ => ?_)
      refine wp_skip ?_
      refine runI_ok hT hmix hK hX8 hr hp anC (hfin false hA0) ((hC xs).trans hy) fun e β' ρ' S' a' w' g1 g2 g3 => ?_
      cases e with
      | x i => cases g1
      | n => cases g1
      | r => exact H .r β' ρ' S' a' w' g1 ((k2.trans (hkeep false)).trans g2) g3
theorem clone_ok (hT : TabOk P Y.T) (hmix : P.follows .mixedOrders = true) {f : FuncId} {fn : Func} (hf : P.funcs[f]? = some fn) {u : Ty} {Δ : Shp} {fc : List u.De → Option Δ.De} (hn : fn.ntmps = 8) {R0 A C : Code} {i1 : Nat} {o1 o2 : Oper} (hb : fn.body = some (.seq R0 (.seq (.seq (.region i1 ⟨[o1, o2]⟩ false) (.cond (.tmp 4) A .skip)) C)))
    (h1d : o1.dst = some 3) (h1o : o1.op = .move (.tmp 0)) (h1g : o1.guard = none) (h2d : o2.dst = some 4) {t yt : TypeId} (h2o : o2.op = .binOp .eql t (.tmp 3) (.const (.slice none 0 0)) yt) (h2g : o2.guard = none) (hsl : slT Y.T t = true)
    {y0 : Δ.De} (happ : fc [] = some y0) {an0 anA anC : An} (hoff : okW 8 (XS.put (S00 Y (cloneC f u Δ fc) []) 2 [] .ns) 3 = true ∧ okW 8 (XS.put (S00 Y (cloneC f u Δ fc) []) 2 [] .ns) 4 = true)
    (h0 : ∀ xs : List u.De, runI Y [] 8 0 an0 R0 (S00 Y (cloneC f u Δ fc) xs) (fun e S => match e with | .n => some S | _ => none) = some ((S00 Y (cloneC f u Δ fc) xs).put 2 [] .ns))
    (hA : ∀ xs : List u.De, runI Y [] 8 0 anA A (S2c ((S00 Y (cloneC f u Δ fc) xs).put 2 [] .ns) (.d (.sl u) xs) true) (kRet Y fn (cloneC f u Δ fc)) = some y0)
    (hC : ∀ xs : List u.De, runI Y [] 8 0 anC C (S2c ((S00 Y (cloneC f u Δ fc) xs).put 2 [] .ns) (.d (.sl u) xs) false) (kRet Y fn (cloneC f u Δ fc)) = fc xs) : ConOk P Y.gl (cloneC f u Δ fc) :=
  clone_gen hT hmix (c := cloneC f u Δ fc) hf (v0 := fun xs => .d (.sl u) xs) (fA := fun _ => some y0) hn hb h1d h1o h1g h2d h2o h2g hsl rfl (fun _ => hoff) (fun _ => .tail _ (.head _))
    (fun xs X β ρ a w cs _ hc => by
      obtain ⟨A0, m0, c0, hv, hl, hle, hat⟩ : slRep (rt u) _ w xs ((AV.d (.sl u) xs).val cs) := isV_sl.1 ⟨cs, hc, rfl⟩
      refine ⟨A0, m0, c0, hv, fun hA0 => ?_⟩
      have hxs : xs = [] := by
        refine List.length_eq_zero_iff.1 ?_
        rcases Nat.eq_zero_or_pos m0 with h | h
        · rw [hl, h]
        · obtain ⟨b, o, e, _⟩ := hat h
          rw [e] at hA0; cases hA0
      subst hxs
      exact happ.symm) h0 hA hC
def cloneR {α : Type} (bytes : Nat) (xs : List α) : Option (List α × List α) := (app bytes [] xs).bind fun zs => some (xs, zs)
abbrev shLent (e : TypeId) (u : Ty) : Shp := ⟨[(0, .s 5000)], [(5000, .row e u)]⟩
abbrev shTwo (e : TypeId) (u : Ty) : Shp := ⟨[(0, .s 0)], [(5000, .row e u), (0, .row e u)]⟩
theorem clone_row (hT : TabOk P Y.T) (hmix : P.follows .mixedOrders = true) {fn : Func} {c : Con} (hf : P.funcs[c.f]? = some fn) {fA : c.Γ.De → Option c.Δ.De} (hn : fn.ntmps = 8) {R0 A C : Code} {i1 : Nat} {o1 o2 : Oper} (hb : fn.body = some (.seq R0 (.seq (.seq (.region i1 ⟨[o1, o2]⟩ false) (.cond (.tmp 4) A .skip)) C)))
    (h1d : o1.dst = some 3) (h1o : o1.op = .move (.tmp 0)) (h1g : o1.guard = none) (h2d : o2.dst = some 4) {t yt : TypeId} (h2o : o2.op = .binOp .eql t (.tmp 3) (.const (.slice none 0 0)) yt) (h2g : o2.guard = none) (hsl : slT Y.T t = true)
    (hku : (Nat.ble c.Γ.env.length 8 && (keysUp c.Γ.env 0 && Nat.blt c.Γ.env.length 100000)) = true) {an0 anA anC : An} (hoff : ∀ x, okW 8 (XS.put (S00 Y c x) 2 [] .ns) 3 = true ∧ okW 8 (XS.put (S00 Y c x) 2 [] .ns) 4 = true)
    {g : List En} (hen : ∀ x, (((S00 Y c x).put 2 [] .ns).flat).env = ⟨2, [], .ns⟩ :: ⟨0, [], .s 5000⟩ :: g) {e : TypeId} {u : Ty} {fx : c.Γ.De → List u.De} (hm : ∀ x, lookM (((S00 Y c x).put 2 [] .ns).flat).mem 5000 = some (.row e u (fx x))) (hnil : ∀ x, fx x = [] → fA x = c.fn x)
    (h0 : ∀ x, runI Y [] 8 0 an0 R0 (S00 Y c x) (fun e S => match e with | .n => some S | _ => none) = some ((S00 Y c x).put 2 [] .ns))
    (hA : ∀ x, runI Y [] 8 0 anA A (S2c ((S00 Y c x).put 2 [] .ns) (.s 5000) true) (kRet Y fn c) = fA x)
    (hC : ∀ x, runI Y [] 8 0 anC C (S2c ((S00 Y c x).put 2 [] .ns) (.s 5000) false) (kRet Y fn c) = c.fn x) : ConOk P Y.gl c :=
  clone_gen hT hmix hf (v0 := fun _ => .s 5000) hn hb h1d h1o h1g h2d h2o h2g hsl hku hoff (fun x => by rw [hen x]; exact .tail _ (.head _))
    (fun x X β ρ a w cs hR hc => by
      obtain ⟨⟨v, rfl, hz⟩, A, m, c1, hρ⟩ := hc
      have hob := (hR.ob (hm x)).1
      have hob' : (ml (ρ 5000) e (rt u) (fx x)).p _ w := hob
      obtain ⟨hl, cs1, hown, _⟩ := hob'
      rcases hz with rfl | ⟨h00, A0, rfl⟩
      · refine ⟨A, m, c1, hρ, fun hA0 => hnil x ?_⟩
        subst hA0
        refine List.length_eq_zero_iff.1 ?_
        rw [← hl]
        rcases hown.2 with ⟨hv, h0⟩ | ⟨g, cap, cur, fz, hv, _⟩
        · exact h0
        · rw [hρ] at hv; injection hv with h1; cases h1
      · refine ⟨A0, 0, 0, rfl, fun _ => hnil x ?_⟩
        refine List.length_eq_zero_iff.1 ?_
        rw [← hl, h00]; rfl) h0 hA hC
end
end Gx
