/- Taxes of lines. -/
import Derived.Test.YtaekakpannjacaaXPTax2
namespace Gx
open Go Gd
set_option linter.unusedVariables false
set_option linter.unusedSimpArgs false

/-! ## Categories -/
/-- Where a name belongs in names that ascend. -/
def insAt (l : List Str) (c : Str) : Nat := (l.takeWhile fun x => bl x c).length
def insS (l : List Str) (c : Str) : List Str := l.take (insAt l c) ++ c :: l.drop (insAt l c)
def catStep (acc : List Str) (x : ApiLine) : List Str := if acc.contains x.Category then acc else insS acc x.Category
def catsS (l : List ApiLine) : List Str := l.foldl catStep []
def amtsS (l : List ApiLine) (c : Str) : List Int := (l.filter fun x => x.Category == c).map fun x => x.Amount

theorem insAt_le (l : List Str) (c : Str) : insAt l c ≤ l.length := (List.takeWhile_sublist _).length_le
theorem insS_len (l : List Str) (c : Str) : (insS l c).length = l.length + 1 := by
  have := insAt_le l c
  simp [insS]; omega
theorem mem_insS {l : List Str} {c x : Str} : x ∈ insS l c ↔ x = c ∨ x ∈ l := by
  unfold insS
  simp only [List.mem_append, List.mem_cons]
  constructor
  · rintro (h | rfl | h)
    · exact .inr (List.mem_of_mem_take h)
    · exact .inl rfl
    · exact .inr (List.mem_of_mem_drop h)
  · rintro (rfl | h)
    · exact .inr (.inl rfl)
    · rw [← List.take_append_drop (insAt l c) l] at h
      rcases List.mem_append.1 h with h | h
      · exact .inl h
      · exact .inr (.inr h)
theorem takeWhile_take {α : Type} (p : α → Bool) : ∀ l : List α, l.take (l.takeWhile p).length = l.takeWhile p
  | [] => rfl
  | x :: l => by
    simp only [List.takeWhile_cons]
    cases p x with
    | true => simp [takeWhile_take p l]
    | false => simp
theorem insAt_get {l : List Str} {c : Str} {i : Nat} (h : i < insAt l c) : ∃ x, l[i]? = some x ∧ bl x c = true := by
  have h1 : (l.takeWhile fun x => bl x c)[i]? = some ((l.takeWhile fun x => bl x c)[i]'h) := List.getElem?_eq_getElem h
  refine ⟨(l.takeWhile fun x => bl x c)[i]'h, ?_, ?_⟩
  · have h2 : (l.take (insAt l c))[i]? = (l.takeWhile fun x => bl x c)[i]? := by rw [show l.take (insAt l c) = l.takeWhile fun x => bl x c from takeWhile_take _ l]
    rw [List.getElem?_take, if_pos h] at h2
    rw [h2]; exact h1
  · have := List.all_takeWhile (p := fun x => bl x c) (l := l)
    exact List.all_eq_true.1 this _ (List.getElem_mem h)
theorem insAt_end {l : List Str} {c : Str} {x : Str} (h : l[insAt l c]? = some x) : bl x c = false := by
  induction l with
  | nil => simp at h
  | cons y l ih =>
    unfold insAt at h ih
    simp only [List.takeWhile_cons] at h
    cases hy : bl y c with
    | true =>
      simp only [hy, if_true, List.length_cons, List.getElem?_cons_succ] at h
      exact ih h
    | false =>
      simp only [hy] at h
      simp at h
      subst h; exact hy

theorem insLoop {N : Nat} {f : Int → Option (Int ⊕ Int)} {l : List Str} {c : Str} (hl : l.length ≤ 4096)
    (hf : ∀ i : Nat, f (i : Int) = match l[i]? with
      | some x => if bl x c = true then some (.inl (IntKind.wrap .i64 ((i : Int) + 1))) else some (.inr (i : Int))
      | none => some (.inr (i : Int))) (hN : 5000 ≤ N) : loopN f N 0 = some ((insAt l c : Nat) : Int) := by
  obtain ⟨r, h1, h2⟩ := loopN_inv (f := f) (n := N) (s := (0 : Int)) (insAt l c) (fun i s => s = (i : Int)) (fun r => r = ((insAt l c : Nat) : Int)) (fun i s hi hs => by
    subst hs
    rw [hf]
    have hle := insAt_le l c
    rcases Nat.lt_or_ge i (insAt l c) with hlt | hge
    · obtain ⟨x, hx, hb⟩ := insAt_get hlt
      rw [hx]
      simp only [hb, if_true]
      exact .inl ⟨_, hlt, rfl, wrap_succ (by rw [maxLen_val]; omega)⟩
    · have : i = insAt l c := by omega
      subst this
      cases hx : l[insAt l c]? with
      | none => exact .inr ⟨_, rfl, rfl⟩
      | some x =>
        simp only [insAt_end hx]
        exact .inr ⟨_, by simp, rfl⟩) (by have := insAt_le l c; omega) rfl
  rw [h1, h2]
theorem idx_none {α : Type} {l : List α} {i : Nat} (h : l.length ≤ i) : idx l (i : Int) = none := by
  unfold idx
  rw [if_pos (by omega), Int.toNat_natCast, List.getElem?_eq_none h]
theorem insLoop_p {N : Nat} {l : List Str} {x : ApiLine} (hl : l.length ≤ 4096) (hN : 5000 ≤ N) : loopN (tax_categories_l4 N l x) N 0 = some ((insAt l x.Category : Nat) : Int) := by
  refine insLoop hl (fun i => ?_) hN
  simp only [tax_categories_l4]
  rcases Nat.lt_or_ge i l.length with hlt | hge
  · rw [decide_eq_true (show (i : Int) < (l.length : Int) by omega), List.getElem?_eq_getElem hlt, idx_get hlt]
    simp only [if_true, Option.bind_some]
  · rw [decide_eq_false (show ¬ (i : Int) < (l.length : Int) by omega), List.getElem?_eq_none hge]
    rfl
theorem insLoop_r {N : Nat} {l : List Str} {c : Str} (hl : l.length ≤ 4096) (hN : 5000 ≤ N) : loopN (billingref17_With_l1 N l c) N 0 = some ((insAt l c : Nat) : Int) := by
  refine insLoop hl (fun i => ?_) hN
  simp only [billingref17_With_l1]
  rcases Nat.lt_or_ge i l.length with hlt | hge
  · rw [decide_eq_true (show (i : Int) < (l.length : Int) by omega), List.getElem?_eq_getElem hlt, idx_get hlt]
    simp only [if_true, Option.bind_some]
  · rw [decide_eq_false (show ¬ (i : Int) < (l.length : Int) by omega), List.getElem?_eq_none hge]
    rfl

theorem slc_front {α : Type} {l : List α} {k : Nat} (h : k ≤ l.length) : slc l 0 (k : Int) = some (l.take k) := by
  unfold slc
  rw [if_pos ⟨by omega, by omega, by omega⟩]
  simp
theorem slc_back {α : Type} {l : List α} {k : Nat} (h : k ≤ l.length) : slc l (k : Int) (l.length : Int) = some (l.drop k) := by
  unfold slc
  rw [if_pos ⟨by omega, by omega, by omega⟩]
  simp only [Int.toNat_natCast]
  rw [List.take_of_length_le (by simp)]

theorem with_r {N : Nat} {l : List Str} {c : Str} (hl : l.length ≤ 4096) (hN : 5000 ≤ N) : billingref17_With N l c = some (insS l c) := by
  unfold billingref17_With
  have hk := insAt_le l c
  rw [insLoop_r hl hN]
  simp only [Option.bind_some]
  rw [slc_front hk]
  simp only [Option.bind_some]
  rw [app_of (by simp; omega)]
  simp only [Option.bind_some]
  rw [app_of (by simp; omega)]
  simp only [Option.bind_some]
  rw [slc_back hk]
  simp only [Option.bind_some]
  rw [app_of (by simp; omega)]
  simp [insS]

theorem has_r {N : Nat} {l : List Str} {c : Str} (hl : l.length ≤ 4096) (hN : 5000 ≤ N) : billingref17_Has N l c = some (l.contains c) := by
  unfold billingref17_Has
  have key := loop_list (n := N) (s := ()) l (by rw [maxLen_val]; omega) (f := billingref17_Has_l1 N l c) (fun s i => i) (fun i s => True) (fun s xs => if xs.contains c then .inr true else .inl ())
    (fun s hI h => by simp [billingref17_Has_l1]) (fun s i x xs hx hlt hidx hw hd hI => by
      simp only [billingref17_Has_l1, hlt, if_true, hidx, Option.bind_some, hw]
      cases hb : (x == c) with
      | true =>
        refine .inr ?_
        have := eq_of_beq hb
        subst this
        simp
      | false =>
        refine .inl ⟨(), by simp, trivial, ?_⟩
        have hne : ¬ c = x := fun e => by subst e; simp at hb
        simp [hne]) (by omega) trivial
  rw [key]
  cases l.contains c <;> rfl

theorem catStep_len (acc : List Str) (x : ApiLine) : (catStep acc x).length ≤ acc.length + 1 := by
  unfold catStep
  split
  · omega
  · rw [insS_len]; omega
theorem catsS_len : ∀ (l : List ApiLine) (acc : List Str), (l.foldl catStep acc).length ≤ acc.length + l.length
  | [], acc => by simp
  | x :: l, acc => by
    have h1 := catsS_len l (catStep acc x)
    have h2 := catStep_len acc x
    simp only [List.foldl_cons, List.length_cons]; omega

theorem cats_r {N : Nat} {l : List ApiLine} (hl : l.length ≤ 4096) (hN : 5000 ≤ N) : billingref45_Categories N l = some (catsS l) := by
  unfold billingref45_Categories
  have key := loop_list (n := N) (s := ([] : List Str)) l (by rw [maxLen_val]; omega) (f := billingref45_Categories_l1 N l) (fun s i => (i, s)) (fun i s => s.length ≤ i ∧ i ≤ l.length) (fun s xs => xs.foldl catStep s)
    (fun s hI h => by simp [billingref45_Categories_l1]) (fun s i x xs hx hlt hidx hw hd hI => by
      have hi := (List.getElem?_eq_some_iff.1 hx).1
      refine .inl ⟨catStep s x, ?_, ?_, rfl⟩
      · simp only [billingref45_Categories_l1, hlt, if_true, hidx, Option.bind_some, hw, has_r (show s.length ≤ 4096 by omega) hN, with_r (show s.length ≤ 4096 by omega) hN, catStep]
        cases s.contains x.Category <;> simp
      · have := catStep_len s x; omega) (by omega) (by simp)
  rw [key]
  rfl

theorem amts_snoc (l : List ApiLine) (x : ApiLine) (c : Str) : amtsS (l ++ [x]) c = amtsS l c ++ if x.Category == c then [x.Amount] else [] := by
  unfold amtsS
  rw [List.filter_append, List.map_append]
  congr 1
  simp only [List.filter_cons, List.filter_nil]
  split <;> rfl
theorem amts_len (l : List ApiLine) (c : Str) : (amtsS l c).length ≤ l.length := by
  unfold amtsS; rw [List.length_map]; exact List.length_filter_le _ _

/-- What the map holds behind some lines. -/
def mapOk (l : List ApiLine) (m : List (Str × List Int)) : Prop := ∀ c, findL (k := .str) c m = if amtsS l c = [] then none else some (amtsS l c)
theorem find_put (c d : Str) (v : List Int) : ∀ m : List (Str × List Int), findL (k := .str) c (putL (k := .str) d v m) = if c = d then some v else findL (k := .str) c m
  | [] => by
    simp only [putL, findL, eqK]
    by_cases h : c = d
    · simp [h]
    · rw [show (c == d) = false by simpa using h]; simp [h]
  | x :: m => by
    have ih := find_put c d v m
    simp only [putL]
    cases he : eqK .str d x.1 with
    | true =>
      have hd : d = x.1 := by simpa [eqK] using he
      simp only [cond_true, findL, eqK]
      by_cases h : c = d
      · simp [h]
      · have : ¬ c = x.1 := fun e => h (e.trans hd.symm)
        rw [show (c == d) = false by simpa using h, show (c == x.1) = false by simpa using this]
        simp [h]
    | false =>
      have hd : ¬ d = x.1 := by simpa [eqK] using he
      simp only [cond_false, findL, ih]
      by_cases h : c = d
      · subst h
        simp only [eqK]
        rw [show (c == x.1) = false by simpa using hd]
        simp
      · simp [h]

theorem cats_p {N : Nat} {l : List ApiLine} (hl : l.length ≤ 4096) (hN : 5000 ≤ N) : ∃ m, tax_categories N l = some (catsS l, m) ∧ mapOk l m := by
  unfold tax_categories
  obtain ⟨r, h1, h2⟩ := loopN_inv (f := tax_categories_l5 N l) (n := N) (s := ((0 : Int), ([] : List (Str × List Int)), ([] : List Str))) l.length
    (fun i s => ∃ m, s = ((i : Int), m, catsS (l.take i)) ∧ mapOk (l.take i) m ∧ ∀ c, (catsS (l.take i)).contains c = !(amtsS (l.take i) c).isEmpty) (fun r => ∃ m, r = (m, catsS l) ∧ mapOk l m) (fun i s hi hs => by
      obtain ⟨m, rfl, hm, hc⟩ := hs
      rcases Nat.lt_or_ge i l.length with hlt | hge
      · have hx : l[i]? = some l[i] := List.getElem?_eq_getElem hlt
        generalize hxx : l[i] = x at hx
        have ht := take_snoc hx
        have hcl : (catsS (l.take i)).length ≤ i := by
          have := catsS_len (l.take i) []
          simp at this
          unfold catsS; omega
        have hw : IntKind.wrap .i64 ((i : Int) + 1) = ((i + 1 : Nat) : Int) := wrap_succ (by rw [maxLen_val]; omega)
        have hcs : catsS (l.take (i + 1)) = catStep (catsS (l.take i)) x := by rw [ht]; simp [catsS, List.foldl_append]
        have hsome : (findL (k := .str) x.Category m).isSome = (catsS (l.take i)).contains x.Category := by
          rw [hm, hc]
          cases hA : amtsS (l.take i) x.Category <;> simp
        have happ : app 8 (optL (fun (y : List Int) => (y : List Int)) (findL (k := .str) x.Category m)) [x.Amount] = some (amtsS (l.take i) x.Category ++ [x.Amount]) := by
          have : optL (fun (y : List Int) => (y : List Int)) (findL (k := .str) x.Category m) = amtsS (l.take i) x.Category := by
            rw [hm]
            by_cases hA : amtsS (l.take i) x.Category = []
            · rw [if_pos hA, hA]; rfl
            · rw [if_neg hA]; rfl
          rw [this]
          have := amts_len (l.take i) x.Category
          exact app_of (by simp at this ⊢; omega)
        refine .inl ⟨((i + 1 : Nat) , putL (k := .str) x.Category (amtsS (l.take i) x.Category ++ [x.Amount]) m, catsS (l.take (i + 1))), hlt, ?_, _, rfl, ?_, ?_⟩
        · simp only [tax_categories_l5, decide_eq_true (show (i : Int) < (l.length : Int) by omega), if_true, idx_nat hx, Option.bind_some, hsome, hw]
          have hk := insAt_le (catsS (l.take i)) x.Category
          have hchk : chk (eqK .str x.Category x.Category) = some () := by simp [chk, eqK]
          cases hcon : (catsS (l.take i)).contains x.Category with
          | true =>
            simp only [Bool.not_true, Bool.false_eq_true, if_false, Option.bind_some, hchk, happ]
            rw [hcs, catStep, hcon]; rfl
          | false =>
            simp only [Bool.not_false, if_true]
            rw [insLoop_p (by omega) hN]
            simp only [Option.bind_some]
            rw [slc_front hk]
            simp only [Option.bind_some]
            rw [app_of (by simp; omega)]
            simp only [Option.bind_some]
            rw [app_of (by simp; omega)]
            simp only [Option.bind_some]
            rw [slc_back hk]
            simp only [Option.bind_some]
            rw [app_of (by simp; omega)]
            simp only [Option.bind_some, hchk, happ]
            rw [hcs, catStep, hcon]
            simp [insS]
        · intro c
          rw [find_put, ht, amts_snoc]
          by_cases hcx : c = x.Category
          · subst hcx; simp
          · have : (x.Category == c) = false := by simp; exact fun e => hcx e.symm
            rw [if_neg hcx, hm, this]; simp
        · intro c
          rw [hcs, ht, amts_snoc]
          have h3 : (catStep (catsS (l.take i)) x).contains c = ((c == x.Category) || (catsS (l.take i)).contains c) := by
            unfold catStep
            split
            · rename_i hcon
              by_cases hcx : c = x.Category
              · subst hcx; simp only [hcon]; simp
              · simp [hcx]
            · rw [Bool.eq_iff_iff]
              simp [mem_insS]
          rw [h3, hc]
          by_cases hcx : c = x.Category
          · subst hcx; simp
          · have h4 : (x.Category == c) = false := by simp; exact fun e => hcx e.symm
            simp [hcx, h4]
      · have : i = l.length := by omega
        subst this
        rw [List.take_length] at hm
        exact .inr ⟨(m, catsS l), by simp [tax_categories_l5], m, rfl, hm⟩) (by omega) ⟨[], by simp [catsS], by intro c; simp [findL, amtsS], by intro c; simp [catsS, amtsS]⟩
  obtain ⟨m, rfl, hm⟩ := h2
  have h1' : loopN (tax_categories_l5 N l) N (0, ([] : List (Str × List Int)), ([] : List Str)) = some (m, catsS l) := h1
  rw [h1']
  exact ⟨m, rfl, hm⟩

theorem base_r {N : Nat} {l : List ApiLine} (hl : l.length ≤ 4096) (hN : 5000 ≤ N) (c : Str) : billingref45_Base N l c = some (sumS (amtsS l c)) := by
  unfold billingref45_Base
  have key := loop_list (n := N) (s := ([] : List Int)) l (by rw [maxLen_val]; omega) (f := billingref45_Base_l1 N l c) (fun s i => (i, s)) (fun i s => s = amtsS (l.take i) c) (fun s xs => amtsS l c)
    (fun s hI h => by rw [List.take_length] at hI; subst hI; simp [billingref45_Base_l1]) (fun s i x xs hx hlt hidx hw hd hI => by
      subst hI
      refine .inl ⟨amtsS (l.take (i + 1)) c, ?_, rfl, rfl⟩
      simp only [billingref45_Base_l1, hlt, if_true, hidx, Option.bind_some, hw]
      rw [take_snoc hx, amts_snoc]
      have := amts_len (l.take i) c
      cases hb : (x.Category == c) with
      | true => rw [if_pos rfl, app_of (by simp at this ⊢; omega)]; rfl
      | false => simp) (by omega) (by simp [amtsS])
  rw [key]
  simp only [Option.bind_some]
  rw [sum_r hN]
  rfl

/-! ## Taxes of lines -/
/-- One category: its exact tax, an error, or nothing. -/
def lineStep (taxes : List ApiTax) (lines : List ApiLine) (t : Int) (c : Str) : Option (ApiTaxLine × Int) ⊕ Int :=
  if (sumS (amtsS lines c)).2 != 0 then .inr (sumS (amtsS lines c)).2 else
  if ptsS taxes c t == 0 then .inl none else
  if (percS (sumS (amtsS lines c)).1 (ptsS taxes c t)).2 != 0 then .inr (percS (sumS (amtsS lines c)).1 (ptsS taxes c t)).2 else
  .inl (some ((c, ptsS taxes c t, (sumS (amtsS lines c)).1, 0), (percS (sumS (amtsS lines c)).1 (ptsS taxes c t)).1))
def linesGo (taxes : List ApiTax) (lines : List ApiLine) (t : Int) : List ApiTaxLine × List Int → List Str → (List ApiTaxLine × List Int) ⊕ Int
  | s, [] => .inl s
  | s, c :: cs => match lineStep taxes lines t c with
    | .inr e => .inr e
    | .inl none => linesGo taxes lines t s cs
    | .inl (some q) => linesGo taxes lines t (s.1 ++ [q.1], s.2 ++ [q.2]) cs
def putR (x : ApiTaxLine) (r : Int) : ApiTaxLine := (x.1, x.2.1, x.2.2.1, r)
def finS (out : List ApiTaxLine) (rs : List Int) : List ApiTaxLine := List.zipWith putR out rs
def taxLinesS (taxes : List ApiTax) (lines : List ApiLine) (t : Int) : Int × List ApiTaxLine := if (lines.length : Int) > 4096 then (5, []) else match linesGo taxes lines t ([], []) (catsS lines) with
  | .inl q => (0, finS q.1 (roundS q.2))
  | .inr e => (e, [])

theorem perc_valid {a p : Int} (h : (percS a p).2 = 0) : valB (percS a p).1 = true := by
  unfold percS at *
  cases hc : (decide (p < 0) || decide (p > 10000)) with
  | true => rw [hc] at h; cases h
  | false =>
    rw [hc] at h
    simp only [cond_false] at h ⊢
    unfold scaleS at *
    cases hc2 : (!valB a || decide (p < 0) || decide (p > 1099511627776) || decide ((10000 : Int) < 1) || decide ((10000 : Int) > 1099511627776)) with
    | true => rw [hc2] at h; cases h
    | false =>
      rw [hc2] at h
      simp only [cond_false] at h ⊢
      split at h
      · rename_i hT
        rw [if_pos hT]
        refine valB_iff.2 ?_
        dsimp only
        split <;> omega
      · cases h
theorem line_valid {taxes : List ApiTax} {lines : List ApiLine} {t : Int} {c : Str} {q : ApiTaxLine × Int} (h : lineStep taxes lines t c = .inl (some q)) :
    q.1 = (c, ptsS taxes c t, (sumS (amtsS lines c)).1, 0) ∧ q.2 = (percS (sumS (amtsS lines c)).1 (ptsS taxes c t)).1 ∧ (sumS (amtsS lines c)).2 = 0 ∧ ptsS taxes c t ≠ 0 ∧ (percS (sumS (amtsS lines c)).1 (ptsS taxes c t)).2 = 0 := by
  unfold lineStep at h
  split at h
  · cases h
  · rename_i h1
    split at h
    · cases h
    · rename_i h2
      split at h
      · cases h
      · rename_i h3
        injection h with h
        injection h with h
        subst h
        exact ⟨rfl, rfl, by simpa using h1, by simpa using h2, by simpa using h3⟩
/-- What is known of the taxes so far. -/
def goOk (s : List ApiTaxLine × List Int) (n : Nat) : Prop := s.1.length = s.2.length ∧ s.2.all valB = true ∧ s.1.length ≤ n
theorem go_len {taxes : List ApiTax} {lines : List ApiLine} {t : Int} : ∀ {cs : List Str} {s q : List ApiTaxLine × List Int} {n : Nat}, goOk s n → linesGo taxes lines t s cs = .inl q → goOk q (n + cs.length)
  | [], s, q, n, h, hq => by simp [linesGo] at hq; subst hq; exact h
  | c :: cs, s, q, n, h, hq => by
    simp only [linesGo] at hq
    split at hq
    · cases hq
    · have := go_len (n := n) h hq
      exact ⟨this.1, this.2.1, by have := this.2.2; simp only [List.length_cons]; omega⟩
    · rename_i x hx
      obtain ⟨h1, h2, h3, h4, h5⟩ := line_valid hx
      have := go_len (s := (s.1 ++ [x.1], s.2 ++ [x.2])) (n := n + 1) ⟨by simp [h.1], by rw [List.all_append, h.2.1, h2]; simp [perc_valid h5], by simp; exact h.2.2⟩ hq
      exact ⟨this.1, this.2.1, by have := this.2.2; simp only [List.length_cons]; omega⟩

theorem linesLoop {N : Nat} {f : Int × List ApiTaxLine × List Int → Option ((Int × List ApiTaxLine × List Int) ⊕ ((List ApiTaxLine × List Int) ⊕ Int))} {taxes : List ApiTax} {lines : List ApiLine} {t : Int} {cs : List Str} (hcs : cs.length ≤ 4096)
    (hend : ∀ s : List ApiTaxLine × List Int, f ((cs.length : Int), s.1, s.2) = some (.inr (.inl s)))
    (hf : ∀ (i : Nat) (c : Str) (s : List ApiTaxLine × List Int), cs[i]? = some c → goOk s i → f ((i : Int), s.1, s.2) = some (match lineStep taxes lines t c with
      | .inr e => .inr (.inr e)
      | .inl none => .inl (((i + 1 : Nat) : Int), s.1, s.2)
      | .inl (some q) => .inl (((i + 1 : Nat) : Int), s.1 ++ [q.1], s.2 ++ [q.2]))) (hN : 5000 ≤ N) :
    loopN f N (0, [], []) = some (linesGo taxes lines t ([], []) cs) := by
  refine loop_list (n := N) (s := (([] : List ApiTaxLine), ([] : List Int))) cs (by rw [maxLen_val]; omega) (f := f) (fun s i => (i, s.1, s.2)) (fun i s => goOk s i) (fun s xs => linesGo taxes lines t s xs)
    (fun s hI h => hend s) (fun s i x xs hx hlt hidx hw hd hI => ?_) (by omega) ⟨rfl, rfl, Nat.le_refl _⟩
  rw [hf i x s hx hI]
  simp only [linesGo]
  cases hl : lineStep taxes lines t x with
  | inr e => exact .inr rfl
  | inl o =>
    cases o with
    | none => exact .inl ⟨s, rfl, ⟨hI.1, hI.2.1, by have := hI.2.2; omega⟩, rfl⟩
    | some q =>
      obtain ⟨h1, h2, h3, h4, h5⟩ := line_valid hl
      exact .inl ⟨(s.1 ++ [q.1], s.2 ++ [q.2]), rfl, ⟨by simp [hI.1], by rw [List.all_append, hI.2.1, h2]; simp [perc_valid h5], by have := hI.2.2; simp; exact this⟩, rfl⟩

theorem finLoop {N : Nat} {f : Int × List ApiTaxLine × List Int → Option ((Int × List ApiTaxLine × List Int) ⊕ List ApiTaxLine)} {rs : List Int} (hr : rs.length ≤ 4096)
    (hf0 : ∀ o : List ApiTaxLine, o.length = rs.length → f ((rs.length : Int), o, rs) = some (.inr o))
    (hf : ∀ (i : Nat) (o : List ApiTaxLine), o.length = rs.length → i < rs.length → f ((i : Int), o, rs) = (idx rs (i : Int)).bind fun x => (idx o (i : Int)).bind fun y => some (.inl (((i + 1 : Nat) : Int), o.set i (putR y x), rs)))
    (hN : 5000 ≤ N) {out : List ApiTaxLine} (ho : out.length = rs.length) : loopN f N (0, out, rs) = some (finS out rs) := by
  have key := loop_list (n := N) (s := out) rs (by rw [maxLen_val]; omega) (f := f) (fun s i => (i, s, rs)) (fun i s => s = finS (out.take i) (rs.take i) ++ out.drop i) (fun s xs => finS out rs)
    (fun s hI h => by
      subst hI
      rw [List.take_length, ← ho, List.take_length, List.drop_length, List.append_nil, ho]
      exact hf0 _ (by simp [finS, ho])) (fun s i x xs hx hlt hidx hw hd hI => by
      have hi := (List.getElem?_eq_some_iff.1 hx).1
      have hlen : s.length = rs.length := by rw [hI]; simp [finS]; omega
      refine .inl ⟨finS (out.take (i + 1)) (rs.take (i + 1)) ++ out.drop (i + 1), ?_, rfl, rfl⟩
      obtain ⟨y0, ho'⟩ : ∃ y, out[i]? = some y := ⟨_, List.getElem?_eq_getElem (by omega)⟩
      have hdr : out.drop i = y0 :: out.drop (i + 1) := by
        obtain ⟨hio, hy⟩ := List.getElem?_eq_some_iff.1 ho'
        rw [List.drop_eq_getElem_cons hio, hy]
      have hs : s[i]? = some y0 := by
        rw [hI, List.getElem?_append_right (by simp [finS]; omega)]
        rw [show i - (finS (out.take i) (rs.take i)).length = 0 by simp [finS]; omega]
        rw [hdr]; rfl
      rw [hf i s hlen hi, hidx, idx_nat hs]
      simp only [Option.bind_some]
      have h1 : s.set i (putR y0 x) = finS (out.take (i + 1)) (rs.take (i + 1)) ++ out.drop (i + 1) := by
        rw [hI, List.set_append_right _ _ (by simp [finS]; omega)]
        rw [show i - (finS (out.take i) (rs.take i)).length = 0 by simp [finS]; omega]
        rw [hdr, List.set_cons_zero, take_snoc ho', take_snoc hx]
        have : finS (out.take i ++ [y0]) (rs.take i ++ [x]) = finS (out.take i) (rs.take i) ++ [putR y0 x] := by
          unfold finS
          rw [List.zipWith_append (by simp; omega)]
          rfl
        rw [this, List.append_assoc]; rfl
      rw [h1]) (by omega) (by simp [finS])
  exact key

theorem giveF_len : ∀ (n : Nat) (p r : List Int), (giveF n p r).1.length = p.length
  | 0, p, r => rfl
  | n + 1, p, r => by
    simp only [giveF]
    split
    · rfl
    · rw [giveF_len n]; simp
theorem round_len {l : List Int} (h : l.all valB = true) (hl : l.length ≤ 4096) : (roundS l).length = l.length := by
  unfold roundS
  rw [if_neg (by omega), h]
  simp [giveF_len, floS]

theorem taxLines_p {N : Nat} {taxes : List ApiTax} (ht : taxes.length ≤ 4096) (hN : 5000 ≤ N) (lines : List ApiLine) (t : Int) : tax_Lines N taxes lines t = some (taxLinesS taxes lines t) := by
  unfold tax_Lines taxLinesS
  by_cases h : (lines.length : Int) > 4096
  · simp [h]
  · rw [if_neg (by simpa using h), if_neg h]
    have hl : lines.length ≤ 4096 := by omega
    obtain ⟨m, hm, hmap⟩ := cats_p hl hN
    have hc : (catsS lines).length ≤ 4096 := by have := catsS_len lines []; simp at this; unfold catsS; omega
    rw [hm]
    simp only [Option.bind_some]
    have hget : ∀ c, (findL (k := .str) c m).getD ([] : List Int) = amtsS lines c := by
      intro c
      rw [hmap]
      by_cases hA : amtsS lines c = []
      · rw [if_pos hA, hA]; rfl
      · rw [if_neg hA]; rfl
    rw [linesLoop (f := tax_Lines_l1 N (catsS lines) m taxes t) (taxes := taxes) (lines := lines) (t := t) hc (fun s => by simp [tax_Lines_l1]) (fun i c s hx hI => ?_) hN]
    · cases hg : linesGo taxes lines t ([], []) (catsS lines) with
      | inr e => rfl
      | inl q =>
        obtain ⟨g1, g2, g3⟩ := go_len (n := 0) ⟨rfl, rfl, Nat.le_refl _⟩ hg
        have hql : q.2.length ≤ 4096 := by omega
        have hrl := round_len g2 hql
        simp only [Option.bind_some, round_p hN]
        have w := finLoop (f := tax_Lines_l2 N (roundS q.2)) (rs := roundS q.2) (out := q.1) (by omega) (fun o ho => by simp [tax_Lines_l2]) (fun i o ho hi => by
          have e1 : idx (roundS q.2) (i : Int) = some (roundS q.2)[i] := idx_get hi
          have e2 : idx o (i : Int) = some (o[i]'(by omega)) := idx_get (by omega)
          simp only [tax_Lines_l2, decide_eq_true (show (i : Int) < ((roundS q.2).length : Int) by omega), if_true, e1, e2, Option.bind_some, Int.toNat_natCast, wrap_succ (show i < maxLen by rw [maxLen_val]; omega)]
          rfl) hN (by omega)
        rw [w]
        rfl
    · have hi := (List.getElem?_eq_some_iff.1 hx).1
      obtain ⟨s1, s2⟩ := s
      have hlen := hI.2.2
      have hlen2 : s2.length ≤ i := by have := hI.1; simp only at this hlen; omega
      simp only at hlen
      simp only [tax_Lines_l1, decide_eq_true (show (i : Int) < ((catsS lines).length : Int) by omega), if_true, idx_nat hx, Option.bind_some, hget, tax_sum, sum_p hN, points_p ht hN, perc_p hN, lineStep, wrap_succ (show i < maxLen by rw [maxLen_val]; omega)]
      cases h1 : ((sumS (amtsS lines c)).2 != 0) with
      | true => simp
      | false =>
        simp only [Bool.false_eq_true, if_false]
        cases h2 : (ptsS taxes c t == 0) with
        | true => simp
        | false =>
          simp only [Bool.false_eq_true, if_false]
          cases h3 : ((percS (sumS (amtsS lines c)).1 (ptsS taxes c t)).2 != 0) with
          | true => simp
          | false =>
            simp only [Bool.false_eq_true, if_false]
            rw [app_of (by simp; omega)]
            simp only [Option.bind_some]
            rw [app_of (by simp; omega)]
            rfl
theorem taxLines_r {N : Nat} {taxes : List ApiTax} (ht : taxes.length ≤ 4096) (hN : 5000 ≤ N) (lines : List ApiLine) (t : Int) : billingref45_Lines N taxes lines t = some (taxLinesS taxes lines t) := by
  unfold billingref45_Lines taxLinesS
  by_cases h : (lines.length : Int) > 4096
  · simp [h]
  · rw [if_neg (by simpa using h), if_neg h]
    have hl : lines.length ≤ 4096 := by omega
    have hc : (catsS lines).length ≤ 4096 := by have := catsS_len lines []; simp at this; unfold catsS; omega
    rw [cats_r hl hN]
    simp only [Option.bind_some]
    rw [linesLoop (f := billingref45_Lines_l1 N (catsS lines) lines taxes t) (taxes := taxes) (lines := lines) (t := t) hc (fun s => by simp [billingref45_Lines_l1]) (fun i c s hx hI => ?_) hN]
    · cases hg : linesGo taxes lines t ([], []) (catsS lines) with
      | inr e => rfl
      | inl q =>
        obtain ⟨g1, g2, g3⟩ := go_len (n := 0) ⟨rfl, rfl, Nat.le_refl _⟩ hg
        have hql : q.2.length ≤ 4096 := by omega
        have hrl := round_len g2 hql
        simp only [Option.bind_some, round_r hN]
        have w := finLoop (f := billingref45_Lines_l2 N) (rs := roundS q.2) (out := q.1) (by omega) (fun o ho => by simp [billingref45_Lines_l2, ho]) (fun i o ho hi => by
          have e1 : idx (roundS q.2) (i : Int) = some (roundS q.2)[i] := idx_get hi
          have e2 : idx o (i : Int) = some (o[i]'(by omega)) := idx_get (by omega)
          simp only [billingref45_Lines_l2, decide_eq_true (show (i : Int) < (o.length : Int) by omega), if_true, e1, e2, Option.bind_some, Int.toNat_natCast, wrap_succ (show i < maxLen by rw [maxLen_val]; omega)]
          rfl) hN (by omega)
        rw [w]
        rfl
    · have hi := (List.getElem?_eq_some_iff.1 hx).1
      obtain ⟨s1, s2⟩ := s
      have hlen := hI.2.2
      have hlen2 : s2.length ≤ i := by have := hI.1; simp only at this hlen; omega
      simp only at hlen
      simp only [billingref45_Lines_l1, decide_eq_true (show (i : Int) < ((catsS lines).length : Int) by omega), if_true, idx_nat hx, Option.bind_some, base_r hl hN, points_r ht hN, perc_r hN, lineStep, wrap_succ (show i < maxLen by rw [maxLen_val]; omega)]
      cases h1 : ((sumS (amtsS lines c)).2 != 0) with
      | true => simp
      | false =>
        simp only [Bool.false_eq_true, if_false]
        cases h2 : (ptsS taxes c t == 0) with
        | true => simp
        | false =>
          simp only [Bool.false_eq_true, if_false]
          cases h3 : ((percS (sumS (amtsS lines c)).1 (ptsS taxes c t)).2 != 0) with
          | true => simp
          | false =>
            simp only [Bool.false_eq_true, if_false]
            rw [app_of (by simp; omega)]
            simp only [Option.bind_some]
            rw [app_of (by simp; omega)]
            rfl

theorem same_refl {N : Nat} {l : List ApiTaxLine} (hl : l.length ≤ 4096) (hN : 5000 ≤ N) : billingref45_Same N l l = some true := by
  unfold billingref45_Same
  rw [if_neg (by simp)]
  have key := loop_list (n := N) (s := ()) l (by rw [maxLen_val]; omega) (f := billingref45_Same_l1 N l l) (fun s i => i) (fun i s => True) (fun s xs => .inl ())
    (fun s hI h => by simp [billingref45_Same_l1]) (fun s i x xs hx hlt hidx hw hd hI => .inl ⟨(), by simp [billingref45_Same_l1, hidx, hw]; exact (List.getElem?_eq_some_iff.1 hx).1, trivial, rfl⟩) (by omega) trivial
  rw [key]
  rfl
theorem taxLines_len (taxes : List ApiTax) (lines : List ApiLine) (t : Int) : (taxLinesS taxes lines t).2.length ≤ 4096 := by
  unfold taxLinesS
  split
  · simp
  · rename_i h
    split
    · rename_i q hq
      obtain ⟨g1, g2, g3⟩ := go_len (n := 0) ⟨rfl, rfl, Nat.le_refl _⟩ hq
      have := catsS_len lines []
      simp at this
      unfold catsS at g3
      simp only [finS, List.length_zipWith]
      omega
    · simp
theorem small_ok {N : Nat} (hN : 5000 ≤ N) (l : List ApiTax) (lines : List ApiLine) : ∃ b, billinglaw45_small N l lines = some b ∧ (b = true → l.length ≤ 40 ∧ lines.length ≤ 60) := by
  unfold billinglaw45_small
  cases hc : (decide ((l.length : Int) ≤ 40) && decide ((lines.length : Int) ≤ 60)) with
  | false => exact ⟨false, rfl, fun h => by cases h⟩
  | true =>
    simp only [Bool.and_eq_true, decide_eq_true_eq] at hc
    obtain ⟨r, hr⟩ := check_ok hN (l := l) (by omega)
    rw [hr]
    exact ⟨_, rfl, fun _ => by omega⟩
theorem law_TaxLines (x0 : List ApiTax) (g0 : gd (.sl tyApiTax) x0) (x1 : List ApiLine) (g1 : gd (.sl tyApiLine) x1) (x2 : Int) (g2 : gd (.int .i64) x2) : ∃ N, billinglaw45_TaxLines N x0 x1 x2 = some true := by
  refine ⟨10000 + 64, ?_⟩
  unfold billinglaw45_TaxLines
  obtain ⟨b, hb, hs⟩ := small_ok (N := 10000 + 64) (by omega) x0 x1
  rw [awake45, hb]
  cases b with
  | false => rfl
  | true =>
    have := hs rfl
    simp only [Option.bind_some, taxLines_p (taxes := x0) (N := 10000 + 64) (by omega) (by omega), taxLines_r (taxes := x0) (N := 10000 + 64) (by omega) (by omega), same_refl (taxLines_len x0 x1 x2) (show 5000 ≤ 10000 + 64 by omega)]
    simp
end Gx
