/- Taxes: sums. -/
import Derived.Test.YtaekakpannjacaaXPTax3
namespace Gx
open Go Gd
set_option linter.unusedVariables false
set_option linter.unusedSimpArgs false

/-! ## Rounded parts add up -/
theorem sum_set1 : ∀ {p : List Int} {j : Nat}, j < p.length → (p.set j (p.getD j 0 + 1)).sum = p.sum + 1
  | [], j, h => by simp at h
  | x :: p, 0, h => by simp; omega
  | x :: p, j + 1, h => by
    have := sum_set1 (p := p) (j := j) (by simpa using h)
    simp only [List.set_cons_succ, List.sum_cons, List.getD_cons_succ, this]
    omega
theorem giveF_sum : ∀ (n : Nat) (p r : List Int), p.length = r.length → n ≤ cnt r → (giveF n p r).1.sum = p.sum + (n : Int)
  | 0, p, r, _, _ => by simp [giveF]
  | n + 1, p, r, hl, hc => by
    rcases bestS_ok r with ⟨h1, h2⟩ | ⟨j, h1, h2, h3, h4⟩
    · exfalso
      have : 0 < cnt r := by omega
      obtain ⟨x, hx, hp⟩ := List.countP_pos_iff.1 this
      obtain ⟨i, hi, he⟩ := List.getElem_of_mem hx
      have := h2 i hi
      rw [List.getD_eq_getElem?_getD, List.getElem?_eq_getElem hi, he] at this
      simp at hp this
      omega
    · have hc' := cnt_set h2 h3
      simp only [giveF, h1, show ¬ ((j : Int) < 0) by omega, if_false, Int.toNat_natCast]
      rw [giveF_sum n _ _ (by simpa using hl) (by omega), sum_set1 (by omega)]
      push_cast; omega
theorem giveF_mem {lo hi : Int} : ∀ (n : Nat) (p r : List Int), p.length = r.length → (∀ x ∈ p, lo ≤ x ∧ x ≤ hi) → ∀ x ∈ (giveF n p r).1, lo ≤ x ∧ x ≤ hi + n
  | 0, p, r, _, h, x, hx => by have := h x hx; simp; omega
  | n + 1, p, r, hl, h, x, hx => by
    simp only [giveF] at hx
    split at hx
    · have := h x hx; push_cast; omega
    · rename_i hb
      have key := giveF_mem (lo := lo) (hi := hi + 1) n (p.set (bestS r).toNat (p.getD (bestS r).toNat 0 + 1)) (r.set (bestS r).toNat (-1)) (by simpa using hl) (fun y hy => by
        rcases bestS_ok r with ⟨h1, h2⟩ | ⟨j, h1, h2, h3, h4⟩
        · omega
        · rw [h1] at hy
          simp only [Int.toNat_natCast] at hy
          rcases List.mem_or_eq_of_mem_set hy with hy | rfl
          · have := h y hy; omega
          · have hj : j < p.length := by omega
            have := h _ (List.getElem_mem hj)
            rw [List.getD_eq_getElem?_getD, List.getElem?_eq_getElem hj]
            simp only [Option.getD_some]
            omega) x hx
      push_cast; omega
theorem flo_res : ∀ l : List Int, l.sum = 10000 * (floS l).sum + (resS l).sum
  | [] => rfl
  | x :: l => by
    have := flo_res l
    simp only [floS, resS, List.map_cons, List.sum_cons] at *
    have := Int.mul_ediv_add_emod x 10000
    omega
theorem res_bound : ∀ l : List Int, 0 ≤ (resS l).sum ∧ (resS l).sum ≤ 9999 * (l.length : Int)
  | [] => by simp [resS]
  | x :: l => by
    have := res_bound l
    simp only [resS, List.map_cons, List.sum_cons, List.length_cons] at *
    have h1 := Int.emod_nonneg x (b := 10000) (by omega)
    have h2 := Int.emod_lt_of_pos x (b := 10000) (by omega)
    push_cast; omega
theorem cnt_res (l : List Int) : cnt (resS l) = l.length := by
  unfold cnt
  rw [List.countP_eq_length.2]
  · simp [resS]
  · intro x hx
    simp only [resS, List.mem_map] at hx
    obtain ⟨y, _, rfl⟩ := hx
    have := Int.emod_nonneg y (b := 10000) (by omega)
    simpa using this
theorem round_n {l : List Int} : 0 ≤ rndS l.sum - (floS l).sum ∧ rndS l.sum - (floS l).sum ≤ (l.length : Int) := by
  have h1 := flo_res l
  have h2 := res_bound l
  have h3 := rnd_bound (a := l.sum)
  constructor <;> omega
theorem round_sum {l : List Int} (hl : l.length ≤ 4096) (h : l.all valB = true) : (roundS l).sum = rndS l.sum := by
  unfold roundS
  rw [if_neg (by omega), h]
  simp only [cond_true]
  have := round_n (l := l)
  rw [giveF_sum _ _ _ (by simp [floS, resS]) (by rw [cnt_res]; omega)]
  omega
theorem round_mem {l : List Int} (hl : l.length ≤ 4096) (h : l.all valB = true) : ∀ x ∈ roundS l, -112589990685 ≤ x ∧ x ≤ 112589994781 := by
  unfold roundS
  rw [if_neg (by omega), h]
  simp only [cond_true]
  intro x hx
  have hn := round_n (l := l)
  have := giveF_mem (lo := -112589990685) (hi := 112589990685) _ _ _ (by simp [floS, resS]) (fun y hy => by
    simp only [floS, List.mem_map] at hy
    obtain ⟨z, hz, rfl⟩ := hy
    have := valB_iff.1 (List.all_eq_true.1 h z hz)
    omega) x hx
  omega

/-! ## Categories do not depend on the order -/
def asc (l : List Str) : Prop := l.Pairwise fun a b => bl a b = true
theorem asc_ext : ∀ {l m : List Str}, asc l → asc m → (∀ c, c ∈ l ↔ c ∈ m) → l = m
  | [], [], _, _, _ => rfl
  | [], y :: m, _, _, h => by have := (h y).2 (by simp); cases this
  | x :: l, [], _, _, h => by have := (h x).1 (by simp); cases this
  | x :: l, y :: m, hl, hm, h => by
    have hl' := List.pairwise_cons.1 hl
    have hm' := List.pairwise_cons.1 hm
    have hxy : x = y := by
      rcases List.mem_cons.1 ((h x).1 (by simp)) with e | e
      · exact e
      · rcases List.mem_cons.1 ((h y).2 (by simp)) with e2 | e2
        · exact e2.symm
        · have h1 := hm'.1 x e
          have h2 := hl'.1 y e2
          rw [bl_asymm h1] at h2; cases h2
    subst hxy
    rw [asc_ext hl'.2 hm'.2 (fun c => by
      have := h c
      simp only [List.mem_cons] at this
      constructor
      · intro hc
        rcases this.1 (.inr hc) with e | e
        · subst e; exact absurd rfl (bl_ne (hl'.1 _ hc))
        · exact e
      · intro hc
        rcases this.2 (.inr hc) with e | e
        · subst e; exact absurd rfl (bl_ne (hm'.1 _ hc))
        · exact e)]
theorem asc_ins {l : List Str} {c : Str} (h : asc l) (hc : c ∉ l) : asc (insS l c) := by
  induction l with
  | nil => simp [insS, insAt, asc]
  | cons y l ih =>
    have h' := List.pairwise_cons.1 h
    cases hb : bl y c with
    | true =>
      have e : insS (y :: l) c = y :: insS l c := by simp [insS, insAt, hb]
      rw [e]
      refine List.pairwise_cons.2 ⟨fun z hz => ?_, ih h'.2 (fun hm => hc (List.mem_cons_of_mem _ hm))⟩
      rcases mem_insS.1 hz with rfl | hz
      · exact hb
      · exact h'.1 z hz
    | false =>
      have e : insS (y :: l) c = c :: y :: l := by simp [insS, insAt, hb]
      rw [e]
      have hcy : bl c y = true := by
        cases hk : bl c y with
        | true => rfl
        | false => exact absurd (bl_total hb hk) (fun e => hc (by simp [e]))
      refine List.pairwise_cons.2 ⟨fun z hz => ?_, h⟩
      rcases List.mem_cons.1 hz with rfl | hz
      · exact hcy
      · exact bl_trans hcy (h'.1 z hz)
theorem asc_step {acc : List Str} {x : ApiLine} (h : asc acc) : asc (catStep acc x) := by
  unfold catStep
  split
  · exact h
  · rename_i hc
    exact asc_ins h (by simpa using hc)
theorem mem_step {acc : List Str} {x : ApiLine} {c : Str} : c ∈ catStep acc x ↔ c = x.Category ∨ c ∈ acc := by
  unfold catStep
  split
  · rename_i hc
    have : x.Category ∈ acc := by simpa using hc
    constructor
    · exact .inr
    · rintro (rfl | h)
      · exact this
      · exact h
  · exact mem_insS
theorem cats_go : ∀ (l : List ApiLine) (acc : List Str), asc acc → asc (l.foldl catStep acc) ∧ ∀ c, c ∈ l.foldl catStep acc ↔ c ∈ acc ∨ c ∈ l.map fun x => x.Category
  | [], acc, h => ⟨h, by simp⟩
  | x :: l, acc, h => by
    obtain ⟨h1, h2⟩ := cats_go l (catStep acc x) (asc_step h)
    refine ⟨h1, fun c => ?_⟩
    simp only [List.foldl_cons, h2, mem_step, List.map_cons, List.mem_cons]
    constructor
    · rintro ((h | h) | h)
      · exact .inr (.inl h)
      · exact .inl h
      · exact .inr (.inr h)
    · rintro (h | h | h)
      · exact .inl (.inr h)
      · exact .inl (.inl h)
      · exact .inr h
theorem cats_asc (l : List ApiLine) : asc (catsS l) := (cats_go l [] List.Pairwise.nil).1
theorem mem_cats {l : List ApiLine} {c : Str} : c ∈ catsS l ↔ c ∈ l.map fun x => x.Category := by
  have := (cats_go l [] List.Pairwise.nil).2 c
  simpa [catsS] using this
theorem cats_reverse (l : List ApiLine) : catsS l.reverse = catsS l := asc_ext (cats_asc _) (cats_asc _) (fun c => by rw [mem_cats, mem_cats]; simp)
theorem amts_reverse (l : List ApiLine) (c : Str) : amtsS l.reverse c = (amtsS l c).reverse := by simp [amtsS, List.filter_reverse]
theorem sumInt_append : ∀ a b : List Int, (a ++ b).sum = a.sum + b.sum
  | [], b => by simp
  | x :: a, b => by simp only [List.cons_append, List.sum_cons, sumInt_append a b]; omega
theorem sumInt_reverse : ∀ l : List Int, l.reverse.sum = l.sum
  | [] => rfl
  | x :: l => by simp only [List.reverse_cons, sumInt_append, sumInt_reverse l, List.sum_cons, List.sum_nil]; omega
theorem sum_reverse (l : List Int) : sumS l.reverse = sumS l := by
  unfold sumS
  rw [List.length_reverse, List.all_reverse, sumInt_reverse]
theorem go_congr {taxes : List ApiTax} {l m : List ApiLine} {t : Int} (h : ∀ c, sumS (amtsS l c) = sumS (amtsS m c)) : ∀ (cs : List Str) s, linesGo taxes l t s cs = linesGo taxes m t s cs
  | [], s => rfl
  | c :: cs, s => by
    have e : lineStep taxes l t c = lineStep taxes m t c := by unfold lineStep; rw [h c]
    simp only [linesGo, e, go_congr h cs]
theorem lines_reverse (taxes : List ApiTax) (l : List ApiLine) (t : Int) : taxLinesS taxes l.reverse t = taxLinesS taxes l t := by
  unfold taxLinesS
  rw [List.length_reverse, cats_reverse, go_congr (l := l.reverse) (m := l) (fun c => by rw [amts_reverse, sum_reverse])]

/-! ## The form of a list of taxes -/
def okCat (taxes : List ApiTax) (lines : List ApiLine) (t : Int) (c : Str) : Prop := (sumS (amtsS lines c)).2 = 0 ∧ ptsS taxes c t ≠ 0 ∧ (percS (sumS (amtsS lines c)).1 (ptsS taxes c t)).2 = 0
def mkT (taxes : List ApiTax) (lines : List ApiLine) (t : Int) (c : Str) : ApiTaxLine := (c, ptsS taxes c t, (sumS (amtsS lines c)).1, 0)
def mkX (taxes : List ApiTax) (lines : List ApiLine) (t : Int) (c : Str) : Int := (percS (sumS (amtsS lines c)).1 (ptsS taxes c t)).1
theorem go_form {taxes : List ApiTax} {lines : List ApiLine} {t : Int} : ∀ {cs : List Str} {s q : List ApiTaxLine × List Int}, linesGo taxes lines t s cs = .inl q →
    ∃ ds : List Str, ds.Sublist cs ∧ (∀ c ∈ ds, okCat taxes lines t c) ∧ q = (s.1 ++ ds.map (mkT taxes lines t), s.2 ++ ds.map (mkX taxes lines t))
  | [], s, q, h => by simp [linesGo] at h; subst h; exact ⟨[], List.Sublist.refl _, by simp, by simp⟩
  | c :: cs, s, q, h => by
    simp only [linesGo] at h
    split at h
    · cases h
    · obtain ⟨ds, h1, h2, h3⟩ := go_form h
      exact ⟨ds, h1.trans (List.sublist_cons_self _ _), h2, h3⟩
    · rename_i x hx
      obtain ⟨e1, e2, e3, e4, e5⟩ := line_valid hx
      obtain ⟨ds, h1, h2, h3⟩ := go_form h
      refine ⟨c :: ds, h1.cons_cons c, fun d hd => ?_, ?_⟩
      · rcases List.mem_cons.1 hd with rfl | hd
        · exact ⟨e3, e4, e5⟩
        · exact h2 d hd
      · rw [h3, e1, e2]
        simp [mkT, mkX]
theorem lines_form (taxes : List ApiTax) (lines : List ApiLine) (t : Int) : ∃ ds, asc ds ∧ ds.length ≤ 4096 ∧ (∀ c ∈ ds, okCat taxes lines t c) ∧ (taxLinesS taxes lines t).2 = finS (ds.map (mkT taxes lines t)) (roundS (ds.map (mkX taxes lines t))) := by
  unfold taxLinesS
  split
  · exact ⟨[], List.Pairwise.nil, by simp, by simp, rfl⟩
  · rename_i h
    split
    · rename_i q hq
      obtain ⟨ds, h1, h2, h3⟩ := go_form hq
      have hlen := catsS_len lines []
      simp at hlen
      have := h1.length_le
      unfold catsS at this
      exact ⟨ds, (cats_asc lines).sublist h1, by omega, h2, by rw [h3]; simp⟩
    · exact ⟨[], List.Pairwise.nil, by simp, by simp, rfl⟩
theorem sum_zero {l : List Int} (h : (sumS l).2 = 0) : l.length ≤ 4096 ∧ l.all valB = true ∧ (sumS l).1 = l.sum ∧ valB l.sum = true := by
  unfold sumS at *
  split at h
  · cases h
  · rename_i hl
    rw [if_neg hl]
    cases hv : l.all valB with
    | false => rw [hv] at h; cases h
    | true =>
      rw [hv] at h
      simp only [cond_true] at h ⊢
      unfold chkS at *
      cases hs : valB l.sum with
      | false => rw [hs] at h; cases h
      | true => exact ⟨by omega, trivial, rfl, rfl⟩

/-! ## The loops of the law -/
theorem backLoop {N : Nat} {l : List ApiLine} (hl : l.length ≤ 4096) (hN : 5000 ≤ N) : loopN (billinglaw45_TaxSums_l1 N l) N ((IntKind.wrap .i64 ((List.length l : Int) - 1)), ([] : List ApiLine)) = some l.reverse := by
  rw [wrap64 (by omega) (by omega)]
  obtain ⟨r, h1, h2⟩ := loopN_inv (f := billinglaw45_TaxSums_l1 N l) (n := N) (s := (((List.length l : Int) - 1), ([] : List ApiLine))) l.length
    (fun i s => s = ((l.length : Int) - 1 - (i : Int), l.reverse.take i)) (fun r => r = l.reverse) (fun i s hi hs => by
      subst hs
      rcases Nat.lt_or_ge i l.length with hlt | hge
      · obtain ⟨x, hx⟩ : ∃ x, l[l.length - 1 - i]? = some x := ⟨_, List.getElem?_eq_getElem (by omega)⟩
        have hr : l.reverse[i]? = some x := by rw [List.getElem?_reverse hlt, hx]
        refine .inl ⟨_, hlt, ?_, rfl⟩
        have e : (l.length : Int) - 1 - (i : Int) = ((l.length - 1 - i : Nat) : Int) := by omega
        simp only [billinglaw45_TaxSums_l1]
        rw [decide_eq_true (show (l.length : Int) - 1 - (i : Int) ≥ 0 by omega), e, idx_nat hx]
        simp only [if_true, Option.bind_some]
        rw [app_of (by simp; omega)]
        simp only [Option.bind_some]
        rw [wrap64 (by omega) (by omega), take_snoc hr]
        congr 2
        congr 1
        omega
      · have : i = l.length := by omega
        subst this
        refine .inr ⟨_, ?_, rfl⟩
        simp only [billinglaw45_TaxSums_l1]
        rw [decide_eq_false (show ¬ ((l.length : Int) - 1 - (l.length : Int) ≥ 0) by omega)]
        have : l.reverse.take l.length = l.reverse := List.take_of_length_le (by simp)
        simp [this]) (by omega) (by simp)
  rw [h1, h2]

theorem baseLoop {N : Nat} {lines : List ApiLine} {r4 : List ApiTaxLine} {i : Nat} {x : ApiTaxLine} (hl : lines.length ≤ 4096) (hN : 5000 ≤ N) (hx : r4[i]? = some x) (hv : (amtsS lines x.Category).all valB = true) :
    loopN (billinglaw45_TaxSums_l2 N lines r4 (i : Int)) N (0, 0) = some (amtsS lines x.Category).sum := by
  have key := loop_list (n := N) (s := (0 : Int)) lines (by rw [maxLen_val]; omega) (f := billinglaw45_TaxSums_l2 N lines r4 (i : Int)) (fun s i => (s, i)) (fun k s => s = (amtsS (lines.take k) x.Category).sum) (fun s xs => (amtsS lines x.Category).sum)
    (fun s hI h => by rw [List.take_length] at hI; subst hI; simp [billinglaw45_TaxSums_l2]) (fun s k y ys hy hlt hidx hw hd hI => by
      subst hI
      have hk := (List.getElem?_eq_some_iff.1 hy).1
      refine .inl ⟨(amtsS (lines.take (k + 1)) x.Category).sum, ?_, rfl, rfl⟩
      simp only [billinglaw45_TaxSums_l2, hlt, if_true, hidx, idx_nat hx, Option.bind_some, hw]
      rw [take_snoc hy, amts_snoc, sumInt_append]
      have hall : (amtsS (lines.take k) x.Category).all valB = true := by
        have e : amtsS lines x.Category = amtsS (lines.take k) x.Category ++ amtsS (lines.drop k) x.Category := by
          unfold amtsS
          rw [← List.map_append, ← List.filter_append, List.take_append_drop]
        rw [e, List.all_append, Bool.and_eq_true] at hv
        exact hv.1
      have hb := sum_bound hall
      have hlen := amts_len (lines.take k) x.Category
      have hlen2 : (amtsS (lines.take k) x.Category).length ≤ 4096 := by simp at hlen; omega
      cases hc : (y.Category == x.Category) with
      | false => simp
      | true =>
        have hyv : valB y.Amount = true := by
          have : y.Amount ∈ amtsS lines x.Category := by
            unfold amtsS
            exact List.mem_map.2 ⟨y, List.mem_filter.2 ⟨List.mem_of_getElem? hy, hc⟩, rfl⟩
          exact List.all_eq_true.1 hv _ this
        have := valB_iff.1 hyv
        simp only [if_true, Option.bind_some, List.sum_cons, List.sum_nil, Int.add_zero]
        rw [wrap64 (by omega) (by omega)]) (by omega) (by simp [amtsS])
  exact key

theorem sumsLoop {N : Nat} {taxes : List ApiTax} {lines : List ApiLine} {t : Int} {ds : List Str} (ht : taxes.length ≤ 4096) (hl : lines.length ≤ 4096) (hN : 5000 ≤ N) (ha : asc ds) (hd : ds.length ≤ 4096) (hok : ∀ c ∈ ds, okCat taxes lines t c) :
    loopN (billinglaw45_TaxSums_l3 N (finS (ds.map (mkT taxes lines t)) (roundS (ds.map (mkX taxes lines t)))) lines taxes t) N (0, 0, 0) = some (.inl ((ds.map (mkX taxes lines t)).sum, (roundS (ds.map (mkX taxes lines t))).sum)) := by
  have hX : (ds.map (mkX taxes lines t)).all valB = true := by
    rw [List.all_eq_true]
    intro y hy
    obtain ⟨c, hc, rfl⟩ := List.mem_map.1 hy
    exact perc_valid (hok c hc).2.2
  have hXl : (ds.map (mkX taxes lines t)).length ≤ 4096 := by simpa using hd
  generalize hxs : ds.map (mkX taxes lines t) = xs at *
  have hrl := round_len hX hXl
  have hrm := round_mem hXl hX
  generalize hrs : roundS xs = rs at *
  have hlen : xs.length = ds.length := by rw [← hxs]; simp
  have hfl : (finS (ds.map (mkT taxes lines t)) rs).length = ds.length := by simp [finS]; omega
  have hget : ∀ (k : Nat) (c : Str), ds[k]? = some c → ∃ r, rs[k]? = some r ∧ (finS (ds.map (mkT taxes lines t)) rs)[k]? = some (putR (mkT taxes lines t c) r) := by
    intro k c hc
    have hk := (List.getElem?_eq_some_iff.1 hc).1
    refine ⟨rs[k]'(by omega), List.getElem?_eq_getElem _, ?_⟩
    unfold finS
    rw [List.getElem?_zipWith]
    simp [hc, List.getElem?_eq_getElem (show k < rs.length by omega)]
  have key := loop_list (n := N) (s := ((0 : Int), (0 : Int))) (finS (ds.map (mkT taxes lines t)) rs) (by rw [maxLen_val]; omega) (f := billinglaw45_TaxSums_l3 N (finS (ds.map (mkT taxes lines t)) rs) lines taxes t)
    (fun s i => (s.1, s.2, i)) (fun k s => s = ((xs.take k).sum, (rs.take k).sum)) (fun s _ => .inl (xs.sum, rs.sum))
    (fun s hI h => by
      rw [hfl, ← hlen, List.take_length, hlen, ← hlen, ← hrl, List.take_length] at hI
      subst hI
      simp [billinglaw45_TaxSums_l3]) (fun s k x ys hx hlt hidx hw hdr hI => by
      subst hI
      have hk : k < ds.length := by have := (List.getElem?_eq_some_iff.1 hx).1; omega
      obtain ⟨c, hc⟩ : ∃ c, ds[k]? = some c := ⟨_, List.getElem?_eq_getElem hk⟩
      obtain ⟨r, hr, he⟩ := hget k c hc
      rw [he] at hx
      injection hx with hx
      subst hx
      obtain ⟨o1, o2, o3⟩ := hok c (List.mem_of_getElem? hc)
      obtain ⟨z1, z2, z3, z4⟩ := sum_zero o1
      have hxk : xs[k]? = some (mkX taxes lines t c) := by rw [← hxs]; simp [hc]
      refine .inl ⟨((xs.take (k + 1)).sum, (rs.take (k + 1)).sum), ?_, rfl, rfl⟩
      have hbase := baseLoop (N := N) (lines := lines) (r4 := finS (ds.map (mkT taxes lines t)) rs) (i := k) hl hN he z2
      have hperc : amount_Percent N (putR (mkT taxes lines t c) r).Base (putR (mkT taxes lines t c) r).Points = some (mkX taxes lines t c, 0) := by
        rw [perc_p hN]
        show some (percS (sumS (amtsS lines c)).1 (ptsS taxes c t)) = _
        rw [show mkX taxes lines t c = (percS (sumS (amtsS lines c)).1 (ptsS taxes c t)).1 from rfl, ← o3]
      have hpts : tax_Points N taxes (putR (mkT taxes lines t c) r).Category t = some (ptsS taxes c t) := points_p ht hN _ _
      simp only [billinglaw45_TaxSums_l3, hlt, if_true, hbase, hidx, Option.bind_some, hperc, hpts, bne_self_eq_false, Bool.false_eq_true, if_false]
      have e1 : ((amtsS lines (putR (mkT taxes lines t c) r).Category).sum != (putR (mkT taxes lines t c) r).Base) = false := by
        show ((amtsS lines c).sum != (sumS (amtsS lines c)).1) = false
        rw [z3]; simp
      have e2 : ((putR (mkT taxes lines t c) r).Points != ptsS taxes c t) = false := by
        show (ptsS taxes c t != ptsS taxes c t) = false
        simp
      have e3 : ((putR (mkT taxes lines t c) r).Points == 0) = false := by
        show (ptsS taxes c t == 0) = false
        simpa using o2
      rw [e1, e2, e3]
      simp only [Bool.false_eq_true, if_false]
      have hprev : (if decide ((k : Int) > 0) = true then (idx (finS (ds.map (mkT taxes lines t)) rs) (IntKind.wrap .i64 ((k : Int) - 1))).bind fun x33 => some (!(Op.bytesLess x33.Category (putR (mkT taxes lines t c) r).Category)) else some false) = some false := by
        by_cases h0 : (k : Int) > 0
        · rw [if_pos (by simpa using h0), wrap64 (by omega) (by omega), show (k : Int) - 1 = ((k - 1 : Nat) : Int) by omega]
          obtain ⟨c', hc'⟩ : ∃ c, ds[k - 1]? = some c := ⟨_, List.getElem?_eq_getElem (by omega)⟩
          obtain ⟨r', hr', he'⟩ := hget (k - 1) c' hc'
          rw [idx_nat he']
          have hlt2 : bl c' c = true := by
            obtain ⟨g1, g2⟩ := List.getElem?_eq_some_iff.1 hc'
            obtain ⟨g3, g4⟩ := List.getElem?_eq_some_iff.1 hc
            have := (List.pairwise_iff_getElem.1 ha) (k - 1) k g1 g3 (by omega)
            rw [g2, g4] at this
            exact this
          show some (!(Op.bytesLess c' c)) = some false
          rw [show Op.bytesLess c' c = true from hlt2]; rfl
        · rw [if_neg (by simpa using h0)]
      rw [hprev]
      simp only [Option.bind_some, Bool.false_eq_true, if_false, hw]
      have t1 : (xs.take (k + 1)).sum = (xs.take k).sum + mkX taxes lines t c := by rw [take_snoc hxk, sumInt_append]; simp
      have t2 : (rs.take (k + 1)).sum = (rs.take k).sum + r := by rw [take_snoc hr, sumInt_append]; simp
      have b1 : (xs.take (k + 1)).all valB = true := by
        rw [List.all_eq_true] at hX ⊢
        exact fun y hy => hX y (List.mem_of_mem_take hy)
      have b2 := sum_bound b1
      have b3 : (xs.take (k + 1)).length ≤ 4096 := by simp; omega
      have b4 : ∀ m : Nat, m ≤ rs.length → -112589990685 * (m : Int) ≤ (rs.take m).sum ∧ (rs.take m).sum ≤ 112589994781 * (m : Int) := by
        intro m
        induction m with
        | zero => intro _; simp
        | succ m ih =>
          intro hm
          have := ih (by omega)
          obtain ⟨y, hy⟩ : ∃ y, rs[m]? = some y := ⟨_, List.getElem?_eq_getElem (by omega)⟩
          have hyb := hrm y (List.mem_of_getElem? hy)
          rw [take_snoc hy, sumInt_append]
          simp only [List.sum_cons, List.sum_nil]
          push_cast; omega
      have b5 := b4 (k + 1) (by omega)
      have hr2 : (putR (mkT taxes lines t c) r).Rounded = r := rfl
      rw [hr2, ← t1, ← t2, wrap64 (by omega) (by omega), wrap64 (by omega) (by omega)]) (by omega) (by simp)
  exact key

theorem law_TaxSums (x0 : List ApiTax) (g0 : gd (.sl tyApiTax) x0) (x1 : List ApiLine) (g1 : gd (.sl tyApiLine) x1) (x2 : Int) (g2 : gd (.int .i64) x2) : ∃ N, billinglaw45_TaxSums N x0 x1 x2 = some true := by
  refine ⟨10000 + 64, ?_⟩
  unfold billinglaw45_TaxSums
  obtain ⟨b, hb, hs⟩ := small_ok (N := 10000 + 64) (by omega) x0 x1
  rw [awake45, hb]
  cases b with
  | false => rfl
  | true =>
    have := hs rfl
    have ht : x0.length ≤ 4096 := by omega
    have hl : x1.length ≤ 4096 := by omega
    obtain ⟨ds, d1, d2, d3, d4⟩ := lines_form x0 x1 x2
    simp only [Option.bind_some, taxLines_p (taxes := x0) (N := 10000 + 64) ht (by omega), backLoop (N := 10000 + 64) hl (by omega), lines_reverse, same_refl (taxLines_len x0 x1 x2) (show 5000 ≤ 10000 + 64 by omega), bne_self_eq_false, Bool.not_true, Bool.false_eq_true, if_false]
    rw [d4, sumsLoop (N := 10000 + 64) ht hl (by omega) d1 d2 d3]
    have hX : (ds.map (mkX x0 x1 x2)).all valB = true := by
      rw [List.all_eq_true]
      intro y hy
      obtain ⟨c, hc, rfl⟩ := List.mem_map.1 hy
      exact perc_valid (d3 c hc).2.2
    have hXl : (ds.map (mkX x0 x1 x2)).length ≤ 4096 := by simpa using d2
    have hb := sum_bound hX
    simp only [Option.bind_some]
    rw [rounded_p _ (by omega) (by omega), round_sum hXl hX]
    simp
end Gx
