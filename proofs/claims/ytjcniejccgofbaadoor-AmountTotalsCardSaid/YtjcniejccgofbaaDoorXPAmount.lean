/- Amounts: sums, rounding, ones that are given. -/
import Derived.Test.YtjcniejccgofbaaDoorXPBase
namespace Gx
open Go Gd
set_option linter.unusedVariables false
set_option linter.unusedSimpArgs false

/-- Is it an amount? -/
def valB (a : Int) : Bool := decide (a ≥ -1125899906842624) && decide (a ≤ 1125899906842624)
theorem valB_iff {a : Int} : valB a = true ↔ -1125899906842624 ≤ a ∧ a ≤ 1125899906842624 := by simp [valB]
theorem valid_p (N : Nat) (a : Int) : amount_Valid N a = some (valB a) := rfl
theorem valid_r (N : Nat) (a : Int) : billingref01_Valid N a = some (valB a) := rfl
/-- An amount, or an error. -/
def chkS (a : Int) : Int × Int := bif valB a then (a, 0) else (0, 6)
theorem checked_p (N : Nat) (a : Int) : amount_checked N a = some (chkS a) := by
  unfold amount_checked chkS
  rw [valid_p]
  cases valB a <;> rfl

/-! ## Sums -/
def sumS (l : List Int) : Int × Int := if (l.length : Int) > 4096 then (0, 5) else bif l.all valB then chkS l.sum else (0, 6)

theorem sum_bound {l : List Int} (h : l.all valB = true) : -1125899906842624 * (l.length : Int) ≤ l.sum ∧ l.sum ≤ 1125899906842624 * (l.length : Int) := by
  induction l with
  | nil => simp
  | cons x l ih =>
    simp only [List.all_cons, Bool.and_eq_true] at h
    have h1 := valB_iff.1 h.1
    have h2 := ih h.2
    simp only [List.sum_cons, List.length_cons]
    push_cast
    omega

theorem sumLoop {f : Int × Int → Option ((Int × Int) ⊕ (Int ⊕ (Int × Int)))} {l : List Int} (hl : l.length ≤ 4096)
    (hf : ∀ v1 v2, f (v1, v2) = if decide (v2 < (l.length : Int)) = true then (idx l v2).bind fun x => if (!valB x) = true then some (.inr (.inr (0, 6))) else some (.inl (IntKind.wrap .i64 (v1 + x), IntKind.wrap .i64 (v2 + 1))) else some (.inr (.inl v1)))
    {N : Nat} (hN : 5000 ≤ N) : loopN f N (0, 0) = some (bif l.all valB then .inl l.sum else .inr (0, 6)) := by
  have key := loop_list (n := N) (s := 0) l (by rw [maxLen_val]; omega) (f := f) (fun s i => (s, i)) (fun i s => (l.take i).all valB = true ∧ s = (l.take i).sum)
    (fun s xs => bif xs.all valB then .inl (s + xs.sum) else .inr (0, 6)) (fun s hI h => ?_) (fun s i x xs hx hlt hidx hw hd hI => ?_) (by omega) ⟨by simp, by simp⟩
  · rw [key]; simp
  · rw [hf, h]; simp
  · have hi := (List.getElem?_eq_some_iff.1 hx).1
    have ht : l.take (i + 1) = l.take i ++ [x] := by rw [List.take_add_one, hx]; rfl
    rw [hf, hlt, hidx]
    cases hv : valB x with
    | false => exact .inr (by simp [hv])
    | true =>
      refine .inl ⟨s + x, ?_, ⟨by rw [ht, List.all_append, hI.1]; simp [hv], by rw [ht, List.sum_append, ← hI.2]; simp⟩, by simp [hv, Int.add_assoc]⟩
      have h1 := sum_bound hI.1
      rw [← hI.2, List.length_take] at h1
      have h2 := valB_iff.1 hv
      have h3 : IntKind.wrap .i64 (s + x) = s + x := wrap64 (by omega) (by omega)
      simp [hv, h3, hw]

theorem sum_p {N : Nat} (hN : 5000 ≤ N) (l : List Int) : amount_Sum N l = some (sumS l) := by
  unfold amount_Sum sumS
  by_cases h : (l.length : Int) > 4096
  · simp [h]
  · rw [if_neg h, if_neg (by simpa using h), sumLoop (l := l) (by omega) (fun v1 v2 => by simp only [amount_Sum_l1, valid_p]; rfl) hN]
    cases l.all valB <;> simp [checked_p]
theorem sum_r {N : Nat} (hN : 5000 ≤ N) (l : List Int) : billingref01_Sum N l = some (sumS l) := by
  unfold billingref01_Sum sumS
  by_cases h : (l.length : Int) > 4096
  · simp [h]
  · rw [if_neg h, if_neg (by simpa using h), sumLoop (l := l) (by omega) (fun v1 v2 => ?_) hN]
    · cases l.all valB with
      | true =>
        simp only [cond_true, Option.bind_some, valid_r, chkS]
        cases valB l.sum <;> simp
      | false => rfl
    · simp only [billingref01_Sum_l1, valid_r]
      split
      · cases idx l v2 <;> rfl
      · rfl

/-! ## Minor units -/
def rndS (a : Int) : Int := if Int.tmod a 10000 ≥ 5000 then Int.tdiv a 10000 + 1 else if Int.tmod a 10000 ≤ -5000 then Int.tdiv a 10000 - 1 else Int.tdiv a 10000
theorem tdm (a : Int) : Int.tdiv a 10000 * 10000 + Int.tmod a 10000 = a ∧ -10000 < Int.tmod a 10000 ∧ Int.tmod a 10000 < 10000 ∧ (0 ≤ a → 0 ≤ Int.tmod a 10000) ∧ (a ≤ 0 → Int.tmod a 10000 ≤ 0) := by
  have h1 := Int.tmod_def a 10000
  refine ⟨by omega, ?_, ?_, fun h => Int.tmod_nonneg _ h, fun h => ?_⟩
  · have := Int.lt_tmod_of_pos a (b := 10000) (by omega); omega
  · exact Int.tmod_lt_of_pos a (by omega)
  · have := Int.tmod_nonneg 10000 (a := -a) (by omega)
    rw [Int.neg_tmod] at this; omega
theorem rounded_p (N : Nat) {a : Int} (h0 : -9223372036854775808 ≤ a) (h1 : a < 9223372036854775808) : amount_Rounded N a = some (rndS a) := by
  obtain ⟨t1, t2, t3, t4, t5⟩ := tdm a
  have w1 : IntKind.wrap .i64 (Int.tdiv a 10000) = Int.tdiv a 10000 := wrap64 (by omega) (by omega)
  have w2 : IntKind.wrap .i64 (Int.tdiv a 10000 + 1) = Int.tdiv a 10000 + 1 := wrap64 (by omega) (by omega)
  have w3 : IntKind.wrap .i64 (Int.tdiv a 10000 - 1) = Int.tdiv a 10000 - 1 := wrap64 (by omega) (by omega)
  unfold amount_Rounded rndS
  rw [w1, w2, w3]
  simp only [decide_eq_true_eq]
  split
  · rfl
  · split <;> rfl
theorem rounded_r (N : Nat) {a : Int} (h0 : -9223372036854775808 ≤ a) (h1 : a < 9223372036854775808) : billingref01_Rounded N a = some (rndS a) := by
  obtain ⟨t1, t2, t3, t4, t5⟩ := tdm a
  have w1 : IntKind.wrap .i64 (Int.tdiv a 10000) = Int.tdiv a 10000 := wrap64 (by omega) (by omega)
  have w2 : IntKind.wrap .i64 (Int.tdiv a 10000 + 1) = Int.tdiv a 10000 + 1 := wrap64 (by omega) (by omega)
  have w3 : IntKind.wrap .i64 (Int.tdiv a 10000 - 1) = Int.tdiv a 10000 - 1 := wrap64 (by omega) (by omega)
  have w4 : IntKind.wrap .i64 (2 * Int.tmod a 10000) = 2 * Int.tmod a 10000 := wrap64 (by omega) (by omega)
  unfold billingref01_Rounded rndS
  rw [w1, w2, w3, w4]
  simp only [decide_eq_true_eq]
  by_cases c1 : Int.tmod a 10000 ≥ 5000
  · rw [if_pos (by omega), if_pos c1]
  · rw [if_neg (by omega), if_neg c1]
    by_cases c2 : Int.tmod a 10000 ≤ -5000
    · rw [if_pos (by omega), if_pos c2]
    · rw [if_neg (by omega), if_neg c2]

/-! ## Ones that are given -/
def bstep (r : List Int) (b : Int) (i : Nat) : Int := if r.getD i 0 ≥ 0 ∧ (b < 0 ∨ r.getD i 0 > r.getD b.toNat 0) then (i : Int) else b
def bestTo (r : List Int) : Nat → Int
  | 0 => -1
  | i + 1 => bstep r (bestTo r i) i
def bestS (r : List Int) : Int := bestTo r r.length

theorem best_ok (r : List Int) : ∀ k : Nat, (bestTo r k = -1 ∧ ∀ i, i < k → r.getD i 0 < 0) ∨ (∃ j : Nat, bestTo r k = (j : Int) ∧ j < k ∧ 0 ≤ r.getD j 0 ∧ ∀ i, i < k → r.getD i 0 ≤ r.getD j 0)
  | 0 => .inl ⟨rfl, by simp⟩
  | k + 1 => by
    rcases best_ok r k with ⟨h1, h2⟩ | ⟨j, h1, h2, h3, h4⟩
    · simp only [bestTo, bstep, h1]
      by_cases hx : r.getD k 0 ≥ 0
      · refine .inr ⟨k, by rw [if_pos ⟨hx, .inl (by omega)⟩], by omega, hx, fun i hi => ?_⟩
        rcases Nat.lt_or_ge i k with hik | hik
        · have := h2 i hik; omega
        · rw [show i = k by omega]; exact Int.le_refl _
      · refine .inl ⟨by rw [if_neg (fun h => hx h.1)], fun i hi => ?_⟩
        rcases Nat.lt_or_ge i k with hik | hik
        · exact h2 i hik
        · rw [show i = k by omega]; omega
    · simp only [bestTo, bstep, h1, Int.toNat_natCast]
      by_cases hx : r.getD k 0 > r.getD j 0
      · refine .inr ⟨k, by rw [if_pos ⟨by omega, .inr hx⟩], by omega, by omega, fun i hi => ?_⟩
        rcases Nat.lt_or_ge i k with hik | hik
        · have := h4 i hik; omega
        · rw [show i = k by omega]; exact Int.le_refl _
      · refine .inr ⟨j, by rw [if_neg (fun h => h.2.elim (fun h => by omega) hx)], by omega, h3, fun i hi => ?_⟩
        rcases Nat.lt_or_ge i k with hik | hik
        · exact h4 i hik
        · rw [show i = k by omega]; omega

theorem getD_of {l : List Int} {i : Nat} {x : Int} (h : l[i]? = some x) : l.getD i 0 = x := by rw [List.getD_eq_getElem?_getD, h]; rfl
theorem idx_getD {l : List Int} {i : Nat} (h : i < l.length) : idx l (i : Int) = some (l.getD i 0) := by
  rw [idx_get h, List.getD_eq_getElem?_getD, List.getElem?_eq_getElem h]; rfl

theorem bestLoop {N : Nat} (hN : 5000 ≤ N) {r : List Int} (hl : r.length ≤ 4096) : loopN (amount_give_l3 N r) N (-1, 0) = some (bestS r) := by
  have key := loop_list (n := N) (s := (-1 : Int)) r (by rw [maxLen_val]; omega) (f := amount_give_l3 N r) (fun s i => (s, i)) (fun i s => s = bestTo r i)
    (fun s xs => bestS r) (fun s hI h => ?_) (fun s i x xs hx hlt hidx hw hd hI => ?_) (by omega) rfl
  · exact key
  · simp only [amount_give_l3, h]; rw [hI]; rfl
  · refine .inl ⟨bestTo r (i + 1), ?_, rfl, rfl⟩
    have hxD := getD_of hx
    simp only [amount_give_l3, hlt, hidx, Option.bind_some, if_true, decide_eq_true_eq, hw]
    subst hI
    have hil := (List.getElem?_eq_some_iff.1 hx).1
    rcases best_ok r i with ⟨h1, h2⟩ | ⟨j, h1, h2, h3, h4⟩
    · simp only [bestTo, bstep, h1, hxD]
      by_cases h0 : x ≥ 0 <;> simp [h0]
    · have hj : idx r (j : Int) = some (r.getD j 0) := idx_getD (by omega)
      simp only [bestTo, bstep, h1, hxD, hj, Int.toNat_natCast, Option.bind_some]
      by_cases h0 : x ≥ 0
      · have : ¬ ((j : Int) < 0) := by omega
        simp only [h0, if_true, this, if_false, Option.bind_some]
        by_cases h5 : x > r.getD j 0 <;> (rw [List.getD_eq_getElem?_getD] at h5; simp [h5, this])
      · simp [h0]

theorem give_l2_eq (N : Nat) (r : List Int) : ∀ s, billingref01_Give_l3 N r s = amount_give_l3 N r s := by
  rintro ⟨b, i⟩
  simp only [billingref01_Give_l3, amount_give_l3]
  cases h : idx r i with
  | none => simp
  | some x => simp

def cnt (r : List Int) : Nat := r.countP fun x => decide (0 ≤ x)
def giveF : Nat → List Int → List Int → List Int × List Int
  | 0, p, r => (p, r)
  | n + 1, p, r => if bestS r < 0 then (p, r) else giveF n (p.set (bestS r).toNat (p.getD (bestS r).toNat 0 + 1)) (r.set (bestS r).toNat (-1))
theorem bestS_ok (r : List Int) : (bestS r = -1 ∧ ∀ i, i < r.length → r.getD i 0 < 0) ∨ (∃ j : Nat, bestS r = (j : Int) ∧ j < r.length ∧ 0 ≤ r.getD j 0 ∧ ∀ i, i < r.length → r.getD i 0 ≤ r.getD j 0) := best_ok r r.length
theorem cnt_set {r : List Int} {j : Nat} (hj : j < r.length) (h : 0 ≤ r.getD j 0) : cnt (r.set j (-1)) + 1 = cnt r := by
  have hj' : r.getD j 0 = r[j] := by rw [List.getD_eq_getElem?_getD, List.getElem?_eq_getElem hj]; rfl
  rw [hj'] at h
  have hp : 0 < cnt r := List.countP_pos_iff.2 ⟨r[j], List.getElem_mem hj, by simpa using h⟩
  unfold cnt at *
  rw [List.countP_set hj]
  simp [h]
  omega

theorem giveLoop {N : Nat} (hN : 5000 ≤ N) : ∀ (fuel : Nat) (v B : Int) (p r : List Int), cnt r < fuel → p.length = r.length → r.length ≤ 4096 → v < 9223372036854775808 → (∀ x ∈ p, -4611686018427387904 ≤ x ∧ x ≤ B) → B + fuel ≤ 4611686018427387904 →
    ∃ x, loopN (amount_give_l4 N) fuel (v, p, r) = some x ∧ (match x with | .inl q => q | .inr q => q) = giveF v.toNat p r
  | 0, v, B, p, r, hc, _, _, _, _, _ => by omega
  | fuel + 1, v, B, p, r, hc, hl, hL, hv, hp, hB => by
    simp only [loopN, amount_give_l4, decide_eq_true_eq]
    by_cases h0 : v > 0
    · rw [if_pos h0, bestLoop hN hL]
      obtain ⟨m, hm⟩ : ∃ m, v.toNat = m + 1 := ⟨v.toNat - 1, by omega⟩
      rw [hm]
      rcases bestS_ok r with ⟨h1, h2⟩ | ⟨j, h1, h2, h3, h4⟩
      · refine ⟨.inr (p, r), by simp [h1], by simp [giveF, h1]⟩
      · have hj : ¬ ((j : Int) < 0) := by omega
        have hpj : p.getD j 0 ∈ p := by
          have : j < p.length := by omega
          rw [List.getD_eq_getElem?_getD, List.getElem?_eq_getElem this]; exact List.getElem_mem this
        have hb := hp _ hpj
        have hw1 : IntKind.wrap .i64 (p.getD j 0 + 1) = p.getD j 0 + 1 := wrap64 (by omega) (by omega)
        have hw2 : IntKind.wrap .i64 (v - 1) = v - 1 := wrap64 (by omega) (by omega)
        have e1 : idx p (j : Int) = some (p.getD j 0) := idx_getD (by omega)
        have e2 : idx r (j : Int) = some (r.getD j 0) := idx_getD h2
        have hc' := cnt_set h2 h3
        obtain ⟨x, q1, q2⟩ := giveLoop hN fuel (v - 1) (B + 1) (p.set j (p.getD j 0 + 1)) (r.set j (-1)) (by omega) (by simpa using hl) (by simpa using hL) (by omega) (fun x hx => by
          rcases List.mem_or_eq_of_mem_set hx with hx | rfl
          · have := hp x hx; omega
          · omega) (by push_cast at hB ⊢; omega)
        refine ⟨x, ?_, ?_⟩
        · simp only [h1, Option.bind_some, hj, if_false, e1, e2, hw1, hw2, Int.toNat_natCast]
          exact q1
        · rw [q2]
          simp only [giveF, h1, hj, if_false, Int.toNat_natCast]
          rw [show (v - 1).toNat = m by omega]
    · refine ⟨.inl (p, r), by simp [h0], ?_⟩
      rw [show v.toNat = 0 by omega]; rfl

theorem cnt_le (r : List Int) : cnt r ≤ r.length := List.countP_le_length
theorem give_p {N : Nat} (hN : 5000 ≤ N) {v : Int} {p r : List Int} (hl : p.length = r.length) (hL : r.length ≤ 4096) (hv : v < 9223372036854775808) (hp : ∀ x ∈ p, -4503599627370496 ≤ x ∧ x ≤ 4503599627370496) :
    amount_give N v p r = some (giveF v.toNat p r) := by
  unfold amount_give
  obtain ⟨k, rfl⟩ : ∃ k, N = 5000 + k := ⟨N - 5000, by omega⟩
  have hgen : ∀ (f : Nat) (n : Nat) (s : Int × List Int × List Int) x, loopN (amount_give_l4 (5000 + k)) n s = some x → loopN (amount_give_l4 (5000 + k)) (n + f) s = some x := by
    intro f n
    induction n with
    | zero => intro s x h; cases h
    | succ n ih =>
      intro s x h
      rw [show n + 1 + f = (n + f) + 1 by omega]
      simp only [loopN] at h ⊢
      cases hs : amount_give_l4 (5000 + k) s with
      | none => rw [hs] at h; cases h
      | some y =>
        rw [hs] at h
        cases y with
        | inl s' => exact ih s' x h
        | inr r => exact h
  have hc := cnt_le r
  obtain ⟨x, q1, q2⟩ := giveLoop (N := 5000 + k) hN 5000 v 4503599627370496 p r (by omega) hl hL hv (fun x hx => by have := hp x hx; omega) (by omega)
  rw [hgen k 5000 _ x q1, ← q2]
  cases x <;> rfl
theorem give_r {N : Nat} (hN : 5000 ≤ N) {v : Int} {p r : List Int} (hl : p.length = r.length) (hL : r.length ≤ 4096) (hv : v < 9223372036854775808) (hp : ∀ x ∈ p, -4503599627370496 ≤ x ∧ x ≤ 4503599627370496) :
    billingref01_Give N p r v = some (giveF v.toNat p r).1 := by
  have h := give_p hN hl hL hv hp
  unfold amount_give at h
  unfold billingref01_Give
  rw [app_of (by simp; omega), app_of (by simp; omega)]
  simp only [List.nil_append, Option.bind_some]
  rw [loopN_map (f := amount_give_l4 N) (fun x => match x with | .inl q => .inl q.1 | .inr q => .inr q.1) ?_]
  · cases hx : loopN (amount_give_l4 N) N (v, p, r) with
    | none => rw [hx] at h; cases h
    | some x =>
      rw [hx] at h
      cases x with
      | inl q => simp only [Option.bind_some, Option.some.injEq] at h; rw [← h]; rfl
      | inr q => simp only [Option.bind_some, Option.some.injEq] at h; rw [← h]; rfl
  · rintro ⟨v, p, r⟩
    simp only [billingref01_Give_l4, amount_give_l4]
    rw [loopN_congr (give_l2_eq N r)]
    split
    · cases loopN (amount_give_l3 N r) N (-1, 0) with
      | none => rfl
      | some b =>
        simp only [Option.bind_some]
        split
        · rfl
        · cases idx p b with
          | none => rfl
          | some x => cases idx r b <;> rfl
    · rfl

/-! ## Rounded amounts that add up -/
def floS (l : List Int) : List Int := l.map (· / 10000)
def resS (l : List Int) : List Int := l.map (· % 10000)
def roundS (l : List Int) : List Int := if (l.length : Int) > 4096 then [] else bif l.all valB then (giveF (rndS l.sum - (floS l).sum).toNat (floS l) (resS l)).1 else []

theorem rest_eq {a : Int} (h : valB a = true) : Int.tmod (IntKind.wrap .i64 (Int.tmod a 10000 + 10000)) 10000 = a % 10000 := by
  obtain ⟨t1, t2, t3, _⟩ := tdm a
  rw [wrap64 (by omega) (by omega), Int.tmod_eq_emod_of_nonneg (by omega)]
  omega
theorem part_eq {a : Int} (h : valB a = true) : IntKind.wrap .i64 (Int.tdiv (IntKind.wrap .i64 (a - a % 10000)) 10000) = a / 10000 := by
  have h1 := valB_iff.1 h
  rw [wrap64 (n := a - a % 10000) (by omega) (by omega), show a - a % 10000 = 10000 * (a / 10000) by omega, Int.mul_tdiv_cancel_left _ (by omega)]
  exact wrap64 (by omega) (by omega)
theorem flo_bound {l : List Int} (h : l.all valB = true) : (∀ x ∈ floS l, -4503599627370496 ≤ x ∧ x ≤ 4503599627370496) ∧ -112589990685 * (l.length : Int) ≤ (floS l).sum ∧ (floS l).sum ≤ 112589990685 * (l.length : Int) := by
  induction l with
  | nil => simp [floS]
  | cons x l ih =>
    simp only [List.all_cons, Bool.and_eq_true] at h
    have h1 := valB_iff.1 h.1
    obtain ⟨h2, h3, h4⟩ := ih h.2
    simp only [floS, List.map_cons, List.sum_cons, List.length_cons] at *
    refine ⟨fun y hy => ?_, by push_cast; omega, by push_cast; omega⟩
    rcases List.mem_cons.1 hy with rfl | hy
    · omega
    · exact h2 y hy

theorem take_snoc {α : Type} {l : List α} {i : Nat} {x : α} (h : l[i]? = some x) : l.take (i + 1) = l.take i ++ [x] := by rw [List.take_add_one, h]; rfl
theorem all_take {l : List Int} {i : Nat} {x : Int} (h : (l.take i).all valB = true) (hx : l[i]? = some x) (hv : valB x = true) : (l.take (i + 1)).all valB = true := by
  rw [take_snoc hx, List.all_append, h]; simp [hv]
theorem all_false {l : List Int} {i : Nat} {x : Int} (hx : l[i]? = some x) (hv : valB x = false) : l.all valB = false := by
  cases h : l.all valB with
  | false => rfl
  | true => rw [List.all_eq_true.1 h x (List.mem_of_getElem? hx)] at hv; cases hv
theorem sums_take {l : List Int} (i : Nat) (h : (l.take i).all valB = true) (hl : l.length ≤ 4096) : -4611686018427387904 ≤ (l.take i).sum ∧ (l.take i).sum ≤ 4611686018427387904 ∧ -4611686018427387904 ≤ (floS (l.take i)).sum ∧ (floS (l.take i)).sum ≤ 4611686018427387904 := by
  have h1 := sum_bound h
  have h2 := (flo_bound h).2
  have h3 : (l.take i).length ≤ 4096 := by rw [List.length_take]; omega
  omega

theorem roundLoop_p {N : Nat} (hN : 5000 ≤ N) {l : List Int} (hl : l.length ≤ 4096) :
    loopN (amount_Round_l1 N l) N (0, 0, 0, List.replicate l.length 0, List.replicate l.length 0) = some (bif l.all valB then .inl (l.sum, (floS l).sum, floS l, resS l) else .inr ()) := by
  refine loop_list (n := N) (s := ((0 : Int), (0 : Int), List.replicate l.length (0 : Int), List.replicate l.length (0 : Int))) l (by rw [maxLen_val]; omega) (f := amount_Round_l1 N l) (fun s i => (s.1, s.2.1, i, s.2.2.1, s.2.2.2))
    (fun i s => (l.take i).all valB = true ∧ s = ((l.take i).sum, (floS (l.take i)).sum, floS (l.take i) ++ List.replicate (l.length - i) 0, resS (l.take i) ++ List.replicate (l.length - i) 0))
    (fun s xs => bif l.all valB then .inl (l.sum, (floS l).sum, floS l, resS l) else .inr ()) (fun s hI h => ?_) (fun s i x xs hx hlt hidx hw hd hI => ?_) (by omega) ⟨by simp, by simp [floS, resS]⟩
  · obtain ⟨h1, h2⟩ := hI
    rw [List.take_length] at h1 h2
    rw [h2, h1]
    simp [amount_Round_l1]
  · obtain ⟨h1, h2⟩ := hI
    have hil := (List.getElem?_eq_some_iff.1 hx).1
    simp only [amount_Round_l1, hlt, hidx, if_true, Option.bind_some, valid_p]
    cases hv : valB x with
    | false => exact .inr (by rw [all_false hx hv]; simp)
    | true =>
      refine .inl ⟨((l.take (i + 1)).sum, (floS (l.take (i + 1))).sum, floS (l.take (i + 1)) ++ List.replicate (l.length - (i + 1)) 0, resS (l.take (i + 1)) ++ List.replicate (l.length - (i + 1)) 0), ?_, ⟨all_take h1 hx hv, rfl⟩, by trivial⟩
      have b1 := sums_take (i + 1) (all_take h1 hx hv) hl
      rw [h2]
      have e1 : (floS (l.take i) ++ List.replicate (l.length - i) (0 : Int)).length = l.length := by simp [floS]; omega
      have e2 : (resS (l.take i) ++ List.replicate (l.length - i) (0 : Int)).length = l.length := by simp [resS]; omega
      have s1 : ∀ v : Int, (floS (l.take i) ++ List.replicate (l.length - i) (0 : Int)).set i v = floS (l.take i) ++ v :: List.replicate (l.length - (i + 1)) 0 := by
        intro v
        rw [show l.length - i = (l.length - (i + 1)) + 1 by omega, List.replicate_succ, List.set_append_right _ _ (by simp [floS]; omega)]
        rw [show i - (floS (l.take i)).length = 0 by simp [floS]; omega]
        rfl
      have s2 : ∀ v : Int, (resS (l.take i) ++ List.replicate (l.length - i) (0 : Int)).set i v = resS (l.take i) ++ v :: List.replicate (l.length - (i + 1)) 0 := by
        intro v
        rw [show l.length - i = (l.length - (i + 1)) + 1 by omega, List.replicate_succ, List.set_append_right _ _ (by simp [resS]; omega)]
        rw [show i - (resS (l.take i)).length = 0 by simp [resS]; omega]
        rfl
      have i1 : idx (floS (l.take i) ++ List.replicate (l.length - i) (0 : Int)) (i : Int) = some ((floS (l.take i) ++ List.replicate (l.length - i) (0 : Int)).getD i 0) := idx_getD (by rw [e1]; exact hil)
      have i2 : idx (resS (l.take i) ++ List.replicate (l.length - i) (0 : Int)) (i : Int) = some ((resS (l.take i) ++ List.replicate (l.length - i) (0 : Int)).getD i 0) := idx_getD (by rw [e2]; exact hil)
      have i3 : ∀ v : Int, idx (resS (l.take i) ++ v :: List.replicate (l.length - (i + 1)) (0 : Int)) (i : Int) = some v := fun v => by rw [← s2]; exact idx_set (by rw [e2]; exact hil)
      have i4 : ∀ v : Int, idx (floS (l.take i) ++ v :: List.replicate (l.length - (i + 1)) (0 : Int)) (i : Int) = some v := fun v => by rw [← s1]; exact idx_set (by rw [e1]; exact hil)
      have ts : (l.take (i + 1)).sum = (l.take i).sum + x := by rw [take_snoc hx, List.sum_append]; simp
      have tf : (floS (l.take (i + 1))).sum = (floS (l.take i)).sum + x / 10000 := by rw [take_snoc hx]; simp [floS, List.sum_append]
      have w1 : IntKind.wrap .i64 ((l.take i).sum + x) = (l.take i).sum + x := wrap64 (by omega) (by omega)
      have w2 : IntKind.wrap .i64 ((floS (l.take i)).sum + x / 10000) = (floS (l.take i)).sum + x / 10000 := wrap64 (by omega) (by omega)
      simp only [Bool.not_true, if_false, Bool.false_eq_true, i1, i2, i3, i4, Option.bind_some, Int.toNat_natCast, rest_eq hv, part_eq hv, w1, w2, hw, s1, s2]
      rw [ts, tf, take_snoc hx]
      simp [floS, resS]

theorem roundLoop_r {N : Nat} (hN : 5000 ≤ N) {l : List Int} (hl : l.length ≤ 4096) :
    loopN (billingref01_Round_l1 N l) N (0, 0, 0, [], []) = some (bif l.all valB then .inl (l.sum, (floS l).sum, floS l, resS l) else .inr ()) := by
  refine loop_list (n := N) (s := ((0 : Int), (0 : Int), ([] : List Int), ([] : List Int))) l (by rw [maxLen_val]; omega) (f := billingref01_Round_l1 N l) (fun s i => (s.1, s.2.1, i, s.2.2.1, s.2.2.2))
    (fun i s => (l.take i).all valB = true ∧ s = ((l.take i).sum, (floS (l.take i)).sum, floS (l.take i), resS (l.take i)))
    (fun s xs => bif l.all valB then .inl (l.sum, (floS l).sum, floS l, resS l) else .inr ()) (fun s hI h => ?_) (fun s i x xs hx hlt hidx hw hd hI => ?_) (by omega) ⟨by simp, by simp [floS, resS]⟩
  · obtain ⟨h1, h2⟩ := hI
    rw [List.take_length] at h1 h2
    rw [h2, h1]
    simp [billingref01_Round_l1]
  · obtain ⟨h1, h2⟩ := hI
    have hil := (List.getElem?_eq_some_iff.1 hx).1
    simp only [billingref01_Round_l1, hlt, hidx, if_true, Option.bind_some, valid_r]
    cases hv : valB x with
    | false => exact .inr (by rw [all_false hx hv]; simp)
    | true =>
      refine .inl ⟨((l.take (i + 1)).sum, (floS (l.take (i + 1))).sum, floS (l.take (i + 1)), resS (l.take (i + 1))), ?_, ⟨all_take h1 hx hv, rfl⟩, by trivial⟩
      have b1 := sums_take (i + 1) (all_take h1 hx hv) hl
      rw [h2]
      have ts : (l.take (i + 1)).sum = (l.take i).sum + x := by rw [take_snoc hx, List.sum_append]; simp
      have tf : (floS (l.take (i + 1))).sum = (floS (l.take i)).sum + x / 10000 := by rw [take_snoc hx]; simp [floS, List.sum_append]
      have w1 : IntKind.wrap .i64 ((l.take i).sum + x) = (l.take i).sum + x := wrap64 (by omega) (by omega)
      have w2 : IntKind.wrap .i64 ((floS (l.take i)).sum + x / 10000) = (floS (l.take i)).sum + x / 10000 := wrap64 (by omega) (by omega)
      have a1 : app 8 (floS (l.take i)) [x / 10000] = some (floS (l.take i) ++ [x / 10000]) := app_of (by simp [floS]; omega)
      have a2 : app 8 (resS (l.take i)) [x % 10000] = some (resS (l.take i) ++ [x % 10000]) := app_of (by simp [resS]; omega)
      simp only [Bool.not_true, if_false, Bool.false_eq_true, Option.bind_some, rest_eq hv, part_eq hv, w1, w2, hw, a1, a2]
      rw [ts, tf, take_snoc hx]
      simp [floS, resS]

theorem rnd_bound {a : Int} : a - 5000 ≤ 10000 * rndS a ∧ 10000 * rndS a ≤ a + 5000 := by
  obtain ⟨t1, t2, t3, t4, t5⟩ := tdm a
  unfold rndS
  split
  · omega
  · split <;> omega
theorem round_give {l : List Int} (hl : l.length ≤ 4096) (h : l.all valB = true) : IntKind.wrap .i64 (rndS l.sum - (floS l).sum) = rndS l.sum - (floS l).sum ∧ (floS l).length = (resS l).length ∧ (resS l).length ≤ 4096 ∧ rndS l.sum - (floS l).sum < 9223372036854775808 ∧
    (∀ x ∈ floS l, -4503599627370496 ≤ x ∧ x ≤ 4503599627370496) ∧ -9223372036854775808 ≤ l.sum ∧ l.sum < 9223372036854775808 := by
  have h1 := sum_bound h
  obtain ⟨h2, h3, h4⟩ := flo_bound h
  have h5 := rnd_bound (a := l.sum)
  have h6 : (l.length : Int) ≤ 4096 := by omega
  exact ⟨wrap64 (by omega) (by omega), by simp [floS, resS], by simpa [resS] using hl, by omega, h2, by omega, by omega⟩

theorem round_p {N : Nat} (hN : 5000 ≤ N) (l : List Int) : amount_Round N l = some (roundS l) := by
  unfold amount_Round roundS
  by_cases h : (l.length : Int) > 4096
  · simp [h]
  · rw [if_neg h, if_neg (by simpa using h)]
    have hl : l.length ≤ 4096 := by omega
    have hm : mkL 8 (l.length : Int) (l.length : Int) (0 : Int) = some (List.replicate l.length 0) := mkL_of (by omega)
    rw [hm]
    simp only [Option.bind_some]
    rw [roundLoop_p hN hl]
    cases hv : l.all valB with
    | false => rfl
    | true =>
      obtain ⟨r1, r2, r3, r4, r5, r6, r7⟩ := round_give hl hv
      simp only [cond_true, Option.bind_some]
      rw [rounded_p N r6 r7]
      simp only [Option.bind_some]
      rw [r1, give_p hN r2 r3 r4 r5]
      rfl
theorem round_r {N : Nat} (hN : 5000 ≤ N) (l : List Int) : billingref01_Round N l = some (roundS l) := by
  unfold billingref01_Round roundS
  by_cases h : (l.length : Int) > 4096
  · simp [h]
  · rw [if_neg h, if_neg (by simpa using h)]
    have hl : l.length ≤ 4096 := by omega
    rw [roundLoop_r hN hl]
    cases hv : l.all valB with
    | false => rfl
    | true =>
      obtain ⟨r1, r2, r3, r4, r5, r6, r7⟩ := round_give hl hv
      simp only [cond_true, Option.bind_some]
      rw [rounded_r N r6 r7]
      simp only [Option.bind_some]
      rw [r1, give_r hN r2 r3 r4 r5]
      rfl
end Gx
