/- The plain laws for AmountBack. -/
import Derived.Test.YtjcniejccgofbaaDoorXFns
import Derived.Test.YtjcniejccgofbaaDoorGPure
import Derived.Laws.Bits128
import Derived.Lib.IndexLaws
/- Plain facts on loops, numbers, lists. -/
namespace Gx
open Go Gd
set_option linter.unusedVariables false
set_option linter.unusedSimpArgs false

/-- A loop that ends, by an invariant. -/
theorem loopN_inv {σ τ : Type} {f : σ → Option (σ ⊕ τ)} (k : Nat) (I : Nat → σ → Prop) (R : τ → Prop)
    (step : ∀ i s, i ≤ k → I i s → (∃ s', i < k ∧ f s = some (.inl s') ∧ I (i + 1) s') ∨ (∃ r, f s = some (.inr r) ∧ R r)) :
    ∀ {n : Nat} {s : σ}, k < n → I 0 s → ∃ r, loopN f n s = some r ∧ R r := by
  have main : ∀ (d i n : Nat) (s : σ), i + d = k → d < n → I i s → ∃ r, loopN f n s = some r ∧ R r := by
    intro d
    induction d with
    | zero =>
      intro i n s hi hn hI
      obtain ⟨m, rfl⟩ : ∃ m, n = m + 1 := ⟨n - 1, by omega⟩
      rcases step i s (by omega) hI with ⟨s', h, _⟩ | ⟨r, h1, h2⟩
      · omega
      · exact ⟨r, by simp [loopN, h1], h2⟩
    | succ d ih =>
      intro i n s hi hn hI
      obtain ⟨m, rfl⟩ : ∃ m, n = m + 1 := ⟨n - 1, by omega⟩
      rcases step i s (by omega) hI with ⟨s', _, h1, h2⟩ | ⟨r, h1, h2⟩
      · obtain ⟨r, h3, h4⟩ := ih (i + 1) m s' (by omega) (by omega) h2
        exact ⟨r, by simp [loopN, h1, h3], h4⟩
      · exact ⟨r, by simp [loopN, h1], h2⟩
  intro n s hn hI
  exact main k 0 n s (by omega) hn hI

/-- A loop over a list, by its index. -/
theorem loop_list {α σ ρ τ : Type} (l : List α) (hl : l.length ≤ maxLen) {f : ρ → Option (ρ ⊕ τ)} (mk : σ → Int → ρ) (Inv : Nat → σ → Prop) (go : σ → List α → τ)
    (h0 : ∀ s, Inv l.length s → decide (((l.length : Nat) : Int) < (l.length : Int)) = false → f (mk s (l.length : Int)) = some (.inr (go s [])))
    (h1 : ∀ s (i : Nat) x xs, l[i]? = some x → decide ((i : Int) < (l.length : Int)) = true → idx l (i : Int) = some x → IntKind.wrap .i64 ((i : Int) + 1) = ((i + 1 : Nat) : Int) → l.drop i = x :: xs → Inv i s →
      (∃ s', f (mk s (i : Int)) = some (.inl (mk s' ((i + 1 : Nat) : Int))) ∧ Inv (i + 1) s' ∧ go s (x :: xs) = go s' xs) ∨ f (mk s (i : Int)) = some (.inr (go s (x :: xs))))
    {n : Nat} {s : σ} (hn : l.length < n) (hs : Inv 0 s) : loopN f n (mk s 0) = some (go s l) := by
  have main : ∀ (k i n : Nat) (s : σ), l.length = i + k → k < n → Inv i s → loopN f n (mk s (i : Int)) = some (go s (l.drop i)) := by
    intro k
    induction k with
    | zero =>
      intro i n s hk hn hI
      obtain ⟨m, rfl⟩ : ∃ m, n = m + 1 := ⟨n - 1, by omega⟩
      have hi : i = l.length := by omega
      subst hi
      rw [List.drop_length]
      simp [loopN, h0 s hI (by simp)]
    | succ k ih =>
      intro i n s hk hn hI
      obtain ⟨m, rfl⟩ : ∃ m, n = m + 1 := ⟨n - 1, by omega⟩
      have hlt : i < l.length := by omega
      have hd := List.drop_eq_getElem_cons hlt
      rw [hd]
      rcases h1 s i _ _ (List.getElem?_eq_getElem hlt) (by simpa using hlt) (idx_nat (List.getElem?_eq_getElem hlt)) (wrap_succ (by omega)) hd hI with ⟨s', e1, e2, e3⟩ | e1
      · simp only [loopN, e1, Option.bind_some, e3]
        exact ih (i + 1) m s' (by omega) (by omega) e2
      · simp only [loopN, e1, Option.bind_some]
  simpa using main l.length 0 n s (by omega) hn hs

theorem loopN_congr {σ τ : Type} {f g : σ → Option (σ ⊕ τ)} (h : ∀ s, f s = g s) (n : Nat) (s : σ) : loopN f n s = loopN g n s := by rw [show f = g from funext h]

/-- The same loop with another result. -/
theorem loopN_map {σ τ τ' : Type} {f : σ → Option (σ ⊕ τ)} {g : σ → Option (σ ⊕ τ')} (p : τ → τ') (h : ∀ s, g s = (f s).map (fun x => match x with | .inl s' => .inl s' | .inr r => .inr (p r))) :
    ∀ (n : Nat) (s : σ), loopN g n s = (loopN f n s).map p
  | 0, s => rfl
  | n + 1, s => by
    simp only [loopN, h s]
    cases f s with
    | none => rfl
    | some x => cases x with
      | inl s' => simpa using loopN_map p h n s'
      | inr r => rfl

theorem idx_some {α : Type} {l : List α} {i : Int} {x : α} (h : idx l i = some x) : 0 ≤ i ∧ i < l.length ∧ l[i.toNat]? = some x := by
  obtain ⟨h0, h1⟩ := idx_ok h
  obtain ⟨h2, _⟩ := List.getElem?_eq_some_iff.1 h1
  exact ⟨h0, by omega, h1⟩
theorem idx_get {α : Type} {l : List α} {i : Nat} (h : i < l.length) : idx l (i : Int) = some l[i] := idx_nat (List.getElem?_eq_getElem h)
theorem idx_set {α : Type} {l : List α} {i : Nat} {v : α} (h : i < l.length) : idx (l.set i v) (i : Int) = some v := by
  rw [idx_nat]
  rw [List.getElem?_set_self h]
theorem mkL_of {τ : Type} {b n : Nat} {z : τ} (h : b * n ≤ 281474976710656) : mkL b n n z = some (List.replicate n z) := by
  unfold mkL
  have e : ((b * n : Nat) : Int) = (b : Int) * (n : Int) := Int.natCast_mul b n
  have h' : (b : Int) * (n : Int) ≤ 281474976710656 := by rw [← e]; omega
  rw [if_pos ⟨Int.natCast_nonneg n, Int.le_refl _, h'⟩, Int.toNat_natCast]
end Gx

/- Amounts: sums, rounding, ones that are given. -/
namespace Gx
open Go Gd
set_option linter.unusedVariables false
set_option linter.unusedSimpArgs false

/-- Is it an amount? -/
def valB (a : Int) : Bool := decide (a ≥ -1125899906842624) && decide (a ≤ 1125899906842624)
theorem valB_iff {a : Int} : valB a = true ↔ -1125899906842624 ≤ a ∧ a ≤ 1125899906842624 := by simp [valB]
theorem valid_p (N : Nat) (a : Int) : amount_Valid N a = some (valB a) := rfl
theorem valid_r (N : Nat) (a : Int) : billingref01_Valid N a = some (valB a) := rfl
/-- An amount, or an error. -/
def chkS (a : Int) : Int × Int := bif valB a then (a, 0) else (0, 6)
theorem checked_p (N : Nat) (a : Int) : amount_checked N a = some (chkS a) := by
  unfold amount_checked chkS
  rw [valid_p]
  cases valB a <;> rfl

/-! ## Sums -/
def sumS (l : List Int) : Int × Int := if (l.length : Int) > 4096 then (0, 5) else bif l.all valB then chkS l.sum else (0, 6)

theorem sum_bound {l : List Int} (h : l.all valB = true) : -1125899906842624 * (l.length : Int) ≤ l.sum ∧ l.sum ≤ 1125899906842624 * (l.length : Int) := by
  induction l with
  | nil => simp
  | cons x l ih =>
    simp only [List.all_cons, Bool.and_eq_true] at h
    have h1 := valB_iff.1 h.1
    have h2 := ih h.2
    simp only [List.sum_cons, List.length_cons]
    push_cast
    omega

theorem sumLoop {f : Int × Int → Option ((Int × Int) ⊕ (Int ⊕ (Int × Int)))} {l : List Int} (hl : l.length ≤ 4096)
    (hf : ∀ v1 v2, f (v1, v2) = if decide (v2 < (l.length : Int)) = true then (idx l v2).bind fun x => if (!valB x) = true then some (.inr (.inr (0, 6))) else some (.inl (IntKind.wrap .i64 (v1 + x), IntKind.wrap .i64 (v2 + 1))) else some (.inr (.inl v1)))
    {N : Nat} (hN : 5000 ≤ N) : loopN f N (0, 0) = some (bif l.all valB then .inl l.sum else .inr (0, 6)) := by
  have key := loop_list (n := N) (s := 0) l (by rw [maxLen_val]; omega) (f := f) (fun s i => (s, i)) (fun i s => (l.take i).all valB = true ∧ s = (l.take i).sum)
    (fun s xs => bif xs.all valB then .inl (s + xs.sum) else .inr (0, 6)) (fun s hI h => ?_) (fun s i x xs hx hlt hidx hw hd hI => ?_) (by omega) ⟨by simp, by simp⟩
  · rw [key]; simp
  · rw [hf, h]; simp
  · have hi := (List.getElem?_eq_some_iff.1 hx).1
    have ht : l.take (i + 1) = l.take i ++ [x] := by rw [List.take_add_one, hx]; rfl
    rw [hf, hlt, hidx]
    cases hv : valB x with
    | false => exact .inr (by simp [hv])
    | true =>
      refine .inl ⟨s + x, ?_, ⟨by rw [ht, List.all_append, hI.1]; simp [hv], by rw [ht, List.sum_append, ← hI.2]; simp⟩, by simp [hv, Int.add_assoc]⟩
      have h1 := sum_bound hI.1
      rw [← hI.2, List.length_take] at h1
      have h2 := valB_iff.1 hv
      have h3 : IntKind.wrap .i64 (s + x) = s + x := wrap64 (by omega) (by omega)
      simp [hv, h3, hw]

theorem sum_p {N : Nat} (hN : 5000 ≤ N) (l : List Int) : amount_Sum N l = some (sumS l) := by
  unfold amount_Sum sumS
  by_cases h : (l.length : Int) > 4096
  · simp [h]
  · rw [if_neg h, if_neg (by simpa using h), sumLoop (l := l) (by omega) (fun v1 v2 => by simp only [amount_Sum_l1, valid_p]; rfl) hN]
    cases l.all valB <;> simp [checked_p]
theorem sum_r {N : Nat} (hN : 5000 ≤ N) (l : List Int) : billingref01_Sum N l = some (sumS l) := by
  unfold billingref01_Sum sumS
  by_cases h : (l.length : Int) > 4096
  · simp [h]
  · rw [if_neg h, if_neg (by simpa using h), sumLoop (l := l) (by omega) (fun v1 v2 => ?_) hN]
    · cases l.all valB with
      | true =>
        simp only [cond_true, Option.bind_some, valid_r, chkS]
        cases valB l.sum <;> simp
      | false => rfl
    · simp only [billingref01_Sum_l1, valid_r]
      split
      · cases idx l v2 <;> rfl
      · rfl

/-! ## Minor units -/
def rndS (a : Int) : Int := if Int.tmod a 10000 ≥ 5000 then Int.tdiv a 10000 + 1 else if Int.tmod a 10000 ≤ -5000 then Int.tdiv a 10000 - 1 else Int.tdiv a 10000
theorem tdm (a : Int) : Int.tdiv a 10000 * 10000 + Int.tmod a 10000 = a ∧ -10000 < Int.tmod a 10000 ∧ Int.tmod a 10000 < 10000 ∧ (0 ≤ a → 0 ≤ Int.tmod a 10000) ∧ (a ≤ 0 → Int.tmod a 10000 ≤ 0) := by
  have h1 := Int.tmod_def a 10000
  refine ⟨by omega, ?_, ?_, fun h => Int.tmod_nonneg _ h, fun h => ?_⟩
  · have := Int.lt_tmod_of_pos a (b := 10000) (by omega); omega
  · exact Int.tmod_lt_of_pos a (by omega)
  · have := Int.tmod_nonneg 10000 (a := -a) (by omega)
    rw [Int.neg_tmod] at this; omega
theorem rounded_p (N : Nat) {a : Int} (h0 : -9223372036854775808 ≤ a) (h1 : a < 9223372036854775808) : amount_Rounded N a = some (rndS a) := by
  obtain ⟨t1, t2, t3, t4, t5⟩ := tdm a
  have w1 : IntKind.wrap .i64 (Int.tdiv a 10000) = Int.tdiv a 10000 := wrap64 (by omega) (by omega)
  have w2 : IntKind.wrap .i64 (Int.tdiv a 10000 + 1) = Int.tdiv a 10000 + 1 := wrap64 (by omega) (by omega)
  have w3 : IntKind.wrap .i64 (Int.tdiv a 10000 - 1) = Int.tdiv a 10000 - 1 := wrap64 (by omega) (by omega)
  unfold amount_Rounded rndS
  rw [w1, w2, w3]
  simp only [decide_eq_true_eq]
  split
  · rfl
  · split <;> rfl
theorem rounded_r (N : Nat) {a : Int} (h0 : -9223372036854775808 ≤ a) (h1 : a < 9223372036854775808) : billingref01_Rounded N a = some (rndS a) := by
  obtain ⟨t1, t2, t3, t4, t5⟩ := tdm a
  have w1 : IntKind.wrap .i64 (Int.tdiv a 10000) = Int.tdiv a 10000 := wrap64 (by omega) (by omega)
  have w2 : IntKind.wrap .i64 (Int.tdiv a 10000 + 1) = Int.tdiv a 10000 + 1 := wrap64 (by omega) (by omega)
  have w3 : IntKind.wrap .i64 (Int.tdiv a 10000 - 1) = Int.tdiv a 10000 - 1 := wrap64 (by omega) (by omega)
  have w4 : IntKind.wrap .i64 (2 * Int.tmod a 10000) = 2 * Int.tmod a 10000 := wrap64 (by omega) (by omega)
  unfold billingref01_Rounded rndS
  rw [w1, w2, w3, w4]
  simp only [decide_eq_true_eq]
  by_cases c1 : Int.tmod a 10000 ≥ 5000
  · rw [if_pos (by omega), if_pos c1]
  · rw [if_neg (by omega), if_neg c1]
    by_cases c2 : Int.tmod a 10000 ≤ -5000
    · rw [if_pos (by omega), if_pos c2]
    · rw [if_neg (by omega), if_neg c2]

/-! ## Ones that are given -/
def bstep (r : List Int) (b : Int) (i : Nat) : Int := if r.getD i 0 ≥ 0 ∧ (b < 0 ∨ r.getD i 0 > r.getD b.toNat 0) then (i : Int) else b
def bestTo (r : List Int) : Nat → Int
  | 0 => -1
  | i + 1 => bstep r (bestTo r i) i
def bestS (r : List Int) : Int := bestTo r r.length

theorem best_ok (r : List Int) : ∀ k : Nat, (bestTo r k = -1 ∧ ∀ i, i < k → r.getD i 0 < 0) ∨ (∃ j : Nat, bestTo r k = (j : Int) ∧ j < k ∧ 0 ≤ r.getD j 0 ∧ ∀ i, i < k → r.getD i 0 ≤ r.getD j 0)
  | 0 => .inl ⟨rfl, by simp⟩
  | k + 1 => by
    rcases best_ok r k with ⟨h1, h2⟩ | ⟨j, h1, h2, h3, h4⟩
    · simp only [bestTo, bstep, h1]
      by_cases hx : r.getD k 0 ≥ 0
      · refine .inr ⟨k, by rw [if_pos ⟨hx, .inl (by omega)⟩], by omega, hx, fun i hi => ?_⟩
        rcases Nat.lt_or_ge i k with hik | hik
        · have := h2 i hik; omega
        · rw [show i = k by omega]; exact Int.le_refl _
      · refine .inl ⟨by rw [if_neg (fun h => hx h.1)], fun i hi => ?_⟩
        rcases Nat.lt_or_ge i k with hik | hik
        · exact h2 i hik
        · rw [show i = k by omega]; omega
    · simp only [bestTo, bstep, h1, Int.toNat_natCast]
      by_cases hx : r.getD k 0 > r.getD j 0
      · refine .inr ⟨k, by rw [if_pos ⟨by omega, .inr hx⟩], by omega, by omega, fun i hi => ?_⟩
        rcases Nat.lt_or_ge i k with hik | hik
        · have := h4 i hik; omega
        · rw [show i = k by omega]; exact Int.le_refl _
      · refine .inr ⟨j, by rw [if_neg (fun h => h.2.elim (fun h => by omega) hx)], by omega, h3, fun i hi => ?_⟩
        rcases Nat.lt_or_ge i k with hik | hik
        · exact h4 i hik
        · rw [show i = k by omega]; omega

theorem getD_of {l : List Int} {i : Nat} {x : Int} (h : l[i]? = some x) : l.getD i 0 = x := by rw [List.getD_eq_getElem?_getD, h]; rfl
theorem idx_getD {l : List Int} {i : Nat} (h : i < l.length) : idx l (i : Int) = some (l.getD i 0) := by
  rw [idx_get h, List.getD_eq_getElem?_getD, List.getElem?_eq_getElem h]; rfl

theorem bestLoop {N : Nat} (hN : 5000 ≤ N) {r : List Int} (hl : r.length ≤ 4096) : loopN (amount_give_l3 N r) N (-1, 0) = some (bestS r) := by
  have key := loop_list (n := N) (s := (-1 : Int)) r (by rw [maxLen_val]; omega) (f := amount_give_l3 N r) (fun s i => (s, i)) (fun i s => s = bestTo r i)
    (fun s xs => bestS r) (fun s hI h => ?_) (fun s i x xs hx hlt hidx hw hd hI => ?_) (by omega) rfl
  · exact key
  · simp only [amount_give_l3, h]; rw [hI]; rfl
  · refine .inl ⟨bestTo r (i + 1), ?_, rfl, rfl⟩
    have hxD := getD_of hx
    simp only [amount_give_l3, hlt, hidx, Option.bind_some, if_true, decide_eq_true_eq, hw]
    subst hI
    have hil := (List.getElem?_eq_some_iff.1 hx).1
    rcases best_ok r i with ⟨h1, h2⟩ | ⟨j, h1, h2, h3, h4⟩
    · simp only [bestTo, bstep, h1, hxD]
      by_cases h0 : x ≥ 0 <;> simp [h0]
    · have hj : idx r (j : Int) = some (r.getD j 0) := idx_getD (by omega)
      simp only [bestTo, bstep, h1, hxD, hj, Int.toNat_natCast, Option.bind_some]
      by_cases h0 : x ≥ 0
      · have : ¬ ((j : Int) < 0) := by omega
        simp only [h0, if_true, this, if_false, Option.bind_some]
        by_cases h5 : x > r.getD j 0 <;> (rw [List.getD_eq_getElem?_getD] at h5; simp [h5, this])
      · simp [h0]

theorem give_l2_eq (N : Nat) (r : List Int) : ∀ s, billingref01_Give_l3 N r s = amount_give_l3 N r s := by
  rintro ⟨b, i⟩
  simp only [billingref01_Give_l3, amount_give_l3]
  cases h : idx r i with
  | none => simp
  | some x => simp

def cnt (r : List Int) : Nat := r.countP fun x => decide (0 ≤ x)
def giveF : Nat → List Int → List Int → List Int × List Int
  | 0, p, r => (p, r)
  | n + 1, p, r => if bestS r < 0 then (p, r) else giveF n (p.set (bestS r).toNat (p.getD (bestS r).toNat 0 + 1)) (r.set (bestS r).toNat (-1))
theorem bestS_ok (r : List Int) : (bestS r = -1 ∧ ∀ i, i < r.length → r.getD i 0 < 0) ∨ (∃ j : Nat, bestS r = (j : Int) ∧ j < r.length ∧ 0 ≤ r.getD j 0 ∧ ∀ i, i < r.length → r.getD i 0 ≤ r.getD j 0) := best_ok r r.length
theorem cnt_set {r : List Int} {j : Nat} (hj : j < r.length) (h : 0 ≤ r.getD j 0) : cnt (r.set j (-1)) + 1 = cnt r := by
  have hj' : r.getD j 0 = r[j] := by rw [List.getD_eq_getElem?_getD, List.getElem?_eq_getElem hj]; rfl
  rw [hj'] at h
  have hp : 0 < cnt r := List.countP_pos_iff.2 ⟨r[j], List.getElem_mem hj, by simpa using h⟩
  unfold cnt at *
  rw [List.countP_set hj]
  simp [h]
  omega

theorem giveLoop {N : Nat} (hN : 5000 ≤ N) : ∀ (fuel : Nat) (v B : Int) (p r : List Int), cnt r < fuel → p.length = r.length → r.length ≤ 4096 → v < 9223372036854775808 → (∀ x ∈ p, -4611686018427387904 ≤ x ∧ x ≤ B) → B + fuel ≤ 4611686018427387904 →
    ∃ x, loopN (amount_give_l4 N) fuel (v, p, r) = some x ∧ (match x with | .inl q => q | .inr q => q) = giveF v.toNat p r
  | 0, v, B, p, r, hc, _, _, _, _, _ => by omega
  | fuel + 1, v, B, p, r, hc, hl, hL, hv, hp, hB => by
    simp only [loopN, amount_give_l4, decide_eq_true_eq]
    by_cases h0 : v > 0
    · rw [if_pos h0, bestLoop hN hL]
      obtain ⟨m, hm⟩ : ∃ m, v.toNat = m + 1 := ⟨v.toNat - 1, by omega⟩
      rw [hm]
      rcases bestS_ok r with ⟨h1, h2⟩ | ⟨j, h1, h2, h3, h4⟩
      · refine ⟨.inr (p, r), by simp [h1], by simp [giveF, h1]⟩
      · have hj : ¬ ((j : Int) < 0) := by omega
        have hpj : p.getD j 0 ∈ p := by
          have : j < p.length := by omega
          rw [List.getD_eq_getElem?_getD, List.getElem?_eq_getElem this]; exact List.getElem_mem this
        have hb := hp _ hpj
        have hw1 : IntKind.wrap .i64 (p.getD j 0 + 1) = p.getD j 0 + 1 := wrap64 (by omega) (by omega)
        have hw2 : IntKind.wrap .i64 (v - 1) = v - 1 := wrap64 (by omega) (by omega)
        have e1 : idx p (j : Int) = some (p.getD j 0) := idx_getD (by omega)
        have e2 : idx r (j : Int) = some (r.getD j 0) := idx_getD h2
        have hc' := cnt_set h2 h3
        obtain ⟨x, q1, q2⟩ := giveLoop hN fuel (v - 1) (B + 1) (p.set j (p.getD j 0 + 1)) (r.set j (-1)) (by omega) (by simpa using hl) (by simpa using hL) (by omega) (fun x hx => by
          rcases List.mem_or_eq_of_mem_set hx with hx | rfl
          · have := hp x hx; omega
          · omega) (by push_cast at hB ⊢; omega)
        refine ⟨x, ?_, ?_⟩
        · simp only [h1, Option.bind_some, hj, if_false, e1, e2, hw1, hw2, Int.toNat_natCast]
          exact q1
        · rw [q2]
          simp only [giveF, h1, hj, if_false, Int.toNat_natCast]
          rw [show (v - 1).toNat = m by omega]
    · refine ⟨.inl (p, r), by simp [h0], ?_⟩
      rw [show v.toNat = 0 by omega]; rfl

theorem cnt_le (r : List Int) : cnt r ≤ r.length := List.countP_le_length
theorem give_p {N : Nat} (hN : 5000 ≤ N) {v : Int} {p r : List Int} (hl : p.length = r.length) (hL : r.length ≤ 4096) (hv : v < 9223372036854775808) (hp : ∀ x ∈ p, -4503599627370496 ≤ x ∧ x ≤ 4503599627370496) :
    amount_give N v p r = some (giveF v.toNat p r) := by
  unfold amount_give
  obtain ⟨k, rfl⟩ : ∃ k, N = 5000 + k := ⟨N - 5000, by omega⟩
  have hgen : ∀ (f : Nat) (n : Nat) (s : Int × List Int × List Int) x, loopN (amount_give_l4 (5000 + k)) n s = some x → loopN (amount_give_l4 (5000 + k)) (n + f) s = some x := by
    intro f n
    induction n with
    | zero => intro s x h; cases h
    | succ n ih =>
      intro s x h
      rw [show n + 1 + f = (n + f) + 1 by omega]
      simp only [loopN] at h ⊢
      cases hs : amount_give_l4 (5000 + k) s with
      | none => rw [hs] at h; cases h
      | some y =>
        rw [hs] at h
        cases y with
        | inl s' => exact ih s' x h
        | inr r => exact h
  have hc := cnt_le r
  obtain ⟨x, q1, q2⟩ := giveLoop (N := 5000 + k) hN 5000 v 4503599627370496 p r (by omega) hl hL hv (fun x hx => by have := hp x hx; omega) (by omega)
  rw [hgen k 5000 _ x q1, ← q2]
  cases x <;> rfl
theorem give_r {N : Nat} (hN : 5000 ≤ N) {v : Int} {p r : List Int} (hl : p.length = r.length) (hL : r.length ≤ 4096) (hv : v < 9223372036854775808) (hp : ∀ x ∈ p, -4503599627370496 ≤ x ∧ x ≤ 4503599627370496) :
    billingref01_Give N p r v = some (giveF v.toNat p r).1 := by
  have h := give_p hN hl hL hv hp
  unfold amount_give at h
  unfold billingref01_Give
  rw [app_of (by simp; omega), app_of (by simp; omega)]
  simp only [List.nil_append, Option.bind_some]
  rw [loopN_map (f := amount_give_l4 N) (fun x => match x with | .inl q => .inl q.1 | .inr q => .inr q.1) ?_]
  · cases hx : loopN (amount_give_l4 N) N (v, p, r) with
    | none => rw [hx] at h; cases h
    | some x =>
      rw [hx] at h
      cases x with
      | inl q => simp only [Option.bind_some, Option.some.injEq] at h; rw [← h]; rfl
      | inr q => simp only [Option.bind_some, Option.some.injEq] at h; rw [← h]; rfl
  · rintro ⟨v, p, r⟩
    simp only [billingref01_Give_l4, amount_give_l4]
    rw [loopN_congr (give_l2_eq N r)]
    split
    · cases loopN (amount_give_l3 N r) N (-1, 0) with
      | none => rfl
      | some b =>
        simp only [Option.bind_some]
        split
        · rfl
        · cases idx p b with
          | none => rfl
          | some x => cases idx r b <;> rfl
    · rfl

/-! ## Rounded amounts that add up -/
def floS (l : List Int) : List Int := l.map (· / 10000)
def resS (l : List Int) : List Int := l.map (· % 10000)
def roundS (l : List Int) : List Int := if (l.length : Int) > 4096 then [] else bif l.all valB then (giveF (rndS l.sum - (floS l).sum).toNat (floS l) (resS l)).1 else []

theorem rest_eq {a : Int} (h : valB a = true) : Int.tmod (IntKind.wrap .i64 (Int.tmod a 10000 + 10000)) 10000 = a % 10000 := by
  obtain ⟨t1, t2, t3, _⟩ := tdm a
  rw [wrap64 (by omega) (by omega), Int.tmod_eq_emod_of_nonneg (by omega)]
  omega
theorem part_eq {a : Int} (h : valB a = true) : IntKind.wrap .i64 (Int.tdiv (IntKind.wrap .i64 (a - a % 10000)) 10000) = a / 10000 := by
  have h1 := valB_iff.1 h
  rw [wrap64 (n := a - a % 10000) (by omega) (by omega), show a - a % 10000 = 10000 * (a / 10000) by omega, Int.mul_tdiv_cancel_left _ (by omega)]
  exact wrap64 (by omega) (by omega)
theorem flo_bound {l : List Int} (h : l.all valB = true) : (∀ x ∈ floS l, -4503599627370496 ≤ x ∧ x ≤ 4503599627370496) ∧ -112589990685 * (l.length : Int) ≤ (floS l).sum ∧ (floS l).sum ≤ 112589990685 * (l.length : Int) := by
  induction l with
  | nil => simp [floS]
  | cons x l ih =>
    simp only [List.all_cons, Bool.and_eq_true] at h
    have h1 := valB_iff.1 h.1
    obtain ⟨h2, h3, h4⟩ := ih h.2
    simp only [floS, List.map_cons, List.sum_cons, List.length_cons] at *
    refine ⟨fun y hy => ?_, by push_cast; omega, by push_cast; omega⟩
    rcases List.mem_cons.1 hy with rfl | hy
    · omega
    · exact h2 y hy

theorem take_snoc {α : Type} {l : List α} {i : Nat} {x : α} (h : l[i]? = some x) : l.take (i + 1) = l.take i ++ [x] := by rw [List.take_add_one, h]; rfl
theorem all_take {l : List Int} {i : Nat} {x : Int} (h : (l.take i).all valB = true) (hx : l[i]? = some x) (hv : valB x = true) : (l.take (i + 1)).all valB = true := by
  rw [take_snoc hx, List.all_append, h]; simp [hv]
theorem all_false {l : List Int} {i : Nat} {x : Int} (hx : l[i]? = some x) (hv : valB x = false) : l.all valB = false := by
  cases h : l.all valB with
  | false => rfl
  | true => rw [List.all_eq_true.1 h x (List.mem_of_getElem? hx)] at hv; cases hv
theorem sums_take {l : List Int} (i : Nat) (h : (l.take i).all valB = true) (hl : l.length ≤ 4096) : -4611686018427387904 ≤ (l.take i).sum ∧ (l.take i).sum ≤ 4611686018427387904 ∧ -4611686018427387904 ≤ (floS (l.take i)).sum ∧ (floS (l.take i)).sum ≤ 4611686018427387904 := by
  have h1 := sum_bound h
  have h2 := (flo_bound h).2
  have h3 : (l.take i).length ≤ 4096 := by rw [List.length_take]; omega
  omega

theorem roundLoop_p {N : Nat} (hN : 5000 ≤ N) {l : List Int} (hl : l.length ≤ 4096) :
    loopN (amount_Round_l1 N l) N (0, 0, 0, List.replicate l.length 0, List.replicate l.length 0) = some (bif l.all valB then .inl (l.sum, (floS l).sum, floS l, resS l) else .inr ()) := by
  refine loop_list (n := N) (s := ((0 : Int), (0 : Int), List.replicate l.length (0 : Int), List.replicate l.length (0 : Int))) l (by rw [maxLen_val]; omega) (f := amount_Round_l1 N l) (fun s i => (s.1, s.2.1, i, s.2.2.1, s.2.2.2))
    (fun i s => (l.take i).all valB = true ∧ s = ((l.take i).sum, (floS (l.take i)).sum, floS (l.take i) ++ List.replicate (l.length - i) 0, resS (l.take i) ++ List.replicate (l.length - i) 0))
    (fun s xs => bif l.all valB then .inl (l.sum, (floS l).sum, floS l, resS l) else .inr ()) (fun s hI h => ?_) (fun s i x xs hx hlt hidx hw hd hI => ?_) (by omega) ⟨by simp, by simp [floS, resS]⟩
  · obtain ⟨h1, h2⟩ := hI
    rw [List.take_length] at h1 h2
    rw [h2, h1]
    simp [amount_Round_l1]
  · obtain ⟨h1, h2⟩ := hI
    have hil := (List.getElem?_eq_some_iff.1 hx).1
    simp only [amount_Round_l1, hlt, hidx, if_true, Option.bind_some, valid_p]
    cases hv : valB x with
    | false => exact .inr (by rw [all_false hx hv]; simp)
    | true =>
      refine .inl ⟨((l.take (i + 1)).sum, (floS (l.take (i + 1))).sum, floS (l.take (i + 1)) ++ List.replicate (l.length - (i + 1)) 0, resS (l.take (i + 1)) ++ List.replicate (l.length - (i + 1)) 0), ?_, ⟨all_take h1 hx hv, rfl⟩, by trivial⟩
      have b1 := sums_take (i + 1) (all_take h1 hx hv) hl
      rw [h2]
      have e1 : (floS (l.take i) ++ List.replicate (l.length - i) (0 : Int)).length = l.length := by simp [floS]; omega
      have e2 : (resS (l.take i) ++ List.replicate (l.length - i) (0 : Int)).length = l.length := by simp [resS]; omega
      have s1 : ∀ v : Int, (floS (l.take i) ++ List.replicate (l.length - i) (0 : Int)).set i v = floS (l.take i) ++ v :: List.replicate (l.length - (i + 1)) 0 := by
        intro v
        rw [show l.length - i = (l.length - (i + 1)) + 1 by omega, List.replicate_succ, List.set_append_right _ _ (by simp [floS]; omega)]
        rw [show i - (floS (l.take i)).length = 0 by simp [floS]; omega]
        rfl
      have s2 : ∀ v : Int, (resS (l.take i) ++ List.replicate (l.length - i) (0 : Int)).set i v = resS (l.take i) ++ v :: List.replicate (l.length - (i + 1)) 0 := by
        intro v
        rw [show l.length - i = (l.length - (i + 1)) + 1 by omega, List.replicate_succ, List.set_append_right _ _ (by simp [resS]; omega)]
        rw [show i - (resS (l.take i)).length = 0 by simp [resS]; omega]
        rfl
      have i1 : idx (floS (l.take i) ++ List.replicate (l.length - i) (0 : Int)) (i : Int) = some ((floS (l.take i) ++ List.replicate (l.length - i) (0 : Int)).getD i 0) := idx_getD (by rw [e1]; exact hil)
      have i2 : idx (resS (l.take i) ++ List.replicate (l.length - i) (0 : Int)) (i : Int) = some ((resS (l.take i) ++ List.replicate (l.length - i) (0 : Int)).getD i 0) := idx_getD (by rw [e2]; exact hil)
      have i3 : ∀ v : Int, idx (resS (l.take i) ++ v :: List.replicate (l.length - (i + 1)) (0 : Int)) (i : Int) = some v := fun v => by rw [← s2]; exact idx_set (by rw [e2]; exact hil)
      have i4 : ∀ v : Int, idx (floS (l.take i) ++ v :: List.replicate (l.length - (i + 1)) (0 : Int)) (i : Int) = some v := fun v => by rw [← s1]; exact idx_set (by rw [e1]; exact hil)
      have ts : (l.take (i + 1)).sum = (l.take i).sum + x := by rw [take_snoc hx, List.sum_append]; simp
      have tf : (floS (l.take (i + 1))).sum = (floS (l.take i)).sum + x / 10000 := by rw [take_snoc hx]; simp [floS, List.sum_append]
      have w1 : IntKind.wrap .i64 ((l.take i).sum + x) = (l.take i).sum + x := wrap64 (by omega) (by omega)
      have w2 : IntKind.wrap .i64 ((floS (l.take i)).sum + x / 10000) = (floS (l.take i)).sum + x / 10000 := wrap64 (by omega) (by omega)
      simp only [Bool.not_true, if_false, Bool.false_eq_true, i1, i2, i3, i4, Option.bind_some, Int.toNat_natCast, rest_eq hv, part_eq hv, w1, w2, hw, s1, s2]
      rw [ts, tf, take_snoc hx]
      simp [floS, resS]

theorem roundLoop_r {N : Nat} (hN : 5000 ≤ N) {l : List Int} (hl : l.length ≤ 4096) :
    loopN (billingref01_Round_l1 N l) N (0, 0, 0, [], []) = some (bif l.all valB then .inl (l.sum, (floS l).sum, floS l, resS l) else .inr ()) := by
  refine loop_list (n := N) (s := ((0 : Int), (0 : Int), ([] : List Int), ([] : List Int))) l (by rw [maxLen_val]; omega) (f := billingref01_Round_l1 N l) (fun s i => (s.1, s.2.1, i, s.2.2.1, s.2.2.2))
    (fun i s => (l.take i).all valB = true ∧ s = ((l.take i).sum, (floS (l.take i)).sum, floS (l.take i), resS (l.take i)))
    (fun s xs => bif l.all valB then .inl (l.sum, (floS l).sum, floS l, resS l) else .inr ()) (fun s hI h => ?_) (fun s i x xs hx hlt hidx hw hd hI => ?_) (by omega) ⟨by simp, by simp [floS, resS]⟩
  · obtain ⟨h1, h2⟩ := hI
    rw [List.take_length] at h1 h2
    rw [h2, h1]
    simp [billingref01_Round_l1]
  · obtain ⟨h1, h2⟩ := hI
    have hil := (List.getElem?_eq_some_iff.1 hx).1
    simp only [billingref01_Round_l1, hlt, hidx, if_true, Option.bind_some, valid_r]
    cases hv : valB x with
    | false => exact .inr (by rw [all_false hx hv]; simp)
    | true =>
      refine .inl ⟨((l.take (i + 1)).sum, (floS (l.take (i + 1))).sum, floS (l.take (i + 1)), resS (l.take (i + 1))), ?_, ⟨all_take h1 hx hv, rfl⟩, by trivial⟩
      have b1 := sums_take (i + 1) (all_take h1 hx hv) hl
      rw [h2]
      have ts : (l.take (i + 1)).sum = (l.take i).sum + x := by rw [take_snoc hx, List.sum_append]; simp
      have tf : (floS (l.take (i + 1))).sum = (floS (l.take i)).sum + x / 10000 := by rw [take_snoc hx]; simp [floS, List.sum_append]
      have w1 : IntKind.wrap .i64 ((l.take i).sum + x) = (l.take i).sum + x := wrap64 (by omega) (by omega)
      have w2 : IntKind.wrap .i64 ((floS (l.take i)).sum + x / 10000) = (floS (l.take i)).sum + x / 10000 := wrap64 (by omega) (by omega)
      have a1 : app 8 (floS (l.take i)) [x / 10000] = some (floS (l.take i) ++ [x / 10000]) := app_of (by simp [floS]; omega)
      have a2 : app 8 (resS (l.take i)) [x % 10000] = some (resS (l.take i) ++ [x % 10000]) := app_of (by simp [resS]; omega)
      simp only [Bool.not_true, if_false, Bool.false_eq_true, Option.bind_some, rest_eq hv, part_eq hv, w1, w2, hw, a1, a2]
      rw [ts, tf, take_snoc hx]
      simp [floS, resS]

theorem rnd_bound {a : Int} : a - 5000 ≤ 10000 * rndS a ∧ 10000 * rndS a ≤ a + 5000 := by
  obtain ⟨t1, t2, t3, t4, t5⟩ := tdm a
  unfold rndS
  split
  · omega
  · split <;> omega
theorem round_give {l : List Int} (hl : l.length ≤ 4096) (h : l.all valB = true) : IntKind.wrap .i64 (rndS l.sum - (floS l).sum) = rndS l.sum - (floS l).sum ∧ (floS l).length = (resS l).length ∧ (resS l).length ≤ 4096 ∧ rndS l.sum - (floS l).sum < 9223372036854775808 ∧
    (∀ x ∈ floS l, -4503599627370496 ≤ x ∧ x ≤ 4503599627370496) ∧ -9223372036854775808 ≤ l.sum ∧ l.sum < 9223372036854775808 := by
  have h1 := sum_bound h
  obtain ⟨h2, h3, h4⟩ := flo_bound h
  have h5 := rnd_bound (a := l.sum)
  have h6 : (l.length : Int) ≤ 4096 := by omega
  exact ⟨wrap64 (by omega) (by omega), by simp [floS, resS], by simpa [resS] using hl, by omega, h2, by omega, by omega⟩

theorem round_p {N : Nat} (hN : 5000 ≤ N) (l : List Int) : amount_Round N l = some (roundS l) := by
  unfold amount_Round roundS
  by_cases h : (l.length : Int) > 4096
  · simp [h]
  · rw [if_neg h, if_neg (by simpa using h)]
    have hl : l.length ≤ 4096 := by omega
    have hm : mkL 8 (l.length : Int) (l.length : Int) (0 : Int) = some (List.replicate l.length 0) := mkL_of (by omega)
    rw [hm]
    simp only [Option.bind_some]
    rw [roundLoop_p hN hl]
    cases hv : l.all valB with
    | false => rfl
    | true =>
      obtain ⟨r1, r2, r3, r4, r5, r6, r7⟩ := round_give hl hv
      simp only [cond_true, Option.bind_some]
      rw [rounded_p N r6 r7]
      simp only [Option.bind_some]
      rw [r1, give_p hN r2 r3 r4 r5]
      rfl
theorem round_r {N : Nat} (hN : 5000 ≤ N) (l : List Int) : billingref01_Round N l = some (roundS l) := by
  unfold billingref01_Round roundS
  by_cases h : (l.length : Int) > 4096
  · simp [h]
  · rw [if_neg h, if_neg (by simpa using h)]
    have hl : l.length ≤ 4096 := by omega
    rw [roundLoop_r hN hl]
    cases hv : l.all valB with
    | false => rfl
    | true =>
      obtain ⟨r1, r2, r3, r4, r5, r6, r7⟩ := round_give hl hv
      simp only [cond_true, Option.bind_some]
      rw [rounded_r N r6 r7]
      simp only [Option.bind_some]
      rw [r1, give_r hN r2 r3 r4 r5]
      rfl
end Gx

/- Amounts: products and quotients. -/
namespace Gx
open Go Gd
set_option linter.unusedVariables false
set_option linter.unusedSimpArgs false

theorem i64_and1 (n : Int) : Go.bits .and .i64 n 1 = n % 2 := by
  have h127 : (BitVec.ofInt 64 1).toNat = 2 ^ 1 - 1 := by decide
  have key : (BitVec.ofInt 64 n &&& BitVec.ofInt 64 1).toNat = (n % ((2 ^ 64 : Nat) : Int)).toNat % 2 ^ 1 := by
    rw [BitVec.toNat_and, BitVec.toNat_ofInt, h127, Nat.and_two_pow_sub_one_eq_mod]
  show IntKind.i64.wrap ((BitVec.ofInt 64 n &&& BitVec.ofInt 64 1).toNat : Nat) = n % 2
  rw [key, IntKind.wrap_i64]
  omega

theorem dm_step {A m d b q r : Nat} (hd : 0 < d) (hq : q = A * m / d) (hr : r = A * m % d) (x : Nat) (hx : A * (2 * m + b) = 2 * (A * m) + x) :
    A * (2 * m + b) / d = 2 * q + (2 * r + x) / d ∧ A * (2 * m + b) % d = (2 * r + x) % d := by
  have h1 : A * m = d * q + r := by rw [hq, hr]; exact (Nat.div_add_mod _ _).symm
  have h2 : A * (2 * m + b) = (2 * r + x) + d * (2 * q) := by rw [hx, h1, Nat.mul_add, ← Nat.mul_assoc 2 d q, Nat.mul_comm 2 d, Nat.mul_assoc]; omega
  rw [h2]
  refine ⟨?_, Nat.add_mul_mod_self_left _ _ _⟩
  rw [Nat.add_mul_div_left _ _ hd]; omega

theorem shr_nat (n b : Nat) (hb : b ≤ 62) : shrW .i64 (n : Int) (b : Int) = some ((n / 2 ^ b : Nat) : Int) := by
  unfold shrW
  rw [if_neg (by omega)]
  have : min ((b : Int)).toNat (IntKind.bits .i64) = b := by
    rw [Int.toNat_natCast]; show min b 64 = b; omega
  rw [this]
  congr 1
  rw [Int.fdiv_eq_ediv_of_nonneg _ (by exact_mod_cast Nat.zero_le _)]
  rw [Int.natCast_ediv]; congr 1
theorem wrap_nat {z : Nat} (h : z < 9223372036854775808) : IntKind.wrap .i64 (z : Int) = (z : Int) := wrap64 (by omega) (by omega)
theorem wrap_add_nat {x y : Nat} (h : x + y < 9223372036854775808) : IntKind.wrap .i64 ((x : Int) + (y : Int)) = ((x + y : Nat) : Int) := by rw [← Int.natCast_add]; exact wrap_nat h
theorem wrap_two {x : Nat} (h : 2 * x < 9223372036854775808) : IntKind.wrap .i64 (2 * (x : Int)) = ((2 * x : Nat) : Int) := by rw [wrap64 (by omega) (by omega)]; omega
theorem quo_nat (x y : Nat) (hy : 0 < y) (hx : x < 9223372036854775808) : quoW .i64 (x : Int) (y : Int) = some ((x / y : Nat) : Int) := by
  unfold quoW
  rw [if_neg (by omega), ← Int.ofNat_tdiv]
  have := Nat.div_le_self x y
  rw [wrap_nat (by omega)]
theorem rem_nat (x y : Nat) (hy : 0 < y) : remW (x : Int) (y : Int) = some ((x % y : Nat) : Int) := by
  unfold remW
  rw [if_neg (by omega), ← Int.ofNat_tmod]

theorem half_pow (n b : Nat) : n / 2 ^ b = 2 * (n / 2 ^ (b + 1)) + n / 2 ^ b % 2 := by
  have : n / 2 ^ (b + 1) = n / 2 ^ b / 2 := by rw [Nat.pow_succ, Nat.div_div_eq_div_mul]
  omega

theorem divLoop_p (N : Nat) {A n d : Nat} (hA : A ≤ 1125899906842624) (hn : n ≤ 1099511627776) (hd : 0 < d) (hd2 : d ≤ 70368744177664) : ∀ (b q r fuel : Nat), b ≤ 63 → b < fuel → q = A * (n / 2 ^ b) / d → r = A * (n / 2 ^ b) % d → q ≤ 2251799813685248 →
    ∃ x, loopN (amount_divide_l1 N n A d) fuel ((q : Int), (r : Int), (b : Int) - 1) = some x ∧
      ((x = .inl (((A * n / d : Nat) : Int), ((A * n % d : Nat) : Int)) ∧ A * n / d ≤ 2251799813685248) ∨ ∃ q' : Nat, x = .inr ((q' : Int), 0) ∧ 2251799813685248 < q' ∧ q' ≤ A * n / d ∧ q' < 9007199254740992)
  | 0, q, r, fuel, hb, hf, hq, hr, hle => by
    obtain ⟨m, rfl⟩ : ∃ m, fuel = m + 1 := ⟨fuel - 1, by omega⟩
    simp only [Nat.pow_zero, Nat.div_one] at hq hr
    exact ⟨_, by simp [loopN, amount_divide_l1]; rfl, .inl ⟨by rw [hq, hr], by omega⟩⟩
  | b + 1, q, r, fuel, hb, hf, hq, hr, hle => by
    obtain ⟨f, rfl⟩ : ∃ m, fuel = m + 1 := ⟨fuel - 1, by omega⟩
    have hm := half_pow n b
    generalize hm' : n / 2 ^ b = m' at *
    have hr2 : r < d := by rw [hr]; exact Nat.mod_lt _ hd
    have hAd : A % d < d := Nat.mod_lt _ hd
    have hAq : A / d ≤ A := Nat.div_le_self _ _
    have hAdm : A = d * (A / d) + A % d := (Nat.div_add_mod _ _).symm
    have hm2 : m' ≤ n := by rw [← hm']; exact Nat.div_le_self _ _
    have hmono : A * m' / d ≤ A * n / d := Nat.div_le_div_right (Nat.mul_le_mul_left _ hm2)
    have e0 : (((b + 1 : Nat) : Int) - 1) = (b : Int) := by omega
    have e1 : IntKind.wrap .i64 ((b : Int) - 1) = (b : Int) - 1 := wrap64 (by omega) (by omega)
    simp only [loopN, amount_divide_l1, e0, e1, show (decide ((b : Int) ≥ 0)) = true by simp, if_true, shr_nat n b (by omega), hm', Option.bind_some, i64_and1]
    -- what the bit adds
    have w1 : IntKind.wrap .i64 (2 * (q : Int)) = ((2 * q : Nat) : Int) := wrap_two (by omega)
    have w2 : IntKind.wrap .i64 (2 * (r : Int)) = ((2 * r : Nat) : Int) := wrap_two (by omega)
    have fin : ∀ x : Nat, A * (2 * (n / 2 ^ (b + 1)) + m' % 2) = 2 * (A * (n / 2 ^ (b + 1))) + x → ∀ q1 r1 : Nat, 2 * q + (2 * r + x) / d = q1 + r1 / d → (2 * r + x) % d = r1 % d → r1 ≤ 3 * 70368744177664 → q1 ≤ 6755399441055744 →
        ∃ y, ((quoW .i64 (r1 : Int) (d : Int)).bind fun n9 => (remW (r1 : Int) (d : Int)).bind fun n10 => if (decide ((IntKind.wrap .i64 ((q1 : Int) + n9)) > 2251799813685248)) = true then some (.inr (.inr ((IntKind.wrap .i64 ((q1 : Int) + n9)), (0 : Int)))) else some (.inl ((IntKind.wrap .i64 ((q1 : Int) + n9)), n10, (b : Int) - 1)) : Option ((Int × Int × Int) ⊕ ((Int × Int) ⊕ (Int × Int)))) = some y ∧
          ((∃ q2 r2 : Nat, y = .inl ((q2 : Int), (r2 : Int), (b : Int) - 1) ∧ q2 = A * m' / d ∧ r2 = A * m' % d ∧ q2 ≤ 2251799813685248) ∨ ∃ q' : Nat, y = .inr (.inr ((q' : Int), 0)) ∧ 2251799813685248 < q' ∧ q' ≤ A * n / d ∧ q' < 9007199254740992) := by
      intro x hx q1 r1 hq1 hr1 hb1 hb2
      obtain ⟨s1, s2⟩ := dm_step hd hq hr x hx
      rw [← hm] at s1 s2
      have hdiv := Nat.div_le_self r1 d
      rw [quo_nat r1 d hd (by omega), rem_nat r1 d hd]
      simp only [Option.bind_some]
      have w3 : IntKind.wrap .i64 ((q1 : Int) + ((r1 / d : Nat) : Int)) = ((q1 + r1 / d : Nat) : Int) := wrap_add_nat (by omega)
      rw [w3, ← hq1, ← s1]
      by_cases hgt : ((A * m' / d : Nat) : Int) > 2251799813685248
      · rw [if_pos (by simpa using hgt)]
        refine ⟨_, rfl, .inr ⟨A * m' / d, rfl, by omega, hmono, by omega⟩⟩
      · rw [if_neg (by simpa using hgt)]
        refine ⟨_, rfl, .inl ⟨A * m' / d, A * m' % d, by rw [s2, ← hr1], rfl, rfl, by omega⟩⟩
    rcases Nat.mod_two_eq_zero_or_one m' with hbit | hbit
    · have hb0 : ((((m' : Nat) : Int) % 2) == 1) = false := by
        have : ((m' : Int) % 2) = 0 := by omega
        rw [this]; rfl
      rw [hb0]
      simp only [Bool.false_eq_true, if_false, Option.bind_some, w1, w2]
      obtain ⟨y, hy1, hy2⟩ := fin 0 (by rw [hbit]; simp [Nat.mul_add, Nat.mul_left_comm]) (2 * q) (2 * r) rfl rfl (by omega) (by omega)
      rw [hy1]
      rcases hy2 with ⟨q2, r2, rfl, h1, h2, h3⟩ | ⟨q', rfl, h1, h2, h3⟩
      · exact divLoop_p N hA hn hd hd2 b q2 r2 f (by omega) (by omega) (by rw [hm']; exact h1) (by rw [hm']; exact h2) h3
      · exact ⟨_, rfl, .inr ⟨q', rfl, h1, h2, h3⟩⟩
    · have hb1 : ((((m' : Nat) : Int) % 2) == 1) = true := by
        have : ((m' : Int) % 2) = 1 := by omega
        rw [this]; rfl
      rw [hb1]
      simp only [if_true, Option.bind_some, w1, w2, quo_nat A d hd (by omega), rem_nat A d hd]
      have w4 : IntKind.wrap .i64 (((2 * q : Nat) : Int) + ((A / d : Nat) : Int)) = ((2 * q + A / d : Nat) : Int) := wrap_add_nat (by omega)
      have w5 : IntKind.wrap .i64 (((2 * r : Nat) : Int) + ((A % d : Nat) : Int)) = ((2 * r + A % d : Nat) : Int) := wrap_add_nat (by omega)
      rw [w4, w5]
      obtain ⟨y, hy1, hy2⟩ := fin A (by rw [hbit]; simp [Nat.mul_add, Nat.mul_left_comm]) (2 * q + A / d) (2 * r + A % d) (by
        have : 2 * r + A = (2 * r + A % d) + d * (A / d) := by omega
        rw [this, Nat.add_mul_div_left _ _ hd]; omega) (by
        have : 2 * r + A = (2 * r + A % d) + d * (A / d) := by omega
        rw [this, Nat.add_mul_mod_self_left]) (by omega) (by omega)
      rw [hy1]
      rcases hy2 with ⟨q2, r2, rfl, h1, h2, h3⟩ | ⟨q', rfl, h1, h2, h3⟩
      · exact divLoop_p N hA hn hd hd2 b q2 r2 f (by omega) (by omega) (by rw [hm']; exact h1) (by rw [hm']; exact h2) h3
      · exact ⟨_, rfl, .inr ⟨q', rfl, h1, h2, h3⟩⟩

theorem divide_p {N : Nat} (hN : 5000 ≤ N) {A n d : Nat} (hA : A ≤ 1125899906842624) (hn : n ≤ 1099511627776) (hd : 0 < d) (hd2 : d ≤ 70368744177664) :
    (amount_divide N A n d = some (((A * n / d : Nat) : Int), ((A * n % d : Nat) : Int)) ∧ A * n / d ≤ 2251799813685248) ∨ ∃ q' : Nat, amount_divide N A n d = some ((q' : Int), 0) ∧ 2251799813685248 < q' ∧ q' ≤ A * n / d ∧ q' < 9007199254740992 := by
  have h0 : n / 2 ^ 63 = 0 := Nat.div_eq_of_lt (by omega)
  obtain ⟨x, h1, h2⟩ := divLoop_p N hA hn hd hd2 63 0 0 N (by omega) (by omega) (by rw [h0]; simp) (by rw [h0]; simp) (by omega)
  have h1' : loopN (amount_divide_l1 N (n : Int) (A : Int) (d : Int)) N (0, 0, 62) = some x := h1
  unfold amount_divide
  rw [h1']
  rcases h2 with ⟨rfl, h3⟩ | ⟨q', rfl, h3⟩
  · exact .inl ⟨rfl, h3⟩
  · exact .inr ⟨q', rfl, h3⟩

theorem divLoop_r (N : Nat) {A n d : Nat} (hA : A ≤ 1125899906842624) (hn : n ≤ 1099511627776) (hd : 0 < d) (hd2 : d ≤ 70368744177664) : ∀ (b q r fuel : Nat), b ≤ 51 → b < fuel → q = min (n * (A / 2 ^ b) / d) 288230376151711744 → r = n * (A / 2 ^ b) % d →
    loopN (billingref01_Divide_l1 N A n d) fuel ((q : Int), (r : Int), (b : Int) - 1) = some (((min (n * A / d) 288230376151711744 : Nat) : Int), ((n * A % d : Nat) : Int))
  | 0, q, r, fuel, hb, hf, hq, hr => by
    obtain ⟨m, rfl⟩ : ∃ m, fuel = m + 1 := ⟨fuel - 1, by omega⟩
    simp only [Nat.pow_zero, Nat.div_one] at hq hr
    simp [loopN, billingref01_Divide_l1, hq, hr]
  | b + 1, q, r, fuel, hb, hf, hq, hr => by
    obtain ⟨f, rfl⟩ : ∃ m, fuel = m + 1 := ⟨fuel - 1, by omega⟩
    have hm := half_pow A b
    generalize hm' : A / 2 ^ b = m' at *
    have hr2 : r < d := by rw [hr]; exact Nat.mod_lt _ hd
    have hq2 : q ≤ 288230376151711744 := by rw [hq]; exact Nat.min_le_right _ _
    have e0 : (((b + 1 : Nat) : Int) - 1) = (b : Int) := by omega
    have e1 : IntKind.wrap .i64 ((b : Int) - 1) = (b : Int) - 1 := wrap64 (by omega) (by omega)
    have e2 : IntKind.wrap .u64 (b : Int) = (b : Int) := by
      simp only [IntKind.wrap, IntKind.bits, IntKind.signed]
      simp
      omega
    have w1 : IntKind.wrap .i64 (2 * (q : Int)) = ((2 * q : Nat) : Int) := wrap_two (by omega)
    have w2 : IntKind.wrap .i64 (2 * (r : Int)) = ((2 * r : Nat) : Int) := wrap_two (by omega)
    simp only [loopN, billingref01_Divide_l1, e0, e1, e2, show (decide ((b : Int) ≥ 0)) = true by simp, if_true, shr_nat A b (by omega), hm', Option.bind_some, i64_and1, w1, w2]
    have fin : ∀ x r1 : Nat, n * (2 * (A / 2 ^ (b + 1)) + m' % 2) = 2 * (n * (A / 2 ^ (b + 1))) + x → 2 * r + x = r1 → r1 ≤ 3 * 70368744177664 →
        ∃ q2 r2 : Nat, ((quoW .i64 (r1 : Int) (d : Int)).bind fun n6 => (remW (r1 : Int) (d : Int)).bind fun n7 => if (decide ((IntKind.wrap .i64 (((2 * q : Nat) : Int) + n6)) > 288230376151711744)) = true then some ((288230376151711744 : Int), n7) else some ((IntKind.wrap .i64 (((2 * q : Nat) : Int) + n6)), n7)) = some ((q2 : Int), (r2 : Int)) ∧
          q2 = min (n * m' / d) 288230376151711744 ∧ r2 = n * m' % d := by
      intro x r1 hx hr1 hb1
      have s0 := dm_step (q := n * (A / 2 ^ (b + 1)) / d) hd rfl hr x hx
      rw [← hm, hr1] at s0
      obtain ⟨s1, s2⟩ := s0
      have hdiv := Nat.div_le_self r1 d
      rw [quo_nat r1 d hd (by omega), rem_nat r1 d hd]
      simp only [Option.bind_some]
      have w3 : IntKind.wrap .i64 (((2 * q : Nat) : Int) + ((r1 / d : Nat) : Int)) = ((2 * q + r1 / d : Nat) : Int) := wrap_add_nat (by omega)
      rw [w3, ← s2]
      generalize n * (A / 2 ^ (b + 1)) / d = Q at *
      generalize n * m' / d = Q' at *
      generalize r1 / d = t at *
      by_cases hgt : ((2 * q + t : Nat) : Int) > 288230376151711744
      · rw [if_pos (by simpa using hgt)]
        exact ⟨288230376151711744, n * m' % d, rfl, by omega, rfl⟩
      · rw [if_neg (by simpa using hgt)]
        exact ⟨2 * q + t, n * m' % d, rfl, by omega, rfl⟩
    rcases Nat.mod_two_eq_zero_or_one m' with hbit | hbit
    · have hb0 : ((((m' : Nat) : Int) % 2) == 1) = false := by
        have : ((m' : Int) % 2) = 0 := by omega
        rw [this]; rfl
      rw [hb0]
      simp only [Bool.false_eq_true, if_false, Option.bind_some]
      obtain ⟨q2, r2, h1, h2, h3⟩ := fin 0 (2 * r) (by rw [hbit]; simp [Nat.mul_add, Nat.mul_left_comm]) rfl (by omega)
      rw [h1]
      exact divLoop_r N hA hn hd hd2 b q2 r2 f (by omega) (by omega) (by rw [hm']; exact h2) (by rw [hm']; exact h3)
    · have hb1 : ((((m' : Nat) : Int) % 2) == 1) = true := by
        have : ((m' : Int) % 2) = 1 := by omega
        rw [this]; rfl
      rw [hb1]
      have w4 : IntKind.wrap .i64 (((2 * r : Nat) : Int) + (n : Int)) = ((2 * r + n : Nat) : Int) := wrap_add_nat (by omega)
      simp only [if_true, Option.bind_some, w4]
      obtain ⟨q2, r2, h1, h2, h3⟩ := fin n (2 * r + n) (by rw [hbit]; simp [Nat.mul_add, Nat.mul_left_comm]) rfl (by omega)
      rw [h1]
      exact divLoop_r N hA hn hd hd2 b q2 r2 f (by omega) (by omega) (by rw [hm']; exact h2) (by rw [hm']; exact h3)
theorem divide_r {N : Nat} (hN : 5000 ≤ N) {A n d : Nat} (hA : A ≤ 1125899906842624) (hn : n ≤ 1099511627776) (hd : 0 < d) (hd2 : d ≤ 70368744177664) :
    billingref01_Divide N A n d = some (((min (A * n / d) 288230376151711744 : Nat) : Int), ((A * n % d : Nat) : Int)) := by
  have h0 : A / 2 ^ 51 = 0 := Nat.div_eq_of_lt (by omega)
  have h1 := divLoop_r N hA hn hd hd2 51 0 0 N (by omega) (by omega) (by rw [h0]; simp) (by rw [h0]; simp)
  have h1' : loopN (billingref01_Divide_l1 N (A : Int) (n : Int) (d : Int)) N (0, 0, 50) = some (((min (n * A / d) 288230376151711744 : Nat) : Int), ((n * A % d : Nat) : Int)) := h1
  unfold billingref01_Divide
  rw [h1', Nat.mul_comm n A]
  rfl

/-! ## Products, rounded -/
/-- a * n / d, rounded. -/
def rdiv (A n d : Nat) : Nat := if d ≤ 2 * (A * n % d) then A * n / d + 1 else A * n / d
def scaleS (a n d : Int) : Int × Int := bif !valB a || decide (n < 0) || decide (n > 1099511627776) || decide (d < 1) || decide (d > 1099511627776) then (0, 6) else
  if rdiv a.natAbs n.toNat d.toNat ≤ 1125899906842624 then (if a < 0 then -((rdiv a.natAbs n.toNat d.toNat : Nat) : Int) else ((rdiv a.natAbs n.toNat d.toNat : Nat) : Int), 0) else (0, 6)

theorem rdiv_ge {A n d : Nat} : A * n / d ≤ rdiv A n d ∧ rdiv A n d ≤ A * n / d + 1 := by unfold rdiv; split <;> omega

theorem scale_p {N : Nat} (hN : 5000 ≤ N) (a n d : Int) : amount_Scale N a n d = some (scaleS a n d) := by
  unfold amount_Scale scaleS
  rw [valid_p]
  simp only [Option.bind_some]
  cases hc : (!valB a || decide (n < 0) || decide (n > 1099511627776) || decide (d < 1) || decide (d > 1099511627776)) with
  | true => simp
  | false =>
    simp only [Bool.or_eq_false_iff, Bool.not_eq_false', decide_eq_false_iff_not] at hc
    obtain ⟨⟨⟨⟨h1, h2⟩, h3⟩, h4⟩, h5⟩ := hc
    have hv := valB_iff.1 h1
    obtain ⟨n, rfl⟩ : ∃ m : Nat, n = m := ⟨n.toNat, by omega⟩
    obtain ⟨d, rfl⟩ : ∃ m : Nat, d = m := ⟨d.toNat, by omega⟩
    have w0 : IntKind.wrap .i64 (0 - a) = -a := by rw [wrap64 (by omega) (by omega)]; omega
    have ha : (if -a > a then -a else a) = ((a.natAbs : Nat) : Int) := by split <;> omega
    simp only [Bool.false_eq_true, if_false, cond_false, w0, ha, Int.toNat_natCast]
    generalize hA : a.natAbs = A
    have hA2 : A ≤ 1125899906842624 := by omega
    rcases divide_p hN hA2 (n := n) (d := d) (by omega) (by omega) (by omega) with ⟨q1, q2⟩ | ⟨q', q1, q2, q3, q4⟩
    · rw [q1]
      have hlt := Nat.mod_lt (A * n) (show d > 0 by omega)
      generalize hQ : A * n / d = Q at *
      generalize hR : A * n % d = R at *
      have w1 : IntKind.wrap .i64 ((d : Int) - (R : Int)) = (d : Int) - (R : Int) := wrap64 (by omega) (by omega)
      have w2 : IntKind.wrap .i64 ((Q : Int) + 1) = ((Q + 1 : Nat) : Int) := by rw [wrap64 (by omega) (by omega)]; omega
      have e1 : (if decide ((R : Int) ≥ (d : Int) - (R : Int)) = true then some ((Q + 1 : Nat) : Int) else some (Q : Int)) = some ((rdiv A n d : Nat) : Int) := by
        unfold rdiv
        rw [hQ, hR]
        by_cases hc : d ≤ 2 * R
        · rw [if_pos (by simp; omega), if_pos hc]
        · rw [if_neg (by simp; omega), if_neg hc]
      have hrd := rdiv_ge (A := A) (n := n) (d := d)
      rw [hQ] at hrd
      simp only [Option.bind_some, w1, w2, e1]
      generalize rdiv A n d = T at *
      have w3 : IntKind.wrap .i64 (0 - (T : Int)) = -(T : Int) := by rw [wrap64 (by omega) (by omega)]; omega
      rw [w3]
      by_cases hneg : a < 0
      · simp only [hneg, decide_true, if_true, Option.bind_some, checked_p]
        by_cases hT : T ≤ 1125899906842624
        · have : valB (-(T : Int)) = true := valB_iff.2 (by omega)
          simp [chkS, this, hT]
        · have : valB (-(T : Int)) = false := by rw [← Bool.not_eq_true, valB_iff]; omega
          simp [chkS, this, hT]
      · simp only [hneg, decide_false, Bool.false_eq_true, if_false, Option.bind_some, checked_p]
        by_cases hT : T ≤ 1125899906842624
        · have : valB (T : Int) = true := valB_iff.2 (by omega)
          simp [chkS, this, hT]
        · have : valB (T : Int) = false := by rw [← Bool.not_eq_true, valB_iff]; omega
          simp [chkS, this, hT]
    · rw [q1]
      have hrd := rdiv_ge (A := A) (n := n) (d := d)
      have hT : ¬ rdiv A n d ≤ 1125899906842624 := by omega
      have w1 : IntKind.wrap .i64 ((d : Int) - 0) = (d : Int) := by rw [wrap64 (by omega) (by omega)]; omega
      have w3 : IntKind.wrap .i64 (0 - (q' : Int)) = -(q' : Int) := by rw [wrap64 (by omega) (by omega)]; omega
      have hd0 : decide ((0 : Int) ≥ (d : Int)) = false := by simp; omega
      simp only [Option.bind_some, w1, hd0, Bool.false_eq_true, if_false, w3, hT]
      by_cases hneg : a < 0
      · have : valB (-(q' : Int)) = false := by rw [← Bool.not_eq_true, valB_iff]; omega
        simp [hneg, checked_p, chkS, this]
      · have : valB (q' : Int) = false := by rw [← Bool.not_eq_true, valB_iff]; omega
        simp [hneg, checked_p, chkS, this]

theorem scale_r1 {N k : Nat} (hN : 5000 ≤ N) {A n d : Nat} (hA : A ≤ 1125899906842624) (hn : n ≤ 1099511627776) (hd : 0 < d) (hd2 : d ≤ 1099511627776) :
    billingref01_Scale_r N (k + 1) A n d = some (if rdiv A n d ≤ 1125899906842624 then ((rdiv A n d : Nat) : Int) else 0, if rdiv A n d ≤ 1125899906842624 then 0 else 6) := by
  have hv : valB (A : Int) = true := valB_iff.2 (by omega)
  have c1 : (((((!true) || (decide ((n : Int) < 0))) || (decide ((n : Int) > 1099511627776))) || (decide ((d : Int) < 1))) || (decide ((d : Int) > 1099511627776))) = false := by
    have a1 : decide ((n : Int) < 0) = false := by simp
    have a2 : decide ((n : Int) > 1099511627776) = false := by simp; omega
    have a3 : decide ((d : Int) < 1) = false := by simp; omega
    have a4 : decide ((d : Int) > 1099511627776) = false := by simp; omega
    rw [a1, a2, a3, a4]; rfl
  have hneg : decide ((A : Int) < 0) = false := by simp
  simp only [billingref01_Scale_r, valid_r, Option.bind_some, hv, c1, Bool.false_eq_true, if_false, hneg, divide_r hN hA hn hd (by omega)]
  have hlt := Nat.mod_lt (A * n) hd
  have hrd := rdiv_ge (A := A) (n := n) (d := d)
  have w1 : IntKind.wrap .i64 (2 * ((A * n % d : Nat) : Int)) = ((2 * (A * n % d) : Nat) : Int) := wrap_two (by omega)
  rw [w1]
  generalize hR : A * n % d = R at *
  have hrdiv : rdiv A n d = if d ≤ 2 * R then A * n / d + 1 else A * n / d := by unfold rdiv; rw [hR]
  generalize hQ : A * n / d = Q at *
  have w2 : IntKind.wrap .i64 (((min Q 288230376151711744 : Nat) : Int) + 1) = ((min Q 288230376151711744 + 1 : Nat) : Int) := by rw [wrap64 (by omega) (by omega)]; omega
  rw [w2]
  generalize rdiv A n d = T at *
  have hfin : ∀ U : Nat, (T ≤ 1125899906842624 → U = T) → (1125899906842624 < T → 1125899906842624 < U) →
      (if (!valB (U : Int)) = true then some ((0 : Int), (6 : Int)) else some ((U : Int), (0 : Int))) = some (if T ≤ 1125899906842624 then (T : Int) else 0, if T ≤ 1125899906842624 then 0 else 6) := by
    intro U h1 h2
    rcases Nat.lt_or_ge 1125899906842624 T with hT | hT
    · have hv2 : valB (U : Int) = false := by have := h2 hT; rw [← Bool.not_eq_true, valB_iff]; omega
      rw [hv2, if_pos (show (!false) = true from rfl), if_neg (Nat.not_le.2 hT), if_neg (Nat.not_le.2 hT)]
    · have hv2 : valB (U : Int) = true := by rw [h1 hT]; exact valB_iff.2 (by omega)
      rw [hv2, if_neg (show ¬ (!true) = true from by simp), if_pos hT, if_pos hT, h1 hT]
  by_cases hc : d ≤ 2 * R
  · rw [if_pos hc] at hrdiv
    have : decide (((2 * R : Nat) : Int) ≥ (d : Int)) = true := decide_eq_true (by omega)
    rw [this, if_pos rfl]
    obtain ⟨U, hU⟩ : ∃ U, U = min Q 288230376151711744 + 1 := ⟨_, rfl⟩
    rw [← hU]
    rw [Option.bind_some]
    exact hfin U (by omega) (by omega)
  · rw [if_neg hc] at hrdiv
    have : decide (((2 * R : Nat) : Int) ≥ (d : Int)) = false := decide_eq_false (by omega)
    rw [this, if_neg (by simp)]
    obtain ⟨U, hU⟩ : ∃ U, U = min Q 288230376151711744 := ⟨_, rfl⟩
    rw [← hU]
    rw [Option.bind_some]
    exact hfin U (by omega) (by omega)

theorem scale_r {N : Nat} (hN : 5000 ≤ N) (a n d : Int) : billingref01_Scale N a n d = some (scaleS a n d) := by
  obtain ⟨k, rfl⟩ : ∃ k, N = k + 2 := ⟨N - 2, by omega⟩
  unfold billingref01_Scale scaleS
  cases hc : (!valB a || decide (n < 0) || decide (n > 1099511627776) || decide (d < 1) || decide (d > 1099511627776)) with
  | true => simp only [billingref01_Scale_r, valid_r, Option.bind_some, hc]; rfl
  | false =>
    have hc' := hc
    simp only [Bool.or_eq_false_iff, Bool.not_eq_false', decide_eq_false_iff_not] at hc
    obtain ⟨⟨⟨⟨h1, h2⟩, h3⟩, h4⟩, h5⟩ := hc
    have hv := valB_iff.1 h1
    obtain ⟨n, rfl⟩ : ∃ m : Nat, n = m := ⟨n.toNat, by omega⟩
    obtain ⟨d, rfl⟩ : ∃ m : Nat, d = m := ⟨d.toNat, by omega⟩
    simp only [cond_false, Int.toNat_natCast]
    generalize hA : a.natAbs = A
    have hA2 : A ≤ 1125899906842624 := by omega
    by_cases hneg : a < 0
    · have w0 : IntKind.wrap .i64 (0 - a) = (A : Int) := by rw [wrap64 (by omega) (by omega)]; omega
      have e := scale_r1 (k := k) hN hA2 (n := n) (d := d) (by omega) (by omega) (by omega)
      rw [show k + 2 = (k + 1) + 1 from rfl]
      rw [show k + 2 = (k + 1) + 1 from rfl] at e
      rw [billingref01_Scale_r]
      simp only [valid_r, Option.bind_some, hc', Bool.false_eq_true, if_false, hneg, decide_true, if_true, w0, e]
      have hrd : rdiv A n d ≤ 1125899906842624 ∨ ¬ rdiv A n d ≤ 1125899906842624 := Nat.lt_or_ge _ _ |>.elim (fun h => .inr (by omega)) (fun h => .inl h)
      rcases hrd with hT | hT
      · simp only [hT, if_true]
        rw [wrap64 (by omega) (by omega)]
        simp
      · simp only [hT, if_false]
        rfl
    · have hAe : a = (A : Int) := by omega
      rw [hAe]
      have e := scale_r1 (k := k + 1) hN hA2 (n := n) (d := d) (by omega) (by omega) (by omega)
      rw [show k + 2 = (k + 1) + 1 from rfl] at e ⊢
      rw [e]
      have : ¬ ((A : Int) < 0) := by omega
      simp only [this, if_false]
      split <;> rfl

def percS (a p : Int) : Int × Int := bif decide (p < 0) || decide (p > 10000) then (0, 6) else scaleS a p 10000
theorem perc_p {N : Nat} (hN : 5000 ≤ N) (a p : Int) : amount_Percent N a p = some (percS a p) := by
  unfold amount_Percent percS
  rw [scale_p hN]
  cases (decide (p < 0) || decide (p > 10000)) <;> rfl
theorem perc_r {N : Nat} (hN : 5000 ≤ N) (a p : Int) : billingref01_Percent N a p = some (percS a p) := by
  unfold billingref01_Percent percS
  rw [scale_r hN]
  cases (decide (p < 0) || decide (p > 10000)) <;> rfl
end Gx

/- Amount, chapter 01: the examples; the statement about products. -/
namespace Gx
open Go Gd
set_option linter.unusedVariables false
set_option linter.unusedSimpArgs false
set_option maxRecDepth 100000

theorem awake01 : billinglaw01_awake (10000 + 64) = some true := by
  have : ∀ M, billinglaw01_awake (M + 64) = some true := fun M => by kernel_rfl
  exact this 10000

theorem same01 {N : Nat} {l : List Int} (hl : l.length ≤ 4096) (hN : 5000 ≤ N) : billingref01_Same N l l = some true := by
  unfold billingref01_Same
  simp only [bne_self_eq_false, Bool.false_eq_true, if_false]
  have key := loop_list (n := N) (s := ()) l (by rw [maxLen_val]; omega) (f := billingref01_Same_l1 N l l) (fun s i => i) (fun i s => True) (fun s xs => .inl ())
    (fun s hI h => by simp [billingref01_Same_l1]) (fun s i x xs hx hlt hidx hw hd hI => .inl ⟨(), by simp [billingref01_Same_l1, hidx, hw]; exact (List.getElem?_eq_some_iff.1 hx).1, trivial, rfl⟩) (by omega) trivial
  rw [show loopN (billingref01_Same_l1 N l l) N 0 = some (.inl ()) from key]
  rfl

theorem law_AmountScales (x0 : Int) (g0 : gd (.int .i64) x0) (x1 : Int) (g1 : gd (.int .i64) x1) (x2 : Int) (g2 : gd (.int .i64) x2) : ∃ N, billinglaw01_AmountScales N x0 x1 x2 = some true := by
  refine ⟨10000 + 64, ?_⟩
  unfold billinglaw01_AmountScales
  rw [scale_p (by omega), scale_r (by omega), awake01]
  simp

end Gx

/- Amount, chapter 01: Parse. -/
namespace Gx
open Go Gd Go.Lib
set_option linter.unusedVariables false
set_option linter.unusedSimpArgs false

theorem wrap8 {n : Int} (h0 : 0 ≤ n) (h1 : n < 256) : IntKind.wrap .u8 n = n := by
  simp [IntKind.wrap, IntKind.bits, IntKind.signed]; omega
theorem sidx_at {s : Str} {i : Nat} {c : UInt8} (h : s[i]? = some c) : sidx s (i : Int) = some (c.toNat : Int) := by simp [sidx, idx_nat h]
theorem scat_few {a b : Str} (h : a.length + b.length ≤ 4096) : scat a b = some (a ++ b) := scat_of (by omega)
theorem slc_to {α : Type} {xs : List α} {k : Nat} (h : k ≤ xs.length) : slc xs 0 (k : Int) = some (xs.take k) := by
  unfold slc; rw [if_pos (by omega)]; simp
theorem slc_from {α : Type} {xs : List α} {k : Nat} (h : k ≤ xs.length) : slc xs (k : Int) (xs.length : Int) = some (xs.drop k) := by
  unfold slc; rw [if_pos (by omega)]
  simp only [Int.toNat_natCast, Option.some.injEq]
  exact List.take_of_length_le (by rw [List.length_drop]; omega)

def isDig (c : UInt8) : Bool := !(decide ((c.toNat : Int) < 48) || decide ((c.toNat : Int) > 57))
theorem isDig_iff {c : UInt8} : isDig c = true ↔ 48 ≤ c.toNat ∧ c.toNat ≤ 57 := by simp [isDig]; omega
abbrev digSet : Str := [48, 49, 50, 51, 52, 53, 54, 55, 56, 57]
theorem digSet_eq (c : UInt8) : digSet.contains c = isDig c := by
  have h : (List.range 256).all (fun n => digSet.contains (UInt8.ofNat n) == isDig (UInt8.ofNat n)) = true := by decide +kernel
  have := List.all_eq_true.1 h c.toNat (List.mem_range.2 c.toNat_lt)
  simpa using this
theorem dropW_nil {p : UInt8 → Bool} : ∀ {l : Str}, l.dropWhile p = [] ↔ ∀ x ∈ l, p x = true
  | [] => by simp
  | c :: l => by
    rw [List.dropWhile_cons]
    cases h : p c with
    | true => simp only [if_true, dropW_nil (l := l), List.mem_cons, forall_eq_or_imp, h, true_and]
    | false => simp [h]
theorem trimS_nil {l cs : Str} : (trimS l cs == []) = l.all (cs.contains ·) := by
  rw [Bool.eq_iff_iff, beq_iff_eq]
  unfold trimS trimLeftS trimRightS
  rw [dropW_nil]
  constructor
  · intro h
    rw [List.all_eq_true]
    have hd : (l.reverse.dropWhile (cs.contains ·)) = [] := by
      cases hc : l.reverse.dropWhile (cs.contains ·) with
      | nil => rfl
      | cons x xs =>
        exfalso
        have h1 : cs.contains x = true := h x (by rw [hc]; simp)
        have h2 := List.head_dropWhile_not (p := (cs.contains ·)) (l := l.reverse) (by rw [hc]; simp)
        simp only [hc, List.head_cons, h1] at h2
        cases h2
    rw [dropW_nil] at hd
    exact fun x hx => hd x (List.mem_reverse.2 hx)
  · intro h x hx
    have hx' := List.mem_reverse.1 hx
    have : x ∈ l.reverse := (List.dropWhile_sublist _).subset hx'
    exact List.all_eq_true.1 h x (List.mem_reverse.1 this)

/-! ## What is parsed -/
def capStep (a : Int) (c : UInt8) : Int := if 1125899906842625 < 10 * a + ((c.toNat : Int) - 48) then 1125899906842625 else 10 * a + ((c.toNat : Int) - 48)
def capS (l : Str) : Int := l.foldl capStep 0
theorem cap_bound {l : Str} (h : l.all isDig = true) : 0 ≤ capS l ∧ capS l ≤ 1125899906842625 := by
  have go : ∀ (l : Str) (a : Int), l.all isDig = true → 0 ≤ a → a ≤ 1125899906842625 → 0 ≤ l.foldl capStep a ∧ l.foldl capStep a ≤ 1125899906842625 := by
    intro l
    induction l with
    | nil => intro a _ h1 h2; exact ⟨h1, h2⟩
    | cons c l ih =>
      intro a hd h1 h2
      simp only [List.all_cons, Bool.and_eq_true] at hd
      have hc := isDig_iff.1 hd.1
      exact ih _ hd.2 (by unfold capStep; split <;> omega) (by unfold capStep; split <;> omega)
  exact go l 0 h (by omega) (by omega)
theorem cap_snoc {l : Str} {c : UInt8} : capS (l ++ [c]) = capStep (capS l) c := by simp [capS, List.foldl_append]
def isForm (t : Str) : Bool := decide (6 ≤ t.length) && (t[t.length - 5]? == some 46) && !((t[0]? == some 48) && decide (6 < t.length)) && (t.eraseIdx (t.length - 5)).all isDig
def parsT (neg : Bool) (t : Str) : Int × Int := bif isForm t then (bif neg then (if capS (t.eraseIdx (t.length - 5)) = 0 then (0, 1) else chkS (-capS (t.eraseIdx (t.length - 5)))) else chkS (capS (t.eraseIdx (t.length - 5)))) else (0, 1)
def parseS (s : Str) : Int × Int := match s with
  | 45 :: t => parsT true t
  | t => parsT false t

/-! ## The reference -/
theorem refLoop {N : Nat} {t : Str} (hN : 5000 ≤ N) (hl : t.length ≤ 4096) (h6 : 6 ≤ t.length) :
    loopN (billingref01_Parse_l1 N t) N (0, false, 0) = some (bif (t.eraseIdx (t.length - 5)).all isDig then .inl (min (capS (t.eraseIdx (t.length - 5))) 1125899906842624, decide (capS (t.eraseIdx (t.length - 5)) > 1125899906842624)) else .inr (0, 1)) := by
  generalize hk : t.length - 5 = k
  refine loop_list (n := N) (s := ((0 : Int), false)) t (by rw [maxLen_val]; omega) (f := billingref01_Parse_l1 N t) (fun s i => (s.1, s.2, i))
    (fun i s => ((t.take i).eraseIdx k).all isDig = true ∧ s = (min (capS ((t.take i).eraseIdx k)) 1125899906842624, decide (capS ((t.take i).eraseIdx k) > 1125899906842624)))
    (fun s xs => bif (t.eraseIdx k).all isDig then .inl (min (capS (t.eraseIdx k)) 1125899906842624, decide (capS (t.eraseIdx k) > 1125899906842624)) else .inr (0, 1)) (fun s hI h => ?_) (fun s i x xs hx hlt hidx hw hd hI => ?_) (by omega) ⟨by simp, by simp [capS]; omega⟩
  · obtain ⟨h1, h2⟩ := hI
    rw [List.take_length] at h1 h2
    rw [h2, h1]
    simp [billingref01_Parse_l1]
  · obtain ⟨h1, h2⟩ := hI
    have hi := (List.getElem?_eq_some_iff.1 hx).1
    have hk5 : IntKind.wrap .i64 ((t.length : Int) - 5) = (k : Int) := by rw [wrap64 (by omega) (by omega)]; omega
    have hs : sidx t (i : Int) = some (x.toNat : Int) := sidx_at hx
    by_cases hik : i = k
    · subst hik
      refine .inl ⟨s, ?_, ?_, rfl⟩
      · rw [h2]
        simp only [billingref01_Parse_l1, hlt, if_true, hk5, beq_self_eq_true, Option.bind_some, hw]
      · have e : (t.take (i + 1)).eraseIdx i = (t.take i).eraseIdx i := by
          rw [take_snoc hx, List.eraseIdx_append_of_length_le (by rw [List.length_take]; omega), List.eraseIdx_of_length_le (l := t.take i) (by rw [List.length_take]; omega)]
          simp [show i - min i t.length = 0 by omega]
        rw [e]
        exact ⟨h1, h2⟩
    · have hne : ((i : Int) == (k : Int)) = false := by simp; omega
      have e : (t.take (i + 1)).eraseIdx k = (t.take i).eraseIdx k ++ [x] := by
        rw [take_snoc hx]
        by_cases hlt2 : i < k
        · rw [List.eraseIdx_of_length_le (l := t.take i) (by rw [List.length_take]; omega), List.eraseIdx_of_length_le (by simp; omega)]
        · rw [List.eraseIdx_append_of_lt_length (by rw [List.length_take]; omega)]
      simp only [billingref01_Parse_l1, hlt, if_true, hk5, hne, Bool.false_eq_true, if_false, hs, Option.bind_some, h2]
      cases hdg : isDig x with
      | false =>
        right
        have hf : (t.eraseIdx k).all isDig = false := by
          rw [← Bool.not_eq_true, List.all_eq_true]
          intro hall
          have hx' : x ∈ t.eraseIdx k := by
            rw [List.mem_eraseIdx_iff_getElem?]
            exact ⟨i, hik, hx⟩
          have := hall x hx'
          rw [hdg] at this; cases this
        rw [hf]
        have : ¬ (48 ≤ x.toNat ∧ x.toNat ≤ 57) := fun q => by rw [isDig_iff.2 q] at hdg; cases hdg
        by_cases h48 : (x.toNat : Int) < 48
        · simp [h48]
        · simp [h48, show (57 : Int) < (x.toNat : Int) by omega]
      | true =>
        have hx2 := isDig_iff.1 hdg
        have hal : ((t.take (i + 1)).eraseIdx k).all isDig = true := by rw [e, List.all_append, h1]; simp [hdg]
        have hcb := cap_bound h1
        have u1 : IntKind.wrap .u8 ((x.toNat : Int) - 48) = (x.toNat : Int) - 48 := wrap8 (by omega) (by omega)
        have u2 : IntKind.wrap .i64 ((x.toNat : Int) - 48) = (x.toNat : Int) - 48 := wrap64 (by omega) (by omega)
        refine .inl ⟨(min (capS ((t.take (i + 1)).eraseIdx k)) 1125899906842624, decide (capS ((t.take (i + 1)).eraseIdx k) > 1125899906842624)), ?_, ⟨hal, rfl⟩, by trivial⟩
        rw [e, cap_snoc]
        generalize capS ((t.take i).eraseIdx k) = a at *
        have u3 : IntKind.wrap .i64 (10 * min a 1125899906842624) = 10 * min a 1125899906842624 := wrap64 (by omega) (by omega)
        have u4 : IntKind.wrap .i64 (10 * min a 1125899906842624 + ((x.toNat : Int) - 48)) = 10 * min a 1125899906842624 + ((x.toNat : Int) - 48) := wrap64 (by omega) (by omega)
        have n1 : ¬ ((x.toNat : Int) < 48) := by omega
        have n2 : ¬ ((x.toNat : Int) > 57) := by omega
        simp only [n1, n2, decide_false, Bool.false_eq_true, if_false, Option.bind_some, u1, u2, u3, u4, hw]
        by_cases hbig : a > 1125899906842624
        · have ha : a = 1125899906842625 := by omega
          subst ha
          rw [if_pos (by simp; omega)]
          unfold capStep
          rw [if_pos (by omega)]
          have em : min (1125899906842625 : Int) 1125899906842624 = 1125899906842624 := by omega
          simp [em]
        · have hm : min a 1125899906842624 = a := by omega
          rw [hm]
          unfold capStep
          by_cases hc : 10 * a + ((x.toNat : Int) - 48) > 1125899906842624
          · rw [if_pos (by simpa using hc)]
            by_cases hd2 : 1125899906842625 < 10 * a + ((x.toNat : Int) - 48)
            · have em : min (1125899906842625 : Int) 1125899906842624 = 1125899906842624 := by omega
              rw [if_pos hd2]; simp [em]
            · rw [if_neg hd2]
              have : 10 * a + ((x.toNat : Int) - 48) = 1125899906842625 := by omega
              have em : min (1125899906842625 : Int) 1125899906842624 = 1125899906842624 := by omega
              rw [this]; simp [em]
          · rw [if_neg (by simpa using hc), if_neg (by omega)]
            have e1 : min (10 * a + ((x.toNat : Int) - 48)) 1125899906842624 = 10 * a + ((x.toNat : Int) - 48) := by omega
            have e2 : decide (10 * a + ((x.toNat : Int) - 48) > 1125899906842624) = false := by simp; omega
            have e3 : decide (a > 1125899906842624) = false := by simp; omega
            rw [e1, e2, e3]
            rfl
end Gx

/- Amount, chapter 01: Parse is as defined. -/
namespace Gx
open Go Gd Go.Lib
set_option linter.unusedVariables false
set_option linter.unusedSimpArgs false

theorem get0_cons {c : UInt8} {t : Str} : (c :: t)[0]? = some c := rfl

theorem parsT_r {N : Nat} (hN : 5000 ≤ N) {t : Str} (hl : t.length ≤ 4096) (neg : Bool) :
    ((if (decide ((List.length t : Int) < 6)) = true then
      some true
    else
      (sidx t (IntKind.wrap .i64 ((List.length t : Int) - 5))).bind fun c7 =>
      some (c7 != 46) : Option (Bool)).bind fun v8 =>
    (if v8 = true then
      some true
    else
      (sidx t 0).bind fun c10 =>
      some ((c10 == 48) && (decide ((List.length t : Int) > 6))) : Option (Bool)).bind fun v11 =>
    if v11 = true then
      some (0, 1)
    else
      (loopN (billingref01_Parse_l1 N t) N (0, false, 0)).bind fun
        | .inl (v24, v25) =>
          if v25 = true then
            some (0, 6)
          else
            if (neg && (v24 == 0)) = true then
              some (0, 1)
            else
              if neg = true then
                some ((IntKind.wrap .i64 (0 - v24)), 0)
              else
                some (v24, 0)
        | .inr (v26, v27) =>
          some (v26, v27)) = some (parsT neg t) := by
  unfold parsT isForm
  by_cases h6 : (t.length : Int) < 6
  · simp [h6, show ¬ 6 ≤ t.length by omega]
  · have hk5 : IntKind.wrap .i64 ((t.length : Int) - 5) = ((t.length - 5 : Nat) : Int) := by rw [wrap64 (by omega) (by omega)]; omega
    obtain ⟨c, hc⟩ : ∃ c, t[t.length - 5]? = some c := ⟨_, List.getElem?_eq_getElem (by omega)⟩
    obtain ⟨d, hd⟩ : ∃ d, t[0]? = some d := ⟨_, List.getElem?_eq_getElem (by omega)⟩
    have e46 : ((c.toNat : Int) != 46) = !(c == 46) := by
      rw [Bool.eq_iff_iff]; simp [← UInt8.toNat_inj]; omega
    have e48 : ((d.toNat : Int) == 48) = (d == 48) := by
      rw [Bool.eq_iff_iff]; simp [← UInt8.toNat_inj]; omega
    have hd0 : sidx t 0 = some (d.toNat : Int) := sidx_at (i := 0) hd
    simp only [h6, decide_false, Bool.false_eq_true, if_false, hk5, sidx_at hc, Option.bind_some, e46, hd0, e48, show decide (6 ≤ t.length) = true by simp; omega, hc, hd, Bool.true_and, refLoop hN hl (by omega)]
    have f1 : (some c == some (46 : UInt8)) = (c == 46) := rfl
    have f2 : (some d == some (48 : UInt8)) = (d == 48) := rfl
    have f3 : decide ((t.length : Int) > 6) = decide (6 < t.length) := by rw [Bool.eq_iff_iff]; simp; omega
    rw [f1, f2, f3]
    cases c == 46 with
    | false => simp
    | true =>
      simp only [Bool.not_true, Bool.false_eq_true, if_false, Option.bind_some, Bool.true_and]
      cases ((d == 48) && decide (6 < t.length)) with
      | true => simp
      | false =>
        simp only [Bool.false_eq_true, if_false, Bool.not_false, Bool.true_and]
        cases hall : (t.eraseIdx (t.length - 5)).all isDig with
        | false => simp
        | true =>
          have hb := cap_bound hall
          generalize capS (t.eraseIdx (t.length - 5)) = a at *
          simp only [cond_true, Option.bind_some]
          by_cases hbig : a > 1125899906842624
          · have ha : a = 1125899906842625 := by omega
            subst ha
            cases neg <;> rfl
          · have hm : min a 1125899906842624 = a := by omega
            have hv : valB a = true := valB_iff.2 (by omega)
            have hv2 : valB (-a) = true := valB_iff.2 (by omega)
            have hw : IntKind.wrap .i64 (0 - a) = -a := by rw [wrap64 (by omega) (by omega)]; omega
            simp only [hm, hbig, decide_false, Bool.false_eq_true, if_false, hw]
            cases neg with
            | false => simp [chkS, hv]
            | true =>
              by_cases h0 : a = 0
              · simp [h0]
              · simp [h0, chkS, hv2]

theorem parse_r {N : Nat} (hN : 5000 ≤ N) {s : Str} (hl : s.length ≤ 4096) : billingref01_Parse N s = some (parseS s) := by
  unfold billingref01_Parse
  cases s with
  | nil => rfl
  | cons c t =>
    have hs0 : sidx (c :: t) 0 = some (c.toNat : Int) := sidx_at (i := 0) rfl
    have e45 : ((c.toNat : Int) == 45) = (c == 45) := by
      rw [Bool.eq_iff_iff]; simp [← UInt8.toNat_inj]; omega
    have hpos : decide (((c :: t).length : Int) > 0) = true := by simp
    simp only [hpos, if_true, hs0, Option.bind_some, e45]
    cases hc : c == 45 with
    | true =>
      obtain rfl := beq_iff_eq.1 hc
      have hd : slc (45 :: t) 1 ((45 :: t : Str).length : Int) = some t := slc_from (xs := (45 :: t : Str)) (k := 1) (by simp)
      simp only [if_true, hd, Option.bind_some]
      exact parsT_r hN (by simp at hl; omega) true
    | false =>
      simp only [Bool.false_eq_true, if_false, Option.bind_some]
      have hne : parseS (c :: t) = parsT false (c :: t) := by
        unfold parseS
        split
        · rename_i heq
          cases heq
          simp at hc
        · rfl
      rw [hne]
      exact parsT_r hN hl false
end Gx

/- Amount, chapter 01: the code's Parse. -/
namespace Gx
open Go Gd Go.Lib
set_option linter.unusedVariables false
set_option linter.unusedSimpArgs false

def dropNeg : Str → Str
  | 45 :: t => t
  | t => t
theorem trimPre {N : Nat} (s : Str) : strings_TrimPrefix N s [45] = some (dropNeg s) := by
  unfold strings_TrimPrefix stringslite_TrimPrefix stringslite_HasPrefix
  cases s with
  | nil => rfl
  | cons c t =>
    have h1 : slc (c :: t) 0 (([45] : Str).length : Int) = some [c] := by
      rw [show (([45] : Str).length : Int) = ((1 : Nat) : Int) from rfl, slc_to (by simp)]; rfl
    have h2 : slc (c :: t) (([45] : Str).length : Int) ((c :: t).length : Int) = some t := slc_from (xs := c :: t) (k := 1) (by simp)
    have hpos : decide (((c :: t).length : Int) ≥ (([45] : Str).length : Int)) = true := by simp; omega
    simp only [hpos, if_true, h1, Option.bind_some, h2]
    by_cases hc : c = 45
    · subst hc; rfl
    · have : (([c] : Str) == [45]) = false := by simp [hc]
      rw [this]
      simp only [Bool.false_eq_true, if_false, Option.bind_some]
      congr 1
      unfold dropNeg
      split
      · rename_i heq; cases heq; exact absurd rfl hc
      · rfl

theorem cut_none {N : Nat} {t : Str} (h : indexByte t 46 < 0) : strings_Cut N t [46] = some (t, [], false) := by
  unfold strings_Cut stringslite_Cut
  have : index1F t [46] = some (indexByte t 46) := rfl
  simp only [this, Option.bind_some, show decide (indexByte t 46 ≥ 0) = false by simp; omega, Bool.false_eq_true, if_false]
theorem cut_some {N : Nat} {w p : Str} (h : indexByte (w ++ 46 :: p) 46 = (w.length : Int)) (hl : (w ++ 46 :: p).length ≤ 4096) : strings_Cut N (w ++ 46 :: p) [46] = some (w, p, true) := by
  unfold strings_Cut stringslite_Cut
  have e : index1F (w ++ 46 :: p) [46] = some (indexByte (w ++ 46 :: p) 46) := rfl
  have w1 : IntKind.wrap .i64 ((w.length : Int) + (([46] : Str).length : Int)) = ((w.length + 1 : Nat) : Int) := by
    simp only [List.length_append, List.length_cons, List.length_nil] at *
    rw [wrap64 (by omega) (by omega)]; omega
  have s1 : slc (w ++ 46 :: p) 0 (w.length : Int) = some w := by rw [slc_to (by simp)]; simp
  have s2 : slc (w ++ 46 :: p) ((w.length + 1 : Nat) : Int) ((w ++ 46 :: p).length : Int) = some p := by
    rw [slc_from (by simp)]
    congr 1
    rw [← List.drop_drop]; simp
  simp only [e, h, Option.bind_some, show decide ((w.length : Int) ≥ 0) = true by simp, if_true, s1, w1, s2]

theorem digLoop {N : Nat} {w p : Str} (hN : 5000 ≤ N) (hl : (w ++ p).length ≤ 4096) (hd : (w ++ p).all isDig = true) : loopN (amount_Parse_l1 N (w ++ p) w p) N (0, 0) = some (capS (w ++ p)) := by
  have hsc : scat w p = some (w ++ p) := scat_few (by simp at hl; omega)
  refine loop_list (n := N) (s := (0 : Int)) (w ++ p) (by rw [maxLen_val]; omega) (f := amount_Parse_l1 N (w ++ p) w p) (fun s i => (s, i))
    (fun i s => s = capS ((w ++ p).take i)) (fun s xs => capS (w ++ p)) (fun s hI h => ?_) (fun s i x xs hx hlt hidx hw hdr hI => ?_) (by omega) (by simp [capS])
  · rw [List.take_length] at hI
    rw [hI]
    simp [amount_Parse_l1]
  · have hx2 := isDig_iff.1 (List.all_eq_true.1 hd x (List.mem_of_getElem? hx))
    have h1 : ((w ++ p).take i).all isDig = true := by
      rw [List.all_eq_true]; intro y hy; exact List.all_eq_true.1 hd y (List.mem_of_mem_take hy)
    have hcb := cap_bound h1
    have hs : sidx (w ++ p) (i : Int) = some (x.toNat : Int) := sidx_at hx
    refine .inl ⟨capS ((w ++ p).take (i + 1)), ?_, rfl, rfl⟩
    rw [hI, take_snoc hx, cap_snoc]
    generalize capS ((w ++ p).take i) = a at *
    have u1 : IntKind.wrap .u8 ((x.toNat : Int) - 48) = (x.toNat : Int) - 48 := wrap8 (by omega) (by omega)
    have u2 : IntKind.wrap .i64 ((x.toNat : Int) - 48) = (x.toNat : Int) - 48 := wrap64 (by omega) (by omega)
    have u3 : IntKind.wrap .i64 (10 * a) = 10 * a := wrap64 (by omega) (by omega)
    have u4 : IntKind.wrap .i64 (10 * a + ((x.toNat : Int) - 48)) = 10 * a + ((x.toNat : Int) - 48) := wrap64 (by omega) (by omega)
    simp only [amount_Parse_l1, hlt, if_true, hsc, Option.bind_some, hs, u1, u2, u3, u4, hw]
    rfl

theorem form_split {w p : Str} (hno : ∀ k : Nat, k < w.length → (w ++ 46 :: p)[k]? ≠ some 46) :
    isForm (w ++ 46 :: p) = (decide (p.length = 4) && !(w == []) && (w ++ p).all isDig && !((w[0]? == some 48) && decide (1 < w.length))) := by
  have hlen : (w ++ 46 :: p).length = w.length + p.length + 1 := by simp; omega
  by_cases hp : p.length = 4
  · have hk : (w ++ 46 :: p).length - 5 = w.length := by omega
    have hget : (w ++ 46 :: p)[w.length]? = some 46 := by simp
    have her : (w ++ 46 :: p).eraseIdx w.length = w ++ p := by
      rw [List.eraseIdx_append_of_length_le (by omega)]; simp
    unfold isForm
    rw [hk, hget, her, hlen]
    cases w with
    | nil => simp [hp]
    | cons c w => simp [hp]; rw [Bool.eq_iff_iff]; simp; constructor <;> intro ⟨a, b⟩ <;> refine ⟨?_, ?_⟩ <;> first | exact a | exact b | omega
  · have : isForm (w ++ 46 :: p) = false := by
      rw [← Bool.not_eq_true]
      intro hf
      unfold isForm at hf
      simp only [Bool.and_eq_true, beq_iff_eq, decide_eq_true_eq] at hf
      obtain ⟨⟨⟨h1, h2⟩, _⟩, h4⟩ := hf
      have hmem : (46 : UInt8) ∈ (w ++ 46 :: p).eraseIdx ((w ++ 46 :: p).length - 5) := by
        rw [List.mem_eraseIdx_iff_getElem?]
        exact ⟨w.length, by omega, by simp⟩
      have := List.all_eq_true.1 h4 _ hmem
      cases this
    rw [this]
    simp [hp]
end Gx

/- Amount, chapter 01: Parse is as defined, and the statement on it. -/
namespace Gx
open Go Gd Go.Lib
set_option linter.unusedVariables false
set_option linter.unusedSimpArgs false

theorem form_no46 {t : Str} (h : indexByte t 46 < 0) : isForm t = false := by
  have hm : indexByte t 46 = -1 := by have := indexByte_ge t 46; omega
  have hn := indexByte_none hm
  rw [← Bool.not_eq_true]
  intro hf
  unfold isForm at hf
  simp only [Bool.and_eq_true, beq_iff_eq] at hf
  exact hn _ hf.1.1.2

theorem split_at {t : Str} (h : ¬ indexByte t 46 < 0) : ∃ w p : Str, t = w ++ 46 :: p ∧ indexByte t 46 = (w.length : Int) ∧ ∀ k : Nat, k < w.length → t[k]? ≠ some 46 := by
  obtain ⟨o, ho⟩ : ∃ o : Nat, indexByte t 46 = o := ⟨(indexByte t 46).toNat, by omega⟩
  obtain ⟨h1, h2⟩ := indexByte_some ho
  have hlt := (List.getElem?_eq_some_iff.1 h1).1
  refine ⟨t.take o, t.drop (o + 1), ?_, ?_, ?_⟩
  · have := List.drop_eq_getElem_cons hlt
    rw [List.getElem?_eq_getElem hlt] at h1
    rw [← Option.some.inj h1, ← this, List.take_append_drop]
  · rw [ho, List.length_take]; congr 1; omega
  · intro k hk
    rw [List.length_take] at hk
    exact h2 k (by omega)

theorem parse_tail {N : Nat} (hN : 5000 ≤ N) {x0 t : Str} (hl : t.length ≤ 4096) :
    ((strings_Cut N t ([46] : Str)).bind fun (r2, r3, r4) =>
  (if (((!r4) || ((List.length r3 : Int) != 4)) || (r2 == ([] : Str))) then
    some true
  else
    (scat r2 r3).bind fun s6 =>
    (trimF s6 ([48, 49, 50, 51, 52, 53, 54, 55, 56, 57] : Str)).bind fun r7 =>
    some (!(r7 == ([] : Str))) : Option (Bool)).bind fun v8 =>
  (if v8 then
    some true
  else
    (if (decide ((List.length r2 : Int) > 1)) then
      (sidx r2 0).bind fun c12 =>
      some (c12 == 48)
    else
      some false : Option (Bool)).bind fun v13 =>
    some v13 : Option (Bool)).bind fun v14 =>
  if v14 then
    some (0, 1)
  else
    (scat r2 r3).bind fun s15 =>
    (loopN (amount_Parse_l1 N s15 r2 r3) N (0, 0)).bind fun v20 =>
    (if (decide ((List.length t : Int) < (List.length x0 : Int))) then
      if (v20 == 0) then
        some (.inr (0, 1))
      else
        some (.inl (IntKind.wrap .i64 (0 - v20)))
    else
      some (.inl v20) : Option ((Int) ⊕ (Int × Int))).bind fun
      | .inl v21 =>
        (amount_checked N v21).bind fun (r22, r23) =>
        some (r22, r23)
      | .inr (v24, v25) =>
        some (v24, v25)) = some (parsT (decide ((List.length t : Int) < (List.length x0 : Int))) t) := by
  generalize decide ((List.length t : Int) < (List.length x0 : Int)) = neg
  unfold parsT
  by_cases hneg : indexByte t 46 < 0
  · rw [cut_none hneg, form_no46 hneg]
    rfl
  · obtain ⟨w, p, rfl, hi, hno⟩ := split_at hneg
    rw [cut_some hi hl, form_split hno]
    have hsc : scat w p = some (w ++ p) := scat_few (by simp at hl; omega)
    have hle : (w ++ p).length ≤ 4096 := by simp at hl ⊢; omega
    have htr : trimF (w ++ p) digSet = some (trimS (w ++ p) digSet) := by
      have : (Nat.ble (w ++ p).length 9223372036854775807 && Nat.ble digSet.length 4294967280 && digSet.all (fun b => Nat.blt b.toNat 128)) = true := by
        rw [show Nat.ble (w ++ p).length 9223372036854775807 = true from Nat.ble_eq_true_of_le (by omega)]; rfl
      unfold trimF
      rw [this]; rfl
    have hall : (trimS (w ++ p) digSet == []) = (w ++ p).all isDig := by
      rw [trimS_nil]; congr 1; exact funext digSet_eq
    have hp4 : ((p.length : Int) != 4) = !decide (p.length = 4) := by rw [Bool.eq_iff_iff]; simp; omega
    have h1 : decide ((w.length : Int) > 1) = decide (1 < w.length) := by rw [Bool.eq_iff_iff]; simp; omega
    have hk5 : p.length = 4 → (w ++ 46 :: p).eraseIdx ((w ++ 46 :: p).length - 5) = w ++ p := by
      intro h4
      rw [show (w ++ 46 :: p).length - 5 = w.length by simp; omega, List.eraseIdx_append_of_length_le (by omega)]; simp
    simp only [Option.bind_some, Bool.not_true, Bool.false_or, hp4, hsc, htr, hall, h1]
    cases h4 : decide (p.length = 4) with
    | false => simp
    | true =>
      have h4' : p.length = 4 := by simpa using h4
      rw [hk5 h4']
      cases hw : w with
      | nil => simp
      | cons c w' =>
        rw [← hw]
        have hwe : (w == []) = false := by rw [hw]; rfl
        have h0 : w[0]? = some c := by rw [hw]; rfl
        have e48 : ((c.toNat : Int) == 48) = (some c == some (48 : UInt8)) := by
          rw [Bool.eq_iff_iff]; simp [← UInt8.toNat_inj]; omega
        have hs0 : sidx w 0 = some (c.toNat : Int) := sidx_at (i := 0) h0
        simp only [hwe, Bool.or_false, Bool.not_true, Bool.false_eq_true, if_false, Option.bind_some, hs0, e48, h0, Bool.not_false, Bool.and_true, Bool.true_and]
        cases hd : (w ++ p).all isDig with
        | false => simp
        | true =>
          simp only [Bool.not_true, Bool.false_eq_true, if_false, Option.bind_some, Bool.true_and, digLoop hN hle hd]
          have hb := cap_bound hd
          generalize capS (w ++ p) = a at *
          have hz : (if decide (1 < w.length) = true then some (some c == some (48 : UInt8)) else some false) = some ((some c == some (48 : UInt8)) && decide (1 < w.length)) := by
            cases decide (1 < w.length) <;> simp
          rw [hz]
          simp only [Option.bind_some]
          cases ((some c == some (48 : UInt8)) && decide (1 < w.length)) with
          | true => simp
          | false =>
            have hw' : IntKind.wrap .i64 (0 - a) = -a := by rw [wrap64 (by omega) (by omega)]; omega
            simp only [Bool.false_eq_true, if_false, Bool.not_false, cond_true, hw']
            cases neg with
            | false => simp [checked_p]
            | true =>
              by_cases h0 : a = 0
              · simp [h0]
              · simp [h0, checked_p]

theorem parse_p {N : Nat} (hN : 5000 ≤ N) {s : Str} (hl : s.length ≤ 4096) : amount_Parse N s = some (parseS s) := by
  unfold amount_Parse
  rw [trimPre]
  by_cases h : ∃ t, s = 45 :: t
  · obtain ⟨t, rfl⟩ := h
    have := parse_tail hN (x0 := 45 :: t) (t := t) (by simp at hl; omega)
    have hd : decide ((t.length : Int) < ((45 :: t : Str).length : Int)) = true := by simp; omega
    rw [hd] at this
    have e1 : dropNeg (45 :: t) = t := rfl
    rw [e1]
    simp only [Option.bind_some, hd]
    exact this
  · have e1 : dropNeg s = s := by
      unfold dropNeg
      split
      · exact absurd ⟨_, rfl⟩ h
      · rfl
    have e2 : parseS s = parsT false s := by
      unfold parseS
      split
      · exact absurd ⟨_, rfl⟩ h
      · rfl
    have := parse_tail hN (x0 := s) (t := s) hl
    have hd : decide ((s.length : Int) < (s.length : Int)) = false := by simp
    rw [hd] at this
    rw [e1, e2]
    simp only [Option.bind_some, hd]
    exact this

theorem law_AmountParses (x0 : Str) (g0 : gd .str x0) : ∃ N, billinglaw01_AmountParses N x0 = some true := by
  refine ⟨10000 + 64, ?_⟩
  unfold billinglaw01_AmountParses
  rw [awake01]
  split
  · rfl
  · rename_i h
    have hl : x0.length ≤ 200 := by simp at h; omega
    simp only [parse_p (N := 10000 + 64) (by omega) (show x0.length ≤ 4096 by omega), parse_r (N := 10000 + 64) (by omega) (show x0.length ≤ 4096 by omega), Option.bind_some]
    simp
end Gx

/- Amount, chapter 01: Text. -/
namespace Gx
open Go Gd Go.Lib
set_option linter.unusedVariables false
set_option linter.unusedSimpArgs false

theorem dig_small {u : Nat} (h : u < 10) : decDigits u = [UInt8.ofNat (48 + u)] := decDigits_one h
theorem dig_more {u : Nat} (h : ¬ u < 10) : decDigits u = decDigits (u / 10) ++ [UInt8.ofNat (48 + u % 10)] := by rw [decDigits, dif_neg h]
theorem chr_eq {n : Nat} (h : n < 10) : bstr ([IntKind.wrap .u8 (IntKind.wrap .i64 (48 + (n : Int)))] : List Int) = [UInt8.ofNat (48 + n)] := by
  rw [wrap64 (by omega) (by omega), wrap8 (by omega) (by omega)]
  simp only [bstr, List.map_cons, List.map_nil]
  congr 2
theorem dig_len : ∀ (d u : Nat), u < 10 ^ d → 0 < d → (decDigits u).length ≤ d
  | 0, u, _, h => by omega
  | d + 1, u, hu, _ => by
    by_cases h : u < 10
    · rw [dig_small h]; simp
    · rw [dig_more h]
      have hd : 0 < d := by
        rcases Nat.eq_zero_or_pos d with rfl | hp
        · simp at hu; omega
        · exact hp
      have := dig_len d (u / 10) (by rw [Nat.pow_succ] at hu; omega) hd
      simp; omega
theorem numLoop {N : Nat} : ∀ (d v fuel : Nat) (s : Str), v < 10 ^ d → d < fuel → s.length + d ≤ 4096 → v ≤ 9223372036854775807 →
    loopN (billingref01_Number_l1 N) fuel ((v : Int), s) = some (if v = 0 then s else decDigits v ++ s)
  | d, 0, fuel, s, _, hf, hs, _ => by
    obtain ⟨m, rfl⟩ : ∃ m, fuel = m + 1 := ⟨fuel - 1, by omega⟩
    rfl
  | 0, v + 1, fuel, s, hv, _, _, _ => by simp at hv
  | d + 1, v + 1, fuel, s, hv, hf, hs, hb => by
    obtain ⟨m, rfl⟩ : ∃ m, fuel = m + 1 := ⟨fuel - 1, by omega⟩
    generalize hn : v + 1 = n at *
    have hn0 : n ≠ 0 := by omega
    have e1 : Int.tmod (n : Int) 10 = ((n % 10 : Nat) : Int) := rfl
    have e2 : Int.tdiv (n : Int) 10 = ((n / 10 : Nat) : Int) := rfl
    have e3 : IntKind.wrap .i64 ((n / 10 : Nat) : Int) = ((n / 10 : Nat) : Int) := wrap64 (by omega) (by omega)
    have hsc : scat [UInt8.ofNat (48 + n % 10)] s = some (UInt8.ofNat (48 + n % 10) :: s) := scat_few (by simp; omega)
    have ih := numLoop (N := N) d (n / 10) m (UInt8.ofNat (48 + n % 10) :: s) (by rw [Nat.pow_succ] at hv; omega) (by omega) (by simp; omega) (by omega)
    simp only [loopN, billingref01_Number_l1, show decide ((n : Int) > 0) = true by simp; omega, if_true, e1, e2, chr_eq (show n % 10 < 10 by omega), hsc, Option.bind_some, e3, ih, hn0, if_false]
    by_cases h10 : n < 10
    · rw [if_pos (by omega), dig_small h10, show n % 10 = n by omega]; rfl
    · rw [if_neg (by omega), dig_more h10]; simp
theorem number_r {N : Nat} (hN : 5000 ≤ N) {n : Nat} (h : n ≤ 9223372036854775807) : billingref01_Number N n = some (decDigits n) := by
  unfold billingref01_Number
  have e1 : Int.tmod (n : Int) 10 = ((n % 10 : Nat) : Int) := rfl
  have e2 : Int.tdiv (n : Int) 10 = ((n / 10 : Nat) : Int) := rfl
  have e3 : IntKind.wrap .i64 ((n / 10 : Nat) : Int) = ((n / 10 : Nat) : Int) := wrap64 (by omega) (by omega)
  rw [e1, e2, e3, chr_eq (show n % 10 < 10 by omega), numLoop 20 (n / 10) N _ (by omega) (by omega) (by simp) (by omega)]
  simp only [Option.bind_some]
  congr 1
  by_cases h10 : n < 10
  · rw [if_pos (by omega), dig_small h10, show n % 10 = n by omega]
  · rw [if_neg (by omega), dig_more h10]

theorem itoa_nat {n : Nat} (h : n ≤ 9223372036854775807) : itoaF (n : Int) = some (decDigits n) := by
  unfold itoaF
  rw [if_pos (by omega)]
  congr 1
  unfold itoaS
  rw [show decide ((n : Int) < 0) = false by simp]
  exact digF_eq 20 n (by omega) (by omega)
theorem itoa_minus {n : Nat} (h0 : 0 < n) (h : n ≤ 9223372036854775807) : itoaF (-(n : Int)) = some (45 :: decDigits n) := by
  unfold itoaF
  rw [if_pos (by omega)]
  congr 1
  unfold itoaS
  rw [show decide (-(n : Int) < 0) = true by simp; omega]
  simp only [cond_true, Int.natAbs_neg, Int.natAbs_natCast]
  rw [digF_eq 20 n (by omega) (by omega)]

/-- The four digits behind the point. -/
def four (r : Nat) : Str := [UInt8.ofNat (48 + r / 1000 % 10), UInt8.ofNat (48 + r / 100 % 10), UInt8.ofNat (48 + r / 10 % 10), UInt8.ofNat (48 + r % 10)]
theorem four_eq {r : Nat} (h : r < 10000) : decDigits (10000 + r) = 49 :: four r := by
  rw [dig_more (by omega), dig_more (u := (10000 + r) / 10) (by omega), dig_more (u := (10000 + r) / 10 / 10) (by omega), dig_more (u := (10000 + r) / 10 / 10 / 10) (by omega), dig_small (u := (10000 + r) / 10 / 10 / 10 / 10) (by omega)]
  unfold four
  simp only [List.cons_append, List.nil_append, List.append_assoc]
  rw [show 48 + (10000 + r) / 10 / 10 / 10 / 10 = 49 by omega, show (10000 + r) / 10 / 10 / 10 % 10 = r / 1000 % 10 by omega, show (10000 + r) / 10 / 10 % 10 = r / 100 % 10 by omega, show (10000 + r) / 10 % 10 = r / 10 % 10 by omega, show (10000 + r) % 10 = r % 10 by omega]
  rfl

/-- The text of the amount of this size: sign, whole, part. -/
def textS (a : Int) : Str := (if a < 0 then [45] else []) ++ decDigits (a.natAbs / 10000) ++ 46 :: four (a.natAbs % 10000)

theorem parts {a : Int} : (0 ≤ a → Int.tdiv a 10000 = ((a.natAbs / 10000 : Nat) : Int) ∧ Int.tmod a 10000 = ((a.natAbs % 10000 : Nat) : Int)) ∧ (a < 0 → Int.tdiv a 10000 = -((a.natAbs / 10000 : Nat) : Int) ∧ Int.tmod a 10000 = -((a.natAbs % 10000 : Nat) : Int)) := by
  constructor
  · intro h
    obtain ⟨n, rfl⟩ : ∃ n : Nat, a = n := ⟨a.toNat, by omega⟩
    exact ⟨rfl, rfl⟩
  · intro h
    obtain ⟨n, rfl⟩ : ∃ n : Nat, a = -(n : Int) := ⟨a.natAbs, by omega⟩
    rw [Int.neg_tdiv, Int.neg_tmod, Int.natAbs_neg, Int.natAbs_natCast]
    exact ⟨rfl, rfl⟩

theorem text_r {N : Nat} (hN : 5000 ≤ N) {a : Int} (h0 : -9223372036854775808 ≤ a) (h1 : a ≤ 9223372036854775807) : billingref01_Text N a = some (textS a) := by
  unfold billingref01_Text textS
  have hlen := dig_len 20 (a.natAbs / 10000) (by omega) (by omega)
  have hsgn : (if decide (a < 0) = true then
      some ((IntKind.wrap .i64 (0 - (IntKind.wrap .i64 (Int.tdiv a 10000)))), (IntKind.wrap .i64 (0 - (Int.tmod a 10000))), ([45] : Str))
    else some ((IntKind.wrap .i64 (Int.tdiv a 10000)), (Int.tmod a 10000), ([] : Str)) : Option (Int × Int × Str)) = some (((a.natAbs / 10000 : Nat) : Int), ((a.natAbs % 10000 : Nat) : Int), if a < 0 then [45] else []) := by
    by_cases hneg : a < 0
    · obtain ⟨p1, p2⟩ := (parts (a := a)).2 hneg
      rw [if_pos (by simpa using hneg), if_pos hneg, p1, p2, wrap64 (n := -((a.natAbs / 10000 : Nat) : Int)) (by omega) (by omega), wrap64 (by omega) (by omega), wrap64 (by omega) (by omega)]
      congr 3 <;> omega
    · obtain ⟨p1, p2⟩ := (parts (a := a)).1 (by omega)
      rw [if_neg (by simpa using hneg), if_neg hneg, p1, p2, wrap64 (by omega) (by omega)]
  rw [hsgn]
  have hs : (if a < 0 then ([45] : Str) else []).length ≤ 1 := by split <;> simp
  generalize (if a < 0 then ([45] : Str) else []) = sg at *
  have hr : a.natAbs % 10000 < 10000 := Nat.mod_lt _ (by omega)
  have hq : a.natAbs / 10000 ≤ 9223372036854775807 := by omega
  generalize a.natAbs / 10000 = q at *
  generalize a.natAbs % 10000 = r at *
  have hw : IntKind.wrap .i64 (10000 + (r : Int)) = ((10000 + r : Nat) : Int) := by rw [wrap64 (by omega) (by omega)]; omega
  have hl4 : (four r).length = 4 := rfl
  have c1 : scat sg (decDigits q) = some (sg ++ decDigits q) := scat_few (by omega)
  have c2 : scat (sg ++ decDigits q) [46] = some (sg ++ decDigits q ++ [46]) := scat_few (by simp; omega)
  have c3 : slc (49 :: four r) 1 ((49 :: four r : Str).length : Int) = some (four r) := slc_from (xs := (49 :: four r : Str)) (k := 1) (by simp)
  have c4 : scat (sg ++ decDigits q ++ [46]) (four r) = some (sg ++ decDigits q ++ [46] ++ four r) := scat_few (by simp [hl4]; omega)
  simp only [Option.bind_some, number_r hN hq, c1, c2, hw, number_r hN (show 10000 + r ≤ 9223372036854775807 by omega), four_eq hr, c3, c4]
  simp
end Gx

/- Amount, chapter 01: Text is as defined; what is written is parsed. -/
namespace Gx
open Go Gd Go.Lib
set_option linter.unusedVariables false
set_option linter.unusedSimpArgs false

theorem quo_dig {r : Nat} (hr : r < 10000) {p : Nat} (hp : 0 < p) : ((quoW .i64 (r : Int) (p : Int)).bind fun n8 => itoaF (Int.tmod n8 10)) = some [UInt8.ofNat (48 + r / p % 10)] := by
  rw [quo_nat r p hp (by omega)]
  simp only [Option.bind_some]
  have e1 : Int.tmod ((r / p : Nat) : Int) 10 = ((r / p % 10 : Nat) : Int) := rfl
  rw [e1, itoa_nat (by omega), dig_small (by omega)]
theorem textLoop {N : Nat} (hN : 5000 ≤ N) {r : Nat} (hr : r < 10000) {s : Str} (hs : s.length ≤ 100) : loopN (amount_Text_l1 N (r : Int)) N (s, 3) = some (s ++ four r) := by
  obtain ⟨k, rfl⟩ : ∃ k, N = k + 5 := ⟨N - 5, by omega⟩
  have step : ∀ (m : Nat) (s : Str) (i p : Nat) (j : Int), s.length ≤ 104 → 0 < p → idx gv0 (i : Int) = some (p : Int) → IntKind.wrap .i64 ((i : Int) - 1) = j →
      loopN (amount_Text_l1 (k + 5) (r : Int)) (m + 1) (s, (i : Int)) = loopN (amount_Text_l1 (k + 5) (r : Int)) m (s ++ [UInt8.ofNat (48 + r / p % 10)], j) := by
    intro m s i p j hs hp hi hj
    have hq := quo_dig hr hp
    have hsc : scat s [UInt8.ofNat (48 + r / p % 10)] = some (s ++ [UInt8.ofNat (48 + r / p % 10)]) := scat_few (by simp; omega)
    obtain ⟨z, hz, hz2⟩ := Option.bind_eq_some_iff.1 hq
    simp only [loopN, amount_Text_l1, show decide ((i : Int) ≥ 0) = true by simp, if_true, hi, Option.bind_some, hz, hz2, hsc, hj]
  have h3 := step (k + 4) s 3 1000 2 (by omega) (by omega) rfl (by rw [wrap64 (by omega) (by omega)]; rfl)
  have h2 := step (k + 3) (s ++ [UInt8.ofNat (48 + r / 1000 % 10)]) 2 100 1 (by simp; omega) (by omega) rfl (by rw [wrap64 (by omega) (by omega)]; rfl)
  have h1 := step (k + 2) (s ++ [UInt8.ofNat (48 + r / 1000 % 10)] ++ [UInt8.ofNat (48 + r / 100 % 10)]) 1 10 0 (by simp; omega) (by omega) rfl (by rw [wrap64 (by omega) (by omega)]; rfl)
  have h0 := step (k + 1) (s ++ [UInt8.ofNat (48 + r / 1000 % 10)] ++ [UInt8.ofNat (48 + r / 100 % 10)] ++ [UInt8.ofNat (48 + r / 10 % 10)]) 0 1 (-1) (by simp; omega) (by omega) rfl (by rw [wrap64 (by omega) (by omega)]; rfl)
  have e3 : ((3 : Nat) : Int) = 3 := rfl
  have e2 : ((2 : Nat) : Int) = 2 := rfl
  have e1 : ((1 : Nat) : Int) = 1 := rfl
  have e0 : ((0 : Nat) : Int) = 0 := rfl
  rw [e3] at h3; rw [e2] at h2; rw [e1] at h1; rw [e0] at h0
  rw [h3, h2, h1, h0]
  simp only [loopN, amount_Text_l1, show decide ((-1 : Int) ≥ 0) = false by decide, Bool.false_eq_true, if_false]
  simp [four]

theorem text_p {N : Nat} (hN : 5000 ≤ N) {a : Int} (h0 : -9223372036854775808 ≤ a) (h1 : a ≤ 9223372036854775807) : amount_Text N a = some (textS a) := by
  unfold amount_Text textS
  have hlen := dig_len 20 (a.natAbs / 10000) (by omega) (by omega)
  have hr : a.natAbs % 10000 < 10000 := Nat.mod_lt _ (by omega)
  have hq : a.natAbs / 10000 ≤ 9223372036854775807 := by omega
  have key : ((itoaF (IntKind.wrap .i64 (Int.tdiv a 10000))).bind fun r1 =>
    (if (decide (a < 0)) then
      if ((IntKind.wrap .i64 (Int.tdiv a 10000)) == 0) then
        some ((IntKind.wrap .i64 (0 - (Int.tmod a 10000))), ([45, 48] : Str))
      else
        some ((IntKind.wrap .i64 (0 - (Int.tmod a 10000))), r1)
    else
      some ((Int.tmod a 10000), r1) : Option ((Int × Str)))) = some (((a.natAbs % 10000 : Nat) : Int), (if a < 0 then [45] else []) ++ decDigits (a.natAbs / 10000)) := by
    by_cases hneg : a < 0
    · obtain ⟨p1, p2⟩ := (parts (a := a)).2 hneg
      have w1 : IntKind.wrap .i64 (-((a.natAbs / 10000 : Nat) : Int)) = -((a.natAbs / 10000 : Nat) : Int) := wrap64 (by omega) (by omega)
      have w2 : IntKind.wrap .i64 (0 - -((a.natAbs % 10000 : Nat) : Int)) = ((a.natAbs % 10000 : Nat) : Int) := by rw [wrap64 (by omega) (by omega)]; omega
      rw [p1, p2, w1, w2, if_pos hneg]
      generalize a.natAbs / 10000 = q at *
      generalize a.natAbs % 10000 = r at *
      by_cases hq0 : q = 0
      · subst hq0
        simp only [hneg, decide_true, if_true]
        rw [show (-((0 : Nat) : Int)) = ((0 : Nat) : Int) from rfl, itoa_nat (by omega), dig_small (by omega)]
        rfl
      · rw [itoa_minus (by omega) hq]
        have : ((-(q : Int)) == 0) = false := by simp; omega
        simp [hneg, this]
    · obtain ⟨p1, p2⟩ := (parts (a := a)).1 (by omega)
      have w1 : IntKind.wrap .i64 ((a.natAbs / 10000 : Nat) : Int) = ((a.natAbs / 10000 : Nat) : Int) := wrap64 (by omega) (by omega)
      rw [p1, p2, w1, if_neg hneg, itoa_nat hq]
      simp [hneg]
  have hs : (if a < 0 then ([45] : Str) else []).length ≤ 1 := by split <;> simp
  obtain ⟨z, hz, hz2⟩ := Option.bind_eq_some_iff.1 key
  rw [hz]
  simp only [Option.bind_some] at hz2 ⊢
  rw [hz2]
  generalize (if a < 0 then ([45] : Str) else []) = sg at *
  generalize a.natAbs / 10000 = q at *
  generalize a.natAbs % 10000 = r at *
  have c1 : scat (sg ++ decDigits q) [46] = some (sg ++ decDigits q ++ [46]) := scat_few (by simp; omega)
  simp only [Option.bind_some, c1, textLoop hN hr (show (sg ++ decDigits q ++ [46]).length ≤ 100 by simp; omega)]
  simp

/-! ## What is written is parsed -/
def valD (l : Str) : Int := l.foldl (fun a c => 10 * a + ((c.toNat : Int) - 48)) 0
theorem val_snoc {l : Str} {c : UInt8} : valD (l ++ [c]) = 10 * valD l + ((c.toNat : Int) - 48) := by simp [valD, List.foldl_append]
theorem chr_nat {n : Nat} (h : n < 10) : ((UInt8.ofNat (48 + n)).toNat : Int) - 48 = (n : Int) := by
  rw [UInt8.toNat_ofNat']; omega
theorem chr_dig {n : Nat} (h : n < 10) : isDig (UInt8.ofNat (48 + n)) = true := by
  rw [isDig_iff, UInt8.toNat_ofNat']; omega
theorem dig_val : ∀ (d u : Nat), u < 10 ^ d → valD (decDigits u) = u ∧ (decDigits u).all isDig = true
  | 0, u, h => by
    have : u = 0 := by simp at h; omega
    subst this
    rw [dig_small (by omega)]; exact ⟨rfl, rfl⟩
  | d + 1, u, hu => by
    by_cases h : u < 10
    · rw [dig_small h]
      refine ⟨?_, by simp only [List.all_cons, List.all_nil, Bool.and_true, chr_dig h]⟩
      have := chr_nat h
      simp only [valD, List.foldl_cons, List.foldl_nil]
      omega
    · have ih := dig_val d (u / 10) (by rw [Nat.pow_succ] at hu; omega)
      rw [dig_more h, val_snoc, ih.1, chr_nat (by omega), List.all_append, ih.2]
      exact ⟨by omega, by simp only [List.all_cons, List.all_nil, Bool.and_true, Bool.true_and, chr_dig (show u % 10 < 10 by omega)]⟩
theorem dig_lead : ∀ (d u : Nat), u < 10 ^ d → 0 < u → (decDigits u)[0]? ≠ some 48
  | 0, u, h, h0 => by simp at h; omega
  | d + 1, u, hu, h0 => by
    by_cases h : u < 10
    · rw [dig_small h]
      simp only [List.getElem?_cons_zero, ne_eq, Option.some.injEq]
      intro e
      have := chr_nat h
      rw [e] at this
      simp at this; omega
    · have ih := dig_lead d (u / 10) (by rw [Nat.pow_succ] at hu; omega) (by omega)
      rw [dig_more h]
      have hne : 0 < (decDigits (u / 10)).length := by
        rw [decDigits_length]
        rw [← decDigits_length]
        rw [decDigits]
        split <;> simp
      rwa [List.getElem?_append_left hne]
theorem dig_ne {u : Nat} : 0 < (decDigits u).length := by
  rw [decDigits]; split <;> simp
theorem cap_val (l : Str) (h : l.all isDig = true) : capS l = min (valD l) 1125899906842625 ∧ 0 ≤ valD l := by
  have go : ∀ (l : Str) (a b : Int), l.all isDig = true → 0 ≤ b → a = min b 1125899906842625 → l.foldl capStep a = min (l.foldl (fun a c => 10 * a + ((c.toNat : Int) - 48)) b) 1125899906842625 ∧ 0 ≤ l.foldl (fun a c => 10 * a + ((c.toNat : Int) - 48)) b := by
    intro l
    induction l with
    | nil => intro a b _ h0 h; exact ⟨h, h0⟩
    | cons c l ih =>
      intro a b hd h0 h
      simp only [List.all_cons, Bool.and_eq_true] at hd
      have hc := isDig_iff.1 hd.1
      refine ih _ _ hd.2 (show 0 ≤ 10 * b + ((c.toNat : Int) - 48) by omega) ?_
      show capStep a c = min (10 * b + ((c.toNat : Int) - 48)) 1125899906842625
      unfold capStep
      split <;> omega
  exact go l 0 0 h (by omega) (by omega)
theorem four_val {l : Str} {r : Nat} (h : r < 10000) : valD (l ++ four r) = valD l * 10000 + r ∧ (four r).all isDig = true := by
  have e : l ++ four r = l ++ [UInt8.ofNat (48 + r / 1000 % 10)] ++ [UInt8.ofNat (48 + r / 100 % 10)] ++ [UInt8.ofNat (48 + r / 10 % 10)] ++ [UInt8.ofNat (48 + r % 10)] := by simp [four]
  rw [e, val_snoc, val_snoc, val_snoc, val_snoc, chr_nat (by omega), chr_nat (by omega), chr_nat (by omega), chr_nat (by omega)]
  refine ⟨by omega, ?_⟩
  simp only [four, List.all_cons, List.all_nil, Bool.and_true, chr_dig (show r / 1000 % 10 < 10 by omega), chr_dig (show r / 100 % 10 < 10 by omega), chr_dig (show r / 10 % 10 < 10 by omega), chr_dig (show r % 10 < 10 by omega)]


theorem back_t {q r : Nat} (hq : q < 10 ^ 20) (hr : r < 10000) (neg : Bool) (hn : neg = true → 0 < q * 10000 + r) :
    parsT neg (decDigits q ++ 46 :: four r) = chkS (bif neg then -((q * 10000 + r : Nat) : Int) else ((q * 10000 + r : Nat) : Int)) := by
  obtain ⟨v1, v2⟩ := dig_val 20 q hq
  obtain ⟨v3, v4⟩ := four_val (l := decDigits q) hr
  have hall : (decDigits q ++ four r).all isDig = true := by rw [List.all_append, v2, v4]; rfl
  have hno : ∀ k : Nat, k < (decDigits q).length → (decDigits q ++ 46 :: four r)[k]? ≠ some 46 := by
    intro k hk
    rw [List.getElem?_append_left hk]
    intro e
    have := List.all_eq_true.1 v2 _ (List.mem_of_getElem? e)
    cases this
  have hform : isForm (decDigits q ++ 46 :: four r) = true := by
    rw [form_split hno, hall]
    have h1 : (decDigits q == []) = false := by
      have := dig_ne (u := q)
      cases hd : decDigits q with
      | nil => rw [hd] at this; simp at this
      | cons => rfl
    have h2 : (((decDigits q)[0]? == some 48) && decide (1 < (decDigits q).length)) = false := by
      by_cases h0 : q = 0
      · subst h0; rw [dig_small (by omega)]; rfl
      · have := dig_lead 20 q hq (by omega)
        rw [beq_eq_false_iff_ne.2 this]; rfl
    rw [h1, h2]; rfl
  have her : (decDigits q ++ 46 :: four r).eraseIdx ((decDigits q ++ 46 :: four r).length - 5) = decDigits q ++ four r := by
    rw [show (decDigits q ++ 46 :: four r).length - 5 = (decDigits q).length by simp only [List.length_append, List.length_cons, show (four r).length = 4 from rfl]; omega, List.eraseIdx_append_of_length_le (by omega)]; simp
  unfold parsT
  rw [hform, her, (cap_val _ hall).1, v3, v1]
  simp only [cond_true]
  have hx : ((q : Int) * 10000 + (r : Int)) = ((q * 10000 + r : Nat) : Int) := by omega
  rw [hx]
  generalize q * 10000 + r = z at *
  have hchk : chkS (min (z : Int) 1125899906842625) = chkS (z : Int) := by
    unfold chkS
    by_cases hz : (z : Int) ≤ 1125899906842625
    · rw [show min (z : Int) 1125899906842625 = z by omega]
    · have a1 : valB (z : Int) = false := by rw [← Bool.not_eq_true, valB_iff]; omega
      rw [show min (z : Int) 1125899906842625 = 1125899906842625 by omega, a1]; rfl
  have hchk2 : chkS (-(min (z : Int) 1125899906842625)) = chkS (-(z : Int)) := by
    unfold chkS
    by_cases hz : (z : Int) ≤ 1125899906842625
    · rw [show min (z : Int) 1125899906842625 = z by omega]
    · have a1 : valB (-(z : Int)) = false := by rw [← Bool.not_eq_true, valB_iff]; omega
      rw [show min (z : Int) 1125899906842625 = 1125899906842625 by omega, a1]; rfl
  cases neg with
  | false => simp only [cond_false]; exact hchk
  | true =>
    have := hn rfl
    simp only [cond_true]
    rw [if_neg (by omega)]
    exact hchk2

theorem back {a : Int} (h0 : -9223372036854775808 ≤ a) (h1 : a ≤ 9223372036854775807) : parseS (textS a) = chkS a := by
  have hr : a.natAbs % 10000 < 10000 := Nat.mod_lt _ (by omega)
  have hq : a.natAbs / 10000 < 10 ^ 20 := by omega
  have hz : a.natAbs / 10000 * 10000 + a.natAbs % 10000 = a.natAbs := by omega
  unfold textS
  by_cases hneg : a < 0
  · rw [if_pos hneg]
    have := back_t hq hr true (by omega)
    rw [hz] at this
    have e : -((a.natAbs : Nat) : Int) = a := by omega
    simp only [cond_true, e] at this
    exact this
  · rw [if_neg hneg]
    have := back_t hq hr false (by simp)
    rw [hz] at this
    have e : ((a.natAbs : Nat) : Int) = a := by omega
    simp only [cond_false, e] at this
    rw [← this]
    simp only [List.nil_append]
    unfold parseS
    split
    · rename_i t heq
      exfalso
      have hd := (dig_val 20 _ hq).2
      have hl := dig_ne (u := a.natAbs / 10000)
      cases hdd : decDigits (a.natAbs / 10000) with
      | nil => rw [hdd] at hl; simp at hl
      | cons c l =>
        rw [hdd] at heq hd
        simp only [List.cons_append, List.cons.injEq] at heq
        rw [heq.1] at hd
        simp [isDig] at hd
    · rfl

theorem text_len {a : Int} (h0 : -9223372036854775808 ≤ a) (h1 : a ≤ 9223372036854775807) : (textS a).length ≤ 4096 := by
  have hlen := dig_len 20 (a.natAbs / 10000) (by omega) (by omega)
  unfold textS
  split <;> simp [four] <;> omega

theorem law_AmountBack (x0 : Int) (g0 : gd (.int .i64) x0) : ∃ N, billinglaw01_AmountBack N x0 = some true := by
  have g0 : -9223372036854775808 ≤ x0 ∧ x0 ≤ 9223372036854775807 := g0
  refine ⟨10000 + 64, ?_⟩
  unfold billinglaw01_AmountBack
  rw [awake01, text_p (by omega) g0.1 g0.2, text_r (by omega) g0.1 g0.2]
  simp only [Option.bind_some, parse_p (N := 10000 + 64) (by omega) (text_len g0.1 g0.2), back g0.1 g0.2, valid_r]
  cases hv : valB x0 with
  | true => simp [chkS, hv]
  | false => simp [chkS, hv]
end Gx

