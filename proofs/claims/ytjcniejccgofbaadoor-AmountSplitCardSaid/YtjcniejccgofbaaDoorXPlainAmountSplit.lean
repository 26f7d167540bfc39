/- The plain laws for AmountSplit. -/
import Derived.Test.YtjcniejccgofbaaDoorXFns
import Derived.Test.YtjcniejccgofbaaDoorGPure
import Derived.Laws.Bits128
/- Plain facts on loops, numbers, lists. -/
namespace Gx
open Go Gd
set_option linter.unusedVariables false
set_option linter.unusedSimpArgs false

/-- A loop that ends, by an invariant. -/
theorem loopN_inv {σ τ : Type} {f : σ → Option (σ ⊕ τ)} (k : Nat) (I : Nat → σ → Prop) (R : τ → Prop)
    (step : ∀ i s, i ≤ k → I i s → (∃ s', i < k ∧ f s = some (.inl s') ∧ I (i + 1) s') ∨ (∃ r, f s = some (.inr r) ∧ R r)) :
    ∀ {n : Nat} {s : σ}, k < n → I 0 s → ∃ r, loopN f n s = some r ∧ R r := by
  have main : ∀ (d i n : Nat) (s : σ), i + d = k → d < n → I i s → ∃ r, loopN f n s = some r ∧ R r := by
    intro d
    induction d with
    | zero =>
      intro i n s hi hn hI
      obtain ⟨m, rfl⟩ : ∃ m, n = m + 1 := ⟨n - 1, by omega⟩
      rcases step i s (by omega) hI with ⟨s', h, _⟩ | ⟨r, h1, h2⟩
      · omega
      · exact ⟨r, by simp [loopN, h1], h2⟩
    | succ d ih =>
      intro i n s hi hn hI
      obtain ⟨m, rfl⟩ : ∃ m, n = m + 1 := ⟨n - 1, by omega⟩
      rcases step i s (by omega) hI with ⟨s', _, h1, h2⟩ | ⟨r, h1, h2⟩
      · obtain ⟨r, h3, h4⟩ := ih (i + 1) m s' (by omega) (by omega) h2
        exact ⟨r, by simp [loopN, h1, h3], h4⟩
      · exact ⟨r, by simp [loopN, h1], h2⟩
  intro n s hn hI
  exact main k 0 n s (by omega) hn hI

/-- A loop over a list, by its index. -/
theorem loop_list {α σ ρ τ : Type} (l : List α) (hl : l.length ≤ maxLen) {f : ρ → Option (ρ ⊕ τ)} (mk : σ → Int → ρ) (Inv : Nat → σ → Prop) (go : σ → List α → τ)
    (h0 : ∀ s, Inv l.length s → decide (((l.length : Nat) : Int) < (l.length : Int)) = false → f (mk s (l.length : Int)) = some (.inr (go s [])))
    (h1 : ∀ s (i : Nat) x xs, l[i]? = some x → decide ((i : Int) < (l.length : Int)) = true → idx l (i : Int) = some x → IntKind.wrap .i64 ((i : Int) + 1) = ((i + 1 : Nat) : Int) → l.drop i = x :: xs → Inv i s →
      (∃ s', f (mk s (i : Int)) = some (.inl (mk s' ((i + 1 : Nat) : Int))) ∧ Inv (i + 1) s' ∧ go s (x :: xs) = go s' xs) ∨ f (mk s (i : Int)) = some (.inr (go s (x :: xs))))
    {n : Nat} {s : σ} (hn : l.length < n) (hs : Inv 0 s) : loopN f n (mk s 0) = some (go s l) := by
  have main : ∀ (k i n : Nat) (s : σ), l.length = i + k → k < n → Inv i s → loopN f n (mk s (i : Int)) = some (go s (l.drop i)) := by
    intro k
    induction k with
    | zero =>
      intro i n s hk hn hI
      obtain ⟨m, rfl⟩ : ∃ m, n = m + 1 := ⟨n - 1, by omega⟩
      have hi : i = l.length := by omega
      subst hi
      rw [List.drop_length]
      simp [loopN, h0 s hI (by simp)]
    | succ k ih =>
      intro i n s hk hn hI
      obtain ⟨m, rfl⟩ : ∃ m, n = m + 1 := ⟨n - 1, by omega⟩
      have hlt : i < l.length := by omega
      have hd := List.drop_eq_getElem_cons hlt
      rw [hd]
      rcases h1 s i _ _ (List.getElem?_eq_getElem hlt) (by simpa using hlt) (idx_nat (List.getElem?_eq_getElem hlt)) (wrap_succ (by omega)) hd hI with ⟨s', e1, e2, e3⟩ | e1
      · simp only [loopN, e1, Option.bind_some, e3]
        exact ih (i + 1) m s' (by omega) (by omega) e2
      · simp only [loopN, e1, Option.bind_some]
  simpa using main l.length 0 n s (by omega) hn hs

theorem loopN_congr {σ τ : Type} {f g : σ → Option (σ ⊕ τ)} (h : ∀ s, f s = g s) (n : Nat) (s : σ) : loopN f n s = loopN g n s := by rw [show f = g from funext h]

/-- The same loop with another result. -/
theorem loopN_map {σ τ τ' : Type} {f : σ → Option (σ ⊕ τ)} {g : σ → Option (σ ⊕ τ')} (p : τ → τ') (h : ∀ s, g s = (f s).map (fun x => match x with | .inl s' => .inl s' | .inr r => .inr (p r))) :
    ∀ (n : Nat) (s : σ), loopN g n s = (loopN f n s).map p
  | 0, s => rfl
  | n + 1, s => by
    simp only [loopN, h s]
    cases f s with
    | none => rfl
    | some x => cases x with
      | inl s' => simpa using loopN_map p h n s'
      | inr r => rfl

theorem idx_some {α : Type} {l : List α} {i : Int} {x : α} (h : idx l i = some x) : 0 ≤ i ∧ i < l.length ∧ l[i.toNat]? = some x := by
  obtain ⟨h0, h1⟩ := idx_ok h
  obtain ⟨h2, _⟩ := List.getElem?_eq_some_iff.1 h1
  exact ⟨h0, by omega, h1⟩
theorem idx_get {α : Type} {l : List α} {i : Nat} (h : i < l.length) : idx l (i : Int) = some l[i] := idx_nat (List.getElem?_eq_getElem h)
theorem idx_set {α : Type} {l : List α} {i : Nat} {v : α} (h : i < l.length) : idx (l.set i v) (i : Int) = some v := by
  rw [idx_nat]
  rw [List.getElem?_set_self h]
theorem mkL_of {τ : Type} {b n : Nat} {z : τ} (h : b * n ≤ 281474976710656) : mkL b n n z = some (List.replicate n z) := by
  unfold mkL
  have e : ((b * n : Nat) : Int) = (b : Int) * (n : Int) := Int.natCast_mul b n
  have h' : (b : Int) * (n : Int) ≤ 281474976710656 := by rw [← e]; omega
  rw [if_pos ⟨Int.natCast_nonneg n, Int.le_refl _, h'⟩, Int.toNat_natCast]
end Gx

/- Amounts: sums, rounding, ones that are given. -/
namespace Gx
open Go Gd
set_option linter.unusedVariables false
set_option linter.unusedSimpArgs false

/-- Is it an amount? -/
def valB (a : Int) : Bool := decide (a ≥ -1125899906842624) && decide (a ≤ 1125899906842624)
theorem valB_iff {a : Int} : valB a = true ↔ -1125899906842624 ≤ a ∧ a ≤ 1125899906842624 := by simp [valB]
theorem valid_p (N : Nat) (a : Int) : amount_Valid N a = some (valB a) := rfl
theorem valid_r (N : Nat) (a : Int) : billingref01_Valid N a = some (valB a) := rfl
/-- An amount, or an error. -/
def chkS (a : Int) : Int × Int := bif valB a then (a, 0) else (0, 6)
theorem checked_p (N : Nat) (a : Int) : amount_checked N a = some (chkS a) := by
  unfold amount_checked chkS
  rw [valid_p]
  cases valB a <;> rfl

/-! ## Sums -/
def sumS (l : List Int) : Int × Int := if (l.length : Int) > 4096 then (0, 5) else bif l.all valB then chkS l.sum else (0, 6)

theorem sum_bound {l : List Int} (h : l.all valB = true) : -1125899906842624 * (l.length : Int) ≤ l.sum ∧ l.sum ≤ 1125899906842624 * (l.length : Int) := by
  induction l with
  | nil => simp
  | cons x l ih =>
    simp only [List.all_cons, Bool.and_eq_true] at h
    have h1 := valB_iff.1 h.1
    have h2 := ih h.2
    simp only [List.sum_cons, List.length_cons]
    push_cast
    omega

theorem sumLoop {f : Int × Int → Option ((Int × Int) ⊕ (Int ⊕ (Int × Int)))} {l : List Int} (hl : l.length ≤ 4096)
    (hf : ∀ v1 v2, f (v1, v2) = if decide (v2 < (l.length : Int)) = true then (idx l v2).bind fun x => if (!valB x) = true then some (.inr (.inr (0, 6))) else some (.inl (IntKind.wrap .i64 (v1 + x), IntKind.wrap .i64 (v2 + 1))) else some (.inr (.inl v1)))
    {N : Nat} (hN : 5000 ≤ N) : loopN f N (0, 0) = some (bif l.all valB then .inl l.sum else .inr (0, 6)) := by
  have key := loop_list (n := N) (s := 0) l (by rw [maxLen_val]; omega) (f := f) (fun s i => (s, i)) (fun i s => (l.take i).all valB = true ∧ s = (l.take i).sum)
    (fun s xs => bif xs.all valB then .inl (s + xs.sum) else .inr (0, 6)) (fun s hI h => ?_) (fun s i x xs hx hlt hidx hw hd hI => ?_) (by omega) ⟨by simp, by simp⟩
  · rw [key]; simp
  · rw [hf, h]; simp
  · have hi := (List.getElem?_eq_some_iff.1 hx).1
    have ht : l.take (i + 1) = l.take i ++ [x] := by rw [List.take_add_one, hx]; rfl
    rw [hf, hlt, hidx]
    cases hv : valB x with
    | false => exact .inr (by simp [hv])
    | true =>
      refine .inl ⟨s + x, ?_, ⟨by rw [ht, List.all_append, hI.1]; simp [hv], by rw [ht, List.sum_append, ← hI.2]; simp⟩, by simp [hv, Int.add_assoc]⟩
      have h1 := sum_bound hI.1
      rw [← hI.2, List.length_take] at h1
      have h2 := valB_iff.1 hv
      have h3 : IntKind.wrap .i64 (s + x) = s + x := wrap64 (by omega) (by omega)
      simp [hv, h3, hw]

theorem sum_p {N : Nat} (hN : 5000 ≤ N) (l : List Int) : amount_Sum N l = some (sumS l) := by
  unfold amount_Sum sumS
  by_cases h : (l.length : Int) > 4096
  · simp [h]
  · rw [if_neg h, if_neg (by simpa using h), sumLoop (l := l) (by omega) (fun v1 v2 => by simp only [amount_Sum_l1, valid_p]; rfl) hN]
    cases l.all valB <;> simp [checked_p]
theorem sum_r {N : Nat} (hN : 5000 ≤ N) (l : List Int) : billingref01_Sum N l = some (sumS l) := by
  unfold billingref01_Sum sumS
  by_cases h : (l.length : Int) > 4096
  · simp [h]
  · rw [if_neg h, if_neg (by simpa using h), sumLoop (l := l) (by omega) (fun v1 v2 => ?_) hN]
    · cases l.all valB with
      | true =>
        simp only [cond_true, Option.bind_some, valid_r, chkS]
        cases valB l.sum <;> simp
      | false => rfl
    · simp only [billingref01_Sum_l1, valid_r]
      split
      · cases idx l v2 <;> rfl
      · rfl

/-! ## Minor units -/
def rndS (a : Int) : Int := if Int.tmod a 10000 ≥ 5000 then Int.tdiv a 10000 + 1 else if Int.tmod a 10000 ≤ -5000 then Int.tdiv a 10000 - 1 else Int.tdiv a 10000
theorem tdm (a : Int) : Int.tdiv a 10000 * 10000 + Int.tmod a 10000 = a ∧ -10000 < Int.tmod a 10000 ∧ Int.tmod a 10000 < 10000 ∧ (0 ≤ a → 0 ≤ Int.tmod a 10000) ∧ (a ≤ 0 → Int.tmod a 10000 ≤ 0) := by
  have h1 := Int.tmod_def a 10000
  refine ⟨by omega, ?_, ?_, fun h => Int.tmod_nonneg _ h, fun h => ?_⟩
  · have := Int.lt_tmod_of_pos a (b := 10000) (by omega); omega
  · exact Int.tmod_lt_of_pos a (by omega)
  · have := Int.tmod_nonneg 10000 (a := -a) (by omega)
    rw [Int.neg_tmod] at this; omega
theorem rounded_p (N : Nat) {a : Int} (h0 : -9223372036854775808 ≤ a) (h1 : a < 9223372036854775808) : amount_Rounded N a = some (rndS a) := by
  obtain ⟨t1, t2, t3, t4, t5⟩ := tdm a
  have w1 : IntKind.wrap .i64 (Int.tdiv a 10000) = Int.tdiv a 10000 := wrap64 (by omega) (by omega)
  have w2 : IntKind.wrap .i64 (Int.tdiv a 10000 + 1) = Int.tdiv a 10000 + 1 := wrap64 (by omega) (by omega)
  have w3 : IntKind.wrap .i64 (Int.tdiv a 10000 - 1) = Int.tdiv a 10000 - 1 := wrap64 (by omega) (by omega)
  unfold amount_Rounded rndS
  rw [w1, w2, w3]
  simp only [decide_eq_true_eq]
  split
  · rfl
  · split <;> rfl
theorem rounded_r (N : Nat) {a : Int} (h0 : -9223372036854775808 ≤ a) (h1 : a < 9223372036854775808) : billingref01_Rounded N a = some (rndS a) := by
  obtain ⟨t1, t2, t3, t4, t5⟩ := tdm a
  have w1 : IntKind.wrap .i64 (Int.tdiv a 10000) = Int.tdiv a 10000 := wrap64 (by omega) (by omega)
  have w2 : IntKind.wrap .i64 (Int.tdiv a 10000 + 1) = Int.tdiv a 10000 + 1 := wrap64 (by omega) (by omega)
  have w3 : IntKind.wrap .i64 (Int.tdiv a 10000 - 1) = Int.tdiv a 10000 - 1 := wrap64 (by omega) (by omega)
  have w4 : IntKind.wrap .i64 (2 * Int.tmod a 10000) = 2 * Int.tmod a 10000 := wrap64 (by omega) (by omega)
  unfold billingref01_Rounded rndS
  rw [w1, w2, w3, w4]
  simp only [decide_eq_true_eq]
  by_cases c1 : Int.tmod a 10000 ≥ 5000
  · rw [if_pos (by omega), if_pos c1]
  · rw [if_neg (by omega), if_neg c1]
    by_cases c2 : Int.tmod a 10000 ≤ -5000
    · rw [if_pos (by omega), if_pos c2]
    · rw [if_neg (by omega), if_neg c2]

/-! ## Ones that are given -/
def bstep (r : List Int) (b : Int) (i : Nat) : Int := if r.getD i 0 ≥ 0 ∧ (b < 0 ∨ r.getD i 0 > r.getD b.toNat 0) then (i : Int) else b
def bestTo (r : List Int) : Nat → Int
  | 0 => -1
  | i + 1 => bstep r (bestTo r i) i
def bestS (r : List Int) : Int := bestTo r r.length

theorem best_ok (r : List Int) : ∀ k : Nat, (bestTo r k = -1 ∧ ∀ i, i < k → r.getD i 0 < 0) ∨ (∃ j : Nat, bestTo r k = (j : Int) ∧ j < k ∧ 0 ≤ r.getD j 0 ∧ ∀ i, i < k → r.getD i 0 ≤ r.getD j 0)
  | 0 => .inl ⟨rfl, by simp⟩
  | k + 1 => by
    rcases best_ok r k with ⟨h1, h2⟩ | ⟨j, h1, h2, h3, h4⟩
    · simp only [bestTo, bstep, h1]
      by_cases hx : r.getD k 0 ≥ 0
      · refine .inr ⟨k, by rw [if_pos ⟨hx, .inl (by omega)⟩], by omega, hx, fun i hi => ?_⟩
        rcases Nat.lt_or_ge i k with hik | hik
        · have := h2 i hik; omega
        · rw [show i = k by omega]; exact Int.le_refl _
      · refine .inl ⟨by rw [if_neg (fun h => hx h.1)], fun i hi => ?_⟩
        rcases Nat.lt_or_ge i k with hik | hik
        · exact h2 i hik
        · rw [show i = k by omega]; omega
    · simp only [bestTo, bstep, h1, Int.toNat_natCast]
      by_cases hx : r.getD k 0 > r.getD j 0
      · refine .inr ⟨k, by rw [if_pos ⟨by omega, .inr hx⟩], by omega, by omega, fun i hi => ?_⟩
        rcases Nat.lt_or_ge i k with hik | hik
        · have := h4 i hik; omega
        · rw [show i = k by omega]; exact Int.le_refl _
      · refine .inr ⟨j, by rw [if_neg (fun h => h.2.elim (fun h => by omega) hx)], by omega, h3, fun i hi => ?_⟩
        rcases Nat.lt_or_ge i k with hik | hik
        · exact h4 i hik
        · rw [show i = k by omega]; omega

theorem getD_of {l : List Int} {i : Nat} {x : Int} (h : l[i]? = some x) : l.getD i 0 = x := by rw [List.getD_eq_getElem?_getD, h]; rfl
theorem idx_getD {l : List Int} {i : Nat} (h : i < l.length) : idx l (i : Int) = some (l.getD i 0) := by
  rw [idx_get h, List.getD_eq_getElem?_getD, List.getElem?_eq_getElem h]; rfl

theorem bestLoop {N : Nat} (hN : 5000 ≤ N) {r : List Int} (hl : r.length ≤ 4096) : loopN (amount_give_l3 N r) N (-1, 0) = some (bestS r) := by
  have key := loop_list (n := N) (s := (-1 : Int)) r (by rw [maxLen_val]; omega) (f := amount_give_l3 N r) (fun s i => (s, i)) (fun i s => s = bestTo r i)
    (fun s xs => bestS r) (fun s hI h => ?_) (fun s i x xs hx hlt hidx hw hd hI => ?_) (by omega) rfl
  · exact key
  · simp only [amount_give_l3, h]; rw [hI]; rfl
  · refine .inl ⟨bestTo r (i + 1), ?_, rfl, rfl⟩
    have hxD := getD_of hx
    simp only [amount_give_l3, hlt, hidx, Option.bind_some, if_true, decide_eq_true_eq, hw]
    subst hI
    have hil := (List.getElem?_eq_some_iff.1 hx).1
    rcases best_ok r i with ⟨h1, h2⟩ | ⟨j, h1, h2, h3, h4⟩
    · simp only [bestTo, bstep, h1, hxD]
      by_cases h0 : x ≥ 0 <;> simp [h0]
    · have hj : idx r (j : Int) = some (r.getD j 0) := idx_getD (by omega)
      simp only [bestTo, bstep, h1, hxD, hj, Int.toNat_natCast, Option.bind_some]
      by_cases h0 : x ≥ 0
      · have : ¬ ((j : Int) < 0) := by omega
        simp only [h0, if_true, this, if_false, Option.bind_some]
        by_cases h5 : x > r.getD j 0 <;> (rw [List.getD_eq_getElem?_getD] at h5; simp [h5, this])
      · simp [h0]

theorem give_l2_eq (N : Nat) (r : List Int) : ∀ s, billingref01_Give_l3 N r s = amount_give_l3 N r s := by
  rintro ⟨b, i⟩
  simp only [billingref01_Give_l3, amount_give_l3]
  cases h : idx r i with
  | none => simp
  | some x => simp

def cnt (r : List Int) : Nat := r.countP fun x => decide (0 ≤ x)
def giveF : Nat → List Int → List Int → List Int × List Int
  | 0, p, r => (p, r)
  | n + 1, p, r => if bestS r < 0 then (p, r) else giveF n (p.set (bestS r).toNat (p.getD (bestS r).toNat 0 + 1)) (r.set (bestS r).toNat (-1))
theorem bestS_ok (r : List Int) : (bestS r = -1 ∧ ∀ i, i < r.length → r.getD i 0 < 0) ∨ (∃ j : Nat, bestS r = (j : Int) ∧ j < r.length ∧ 0 ≤ r.getD j 0 ∧ ∀ i, i < r.length → r.getD i 0 ≤ r.getD j 0) := best_ok r r.length
theorem cnt_set {r : List Int} {j : Nat} (hj : j < r.length) (h : 0 ≤ r.getD j 0) : cnt (r.set j (-1)) + 1 = cnt r := by
  have hj' : r.getD j 0 = r[j] := by rw [List.getD_eq_getElem?_getD, List.getElem?_eq_getElem hj]; rfl
  rw [hj'] at h
  have hp : 0 < cnt r := List.countP_pos_iff.2 ⟨r[j], List.getElem_mem hj, by simpa using h⟩
  unfold cnt at *
  rw [List.countP_set hj]
  simp [h]
  omega

theorem giveLoop {N : Nat} (hN : 5000 ≤ N) : ∀ (fuel : Nat) (v B : Int) (p r : List Int), cnt r < fuel → p.length = r.length → r.length ≤ 4096 → v < 9223372036854775808 → (∀ x ∈ p, -4611686018427387904 ≤ x ∧ x ≤ B) → B + fuel ≤ 4611686018427387904 →
    ∃ x, loopN (amount_give_l4 N) fuel (v, p, r) = some x ∧ (match x with | .inl q => q | .inr q => q) = giveF v.toNat p r
  | 0, v, B, p, r, hc, _, _, _, _, _ => by omega
  | fuel + 1, v, B, p, r, hc, hl, hL, hv, hp, hB => by
    simp only [loopN, amount_give_l4, decide_eq_true_eq]
    by_cases h0 : v > 0
    · rw [if_pos h0, bestLoop hN hL]
      obtain ⟨m, hm⟩ : ∃ m, v.toNat = m + 1 := ⟨v.toNat - 1, by omega⟩
      rw [hm]
      rcases bestS_ok r with ⟨h1, h2⟩ | ⟨j, h1, h2, h3, h4⟩
      · refine ⟨.inr (p, r), by simp [h1], by simp [giveF, h1]⟩
      · have hj : ¬ ((j : Int) < 0) := by omega
        have hpj : p.getD j 0 ∈ p := by
          have : j < p.length := by omega
          rw [List.getD_eq_getElem?_getD, List.getElem?_eq_getElem this]; exact List.getElem_mem this
        have hb := hp _ hpj
        have hw1 : IntKind.wrap .i64 (p.getD j 0 + 1) = p.getD j 0 + 1 := wrap64 (by omega) (by omega)
        have hw2 : IntKind.wrap .i64 (v - 1) = v - 1 := wrap64 (by omega) (by omega)
        have e1 : idx p (j : Int) = some (p.getD j 0) := idx_getD (by omega)
        have e2 : idx r (j : Int) = some (r.getD j 0) := idx_getD h2
        have hc' := cnt_set h2 h3
        obtain ⟨x, q1, q2⟩ := giveLoop hN fuel (v - 1) (B + 1) (p.set j (p.getD j 0 + 1)) (r.set j (-1)) (by omega) (by simpa using hl) (by simpa using hL) (by omega) (fun x hx => by
          rcases List.mem_or_eq_of_mem_set hx with hx | rfl
          · have := hp x hx; omega
          · omega) (by push_cast at hB ⊢; omega)
        refine ⟨x, ?_, ?_⟩
        · simp only [h1, Option.bind_some, hj, if_false, e1, e2, hw1, hw2, Int.toNat_natCast]
          exact q1
        · rw [q2]
          simp only [giveF, h1, hj, if_false, Int.toNat_natCast]
          rw [show (v - 1).toNat = m by omega]
    · refine ⟨.inl (p, r), by simp [h0], ?_⟩
      rw [show v.toNat = 0 by omega]; rfl

theorem cnt_le (r : List Int) : cnt r ≤ r.length := List.countP_le_length
theorem give_p {N : Nat} (hN : 5000 ≤ N) {v : Int} {p r : List Int} (hl : p.length = r.length) (hL : r.length ≤ 4096) (hv : v < 9223372036854775808) (hp : ∀ x ∈ p, -4503599627370496 ≤ x ∧ x ≤ 4503599627370496) :
    amount_give N v p r = some (giveF v.toNat p r) := by
  unfold amount_give
  obtain ⟨k, rfl⟩ : ∃ k, N = 5000 + k := ⟨N - 5000, by omega⟩
  have hgen : ∀ (f : Nat) (n : Nat) (s : Int × List Int × List Int) x, loopN (amount_give_l4 (5000 + k)) n s = some x → loopN (amount_give_l4 (5000 + k)) (n + f) s = some x := by
    intro f n
    induction n with
    | zero => intro s x h; cases h
    | succ n ih =>
      intro s x h
      rw [show n + 1 + f = (n + f) + 1 by omega]
      simp only [loopN] at h ⊢
      cases hs : amount_give_l4 (5000 + k) s with
      | none => rw [hs] at h; cases h
      | some y =>
        rw [hs] at h
        cases y with
        | inl s' => exact ih s' x h
        | inr r => exact h
  have hc := cnt_le r
  obtain ⟨x, q1, q2⟩ := giveLoop (N := 5000 + k) hN 5000 v 4503599627370496 p r (by omega) hl hL hv (fun x hx => by have := hp x hx; omega) (by omega)
  rw [hgen k 5000 _ x q1, ← q2]
  cases x <;> rfl
theorem give_r {N : Nat} (hN : 5000 ≤ N) {v : Int} {p r : List Int} (hl : p.length = r.length) (hL : r.length ≤ 4096) (hv : v < 9223372036854775808) (hp : ∀ x ∈ p, -4503599627370496 ≤ x ∧ x ≤ 4503599627370496) :
    billingref01_Give N p r v = some (giveF v.toNat p r).1 := by
  have h := give_p hN hl hL hv hp
  unfold amount_give at h
  unfold billingref01_Give
  rw [app_of (by simp; omega), app_of (by simp; omega)]
  simp only [List.nil_append, Option.bind_some]
  rw [loopN_map (f := amount_give_l4 N) (fun x => match x with | .inl q => .inl q.1 | .inr q => .inr q.1) ?_]
  · cases hx : loopN (amount_give_l4 N) N (v, p, r) with
    | none => rw [hx] at h; cases h
    | some x =>
      rw [hx] at h
      cases x with
      | inl q => simp only [Option.bind_some, Option.some.injEq] at h; rw [← h]; rfl
      | inr q => simp only [Option.bind_some, Option.some.injEq] at h; rw [← h]; rfl
  · rintro ⟨v, p, r⟩
    simp only [billingref01_Give_l4, amount_give_l4]
    rw [loopN_congr (give_l2_eq N r)]
    split
    · cases loopN (amount_give_l3 N r) N (-1, 0) with
      | none => rfl
      | some b =>
        simp only [Option.bind_some]
        split
        · rfl
        · cases idx p b with
          | none => rfl
          | some x => cases idx r b <;> rfl
    · rfl

/-! ## Rounded amounts that add up -/
def floS (l : List Int) : List Int := l.map (· / 10000)
def resS (l : List Int) : List Int := l.map (· % 10000)
def roundS (l : List Int) : List Int := if (l.length : Int) > 4096 then [] else bif l.all valB then (giveF (rndS l.sum - (floS l).sum).toNat (floS l) (resS l)).1 else []

theorem rest_eq {a : Int} (h : valB a = true) : Int.tmod (IntKind.wrap .i64 (Int.tmod a 10000 + 10000)) 10000 = a % 10000 := by
  obtain ⟨t1, t2, t3, _⟩ := tdm a
  rw [wrap64 (by omega) (by omega), Int.tmod_eq_emod_of_nonneg (by omega)]
  omega
theorem part_eq {a : Int} (h : valB a = true) : IntKind.wrap .i64 (Int.tdiv (IntKind.wrap .i64 (a - a % 10000)) 10000) = a / 10000 := by
  have h1 := valB_iff.1 h
  rw [wrap64 (n := a - a % 10000) (by omega) (by omega), show a - a % 10000 = 10000 * (a / 10000) by omega, Int.mul_tdiv_cancel_left _ (by omega)]
  exact wrap64 (by omega) (by omega)
theorem flo_bound {l : List Int} (h : l.all valB = true) : (∀ x ∈ floS l, -4503599627370496 ≤ x ∧ x ≤ 4503599627370496) ∧ -112589990685 * (l.length : Int) ≤ (floS l).sum ∧ (floS l).sum ≤ 112589990685 * (l.length : Int) := by
  induction l with
  | nil => simp [floS]
  | cons x l ih =>
    simp only [List.all_cons, Bool.and_eq_true] at h
    have h1 := valB_iff.1 h.1
    obtain ⟨h2, h3, h4⟩ := ih h.2
    simp only [floS, List.map_cons, List.sum_cons, List.length_cons] at *
    refine ⟨fun y hy => ?_, by push_cast; omega, by push_cast; omega⟩
    rcases List.mem_cons.1 hy with rfl | hy
    · omega
    · exact h2 y hy

theorem take_snoc {α : Type} {l : List α} {i : Nat} {x : α} (h : l[i]? = some x) : l.take (i + 1) = l.take i ++ [x] := by rw [List.take_add_one, h]; rfl
theorem all_take {l : List Int} {i : Nat} {x : Int} (h : (l.take i).all valB = true) (hx : l[i]? = some x) (hv : valB x = true) : (l.take (i + 1)).all valB = true := by
  rw [take_snoc hx, List.all_append, h]; simp [hv]
theorem all_false {l : List Int} {i : Nat} {x : Int} (hx : l[i]? = some x) (hv : valB x = false) : l.all valB = false := by
  cases h : l.all valB with
  | false => rfl
  | true => rw [List.all_eq_true.1 h x (List.mem_of_getElem? hx)] at hv; cases hv
theorem sums_take {l : List Int} (i : Nat) (h : (l.take i).all valB = true) (hl : l.length ≤ 4096) : -4611686018427387904 ≤ (l.take i).sum ∧ (l.take i).sum ≤ 4611686018427387904 ∧ -4611686018427387904 ≤ (floS (l.take i)).sum ∧ (floS (l.take i)).sum ≤ 4611686018427387904 := by
  have h1 := sum_bound h
  have h2 := (flo_bound h).2
  have h3 : (l.take i).length ≤ 4096 := by rw [List.length_take]; omega
  omega

theorem roundLoop_p {N : Nat} (hN : 5000 ≤ N) {l : List Int} (hl : l.length ≤ 4096) :
    loopN (amount_Round_l1 N l) N (0, 0, 0, List.replicate l.length 0, List.replicate l.length 0) = some (bif l.all valB then .inl (l.sum, (floS l).sum, floS l, resS l) else .inr ()) := by
  refine loop_list (n := N) (s := ((0 : Int), (0 : Int), List.replicate l.length (0 : Int), List.replicate l.length (0 : Int))) l (by rw [maxLen_val]; omega) (f := amount_Round_l1 N l) (fun s i => (s.1, s.2.1, i, s.2.2.1, s.2.2.2))
    (fun i s => (l.take i).all valB = true ∧ s = ((l.take i).sum, (floS (l.take i)).sum, floS (l.take i) ++ List.replicate (l.length - i) 0, resS (l.take i) ++ List.replicate (l.length - i) 0))
    (fun s xs => bif l.all valB then .inl (l.sum, (floS l).sum, floS l, resS l) else .inr ()) (fun s hI h => ?_) (fun s i x xs hx hlt hidx hw hd hI => ?_) (by omega) ⟨by simp, by simp [floS, resS]⟩
  · obtain ⟨h1, h2⟩ := hI
    rw [List.take_length] at h1 h2
    rw [h2, h1]
    simp [amount_Round_l1]
  · obtain ⟨h1, h2⟩ := hI
    have hil := (List.getElem?_eq_some_iff.1 hx).1
    simp only [amount_Round_l1, hlt, hidx, if_true, Option.bind_some, valid_p]
    cases hv : valB x with
    | false => exact .inr (by rw [all_false hx hv]; simp)
    | true =>
      refine .inl ⟨((l.take (i + 1)).sum, (floS (l.take (i + 1))).sum, floS (l.take (i + 1)) ++ List.replicate (l.length - (i + 1)) 0, resS (l.take (i + 1)) ++ List.replicate (l.length - (i + 1)) 0), ?_, ⟨all_take h1 hx hv, rfl⟩, by trivial⟩
      have b1 := sums_take (i + 1) (all_take h1 hx hv) hl
      rw [h2]
      have e1 : (floS (l.take i) ++ List.replicate (l.length - i) (0 : Int)).length = l.length := by simp [floS]; omega
      have e2 : (resS (l.take i) ++ List.replicate (l.length - i) (0 : Int)).length = l.length := by simp [resS]; omega
      have s1 : ∀ v : Int, (floS (l.take i) ++ List.replicate (l.length - i) (0 : Int)).set i v = floS (l.take i) ++ v :: List.replicate (l.length - (i + 1)) 0 := by
        intro v
        rw [show l.length - i = (l.length - (i + 1)) + 1 by omega, List.replicate_succ, List.set_append_right _ _ (by simp [floS]; omega)]
        rw [show i - (floS (l.take i)).length = 0 by simp [floS]; omega]
        rfl
      have s2 : ∀ v : Int, (resS (l.take i) ++ List.replicate (l.length - i) (0 : Int)).set i v = resS (l.take i) ++ v :: List.replicate (l.length - (i + 1)) 0 := by
        intro v
        rw [show l.length - i = (l.length - (i + 1)) + 1 by omega, List.replicate_succ, List.set_append_right _ _ (by simp [resS]; omega)]
        rw [show i - (resS (l.take i)).length = 0 by simp [resS]; omega]
        rfl
      have i1 : idx (floS (l.take i) ++ List.replicate (l.length - i) (0 : Int)) (i : Int) = some ((floS (l.take i) ++ List.replicate (l.length - i) (0 : Int)).getD i 0) := idx_getD (by rw [e1]; exact hil)
      have i2 : idx (resS (l.take i) ++ List.replicate (l.length - i) (0 : Int)) (i : Int) = some ((resS (l.take i) ++ List.replicate (l.length - i) (0 : Int)).getD i 0) := idx_getD (by rw [e2]; exact hil)
      have i3 : ∀ v : Int, idx (resS (l.take i) ++ v :: List.replicate (l.length - (i + 1)) (0 : Int)) (i : Int) = some v := fun v => by rw [← s2]; exact idx_set (by rw [e2]; exact hil)
      have i4 : ∀ v : Int, idx (floS (l.take i) ++ v :: List.replicate (l.length - (i + 1)) (0 : Int)) (i : Int) = some v := fun v => by rw [← s1]; exact idx_set (by rw [e1]; exact hil)
      have ts : (l.take (i + 1)).sum = (l.take i).sum + x := by rw [take_snoc hx, List.sum_append]; simp
      have tf : (floS (l.take (i + 1))).sum = (floS (l.take i)).sum + x / 10000 := by rw [take_snoc hx]; simp [floS, List.sum_append]
      have w1 : IntKind.wrap .i64 ((l.take i).sum + x) = (l.take i).sum + x := wrap64 (by omega) (by omega)
      have w2 : IntKind.wrap .i64 ((floS (l.take i)).sum + x / 10000) = (floS (l.take i)).sum + x / 10000 := wrap64 (by omega) (by omega)
      simp only [Bool.not_true, if_false, Bool.false_eq_true, i1, i2, i3, i4, Option.bind_some, Int.toNat_natCast, rest_eq hv, part_eq hv, w1, w2, hw, s1, s2]
      rw [ts, tf, take_snoc hx]
      simp [floS, resS]

theorem roundLoop_r {N : Nat} (hN : 5000 ≤ N) {l : List Int} (hl : l.length ≤ 4096) :
    loopN (billingref01_Round_l1 N l) N (0, 0, 0, [], []) = some (bif l.all valB then .inl (l.sum, (floS l).sum, floS l, resS l) else .inr ()) := by
  refine loop_list (n := N) (s := ((0 : Int), (0 : Int), ([] : List Int), ([] : List Int))) l (by rw [maxLen_val]; omega) (f := billingref01_Round_l1 N l) (fun s i => (s.1, s.2.1, i, s.2.2.1, s.2.2.2))
    (fun i s => (l.take i).all valB = true ∧ s = ((l.take i).sum, (floS (l.take i)).sum, floS (l.take i), resS (l.take i)))
    (fun s xs => bif l.all valB then .inl (l.sum, (floS l).sum, floS l, resS l) else .inr ()) (fun s hI h => ?_) (fun s i x xs hx hlt hidx hw hd hI => ?_) (by omega) ⟨by simp, by simp [floS, resS]⟩
  · obtain ⟨h1, h2⟩ := hI
    rw [List.take_length] at h1 h2
    rw [h2, h1]
    simp [billingref01_Round_l1]
  · obtain ⟨h1, h2⟩ := hI
    have hil := (List.getElem?_eq_some_iff.1 hx).1
    simp only [billingref01_Round_l1, hlt, hidx, if_true, Option.bind_some, valid_r]
    cases hv : valB x with
    | false => exact .inr (by rw [all_false hx hv]; simp)
    | true =>
      refine .inl ⟨((l.take (i + 1)).sum, (floS (l.take (i + 1))).sum, floS (l.take (i + 1)), resS (l.take (i + 1))), ?_, ⟨all_take h1 hx hv, rfl⟩, by trivial⟩
      have b1 := sums_take (i + 1) (all_take h1 hx hv) hl
      rw [h2]
      have ts : (l.take (i + 1)).sum = (l.take i).sum + x := by rw [take_snoc hx, List.sum_append]; simp
      have tf : (floS (l.take (i + 1))).sum = (floS (l.take i)).sum + x / 10000 := by rw [take_snoc hx]; simp [floS, List.sum_append]
      have w1 : IntKind.wrap .i64 ((l.take i).sum + x) = (l.take i).sum + x := wrap64 (by omega) (by omega)
      have w2 : IntKind.wrap .i64 ((floS (l.take i)).sum + x / 10000) = (floS (l.take i)).sum + x / 10000 := wrap64 (by omega) (by omega)
      have a1 : app 8 (floS (l.take i)) [x / 10000] = some (floS (l.take i) ++ [x / 10000]) := app_of (by simp [floS]; omega)
      have a2 : app 8 (resS (l.take i)) [x % 10000] = some (resS (l.take i) ++ [x % 10000]) := app_of (by simp [resS]; omega)
      simp only [Bool.not_true, if_false, Bool.false_eq_true, Option.bind_some, rest_eq hv, part_eq hv, w1, w2, hw, a1, a2]
      rw [ts, tf, take_snoc hx]
      simp [floS, resS]

theorem rnd_bound {a : Int} : a - 5000 ≤ 10000 * rndS a ∧ 10000 * rndS a ≤ a + 5000 := by
  obtain ⟨t1, t2, t3, t4, t5⟩ := tdm a
  unfold rndS
  split
  · omega
  · split <;> omega
theorem round_give {l : List Int} (hl : l.length ≤ 4096) (h : l.all valB = true) : IntKind.wrap .i64 (rndS l.sum - (floS l).sum) = rndS l.sum - (floS l).sum ∧ (floS l).length = (resS l).length ∧ (resS l).length ≤ 4096 ∧ rndS l.sum - (floS l).sum < 9223372036854775808 ∧
    (∀ x ∈ floS l, -4503599627370496 ≤ x ∧ x ≤ 4503599627370496) ∧ -9223372036854775808 ≤ l.sum ∧ l.sum < 9223372036854775808 := by
  have h1 := sum_bound h
  obtain ⟨h2, h3, h4⟩ := flo_bound h
  have h5 := rnd_bound (a := l.sum)
  have h6 : (l.length : Int) ≤ 4096 := by omega
  exact ⟨wrap64 (by omega) (by omega), by simp [floS, resS], by simpa [resS] using hl, by omega, h2, by omega, by omega⟩

theorem round_p {N : Nat} (hN : 5000 ≤ N) (l : List Int) : amount_Round N l = some (roundS l) := by
  unfold amount_Round roundS
  by_cases h : (l.length : Int) > 4096
  · simp [h]
  · rw [if_neg h, if_neg (by simpa using h)]
    have hl : l.length ≤ 4096 := by omega
    have hm : mkL 8 (l.length : Int) (l.length : Int) (0 : Int) = some (List.replicate l.length 0) := mkL_of (by omega)
    rw [hm]
    simp only [Option.bind_some]
    rw [roundLoop_p hN hl]
    cases hv : l.all valB with
    | false => rfl
    | true =>
      obtain ⟨r1, r2, r3, r4, r5, r6, r7⟩ := round_give hl hv
      simp only [cond_true, Option.bind_some]
      rw [rounded_p N r6 r7]
      simp only [Option.bind_some]
      rw [r1, give_p hN r2 r3 r4 r5]
      rfl
theorem round_r {N : Nat} (hN : 5000 ≤ N) (l : List Int) : billingref01_Round N l = some (roundS l) := by
  unfold billingref01_Round roundS
  by_cases h : (l.length : Int) > 4096
  · simp [h]
  · rw [if_neg h, if_neg (by simpa using h)]
    have hl : l.length ≤ 4096 := by omega
    rw [roundLoop_r hN hl]
    cases hv : l.all valB with
    | false => rfl
    | true =>
      obtain ⟨r1, r2, r3, r4, r5, r6, r7⟩ := round_give hl hv
      simp only [cond_true, Option.bind_some]
      rw [rounded_r N r6 r7]
      simp only [Option.bind_some]
      rw [r1, give_r hN r2 r3 r4 r5]
      rfl
end Gx

/- Amounts: products and quotients. -/
namespace Gx
open Go Gd
set_option linter.unusedVariables false
set_option linter.unusedSimpArgs false

theorem i64_and1 (n : Int) : Go.bits .and .i64 n 1 = n % 2 := by
  have h127 : (BitVec.ofInt 64 1).toNat = 2 ^ 1 - 1 := by decide
  have key : (BitVec.ofInt 64 n &&& BitVec.ofInt 64 1).toNat = (n % ((2 ^ 64 : Nat) : Int)).toNat % 2 ^ 1 := by
    rw [BitVec.toNat_and, BitVec.toNat_ofInt, h127, Nat.and_two_pow_sub_one_eq_mod]
  show IntKind.i64.wrap ((BitVec.ofInt 64 n &&& BitVec.ofInt 64 1).toNat : Nat) = n % 2
  rw [key, IntKind.wrap_i64]
  omega

theorem dm_step {A m d b q r : Nat} (hd : 0 < d) (hq : q = A * m / d) (hr : r = A * m % d) (x : Nat) (hx : A * (2 * m + b) = 2 * (A * m) + x) :
    A * (2 * m + b) / d = 2 * q + (2 * r + x) / d ∧ A * (2 * m + b) % d = (2 * r + x) % d := by
  have h1 : A * m = d * q + r := by rw [hq, hr]; exact (Nat.div_add_mod _ _).symm
  have h2 : A * (2 * m + b) = (2 * r + x) + d * (2 * q) := by rw [hx, h1, Nat.mul_add, ← Nat.mul_assoc 2 d q, Nat.mul_comm 2 d, Nat.mul_assoc]; omega
  rw [h2]
  refine ⟨?_, Nat.add_mul_mod_self_left _ _ _⟩
  rw [Nat.add_mul_div_left _ _ hd]; omega

theorem shr_nat (n b : Nat) (hb : b ≤ 62) : shrW .i64 (n : Int) (b : Int) = some ((n / 2 ^ b : Nat) : Int) := by
  unfold shrW
  rw [if_neg (by omega)]
  have : min ((b : Int)).toNat (IntKind.bits .i64) = b := by
    rw [Int.toNat_natCast]; show min b 64 = b; omega
  rw [this]
  congr 1
  rw [Int.fdiv_eq_ediv_of_nonneg _ (by exact_mod_cast Nat.zero_le _)]
  rw [Int.natCast_ediv]; congr 1
theorem wrap_nat {z : Nat} (h : z < 9223372036854775808) : IntKind.wrap .i64 (z : Int) = (z : Int) := wrap64 (by omega) (by omega)
theorem wrap_add_nat {x y : Nat} (h : x + y < 9223372036854775808) : IntKind.wrap .i64 ((x : Int) + (y : Int)) = ((x + y : Nat) : Int) := by rw [← Int.natCast_add]; exact wrap_nat h
theorem wrap_two {x : Nat} (h : 2 * x < 9223372036854775808) : IntKind.wrap .i64 (2 * (x : Int)) = ((2 * x : Nat) : Int) := by rw [wrap64 (by omega) (by omega)]; omega
theorem quo_nat (x y : Nat) (hy : 0 < y) (hx : x < 9223372036854775808) : quoW .i64 (x : Int) (y : Int) = some ((x / y : Nat) : Int) := by
  unfold quoW
  rw [if_neg (by omega), ← Int.ofNat_tdiv]
  have := Nat.div_le_self x y
  rw [wrap_nat (by omega)]
theorem rem_nat (x y : Nat) (hy : 0 < y) : remW (x : Int) (y : Int) = some ((x % y : Nat) : Int) := by
  unfold remW
  rw [if_neg (by omega), ← Int.ofNat_tmod]

theorem half_pow (n b : Nat) : n / 2 ^ b = 2 * (n / 2 ^ (b + 1)) + n / 2 ^ b % 2 := by
  have : n / 2 ^ (b + 1) = n / 2 ^ b / 2 := by rw [Nat.pow_succ, Nat.div_div_eq_div_mul]
  omega

theorem divLoop_p (N : Nat) {A n d : Nat} (hA : A ≤ 1125899906842624) (hn : n ≤ 1099511627776) (hd : 0 < d) (hd2 : d ≤ 70368744177664) : ∀ (b q r fuel : Nat), b ≤ 63 → b < fuel → q = A * (n / 2 ^ b) / d → r = A * (n / 2 ^ b) % d → q ≤ 2251799813685248 →
    ∃ x, loopN (amount_divide_l1 N n A d) fuel ((q : Int), (r : Int), (b : Int) - 1) = some x ∧
      ((x = .inl (((A * n / d : Nat) : Int), ((A * n % d : Nat) : Int)) ∧ A * n / d ≤ 2251799813685248) ∨ ∃ q' : Nat, x = .inr ((q' : Int), 0) ∧ 2251799813685248 < q' ∧ q' ≤ A * n / d ∧ q' < 9007199254740992)
  | 0, q, r, fuel, hb, hf, hq, hr, hle => by
    obtain ⟨m, rfl⟩ : ∃ m, fuel = m + 1 := ⟨fuel - 1, by omega⟩
    simp only [Nat.pow_zero, Nat.div_one] at hq hr
    exact ⟨_, by simp [loopN, amount_divide_l1]; rfl, .inl ⟨by rw [hq, hr], by omega⟩⟩
  | b + 1, q, r, fuel, hb, hf, hq, hr, hle => by
    obtain ⟨f, rfl⟩ : ∃ m, fuel = m + 1 := ⟨fuel - 1, by omega⟩
    have hm := half_pow n b
    generalize hm' : n / 2 ^ b = m' at *
    have hr2 : r < d := by rw [hr]; exact Nat.mod_lt _ hd
    have hAd : A % d < d := Nat.mod_lt _ hd
    have hAq : A / d ≤ A := Nat.div_le_self _ _
    have hAdm : A = d * (A / d) + A % d := (Nat.div_add_mod _ _).symm
    have hm2 : m' ≤ n := by rw [← hm']; exact Nat.div_le_self _ _
    have hmono : A * m' / d ≤ A * n / d := Nat.div_le_div_right (Nat.mul_le_mul_left _ hm2)
    have e0 : (((b + 1 : Nat) : Int) - 1) = (b : Int) := by omega
    have e1 : IntKind.wrap .i64 ((b : Int) - 1) = (b : Int) - 1 := wrap64 (by omega) (by omega)
    simp only [loopN, amount_divide_l1, e0, e1, show (decide ((b : Int) ≥ 0)) = true by simp, if_true, shr_nat n b (by omega), hm', Option.bind_some, i64_and1]
    -- what the bit adds
    have w1 : IntKind.wrap .i64 (2 * (q : Int)) = ((2 * q : Nat) : Int) := wrap_two (by omega)
    have w2 : IntKind.wrap .i64 (2 * (r : Int)) = ((2 * r : Nat) : Int) := wrap_two (by omega)
    have fin : ∀ x : Nat, A * (2 * (n / 2 ^ (b + 1)) + m' % 2) = 2 * (A * (n / 2 ^ (b + 1))) + x → ∀ q1 r1 : Nat, 2 * q + (2 * r + x) / d = q1 + r1 / d → (2 * r + x) % d = r1 % d → r1 ≤ 3 * 70368744177664 → q1 ≤ 6755399441055744 →
        ∃ y, ((quoW .i64 (r1 : Int) (d : Int)).bind fun n9 => (remW (r1 : Int) (d : Int)).bind fun n10 => if (decide ((IntKind.wrap .i64 ((q1 : Int) + n9)) > 2251799813685248)) = true then some (.inr (.inr ((IntKind.wrap .i64 ((q1 : Int) + n9)), (0 : Int)))) else some (.inl ((IntKind.wrap .i64 ((q1 : Int) + n9)), n10, (b : Int) - 1)) : Option ((Int × Int × Int) ⊕ ((Int × Int) ⊕ (Int × Int)))) = some y ∧
          ((∃ q2 r2 : Nat, y = .inl ((q2 : Int), (r2 : Int), (b : Int) - 1) ∧ q2 = A * m' / d ∧ r2 = A * m' % d ∧ q2 ≤ 2251799813685248) ∨ ∃ q' : Nat, y = .inr (.inr ((q' : Int), 0)) ∧ 2251799813685248 < q' ∧ q' ≤ A * n / d ∧ q' < 9007199254740992) := by
      intro x hx q1 r1 hq1 hr1 hb1 hb2
      obtain ⟨s1, s2⟩ := dm_step hd hq hr x hx
      rw [← hm] at s1 s2
      have hdiv := Nat.div_le_self r1 d
      rw [quo_nat r1 d hd (by omega), rem_nat r1 d hd]
      simp only [Option.bind_some]
      have w3 : IntKind.wrap .i64 ((q1 : Int) + ((r1 / d : Nat) : Int)) = ((q1 + r1 / d : Nat) : Int) := wrap_add_nat (by omega)
      rw [w3, ← hq1, ← s1]
      by_cases hgt : ((A * m' / d : Nat) : Int) > 2251799813685248
      · rw [if_pos (by simpa using hgt)]
        refine ⟨_, rfl, .inr ⟨A * m' / d, rfl, by omega, hmono, by omega⟩⟩
      · rw [if_neg (by simpa using hgt)]
        refine ⟨_, rfl, .inl ⟨A * m' / d, A * m' % d, by rw [s2, ← hr1], rfl, rfl, by omega⟩⟩
    rcases Nat.mod_two_eq_zero_or_one m' with hbit | hbit
    · have hb0 : ((((m' : Nat) : Int) % 2) == 1) = false := by
        have : ((m' : Int) % 2) = 0 := by omega
        rw [this]; rfl
      rw [hb0]
      simp only [Bool.false_eq_true, if_false, Option.bind_some, w1, w2]
      obtain ⟨y, hy1, hy2⟩ := fin 0 (by rw [hbit]; simp [Nat.mul_add, Nat.mul_left_comm]) (2 * q) (2 * r) rfl rfl (by omega) (by omega)
      rw [hy1]
      rcases hy2 with ⟨q2, r2, rfl, h1, h2, h3⟩ | ⟨q', rfl, h1, h2, h3⟩
      · exact divLoop_p N hA hn hd hd2 b q2 r2 f (by omega) (by omega) (by rw [hm']; exact h1) (by rw [hm']; exact h2) h3
      · exact ⟨_, rfl, .inr ⟨q', rfl, h1, h2, h3⟩⟩
    · have hb1 : ((((m' : Nat) : Int) % 2) == 1) = true := by
        have : ((m' : Int) % 2) = 1 := by omega
        rw [this]; rfl
      rw [hb1]
      simp only [if_true, Option.bind_some, w1, w2, quo_nat A d hd (by omega), rem_nat A d hd]
      have w4 : IntKind.wrap .i64 (((2 * q : Nat) : Int) + ((A / d : Nat) : Int)) = ((2 * q + A / d : Nat) : Int) := wrap_add_nat (by omega)
      have w5 : IntKind.wrap .i64 (((2 * r : Nat) : Int) + ((A % d : Nat) : Int)) = ((2 * r + A % d : Nat) : Int) := wrap_add_nat (by omega)
      rw [w4, w5]
      obtain ⟨y, hy1, hy2⟩ := fin A (by rw [hbit]; simp [Nat.mul_add, Nat.mul_left_comm]) (2 * q + A / d) (2 * r + A % d) (by
        have : 2 * r + A = (2 * r + A % d) + d * (A / d) := by omega
        rw [this, Nat.add_mul_div_left _ _ hd]; omega) (by
        have : 2 * r + A = (2 * r + A % d) + d * (A / d) := by omega
        rw [this, Nat.add_mul_mod_self_left]) (by omega) (by omega)
      rw [hy1]
      rcases hy2 with ⟨q2, r2, rfl, h1, h2, h3⟩ | ⟨q', rfl, h1, h2, h3⟩
      · exact divLoop_p N hA hn hd hd2 b q2 r2 f (by omega) (by omega) (by rw [hm']; exact h1) (by rw [hm']; exact h2) h3
      · exact ⟨_, rfl, .inr ⟨q', rfl, h1, h2, h3⟩⟩

theorem divide_p {N : Nat} (hN : 5000 ≤ N) {A n d : Nat} (hA : A ≤ 1125899906842624) (hn : n ≤ 1099511627776) (hd : 0 < d) (hd2 : d ≤ 70368744177664) :
    (amount_divide N A n d = some (((A * n / d : Nat) : Int), ((A * n % d : Nat) : Int)) ∧ A * n / d ≤ 2251799813685248) ∨ ∃ q' : Nat, amount_divide N A n d = some ((q' : Int), 0) ∧ 2251799813685248 < q' ∧ q' ≤ A * n / d ∧ q' < 9007199254740992 := by
  have h0 : n / 2 ^ 63 = 0 := Nat.div_eq_of_lt (by omega)
  obtain ⟨x, h1, h2⟩ := divLoop_p N hA hn hd hd2 63 0 0 N (by omega) (by omega) (by rw [h0]; simp) (by rw [h0]; simp) (by omega)
  have h1' : loopN (amount_divide_l1 N (n : Int) (A : Int) (d : Int)) N (0, 0, 62) = some x := h1
  unfold amount_divide
  rw [h1']
  rcases h2 with ⟨rfl, h3⟩ | ⟨q', rfl, h3⟩
  · exact .inl ⟨rfl, h3⟩
  · exact .inr ⟨q', rfl, h3⟩

theorem divLoop_r (N : Nat) {A n d : Nat} (hA : A ≤ 1125899906842624) (hn : n ≤ 1099511627776) (hd : 0 < d) (hd2 : d ≤ 70368744177664) : ∀ (b q r fuel : Nat), b ≤ 51 → b < fuel → q = min (n * (A / 2 ^ b) / d) 288230376151711744 → r = n * (A / 2 ^ b) % d →
    loopN (billingref01_Divide_l1 N A n d) fuel ((q : Int), (r : Int), (b : Int) - 1) = some (((min (n * A / d) 288230376151711744 : Nat) : Int), ((n * A % d : Nat) : Int))
  | 0, q, r, fuel, hb, hf, hq, hr => by
    obtain ⟨m, rfl⟩ : ∃ m, fuel = m + 1 := ⟨fuel - 1, by omega⟩
    simp only [Nat.pow_zero, Nat.div_one] at hq hr
    simp [loopN, billingref01_Divide_l1, hq, hr]
  | b + 1, q, r, fuel, hb, hf, hq, hr => by
    obtain ⟨f, rfl⟩ : ∃ m, fuel = m + 1 := ⟨fuel - 1, by omega⟩
    have hm := half_pow A b
    generalize hm' : A / 2 ^ b = m' at *
    have hr2 : r < d := by rw [hr]; exact Nat.mod_lt _ hd
    have hq2 : q ≤ 288230376151711744 := by rw [hq]; exact Nat.min_le_right _ _
    have e0 : (((b + 1 : Nat) : Int) - 1) = (b : Int) := by omega
    have e1 : IntKind.wrap .i64 ((b : Int) - 1) = (b : Int) - 1 := wrap64 (by omega) (by omega)
    have e2 : IntKind.wrap .u64 (b : Int) = (b : Int) := by
      simp only [IntKind.wrap, IntKind.bits, IntKind.signed]
      simp
      omega
    have w1 : IntKind.wrap .i64 (2 * (q : Int)) = ((2 * q : Nat) : Int) := wrap_two (by omega)
    have w2 : IntKind.wrap .i64 (2 * (r : Int)) = ((2 * r : Nat) : Int) := wrap_two (by omega)
    simp only [loopN, billingref01_Divide_l1, e0, e1, e2, show (decide ((b : Int) ≥ 0)) = true by simp, if_true, shr_nat A b (by omega), hm', Option.bind_some, i64_and1, w1, w2]
    have fin : ∀ x r1 : Nat, n * (2 * (A / 2 ^ (b + 1)) + m' % 2) = 2 * (n * (A / 2 ^ (b + 1))) + x → 2 * r + x = r1 → r1 ≤ 3 * 70368744177664 →
        ∃ q2 r2 : Nat, ((quoW .i64 (r1 : Int) (d : Int)).bind fun n6 => (remW (r1 : Int) (d : Int)).bind fun n7 => if (decide ((IntKind.wrap .i64 (((2 * q : Nat) : Int) + n6)) > 288230376151711744)) = true then some ((288230376151711744 : Int), n7) else some ((IntKind.wrap .i64 (((2 * q : Nat) : Int) + n6)), n7)) = some ((q2 : Int), (r2 : Int)) ∧
          q2 = min (n * m' / d) 288230376151711744 ∧ r2 = n * m' % d := by
      intro x r1 hx hr1 hb1
      have s0 := dm_step (q := n * (A / 2 ^ (b + 1)) / d) hd rfl hr x hx
      rw [← hm, hr1] at s0
      obtain ⟨s1, s2⟩ := s0
      have hdiv := Nat.div_le_self r1 d
      rw [quo_nat r1 d hd (by omega), rem_nat r1 d hd]
      simp only [Option.bind_some]
      have w3 : IntKind.wrap .i64 (((2 * q : Nat) : Int) + ((r1 / d : Nat) : Int)) = ((2 * q + r1 / d : Nat) : Int) := wrap_add_nat (by omega)
      rw [w3, ← s2]
      generalize n * (A / 2 ^ (b + 1)) / d = Q at *
      generalize n * m' / d = Q' at *
      generalize r1 / d = t at *
      by_cases hgt : ((2 * q + t : Nat) : Int) > 288230376151711744
      · rw [if_pos (by simpa using hgt)]
        exact ⟨288230376151711744, n * m' % d, rfl, by omega, rfl⟩
      · rw [if_neg (by simpa using hgt)]
        exact ⟨2 * q + t, n * m' % d, rfl, by omega, rfl⟩
    rcases Nat.mod_two_eq_zero_or_one m' with hbit | hbit
    · have hb0 : ((((m' : Nat) : Int) % 2) == 1) = false := by
        have : ((m' : Int) % 2) = 0 := by omega
        rw [this]; rfl
      rw [hb0]
      simp only [Bool.false_eq_true, if_false, Option.bind_some]
      obtain ⟨q2, r2, h1, h2, h3⟩ := fin 0 (2 * r) (by rw [hbit]; simp [Nat.mul_add, Nat.mul_left_comm]) rfl (by omega)
      rw [h1]
      exact divLoop_r N hA hn hd hd2 b q2 r2 f (by omega) (by omega) (by rw [hm']; exact h2) (by rw [hm']; exact h3)
    · have hb1 : ((((m' : Nat) : Int) % 2) == 1) = true := by
        have : ((m' : Int) % 2) = 1 := by omega
        rw [this]; rfl
      rw [hb1]
      have w4 : IntKind.wrap .i64 (((2 * r : Nat) : Int) + (n : Int)) = ((2 * r + n : Nat) : Int) := wrap_add_nat (by omega)
      simp only [if_true, Option.bind_some, w4]
      obtain ⟨q2, r2, h1, h2, h3⟩ := fin n (2 * r + n) (by rw [hbit]; simp [Nat.mul_add, Nat.mul_left_comm]) rfl (by omega)
      rw [h1]
      exact divLoop_r N hA hn hd hd2 b q2 r2 f (by omega) (by omega) (by rw [hm']; exact h2) (by rw [hm']; exact h3)
theorem divide_r {N : Nat} (hN : 5000 ≤ N) {A n d : Nat} (hA : A ≤ 1125899906842624) (hn : n ≤ 1099511627776) (hd : 0 < d) (hd2 : d ≤ 70368744177664) :
    billingref01_Divide N A n d = some (((min (A * n / d) 288230376151711744 : Nat) : Int), ((A * n % d : Nat) : Int)) := by
  have h0 : A / 2 ^ 51 = 0 := Nat.div_eq_of_lt (by omega)
  have h1 := divLoop_r N hA hn hd hd2 51 0 0 N (by omega) (by omega) (by rw [h0]; simp) (by rw [h0]; simp)
  have h1' : loopN (billingref01_Divide_l1 N (A : Int) (n : Int) (d : Int)) N (0, 0, 50) = some (((min (n * A / d) 288230376151711744 : Nat) : Int), ((n * A % d : Nat) : Int)) := h1
  unfold billingref01_Divide
  rw [h1', Nat.mul_comm n A]
  rfl

/-! ## Products, rounded -/
/-- a * n / d, rounded. -/
def rdiv (A n d : Nat) : Nat := if d ≤ 2 * (A * n % d) then A * n / d + 1 else A * n / d
def scaleS (a n d : Int) : Int × Int := bif !valB a || decide (n < 0) || decide (n > 1099511627776) || decide (d < 1) || decide (d > 1099511627776) then (0, 6) else
  if rdiv a.natAbs n.toNat d.toNat ≤ 1125899906842624 then (if a < 0 then -((rdiv a.natAbs n.toNat d.toNat : Nat) : Int) else ((rdiv a.natAbs n.toNat d.toNat : Nat) : Int), 0) else (0, 6)

theorem rdiv_ge {A n d : Nat} : A * n / d ≤ rdiv A n d ∧ rdiv A n d ≤ A * n / d + 1 := by unfold rdiv; split <;> omega

theorem scale_p {N : Nat} (hN : 5000 ≤ N) (a n d : Int) : amount_Scale N a n d = some (scaleS a n d) := by
  unfold amount_Scale scaleS
  rw [valid_p]
  simp only [Option.bind_some]
  cases hc : (!valB a || decide (n < 0) || decide (n > 1099511627776) || decide (d < 1) || decide (d > 1099511627776)) with
  | true => simp
  | false =>
    simp only [Bool.or_eq_false_iff, Bool.not_eq_false', decide_eq_false_iff_not] at hc
    obtain ⟨⟨⟨⟨h1, h2⟩, h3⟩, h4⟩, h5⟩ := hc
    have hv := valB_iff.1 h1
    obtain ⟨n, rfl⟩ : ∃ m : Nat, n = m := ⟨n.toNat, by omega⟩
    obtain ⟨d, rfl⟩ : ∃ m : Nat, d = m := ⟨d.toNat, by omega⟩
    have w0 : IntKind.wrap .i64 (0 - a) = -a := by rw [wrap64 (by omega) (by omega)]; omega
    have ha : (if -a > a then -a else a) = ((a.natAbs : Nat) : Int) := by split <;> omega
    simp only [Bool.false_eq_true, if_false, cond_false, w0, ha, Int.toNat_natCast]
    generalize hA : a.natAbs = A
    have hA2 : A ≤ 1125899906842624 := by omega
    rcases divide_p hN hA2 (n := n) (d := d) (by omega) (by omega) (by omega) with ⟨q1, q2⟩ | ⟨q', q1, q2, q3, q4⟩
    · rw [q1]
      have hlt := Nat.mod_lt (A * n) (show d > 0 by omega)
      generalize hQ : A * n / d = Q at *
      generalize hR : A * n % d = R at *
      have w1 : IntKind.wrap .i64 ((d : Int) - (R : Int)) = (d : Int) - (R : Int) := wrap64 (by omega) (by omega)
      have w2 : IntKind.wrap .i64 ((Q : Int) + 1) = ((Q + 1 : Nat) : Int) := by rw [wrap64 (by omega) (by omega)]; omega
      have e1 : (if decide ((R : Int) ≥ (d : Int) - (R : Int)) = true then some ((Q + 1 : Nat) : Int) else some (Q : Int)) = some ((rdiv A n d : Nat) : Int) := by
        unfold rdiv
        rw [hQ, hR]
        by_cases hc : d ≤ 2 * R
        · rw [if_pos (by simp; omega), if_pos hc]
        · rw [if_neg (by simp; omega), if_neg hc]
      have hrd := rdiv_ge (A := A) (n := n) (d := d)
      rw [hQ] at hrd
      simp only [Option.bind_some, w1, w2, e1]
      generalize rdiv A n d = T at *
      have w3 : IntKind.wrap .i64 (0 - (T : Int)) = -(T : Int) := by rw [wrap64 (by omega) (by omega)]; omega
      rw [w3]
      by_cases hneg : a < 0
      · simp only [hneg, decide_true, if_true, Option.bind_some, checked_p]
        by_cases hT : T ≤ 1125899906842624
        · have : valB (-(T : Int)) = true := valB_iff.2 (by omega)
          simp [chkS, this, hT]
        · have : valB (-(T : Int)) = false := by rw [← Bool.not_eq_true, valB_iff]; omega
          simp [chkS, this, hT]
      · simp only [hneg, decide_false, Bool.false_eq_true, if_false, Option.bind_some, checked_p]
        by_cases hT : T ≤ 1125899906842624
        · have : valB (T : Int) = true := valB_iff.2 (by omega)
          simp [chkS, this, hT]
        · have : valB (T : Int) = false := by rw [← Bool.not_eq_true, valB_iff]; omega
          simp [chkS, this, hT]
    · rw [q1]
      have hrd := rdiv_ge (A := A) (n := n) (d := d)
      have hT : ¬ rdiv A n d ≤ 1125899906842624 := by omega
      have w1 : IntKind.wrap .i64 ((d : Int) - 0) = (d : Int) := by rw [wrap64 (by omega) (by omega)]; omega
      have w3 : IntKind.wrap .i64 (0 - (q' : Int)) = -(q' : Int) := by rw [wrap64 (by omega) (by omega)]; omega
      have hd0 : decide ((0 : Int) ≥ (d : Int)) = false := by simp; omega
      simp only [Option.bind_some, w1, hd0, Bool.false_eq_true, if_false, w3, hT]
      by_cases hneg : a < 0
      · have : valB (-(q' : Int)) = false := by rw [← Bool.not_eq_true, valB_iff]; omega
        simp [hneg, checked_p, chkS, this]
      · have : valB (q' : Int) = false := by rw [← Bool.not_eq_true, valB_iff]; omega
        simp [hneg, checked_p, chkS, this]

theorem scale_r1 {N k : Nat} (hN : 5000 ≤ N) {A n d : Nat} (hA : A ≤ 1125899906842624) (hn : n ≤ 1099511627776) (hd : 0 < d) (hd2 : d ≤ 1099511627776) :
    billingref01_Scale_r N (k + 1) A n d = some (if rdiv A n d ≤ 1125899906842624 then ((rdiv A n d : Nat) : Int) else 0, if rdiv A n d ≤ 1125899906842624 then 0 else 6) := by
  have hv : valB (A : Int) = true := valB_iff.2 (by omega)
  have c1 : (((((!true) || (decide ((n : Int) < 0))) || (decide ((n : Int) > 1099511627776))) || (decide ((d : Int) < 1))) || (decide ((d : Int) > 1099511627776))) = false := by
    have a1 : decide ((n : Int) < 0) = false := by simp
    have a2 : decide ((n : Int) > 1099511627776) = false := by simp; omega
    have a3 : decide ((d : Int) < 1) = false := by simp; omega
    have a4 : decide ((d : Int) > 1099511627776) = false := by simp; omega
    rw [a1, a2, a3, a4]; rfl
  have hneg : decide ((A : Int) < 0) = false := by simp
  simp only [billingref01_Scale_r, valid_r, Option.bind_some, hv, c1, Bool.false_eq_true, if_false, hneg, divide_r hN hA hn hd (by omega)]
  have hlt := Nat.mod_lt (A * n) hd
  have hrd := rdiv_ge (A := A) (n := n) (d := d)
  have w1 : IntKind.wrap .i64 (2 * ((A * n % d : Nat) : Int)) = ((2 * (A * n % d) : Nat) : Int) := wrap_two (by omega)
  rw [w1]
  generalize hR : A * n % d = R at *
  have hrdiv : rdiv A n d = if d ≤ 2 * R then A * n / d + 1 else A * n / d := by unfold rdiv; rw [hR]
  generalize hQ : A * n / d = Q at *
  have w2 : IntKind.wrap .i64 (((min Q 288230376151711744 : Nat) : Int) + 1) = ((min Q 288230376151711744 + 1 : Nat) : Int) := by rw [wrap64 (by omega) (by omega)]; omega
  rw [w2]
  generalize rdiv A n d = T at *
  have hfin : ∀ U : Nat, (T ≤ 1125899906842624 → U = T) → (1125899906842624 < T → 1125899906842624 < U) →
      (if (!valB (U : Int)) = true then some ((0 : Int), (6 : Int)) else some ((U : Int), (0 : Int))) = some (if T ≤ 1125899906842624 then (T : Int) else 0, if T ≤ 1125899906842624 then 0 else 6) := by
    intro U h1 h2
    rcases Nat.lt_or_ge 1125899906842624 T with hT | hT
    · have hv2 : valB (U : Int) = false := by have := h2 hT; rw [← Bool.not_eq_true, valB_iff]; omega
      rw [hv2, if_pos (show (!false) = true from rfl), if_neg (Nat.not_le.2 hT), if_neg (Nat.not_le.2 hT)]
    · have hv2 : valB (U : Int) = true := by rw [h1 hT]; exact valB_iff.2 (by omega)
      rw [hv2, if_neg (show ¬ (!true) = true from by simp), if_pos hT, if_pos hT, h1 hT]
  by_cases hc : d ≤ 2 * R
  · rw [if_pos hc] at hrdiv
    have : decide (((2 * R : Nat) : Int) ≥ (d : Int)) = true := decide_eq_true (by omega)
    rw [this, if_pos rfl]
    obtain ⟨U, hU⟩ : ∃ U, U = min Q 288230376151711744 + 1 := ⟨_, rfl⟩
    rw [← hU]
    rw [Option.bind_some]
    exact hfin U (by omega) (by omega)
  · rw [if_neg hc] at hrdiv
    have : decide (((2 * R : Nat) : Int) ≥ (d : Int)) = false := decide_eq_false (by omega)
    rw [this, if_neg (by simp)]
    obtain ⟨U, hU⟩ : ∃ U, U = min Q 288230376151711744 := ⟨_, rfl⟩
    rw [← hU]
    rw [Option.bind_some]
    exact hfin U (by omega) (by omega)

theorem scale_r {N : Nat} (hN : 5000 ≤ N) (a n d : Int) : billingref01_Scale N a n d = some (scaleS a n d) := by
  obtain ⟨k, rfl⟩ : ∃ k, N = k + 2 := ⟨N - 2, by omega⟩
  unfold billingref01_Scale scaleS
  cases hc : (!valB a || decide (n < 0) || decide (n > 1099511627776) || decide (d < 1) || decide (d > 1099511627776)) with
  | true => simp only [billingref01_Scale_r, valid_r, Option.bind_some, hc]; rfl
  | false =>
    have hc' := hc
    simp only [Bool.or_eq_false_iff, Bool.not_eq_false', decide_eq_false_iff_not] at hc
    obtain ⟨⟨⟨⟨h1, h2⟩, h3⟩, h4⟩, h5⟩ := hc
    have hv := valB_iff.1 h1
    obtain ⟨n, rfl⟩ : ∃ m : Nat, n = m := ⟨n.toNat, by omega⟩
    obtain ⟨d, rfl⟩ : ∃ m : Nat, d = m := ⟨d.toNat, by omega⟩
    simp only [cond_false, Int.toNat_natCast]
    generalize hA : a.natAbs = A
    have hA2 : A ≤ 1125899906842624 := by omega
    by_cases hneg : a < 0
    · have w0 : IntKind.wrap .i64 (0 - a) = (A : Int) := by rw [wrap64 (by omega) (by omega)]; omega
      have e := scale_r1 (k := k) hN hA2 (n := n) (d := d) (by omega) (by omega) (by omega)
      rw [show k + 2 = (k + 1) + 1 from rfl]
      rw [show k + 2 = (k + 1) + 1 from rfl] at e
      rw [billingref01_Scale_r]
      simp only [valid_r, Option.bind_some, hc', Bool.false_eq_true, if_false, hneg, decide_true, if_true, w0, e]
      have hrd : rdiv A n d ≤ 1125899906842624 ∨ ¬ rdiv A n d ≤ 1125899906842624 := Nat.lt_or_ge _ _ |>.elim (fun h => .inr (by omega)) (fun h => .inl h)
      rcases hrd with hT | hT
      · simp only [hT, if_true]
        rw [wrap64 (by omega) (by omega)]
        simp
      · simp only [hT, if_false]
        rfl
    · have hAe : a = (A : Int) := by omega
      rw [hAe]
      have e := scale_r1 (k := k + 1) hN hA2 (n := n) (d := d) (by omega) (by omega) (by omega)
      rw [show k + 2 = (k + 1) + 1 from rfl] at e ⊢
      rw [e]
      have : ¬ ((A : Int) < 0) := by omega
      simp only [this, if_false]
      split <;> rfl

def percS (a p : Int) : Int × Int := bif decide (p < 0) || decide (p > 10000) then (0, 6) else scaleS a p 10000
theorem perc_p {N : Nat} (hN : 5000 ≤ N) (a p : Int) : amount_Percent N a p = some (percS a p) := by
  unfold amount_Percent percS
  rw [scale_p hN]
  cases (decide (p < 0) || decide (p > 10000)) <;> rfl
theorem perc_r {N : Nat} (hN : 5000 ≤ N) (a p : Int) : billingref01_Percent N a p = some (percS a p) := by
  unfold billingref01_Percent percS
  rw [scale_r hN]
  cases (decide (p < 0) || decide (p > 10000)) <;> rfl
end Gx

/- Amount, chapter 01: the examples; the statement about products. -/
namespace Gx
open Go Gd
set_option linter.unusedVariables false
set_option linter.unusedSimpArgs false
set_option maxRecDepth 100000

theorem awake01 : billinglaw01_awake (10000 + 64) = some true := by
  have : ∀ M, billinglaw01_awake (M + 64) = some true := fun M => by kernel_rfl
  exact this 10000

theorem same01 {N : Nat} {l : List Int} (hl : l.length ≤ 4096) (hN : 5000 ≤ N) : billingref01_Same N l l = some true := by
  unfold billingref01_Same
  simp only [bne_self_eq_false, Bool.false_eq_true, if_false]
  have key := loop_list (n := N) (s := ()) l (by rw [maxLen_val]; omega) (f := billingref01_Same_l1 N l l) (fun s i => i) (fun i s => True) (fun s xs => .inl ())
    (fun s hI h => by simp [billingref01_Same_l1]) (fun s i x xs hx hlt hidx hw hd hI => .inl ⟨(), by simp [billingref01_Same_l1, hidx, hw]; exact (List.getElem?_eq_some_iff.1 hx).1, trivial, rfl⟩) (by omega) trivial
  rw [show loopN (billingref01_Same_l1 N l l) N 0 = some (.inl ()) from key]
  rfl

theorem law_AmountScales (x0 : Int) (g0 : gd (.int .i64) x0) (x1 : Int) (g1 : gd (.int .i64) x1) (x2 : Int) (g2 : gd (.int .i64) x2) : ∃ N, billinglaw01_AmountScales N x0 x1 x2 = some true := by
  refine ⟨10000 + 64, ?_⟩
  unfold billinglaw01_AmountScales
  rw [scale_p (by omega), scale_r (by omega), awake01]
  simp

end Gx

/- What rounding and dividing give: sums and parts. -/
namespace Gx
open Go Gd
set_option linter.unusedVariables false
set_option linter.unusedSimpArgs false

/-! ## Rounded parts add up -/
theorem sum_set1 : ∀ {p : List Int} {j : Nat}, j < p.length → (p.set j (p.getD j 0 + 1)).sum = p.sum + 1
  | [], j, h => by simp at h
  | x :: p, 0, h => by simp; omega
  | x :: p, j + 1, h => by
    have := sum_set1 (p := p) (j := j) (by simpa using h)
    simp only [List.set_cons_succ, List.sum_cons, List.getD_cons_succ, this]
    omega
theorem giveF_sum : ∀ (n : Nat) (p r : List Int), p.length = r.length → n ≤ cnt r → (giveF n p r).1.sum = p.sum + (n : Int)
  | 0, p, r, _, _ => by simp [giveF]
  | n + 1, p, r, hl, hc => by
    rcases bestS_ok r with ⟨h1, h2⟩ | ⟨j, h1, h2, h3, h4⟩
    · exfalso
      have : 0 < cnt r := by omega
      obtain ⟨x, hx, hp⟩ := List.countP_pos_iff.1 this
      obtain ⟨i, hi, he⟩ := List.getElem_of_mem hx
      have := h2 i hi
      rw [List.getD_eq_getElem?_getD, List.getElem?_eq_getElem hi, he] at this
      simp at hp this
      omega
    · have hc' := cnt_set h2 h3
      simp only [giveF, h1, show ¬ ((j : Int) < 0) by omega, if_false, Int.toNat_natCast]
      rw [giveF_sum n _ _ (by simpa using hl) (by omega), sum_set1 (by omega)]
      push_cast; omega
theorem giveF_mem {lo hi : Int} : ∀ (n : Nat) (p r : List Int), p.length = r.length → (∀ x ∈ p, lo ≤ x ∧ x ≤ hi) → ∀ x ∈ (giveF n p r).1, lo ≤ x ∧ x ≤ hi + n
  | 0, p, r, _, h, x, hx => by have := h x hx; simp; omega
  | n + 1, p, r, hl, h, x, hx => by
    simp only [giveF] at hx
    split at hx
    · have := h x hx; push_cast; omega
    · rename_i hb
      have key := giveF_mem (lo := lo) (hi := hi + 1) n (p.set (bestS r).toNat (p.getD (bestS r).toNat 0 + 1)) (r.set (bestS r).toNat (-1)) (by simpa using hl) (fun y hy => by
        rcases bestS_ok r with ⟨h1, h2⟩ | ⟨j, h1, h2, h3, h4⟩
        · omega
        · rw [h1] at hy
          simp only [Int.toNat_natCast] at hy
          rcases List.mem_or_eq_of_mem_set hy with hy | rfl
          · have := h y hy; omega
          · have hj : j < p.length := by omega
            have := h _ (List.getElem_mem hj)
            rw [List.getD_eq_getElem?_getD, List.getElem?_eq_getElem hj]
            simp only [Option.getD_some]
            omega) x hx
      push_cast; omega
theorem flo_res : ∀ l : List Int, l.sum = 10000 * (floS l).sum + (resS l).sum
  | [] => rfl
  | x :: l => by
    have := flo_res l
    simp only [floS, resS, List.map_cons, List.sum_cons] at *
    have := Int.mul_ediv_add_emod x 10000
    omega
theorem res_bound : ∀ l : List Int, 0 ≤ (resS l).sum ∧ (resS l).sum ≤ 9999 * (l.length : Int)
  | [] => by simp [resS]
  | x :: l => by
    have := res_bound l
    simp only [resS, List.map_cons, List.sum_cons, List.length_cons] at *
    have h1 := Int.emod_nonneg x (b := 10000) (by omega)
    have h2 := Int.emod_lt_of_pos x (b := 10000) (by omega)
    push_cast; omega
theorem cnt_res (l : List Int) : cnt (resS l) = l.length := by
  unfold cnt
  rw [List.countP_eq_length.2]
  · simp [resS]
  · intro x hx
    simp only [resS, List.mem_map] at hx
    obtain ⟨y, _, rfl⟩ := hx
    have := Int.emod_nonneg y (b := 10000) (by omega)
    simpa using this
theorem round_n {l : List Int} : 0 ≤ rndS l.sum - (floS l).sum ∧ rndS l.sum - (floS l).sum ≤ (l.length : Int) := by
  have h1 := flo_res l
  have h2 := res_bound l
  have h3 := rnd_bound (a := l.sum)
  constructor <;> omega
theorem round_sum {l : List Int} (hl : l.length ≤ 4096) (h : l.all valB = true) : (roundS l).sum = rndS l.sum := by
  unfold roundS
  rw [if_neg (by omega), h]
  simp only [cond_true]
  have := round_n (l := l)
  rw [giveF_sum _ _ _ (by simp [floS, resS]) (by rw [cnt_res]; omega)]
  omega
theorem round_mem {l : List Int} (hl : l.length ≤ 4096) (h : l.all valB = true) : ∀ x ∈ roundS l, -112589990685 ≤ x ∧ x ≤ 112589994781 := by
  unfold roundS
  rw [if_neg (by omega), h]
  simp only [cond_true]
  intro x hx
  have hn := round_n (l := l)
  have := giveF_mem (lo := -112589990685) (hi := 112589990685) _ _ _ (by simp [floS, resS]) (fun y hy => by
    simp only [floS, List.mem_map] at hy
    obtain ⟨z, hz, rfl⟩ := hy
    have := valB_iff.1 (List.all_eq_true.1 h z hz)
    omega) x hx
  omega


/-! ## Each part gets at most one -/
theorem giveF_len : ∀ (n : Nat) (p r : List Int), (giveF n p r).1.length = p.length
  | 0, _, _ => rfl
  | n + 1, p, r => by
    simp only [giveF]
    split
    · rfl
    · rw [giveF_len n, List.length_set]
/-- How many of the rests are greater than 0. -/
def cpos (r : List Int) : Nat := r.countP fun x => decide (0 < x)
theorem cpos_le (r : List Int) : cpos r ≤ cnt r := List.countP_mono_left fun x _ h => by simp at *; omega
theorem cpos_set {r : List Int} {j : Nat} (hj : j < r.length) (h : 0 < r.getD j 0) : cpos (r.set j (-1)) + 1 = cpos r := by
  have hj' : r.getD j 0 = r[j] := by rw [List.getD_eq_getElem?_getD, List.getElem?_eq_getElem hj]; rfl
  rw [hj'] at h
  have hp : 0 < cpos r := List.countP_pos_iff.2 ⟨r[j], List.getElem_mem hj, by simpa using h⟩
  unfold cpos at *
  rw [List.countP_set hj]
  simp [h]
  omega
theorem getD_set_same {p : List Int} {j : Nat} {v : Int} (h : j < p.length) : (p.set j v).getD j 0 = v := by
  rw [List.getD_eq_getElem?_getD, List.getElem?_set_self (by simpa using h)]; rfl
theorem getD_set_ne {p : List Int} {i j : Nat} {v : Int} (h : j ≠ i) : (p.set j v).getD i 0 = p.getD i 0 := by
  rw [List.getD_eq_getElem?_getD, List.getD_eq_getElem?_getD, List.getElem?_set_ne h]
theorem giveF_get : ∀ (n : Nat) (p r : List Int), p.length = r.length → n ≤ cpos r → ∀ i, i < p.length → (giveF n p r).1.getD i 0 = p.getD i 0 ∨ ((giveF n p r).1.getD i 0 = p.getD i 0 + 1 ∧ 0 < r.getD i 0)
  | 0, p, r, _, _, i, _ => .inl rfl
  | n + 1, p, r, hl, hc, i, hi => by
    have hpos : 0 < cpos r := by omega
    obtain ⟨x, hx, hp⟩ := List.countP_pos_iff.1 hpos
    obtain ⟨k, hk, he⟩ := List.getElem_of_mem hx
    have hk' : r.getD k 0 = x := by rw [List.getD_eq_getElem?_getD, List.getElem?_eq_getElem hk, he]; rfl
    have hx0 : 0 < x := by simpa using hp
    rcases bestS_ok r with ⟨h1, h2⟩ | ⟨j, h1, h2, h3, h4⟩
    · have := h2 k hk; omega
    · have hj : 0 < r.getD j 0 := by have := h4 k hk; omega
      have hc' := cpos_set h2 hj
      simp only [giveF, h1, show ¬ ((j : Int) < 0) by omega, if_false, Int.toNat_natCast]
      have ih := giveF_get n (p.set j (p.getD j 0 + 1)) (r.set j (-1)) (by simpa using hl) (by omega) i (by simpa using hi)
      by_cases hij : j = i
      · subst hij
        rw [getD_set_same hi, getD_set_same h2] at ih
        rcases ih with ih | ⟨_, ih⟩
        · exact .inr ⟨ih, hj⟩
        · omega
      · rw [getD_set_ne hij, getD_set_ne hij] at ih
        exact ih
theorem res_pos : ∀ l : List Int, (resS l).sum ≤ 9999 * (cpos (resS l) : Int)
  | [] => by simp [resS, cpos]
  | x :: l => by
    have := res_pos l
    simp only [resS, cpos, List.map_cons, List.sum_cons, List.countP_cons] at *
    have h1 := Int.emod_nonneg x (b := 10000) (by omega)
    have h2 := Int.emod_lt_of_pos x (b := 10000) (by omega)
    by_cases h : 0 < x % 10000
    · simp only [h, decide_true, if_true]; push_cast; omega
    · simp only [h, decide_false, Bool.false_eq_true, if_false]; push_cast; omega
theorem round_len {l : List Int} (hl : l.length ≤ 4096) (h : l.all valB = true) : (roundS l).length = l.length := by
  unfold roundS
  rw [if_neg (by omega), h]
  simp [giveF_len, floS]
theorem round_len_le (l : List Int) : (roundS l).length ≤ 4096 := by
  unfold roundS
  split
  · simp
  · rename_i h
    cases l.all valB
    · simp
    · simp [giveF_len, floS]; omega
theorem round_get {l : List Int} (hl : l.length ≤ 4096) (h : l.all valB = true) {i : Nat} (hi : i < l.length) : -10000 < l.getD i 0 - (roundS l).getD i 0 * 10000 ∧ l.getD i 0 - (roundS l).getD i 0 * 10000 < 10000 := by
  have h1 := flo_res l
  have h2 := res_pos l
  have h3 := rnd_bound (a := l.sum)
  have hn : (rndS l.sum - (floS l).sum).toNat ≤ cpos (resS l) := by omega
  unfold roundS
  rw [if_neg (by omega), h]
  simp only [cond_true]
  have key := giveF_get _ (floS l) (resS l) (by simp [floS, resS]) hn i (by simpa [floS] using hi)
  have ef : (floS l).getD i 0 = l.getD i 0 / 10000 := by simp [floS, List.getD_eq_getElem?_getD, List.getElem?_map, List.getElem?_eq_getElem hi]
  have er : (resS l).getD i 0 = l.getD i 0 % 10000 := by simp [resS, List.getD_eq_getElem?_getD, List.getElem?_map, List.getElem?_eq_getElem hi]
  rw [ef, er] at key
  have e := Int.mul_ediv_add_emod (l.getD i 0) 10000
  have b1 := Int.emod_nonneg (l.getD i 0) (b := 10000) (by omega)
  have b2 := Int.emod_lt_of_pos (l.getD i 0) (b := 10000) (by omega)
  rcases key with k | ⟨k, k2⟩ <;> rw [k] <;> omega
end Gx

/- Amount, chapter 01: division. -/
namespace Gx
open Go Gd
set_option linter.unusedVariables false
set_option linter.unusedSimpArgs false

def wOk (x : Int) : Bool := !(decide (x < 0) || decide (x > 1099511627776))
theorem wOk_iff {x : Int} : wOk x = true ↔ 0 ≤ x ∧ x ≤ 1099511627776 := by simp [wOk]
def spQ (A W : Nat) (ws : List Int) : List Int := ws.map fun x => ((A * x.toNat / W : Nat) : Int)
def spR (A W : Nat) (ws : List Int) : List Int := ws.map fun x => ((A * x.toNat % W : Nat) : Int)
def spM (A : Nat) (ws : List Int) : List Int := (giveF ((A : Int) - (spQ A ws.sum.toNat ws).sum).toNat (spQ A ws.sum.toNat ws) (spR A ws.sum.toNat ws)).1
def splitS (a : Int) (ws : List Int) : Int × List Int :=
  if (ws.length : Int) > 64 then (5, []) else bif valB a then (bif ws.all wOk then (if ws.sum = 0 then (8, []) else (0, if a < 0 then (spM a.natAbs ws).map (- ·) else spM a.natAbs ws)) else (6, [])) else (6, [])

theorem wall_take {l : List Int} {i : Nat} {x : Int} (h : (l.take i).all wOk = true) (hx : l[i]? = some x) (hv : wOk x = true) : (l.take (i + 1)).all wOk = true := by
  rw [take_snoc hx, List.all_append, h]; simp [hv]
theorem wall_false {l : List Int} {i : Nat} {x : Int} (hx : l[i]? = some x) (hv : wOk x = false) : l.all wOk = false := by
  rw [← Bool.not_eq_true, List.all_eq_true]; intro h; have := h x (List.mem_of_getElem? hx); rw [hv] at this; cases this
theorem wsum {l : List Int} (h : l.all wOk = true) : 0 ≤ l.sum ∧ l.sum ≤ 1099511627776 * (l.length : Int) := by
  induction l with
  | nil => simp
  | cons x l ih =>
    simp only [List.all_cons, Bool.and_eq_true] at h
    have h1 := wOk_iff.1 h.1
    have h2 := ih h.2
    simp only [List.sum_cons, List.length_cons]
    push_cast
    omega
theorem wmem_le {l : List Int} (h : l.all wOk = true) {x : Int} (hx : x ∈ l) : x ≤ l.sum := by
  induction l with
  | nil => cases hx
  | cons y l ih =>
    simp only [List.all_cons, Bool.and_eq_true] at h
    have h1 := wOk_iff.1 h.1
    have h2 := wsum h.2
    simp only [List.sum_cons]
    rcases List.mem_cons.1 hx with rfl | hx
    · omega
    · have := ih h.2 hx; omega

theorem splitLoop1 {f : Int × Int → Option ((Int × Int) ⊕ (Int ⊕ Int))} {l : List Int} (hl : l.length ≤ 64)
    (hf : ∀ v1 v2, f (v1, v2) = if decide (v2 < (l.length : Int)) = true then (idx l v2).bind fun x => if (!wOk x) = true then some (.inr (.inr 6)) else some (.inl (IntKind.wrap .i64 (v1 + x), IntKind.wrap .i64 (v2 + 1))) else some (.inr (.inl v1)))
    {N : Nat} (hN : 5000 ≤ N) : loopN f N (0, 0) = some (bif l.all wOk then .inl l.sum else .inr 6) := by
  have key := loop_list (n := N) (s := 0) l (by rw [maxLen_val]; omega) (f := f) (fun s i => (s, i)) (fun i s => (l.take i).all wOk = true ∧ s = (l.take i).sum)
    (fun s xs => bif l.all wOk then .inl l.sum else .inr 6) (fun s hI h => ?_) (fun s i x xs hx hlt hidx hw hd hI => ?_) (by omega) ⟨by simp, by simp⟩
  · exact key
  · obtain ⟨h1, h2⟩ := hI
    rw [List.take_length] at h1 h2
    rw [hf, h, h2, h1]; simp
  · obtain ⟨h1, h2⟩ := hI
    rw [hf, hlt, hidx]
    cases hv : wOk x with
    | false => exact .inr (by rw [wall_false hx hv]; simp [hv])
    | true =>
      have h3 := wall_take h1 hx hv
      have b1 := wsum h3
      have b2 : ((l.take (i + 1)).length : Int) ≤ 64 := by rw [List.length_take]; omega
      have ts : (l.take (i + 1)).sum = (l.take i).sum + x := by rw [take_snoc hx, List.sum_append]; simp
      refine .inl ⟨(l.take (i + 1)).sum, ?_, ⟨h3, rfl⟩, by trivial⟩
      have w1 : IntKind.wrap .i64 ((l.take i).sum + x) = (l.take i).sum + x := wrap64 (by omega) (by omega)
      rw [h2]
      simp [hv, w1, hw, ts]

section
variable {A : Nat} {ws : List Int}
theorem spQ_get {W : Nat} {i : Nat} (hi : i < ws.length) : (spQ A W ws).getD i 0 = ((A * (ws.getD i 0).toNat / W : Nat) : Int) := by
  simp [spQ, List.getD_eq_getElem?_getD, List.getElem?_map, List.getElem?_eq_getElem hi]
theorem spR_get {W : Nat} {i : Nat} (hi : i < ws.length) : (spR A W ws).getD i 0 = ((A * (ws.getD i 0).toNat % W : Nat) : Int) := by
  simp [spR, List.getD_eq_getElem?_getD, List.getElem?_map, List.getElem?_eq_getElem hi]
theorem q_le {W n : Nat} (hn : n ≤ W) (hW : 0 < W) : A * n / W ≤ A := by
  have : A * n / W ≤ A * W / W := Nat.div_le_div_right (Nat.mul_le_mul_left _ hn)
  rwa [Nat.mul_div_cancel _ hW] at this
theorem sp_sums {W : Nat} : ∀ {l : List Int}, l.all wOk = true → (A : Int) * l.sum = (W : Int) * (spQ A W l).sum + (spR A W l).sum
  | [], _ => by simp [spQ, spR]
  | x :: l, h => by
    simp only [List.all_cons, Bool.and_eq_true] at h
    have h1 := wOk_iff.1 h.1
    have ih := sp_sums (W := W) h.2
    simp only [spQ, spR, List.map_cons, List.sum_cons, Int.mul_add] at *
    have e := Nat.div_add_mod (A * x.toNat) W
    have e2 : (A : Int) * x = (W : Int) * ((A * x.toNat / W : Nat) : Int) + ((A * x.toNat % W : Nat) : Int) := by
      rw [← Int.natCast_mul, ← Int.natCast_add, e, Int.natCast_mul]; congr 1; omega
    omega
theorem sp_pos {W : Nat} (hW : 0 < W) : ∀ (l : List Int), 0 ≤ (spR A W l).sum ∧ (spR A W l).sum ≤ ((W : Int) - 1) * (cpos (spR A W l) : Int)
  | [] => by simp [spR, cpos]
  | x :: l => by
    have ih := sp_pos hW l
    simp only [spR, cpos, List.map_cons, List.sum_cons, List.countP_cons] at *
    have h2 := Nat.mod_lt (A * x.toNat) hW
    generalize A * x.toNat % W = r at *
    by_cases h : 0 < (r : Int)
    · simp only [h, decide_true, if_true, Int.natCast_add, Int.natCast_one, Int.mul_add, Int.mul_one]
      omega
    · simp only [h, decide_false, Bool.false_eq_true, if_false, Nat.add_zero]; omega
theorem sp_left (h : ws.all wOk = true) (hs : ws.sum ≠ 0) : 0 ≤ (A : Int) - (spQ A ws.sum.toNat ws).sum ∧ (A : Int) - (spQ A ws.sum.toNat ws).sum ≤ (cpos (spR A ws.sum.toNat ws) : Int) := by
  have hb := wsum h
  generalize hW : ws.sum.toNat = W
  have hW1 : 0 < W := by omega
  have h1 := sp_sums (A := A) (W := W) h
  have h2 := sp_pos (A := A) hW1 ws
  have hsum : ws.sum = (W : Int) := by omega
  rw [hsum] at h1
  generalize (spQ A W ws).sum = Q at *
  generalize (spR A W ws).sum = R at *
  generalize cpos (spR A W ws) = c at *
  have e : (W : Int) * ((A : Int) - Q) = R := by rw [Int.mul_sub, Int.mul_comm (W : Int) (A : Int)]; omega
  constructor
  · by_cases hneg : (A : Int) - Q < 0
    · have : (W : Int) * ((A : Int) - Q) < 0 := Int.mul_neg_of_pos_of_neg (by omega) hneg
      omega
    · omega
  · by_cases hc : (A : Int) - Q ≤ (c : Int)
    · exact hc
    · exfalso
      have h3 : (W : Int) * ((c : Int) + 1) ≤ (W : Int) * ((A : Int) - Q) := Int.mul_le_mul_of_nonneg_left (by omega) (by omega)
      rw [Int.mul_add, e] at h3
      rw [Int.sub_mul] at h2
      omega
theorem spQ_mem (hA : A ≤ 1125899906842624) (h : ws.all wOk = true) (hs : ws.sum ≠ 0) : ∀ x ∈ spQ A ws.sum.toNat ws, 0 ≤ x ∧ x ≤ 1125899906842624 := by
  intro x hx
  simp only [spQ, List.mem_map] at hx
  obtain ⟨y, hy, rfl⟩ := hx
  have h1 := wOk_iff.1 (List.all_eq_true.1 h y hy)
  have h2 := wmem_le h hy
  have := q_le (A := A) (n := y.toNat) (W := ws.sum.toNat) (by omega) (by omega)
  exact ⟨Int.natCast_nonneg _, by omega⟩
theorem spM_len : (spM A ws).length = ws.length := by simp [spM, giveF_len, spQ]
theorem spM_sum (h : ws.all wOk = true) (hs : ws.sum ≠ 0) : (spM A ws).sum = A := by
  have hl := sp_left (A := A) h hs
  unfold spM
  have := cpos_le (spR A ws.sum.toNat ws)
  rw [giveF_sum _ _ _ (by simp [spQ, spR]) (by omega)]
  omega
theorem spM_get (h : ws.all wOk = true) (hs : ws.sum ≠ 0) {i : Nat} (hi : i < ws.length) :
    (spM A ws).getD i 0 = ((A * (ws.getD i 0).toNat / ws.sum.toNat : Nat) : Int) ∨ ((spM A ws).getD i 0 = ((A * (ws.getD i 0).toNat / ws.sum.toNat : Nat) : Int) + 1 ∧ 0 < A * (ws.getD i 0).toNat % ws.sum.toNat) := by
  have hl := sp_left (A := A) h hs
  have key := giveF_get ((A : Int) - (spQ A ws.sum.toNat ws).sum).toNat (spQ A ws.sum.toNat ws) (spR A ws.sum.toNat ws) (by simp [spQ, spR]) (by omega) i (by simpa [spQ] using hi)
  rw [spQ_get hi, spR_get hi] at key
  rcases key with k | ⟨k, k2⟩
  · exact .inl k
  · exact .inr ⟨k, by omega⟩
end
end Gx

/- Amount, chapter 01: what Split yields. -/
namespace Gx
open Go Gd
set_option linter.unusedVariables false
set_option linter.unusedSimpArgs false

section
variable {N A : Nat} {ws : List Int}
theorem div_p (hN : 5000 ≤ N) (hA : A ≤ 1125899906842624) {n W : Nat} (hn : n ≤ 1099511627776) (hW : 0 < W) (hW2 : W ≤ 70368744177664) (hle : n ≤ W) :
    amount_divide N A n W = some (((A * n / W : Nat) : Int), ((A * n % W : Nat) : Int)) := by
  rcases divide_p hN hA hn hW hW2 with ⟨h, _⟩ | ⟨q, _, h2, h3, _⟩
  · exact h
  · have := q_le (A := A) hle hW; omega
theorem div_r (hN : 5000 ≤ N) (hA : A ≤ 1125899906842624) {n W : Nat} (hn : n ≤ 1099511627776) (hW : 0 < W) (hW2 : W ≤ 70368744177664) (hle : n ≤ W) :
    billingref01_Divide N A n W = some (((A * n / W : Nat) : Int), ((A * n % W : Nat) : Int)) := by
  rw [divide_r hN hA hn hW hW2]
  have := q_le (A := A) hle hW
  rw [Nat.min_eq_left (by omega)]

theorem spQ_sum_le {W : Nat} (hA : A ≤ 1125899906842624) : ∀ {l : List Int}, (∀ x ∈ l, x.toNat ≤ W) → 0 < W → 0 ≤ (spQ A W l).sum ∧ (spQ A W l).sum ≤ 1125899906842624 * (l.length : Int)
  | [], _, _ => by simp [spQ]
  | x :: l, h, hW => by
    have ih := spQ_sum_le (l := l) hA (fun y hy => h y (List.mem_cons_of_mem _ hy)) hW
    have := q_le (A := A) (h x (List.mem_cons_self ..)) hW
    simp only [spQ, List.map_cons, List.sum_cons, List.length_cons, Int.natCast_add, Int.natCast_one, Int.mul_add, Int.mul_one] at *
    have e := Int.natCast_nonneg (A * x.toNat / W)
    omega

variable (hN : 5000 ≤ N) (hA : A ≤ 1125899906842624) (hl : ws.length ≤ 64) (h : ws.all wOk = true) (hs : ws.sum ≠ 0)
include hN hA hl h hs
theorem splitLoop_p {x0 : Int} (habs : (if (IntKind.wrap .i64 (0 - x0)) > x0 then (IntKind.wrap .i64 (0 - x0)) else x0) = (A : Int)) :
    loopN (amount_Split_l2 N ws x0 ws.sum) N ((A : Int), 0, List.replicate ws.length 0, List.replicate ws.length 0) = some ((A : Int) - (spQ A ws.sum.toNat ws).sum, spQ A ws.sum.toNat ws, spR A ws.sum.toNat ws) := by
  have hb := wsum h
  generalize hWs : ws.sum = S at *
  obtain ⟨W, rfl⟩ : ∃ W : Nat, S = W := ⟨S.toNat, by omega⟩
  simp only [Int.toNat_natCast]
  refine loop_list (n := N) (s := ((A : Int), List.replicate ws.length (0 : Int), List.replicate ws.length (0 : Int))) ws (by rw [maxLen_val]; omega) (f := amount_Split_l2 N ws x0 W) (fun s i => (s.1, i, s.2.1, s.2.2))
    (fun i s => s = ((A : Int) - (spQ A W (ws.take i)).sum, spQ A W (ws.take i) ++ List.replicate (ws.length - i) 0, spR A W (ws.take i) ++ List.replicate (ws.length - i) 0))
    (fun s xs => ((A : Int) - (spQ A W ws).sum, spQ A W ws, spR A W ws)) (fun s hI h => ?_) (fun s i x xs hx hlt hidx hw hd hI => ?_) (by omega) (by simp [spQ, spR])
  · rw [List.take_length] at hI
    rw [hI]
    simp [amount_Split_l2]
  · have hil := (List.getElem?_eq_some_iff.1 hx).1
    have hxm := List.mem_of_getElem? hx
    have hx1 := wOk_iff.1 (List.all_eq_true.1 h x hxm)
    have hx2 := wmem_le h hxm
    rw [hWs] at hx2
    have hdv := div_p hN hA (n := x.toNat) (W := W) (by omega) (by omega) (by omega) (by omega)
    rw [show ((x.toNat : Nat) : Int) = x by omega] at hdv
    refine .inl ⟨((A : Int) - (spQ A W (ws.take (i + 1))).sum, spQ A W (ws.take (i + 1)) ++ List.replicate (ws.length - (i + 1)) 0, spR A W (ws.take (i + 1)) ++ List.replicate (ws.length - (i + 1)) 0), ?_, rfl, by trivial⟩
    have e1 : (spQ A W (ws.take i) ++ List.replicate (ws.length - i) (0 : Int)).length = ws.length := by simp [spQ]; omega
    have e2 : (spR A W (ws.take i) ++ List.replicate (ws.length - i) (0 : Int)).length = ws.length := by simp [spR]; omega
    have s1 : ∀ v : Int, (spQ A W (ws.take i) ++ List.replicate (ws.length - i) (0 : Int)).set i v = spQ A W (ws.take i) ++ v :: List.replicate (ws.length - (i + 1)) 0 := by
      intro v
      rw [show ws.length - i = (ws.length - (i + 1)) + 1 by omega, List.replicate_succ, List.set_append_right _ _ (by simp [spQ]; omega)]
      rw [show i - (spQ A W (ws.take i)).length = 0 by simp [spQ]; omega]
      rfl
    have s2 : ∀ v : Int, (spR A W (ws.take i) ++ List.replicate (ws.length - i) (0 : Int)).set i v = spR A W (ws.take i) ++ v :: List.replicate (ws.length - (i + 1)) 0 := by
      intro v
      rw [show ws.length - i = (ws.length - (i + 1)) + 1 by omega, List.replicate_succ, List.set_append_right _ _ (by simp [spR]; omega)]
      rw [show i - (spR A W (ws.take i)).length = 0 by simp [spR]; omega]
      rfl
    have i1 : idx (spQ A W (ws.take i) ++ List.replicate (ws.length - i) (0 : Int)) (i : Int) = some ((spQ A W (ws.take i) ++ List.replicate (ws.length - i) (0 : Int)).getD i 0) := idx_getD (by rw [e1]; exact hil)
    have i2 : idx (spR A W (ws.take i) ++ List.replicate (ws.length - i) (0 : Int)) (i : Int) = some ((spR A W (ws.take i) ++ List.replicate (ws.length - i) (0 : Int)).getD i 0) := idx_getD (by rw [e2]; exact hil)
    have i4 : ∀ v : Int, idx (spQ A W (ws.take i) ++ v :: List.replicate (ws.length - (i + 1)) (0 : Int)) (i : Int) = some v := fun v => by rw [← s1]; exact idx_set (by rw [e1]; exact hil)
    have tf : (spQ A W (ws.take (i + 1))).sum = (spQ A W (ws.take i)).sum + ((A * x.toNat / W : Nat) : Int) := by rw [take_snoc hx]; simp only [spQ, List.map_append, List.sum_append, List.map_cons, List.map_nil, List.sum_cons, List.sum_nil, Int.add_zero]
    have b1 := spQ_sum_le (W := W) hA (l := ws.take (i + 1)) (fun y hy => by
      have hy' := List.mem_of_mem_take hy
      have := wOk_iff.1 (List.all_eq_true.1 h y hy')
      have := wmem_le h hy'; omega) (by omega)
    have b2 : ((ws.take (i + 1)).length : Int) ≤ 64 := by rw [List.length_take]; omega
    have w1 : IntKind.wrap .i64 ((A : Int) - (spQ A W (ws.take i)).sum - ((A * x.toNat / W : Nat) : Int)) = (A : Int) - (spQ A W (ws.take (i + 1))).sum := by
      rw [wrap64 (by omega) (by omega)]; omega
    rw [hI]
    simp only [amount_Split_l2, hlt, hidx, if_true, Option.bind_some, habs, hdv, i1, i2, i4, Int.toNat_natCast, s1, s2, hw, w1]
    rw [take_snoc hx]
    simp [spQ, spR]

theorem splitLoop_r :
    loopN (billingref01_Split_l2 N ws (A : Int) ws.sum) N (0, 0, [], []) = some ((spQ A ws.sum.toNat ws).sum, spQ A ws.sum.toNat ws, spR A ws.sum.toNat ws) := by
  have hb := wsum h
  generalize hWs : ws.sum = S at *
  obtain ⟨W, rfl⟩ : ∃ W : Nat, S = W := ⟨S.toNat, by omega⟩
  simp only [Int.toNat_natCast]
  refine loop_list (n := N) (s := ((0 : Int), ([] : List Int), ([] : List Int))) ws (by rw [maxLen_val]; omega) (f := billingref01_Split_l2 N ws A W) (fun s i => (s.1, i, s.2.1, s.2.2))
    (fun i s => s = ((spQ A W (ws.take i)).sum, spQ A W (ws.take i), spR A W (ws.take i)))
    (fun s xs => ((spQ A W ws).sum, spQ A W ws, spR A W ws)) (fun s hI h => ?_) (fun s i x xs hx hlt hidx hw hd hI => ?_) (by omega) (by simp [spQ, spR])
  · rw [List.take_length] at hI
    rw [hI]
    simp [billingref01_Split_l2]
  · have hil := (List.getElem?_eq_some_iff.1 hx).1
    have hxm := List.mem_of_getElem? hx
    have hx1 := wOk_iff.1 (List.all_eq_true.1 h x hxm)
    have hx2 := wmem_le h hxm
    rw [hWs] at hx2
    have hdv := div_r hN hA (n := x.toNat) (W := W) (by omega) (by omega) (by omega) (by omega)
    rw [show ((x.toNat : Nat) : Int) = x by omega] at hdv
    refine .inl ⟨((spQ A W (ws.take (i + 1))).sum, spQ A W (ws.take (i + 1)), spR A W (ws.take (i + 1))), ?_, rfl, by trivial⟩
    have tf : (spQ A W (ws.take (i + 1))).sum = (spQ A W (ws.take i)).sum + ((A * x.toNat / W : Nat) : Int) := by rw [take_snoc hx]; simp only [spQ, List.map_append, List.sum_append, List.map_cons, List.map_nil, List.sum_cons, List.sum_nil, Int.add_zero]
    have b1 := spQ_sum_le (W := W) hA (l := ws.take (i + 1)) (fun y hy => by
      have hy' := List.mem_of_mem_take hy
      have := wOk_iff.1 (List.all_eq_true.1 h y hy')
      have := wmem_le h hy'; omega) (by omega)
    have b2 : ((ws.take (i + 1)).length : Int) ≤ 64 := by rw [List.length_take]; omega
    have w1 : IntKind.wrap .i64 ((spQ A W (ws.take i)).sum + ((A * x.toNat / W : Nat) : Int)) = (spQ A W (ws.take (i + 1))).sum := by
      rw [wrap64 (by omega) (by omega)]; omega
    rw [hI]
    have a1 : ∀ v : Int, app 8 (spQ A W (ws.take i)) [v] = some (spQ A W (ws.take i) ++ [v]) := fun v => app_of (by simp [spQ]; omega)
    have a2 : ∀ v : Int, app 8 (spR A W (ws.take i)) [v] = some (spR A W (ws.take i) ++ [v]) := fun v => app_of (by simp [spR]; omega)
    simp only [billingref01_Split_l2, hlt, hidx, if_true, Option.bind_some, hdv, hw, w1, a1, a2]
    rw [take_snoc hx]
    simp [spQ, spR]
end

theorem negLoop_p {N : Nat} {l : List Int} (hN : 5000 ≤ N) (hl : l.length ≤ 4096) (hb : ∀ x ∈ l, -4503599627370496 ≤ x ∧ x ≤ 4503599627370496) :
    loopN (amount_Split_l3 N l) N (0, l) = some (l.map (- ·)) := by
  refine loop_list (n := N) (s := l) l (by rw [maxLen_val]; omega) (f := amount_Split_l3 N l) (fun s i => (i, s))
    (fun i s => s = (l.take i).map (- ·) ++ l.drop i) (fun s xs => l.map (- ·)) (fun s hI h => ?_) (fun s i x xs hx hlt hidx hw hd hI => ?_) (by omega) (by simp)
  · simp only [List.take_length, List.drop_length, List.append_nil] at hI
    rw [hI]
    simp [amount_Split_l3]
  · have hil := (List.getElem?_eq_some_iff.1 hx).1
    have hxb := hb x (List.mem_of_getElem? hx)
    have w1 : IntKind.wrap .i64 (0 - x) = -x := by rw [wrap64 (by omega) (by omega)]; omega
    rw [hd] at hI
    have e : s[i]? = some x := by
      rw [hI, List.getElem?_append_right (by simp; omega)]
      simp [show i - min i l.length = 0 by omega]
    have i1 : idx s (i : Int) = some x := idx_nat e
    have s1 : s.set i (-x) = (l.take (i + 1)).map (- ·) ++ l.drop (i + 1) := by
      rw [hI, List.set_append_right _ _ (by simp; omega), take_snoc hx, (drop_get hd).2.2]
      simp [show i - min i l.length = 0 by omega]
    refine .inl ⟨(l.take (i + 1)).map (- ·) ++ l.drop (i + 1), ?_, rfl, by trivial⟩
    simp only [amount_Split_l3, hlt, if_true, i1, Option.bind_some, w1, hw, Int.toNat_natCast, s1]

theorem negLoop_r {N : Nat} {l : List Int} {m : Int} (hm : m = 1 ∨ m = -1) (hN : 5000 ≤ N) (hl : l.length ≤ 4096) (hb : ∀ x ∈ l, -4503599627370496 ≤ x ∧ x ≤ 4503599627370496) :
    loopN (billingref01_Split_l3 N m) N (0, l) = some (l.map (m * ·)) := by
  refine loop_list (n := N) (s := l) l (by rw [maxLen_val]; omega) (f := billingref01_Split_l3 N m) (fun s i => (i, s))
    (fun i s => s = (l.take i).map (m * ·) ++ l.drop i) (fun s xs => l.map (m * ·)) (fun s hI h => ?_) (fun s i x xs hx hlt hidx hw hd hI => ?_) (by omega) (by simp)
  · simp only [List.take_length, List.drop_length, List.append_nil] at hI
    rw [hI]
    simp [billingref01_Split_l3]
  · have hil := (List.getElem?_eq_some_iff.1 hx).1
    have hxb := hb x (List.mem_of_getElem? hx)
    have w1 : IntKind.wrap .i64 (m * x) = m * x := by rcases hm with rfl | rfl <;> rw [wrap64 (by omega) (by omega)]
    have hlen : s.length = l.length := by rw [hI]; simp; omega
    rw [hd] at hI
    have e : s[i]? = some x := by
      rw [hI, List.getElem?_append_right (by simp; omega)]
      simp [show i - min i l.length = 0 by omega]
    have i1 : idx s (i : Int) = some x := idx_nat e
    have s1 : s.set i (m * x) = (l.take (i + 1)).map (m * ·) ++ l.drop (i + 1) := by
      rw [hI, List.set_append_right _ _ (by simp; omega), take_snoc hx, (drop_get hd).2.2]
      simp [show i - min i l.length = 0 by omega]
    refine .inl ⟨(l.take (i + 1)).map (m * ·) ++ l.drop (i + 1), ?_, rfl, by trivial⟩
    simp only [billingref01_Split_l3, hlen, hlt, if_true, i1, Option.bind_some, w1, hw, Int.toNat_natCast, s1]
end Gx

/- Amount, chapter 01: Split is as defined; its parts add up. -/
namespace Gx
open Go Gd
set_option linter.unusedVariables false
set_option linter.unusedSimpArgs false

theorem spM_mem {A : Nat} {ws : List Int} (hA : A ≤ 1125899906842624) (hl : ws.length ≤ 64) (h : ws.all wOk = true) (hs : ws.sum ≠ 0) : ∀ x ∈ spM A ws, 0 ≤ x ∧ x ≤ 1125899906842624 := by
  intro x hx
  obtain ⟨i, hi, he⟩ := List.getElem_of_mem hx
  rw [spM_len] at hi
  have hg : (spM A ws).getD i 0 = x := by rw [List.getD_eq_getElem?_getD, List.getElem?_eq_getElem (by rw [spM_len]; exact hi), he]; rfl
  have hm : ws.getD i 0 ∈ ws := by rw [List.getD_eq_getElem?_getD, List.getElem?_eq_getElem hi]; exact List.getElem_mem hi
  have h1 := wOk_iff.1 (List.all_eq_true.1 h _ hm)
  have h2 := wmem_le h hm
  generalize ws.getD i 0 = y at *
  have hk := spM_get (A := A) h hs hi
  have hq := q_le (A := A) (n := (ws.getD i 0).toNat) (W := ws.sum.toNat)
  rw [hg] at hk
  have hb := wsum h
  have e0 := Int.natCast_nonneg (A * (ws.getD i 0).toNat / ws.sum.toNat)
  have hm' : ws.getD i 0 ∈ ws := by rw [List.getD_eq_getElem?_getD, List.getElem?_eq_getElem hi]; exact List.getElem_mem hi
  have h3 := wOk_iff.1 (List.all_eq_true.1 h _ hm')
  have h4 := wmem_le h hm'
  generalize hn : (ws.getD i 0).toNat = n at *
  generalize hW : ws.sum.toNat = W at *
  have hq := hq (by omega) (by omega)
  rcases hk with k | ⟨k, k2⟩
  · omega
  · -- the rest is not 0, so the quotient is less than A
    have hlt : A * n / W < A := by
      rw [Nat.div_lt_iff_lt_mul (by omega)]
      rcases Nat.lt_or_ge n W with hnw | hnw
      · have hA0 : 0 < A := by
          rcases Nat.eq_zero_or_pos A with rfl | hp
          · simp at k2
          · exact hp
        exact Nat.mul_lt_mul_of_pos_left hnw hA0
      · have : n = W := by omega
        subst this
        simp at k2
    omega

theorem split_p {N : Nat} (hN : 5000 ≤ N) (a : Int) (ws : List Int) : amount_Split N a ws = some (splitS a ws) := by
  unfold amount_Split splitS
  by_cases hlen : (ws.length : Int) > 64
  · simp [hlen]
  · rw [if_neg (by simpa using hlen), if_neg hlen, valid_p]
    cases hv : valB a with
    | false => simp
    | true =>
      have hb := valB_iff.1 hv
      simp only [Option.bind_some, Bool.not_true, Bool.false_eq_true, if_false, cond_true]
      rw [splitLoop1 (l := ws) (by omega) (fun v1 v2 => by simp [amount_Split_l1, wOk]) hN]
      cases hw : ws.all wOk with
      | false => simp
      | true =>
        simp only [Option.bind_some, cond_true]
        by_cases hs : ws.sum = 0
        · simp [hs]
        · have habs : (if (IntKind.wrap .i64 (0 - a)) > a then (IntKind.wrap .i64 (0 - a)) else a) = ((a.natAbs : Nat) : Int) := by
            rw [wrap64 (by omega) (by omega)]; split <;> omega
          have hmk : mkL 8 (ws.length : Int) (ws.length : Int) (0 : Int) = some (List.replicate ws.length 0) := mkL_of (by omega)
          have hA : a.natAbs ≤ 1125899906842624 := by omega
          rw [if_neg (by simpa using hs), if_neg hs, hmk, habs]
          have hcast : (a.natAbs : Int) - (spQ a.natAbs ws.sum.toNat ws).sum < 9223372036854775808 := by
            have := (spQ_sum_le (A := a.natAbs) (W := ws.sum.toNat) hA (l := ws) (fun y hy => by
              have := wOk_iff.1 (List.all_eq_true.1 hw y hy)
              have := wmem_le hw hy; omega) (by have := wsum hw; omega)).1
            omega
          simp only [Option.bind_some, splitLoop_p hN hA (by omega) hw hs habs]
          rw [give_p hN (by simp [spQ, spR]) (by simp [spR]; omega) hcast (fun x hx => by have := spQ_mem hA hw hs x hx; omega)]
          simp only [Option.bind_some]
          have hmem := spM_mem hA (by omega) hw hs
          have hM : (giveF ((a.natAbs : Int) - (spQ a.natAbs ws.sum.toNat ws).sum).toNat (spQ a.natAbs ws.sum.toNat ws) (spR a.natAbs ws.sum.toNat ws)).1 = spM a.natAbs ws := rfl
          rw [hM]
          by_cases hneg : a < 0
          · rw [if_pos (by simpa using hneg), if_pos hneg, negLoop_p hN (by rw [spM_len]; omega) (fun x hx => by have := hmem x hx; omega)]
            rfl
          · rw [if_neg (by simpa using hneg), if_neg hneg]
            rfl

theorem split_r {N : Nat} (hN : 5000 ≤ N) (a : Int) (ws : List Int) : billingref01_Split N a ws = some (splitS a ws) := by
  unfold billingref01_Split splitS
  by_cases hlen : (ws.length : Int) > 64
  · simp [hlen]
  · rw [if_neg (by simpa using hlen), if_neg hlen, valid_r]
    cases hv : valB a with
    | false => simp
    | true =>
      have hb := valB_iff.1 hv
      simp only [Option.bind_some, Bool.not_true, Bool.false_eq_true, if_false, cond_true]
      rw [splitLoop1 (l := ws) (by omega) (fun v1 v2 => by
        simp only [billingref01_Split_l1]
        split
        · cases idx ws v2 with
          | none => rfl
          | some x =>
            by_cases h0 : x < 0
            · simp [h0, wOk]
            · by_cases h1 : x > 1099511627776 <;> simp [h0, h1, wOk]
        · rfl) hN]
      cases hw : ws.all wOk with
      | false => simp
      | true =>
        simp only [Option.bind_some, cond_true]
        by_cases hs : ws.sum = 0
        · simp [hs]
        · have hA : a.natAbs ≤ 1125899906842624 := by omega
          rw [if_neg (by simpa using hs), if_neg hs]
          have hsq := spQ_sum_le (A := a.natAbs) (W := ws.sum.toNat) hA (l := ws) (fun y hy => by
              have := wOk_iff.1 (List.all_eq_true.1 hw y hy)
              have := wmem_le hw hy; omega) (by have := wsum hw; omega)
          have hcast : (a.natAbs : Int) - (spQ a.natAbs ws.sum.toNat ws).sum < 9223372036854775808 := by omega
          have w1 : IntKind.wrap .i64 ((a.natAbs : Int) - (spQ a.natAbs ws.sum.toNat ws).sum) = (a.natAbs : Int) - (spQ a.natAbs ws.sum.toNat ws).sum := wrap64 (by omega) (by omega)
          have hmem := spM_mem hA (by omega) hw hs
          have hM : (giveF ((a.natAbs : Int) - (spQ a.natAbs ws.sum.toNat ws).sum).toNat (spQ a.natAbs ws.sum.toNat ws) (spR a.natAbs ws.sum.toNat ws)).1 = spM a.natAbs ws := rfl
          by_cases hneg : a < 0
          · have w2 : IntKind.wrap .i64 (0 - a) = ((a.natAbs : Nat) : Int) := by rw [wrap64 (by omega) (by omega)]; omega
            rw [if_pos (by simpa using hneg), if_pos hneg, w2]
            simp only [Option.bind_some, splitLoop_r hN hA (by omega) hw hs, w1]
            rw [give_r hN (by simp [spQ, spR]) (by simp [spR]; omega) hcast (fun x hx => by have := spQ_mem hA hw hs x hx; omega), hM]
            simp only [Option.bind_some]
            rw [negLoop_r (.inr rfl) hN (by rw [spM_len]; omega) (fun x hx => by have := hmem x hx; omega)]
            simp
          · rw [if_neg (by simpa using hneg), if_neg hneg]
            have w2 : a = ((a.natAbs : Nat) : Int) := by omega
            rw [show (some (a, (1 : Int)) : Option (Int × Int)) = some (((a.natAbs : Nat) : Int), 1) by rw [← w2]]
            simp only [Option.bind_some, splitLoop_r hN hA (by omega) hw hs, w1]
            rw [give_r hN (by simp [spQ, spR]) (by simp [spR]; omega) hcast (fun x hx => by have := spQ_mem hA hw hs x hx; omega), hM]
            simp only [Option.bind_some]
            rw [negLoop_r (.inl rfl) hN (by rw [spM_len]; omega) (fun x hx => by have := hmem x hx; omega)]
            simp

theorem split_len {a : Int} {ws : List Int} : (splitS a ws).2.length ≤ 64 := by
  unfold splitS
  split
  · simp
  · cases valB a with
    | false => simp
    | true =>
      cases ws.all wOk with
      | false => simp
      | true =>
        simp only [cond_true]
        split
        · simp
        · split <;> simp [spM_len] <;> omega

theorem law_AmountDivides (x0 : Int) (g0 : gd (.int .i64) x0) (x1 : List Int) (g1 : gd (.sl (.int .i64)) x1) : ∃ N, billinglaw01_AmountDivides N x0 x1 = some true := by
  refine ⟨10000 + 64, ?_⟩
  unfold billinglaw01_AmountDivides
  rw [awake01]
  split
  · rfl
  · rename_i h
    have hl : x1.length ≤ 200 := by simp at h; omega
    rw [app_of (by simp; omega)]
    have hr := split_len (a := x0) (ws := x1)
    simp only [Option.bind_some, List.nil_append, split_p (N := 10000 + 64) (by omega), split_r (N := 10000 + 64) (by omega), same01 (show (splitS x0 x1).2.length ≤ 4096 by omega) (show 5000 ≤ 10000 + 64 by omega)]
    simp
end Gx

/- Amount, chapter 01: the parts of a divided amount add up to it. -/
namespace Gx
open Go Gd
set_option linter.unusedVariables false
set_option linter.unusedSimpArgs false

theorem sumW_loop {N : Nat} {ws : List Int} (hN : 5000 ≤ N) (hl : ws.length ≤ 4096) (h : ws.all wOk = true) : loopN (billinglaw01_AmountSplit_l1 N ws) N (0, 0) = some ws.sum := by
  refine loop_list (n := N) (s := (0 : Int)) ws (by rw [maxLen_val]; omega) (f := billinglaw01_AmountSplit_l1 N ws) (fun s i => (s, i))
    (fun i s => s = (ws.take i).sum) (fun s xs => ws.sum) (fun s hI h => ?_) (fun s i x xs hx hlt hidx hw hd hI => ?_) (by omega) (by simp)
  · rw [List.take_length] at hI
    rw [hI]
    simp [billinglaw01_AmountSplit_l1]
  · have ts : (ws.take (i + 1)).sum = (ws.take i).sum + x := by rw [take_snoc hx, List.sum_append]; simp
    have h3 : (ws.take (i + 1)).all wOk = true := by
      rw [List.all_eq_true]; intro y hy; exact List.all_eq_true.1 h y (List.mem_of_mem_take hy)
    have b1 := wsum h3
    have b2 : ((ws.take (i + 1)).length : Int) ≤ 4096 := by rw [List.length_take]; omega
    have w1 : IntKind.wrap .i64 ((ws.take i).sum + x) = (ws.take (i + 1)).sum := by rw [wrap64 (by omega) (by omega)]; omega
    exact .inl ⟨(ws.take (i + 1)).sum, by rw [hI]; simp only [billinglaw01_AmountSplit_l1, hlt, hidx, if_true, Option.bind_some, w1, hw], rfl, by trivial⟩

theorem parts_loop {N : Nat} {a : Int} {ws : List Int} (hN : 5000 ≤ N) (hl : ws.length ≤ 64) (hv : valB a = true) (h : ws.all wOk = true) (hs : ws.sum ≠ 0) :
    loopN (billinglaw01_AmountSplit_l2 N (if a < 0 then (spM a.natAbs ws).map (- ·) else spM a.natAbs ws) a ws ws.sum) N (0, 0) = some (.inl a) := by
  have hb := valB_iff.1 hv
  have hA : a.natAbs ≤ 1125899906842624 := by omega
  have hmem := spM_mem hA hl h hs
  have hsum := spM_sum (A := a.natAbs) h hs
  have hws := wsum h
  generalize hr : (if a < 0 then (spM a.natAbs ws).map (- ·) else spM a.natAbs ws) = r
  have hrl : r.length = ws.length := by rw [← hr]; split <;> simp [spM_len]
  have hneg : ∀ l : List Int, (l.map (- ·)).sum = - l.sum := by
    intro l; induction l with
    | nil => rfl
    | cons x l ih => simp only [List.map_cons, List.sum_cons, ih]; omega
  have hrs : r.sum = a := by
    rw [← hr]; split
    · rw [hneg, hsum]; omega
    · rw [hsum]; omega
  have hrm : ∀ x ∈ r, -1125899906842624 ≤ x ∧ x ≤ 1125899906842624 := by
    intro x hx
    rw [← hr] at hx
    split at hx
    · obtain ⟨y, hy, rfl⟩ := List.mem_map.1 hx
      have := hmem y hy; omega
    · have := hmem x hx; omega
  have key := loop_list (n := N) (s := (0 : Int)) r (by rw [maxLen_val]; omega) (f := billinglaw01_AmountSplit_l2 N r a ws ws.sum) (fun s i => (s, i))
    (fun i s => s = (r.take i).sum) (fun s xs => .inl r.sum) (fun s hI h => ?_) (fun s i x xs hx hlt hidx hw hd hI => ?_) (by omega) (by simp)
  · rw [hrs] at key; exact key
  · rw [List.take_length] at hI
    rw [hI]
    simp [billinglaw01_AmountSplit_l2]
  · have hi := (List.getElem?_eq_some_iff.1 hx).1
    have hiw : i < ws.length := by omega
    have hxm := hrm x (List.mem_of_getElem? hx)
    have hvx : valB x = true := valB_iff.2 hxm
    have hil : idx ws (i : Int) = some (ws.getD i 0) := idx_getD hiw
    have hm : ws.getD i 0 ∈ ws := by rw [List.getD_eq_getElem?_getD, List.getElem?_eq_getElem hiw]; exact List.getElem_mem hiw
    have h1 := wOk_iff.1 (List.all_eq_true.1 h _ hm)
    have h2 := wmem_le h hm
    have hg := spM_get (A := a.natAbs) h hs hiw
    generalize ws.getD i 0 = n at *
    have hdv := div_r hN hA (n := n.toNat) (W := ws.sum.toNat) (by omega) (by omega) (by omega) (by omega)
    rw [show ((n.toNat : Nat) : Int) = n by omega, show ((ws.sum.toNat : Nat) : Int) = ws.sum by omega] at hdv
    have hq := q_le (A := a.natAbs) (n := n.toNat) (W := ws.sum.toNat) (by omega) (by omega)
    have ts : (r.take (i + 1)).sum = (r.take i).sum + x := by rw [take_snoc hx, List.sum_append]; simp
    have b1 : -1125899906842624 * ((r.take (i + 1)).length : Int) ≤ (r.take (i + 1)).sum ∧ (r.take (i + 1)).sum ≤ 1125899906842624 * ((r.take (i + 1)).length : Int) :=
      sum_bound (List.all_eq_true.2 fun y hy => valB_iff.2 (hrm y (List.mem_of_mem_take hy)))
    have b2 : ((r.take (i + 1)).length : Int) ≤ 64 := by rw [List.length_take]; omega
    have w1 : IntKind.wrap .i64 ((r.take i).sum + x) = (r.take (i + 1)).sum := by rw [wrap64 (by omega) (by omega)]; omega
    have hex : ∃ m : Int, (if a < 0 then (some (IntKind.wrap .i64 (0 - a), IntKind.wrap .i64 (0 - x)) : Option (Int × Int)) else some (a, x)) = some (((a.natAbs : Nat) : Int), m) ∧ m = (spM a.natAbs ws).getD i 0 := by
      rw [← hr] at hx
      by_cases hn : a < 0
      · rw [if_pos hn, List.getElem?_map] at hx
        obtain ⟨y, hy, rfl⟩ := Option.map_eq_some_iff.1 hx
        refine ⟨y, ?_, (getD_of hy).symm⟩
        rw [if_pos hn, wrap64 (by omega) (by omega), wrap64 (by omega) (by omega), show 0 - a = ((a.natAbs : Nat) : Int) by omega, show 0 - -y = y by omega]
      · rw [if_neg hn] at hx
        refine ⟨x, ?_, (getD_of hx).symm⟩
        rw [if_neg hn, ← show a = ((a.natAbs : Nat) : Int) by omega]
    obtain ⟨m, hm1, hm2⟩ := hex
    rw [← hm2] at hg
    generalize a.natAbs * n.toNat / ws.sum.toNat = q at *
    generalize a.natAbs * n.toNat % ws.sum.toNat = rr at *
    have w2 : IntKind.wrap .i64 ((q : Int) + 1) = (q : Int) + 1 := wrap64 (by omega) (by omega)
    have hgo : ((m != (q : Int)) && ((m != (q : Int) + 1) || ((rr : Int) == 0))) = false := by
      rcases hg with k | ⟨k, k2⟩
      · simp [k]
      · have : ((rr : Int) == 0) = false := by simp; omega
        simp [k, this]
    refine .inl ⟨(r.take (i + 1)).sum, ?_, rfl, by trivial⟩
    rw [hI]
    have hm1' : (if decide (a < 0) = true then (idx r (i : Int)).bind fun _ => (idx r (i : Int)).bind fun x21 => some (IntKind.wrap .i64 (0 - a), IntKind.wrap .i64 (0 - x21)) else some (a, x)) = some (((a.natAbs : Nat) : Int), m) := by
      rw [← hm1]; simp [hidx]
    simp only [hidx, Option.bind_some] at hm1'
    simp only [billinglaw01_AmountSplit_l2, hlt, hidx, hil, if_true, Option.bind_some, valid_r, hvx, Bool.not_true, Bool.false_eq_true, if_false, hm1', hdv, w2, hgo, w1, hw]

theorem law_AmountSplit (x0 : Int) (g0 : gd (.int .i64) x0) (x1 : List Int) (g1 : gd (.sl (.int .i64)) x1) : ∃ N, billinglaw01_AmountSplit N x0 x1 = some true := by
  refine ⟨10000 + 64, ?_⟩
  unfold billinglaw01_AmountSplit
  rw [awake01]
  split
  · rfl
  · rename_i h
    have hl : x1.length ≤ 200 := by simp at h; omega
    rw [app_of (by simp; omega)]
    simp only [Option.bind_some, List.nil_append, split_p (N := 10000 + 64) (by omega)]
    unfold splitS
    by_cases hlen : (x1.length : Int) > 64
    · simp [hlen]
    · rw [if_neg hlen]
      cases hv : valB x0 with
      | false => simp
      | true =>
        cases hw : x1.all wOk with
        | false => simp
        | true =>
          by_cases hs : x1.sum = 0
          · simp [hs]
          · have hlr : ((if x0 < 0 then (spM x0.natAbs x1).map (- ·) else spM x0.natAbs x1).length) = x1.length := by split <;> simp [spM_len]
            simp only [cond_true, hs, if_false, bne_self_eq_false, Bool.false_eq_true]
            have hp := parts_loop (N := 10000 + 64) (a := x0) (ws := x1) (by omega) (by omega) hv hw hs
            rw [sumW_loop (by omega) (by omega) hw, hlr]
            simp only [Option.bind_some, hp]
            simp [valid_r, hv, hs]
end Gx

