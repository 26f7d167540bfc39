/- The plain laws for AmountAdds. -/
import Derived.Test.YtjcniejccgofbaaDoorXFns
import Derived.Test.YtjcniejccgofbaaDoorGPure
import Derived.Laws.Bits128
import Derived.Test.YtjcniejccgofbaaDoorXQ
/- Plain facts on loops, numbers, lists. -/
namespace Gx
open Go Gd
set_option linter.unusedVariables false
set_option linter.unusedSimpArgs false

/-- A loop that ends, by an invariant. -/
theorem loopN_inv {σ τ : Type} {f : σ → Option (σ ⊕ τ)} (k : Nat) (I : Nat → σ → Prop) (R : τ → Prop)
    (step : ∀ i s, i ≤ k → I i s → (∃ s', i < k ∧ f s = some (.inl s') ∧ I (i + 1) s') ∨ (∃ r, f s = some (.inr r) ∧ R r)) :
    ∀ {n : Nat} {s : σ}, k < n → I 0 s → ∃ r, loopN f n s = some r ∧ R r := by
  have main : ∀ (d i n : Nat) (s : σ), i + d = k → d < n → I i s → ∃ r, loopN f n s = some r ∧ R r := by
    intro d
    induction d with
    | zero =>
      intro i n s hi hn hI
      obtain ⟨m, rfl⟩ : ∃ m, n = m + 1 := ⟨n - 1, by omega⟩
      rcases step i s (by omega) hI with ⟨s', h, _⟩ | ⟨r, h1, h2⟩
      · omega
      · exact ⟨r, by simp [loopN, h1], h2⟩
    | succ d ih =>
      intro i n s hi hn hI
      obtain ⟨m, rfl⟩ : ∃ m, n = m + 1 := ⟨n - 1, by omega⟩
      rcases step i s (by omega) hI with ⟨s', _, h1, h2⟩ | ⟨r, h1, h2⟩
      · obtain ⟨r, h3, h4⟩ := ih (i + 1) m s' (by omega) (by omega) h2
        exact ⟨r, by simp [loopN, h1, h3], h4⟩
      · exact ⟨r, by simp [loopN, h1], h2⟩
  intro n s hn hI
  exact main k 0 n s (by omega) hn hI

/-- A loop over a list, by its index. -/
theorem loop_list {α σ ρ τ : Type} (l : List α) (hl : l.length ≤ maxLen) {f : ρ → Option (ρ ⊕ τ)} (mk : σ → Int → ρ) (Inv : Nat → σ → Prop) (go : σ → List α → τ)
    (h0 : ∀ s, Inv l.length s → decide (((l.length : Nat) : Int) < (l.length : Int)) = false → f (mk s (l.length : Int)) = some (.inr (go s [])))
    (h1 : ∀ s (i : Nat) x xs, l[i]? = some x → decide ((i : Int) < (l.length : Int)) = true → idx l (i : Int) = some x → IntKind.wrap .i64 ((i : Int) + 1) = ((i + 1 : Nat) : Int) → l.drop i = x :: xs → Inv i s →
      (∃ s', f (mk s (i : Int)) = some (.inl (mk s' ((i + 1 : Nat) : Int))) ∧ Inv (i + 1) s' ∧ go s (x :: xs) = go s' xs) ∨ f (mk s (i : Int)) = some (.inr (go s (x :: xs))))
    {n : Nat} {s : σ} (hn : l.length < n) (hs : Inv 0 s) : loopN f n (mk s 0) = some (go s l) := by
  have main : ∀ (k i n : Nat) (s : σ), l.length = i + k → k < n → Inv i s → loopN f n (mk s (i : Int)) = some (go s (l.drop i)) := by
    intro k
    induction k with
    | zero =>
      intro i n s hk hn hI
      obtain ⟨m, rfl⟩ : ∃ m, n = m + 1 := ⟨n - 1, by omega⟩
      have hi : i = l.length := by omega
      subst hi
      rw [List.drop_length]
      simp [loopN, h0 s hI (by simp)]
    | succ k ih =>
      intro i n s hk hn hI
      obtain ⟨m, rfl⟩ : ∃ m, n = m + 1 := ⟨n - 1, by omega⟩
      have hlt : i < l.length := by omega
      have hd := List.drop_eq_getElem_cons hlt
      rw [hd]
      rcases h1 s i _ _ (List.getElem?_eq_getElem hlt) (by simpa using hlt) (idx_nat (List.getElem?_eq_getElem hlt)) (wrap_succ (by omega)) hd hI with ⟨s', e1, e2, e3⟩ | e1
      · simp only [loopN, e1, Option.bind_some, e3]
        exact ih (i + 1) m s' (by omega) (by omega) e2
      · simp only [loopN, e1, Option.bind_some]
  simpa using main l.length 0 n s (by omega) hn hs

theorem loopN_congr {σ τ : Type} {f g : σ → Option (σ ⊕ τ)} (h : ∀ s, f s = g s) (n : Nat) (s : σ) : loopN f n s = loopN g n s := by rw [show f = g from funext h]

/-- The same loop with another result. -/
theorem loopN_map {σ τ τ' : Type} {f : σ → Option (σ ⊕ τ)} {g : σ → Option (σ ⊕ τ')} (p : τ → τ') (h : ∀ s, g s = (f s).map (fun x => match x with | .inl s' => .inl s' | .inr r => .inr (p r))) :
    ∀ (n : Nat) (s : σ), loopN g n s = (loopN f n s).map p
  | 0, s => rfl
  | n + 1, s => by
    simp only [loopN, h s]
    cases f s with
    | none => rfl
    | some x => cases x with
      | inl s' => simpa using loopN_map p h n s'
      | inr r => rfl

theorem idx_some {α : Type} {l : List α} {i : Int} {x : α} (h : idx l i = some x) : 0 ≤ i ∧ i < l.length ∧ l[i.toNat]? = some x := by
  obtain ⟨h0, h1⟩ := idx_ok h
  obtain ⟨h2, _⟩ := List.getElem?_eq_some_iff.1 h1
  exact ⟨h0, by omega, h1⟩
theorem idx_get {α : Type} {l : List α} {i : Nat} (h : i < l.length) : idx l (i : Int) = some l[i] := idx_nat (List.getElem?_eq_getElem h)
theorem idx_set {α : Type} {l : List α} {i : Nat} {v : α} (h : i < l.length) : idx (l.set i v) (i : Int) = some v := by
  rw [idx_nat]
  rw [List.getElem?_set_self h]
theorem mkL_of {τ : Type} {b n : Nat} {z : τ} (h : b * n ≤ 281474976710656) : mkL b n n z = some (List.replicate n z) := by
  unfold mkL
  have e : ((b * n : Nat) : Int) = (b : Int) * (n : Int) := Int.natCast_mul b n
  have h' : (b : Int) * (n : Int) ≤ 281474976710656 := by rw [← e]; omega
  rw [if_pos ⟨Int.natCast_nonneg n, Int.le_refl _, h'⟩, Int.toNat_natCast]
end Gx

/- Amounts: sums, rounding, ones that are given. -/
namespace Gx
open Go Gd
set_option linter.unusedVariables false
set_option linter.unusedSimpArgs false

/-- Is it an amount? -/
def valB (a : Int) : Bool := decide (a ≥ -1125899906842624) && decide (a ≤ 1125899906842624)
theorem valB_iff {a : Int} : valB a = true ↔ -1125899906842624 ≤ a ∧ a ≤ 1125899906842624 := by simp [valB]
theorem valid_p (N : Nat) (a : Int) : amount_Valid N a = some (valB a) := rfl
theorem valid_r (N : Nat) (a : Int) : billingref01_Valid N a = some (valB a) := rfl
/-- An amount, or an error. -/
def chkS (a : Int) : Int × Int := bif valB a then (a, 0) else (0, 6)
theorem checked_p (N : Nat) (a : Int) : amount_checked N a = some (chkS a) := by
  unfold amount_checked chkS
  rw [valid_p]
  cases valB a <;> rfl

/-! ## Sums -/
def sumS (l : List Int) : Int × Int := if (l.length : Int) > 4096 then (0, 5) else bif l.all valB then chkS l.sum else (0, 6)

theorem sum_bound {l : List Int} (h : l.all valB = true) : -1125899906842624 * (l.length : Int) ≤ l.sum ∧ l.sum ≤ 1125899906842624 * (l.length : Int) := by
  induction l with
  | nil => simp
  | cons x l ih =>
    simp only [List.all_cons, Bool.and_eq_true] at h
    have h1 := valB_iff.1 h.1
    have h2 := ih h.2
    simp only [List.sum_cons, List.length_cons]
    push_cast
    omega

theorem sumLoop {f : Int × Int → Option ((Int × Int) ⊕ (Int ⊕ (Int × Int)))} {l : List Int} (hl : l.length ≤ 4096)
    (hf : ∀ v1 v2, f (v1, v2) = if decide (v2 < (l.length : Int)) = true then (idx l v2).bind fun x => if (!valB x) = true then some (.inr (.inr (0, 6))) else some (.inl (IntKind.wrap .i64 (v1 + x), IntKind.wrap .i64 (v2 + 1))) else some (.inr (.inl v1)))
    {N : Nat} (hN : 5000 ≤ N) : loopN f N (0, 0) = some (bif l.all valB then .inl l.sum else .inr (0, 6)) := by
  have key := loop_list (n := N) (s := 0) l (by rw [maxLen_val]; omega) (f := f) (fun s i => (s, i)) (fun i s => (l.take i).all valB = true ∧ s = (l.take i).sum)
    (fun s xs => bif xs.all valB then .inl (s + xs.sum) else .inr (0, 6)) (fun s hI h => ?_) (fun s i x xs hx hlt hidx hw hd hI => ?_) (by omega) ⟨by simp, by simp⟩
  · rw [key]; simp
  · rw [hf, h]; simp
  · have hi := (List.getElem?_eq_some_iff.1 hx).1
    have ht : l.take (i + 1) = l.take i ++ [x] := by rw [List.take_add_one, hx]; rfl
    rw [hf, hlt, hidx]
    cases hv : valB x with
    | false => exact .inr (by simp [hv])
    | true =>
      refine .inl ⟨s + x, ?_, ⟨by rw [ht, List.all_append, hI.1]; simp [hv], by rw [ht, List.sum_append, ← hI.2]; simp⟩, by simp [hv, Int.add_assoc]⟩
      have h1 := sum_bound hI.1
      rw [← hI.2, List.length_take] at h1
      have h2 := valB_iff.1 hv
      have h3 : IntKind.wrap .i64 (s + x) = s + x := wrap64 (by omega) (by omega)
      simp [hv, h3, hw]

theorem sum_p {N : Nat} (hN : 5000 ≤ N) (l : List Int) : amount_Sum N l = some (sumS l) := by
  unfold amount_Sum sumS
  by_cases h : (l.length : Int) > 4096
  · simp [h]
  · rw [if_neg h, if_neg (by simpa using h), sumLoop (l := l) (by omega) (fun v1 v2 => by simp only [amount_Sum_l1, valid_p]; rfl) hN]
    cases l.all valB <;> simp [checked_p]
theorem sum_r {N : Nat} (hN : 5000 ≤ N) (l : List Int) : billingref01_Sum N l = some (sumS l) := by
  unfold billingref01_Sum sumS
  by_cases h : (l.length : Int) > 4096
  · simp [h]
  · rw [if_neg h, if_neg (by simpa using h), sumLoop (l := l) (by omega) (fun v1 v2 => ?_) hN]
    · cases l.all valB with
      | true =>
        simp only [cond_true, Option.bind_some, valid_r, chkS]
        cases valB l.sum <;> simp
      | false => rfl
    · simp only [billingref01_Sum_l1, valid_r]
      split
      · cases idx l v2 <;> rfl
      · rfl

/-! ## Minor units -/
def rndS (a : Int) : Int := if Int.tmod a 10000 ≥ 5000 then Int.tdiv a 10000 + 1 else if Int.tmod a 10000 ≤ -5000 then Int.tdiv a 10000 - 1 else Int.tdiv a 10000
theorem tdm (a : Int) : Int.tdiv a 10000 * 10000 + Int.tmod a 10000 = a ∧ -10000 < Int.tmod a 10000 ∧ Int.tmod a 10000 < 10000 ∧ (0 ≤ a → 0 ≤ Int.tmod a 10000) ∧ (a ≤ 0 → Int.tmod a 10000 ≤ 0) := by
  have h1 := Int.tmod_def a 10000
  refine ⟨by omega, ?_, ?_, fun h => Int.tmod_nonneg _ h, fun h => ?_⟩
  · have := Int.lt_tmod_of_pos a (b := 10000) (by omega); omega
  · exact Int.tmod_lt_of_pos a (by omega)
  · have := Int.tmod_nonneg 10000 (a := -a) (by omega)
    rw [Int.neg_tmod] at this; omega
theorem rounded_p (N : Nat) {a : Int} (h0 : -9223372036854775808 ≤ a) (h1 : a < 9223372036854775808) : amount_Rounded N a = some (rndS a) := by
  obtain ⟨t1, t2, t3, t4, t5⟩ := tdm a
  have w1 : IntKind.wrap .i64 (Int.tdiv a 10000) = Int.tdiv a 10000 := wrap64 (by omega) (by omega)
  have w2 : IntKind.wrap .i64 (Int.tdiv a 10000 + 1) = Int.tdiv a 10000 + 1 := wrap64 (by omega) (by omega)
  have w3 : IntKind.wrap .i64 (Int.tdiv a 10000 - 1) = Int.tdiv a 10000 - 1 := wrap64 (by omega) (by omega)
  unfold amount_Rounded rndS
  rw [w1, w2, w3]
  simp only [decide_eq_true_eq]
  split
  · rfl
  · split <;> rfl
theorem rounded_r (N : Nat) {a : Int} (h0 : -9223372036854775808 ≤ a) (h1 : a < 9223372036854775808) : billingref01_Rounded N a = some (rndS a) := by
  obtain ⟨t1, t2, t3, t4, t5⟩ := tdm a
  have w1 : IntKind.wrap .i64 (Int.tdiv a 10000) = Int.tdiv a 10000 := wrap64 (by omega) (by omega)
  have w2 : IntKind.wrap .i64 (Int.tdiv a 10000 + 1) = Int.tdiv a 10000 + 1 := wrap64 (by omega) (by omega)
  have w3 : IntKind.wrap .i64 (Int.tdiv a 10000 - 1) = Int.tdiv a 10000 - 1 := wrap64 (by omega) (by omega)
  have w4 : IntKind.wrap .i64 (2 * Int.tmod a 10000) = 2 * Int.tmod a 10000 := wrap64 (by omega) (by omega)
  unfold billingref01_Rounded rndS
  rw [w1, w2, w3, w4]
  simp only [decide_eq_true_eq]
  by_cases c1 : Int.tmod a 10000 ≥ 5000
  · rw [if_pos (by omega), if_pos c1]
  · rw [if_neg (by omega), if_neg c1]
    by_cases c2 : Int.tmod a 10000 ≤ -5000
    · rw [if_pos (by omega), if_pos c2]
    · rw [if_neg (by omega), if_neg c2]

/-! ## Ones that are given -/
def bstep (r : List Int) (b : Int) (i : Nat) : Int := if r.getD i 0 ≥ 0 ∧ (b < 0 ∨ r.getD i 0 > r.getD b.toNat 0) then (i : Int) else b
def bestTo (r : List Int) : Nat → Int
  | 0 => -1
  | i + 1 => bstep r (bestTo r i) i
def bestS (r : List Int) : Int := bestTo r r.length

theorem best_ok (r : List Int) : ∀ k : Nat, (bestTo r k = -1 ∧ ∀ i, i < k → r.getD i 0 < 0) ∨ (∃ j : Nat, bestTo r k = (j : Int) ∧ j < k ∧ 0 ≤ r.getD j 0 ∧ ∀ i, i < k → r.getD i 0 ≤ r.getD j 0)
  | 0 => .inl ⟨rfl, by simp⟩
  | k + 1 => by
    rcases best_ok r k with ⟨h1, h2⟩ | ⟨j, h1, h2, h3, h4⟩
    · simp only [bestTo, bstep, h1]
      by_cases hx : r.getD k 0 ≥ 0
      · refine .inr ⟨k, by rw [if_pos ⟨hx, .inl (by omega)⟩], by omega, hx, fun i hi => ?_⟩
        rcases Nat.lt_or_ge i k with hik | hik
        · have := h2 i hik; omega
        · rw [show i = k by omega]; exact Int.le_refl _
      · refine .inl ⟨by rw [if_neg (fun h => hx h.1)], fun i hi => ?_⟩
        rcases Nat.lt_or_ge i k with hik | hik
        · exact h2 i hik
        · rw [show i = k by omega]; omega
    · simp only [bestTo, bstep, h1, Int.toNat_natCast]
      by_cases hx : r.getD k 0 > r.getD j 0
      · refine .inr ⟨k, by rw [if_pos ⟨by omega, .inr hx⟩], by omega, by omega, fun i hi => ?_⟩
        rcases Nat.lt_or_ge i k with hik | hik
        · have := h4 i hik; omega
        · rw [show i = k by omega]; exact Int.le_refl _
      · refine .inr ⟨j, by rw [if_neg (fun h => h.2.elim (fun h => by omega) hx)], by omega, h3, fun i hi => ?_⟩
        rcases Nat.lt_or_ge i k with hik | hik
        · exact h4 i hik
        · rw [show i = k by omega]; omega

theorem getD_of {l : List Int} {i : Nat} {x : Int} (h : l[i]? = some x) : l.getD i 0 = x := by rw [List.getD_eq_getElem?_getD, h]; rfl
theorem idx_getD {l : List Int} {i : Nat} (h : i < l.length) : idx l (i : Int) = some (l.getD i 0) := by
  rw [idx_get h, List.getD_eq_getElem?_getD, List.getElem?_eq_getElem h]; rfl

theorem bestLoop {N : Nat} (hN : 5000 ≤ N) {r : List Int} (hl : r.length ≤ 4096) : loopN (amount_give_l3 N r) N (-1, 0) = some (bestS r) := by
  have key := loop_list (n := N) (s := (-1 : Int)) r (by rw [maxLen_val]; omega) (f := amount_give_l3 N r) (fun s i => (s, i)) (fun i s => s = bestTo r i)
    (fun s xs => bestS r) (fun s hI h => ?_) (fun s i x xs hx hlt hidx hw hd hI => ?_) (by omega) rfl
  · exact key
  · simp only [amount_give_l3, h]; rw [hI]; rfl
  · refine .inl ⟨bestTo r (i + 1), ?_, rfl, rfl⟩
    have hxD := getD_of hx
    simp only [amount_give_l3, hlt, hidx, Option.bind_some, if_true, decide_eq_true_eq, hw]
    subst hI
    have hil := (List.getElem?_eq_some_iff.1 hx).1
    rcases best_ok r i with ⟨h1, h2⟩ | ⟨j, h1, h2, h3, h4⟩
    · simp only [bestTo, bstep, h1, hxD]
      by_cases h0 : x ≥ 0 <;> simp [h0]
    · have hj : idx r (j : Int) = some (r.getD j 0) := idx_getD (by omega)
      simp only [bestTo, bstep, h1, hxD, hj, Int.toNat_natCast, Option.bind_some]
      by_cases h0 : x ≥ 0
      · have : ¬ ((j : Int) < 0) := by omega
        simp only [h0, if_true, this, if_false, Option.bind_some]
        by_cases h5 : x > r.getD j 0 <;> (rw [List.getD_eq_getElem?_getD] at h5; simp [h5, this])
      · simp [h0]

theorem give_l2_eq (N : Nat) (r : List Int) : ∀ s, billingref01_Give_l3 N r s = amount_give_l3 N r s := by
  rintro ⟨b, i⟩
  simp only [billingref01_Give_l3, amount_give_l3]
  cases h : idx r i with
  | none => simp
  | some x => simp

def cnt (r : List Int) : Nat := r.countP fun x => decide (0 ≤ x)
def giveF : Nat → List Int → List Int → List Int × List Int
  | 0, p, r => (p, r)
  | n + 1, p, r => if bestS r < 0 then (p, r) else giveF n (p.set (bestS r).toNat (p.getD (bestS r).toNat 0 + 1)) (r.set (bestS r).toNat (-1))
theorem bestS_ok (r : List Int) : (bestS r = -1 ∧ ∀ i, i < r.length → r.getD i 0 < 0) ∨ (∃ j : Nat, bestS r = (j : Int) ∧ j < r.length ∧ 0 ≤ r.getD j 0 ∧ ∀ i, i < r.length → r.getD i 0 ≤ r.getD j 0) := best_ok r r.length
theorem cnt_set {r : List Int} {j : Nat} (hj : j < r.length) (h : 0 ≤ r.getD j 0) : cnt (r.set j (-1)) + 1 = cnt r := by
  have hj' : r.getD j 0 = r[j] := by rw [List.getD_eq_getElem?_getD, List.getElem?_eq_getElem hj]; rfl
  rw [hj'] at h
  have hp : 0 < cnt r := List.countP_pos_iff.2 ⟨r[j], List.getElem_mem hj, by simpa using h⟩
  unfold cnt at *
  rw [List.countP_set hj]
  simp [h]
  omega

theorem giveLoop {N : Nat} (hN : 5000 ≤ N) : ∀ (fuel : Nat) (v B : Int) (p r : List Int), cnt r < fuel → p.length = r.length → r.length ≤ 4096 → v < 9223372036854775808 → (∀ x ∈ p, -4611686018427387904 ≤ x ∧ x ≤ B) → B + fuel ≤ 4611686018427387904 →
    ∃ x, loopN (amount_give_l4 N) fuel (v, p, r) = some x ∧ (match x with | .inl q => q | .inr q => q) = giveF v.toNat p r
  | 0, v, B, p, r, hc, _, _, _, _, _ => by omega
  | fuel + 1, v, B, p, r, hc, hl, hL, hv, hp, hB => by
    simp only [loopN, amount_give_l4, decide_eq_true_eq]
    by_cases h0 : v > 0
    · rw [if_pos h0, bestLoop hN hL]
      obtain ⟨m, hm⟩ : ∃ m, v.toNat = m + 1 := ⟨v.toNat - 1, by omega⟩
      rw [hm]
      rcases bestS_ok r with ⟨h1, h2⟩ | ⟨j, h1, h2, h3, h4⟩
      · refine ⟨.inr (p, r), by simp [h1], by simp [giveF, h1]⟩
      · have hj : ¬ ((j : Int) < 0) := by omega
        have hpj : p.getD j 0 ∈ p := by
          have : j < p.length := by omega
          rw [List.getD_eq_getElem?_getD, List.getElem?_eq_getElem this]; exact List.getElem_mem this
        have hb := hp _ hpj
        have hw1 : IntKind.wrap .i64 (p.getD j 0 + 1) = p.getD j 0 + 1 := wrap64 (by omega) (by omega)
        have hw2 : IntKind.wrap .i64 (v - 1) = v - 1 := wrap64 (by omega) (by omega)
        have e1 : idx p (j : Int) = some (p.getD j 0) := idx_getD (by omega)
        have e2 : idx r (j : Int) = some (r.getD j 0) := idx_getD h2
        have hc' := cnt_set h2 h3
        obtain ⟨x, q1, q2⟩ := giveLoop hN fuel (v - 1) (B + 1) (p.set j (p.getD j 0 + 1)) (r.set j (-1)) (by omega) (by simpa using hl) (by simpa using hL) (by omega) (fun x hx => by
          rcases List.mem_or_eq_of_mem_set hx with hx | rfl
          · have := hp x hx; omega
          · omega) (by push_cast at hB ⊢; omega)
        refine ⟨x, ?_, ?_⟩
        · simp only [h1, Option.bind_some, hj, if_false, e1, e2, hw1, hw2, Int.toNat_natCast]
          exact q1
        · rw [q2]
          simp only [giveF, h1, hj, if_false, Int.toNat_natCast]
          rw [show (v - 1).toNat = m by omega]
    · refine ⟨.inl (p, r), by simp [h0], ?_⟩
      rw [show v.toNat = 0 by omega]; rfl

theorem cnt_le (r : List Int) : cnt r ≤ r.length := List.countP_le_length
theorem give_p {N : Nat} (hN : 5000 ≤ N) {v : Int} {p r : List Int} (hl : p.length = r.length) (hL : r.length ≤ 4096) (hv : v < 9223372036854775808) (hp : ∀ x ∈ p, -4503599627370496 ≤ x ∧ x ≤ 4503599627370496) :
    amount_give N v p r = some (giveF v.toNat p r) := by
  unfold amount_give
  obtain ⟨k, rfl⟩ : ∃ k, N = 5000 + k := ⟨N - 5000, by omega⟩
  have hgen : ∀ (f : Nat) (n : Nat) (s : Int × List Int × List Int) x, loopN (amount_give_l4 (5000 + k)) n s = some x → loopN (amount_give_l4 (5000 + k)) (n + f) s = some x := by
    intro f n
    induction n with
    | zero => intro s x h; cases h
    | succ n ih =>
      intro s x h
      rw [show n + 1 + f = (n + f) + 1 by omega]
      simp only [loopN] at h ⊢
      cases hs : amount_give_l4 (5000 + k) s with
      | none => rw [hs] at h; cases h
      | some y =>
        rw [hs] at h
        cases y with
        | inl s' => exact ih s' x h
        | inr r => exact h
  have hc := cnt_le r
  obtain ⟨x, q1, q2⟩ := giveLoop (N := 5000 + k) hN 5000 v 4503599627370496 p r (by omega) hl hL hv (fun x hx => by have := hp x hx; omega) (by omega)
  rw [hgen k 5000 _ x q1, ← q2]
  cases x <;> rfl
theorem give_r {N : Nat} (hN : 5000 ≤ N) {v : Int} {p r : List Int} (hl : p.length = r.length) (hL : r.length ≤ 4096) (hv : v < 9223372036854775808) (hp : ∀ x ∈ p, -4503599627370496 ≤ x ∧ x ≤ 4503599627370496) :
    billingref01_Give N p r v = some (giveF v.toNat p r).1 := by
  have h := give_p hN hl hL hv hp
  unfold amount_give at h
  unfold billingref01_Give
  rw [app_of (by simp; omega), app_of (by simp; omega)]
  simp only [List.nil_append, Option.bind_some]
  rw [loopN_map (f := amount_give_l4 N) (fun x => match x with | .inl q => .inl q.1 | .inr q => .inr q.1) ?_]
  · cases hx : loopN (amount_give_l4 N) N (v, p, r) with
    | none => rw [hx] at h; cases h
    | some x =>
      rw [hx] at h
      cases x with
      | inl q => simp only [Option.bind_some, Option.some.injEq] at h; rw [← h]; rfl
      | inr q => simp only [Option.bind_some, Option.some.injEq] at h; rw [← h]; rfl
  · rintro ⟨v, p, r⟩
    simp only [billingref01_Give_l4, amount_give_l4]
    rw [loopN_congr (give_l2_eq N r)]
    split
    · cases loopN (amount_give_l3 N r) N (-1, 0) with
      | none => rfl
      | some b =>
        simp only [Option.bind_some]
        split
        · rfl
        · cases idx p b with
          | none => rfl
          | some x => cases idx r b <;> rfl
    · rfl

/-! ## Rounded amounts that add up -/
def floS (l : List Int) : List Int := l.map (· / 10000)
def resS (l : List Int) : List Int := l.map (· % 10000)
def roundS (l : List Int) : List Int := if (l.length : Int) > 4096 then [] else bif l.all valB then (giveF (rndS l.sum - (floS l).sum).toNat (floS l) (resS l)).1 else []

theorem rest_eq {a : Int} (h : valB a = true) : Int.tmod (IntKind.wrap .i64 (Int.tmod a 10000 + 10000)) 10000 = a % 10000 := by
  obtain ⟨t1, t2, t3, _⟩ := tdm a
  rw [wrap64 (by omega) (by omega), Int.tmod_eq_emod_of_nonneg (by omega)]
  omega
theorem part_eq {a : Int} (h : valB a = true) : IntKind.wrap .i64 (Int.tdiv (IntKind.wrap .i64 (a - a % 10000)) 10000) = a / 10000 := by
  have h1 := valB_iff.1 h
  rw [wrap64 (n := a - a % 10000) (by omega) (by omega), show a - a % 10000 = 10000 * (a / 10000) by omega, Int.mul_tdiv_cancel_left _ (by omega)]
  exact wrap64 (by omega) (by omega)
theorem flo_bound {l : List Int} (h : l.all valB = true) : (∀ x ∈ floS l, -4503599627370496 ≤ x ∧ x ≤ 4503599627370496) ∧ -112589990685 * (l.length : Int) ≤ (floS l).sum ∧ (floS l).sum ≤ 112589990685 * (l.length : Int) := by
  induction l with
  | nil => simp [floS]
  | cons x l ih =>
    simp only [List.all_cons, Bool.and_eq_true] at h
    have h1 := valB_iff.1 h.1
    obtain ⟨h2, h3, h4⟩ := ih h.2
    simp only [floS, List.map_cons, List.sum_cons, List.length_cons] at *
    refine ⟨fun y hy => ?_, by push_cast; omega, by push_cast; omega⟩
    rcases List.mem_cons.1 hy with rfl | hy
    · omega
    · exact h2 y hy

theorem take_snoc {α : Type} {l : List α} {i : Nat} {x : α} (h : l[i]? = some x) : l.take (i + 1) = l.take i ++ [x] := by rw [List.take_add_one, h]; rfl
theorem all_take {l : List Int} {i : Nat} {x : Int} (h : (l.take i).all valB = true) (hx : l[i]? = some x) (hv : valB x = true) : (l.take (i + 1)).all valB = true := by
  rw [take_snoc hx, List.all_append, h]; simp [hv]
theorem all_false {l : List Int} {i : Nat} {x : Int} (hx : l[i]? = some x) (hv : valB x = false) : l.all valB = false := by
  cases h : l.all valB with
  | false => rfl
  | true => rw [List.all_eq_true.1 h x (List.mem_of_getElem? hx)] at hv; cases hv
theorem sums_take {l : List Int} (i : Nat) (h : (l.take i).all valB = true) (hl : l.length ≤ 4096) : -4611686018427387904 ≤ (l.take i).sum ∧ (l.take i).sum ≤ 4611686018427387904 ∧ -4611686018427387904 ≤ (floS (l.take i)).sum ∧ (floS (l.take i)).sum ≤ 4611686018427387904 := by
  have h1 := sum_bound h
  have h2 := (flo_bound h).2
  have h3 : (l.take i).length ≤ 4096 := by rw [List.length_take]; omega
  omega

theorem roundLoop_p {N : Nat} (hN : 5000 ≤ N) {l : List Int} (hl : l.length ≤ 4096) :
    loopN (amount_Round_l1 N l) N (0, 0, 0, List.replicate l.length 0, List.replicate l.length 0) = some (bif l.all valB then .inl (l.sum, (floS l).sum, floS l, resS l) else .inr ()) := by
  refine loop_list (n := N) (s := ((0 : Int), (0 : Int), List.replicate l.length (0 : Int), List.replicate l.length (0 : Int))) l (by rw [maxLen_val]; omega) (f := amount_Round_l1 N l) (fun s i => (s.1, s.2.1, i, s.2.2.1, s.2.2.2))
    (fun i s => (l.take i).all valB = true ∧ s = ((l.take i).sum, (floS (l.take i)).sum, floS (l.take i) ++ List.replicate (l.length - i) 0, resS (l.take i) ++ List.replicate (l.length - i) 0))
    (fun s xs => bif l.all valB then .inl (l.sum, (floS l).sum, floS l, resS l) else .inr ()) (fun s hI h => ?_) (fun s i x xs hx hlt hidx hw hd hI => ?_) (by omega) ⟨by simp, by simp [floS, resS]⟩
  · obtain ⟨h1, h2⟩ := hI
    rw [List.take_length] at h1 h2
    rw [h2, h1]
    simp [amount_Round_l1]
  · obtain ⟨h1, h2⟩ := hI
    have hil := (List.getElem?_eq_some_iff.1 hx).1
    simp only [amount_Round_l1, hlt, hidx, if_true, Option.bind_some, valid_p]
    cases hv : valB x with
    | false => exact .inr (by rw [all_false hx hv]; simp)
    | true =>
      refine .inl ⟨((l.take (i + 1)).sum, (floS (l.take (i + 1))).sum, floS (l.take (i + 1)) ++ List.replicate (l.length - (i + 1)) 0, resS (l.take (i + 1)) ++ List.replicate (l.length - (i + 1)) 0), ?_, ⟨all_take h1 hx hv, rfl⟩, by trivial⟩
      have b1 := sums_take (i + 1) (all_take h1 hx hv) hl
      rw [h2]
      have e1 : (floS (l.take i) ++ List.replicate (l.length - i) (0 : Int)).length = l.length := by simp [floS]; omega
      have e2 : (resS (l.take i) ++ List.replicate (l.length - i) (0 : Int)).length = l.length := by simp [resS]; omega
      have s1 : ∀ v : Int, (floS (l.take i) ++ List.replicate (l.length - i) (0 : Int)).set i v = floS (l.take i) ++ v :: List.replicate (l.length - (i + 1)) 0 := by
        intro v
        rw [show l.length - i = (l.length - (i + 1)) + 1 by omega, List.replicate_succ, List.set_append_right _ _ (by simp [floS]; omega)]
        rw [show i - (floS (l.take i)).length = 0 by simp [floS]; omega]
        rfl
      have s2 : ∀ v : Int, (resS (l.take i) ++ List.replicate (l.length - i) (0 : Int)).set i v = resS (l.take i) ++ v :: List.replicate (l.length - (i + 1)) 0 := by
        intro v
        rw [show l.length - i = (l.length - (i + 1)) + 1 by omega, List.replicate_succ, List.set_append_right _ _ (by simp [resS]; omega)]
        rw [show i - (resS (l.take i)).length = 0 by simp [resS]; omega]
        rfl
      have i1 : idx (floS (l.take i) ++ List.replicate (l.length - i) (0 : Int)) (i : Int) = some ((floS (l.take i) ++ List.replicate (l.length - i) (0 : Int)).getD i 0) := idx_getD (by rw [e1]; exact hil)
      have i2 : idx (resS (l.take i) ++ List.replicate (l.length - i) (0 : Int)) (i : Int) = some ((resS (l.take i) ++ List.replicate (l.length - i) (0 : Int)).getD i 0) := idx_getD (by rw [e2]; exact hil)
      have i3 : ∀ v : Int, idx (resS (l.take i) ++ v :: List.replicate (l.length - (i + 1)) (0 : Int)) (i : Int) = some v := fun v => by rw [← s2]; exact idx_set (by rw [e2]; exact hil)
      have i4 : ∀ v : Int, idx (floS (l.take i) ++ v :: List.replicate (l.length - (i + 1)) (0 : Int)) (i : Int) = some v := fun v => by rw [← s1]; exact idx_set (by rw [e1]; exact hil)
      have ts : (l.take (i + 1)).sum = (l.take i).sum + x := by rw [take_snoc hx, List.sum_append]; simp
      have tf : (floS (l.take (i + 1))).sum = (floS (l.take i)).sum + x / 10000 := by rw [take_snoc hx]; simp [floS, List.sum_append]
      have w1 : IntKind.wrap .i64 ((l.take i).sum + x) = (l.take i).sum + x := wrap64 (by omega) (by omega)
      have w2 : IntKind.wrap .i64 ((floS (l.take i)).sum + x / 10000) = (floS (l.take i)).sum + x / 10000 := wrap64 (by omega) (by omega)
      simp only [Bool.not_true, if_false, Bool.false_eq_true, i1, i2, i3, i4, Option.bind_some, Int.toNat_natCast, rest_eq hv, part_eq hv, w1, w2, hw, s1, s2]
      rw [ts, tf, take_snoc hx]
      simp [floS, resS]

theorem roundLoop_r {N : Nat} (hN : 5000 ≤ N) {l : List Int} (hl : l.length ≤ 4096) :
    loopN (billingref01_Round_l1 N l) N (0, 0, 0, [], []) = some (bif l.all valB then .inl (l.sum, (floS l).sum, floS l, resS l) else .inr ()) := by
  refine loop_list (n := N) (s := ((0 : Int), (0 : Int), ([] : List Int), ([] : List Int))) l (by rw [maxLen_val]; omega) (f := billingref01_Round_l1 N l) (fun s i => (s.1, s.2.1, i, s.2.2.1, s.2.2.2))
    (fun i s => (l.take i).all valB = true ∧ s = ((l.take i).sum, (floS (l.take i)).sum, floS (l.take i), resS (l.take i)))
    (fun s xs => bif l.all valB then .inl (l.sum, (floS l).sum, floS l, resS l) else .inr ()) (fun s hI h => ?_) (fun s i x xs hx hlt hidx hw hd hI => ?_) (by omega) ⟨by simp, by simp [floS, resS]⟩
  · obtain ⟨h1, h2⟩ := hI
    rw [List.take_length] at h1 h2
    rw [h2, h1]
    simp [billingref01_Round_l1]
  · obtain ⟨h1, h2⟩ := hI
    have hil := (List.getElem?_eq_some_iff.1 hx).1
    simp only [billingref01_Round_l1, hlt, hidx, if_true, Option.bind_some, valid_r]
    cases hv : valB x with
    | false => exact .inr (by rw [all_false hx hv]; simp)
    | true =>
      refine .inl ⟨((l.take (i + 1)).sum, (floS (l.take (i + 1))).sum, floS (l.take (i + 1)), resS (l.take (i + 1))), ?_, ⟨all_take h1 hx hv, rfl⟩, by trivial⟩
      have b1 := sums_take (i + 1) (all_take h1 hx hv) hl
      rw [h2]
      have ts : (l.take (i + 1)).sum = (l.take i).sum + x := by rw [take_snoc hx, List.sum_append]; simp
      have tf : (floS (l.take (i + 1))).sum = (floS (l.take i)).sum + x / 10000 := by rw [take_snoc hx]; simp [floS, List.sum_append]
      have w1 : IntKind.wrap .i64 ((l.take i).sum + x) = (l.take i).sum + x := wrap64 (by omega) (by omega)
      have w2 : IntKind.wrap .i64 ((floS (l.take i)).sum + x / 10000) = (floS (l.take i)).sum + x / 10000 := wrap64 (by omega) (by omega)
      have a1 : app 8 (floS (l.take i)) [x / 10000] = some (floS (l.take i) ++ [x / 10000]) := app_of (by simp [floS]; omega)
      have a2 : app 8 (resS (l.take i)) [x % 10000] = some (resS (l.take i) ++ [x % 10000]) := app_of (by simp [resS]; omega)
      simp only [Bool.not_true, if_false, Bool.false_eq_true, Option.bind_some, rest_eq hv, part_eq hv, w1, w2, hw, a1, a2]
      rw [ts, tf, take_snoc hx]
      simp [floS, resS]

theorem rnd_bound {a : Int} : a - 5000 ≤ 10000 * rndS a ∧ 10000 * rndS a ≤ a + 5000 := by
  obtain ⟨t1, t2, t3, t4, t5⟩ := tdm a
  unfold rndS
  split
  · omega
  · split <;> omega
theorem round_give {l : List Int} (hl : l.length ≤ 4096) (h : l.all valB = true) : IntKind.wrap .i64 (rndS l.sum - (floS l).sum) = rndS l.sum - (floS l).sum ∧ (floS l).length = (resS l).length ∧ (resS l).length ≤ 4096 ∧ rndS l.sum - (floS l).sum < 9223372036854775808 ∧
    (∀ x ∈ floS l, -4503599627370496 ≤ x ∧ x ≤ 4503599627370496) ∧ -9223372036854775808 ≤ l.sum ∧ l.sum < 9223372036854775808 := by
  have h1 := sum_bound h
  obtain ⟨h2, h3, h4⟩ := flo_bound h
  have h5 := rnd_bound (a := l.sum)
  have h6 : (l.length : Int) ≤ 4096 := by omega
  exact ⟨wrap64 (by omega) (by omega), by simp [floS, resS], by simpa [resS] using hl, by omega, h2, by omega, by omega⟩

theorem round_p {N : Nat} (hN : 5000 ≤ N) (l : List Int) : amount_Round N l = some (roundS l) := by
  unfold amount_Round roundS
  by_cases h : (l.length : Int) > 4096
  · simp [h]
  · rw [if_neg h, if_neg (by simpa using h)]
    have hl : l.length ≤ 4096 := by omega
    have hm : mkL 8 (l.length : Int) (l.length : Int) (0 : Int) = some (List.replicate l.length 0) := mkL_of (by omega)
    rw [hm]
    simp only [Option.bind_some]
    rw [roundLoop_p hN hl]
    cases hv : l.all valB with
    | false => rfl
    | true =>
      obtain ⟨r1, r2, r3, r4, r5, r6, r7⟩ := round_give hl hv
      simp only [cond_true, Option.bind_some]
      rw [rounded_p N r6 r7]
      simp only [Option.bind_some]
      rw [r1, give_p hN r2 r3 r4 r5]
      rfl
theorem round_r {N : Nat} (hN : 5000 ≤ N) (l : List Int) : billingref01_Round N l = some (roundS l) := by
  unfold billingref01_Round roundS
  by_cases h : (l.length : Int) > 4096
  · simp [h]
  · rw [if_neg h, if_neg (by simpa using h)]
    have hl : l.length ≤ 4096 := by omega
    rw [roundLoop_r hN hl]
    cases hv : l.all valB with
    | false => rfl
    | true =>
      obtain ⟨r1, r2, r3, r4, r5, r6, r7⟩ := round_give hl hv
      simp only [cond_true, Option.bind_some]
      rw [rounded_r N r6 r7]
      simp only [Option.bind_some]
      rw [r1, give_r hN r2 r3 r4 r5]
      rfl
end Gx

/- Amounts: products and quotients. -/
namespace Gx
open Go Gd
set_option linter.unusedVariables false
set_option linter.unusedSimpArgs false

theorem i64_and1 (n : Int) : Go.bits .and .i64 n 1 = n % 2 := by
  have h127 : (BitVec.ofInt 64 1).toNat = 2 ^ 1 - 1 := by decide
  have key : (BitVec.ofInt 64 n &&& BitVec.ofInt 64 1).toNat = (n % ((2 ^ 64 : Nat) : Int)).toNat % 2 ^ 1 := by
    rw [BitVec.toNat_and, BitVec.toNat_ofInt, h127, Nat.and_two_pow_sub_one_eq_mod]
  show IntKind.i64.wrap ((BitVec.ofInt 64 n &&& BitVec.ofInt 64 1).toNat : Nat) = n % 2
  rw [key, IntKind.wrap_i64]
  omega

theorem dm_step {A m d b q r : Nat} (hd : 0 < d) (hq : q = A * m / d) (hr : r = A * m % d) (x : Nat) (hx : A * (2 * m + b) = 2 * (A * m) + x) :
    A * (2 * m + b) / d = 2 * q + (2 * r + x) / d ∧ A * (2 * m + b) % d = (2 * r + x) % d := by
  have h1 : A * m = d * q + r := by rw [hq, hr]; exact (Nat.div_add_mod _ _).symm
  have h2 : A * (2 * m + b) = (2 * r + x) + d * (2 * q) := by rw [hx, h1, Nat.mul_add, ← Nat.mul_assoc 2 d q, Nat.mul_comm 2 d, Nat.mul_assoc]; omega
  rw [h2]
  refine ⟨?_, Nat.add_mul_mod_self_left _ _ _⟩
  rw [Nat.add_mul_div_left _ _ hd]; omega

theorem shr_nat (n b : Nat) (hb : b ≤ 62) : shrW .i64 (n : Int) (b : Int) = some ((n / 2 ^ b : Nat) : Int) := by
  unfold shrW
  rw [if_neg (by omega)]
  have : min ((b : Int)).toNat (IntKind.bits .i64) = b := by
    rw [Int.toNat_natCast]; show min b 64 = b; omega
  rw [this]
  congr 1
  rw [Int.fdiv_eq_ediv_of_nonneg _ (by exact_mod_cast Nat.zero_le _)]
  rw [Int.natCast_ediv]; congr 1
theorem wrap_nat {z : Nat} (h : z < 9223372036854775808) : IntKind.wrap .i64 (z : Int) = (z : Int) := wrap64 (by omega) (by omega)
theorem wrap_add_nat {x y : Nat} (h : x + y < 9223372036854775808) : IntKind.wrap .i64 ((x : Int) + (y : Int)) = ((x + y : Nat) : Int) := by rw [← Int.natCast_add]; exact wrap_nat h
theorem wrap_two {x : Nat} (h : 2 * x < 9223372036854775808) : IntKind.wrap .i64 (2 * (x : Int)) = ((2 * x : Nat) : Int) := by rw [wrap64 (by omega) (by omega)]; omega
theorem quo_nat (x y : Nat) (hy : 0 < y) (hx : x < 9223372036854775808) : quoW .i64 (x : Int) (y : Int) = some ((x / y : Nat) : Int) := by
  unfold quoW
  rw [if_neg (by omega), ← Int.ofNat_tdiv]
  have := Nat.div_le_self x y
  rw [wrap_nat (by omega)]
theorem rem_nat (x y : Nat) (hy : 0 < y) : remW (x : Int) (y : Int) = some ((x % y : Nat) : Int) := by
  unfold remW
  rw [if_neg (by omega), ← Int.ofNat_tmod]

theorem half_pow (n b : Nat) : n / 2 ^ b = 2 * (n / 2 ^ (b + 1)) + n / 2 ^ b % 2 := by
  have : n / 2 ^ (b + 1) = n / 2 ^ b / 2 := by rw [Nat.pow_succ, Nat.div_div_eq_div_mul]
  omega

theorem divLoop_p (N : Nat) {A n d : Nat} (hA : A ≤ 1125899906842624) (hn : n ≤ 1099511627776) (hd : 0 < d) (hd2 : d ≤ 70368744177664) : ∀ (b q r fuel : Nat), b ≤ 63 → b < fuel → q = A * (n / 2 ^ b) / d → r = A * (n / 2 ^ b) % d → q ≤ 2251799813685248 →
    ∃ x, loopN (amount_divide_l1 N n A d) fuel ((q : Int), (r : Int), (b : Int) - 1) = some x ∧
      ((x = .inl (((A * n / d : Nat) : Int), ((A * n % d : Nat) : Int)) ∧ A * n / d ≤ 2251799813685248) ∨ ∃ q' : Nat, x = .inr ((q' : Int), 0) ∧ 2251799813685248 < q' ∧ q' ≤ A * n / d ∧ q' < 9007199254740992)
  | 0, q, r, fuel, hb, hf, hq, hr, hle => by
    obtain ⟨m, rfl⟩ : ∃ m, fuel = m + 1 := ⟨fuel - 1, by omega⟩
    simp only [Nat.pow_zero, Nat.div_one] at hq hr
    exact ⟨_, by simp [loopN, amount_divide_l1]; rfl, .inl ⟨by rw [hq, hr], by omega⟩⟩
  | b + 1, q, r, fuel, hb, hf, hq, hr, hle => by
    obtain ⟨f, rfl⟩ : ∃ m, fuel = m + 1 := ⟨fuel - 1, by omega⟩
    have hm := half_pow n b
    generalize hm' : n / 2 ^ b = m' at *
    have hr2 : r < d := by rw [hr]; exact Nat.mod_lt _ hd
    have hAd : A % d < d := Nat.mod_lt _ hd
    have hAq : A / d ≤ A := Nat.div_le_self _ _
    have hAdm : A = d * (A / d) + A % d := (Nat.div_add_mod _ _).symm
    have hm2 : m' ≤ n := by rw [← hm']; exact Nat.div_le_self _ _
    have hmono : A * m' / d ≤ A * n / d := Nat.div_le_div_right (Nat.mul_le_mul_left _ hm2)
    have e0 : (((b + 1 : Nat) : Int) - 1) = (b : Int) := by omega
    have e1 : IntKind.wrap .i64 ((b : Int) - 1) = (b : Int) - 1 := wrap64 (by omega) (by omega)
    simp only [loopN, amount_divide_l1, e0, e1, show (decide ((b : Int) ≥ 0)) = true by simp, if_true, shr_nat n b (by omega), hm', Option.bind_some, i64_and1]
    -- what the bit adds
    have w1 : IntKind.wrap .i64 (2 * (q : Int)) = ((2 * q : Nat) : Int) := wrap_two (by omega)
    have w2 : IntKind.wrap .i64 (2 * (r : Int)) = ((2 * r : Nat) : Int) := wrap_two (by omega)
    have fin : ∀ x : Nat, A * (2 * (n / 2 ^ (b + 1)) + m' % 2) = 2 * (A * (n / 2 ^ (b + 1))) + x → ∀ q1 r1 : Nat, 2 * q + (2 * r + x) / d = q1 + r1 / d → (2 * r + x) % d = r1 % d → r1 ≤ 3 * 70368744177664 → q1 ≤ 6755399441055744 →
        ∃ y, ((quoW .i64 (r1 : Int) (d : Int)).bind fun n9 => (remW (r1 : Int) (d : Int)).bind fun n10 => if (decide ((IntKind.wrap .i64 ((q1 : Int) + n9)) > 2251799813685248)) = true then some (.inr (.inr ((IntKind.wrap .i64 ((q1 : Int) + n9)), (0 : Int)))) else some (.inl ((IntKind.wrap .i64 ((q1 : Int) + n9)), n10, (b : Int) - 1)) : Option ((Int × Int × Int) ⊕ ((Int × Int) ⊕ (Int × Int)))) = some y ∧
          ((∃ q2 r2 : Nat, y = .inl ((q2 : Int), (r2 : Int), (b : Int) - 1) ∧ q2 = A * m' / d ∧ r2 = A * m' % d ∧ q2 ≤ 2251799813685248) ∨ ∃ q' : Nat, y = .inr (.inr ((q' : Int), 0)) ∧ 2251799813685248 < q' ∧ q' ≤ A * n / d ∧ q' < 9007199254740992) := by
      intro x hx q1 r1 hq1 hr1 hb1 hb2
      obtain ⟨s1, s2⟩ := dm_step hd hq hr x hx
      rw [← hm] at s1 s2
      have hdiv := Nat.div_le_self r1 d
      rw [quo_nat r1 d hd (by omega), rem_nat r1 d hd]
      simp only [Option.bind_some]
      have w3 : IntKind.wrap .i64 ((q1 : Int) + ((r1 / d : Nat) : Int)) = ((q1 + r1 / d : Nat) : Int) := wrap_add_nat (by omega)
      rw [w3, ← hq1, ← s1]
      by_cases hgt : ((A * m' / d : Nat) : Int) > 2251799813685248
      · rw [if_pos (by simpa using hgt)]
        refine ⟨_, rfl, .inr ⟨A * m' / d, rfl, by omega, hmono, by omega⟩⟩
      · rw [if_neg (by simpa using hgt)]
        refine ⟨_, rfl, .inl ⟨A * m' / d, A * m' % d, by rw [s2, ← hr1], rfl, rfl, by omega⟩⟩
    rcases Nat.mod_two_eq_zero_or_one m' with hbit | hbit
    · have hb0 : ((((m' : Nat) : Int) % 2) == 1) = false := by
        have : ((m' : Int) % 2) = 0 := by omega
        rw [this]; rfl
      rw [hb0]
      simp only [Bool.false_eq_true, if_false, Option.bind_some, w1, w2]
      obtain ⟨y, hy1, hy2⟩ := fin 0 (by rw [hbit]; simp [Nat.mul_add, Nat.mul_left_comm]) (2 * q) (2 * r) rfl rfl (by omega) (by omega)
      rw [hy1]
      rcases hy2 with ⟨q2, r2, rfl, h1, h2, h3⟩ | ⟨q', rfl, h1, h2, h3⟩
      · exact divLoop_p N hA hn hd hd2 b q2 r2 f (by omega) (by omega) (by rw [hm']; exact h1) (by rw [hm']; exact h2) h3
      · exact ⟨_, rfl, .inr ⟨q', rfl, h1, h2, h3⟩⟩
    · have hb1 : ((((m' : Nat) : Int) % 2) == 1) = true := by
        have : ((m' : Int) % 2) = 1 := by omega
        rw [this]; rfl
      rw [hb1]
      simp only [if_true, Option.bind_some, w1, w2, quo_nat A d hd (by omega), rem_nat A d hd]
      have w4 : IntKind.wrap .i64 (((2 * q : Nat) : Int) + ((A / d : Nat) : Int)) = ((2 * q + A / d : Nat) : Int) := wrap_add_nat (by omega)
      have w5 : IntKind.wrap .i64 (((2 * r : Nat) : Int) + ((A % d : Nat) : Int)) = ((2 * r + A % d : Nat) : Int) := wrap_add_nat (by omega)
      rw [w4, w5]
      obtain ⟨y, hy1, hy2⟩ := fin A (by rw [hbit]; simp [Nat.mul_add, Nat.mul_left_comm]) (2 * q + A / d) (2 * r + A % d) (by
        have : 2 * r + A = (2 * r + A % d) + d * (A / d) := by omega
        rw [this, Nat.add_mul_div_left _ _ hd]; omega) (by
        have : 2 * r + A = (2 * r + A % d) + d * (A / d) := by omega
        rw [this, Nat.add_mul_mod_self_left]) (by omega) (by omega)
      rw [hy1]
      rcases hy2 with ⟨q2, r2, rfl, h1, h2, h3⟩ | ⟨q', rfl, h1, h2, h3⟩
      · exact divLoop_p N hA hn hd hd2 b q2 r2 f (by omega) (by omega) (by rw [hm']; exact h1) (by rw [hm']; exact h2) h3
      · exact ⟨_, rfl, .inr ⟨q', rfl, h1, h2, h3⟩⟩

theorem divide_p {N : Nat} (hN : 5000 ≤ N) {A n d : Nat} (hA : A ≤ 1125899906842624) (hn : n ≤ 1099511627776) (hd : 0 < d) (hd2 : d ≤ 70368744177664) :
    (amount_divide N A n d = some (((A * n / d : Nat) : Int), ((A * n % d : Nat) : Int)) ∧ A * n / d ≤ 2251799813685248) ∨ ∃ q' : Nat, amount_divide N A n d = some ((q' : Int), 0) ∧ 2251799813685248 < q' ∧ q' ≤ A * n / d ∧ q' < 9007199254740992 := by
  have h0 : n / 2 ^ 63 = 0 := Nat.div_eq_of_lt (by omega)
  obtain ⟨x, h1, h2⟩ := divLoop_p N hA hn hd hd2 63 0 0 N (by omega) (by omega) (by rw [h0]; simp) (by rw [h0]; simp) (by omega)
  have h1' : loopN (amount_divide_l1 N (n : Int) (A : Int) (d : Int)) N (0, 0, 62) = some x := h1
  unfold amount_divide
  rw [h1']
  rcases h2 with ⟨rfl, h3⟩ | ⟨q', rfl, h3⟩
  · exact .inl ⟨rfl, h3⟩
  · exact .inr ⟨q', rfl, h3⟩

theorem divLoop_r (N : Nat) {A n d : Nat} (hA : A ≤ 1125899906842624) (hn : n ≤ 1099511627776) (hd : 0 < d) (hd2 : d ≤ 70368744177664) : ∀ (b q r fuel : Nat), b ≤ 51 → b < fuel → q = min (n * (A / 2 ^ b) / d) 288230376151711744 → r = n * (A / 2 ^ b) % d →
    loopN (billingref01_Divide_l1 N A n d) fuel ((q : Int), (r : Int), (b : Int) - 1) = some (((min (n * A / d) 288230376151711744 : Nat) : Int), ((n * A % d : Nat) : Int))
  | 0, q, r, fuel, hb, hf, hq, hr => by
    obtain ⟨m, rfl⟩ : ∃ m, fuel = m + 1 := ⟨fuel - 1, by omega⟩
    simp only [Nat.pow_zero, Nat.div_one] at hq hr
    simp [loopN, billingref01_Divide_l1, hq, hr]
  | b + 1, q, r, fuel, hb, hf, hq, hr => by
    obtain ⟨f, rfl⟩ : ∃ m, fuel = m + 1 := ⟨fuel - 1, by omega⟩
    have hm := half_pow A b
    generalize hm' : A / 2 ^ b = m' at *
    have hr2 : r < d := by rw [hr]; exact Nat.mod_lt _ hd
    have hq2 : q ≤ 288230376151711744 := by rw [hq]; exact Nat.min_le_right _ _
    have e0 : (((b + 1 : Nat) : Int) - 1) = (b : Int) := by omega
    have e1 : IntKind.wrap .i64 ((b : Int) - 1) = (b : Int) - 1 := wrap64 (by omega) (by omega)
    have e2 : IntKind.wrap .u64 (b : Int) = (b : Int) := by
      simp only [IntKind.wrap, IntKind.bits, IntKind.signed]
      simp
      omega
    have w1 : IntKind.wrap .i64 (2 * (q : Int)) = ((2 * q : Nat) : Int) := wrap_two (by omega)
    have w2 : IntKind.wrap .i64 (2 * (r : Int)) = ((2 * r : Nat) : Int) := wrap_two (by omega)
    simp only [loopN, billingref01_Divide_l1, e0, e1, e2, show (decide ((b : Int) ≥ 0)) = true by simp, if_true, shr_nat A b (by omega), hm', Option.bind_some, i64_and1, w1, w2]
    have fin : ∀ x r1 : Nat, n * (2 * (A / 2 ^ (b + 1)) + m' % 2) = 2 * (n * (A / 2 ^ (b + 1))) + x → 2 * r + x = r1 → r1 ≤ 3 * 70368744177664 →
        ∃ q2 r2 : Nat, ((quoW .i64 (r1 : Int) (d : Int)).bind fun n6 => (remW (r1 : Int) (d : Int)).bind fun n7 => if (decide ((IntKind.wrap .i64 (((2 * q : Nat) : Int) + n6)) > 288230376151711744)) = true then some ((288230376151711744 : Int), n7) else some ((IntKind.wrap .i64 (((2 * q : Nat) : Int) + n6)), n7)) = some ((q2 : Int), (r2 : Int)) ∧
          q2 = min (n * m' / d) 288230376151711744 ∧ r2 = n * m' % d := by
      intro x r1 hx hr1 hb1
      have s0 := dm_step (q := n * (A / 2 ^ (b + 1)) / d) hd rfl hr x hx
      rw [← hm, hr1] at s0
      obtain ⟨s1, s2⟩ := s0
      have hdiv := Nat.div_le_self r1 d
      rw [quo_nat r1 d hd (by omega), rem_nat r1 d hd]
      simp only [Option.bind_some]
      have w3 : IntKind.wrap .i64 (((2 * q : Nat) : Int) + ((r1 / d : Nat) : Int)) = ((2 * q + r1 / d : Nat) : Int) := wrap_add_nat (by omega)
      rw [w3, ← s2]
      generalize n * (A / 2 ^ (b + 1)) / d = Q at *
      generalize n * m' / d = Q' at *
      generalize r1 / d = t at *
      by_cases hgt : ((2 * q + t : Nat) : Int) > 288230376151711744
      · rw [if_pos (by simpa using hgt)]
        exact ⟨288230376151711744, n * m' % d, rfl, by omega, rfl⟩
      · rw [if_neg (by simpa using hgt)]
        exact ⟨2 * q + t, n * m' % d, rfl, by omega, rfl⟩
    rcases Nat.mod_two_eq_zero_or_one m' with hbit | hbit
    · have hb0 : ((((m' : Nat) : Int) % 2) == 1) = false := by
        have : ((m' : Int) % 2) = 0 := by omega
        rw [this]; rfl
      rw [hb0]
      simp only [Bool.false_eq_true, if_false, Option.bind_some]
      obtain ⟨q2, r2, h1, h2, h3⟩ := fin 0 (2 * r) (by rw [hbit]; simp [Nat.mul_add, Nat.mul_left_comm]) rfl (by omega)
      rw [h1]
      exact divLoop_r N hA hn hd hd2 b q2 r2 f (by omega) (by omega) (by rw [hm']; exact h2) (by rw [hm']; exact h3)
    · have hb1 : ((((m' : Nat) : Int) % 2) == 1) = true := by
        have : ((m' : Int) % 2) = 1 := by omega
        rw [this]; rfl
      rw [hb1]
      have w4 : IntKind.wrap .i64 (((2 * r : Nat) : Int) + (n : Int)) = ((2 * r + n : Nat) : Int) := wrap_add_nat (by omega)
      simp only [if_true, Option.bind_some, w4]
      obtain ⟨q2, r2, h1, h2, h3⟩ := fin n (2 * r + n) (by rw [hbit]; simp [Nat.mul_add, Nat.mul_left_comm]) rfl (by omega)
      rw [h1]
      exact divLoop_r N hA hn hd hd2 b q2 r2 f (by omega) (by omega) (by rw [hm']; exact h2) (by rw [hm']; exact h3)
theorem divide_r {N : Nat} (hN : 5000 ≤ N) {A n d : Nat} (hA : A ≤ 1125899906842624) (hn : n ≤ 1099511627776) (hd : 0 < d) (hd2 : d ≤ 70368744177664) :
    billingref01_Divide N A n d = some (((min (A * n / d) 288230376151711744 : Nat) : Int), ((A * n % d : Nat) : Int)) := by
  have h0 : A / 2 ^ 51 = 0 := Nat.div_eq_of_lt (by omega)
  have h1 := divLoop_r N hA hn hd hd2 51 0 0 N (by omega) (by omega) (by rw [h0]; simp) (by rw [h0]; simp)
  have h1' : loopN (billingref01_Divide_l1 N (A : Int) (n : Int) (d : Int)) N (0, 0, 50) = some (((min (n * A / d) 288230376151711744 : Nat) : Int), ((n * A % d : Nat) : Int)) := h1
  unfold billingref01_Divide
  rw [h1', Nat.mul_comm n A]
  rfl

/-! ## Products, rounded -/
/-- a * n / d, rounded. -/
def rdiv (A n d : Nat) : Nat := if d ≤ 2 * (A * n % d) then A * n / d + 1 else A * n / d
def scaleS (a n d : Int) : Int × Int := bif !valB a || decide (n < 0) || decide (n > 1099511627776) || decide (d < 1) || decide (d > 1099511627776) then (0, 6) else
  if rdiv a.natAbs n.toNat d.toNat ≤ 1125899906842624 then (if a < 0 then -((rdiv a.natAbs n.toNat d.toNat : Nat) : Int) else ((rdiv a.natAbs n.toNat d.toNat : Nat) : Int), 0) else (0, 6)

theorem rdiv_ge {A n d : Nat} : A * n / d ≤ rdiv A n d ∧ rdiv A n d ≤ A * n / d + 1 := by unfold rdiv; split <;> omega

theorem scale_p {N : Nat} (hN : 5000 ≤ N) (a n d : Int) : amount_Scale N a n d = some (scaleS a n d) := by
  unfold amount_Scale scaleS
  rw [valid_p]
  simp only [Option.bind_some]
  cases hc : (!valB a || decide (n < 0) || decide (n > 1099511627776) || decide (d < 1) || decide (d > 1099511627776)) with
  | true => simp
  | false =>
    simp only [Bool.or_eq_false_iff, Bool.not_eq_false', decide_eq_false_iff_not] at hc
    obtain ⟨⟨⟨⟨h1, h2⟩, h3⟩, h4⟩, h5⟩ := hc
    have hv := valB_iff.1 h1
    obtain ⟨n, rfl⟩ : ∃ m : Nat, n = m := ⟨n.toNat, by omega⟩
    obtain ⟨d, rfl⟩ : ∃ m : Nat, d = m := ⟨d.toNat, by omega⟩
    have w0 : IntKind.wrap .i64 (0 - a) = -a := by rw [wrap64 (by omega) (by omega)]; omega
    have ha : (if -a > a then -a else a) = ((a.natAbs : Nat) : Int) := by split <;> omega
    simp only [Bool.false_eq_true, if_false, cond_false, w0, ha, Int.toNat_natCast]
    generalize hA : a.natAbs = A
    have hA2 : A ≤ 1125899906842624 := by omega
    rcases divide_p hN hA2 (n := n) (d := d) (by omega) (by omega) (by omega) with ⟨q1, q2⟩ | ⟨q', q1, q2, q3, q4⟩
    · rw [q1]
      have hlt := Nat.mod_lt (A * n) (show d > 0 by omega)
      generalize hQ : A * n / d = Q at *
      generalize hR : A * n % d = R at *
      have w1 : IntKind.wrap .i64 ((d : Int) - (R : Int)) = (d : Int) - (R : Int) := wrap64 (by omega) (by omega)
      have w2 : IntKind.wrap .i64 ((Q : Int) + 1) = ((Q + 1 : Nat) : Int) := by rw [wrap64 (by omega) (by omega)]; omega
      have e1 : (if decide ((R : Int) ≥ (d : Int) - (R : Int)) = true then some ((Q + 1 : Nat) : Int) else some (Q : Int)) = some ((rdiv A n d : Nat) : Int) := by
        unfold rdiv
        rw [hQ, hR]
        by_cases hc : d ≤ 2 * R
        · rw [if_pos (by simp; omega), if_pos hc]
        · rw [if_neg (by simp; omega), if_neg hc]
      have hrd := rdiv_ge (A := A) (n := n) (d := d)
      rw [hQ] at hrd
      simp only [Option.bind_some, w1, w2, e1]
      generalize rdiv A n d = T at *
      have w3 : IntKind.wrap .i64 (0 - (T : Int)) = -(T : Int) := by rw [wrap64 (by omega) (by omega)]; omega
      rw [w3]
      by_cases hneg : a < 0
      · simp only [hneg, decide_true, if_true, Option.bind_some, checked_p]
        by_cases hT : T ≤ 1125899906842624
        · have : valB (-(T : Int)) = true := valB_iff.2 (by omega)
          simp [chkS, this, hT]
        · have : valB (-(T : Int)) = false := by rw [← Bool.not_eq_true, valB_iff]; omega
          simp [chkS, this, hT]
      · simp only [hneg, decide_false, Bool.false_eq_true, if_false, Option.bind_some, checked_p]
        by_cases hT : T ≤ 1125899906842624
        · have : valB (T : Int) = true := valB_iff.2 (by omega)
          simp [chkS, this, hT]
        · have : valB (T : Int) = false := by rw [← Bool.not_eq_true, valB_iff]; omega
          simp [chkS, this, hT]
    · rw [q1]
      have hrd := rdiv_ge (A := A) (n := n) (d := d)
      have hT : ¬ rdiv A n d ≤ 1125899906842624 := by omega
      have w1 : IntKind.wrap .i64 ((d : Int) - 0) = (d : Int) := by rw [wrap64 (by omega) (by omega)]; omega
      have w3 : IntKind.wrap .i64 (0 - (q' : Int)) = -(q' : Int) := by rw [wrap64 (by omega) (by omega)]; omega
      have hd0 : decide ((0 : Int) ≥ (d : Int)) = false := by simp; omega
      simp only [Option.bind_some, w1, hd0, Bool.false_eq_true, if_false, w3, hT]
      by_cases hneg : a < 0
      · have : valB (-(q' : Int)) = false := by rw [← Bool.not_eq_true, valB_iff]; omega
        simp [hneg, checked_p, chkS, this]
      · have : valB (q' : Int) = false := by rw [← Bool.not_eq_true, valB_iff]; omega
        simp [hneg, checked_p, chkS, this]

theorem scale_r1 {N k : Nat} (hN : 5000 ≤ N) {A n d : Nat} (hA : A ≤ 1125899906842624) (hn : n ≤ 1099511627776) (hd : 0 < d) (hd2 : d ≤ 1099511627776) :
    billingref01_Scale_r N (k + 1) A n d = some (if rdiv A n d ≤ 1125899906842624 then ((rdiv A n d : Nat) : Int) else 0, if rdiv A n d ≤ 1125899906842624 then 0 else 6) := by
  have hv : valB (A : Int) = true := valB_iff.2 (by omega)
  have c1 : (((((!true) || (decide ((n : Int) < 0))) || (decide ((n : Int) > 1099511627776))) || (decide ((d : Int) < 1))) || (decide ((d : Int) > 1099511627776))) = false := by
    have a1 : decide ((n : Int) < 0) = false := by simp
    have a2 : decide ((n : Int) > 1099511627776) = false := by simp; omega
    have a3 : decide ((d : Int) < 1) = false := by simp; omega
    have a4 : decide ((d : Int) > 1099511627776) = false := by simp; omega
    rw [a1, a2, a3, a4]; rfl
  have hneg : decide ((A : Int) < 0) = false := by simp
  simp only [billingref01_Scale_r, valid_r, Option.bind_some, hv, c1, Bool.false_eq_true, if_false, hneg, divide_r hN hA hn hd (by omega)]
  have hlt := Nat.mod_lt (A * n) hd
  have hrd := rdiv_ge (A := A) (n := n) (d := d)
  have w1 : IntKind.wrap .i64 (2 * ((A * n % d : Nat) : Int)) = ((2 * (A * n % d) : Nat) : Int) := wrap_two (by omega)
  rw [w1]
  generalize hR : A * n % d = R at *
  have hrdiv : rdiv A n d = if d ≤ 2 * R then A * n / d + 1 else A * n / d := by unfold rdiv; rw [hR]
  generalize hQ : A * n / d = Q at *
  have w2 : IntKind.wrap .i64 (((min Q 288230376151711744 : Nat) : Int) + 1) = ((min Q 288230376151711744 + 1 : Nat) : Int) := by rw [wrap64 (by omega) (by omega)]; omega
  rw [w2]
  generalize rdiv A n d = T at *
  have hfin : ∀ U : Nat, (T ≤ 1125899906842624 → U = T) → (1125899906842624 < T → 1125899906842624 < U) →
      (if (!valB (U : Int)) = true then some ((0 : Int), (6 : Int)) else some ((U : Int), (0 : Int))) = some (if T ≤ 1125899906842624 then (T : Int) else 0, if T ≤ 1125899906842624 then 0 else 6) := by
    intro U h1 h2
    rcases Nat.lt_or_ge 1125899906842624 T with hT | hT
    · have hv2 : valB (U : Int) = false := by have := h2 hT; rw [← Bool.not_eq_true, valB_iff]; omega
      rw [hv2, if_pos (show (!false) = true from rfl), if_neg (Nat.not_le.2 hT), if_neg (Nat.not_le.2 hT)]
    · have hv2 : valB (U : Int) = true := by rw [h1 hT]; exact valB_iff.2 (by omega)
      rw [hv2, if_neg (show ¬ (!true) = true from by simp), if_pos hT, if_pos hT, h1 hT]
  by_cases hc : d ≤ 2 * R
  · rw [if_pos hc] at hrdiv
    have : decide (((2 * R : Nat) : Int) ≥ (d : Int)) = true := decide_eq_true (by omega)
    rw [this, if_pos rfl]
    obtain ⟨U, hU⟩ : ∃ U, U = min Q 288230376151711744 + 1 := ⟨_, rfl⟩
    rw [← hU]
    rw [Option.bind_some]
    exact hfin U (by omega) (by omega)
  · rw [if_neg hc] at hrdiv
    have : decide (((2 * R : Nat) : Int) ≥ (d : Int)) = false := decide_eq_false (by omega)
    rw [this, if_neg (by simp)]
    obtain ⟨U, hU⟩ : ∃ U, U = min Q 288230376151711744 := ⟨_, rfl⟩
    rw [← hU]
    rw [Option.bind_some]
    exact hfin U (by omega) (by omega)

theorem scale_r {N : Nat} (hN : 5000 ≤ N) (a n d : Int) : billingref01_Scale N a n d = some (scaleS a n d) := by
  obtain ⟨k, rfl⟩ : ∃ k, N = k + 2 := ⟨N - 2, by omega⟩
  unfold billingref01_Scale scaleS
  cases hc : (!valB a || decide (n < 0) || decide (n > 1099511627776) || decide (d < 1) || decide (d > 1099511627776)) with
  | true => simp only [billingref01_Scale_r, valid_r, Option.bind_some, hc]; rfl
  | false =>
    have hc' := hc
    simp only [Bool.or_eq_false_iff, Bool.not_eq_false', decide_eq_false_iff_not] at hc
    obtain ⟨⟨⟨⟨h1, h2⟩, h3⟩, h4⟩, h5⟩ := hc
    have hv := valB_iff.1 h1
    obtain ⟨n, rfl⟩ : ∃ m : Nat, n = m := ⟨n.toNat, by omega⟩
    obtain ⟨d, rfl⟩ : ∃ m : Nat, d = m := ⟨d.toNat, by omega⟩
    simp only [cond_false, Int.toNat_natCast]
    generalize hA : a.natAbs = A
    have hA2 : A ≤ 1125899906842624 := by omega
    by_cases hneg : a < 0
    · have w0 : IntKind.wrap .i64 (0 - a) = (A : Int) := by rw [wrap64 (by omega) (by omega)]; omega
      have e := scale_r1 (k := k) hN hA2 (n := n) (d := d) (by omega) (by omega) (by omega)
      rw [show k + 2 = (k + 1) + 1 from rfl]
      rw [show k + 2 = (k + 1) + 1 from rfl] at e
      rw [billingref01_Scale_r]
      simp only [valid_r, Option.bind_some, hc', Bool.false_eq_true, if_false, hneg, decide_true, if_true, w0, e]
      have hrd : rdiv A n d ≤ 1125899906842624 ∨ ¬ rdiv A n d ≤ 1125899906842624 := Nat.lt_or_ge _ _ |>.elim (fun h => .inr (by omega)) (fun h => .inl h)
      rcases hrd with hT | hT
      · simp only [hT, if_true]
        rw [wrap64 (by omega) (by omega)]
        simp
      · simp only [hT, if_false]
        rfl
    · have hAe : a = (A : Int) := by omega
      rw [hAe]
      have e := scale_r1 (k := k + 1) hN hA2 (n := n) (d := d) (by omega) (by omega) (by omega)
      rw [show k + 2 = (k + 1) + 1 from rfl] at e ⊢
      rw [e]
      have : ¬ ((A : Int) < 0) := by omega
      simp only [this, if_false]
      split <;> rfl

def percS (a p : Int) : Int × Int := bif decide (p < 0) || decide (p > 10000) then (0, 6) else scaleS a p 10000
theorem perc_p {N : Nat} (hN : 5000 ≤ N) (a p : Int) : amount_Percent N a p = some (percS a p) := by
  unfold amount_Percent percS
  rw [scale_p hN]
  cases (decide (p < 0) || decide (p > 10000)) <;> rfl
theorem perc_r {N : Nat} (hN : 5000 ≤ N) (a p : Int) : billingref01_Percent N a p = some (percS a p) := by
  unfold billingref01_Percent percS
  rw [scale_r hN]
  cases (decide (p < 0) || decide (p > 10000)) <;> rfl
end Gx

/- Amount, chapter 01: the examples; the statement about products. -/
namespace Gx
open Go Gd
set_option linter.unusedVariables false
set_option linter.unusedSimpArgs false
set_option maxRecDepth 100000

theorem awake01 : billinglaw01_awake (10000 + 64) = some true := by
  have : ∀ M, billinglaw01_awake (M + 64) = some true := fun M => by kernel_rfl
  exact this 10000

theorem same01 {N : Nat} {l : List Int} (hl : l.length ≤ 4096) (hN : 5000 ≤ N) : billingref01_Same N l l = some true := by
  unfold billingref01_Same
  simp only [bne_self_eq_false, Bool.false_eq_true, if_false]
  have key := loop_list (n := N) (s := ()) l (by rw [maxLen_val]; omega) (f := billingref01_Same_l1 N l l) (fun s i => i) (fun i s => True) (fun s xs => .inl ())
    (fun s hI h => by simp [billingref01_Same_l1]) (fun s i x xs hx hlt hidx hw hd hI => .inl ⟨(), by simp [billingref01_Same_l1, hidx, hw]; exact (List.getElem?_eq_some_iff.1 hx).1, trivial, rfl⟩) (by omega) trivial
  rw [show loopN (billingref01_Same_l1 N l l) N 0 = some (.inl ()) from key]
  rfl

theorem law_AmountScales (x0 : Int) (g0 : gd (.int .i64) x0) (x1 : Int) (g1 : gd (.int .i64) x1) (x2 : Int) (g2 : gd (.int .i64) x2) : ∃ N, billinglaw01_AmountScales N x0 x1 x2 = some true := by
  refine ⟨10000 + 64, ?_⟩
  unfold billinglaw01_AmountScales
  rw [scale_p (by omega), scale_r (by omega), awake01]
  simp

end Gx

/- How long a list among the arguments can be: by the bound on what each slice takes. -/
namespace Gx
open Go Gd
set_option linter.unusedVariables false
set_option linter.unusedSimpArgs false

theorem mapM_len {α β : Type} {f : α → Option β} : ∀ {l : List α} {r : List β}, l.mapM f = some r → r.length = l.length
  | [], r, h => by simp at h; subst h; rfl
  | x :: l, r, h => by
    simp only [List.mapM_cons, Option.bind_eq_bind, Option.bind_eq_some_iff, Option.pure_def, Option.some.injEq] at h
    obtain ⟨y, _, ys, h2, rfl⟩ := h
    simp [mapM_len h2]
section
variable {H : Type} {enc : TypeId × Value → H} {P : Program} {W : World} {sp : Nat → Bool}
theorem trod_sl {t e : TypeId} {a : Addr} {n c : Nat} {d : DataW H} {p : List MemPlace} (ht : P.underlying t = some (.slice e)) (h : DataW.Trod enc P W 0 sp true t (.slice (some a) n c) d p) :
    ∃ es rs, d = .slice es rs ∧ es.length = n := by
  obtain ⟨fuel, h⟩ := h
  cases fuel with
  | zero => cases h
  | succ fuel =>
    have hc : (Value.slice (some a) n c).cells.toList = [.slice (some a) n c] := rfl
    rw [hc] at h
    unfold DataW.trod at h
    rw [ht] at h
    simp only at h
    split at h
    · obtain ⟨elems, h1, h2⟩ := Option.bind_eq_some_iff.1 h
      obtain ⟨rest, _, h3⟩ := Option.map_eq_some_iff.1 h2
      simp only [Prod.mk.injEq] at h3
      exact ⟨_, _, h3.1.symm, by rw [List.length_map, mapM_len h1, List.length_range]⟩
    · cases h
theorem weight_sl {us : List TypeId} {gs : List (DataW H)} {e : TypeId} {a : Addr} {n c : Nat} {t : TypeId} (ht : P.underlying t = some (.slice e)) : ∀ {ts : List TypeId} {vs : List Value} {ds : List (DataW H)} {p : List MemPlace} {j : Nat},
    DataW.TrodAll enc P W 0 sp true ts vs ds p → (DataW.weightsEach P (ts ++ us) (ds ++ gs)).all (· ≤ reachBytes) = true → ts[j]? = some t → vs[j]? = some (.slice (some a) n c) → n * P.bytesOf e ≤ reachBytes
  | [], _, _, _, j, _, _, hj, _ => by simp at hj
  | t0 :: ts, [], _, _, j, h, _, _, hv => by simp at hv
  | t0 :: ts, v :: vs, [], _, j, h, _, _, _ => by simp [DataW.TrodAll] at h
  | t0 :: ts, v :: vs, d :: ds, p, 0, h, hw, hj, hv => by
    obtain ⟨p1, q1, h1, _, _⟩ := h
    simp only [List.getElem?_cons_zero, Option.some.injEq] at hj hv
    subst hj hv
    obtain ⟨es, rs, rfl, hl⟩ := trod_sl ht h1
    simp only [List.cons_append, DataW.weightsEach, DataW.weights, ht, List.all_append, List.all_cons, Bool.and_eq_true, decide_eq_true_eq] at hw
    have := hw.1
    rw [← hl]
    exact Nat.le_trans (Nat.mul_le_mul_right _ (by omega)) this
  | t0 :: ts, v :: vs, d :: ds, p, j + 1, h, hw, hj, hv => by
    obtain ⟨p1, q1, _, h2, _⟩ := h
    simp only [List.cons_append, DataW.weightsEach, List.all_append, Bool.and_eq_true] at hw
    exact weight_sl ht h2 hw.2 (by simpa using hj) (by simpa using hv)
theorem weight_of {us : List TypeId} {vars : List String} {apart : Bool} {ts : List TypeId} {vs : List Value} {ds gs : List (DataW H)} {before : List MemPlace} {e t : TypeId} {ty : Ty} {ok : Ok} {w : World} {y : (Ty.sl ty).De} {v : Value} (j : Nat)
    (hW : DataW.Whole enc P ts vars apart W vs ds gs before) (hz : (DataW.weightsEach P (ts ++ us) (ds ++ gs)).all (· ≤ reachBytes) = true)
    (ht : P.underlying t = some (.slice e)) (hj : ts[j]? = some t) (hv : vs[j]? = some v) (h : isV (rt (.sl ty)) ok w y v) : List.length y * P.bytesOf e ≤ reachBytes := by
  obtain ⟨p, q, hA, _⟩ := hW
  obtain ⟨cs, ⟨v', rfl, A, n, c, rfl, hl, hc, hn⟩, hv2⟩ := h
  have hv2 : v = .slice A n c := hv2
  subst hv2
  cases A with
  | none =>
    have h0 : n = 0 := by
      rcases Nat.eq_zero_or_pos n with h0 | h0
      · exact h0
      · obtain ⟨_, _, hh, _⟩ := hn h0; cases hh
    have hl : List.length y = n := hl
    rw [hl, h0, Nat.zero_mul]; exact Nat.zero_le _
  | some a =>
    have := weight_sl ht hA hz hj hv
    have hl : List.length y = n := hl
    rw [hl]; exact this
end
end Gx

/- Amount, chapter 01: sums. -/
namespace Gx
open Go Gd
set_option linter.unusedVariables false
set_option linter.unusedSimpArgs false

def addS (a b : Int) : Int × Int := bif valB a && valB b then chkS (a + b) else (0, 6)
theorem add_p (N : Nat) (a b : Int) : amount_Add N a b = some (addS a b) := by
  unfold amount_Add addS
  simp only [valid_p, Option.bind_some]
  cases h1 : valB a with
  | false => rfl
  | true =>
    cases h2 : valB b with
    | false => rfl
    | true =>
      have b1 := valB_iff.1 h1
      have b2 := valB_iff.1 h2
      simp only [Bool.not_true, Bool.false_eq_true, if_false, Option.bind_some, checked_p, wrap64 (show -9223372036854775808 ≤ a + b by omega) (show a + b < 9223372036854775808 by omega)]
      rfl
theorem add_r (N : Nat) (a b : Int) : billingref01_Add N a b = some (addS a b) := by
  unfold billingref01_Add addS
  simp only [valid_r, Option.bind_some]
  cases h1 : valB a with
  | false => rfl
  | true =>
    cases h2 : valB b with
    | false => rfl
    | true =>
      have b1 := valB_iff.1 h1
      have b2 := valB_iff.1 h2
      simp only [Bool.not_true, Bool.false_eq_true, if_false, Option.bind_some, wrap64 (show -9223372036854775808 ≤ a + b by omega) (show a + b < 9223372036854775808 by omega)]
      unfold chkS
      cases valB (a + b) <;> rfl

theorem law_AmountAdds (x0 : Int) (g0 : gd (.int .i64) x0) (x1 : Int) (g1 : gd (.int .i64) x1) (x2 : List Int) (g2 : gd (.sl (.int .i64)) x2) (w2 : x2.length * 8 ≤ 140737488351232) : ∃ N, billinglaw01_AmountAdds N x0 x1 x2 = some true := by
  refine ⟨10000 + 64, ?_⟩
  unfold billinglaw01_AmountAdds
  rw [awake01]
  split
  · rfl
  · rw [add_p, add_r, app_of (by simp; omega)]
    simp only [Option.bind_some, List.nil_append, sum_p (N := 10000 + 64) (by omega), sum_r (N := 10000 + 64) (by omega), valid_p, valid_r]
    simp
end Gx

