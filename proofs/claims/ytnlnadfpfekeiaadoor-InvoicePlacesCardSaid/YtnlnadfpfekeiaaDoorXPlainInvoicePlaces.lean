/- The plain laws for InvoicePlaces. -/
import Derived.Test.YtnlnadfpfekeiaaDoorXFns
import Derived.Test.YtnlnadfpfekeiaaDoorGPure
import Derived.Laws.Bits128
import Derived.Test.YtnlnadfpfekeiaaDoorXQ
/- Plain facts on loops, numbers, lists. -/
namespace Gx
open Go Gd
set_option linter.unusedVariables false
set_option linter.unusedSimpArgs false

/-- A loop that ends, by an invariant. -/
theorem loopN_inv {σ τ : Type} {f : σ → Option (σ ⊕ τ)} (k : Nat) (I : Nat → σ → Prop) (R : τ → Prop)
    (step : ∀ i s, i ≤ k → I i s → (∃ s', i < k ∧ f s = some (.inl s') ∧ I (i + 1) s') ∨ (∃ r, f s = some (.inr r) ∧ R r)) :
    ∀ {n : Nat} {s : σ}, k < n → I 0 s → ∃ r, loopN f n s = some r ∧ R r := by
  have main : ∀ (d i n : Nat) (s : σ), i + d = k → d < n → I i s → ∃ r, loopN f n s = some r ∧ R r := by
    intro d
    induction d with
    | zero =>
      intro i n s hi hn hI
      obtain ⟨m, rfl⟩ : ∃ m, n = m + 1 := ⟨n - 1, by omega⟩
      rcases step i s (by omega) hI with ⟨s', h, _⟩ | ⟨r, h1, h2⟩
      · omega
      · exact ⟨r, by simp [loopN, h1], h2⟩
    | succ d ih =>
      intro i n s hi hn hI
      obtain ⟨m, rfl⟩ : ∃ m, n = m + 1 := ⟨n - 1, by omega⟩
      rcases step i s (by omega) hI with ⟨s', _, h1, h2⟩ | ⟨r, h1, h2⟩
      · obtain ⟨r, h3, h4⟩ := ih (i + 1) m s' (by omega) (by omega) h2
        exact ⟨r, by simp [loopN, h1, h3], h4⟩
      · exact ⟨r, by simp [loopN, h1], h2⟩
  intro n s hn hI
  exact main k 0 n s (by omega) hn hI

/-- A loop over a list, by its index. -/
theorem loop_list {α σ ρ τ : Type} (l : List α) (hl : l.length ≤ maxLen) {f : ρ → Option (ρ ⊕ τ)} (mk : σ → Int → ρ) (Inv : Nat → σ → Prop) (go : σ → List α → τ)
    (h0 : ∀ s, Inv l.length s → decide (((l.length : Nat) : Int) < (l.length : Int)) = false → f (mk s (l.length : Int)) = some (.inr (go s [])))
    (h1 : ∀ s (i : Nat) x xs, l[i]? = some x → decide ((i : Int) < (l.length : Int)) = true → idx l (i : Int) = some x → IntKind.wrap .i64 ((i : Int) + 1) = ((i + 1 : Nat) : Int) → l.drop i = x :: xs → Inv i s →
      (∃ s', f (mk s (i : Int)) = some (.inl (mk s' ((i + 1 : Nat) : Int))) ∧ Inv (i + 1) s' ∧ go s (x :: xs) = go s' xs) ∨ f (mk s (i : Int)) = some (.inr (go s (x :: xs))))
    {n : Nat} {s : σ} (hn : l.length < n) (hs : Inv 0 s) : loopN f n (mk s 0) = some (go s l) := by
  have main : ∀ (k i n : Nat) (s : σ), l.length = i + k → k < n → Inv i s → loopN f n (mk s (i : Int)) = some (go s (l.drop i)) := by
    intro k
    induction k with
    | zero =>
      intro i n s hk hn hI
      obtain ⟨m, rfl⟩ : ∃ m, n = m + 1 := ⟨n - 1, by omega⟩
      have hi : i = l.length := by omega
      subst hi
      rw [List.drop_length]
      simp [loopN, h0 s hI (by simp)]
    | succ k ih =>
      intro i n s hk hn hI
      obtain ⟨m, rfl⟩ : ∃ m, n = m + 1 := ⟨n - 1, by omega⟩
      have hlt : i < l.length := by omega
      have hd := List.drop_eq_getElem_cons hlt
      rw [hd]
      rcases h1 s i _ _ (List.getElem?_eq_getElem hlt) (by simpa using hlt) (idx_nat (List.getElem?_eq_getElem hlt)) (wrap_succ (by omega)) hd hI with ⟨s', e1, e2, e3⟩ | e1
      · simp only [loopN, e1, Option.bind_some, e3]
        exact ih (i + 1) m s' (by omega) (by omega) e2
      · simp only [loopN, e1, Option.bind_some]
  simpa using main l.length 0 n s (by omega) hn hs

theorem loopN_congr {σ τ : Type} {f g : σ → Option (σ ⊕ τ)} (h : ∀ s, f s = g s) (n : Nat) (s : σ) : loopN f n s = loopN g n s := by rw [show f = g from funext h]

/-- The same loop with another result. -/
theorem loopN_map {σ τ τ' : Type} {f : σ → Option (σ ⊕ τ)} {g : σ → Option (σ ⊕ τ')} (p : τ → τ') (h : ∀ s, g s = (f s).map (fun x => match x with | .inl s' => .inl s' | .inr r => .inr (p r))) :
    ∀ (n : Nat) (s : σ), loopN g n s = (loopN f n s).map p
  | 0, s => rfl
  | n + 1, s => by
    simp only [loopN, h s]
    cases f s with
    | none => rfl
    | some x => cases x with
      | inl s' => simpa using loopN_map p h n s'
      | inr r => rfl

theorem idx_some {α : Type} {l : List α} {i : Int} {x : α} (h : idx l i = some x) : 0 ≤ i ∧ i < l.length ∧ l[i.toNat]? = some x := by
  obtain ⟨h0, h1⟩ := idx_ok h
  obtain ⟨h2, _⟩ := List.getElem?_eq_some_iff.1 h1
  exact ⟨h0, by omega, h1⟩
theorem idx_get {α : Type} {l : List α} {i : Nat} (h : i < l.length) : idx l (i : Int) = some l[i] := idx_nat (List.getElem?_eq_getElem h)
theorem idx_set {α : Type} {l : List α} {i : Nat} {v : α} (h : i < l.length) : idx (l.set i v) (i : Int) = some v := by
  rw [idx_nat]
  rw [List.getElem?_set_self h]
theorem mkL_of {τ : Type} {b n : Nat} {z : τ} (h : b * n ≤ 281474976710656) : mkL b n n z = some (List.replicate n z) := by
  unfold mkL
  have e : ((b * n : Nat) : Int) = (b : Int) * (n : Int) := Int.natCast_mul b n
  have h' : (b : Int) * (n : Int) ≤ 281474976710656 := by rw [← e]; omega
  rw [if_pos ⟨Int.natCast_nonneg n, Int.le_refl _, h'⟩, Int.toNat_natCast]
end Gx

/- Amounts: sums, rounding, ones that are given. -/
namespace Gx
open Go Gd
set_option linter.unusedVariables false
set_option linter.unusedSimpArgs false

/-- Is it an amount? -/
def valB (a : Int) : Bool := decide (a ≥ -1125899906842624) && decide (a ≤ 1125899906842624)
theorem valB_iff {a : Int} : valB a = true ↔ -1125899906842624 ≤ a ∧ a ≤ 1125899906842624 := by simp [valB]
theorem valid_p (N : Nat) (a : Int) : amount_Valid N a = some (valB a) := rfl
theorem valid_r (N : Nat) (a : Int) : billingref01_Valid N a = some (valB a) := rfl
/-- An amount, or an error. -/
def chkS (a : Int) : Int × Int := bif valB a then (a, 0) else (0, 6)
theorem checked_p (N : Nat) (a : Int) : amount_checked N a = some (chkS a) := by
  unfold amount_checked chkS
  rw [valid_p]
  cases valB a <;> rfl

/-! ## Sums -/
def sumS (l : List Int) : Int × Int := if (l.length : Int) > 4096 then (0, 5) else bif l.all valB then chkS l.sum else (0, 6)

theorem sum_bound {l : List Int} (h : l.all valB = true) : -1125899906842624 * (l.length : Int) ≤ l.sum ∧ l.sum ≤ 1125899906842624 * (l.length : Int) := by
  induction l with
  | nil => simp
  | cons x l ih =>
    simp only [List.all_cons, Bool.and_eq_true] at h
    have h1 := valB_iff.1 h.1
    have h2 := ih h.2
    simp only [List.sum_cons, List.length_cons]
    push_cast
    omega

theorem sumLoop {f : Int × Int → Option ((Int × Int) ⊕ (Int ⊕ (Int × Int)))} {l : List Int} (hl : l.length ≤ 4096)
    (hf : ∀ v1 v2, f (v1, v2) = if decide (v2 < (l.length : Int)) = true then (idx l v2).bind fun x => if (!valB x) = true then some (.inr (.inr (0, 6))) else some (.inl (IntKind.wrap .i64 (v1 + x), IntKind.wrap .i64 (v2 + 1))) else some (.inr (.inl v1)))
    {N : Nat} (hN : 5000 ≤ N) : loopN f N (0, 0) = some (bif l.all valB then .inl l.sum else .inr (0, 6)) := by
  have key := loop_list (n := N) (s := 0) l (by rw [maxLen_val]; omega) (f := f) (fun s i => (s, i)) (fun i s => (l.take i).all valB = true ∧ s = (l.take i).sum)
    (fun s xs => bif xs.all valB then .inl (s + xs.sum) else .inr (0, 6)) (fun s hI h => ?_) (fun s i x xs hx hlt hidx hw hd hI => ?_) (by omega) ⟨by simp, by simp⟩
  · rw [key]; simp
  · rw [hf, h]; simp
  · have hi := (List.getElem?_eq_some_iff.1 hx).1
    have ht : l.take (i + 1) = l.take i ++ [x] := by rw [List.take_add_one, hx]; rfl
    rw [hf, hlt, hidx]
    cases hv : valB x with
    | false => exact .inr (by simp [hv])
    | true =>
      refine .inl ⟨s + x, ?_, ⟨by rw [ht, List.all_append, hI.1]; simp [hv], by rw [ht, List.sum_append, ← hI.2]; simp⟩, by simp [hv, Int.add_assoc]⟩
      have h1 := sum_bound hI.1
      rw [← hI.2, List.length_take] at h1
      have h2 := valB_iff.1 hv
      have h3 : IntKind.wrap .i64 (s + x) = s + x := wrap64 (by omega) (by omega)
      simp [hv, h3, hw]

theorem sum_p {N : Nat} (hN : 5000 ≤ N) (l : List Int) : amount_Sum N l = some (sumS l) := by
  unfold amount_Sum sumS
  by_cases h : (l.length : Int) > 4096
  · simp [h]
  · rw [if_neg h, if_neg (by simpa using h), sumLoop (l := l) (by omega) (fun v1 v2 => by simp only [amount_Sum_l1, valid_p]; rfl) hN]
    cases l.all valB <;> simp [checked_p]
theorem sum_r {N : Nat} (hN : 5000 ≤ N) (l : List Int) : billingref01_Sum N l = some (sumS l) := by
  unfold billingref01_Sum sumS
  by_cases h : (l.length : Int) > 4096
  · simp [h]
  · rw [if_neg h, if_neg (by simpa using h), sumLoop (l := l) (by omega) (fun v1 v2 => ?_) hN]
    · cases l.all valB with
      | true =>
        simp only [cond_true, Option.bind_some, valid_r, chkS]
        cases valB l.sum <;> simp
      | false => rfl
    · simp only [billingref01_Sum_l1, valid_r]
      split
      · cases idx l v2 <;> rfl
      · rfl

/-! ## Minor units -/
def rndS (a : Int) : Int := if Int.tmod a 10000 ≥ 5000 then Int.tdiv a 10000 + 1 else if Int.tmod a 10000 ≤ -5000 then Int.tdiv a 10000 - 1 else Int.tdiv a 10000
theorem tdm (a : Int) : Int.tdiv a 10000 * 10000 + Int.tmod a 10000 = a ∧ -10000 < Int.tmod a 10000 ∧ Int.tmod a 10000 < 10000 ∧ (0 ≤ a → 0 ≤ Int.tmod a 10000) ∧ (a ≤ 0 → Int.tmod a 10000 ≤ 0) := by
  have h1 := Int.tmod_def a 10000
  refine ⟨by omega, ?_, ?_, fun h => Int.tmod_nonneg _ h, fun h => ?_⟩
  · have := Int.lt_tmod_of_pos a (b := 10000) (by omega); omega
  · exact Int.tmod_lt_of_pos a (by omega)
  · have := Int.tmod_nonneg 10000 (a := -a) (by omega)
    rw [Int.neg_tmod] at this; omega
theorem rounded_p (N : Nat) {a : Int} (h0 : -9223372036854775808 ≤ a) (h1 : a < 9223372036854775808) : amount_Rounded N a = some (rndS a) := by
  obtain ⟨t1, t2, t3, t4, t5⟩ := tdm a
  have w1 : IntKind.wrap .i64 (Int.tdiv a 10000) = Int.tdiv a 10000 := wrap64 (by omega) (by omega)
  have w2 : IntKind.wrap .i64 (Int.tdiv a 10000 + 1) = Int.tdiv a 10000 + 1 := wrap64 (by omega) (by omega)
  have w3 : IntKind.wrap .i64 (Int.tdiv a 10000 - 1) = Int.tdiv a 10000 - 1 := wrap64 (by omega) (by omega)
  unfold amount_Rounded rndS
  rw [w1, w2, w3]
  simp only [decide_eq_true_eq]
  split
  · rfl
  · split <;> rfl
theorem rounded_r (N : Nat) {a : Int} (h0 : -9223372036854775808 ≤ a) (h1 : a < 9223372036854775808) : billingref01_Rounded N a = some (rndS a) := by
  obtain ⟨t1, t2, t3, t4, t5⟩ := tdm a
  have w1 : IntKind.wrap .i64 (Int.tdiv a 10000) = Int.tdiv a 10000 := wrap64 (by omega) (by omega)
  have w2 : IntKind.wrap .i64 (Int.tdiv a 10000 + 1) = Int.tdiv a 10000 + 1 := wrap64 (by omega) (by omega)
  have w3 : IntKind.wrap .i64 (Int.tdiv a 10000 - 1) = Int.tdiv a 10000 - 1 := wrap64 (by omega) (by omega)
  have w4 : IntKind.wrap .i64 (2 * Int.tmod a 10000) = 2 * Int.tmod a 10000 := wrap64 (by omega) (by omega)
  unfold billingref01_Rounded rndS
  rw [w1, w2, w3, w4]
  simp only [decide_eq_true_eq]
  by_cases c1 : Int.tmod a 10000 ≥ 5000
  · rw [if_pos (by omega), if_pos c1]
  · rw [if_neg (by omega), if_neg c1]
    by_cases c2 : Int.tmod a 10000 ≤ -5000
    · rw [if_pos (by omega), if_pos c2]
    · rw [if_neg (by omega), if_neg c2]

/-! ## Ones that are given -/
def bstep (r : List Int) (b : Int) (i : Nat) : Int := if r.getD i 0 ≥ 0 ∧ (b < 0 ∨ r.getD i 0 > r.getD b.toNat 0) then (i : Int) else b
def bestTo (r : List Int) : Nat → Int
  | 0 => -1
  | i + 1 => bstep r (bestTo r i) i
def bestS (r : List Int) : Int := bestTo r r.length

theorem best_ok (r : List Int) : ∀ k : Nat, (bestTo r k = -1 ∧ ∀ i, i < k → r.getD i 0 < 0) ∨ (∃ j : Nat, bestTo r k = (j : Int) ∧ j < k ∧ 0 ≤ r.getD j 0 ∧ ∀ i, i < k → r.getD i 0 ≤ r.getD j 0)
  | 0 => .inl ⟨rfl, by simp⟩
  | k + 1 => by
    rcases best_ok r k with ⟨h1, h2⟩ | ⟨j, h1, h2, h3, h4⟩
    · simp only [bestTo, bstep, h1]
      by_cases hx : r.getD k 0 ≥ 0
      · refine .inr ⟨k, by rw [if_pos ⟨hx, .inl (by omega)⟩], by omega, hx, fun i hi => ?_⟩
        rcases Nat.lt_or_ge i k with hik | hik
        · have := h2 i hik; omega
        · rw [show i = k by omega]; exact Int.le_refl _
      · refine .inl ⟨by rw [if_neg (fun h => hx h.1)], fun i hi => ?_⟩
        rcases Nat.lt_or_ge i k with hik | hik
        · exact h2 i hik
        · rw [show i = k by omega]; omega
    · simp only [bestTo, bstep, h1, Int.toNat_natCast]
      by_cases hx : r.getD k 0 > r.getD j 0
      · refine .inr ⟨k, by rw [if_pos ⟨by omega, .inr hx⟩], by omega, by omega, fun i hi => ?_⟩
        rcases Nat.lt_or_ge i k with hik | hik
        · have := h4 i hik; omega
        · rw [show i = k by omega]; exact Int.le_refl _
      · refine .inr ⟨j, by rw [if_neg (fun h => h.2.elim (fun h => by omega) hx)], by omega, h3, fun i hi => ?_⟩
        rcases Nat.lt_or_ge i k with hik | hik
        · exact h4 i hik
        · rw [show i = k by omega]; omega

theorem getD_of {l : List Int} {i : Nat} {x : Int} (h : l[i]? = some x) : l.getD i 0 = x := by rw [List.getD_eq_getElem?_getD, h]; rfl
theorem idx_getD {l : List Int} {i : Nat} (h : i < l.length) : idx l (i : Int) = some (l.getD i 0) := by
  rw [idx_get h, List.getD_eq_getElem?_getD, List.getElem?_eq_getElem h]; rfl

theorem bestLoop {N : Nat} (hN : 5000 ≤ N) {r : List Int} (hl : r.length ≤ 4096) : loopN (amount_give_l3 N r) N (-1, 0) = some (bestS r) := by
  have key := loop_list (n := N) (s := (-1 : Int)) r (by rw [maxLen_val]; omega) (f := amount_give_l3 N r) (fun s i => (s, i)) (fun i s => s = bestTo r i)
    (fun s xs => bestS r) (fun s hI h => ?_) (fun s i x xs hx hlt hidx hw hd hI => ?_) (by omega) rfl
  · exact key
  · simp only [amount_give_l3, h]; rw [hI]; rfl
  · refine .inl ⟨bestTo r (i + 1), ?_, rfl, rfl⟩
    have hxD := getD_of hx
    simp only [amount_give_l3, hlt, hidx, Option.bind_some, if_true, decide_eq_true_eq, hw]
    subst hI
    have hil := (List.getElem?_eq_some_iff.1 hx).1
    rcases best_ok r i with ⟨h1, h2⟩ | ⟨j, h1, h2, h3, h4⟩
    · simp only [bestTo, bstep, h1, hxD]
      by_cases h0 : x ≥ 0 <;> simp [h0]
    · have hj : idx r (j : Int) = some (r.getD j 0) := idx_getD (by omega)
      simp only [bestTo, bstep, h1, hxD, hj, Int.toNat_natCast, Option.bind_some]
      by_cases h0 : x ≥ 0
      · have : ¬ ((j : Int) < 0) := by omega
        simp only [h0, if_true, this, if_false, Option.bind_some]
        by_cases h5 : x > r.getD j 0 <;> (rw [List.getD_eq_getElem?_getD] at h5; simp [h5, this])
      · simp [h0]

theorem give_l2_eq (N : Nat) (r : List Int) : ∀ s, billingref01_Give_l3 N r s = amount_give_l3 N r s := by
  rintro ⟨b, i⟩
  simp only [billingref01_Give_l3, amount_give_l3]
  cases h : idx r i with
  | none => simp
  | some x => simp

def cnt (r : List Int) : Nat := r.countP fun x => decide (0 ≤ x)
def giveF : Nat → List Int → List Int → List Int × List Int
  | 0, p, r => (p, r)
  | n + 1, p, r => if bestS r < 0 then (p, r) else giveF n (p.set (bestS r).toNat (p.getD (bestS r).toNat 0 + 1)) (r.set (bestS r).toNat (-1))
theorem bestS_ok (r : List Int) : (bestS r = -1 ∧ ∀ i, i < r.length → r.getD i 0 < 0) ∨ (∃ j : Nat, bestS r = (j : Int) ∧ j < r.length ∧ 0 ≤ r.getD j 0 ∧ ∀ i, i < r.length → r.getD i 0 ≤ r.getD j 0) := best_ok r r.length
theorem cnt_set {r : List Int} {j : Nat} (hj : j < r.length) (h : 0 ≤ r.getD j 0) : cnt (r.set j (-1)) + 1 = cnt r := by
  have hj' : r.getD j 0 = r[j] := by rw [List.getD_eq_getElem?_getD, List.getElem?_eq_getElem hj]; rfl
  rw [hj'] at h
  have hp : 0 < cnt r := List.countP_pos_iff.2 ⟨r[j], List.getElem_mem hj, by simpa using h⟩
  unfold cnt at *
  rw [List.countP_set hj]
  simp [h]
  omega

theorem giveLoop {N : Nat} (hN : 5000 ≤ N) : ∀ (fuel : Nat) (v B : Int) (p r : List Int), cnt r < fuel → p.length = r.length → r.length ≤ 4096 → v < 9223372036854775808 → (∀ x ∈ p, -4611686018427387904 ≤ x ∧ x ≤ B) → B + fuel ≤ 4611686018427387904 →
    ∃ x, loopN (amount_give_l4 N) fuel (v, p, r) = some x ∧ (match x with | .inl q => q | .inr q => q) = giveF v.toNat p r
  | 0, v, B, p, r, hc, _, _, _, _, _ => by omega
  | fuel + 1, v, B, p, r, hc, hl, hL, hv, hp, hB => by
    simp only [loopN, amount_give_l4, decide_eq_true_eq]
    by_cases h0 : v > 0
    · rw [if_pos h0, bestLoop hN hL]
      obtain ⟨m, hm⟩ : ∃ m, v.toNat = m + 1 := ⟨v.toNat - 1, by omega⟩
      rw [hm]
      rcases bestS_ok r with ⟨h1, h2⟩ | ⟨j, h1, h2, h3, h4⟩
      · refine ⟨.inr (p, r), by simp [h1], by simp [giveF, h1]⟩
      · have hj : ¬ ((j : Int) < 0) := by omega
        have hpj : p.getD j 0 ∈ p := by
          have : j < p.length := by omega
          rw [List.getD_eq_getElem?_getD, List.getElem?_eq_getElem this]; exact List.getElem_mem this
        have hb := hp _ hpj
        have hw1 : IntKind.wrap .i64 (p.getD j 0 + 1) = p.getD j 0 + 1 := wrap64 (by omega) (by omega)
        have hw2 : IntKind.wrap .i64 (v - 1) = v - 1 := wrap64 (by omega) (by omega)
        have e1 : idx p (j : Int) = some (p.getD j 0) := idx_getD (by omega)
        have e2 : idx r (j : Int) = some (r.getD j 0) := idx_getD h2
        have hc' := cnt_set h2 h3
        obtain ⟨x, q1, q2⟩ := giveLoop hN fuel (v - 1) (B + 1) (p.set j (p.getD j 0 + 1)) (r.set j (-1)) (by omega) (by simpa using hl) (by simpa using hL) (by omega) (fun x hx => by
          rcases List.mem_or_eq_of_mem_set hx with hx | rfl
          · have := hp x hx; omega
          · omega) (by push_cast at hB ⊢; omega)
        refine ⟨x, ?_, ?_⟩
        · simp only [h1, Option.bind_some, hj, if_false, e1, e2, hw1, hw2, Int.toNat_natCast]
          exact q1
        · rw [q2]
          simp only [giveF, h1, hj, if_false, Int.toNat_natCast]
          rw [show (v - 1).toNat = m by omega]
    · refine ⟨.inl (p, r), by simp [h0], ?_⟩
      rw [show v.toNat = 0 by omega]; rfl

theorem cnt_le (r : List Int) : cnt r ≤ r.length := List.countP_le_length
theorem give_p {N : Nat} (hN : 5000 ≤ N) {v : Int} {p r : List Int} (hl : p.length = r.length) (hL : r.length ≤ 4096) (hv : v < 9223372036854775808) (hp : ∀ x ∈ p, -4503599627370496 ≤ x ∧ x ≤ 4503599627370496) :
    amount_give N v p r = some (giveF v.toNat p r) := by
  unfold amount_give
  obtain ⟨k, rfl⟩ : ∃ k, N = 5000 + k := ⟨N - 5000, by omega⟩
  have hgen : ∀ (f : Nat) (n : Nat) (s : Int × List Int × List Int) x, loopN (amount_give_l4 (5000 + k)) n s = some x → loopN (amount_give_l4 (5000 + k)) (n + f) s = some x := by
    intro f n
    induction n with
    | zero => intro s x h; cases h
    | succ n ih =>
      intro s x h
      rw [show n + 1 + f = (n + f) + 1 by omega]
      simp only [loopN] at h ⊢
      cases hs : amount_give_l4 (5000 + k) s with
      | none => rw [hs] at h; cases h
      | some y =>
        rw [hs] at h
        cases y with
        | inl s' => exact ih s' x h
        | inr r => exact h
  have hc := cnt_le r
  obtain ⟨x, q1, q2⟩ := giveLoop (N := 5000 + k) hN 5000 v 4503599627370496 p r (by omega) hl hL hv (fun x hx => by have := hp x hx; omega) (by omega)
  rw [hgen k 5000 _ x q1, ← q2]
  cases x <;> rfl
theorem give_r {N : Nat} (hN : 5000 ≤ N) {v : Int} {p r : List Int} (hl : p.length = r.length) (hL : r.length ≤ 4096) (hv : v < 9223372036854775808) (hp : ∀ x ∈ p, -4503599627370496 ≤ x ∧ x ≤ 4503599627370496) :
    billingref01_Give N p r v = some (giveF v.toNat p r).1 := by
  have h := give_p hN hl hL hv hp
  unfold amount_give at h
  unfold billingref01_Give
  rw [app_of (by simp; omega), app_of (by simp; omega)]
  simp only [List.nil_append, Option.bind_some]
  rw [loopN_map (f := amount_give_l4 N) (fun x => match x with | .inl q => .inl q.1 | .inr q => .inr q.1) ?_]
  · cases hx : loopN (amount_give_l4 N) N (v, p, r) with
    | none => rw [hx] at h; cases h
    | some x =>
      rw [hx] at h
      cases x with
      | inl q => simp only [Option.bind_some, Option.some.injEq] at h; rw [← h]; rfl
      | inr q => simp only [Option.bind_some, Option.some.injEq] at h; rw [← h]; rfl
  · rintro ⟨v, p, r⟩
    simp only [billingref01_Give_l4, amount_give_l4]
    rw [loopN_congr (give_l2_eq N r)]
    split
    · cases loopN (amount_give_l3 N r) N (-1, 0) with
      | none => rfl
      | some b =>
        simp only [Option.bind_some]
        split
        · rfl
        · cases idx p b with
          | none => rfl
          | some x => cases idx r b <;> rfl
    · rfl

/-! ## Rounded amounts that add up -/
def floS (l : List Int) : List Int := l.map (· / 10000)
def resS (l : List Int) : List Int := l.map (· % 10000)
def roundS (l : List Int) : List Int := if (l.length : Int) > 4096 then [] else bif l.all valB then (giveF (rndS l.sum - (floS l).sum).toNat (floS l) (resS l)).1 else []

theorem rest_eq {a : Int} (h : valB a = true) : Int.tmod (IntKind.wrap .i64 (Int.tmod a 10000 + 10000)) 10000 = a % 10000 := by
  obtain ⟨t1, t2, t3, _⟩ := tdm a
  rw [wrap64 (by omega) (by omega), Int.tmod_eq_emod_of_nonneg (by omega)]
  omega
theorem part_eq {a : Int} (h : valB a = true) : IntKind.wrap .i64 (Int.tdiv (IntKind.wrap .i64 (a - a % 10000)) 10000) = a / 10000 := by
  have h1 := valB_iff.1 h
  rw [wrap64 (n := a - a % 10000) (by omega) (by omega), show a - a % 10000 = 10000 * (a / 10000) by omega, Int.mul_tdiv_cancel_left _ (by omega)]
  exact wrap64 (by omega) (by omega)
theorem flo_bound {l : List Int} (h : l.all valB = true) : (∀ x ∈ floS l, -4503599627370496 ≤ x ∧ x ≤ 4503599627370496) ∧ -112589990685 * (l.length : Int) ≤ (floS l).sum ∧ (floS l).sum ≤ 112589990685 * (l.length : Int) := by
  induction l with
  | nil => simp [floS]
  | cons x l ih =>
    simp only [List.all_cons, Bool.and_eq_true] at h
    have h1 := valB_iff.1 h.1
    obtain ⟨h2, h3, h4⟩ := ih h.2
    simp only [floS, List.map_cons, List.sum_cons, List.length_cons] at *
    refine ⟨fun y hy => ?_, by push_cast; omega, by push_cast; omega⟩
    rcases List.mem_cons.1 hy with rfl | hy
    · omega
    · exact h2 y hy

theorem take_snoc {α : Type} {l : List α} {i : Nat} {x : α} (h : l[i]? = some x) : l.take (i + 1) = l.take i ++ [x] := by rw [List.take_add_one, h]; rfl
theorem all_take {l : List Int} {i : Nat} {x : Int} (h : (l.take i).all valB = true) (hx : l[i]? = some x) (hv : valB x = true) : (l.take (i + 1)).all valB = true := by
  rw [take_snoc hx, List.all_append, h]; simp [hv]
theorem all_false {l : List Int} {i : Nat} {x : Int} (hx : l[i]? = some x) (hv : valB x = false) : l.all valB = false := by
  cases h : l.all valB with
  | false => rfl
  | true => rw [List.all_eq_true.1 h x (List.mem_of_getElem? hx)] at hv; cases hv
theorem sums_take {l : List Int} (i : Nat) (h : (l.take i).all valB = true) (hl : l.length ≤ 4096) : -4611686018427387904 ≤ (l.take i).sum ∧ (l.take i).sum ≤ 4611686018427387904 ∧ -4611686018427387904 ≤ (floS (l.take i)).sum ∧ (floS (l.take i)).sum ≤ 4611686018427387904 := by
  have h1 := sum_bound h
  have h2 := (flo_bound h).2
  have h3 : (l.take i).length ≤ 4096 := by rw [List.length_take]; omega
  omega

theorem roundLoop_p {N : Nat} (hN : 5000 ≤ N) {l : List Int} (hl : l.length ≤ 4096) :
    loopN (amount_Round_l1 N l) N (0, 0, 0, List.replicate l.length 0, List.replicate l.length 0) = some (bif l.all valB then .inl (l.sum, (floS l).sum, floS l, resS l) else .inr ()) := by
  refine loop_list (n := N) (s := ((0 : Int), (0 : Int), List.replicate l.length (0 : Int), List.replicate l.length (0 : Int))) l (by rw [maxLen_val]; omega) (f := amount_Round_l1 N l) (fun s i => (s.1, s.2.1, i, s.2.2.1, s.2.2.2))
    (fun i s => (l.take i).all valB = true ∧ s = ((l.take i).sum, (floS (l.take i)).sum, floS (l.take i) ++ List.replicate (l.length - i) 0, resS (l.take i) ++ List.replicate (l.length - i) 0))
    (fun s xs => bif l.all valB then .inl (l.sum, (floS l).sum, floS l, resS l) else .inr ()) (fun s hI h => ?_) (fun s i x xs hx hlt hidx hw hd hI => ?_) (by omega) ⟨by simp, by simp [floS, resS]⟩
  · obtain ⟨h1, h2⟩ := hI
    rw [List.take_length] at h1 h2
    rw [h2, h1]
    simp [amount_Round_l1]
  · obtain ⟨h1, h2⟩ := hI
    have hil := (List.getElem?_eq_some_iff.1 hx).1
    simp only [amount_Round_l1, hlt, hidx, if_true, Option.bind_some, valid_p]
    cases hv : valB x with
    | false => exact .inr (by rw [all_false hx hv]; simp)
    | true =>
      refine .inl ⟨((l.take (i + 1)).sum, (floS (l.take (i + 1))).sum, floS (l.take (i + 1)) ++ List.replicate (l.length - (i + 1)) 0, resS (l.take (i + 1)) ++ List.replicate (l.length - (i + 1)) 0), ?_, ⟨all_take h1 hx hv, rfl⟩, by trivial⟩
      have b1 := sums_take (i + 1) (all_take h1 hx hv) hl
      rw [h2]
      have e1 : (floS (l.take i) ++ List.replicate (l.length - i) (0 : Int)).length = l.length := by simp [floS]; omega
      have e2 : (resS (l.take i) ++ List.replicate (l.length - i) (0 : Int)).length = l.length := by simp [resS]; omega
      have s1 : ∀ v : Int, (floS (l.take i) ++ List.replicate (l.length - i) (0 : Int)).set i v = floS (l.take i) ++ v :: List.replicate (l.length - (i + 1)) 0 := by
        intro v
        rw [show l.length - i = (l.length - (i + 1)) + 1 by omega, List.replicate_succ, List.set_append_right _ _ (by simp [floS]; omega)]
        rw [show i - (floS (l.take i)).length = 0 by simp [floS]; omega]
        rfl
      have s2 : ∀ v : Int, (resS (l.take i) ++ List.replicate (l.length - i) (0 : Int)).set i v = resS (l.take i) ++ v :: List.replicate (l.length - (i + 1)) 0 := by
        intro v
        rw [show l.length - i = (l.length - (i + 1)) + 1 by omega, List.replicate_succ, List.set_append_right _ _ (by simp [resS]; omega)]
        rw [show i - (resS (l.take i)).length = 0 by simp [resS]; omega]
        rfl
      have i1 : idx (floS (l.take i) ++ List.replicate (l.length - i) (0 : Int)) (i : Int) = some ((floS (l.take i) ++ List.replicate (l.length - i) (0 : Int)).getD i 0) := idx_getD (by rw [e1]; exact hil)
      have i2 : idx (resS (l.take i) ++ List.replicate (l.length - i) (0 : Int)) (i : Int) = some ((resS (l.take i) ++ List.replicate (l.length - i) (0 : Int)).getD i 0) := idx_getD (by rw [e2]; exact hil)
      have i3 : ∀ v : Int, idx (resS (l.take i) ++ v :: List.replicate (l.length - (i + 1)) (0 : Int)) (i : Int) = some v := fun v => by rw [← s2]; exact idx_set (by rw [e2]; exact hil)
      have i4 : ∀ v : Int, idx (floS (l.take i) ++ v :: List.replicate (l.length - (i + 1)) (0 : Int)) (i : Int) = some v := fun v => by rw [← s1]; exact idx_set (by rw [e1]; exact hil)
      have ts : (l.take (i + 1)).sum = (l.take i).sum + x := by rw [take_snoc hx, List.sum_append]; simp
      have tf : (floS (l.take (i + 1))).sum = (floS (l.take i)).sum + x / 10000 := by rw [take_snoc hx]; simp [floS, List.sum_append]
      have w1 : IntKind.wrap .i64 ((l.take i).sum + x) = (l.take i).sum + x := wrap64 (by omega) (by omega)
      have w2 : IntKind.wrap .i64 ((floS (l.take i)).sum + x / 10000) = (floS (l.take i)).sum + x / 10000 := wrap64 (by omega) (by omega)
      simp only [Bool.not_true, if_false, Bool.false_eq_true, i1, i2, i3, i4, Option.bind_some, Int.toNat_natCast, rest_eq hv, part_eq hv, w1, w2, hw, s1, s2]
      rw [ts, tf, take_snoc hx]
      simp [floS, resS]

theorem roundLoop_r {N : Nat} (hN : 5000 ≤ N) {l : List Int} (hl : l.length ≤ 4096) :
    loopN (billingref01_Round_l1 N l) N (0, 0, 0, [], []) = some (bif l.all valB then .inl (l.sum, (floS l).sum, floS l, resS l) else .inr ()) := by
  refine loop_list (n := N) (s := ((0 : Int), (0 : Int), ([] : List Int), ([] : List Int))) l (by rw [maxLen_val]; omega) (f := billingref01_Round_l1 N l) (fun s i => (s.1, s.2.1, i, s.2.2.1, s.2.2.2))
    (fun i s => (l.take i).all valB = true ∧ s = ((l.take i).sum, (floS (l.take i)).sum, floS (l.take i), resS (l.take i)))
    (fun s xs => bif l.all valB then .inl (l.sum, (floS l).sum, floS l, resS l) else .inr ()) (fun s hI h => ?_) (fun s i x xs hx hlt hidx hw hd hI => ?_) (by omega) ⟨by simp, by simp [floS, resS]⟩
  · obtain ⟨h1, h2⟩ := hI
    rw [List.take_length] at h1 h2
    rw [h2, h1]
    simp [billingref01_Round_l1]
  · obtain ⟨h1, h2⟩ := hI
    have hil := (List.getElem?_eq_some_iff.1 hx).1
    simp only [billingref01_Round_l1, hlt, hidx, if_true, Option.bind_some, valid_r]
    cases hv : valB x with
    | false => exact .inr (by rw [all_false hx hv]; simp)
    | true =>
      refine .inl ⟨((l.take (i + 1)).sum, (floS (l.take (i + 1))).sum, floS (l.take (i + 1)), resS (l.take (i + 1))), ?_, ⟨all_take h1 hx hv, rfl⟩, by trivial⟩
      have b1 := sums_take (i + 1) (all_take h1 hx hv) hl
      rw [h2]
      have ts : (l.take (i + 1)).sum = (l.take i).sum + x := by rw [take_snoc hx, List.sum_append]; simp
      have tf : (floS (l.take (i + 1))).sum = (floS (l.take i)).sum + x / 10000 := by rw [take_snoc hx]; simp [floS, List.sum_append]
      have w1 : IntKind.wrap .i64 ((l.take i).sum + x) = (l.take i).sum + x := wrap64 (by omega) (by omega)
      have w2 : IntKind.wrap .i64 ((floS (l.take i)).sum + x / 10000) = (floS (l.take i)).sum + x / 10000 := wrap64 (by omega) (by omega)
      have a1 : app 8 (floS (l.take i)) [x / 10000] = some (floS (l.take i) ++ [x / 10000]) := app_of (by simp [floS]; omega)
      have a2 : app 8 (resS (l.take i)) [x % 10000] = some (resS (l.take i) ++ [x % 10000]) := app_of (by simp [resS]; omega)
      simp only [Bool.not_true, if_false, Bool.false_eq_true, Option.bind_some, rest_eq hv, part_eq hv, w1, w2, hw, a1, a2]
      rw [ts, tf, take_snoc hx]
      simp [floS, resS]

theorem rnd_bound {a : Int} : a - 5000 ≤ 10000 * rndS a ∧ 10000 * rndS a ≤ a + 5000 := by
  obtain ⟨t1, t2, t3, t4, t5⟩ := tdm a
  unfold rndS
  split
  · omega
  · split <;> omega
theorem round_give {l : List Int} (hl : l.length ≤ 4096) (h : l.all valB = true) : IntKind.wrap .i64 (rndS l.sum - (floS l).sum) = rndS l.sum - (floS l).sum ∧ (floS l).length = (resS l).length ∧ (resS l).length ≤ 4096 ∧ rndS l.sum - (floS l).sum < 9223372036854775808 ∧
    (∀ x ∈ floS l, -4503599627370496 ≤ x ∧ x ≤ 4503599627370496) ∧ -9223372036854775808 ≤ l.sum ∧ l.sum < 9223372036854775808 := by
  have h1 := sum_bound h
  obtain ⟨h2, h3, h4⟩ := flo_bound h
  have h5 := rnd_bound (a := l.sum)
  have h6 : (l.length : Int) ≤ 4096 := by omega
  exact ⟨wrap64 (by omega) (by omega), by simp [floS, resS], by simpa [resS] using hl, by omega, h2, by omega, by omega⟩

theorem round_p {N : Nat} (hN : 5000 ≤ N) (l : List Int) : amount_Round N l = some (roundS l) := by
  unfold amount_Round roundS
  by_cases h : (l.length : Int) > 4096
  · simp [h]
  · rw [if_neg h, if_neg (by simpa using h)]
    have hl : l.length ≤ 4096 := by omega
    have hm : mkL 8 (l.length : Int) (l.length : Int) (0 : Int) = some (List.replicate l.length 0) := mkL_of (by omega)
    rw [hm]
    simp only [Option.bind_some]
    rw [roundLoop_p hN hl]
    cases hv : l.all valB with
    | false => rfl
    | true =>
      obtain ⟨r1, r2, r3, r4, r5, r6, r7⟩ := round_give hl hv
      simp only [cond_true, Option.bind_some]
      rw [rounded_p N r6 r7]
      simp only [Option.bind_some]
      rw [r1, give_p hN r2 r3 r4 r5]
      rfl
theorem round_r {N : Nat} (hN : 5000 ≤ N) (l : List Int) : billingref01_Round N l = some (roundS l) := by
  unfold billingref01_Round roundS
  by_cases h : (l.length : Int) > 4096
  · simp [h]
  · rw [if_neg h, if_neg (by simpa using h)]
    have hl : l.length ≤ 4096 := by omega
    rw [roundLoop_r hN hl]
    cases hv : l.all valB with
    | false => rfl
    | true =>
      obtain ⟨r1, r2, r3, r4, r5, r6, r7⟩ := round_give hl hv
      simp only [cond_true, Option.bind_some]
      rw [rounded_r N r6 r7]
      simp only [Option.bind_some]
      rw [r1, give_r hN r2 r3 r4 r5]
      rfl
end Gx

/- Amounts: products and quotients. -/
namespace Gx
open Go Gd
set_option linter.unusedVariables false
set_option linter.unusedSimpArgs false

theorem i64_and1 (n : Int) : Go.bits .and .i64 n 1 = n % 2 := by
  have h127 : (BitVec.ofInt 64 1).toNat = 2 ^ 1 - 1 := by decide
  have key : (BitVec.ofInt 64 n &&& BitVec.ofInt 64 1).toNat = (n % ((2 ^ 64 : Nat) : Int)).toNat % 2 ^ 1 := by
    rw [BitVec.toNat_and, BitVec.toNat_ofInt, h127, Nat.and_two_pow_sub_one_eq_mod]
  show IntKind.i64.wrap ((BitVec.ofInt 64 n &&& BitVec.ofInt 64 1).toNat : Nat) = n % 2
  rw [key, IntKind.wrap_i64]
  omega

theorem dm_step {A m d b q r : Nat} (hd : 0 < d) (hq : q = A * m / d) (hr : r = A * m % d) (x : Nat) (hx : A * (2 * m + b) = 2 * (A * m) + x) :
    A * (2 * m + b) / d = 2 * q + (2 * r + x) / d ∧ A * (2 * m + b) % d = (2 * r + x) % d := by
  have h1 : A * m = d * q + r := by rw [hq, hr]; exact (Nat.div_add_mod _ _).symm
  have h2 : A * (2 * m + b) = (2 * r + x) + d * (2 * q) := by rw [hx, h1, Nat.mul_add, ← Nat.mul_assoc 2 d q, Nat.mul_comm 2 d, Nat.mul_assoc]; omega
  rw [h2]
  refine ⟨?_, Nat.add_mul_mod_self_left _ _ _⟩
  rw [Nat.add_mul_div_left _ _ hd]; omega

theorem shr_nat (n b : Nat) (hb : b ≤ 62) : shrW .i64 (n : Int) (b : Int) = some ((n / 2 ^ b : Nat) : Int) := by
  unfold shrW
  rw [if_neg (by omega)]
  have : min ((b : Int)).toNat (IntKind.bits .i64) = b := by
    rw [Int.toNat_natCast]; show min b 64 = b; omega
  rw [this]
  congr 1
  rw [Int.fdiv_eq_ediv_of_nonneg _ (by exact_mod_cast Nat.zero_le _)]
  rw [Int.natCast_ediv]; congr 1
theorem wrap_nat {z : Nat} (h : z < 9223372036854775808) : IntKind.wrap .i64 (z : Int) = (z : Int) := wrap64 (by omega) (by omega)
theorem wrap_add_nat {x y : Nat} (h : x + y < 9223372036854775808) : IntKind.wrap .i64 ((x : Int) + (y : Int)) = ((x + y : Nat) : Int) := by rw [← Int.natCast_add]; exact wrap_nat h
theorem wrap_two {x : Nat} (h : 2 * x < 9223372036854775808) : IntKind.wrap .i64 (2 * (x : Int)) = ((2 * x : Nat) : Int) := by rw [wrap64 (by omega) (by omega)]; omega
theorem quo_nat (x y : Nat) (hy : 0 < y) (hx : x < 9223372036854775808) : quoW .i64 (x : Int) (y : Int) = some ((x / y : Nat) : Int) := by
  unfold quoW
  rw [if_neg (by omega), ← Int.ofNat_tdiv]
  have := Nat.div_le_self x y
  rw [wrap_nat (by omega)]
theorem rem_nat (x y : Nat) (hy : 0 < y) : remW (x : Int) (y : Int) = some ((x % y : Nat) : Int) := by
  unfold remW
  rw [if_neg (by omega), ← Int.ofNat_tmod]

theorem half_pow (n b : Nat) : n / 2 ^ b = 2 * (n / 2 ^ (b + 1)) + n / 2 ^ b % 2 := by
  have : n / 2 ^ (b + 1) = n / 2 ^ b / 2 := by rw [Nat.pow_succ, Nat.div_div_eq_div_mul]
  omega

theorem divLoop_p (N : Nat) {A n d : Nat} (hA : A ≤ 1125899906842624) (hn : n ≤ 1099511627776) (hd : 0 < d) (hd2 : d ≤ 70368744177664) : ∀ (b q r fuel : Nat), b ≤ 63 → b < fuel → q = A * (n / 2 ^ b) / d → r = A * (n / 2 ^ b) % d → q ≤ 2251799813685248 →
    ∃ x, loopN (amount_divide_l1 N n A d) fuel ((q : Int), (r : Int), (b : Int) - 1) = some x ∧
      ((x = .inl (((A * n / d : Nat) : Int), ((A * n % d : Nat) : Int)) ∧ A * n / d ≤ 2251799813685248) ∨ ∃ q' : Nat, x = .inr ((q' : Int), 0) ∧ 2251799813685248 < q' ∧ q' ≤ A * n / d ∧ q' < 9007199254740992)
  | 0, q, r, fuel, hb, hf, hq, hr, hle => by
    obtain ⟨m, rfl⟩ : ∃ m, fuel = m + 1 := ⟨fuel - 1, by omega⟩
    simp only [Nat.pow_zero, Nat.div_one] at hq hr
    exact ⟨_, by simp [loopN, amount_divide_l1]; rfl, .inl ⟨by rw [hq, hr], by omega⟩⟩
  | b + 1, q, r, fuel, hb, hf, hq, hr, hle => by
    obtain ⟨f, rfl⟩ : ∃ m, fuel = m + 1 := ⟨fuel - 1, by omega⟩
    have hm := half_pow n b
    generalize hm' : n / 2 ^ b = m' at *
    have hr2 : r < d := by rw [hr]; exact Nat.mod_lt _ hd
    have hAd : A % d < d := Nat.mod_lt _ hd
    have hAq : A / d ≤ A := Nat.div_le_self _ _
    have hAdm : A = d * (A / d) + A % d := (Nat.div_add_mod _ _).symm
    have hm2 : m' ≤ n := by rw [← hm']; exact Nat.div_le_self _ _
    have hmono : A * m' / d ≤ A * n / d := Nat.div_le_div_right (Nat.mul_le_mul_left _ hm2)
    have e0 : (((b + 1 : Nat) : Int) - 1) = (b : Int) := by omega
    have e1 : IntKind.wrap .i64 ((b : Int) - 1) = (b : Int) - 1 := wrap64 (by omega) (by omega)
    simp only [loopN, amount_divide_l1, e0, e1, show (decide ((b : Int) ≥ 0)) = true by simp, if_true, shr_nat n b (by omega), hm', Option.bind_some, i64_and1]
    -- what the bit adds
    have w1 : IntKind.wrap .i64 (2 * (q : Int)) = ((2 * q : Nat) : Int) := wrap_two (by omega)
    have w2 : IntKind.wrap .i64 (2 * (r : Int)) = ((2 * r : Nat) : Int) := wrap_two (by omega)
    have fin : ∀ x : Nat, A * (2 * (n / 2 ^ (b + 1)) + m' % 2) = 2 * (A * (n / 2 ^ (b + 1))) + x → ∀ q1 r1 : Nat, 2 * q + (2 * r + x) / d = q1 + r1 / d → (2 * r + x) % d = r1 % d → r1 ≤ 3 * 70368744177664 → q1 ≤ 6755399441055744 →
        ∃ y, ((quoW .i64 (r1 : Int) (d : Int)).bind fun n9 => (remW (r1 : Int) (d : Int)).bind fun n10 => if (decide ((IntKind.wrap .i64 ((q1 : Int) + n9)) > 2251799813685248)) = true then some (.inr (.inr ((IntKind.wrap .i64 ((q1 : Int) + n9)), (0 : Int)))) else some (.inl ((IntKind.wrap .i64 ((q1 : Int) + n9)), n10, (b : Int) - 1)) : Option ((Int × Int × Int) ⊕ ((Int × Int) ⊕ (Int × Int)))) = some y ∧
          ((∃ q2 r2 : Nat, y = .inl ((q2 : Int), (r2 : Int), (b : Int) - 1) ∧ q2 = A * m' / d ∧ r2 = A * m' % d ∧ q2 ≤ 2251799813685248) ∨ ∃ q' : Nat, y = .inr (.inr ((q' : Int), 0)) ∧ 2251799813685248 < q' ∧ q' ≤ A * n / d ∧ q' < 9007199254740992) := by
      intro x hx q1 r1 hq1 hr1 hb1 hb2
      obtain ⟨s1, s2⟩ := dm_step hd hq hr x hx
      rw [← hm] at s1 s2
      have hdiv := Nat.div_le_self r1 d
      rw [quo_nat r1 d hd (by omega), rem_nat r1 d hd]
      simp only [Option.bind_some]
      have w3 : IntKind.wrap .i64 ((q1 : Int) + ((r1 / d : Nat) : Int)) = ((q1 + r1 / d : Nat) : Int) := wrap_add_nat (by omega)
      rw [w3, ← hq1, ← s1]
      by_cases hgt : ((A * m' / d : Nat) : Int) > 2251799813685248
      · rw [if_pos (by simpa using hgt)]
        refine ⟨_, rfl, .inr ⟨A * m' / d, rfl, by omega, hmono, by omega⟩⟩
      · rw [if_neg (by simpa using hgt)]
        refine ⟨_, rfl, .inl ⟨A * m' / d, A * m' % d, by rw [s2, ← hr1], rfl, rfl, by omega⟩⟩
    rcases Nat.mod_two_eq_zero_or_one m' with hbit | hbit
    · have hb0 : ((((m' : Nat) : Int) % 2) == 1) = false := by
        have : ((m' : Int) % 2) = 0 := by omega
        rw [this]; rfl
      rw [hb0]
      simp only [Bool.false_eq_true, if_false, Option.bind_some, w1, w2]
      obtain ⟨y, hy1, hy2⟩ := fin 0 (by rw [hbit]; simp [Nat.mul_add, Nat.mul_left_comm]) (2 * q) (2 * r) rfl rfl (by omega) (by omega)
      rw [hy1]
      rcases hy2 with ⟨q2, r2, rfl, h1, h2, h3⟩ | ⟨q', rfl, h1, h2, h3⟩
      · exact divLoop_p N hA hn hd hd2 b q2 r2 f (by omega) (by omega) (by rw [hm']; exact h1) (by rw [hm']; exact h2) h3
      · exact ⟨_, rfl, .inr ⟨q', rfl, h1, h2, h3⟩⟩
    · have hb1 : ((((m' : Nat) : Int) % 2) == 1) = true := by
        have : ((m' : Int) % 2) = 1 := by omega
        rw [this]; rfl
      rw [hb1]
      simp only [if_true, Option.bind_some, w1, w2, quo_nat A d hd (by omega), rem_nat A d hd]
      have w4 : IntKind.wrap .i64 (((2 * q : Nat) : Int) + ((A / d : Nat) : Int)) = ((2 * q + A / d : Nat) : Int) := wrap_add_nat (by omega)
      have w5 : IntKind.wrap .i64 (((2 * r : Nat) : Int) + ((A % d : Nat) : Int)) = ((2 * r + A % d : Nat) : Int) := wrap_add_nat (by omega)
      rw [w4, w5]
      obtain ⟨y, hy1, hy2⟩ := fin A (by rw [hbit]; simp [Nat.mul_add, Nat.mul_left_comm]) (2 * q + A / d) (2 * r + A % d) (by
        have : 2 * r + A = (2 * r + A % d) + d * (A / d) := by omega
        rw [this, Nat.add_mul_div_left _ _ hd]; omega) (by
        have : 2 * r + A = (2 * r + A % d) + d * (A / d) := by omega
        rw [this, Nat.add_mul_mod_self_left]) (by omega) (by omega)
      rw [hy1]
      rcases hy2 with ⟨q2, r2, rfl, h1, h2, h3⟩ | ⟨q', rfl, h1, h2, h3⟩
      · exact divLoop_p N hA hn hd hd2 b q2 r2 f (by omega) (by omega) (by rw [hm']; exact h1) (by rw [hm']; exact h2) h3
      · exact ⟨_, rfl, .inr ⟨q', rfl, h1, h2, h3⟩⟩

theorem divide_p {N : Nat} (hN : 5000 ≤ N) {A n d : Nat} (hA : A ≤ 1125899906842624) (hn : n ≤ 1099511627776) (hd : 0 < d) (hd2 : d ≤ 70368744177664) :
    (amount_divide N A n d = some (((A * n / d : Nat) : Int), ((A * n % d : Nat) : Int)) ∧ A * n / d ≤ 2251799813685248) ∨ ∃ q' : Nat, amount_divide N A n d = some ((q' : Int), 0) ∧ 2251799813685248 < q' ∧ q' ≤ A * n / d ∧ q' < 9007199254740992 := by
  have h0 : n / 2 ^ 63 = 0 := Nat.div_eq_of_lt (by omega)
  obtain ⟨x, h1, h2⟩ := divLoop_p N hA hn hd hd2 63 0 0 N (by omega) (by omega) (by rw [h0]; simp) (by rw [h0]; simp) (by omega)
  have h1' : loopN (amount_divide_l1 N (n : Int) (A : Int) (d : Int)) N (0, 0, 62) = some x := h1
  unfold amount_divide
  rw [h1']
  rcases h2 with ⟨rfl, h3⟩ | ⟨q', rfl, h3⟩
  · exact .inl ⟨rfl, h3⟩
  · exact .inr ⟨q', rfl, h3⟩

theorem divLoop_r (N : Nat) {A n d : Nat} (hA : A ≤ 1125899906842624) (hn : n ≤ 1099511627776) (hd : 0 < d) (hd2 : d ≤ 70368744177664) : ∀ (b q r fuel : Nat), b ≤ 51 → b < fuel → q = min (n * (A / 2 ^ b) / d) 288230376151711744 → r = n * (A / 2 ^ b) % d →
    loopN (billingref01_Divide_l1 N A n d) fuel ((q : Int), (r : Int), (b : Int) - 1) = some (((min (n * A / d) 288230376151711744 : Nat) : Int), ((n * A % d : Nat) : Int))
  | 0, q, r, fuel, hb, hf, hq, hr => by
    obtain ⟨m, rfl⟩ : ∃ m, fuel = m + 1 := ⟨fuel - 1, by omega⟩
    simp only [Nat.pow_zero, Nat.div_one] at hq hr
    simp [loopN, billingref01_Divide_l1, hq, hr]
  | b + 1, q, r, fuel, hb, hf, hq, hr => by
    obtain ⟨f, rfl⟩ : ∃ m, fuel = m + 1 := ⟨fuel - 1, by omega⟩
    have hm := half_pow A b
    generalize hm' : A / 2 ^ b = m' at *
    have hr2 : r < d := by rw [hr]; exact Nat.mod_lt _ hd
    have hq2 : q ≤ 288230376151711744 := by rw [hq]; exact Nat.min_le_right _ _
    have e0 : (((b + 1 : Nat) : Int) - 1) = (b : Int) := by omega
    have e1 : IntKind.wrap .i64 ((b : Int) - 1) = (b : Int) - 1 := wrap64 (by omega) (by omega)
    have e2 : IntKind.wrap .u64 (b : Int) = (b : Int) := by
      simp only [IntKind.wrap, IntKind.bits, IntKind.signed]
      simp
      omega
    have w1 : IntKind.wrap .i64 (2 * (q : Int)) = ((2 * q : Nat) : Int) := wrap_two (by omega)
    have w2 : IntKind.wrap .i64 (2 * (r : Int)) = ((2 * r : Nat) : Int) := wrap_two (by omega)
    simp only [loopN, billingref01_Divide_l1, e0, e1, e2, show (decide ((b : Int) ≥ 0)) = true by simp, if_true, shr_nat A b (by omega), hm', Option.bind_some, i64_and1, w1, w2]
    have fin : ∀ x r1 : Nat, n * (2 * (A / 2 ^ (b + 1)) + m' % 2) = 2 * (n * (A / 2 ^ (b + 1))) + x → 2 * r + x = r1 → r1 ≤ 3 * 70368744177664 →
        ∃ q2 r2 : Nat, ((quoW .i64 (r1 : Int) (d : Int)).bind fun n6 => (remW (r1 : Int) (d : Int)).bind fun n7 => if (decide ((IntKind.wrap .i64 (((2 * q : Nat) : Int) + n6)) > 288230376151711744)) = true then some ((288230376151711744 : Int), n7) else some ((IntKind.wrap .i64 (((2 * q : Nat) : Int) + n6)), n7)) = some ((q2 : Int), (r2 : Int)) ∧
          q2 = min (n * m' / d) 288230376151711744 ∧ r2 = n * m' % d := by
      intro x r1 hx hr1 hb1
      have s0 := dm_step (q := n * (A / 2 ^ (b + 1)) / d) hd rfl hr x hx
      rw [← hm, hr1] at s0
      obtain ⟨s1, s2⟩ := s0
      have hdiv := Nat.div_le_self r1 d
      rw [quo_nat r1 d hd (by omega), rem_nat r1 d hd]
      simp only [Option.bind_some]
      have w3 : IntKind.wrap .i64 (((2 * q : Nat) : Int) + ((r1 / d : Nat) : Int)) = ((2 * q + r1 / d : Nat) : Int) := wrap_add_nat (by omega)
      rw [w3, ← s2]
      generalize n * (A / 2 ^ (b + 1)) / d = Q at *
      generalize n * m' / d = Q' at *
      generalize r1 / d = t at *
      by_cases hgt : ((2 * q + t : Nat) : Int) > 288230376151711744
      · rw [if_pos (by simpa using hgt)]
        exact ⟨288230376151711744, n * m' % d, rfl, by omega, rfl⟩
      · rw [if_neg (by simpa using hgt)]
        exact ⟨2 * q + t, n * m' % d, rfl, by omega, rfl⟩
    rcases Nat.mod_two_eq_zero_or_one m' with hbit | hbit
    · have hb0 : ((((m' : Nat) : Int) % 2) == 1) = false := by
        have : ((m' : Int) % 2) = 0 := by omega
        rw [this]; rfl
      rw [hb0]
      simp only [Bool.false_eq_true, if_false, Option.bind_some]
      obtain ⟨q2, r2, h1, h2, h3⟩ := fin 0 (2 * r) (by rw [hbit]; simp [Nat.mul_add, Nat.mul_left_comm]) rfl (by omega)
      rw [h1]
      exact divLoop_r N hA hn hd hd2 b q2 r2 f (by omega) (by omega) (by rw [hm']; exact h2) (by rw [hm']; exact h3)
    · have hb1 : ((((m' : Nat) : Int) % 2) == 1) = true := by
        have : ((m' : Int) % 2) = 1 := by omega
        rw [this]; rfl
      rw [hb1]
      have w4 : IntKind.wrap .i64 (((2 * r : Nat) : Int) + (n : Int)) = ((2 * r + n : Nat) : Int) := wrap_add_nat (by omega)
      simp only [if_true, Option.bind_some, w4]
      obtain ⟨q2, r2, h1, h2, h3⟩ := fin n (2 * r + n) (by rw [hbit]; simp [Nat.mul_add, Nat.mul_left_comm]) rfl (by omega)
      rw [h1]
      exact divLoop_r N hA hn hd hd2 b q2 r2 f (by omega) (by omega) (by rw [hm']; exact h2) (by rw [hm']; exact h3)
theorem divide_r {N : Nat} (hN : 5000 ≤ N) {A n d : Nat} (hA : A ≤ 1125899906842624) (hn : n ≤ 1099511627776) (hd : 0 < d) (hd2 : d ≤ 70368744177664) :
    billingref01_Divide N A n d = some (((min (A * n / d) 288230376151711744 : Nat) : Int), ((A * n % d : Nat) : Int)) := by
  have h0 : A / 2 ^ 51 = 0 := Nat.div_eq_of_lt (by omega)
  have h1 := divLoop_r N hA hn hd hd2 51 0 0 N (by omega) (by omega) (by rw [h0]; simp) (by rw [h0]; simp)
  have h1' : loopN (billingref01_Divide_l1 N (A : Int) (n : Int) (d : Int)) N (0, 0, 50) = some (((min (n * A / d) 288230376151711744 : Nat) : Int), ((n * A % d : Nat) : Int)) := h1
  unfold billingref01_Divide
  rw [h1', Nat.mul_comm n A]
  rfl

/-! ## Products, rounded -/
/-- a * n / d, rounded. -/
def rdiv (A n d : Nat) : Nat := if d ≤ 2 * (A * n % d) then A * n / d + 1 else A * n / d
def scaleS (a n d : Int) : Int × Int := bif !valB a || decide (n < 0) || decide (n > 1099511627776) || decide (d < 1) || decide (d > 1099511627776) then (0, 6) else
  if rdiv a.natAbs n.toNat d.toNat ≤ 1125899906842624 then (if a < 0 then -((rdiv a.natAbs n.toNat d.toNat : Nat) : Int) else ((rdiv a.natAbs n.toNat d.toNat : Nat) : Int), 0) else (0, 6)

theorem rdiv_ge {A n d : Nat} : A * n / d ≤ rdiv A n d ∧ rdiv A n d ≤ A * n / d + 1 := by unfold rdiv; split <;> omega

theorem scale_p {N : Nat} (hN : 5000 ≤ N) (a n d : Int) : amount_Scale N a n d = some (scaleS a n d) := by
  unfold amount_Scale scaleS
  rw [valid_p]
  simp only [Option.bind_some]
  cases hc : (!valB a || decide (n < 0) || decide (n > 1099511627776) || decide (d < 1) || decide (d > 1099511627776)) with
  | true => simp
  | false =>
    simp only [Bool.or_eq_false_iff, Bool.not_eq_false', decide_eq_false_iff_not] at hc
    obtain ⟨⟨⟨⟨h1, h2⟩, h3⟩, h4⟩, h5⟩ := hc
    have hv := valB_iff.1 h1
    obtain ⟨n, rfl⟩ : ∃ m : Nat, n = m := ⟨n.toNat, by omega⟩
    obtain ⟨d, rfl⟩ : ∃ m : Nat, d = m := ⟨d.toNat, by omega⟩
    have w0 : IntKind.wrap .i64 (0 - a) = -a := by rw [wrap64 (by omega) (by omega)]; omega
    have ha : (if -a > a then -a else a) = ((a.natAbs : Nat) : Int) := by split <;> omega
    simp only [Bool.false_eq_true, if_false, cond_false, w0, ha, Int.toNat_natCast]
    generalize hA : a.natAbs = A
    have hA2 : A ≤ 1125899906842624 := by omega
    rcases divide_p hN hA2 (n := n) (d := d) (by omega) (by omega) (by omega) with ⟨q1, q2⟩ | ⟨q', q1, q2, q3, q4⟩
    · rw [q1]
      have hlt := Nat.mod_lt (A * n) (show d > 0 by omega)
      generalize hQ : A * n / d = Q at *
      generalize hR : A * n % d = R at *
      have w1 : IntKind.wrap .i64 ((d : Int) - (R : Int)) = (d : Int) - (R : Int) := wrap64 (by omega) (by omega)
      have w2 : IntKind.wrap .i64 ((Q : Int) + 1) = ((Q + 1 : Nat) : Int) := by rw [wrap64 (by omega) (by omega)]; omega
      have e1 : (if decide ((R : Int) ≥ (d : Int) - (R : Int)) = true then some ((Q + 1 : Nat) : Int) else some (Q : Int)) = some ((rdiv A n d : Nat) : Int) := by
        unfold rdiv
        rw [hQ, hR]
        by_cases hc : d ≤ 2 * R
        · rw [if_pos (by simp; omega), if_pos hc]
        · rw [if_neg (by simp; omega), if_neg hc]
      have hrd := rdiv_ge (A := A) (n := n) (d := d)
      rw [hQ] at hrd
      simp only [Option.bind_some, w1, w2, e1]
      generalize rdiv A n d = T at *
      have w3 : IntKind.wrap .i64 (0 - (T : Int)) = -(T : Int) := by rw [wrap64 (by omega) (by omega)]; omega
      rw [w3]
      by_cases hneg : a < 0
      · simp only [hneg, decide_true, if_true, Option.bind_some, checked_p]
        by_cases hT : T ≤ 1125899906842624
        · have : valB (-(T : Int)) = true := valB_iff.2 (by omega)
          simp [chkS, this, hT]
        · have : valB (-(T : Int)) = false := by rw [← Bool.not_eq_true, valB_iff]; omega
          simp [chkS, this, hT]
      · simp only [hneg, decide_false, Bool.false_eq_true, if_false, Option.bind_some, checked_p]
        by_cases hT : T ≤ 1125899906842624
        · have : valB (T : Int) = true := valB_iff.2 (by omega)
          simp [chkS, this, hT]
        · have : valB (T : Int) = false := by rw [← Bool.not_eq_true, valB_iff]; omega
          simp [chkS, this, hT]
    · rw [q1]
      have hrd := rdiv_ge (A := A) (n := n) (d := d)
      have hT : ¬ rdiv A n d ≤ 1125899906842624 := by omega
      have w1 : IntKind.wrap .i64 ((d : Int) - 0) = (d : Int) := by rw [wrap64 (by omega) (by omega)]; omega
      have w3 : IntKind.wrap .i64 (0 - (q' : Int)) = -(q' : Int) := by rw [wrap64 (by omega) (by omega)]; omega
      have hd0 : decide ((0 : Int) ≥ (d : Int)) = false := by simp; omega
      simp only [Option.bind_some, w1, hd0, Bool.false_eq_true, if_false, w3, hT]
      by_cases hneg : a < 0
      · have : valB (-(q' : Int)) = false := by rw [← Bool.not_eq_true, valB_iff]; omega
        simp [hneg, checked_p, chkS, this]
      · have : valB (q' : Int) = false := by rw [← Bool.not_eq_true, valB_iff]; omega
        simp [hneg, checked_p, chkS, this]

theorem scale_r1 {N k : Nat} (hN : 5000 ≤ N) {A n d : Nat} (hA : A ≤ 1125899906842624) (hn : n ≤ 1099511627776) (hd : 0 < d) (hd2 : d ≤ 1099511627776) :
    billingref01_Scale_r N (k + 1) A n d = some (if rdiv A n d ≤ 1125899906842624 then ((rdiv A n d : Nat) : Int) else 0, if rdiv A n d ≤ 1125899906842624 then 0 else 6) := by
  have hv : valB (A : Int) = true := valB_iff.2 (by omega)
  have c1 : (((((!true) || (decide ((n : Int) < 0))) || (decide ((n : Int) > 1099511627776))) || (decide ((d : Int) < 1))) || (decide ((d : Int) > 1099511627776))) = false := by
    have a1 : decide ((n : Int) < 0) = false := by simp
    have a2 : decide ((n : Int) > 1099511627776) = false := by simp; omega
    have a3 : decide ((d : Int) < 1) = false := by simp; omega
    have a4 : decide ((d : Int) > 1099511627776) = false := by simp; omega
    rw [a1, a2, a3, a4]; rfl
  have hneg : decide ((A : Int) < 0) = false := by simp
  simp only [billingref01_Scale_r, valid_r, Option.bind_some, hv, c1, Bool.false_eq_true, if_false, hneg, divide_r hN hA hn hd (by omega)]
  have hlt := Nat.mod_lt (A * n) hd
  have hrd := rdiv_ge (A := A) (n := n) (d := d)
  have w1 : IntKind.wrap .i64 (2 * ((A * n % d : Nat) : Int)) = ((2 * (A * n % d) : Nat) : Int) := wrap_two (by omega)
  rw [w1]
  generalize hR : A * n % d = R at *
  have hrdiv : rdiv A n d = if d ≤ 2 * R then A * n / d + 1 else A * n / d := by unfold rdiv; rw [hR]
  generalize hQ : A * n / d = Q at *
  have w2 : IntKind.wrap .i64 (((min Q 288230376151711744 : Nat) : Int) + 1) = ((min Q 288230376151711744 + 1 : Nat) : Int) := by rw [wrap64 (by omega) (by omega)]; omega
  rw [w2]
  generalize rdiv A n d = T at *
  have hfin : ∀ U : Nat, (T ≤ 1125899906842624 → U = T) → (1125899906842624 < T → 1125899906842624 < U) →
      (if (!valB (U : Int)) = true then some ((0 : Int), (6 : Int)) else some ((U : Int), (0 : Int))) = some (if T ≤ 1125899906842624 then (T : Int) else 0, if T ≤ 1125899906842624 then 0 else 6) := by
    intro U h1 h2
    rcases Nat.lt_or_ge 1125899906842624 T with hT | hT
    · have hv2 : valB (U : Int) = false := by have := h2 hT; rw [← Bool.not_eq_true, valB_iff]; omega
      rw [hv2, if_pos (show (!false) = true from rfl), if_neg (Nat.not_le.2 hT), if_neg (Nat.not_le.2 hT)]
    · have hv2 : valB (U : Int) = true := by rw [h1 hT]; exact valB_iff.2 (by omega)
      rw [hv2, if_neg (show ¬ (!true) = true from by simp), if_pos hT, if_pos hT, h1 hT]
  by_cases hc : d ≤ 2 * R
  · rw [if_pos hc] at hrdiv
    have : decide (((2 * R : Nat) : Int) ≥ (d : Int)) = true := decide_eq_true (by omega)
    rw [this, if_pos rfl]
    obtain ⟨U, hU⟩ : ∃ U, U = min Q 288230376151711744 + 1 := ⟨_, rfl⟩
    rw [← hU]
    rw [Option.bind_some]
    exact hfin U (by omega) (by omega)
  · rw [if_neg hc] at hrdiv
    have : decide (((2 * R : Nat) : Int) ≥ (d : Int)) = false := decide_eq_false (by omega)
    rw [this, if_neg (by simp)]
    obtain ⟨U, hU⟩ : ∃ U, U = min Q 288230376151711744 := ⟨_, rfl⟩
    rw [← hU]
    rw [Option.bind_some]
    exact hfin U (by omega) (by omega)

theorem scale_r {N : Nat} (hN : 5000 ≤ N) (a n d : Int) : billingref01_Scale N a n d = some (scaleS a n d) := by
  obtain ⟨k, rfl⟩ : ∃ k, N = k + 2 := ⟨N - 2, by omega⟩
  unfold billingref01_Scale scaleS
  cases hc : (!valB a || decide (n < 0) || decide (n > 1099511627776) || decide (d < 1) || decide (d > 1099511627776)) with
  | true => simp only [billingref01_Scale_r, valid_r, Option.bind_some, hc]; rfl
  | false =>
    have hc' := hc
    simp only [Bool.or_eq_false_iff, Bool.not_eq_false', decide_eq_false_iff_not] at hc
    obtain ⟨⟨⟨⟨h1, h2⟩, h3⟩, h4⟩, h5⟩ := hc
    have hv := valB_iff.1 h1
    obtain ⟨n, rfl⟩ : ∃ m : Nat, n = m := ⟨n.toNat, by omega⟩
    obtain ⟨d, rfl⟩ : ∃ m : Nat, d = m := ⟨d.toNat, by omega⟩
    simp only [cond_false, Int.toNat_natCast]
    generalize hA : a.natAbs = A
    have hA2 : A ≤ 1125899906842624 := by omega
    by_cases hneg : a < 0
    · have w0 : IntKind.wrap .i64 (0 - a) = (A : Int) := by rw [wrap64 (by omega) (by omega)]; omega
      have e := scale_r1 (k := k) hN hA2 (n := n) (d := d) (by omega) (by omega) (by omega)
      rw [show k + 2 = (k + 1) + 1 from rfl]
      rw [show k + 2 = (k + 1) + 1 from rfl] at e
      rw [billingref01_Scale_r]
      simp only [valid_r, Option.bind_some, hc', Bool.false_eq_true, if_false, hneg, decide_true, if_true, w0, e]
      have hrd : rdiv A n d ≤ 1125899906842624 ∨ ¬ rdiv A n d ≤ 1125899906842624 := Nat.lt_or_ge _ _ |>.elim (fun h => .inr (by omega)) (fun h => .inl h)
      rcases hrd with hT | hT
      · simp only [hT, if_true]
        rw [wrap64 (by omega) (by omega)]
        simp
      · simp only [hT, if_false]
        rfl
    · have hAe : a = (A : Int) := by omega
      rw [hAe]
      have e := scale_r1 (k := k + 1) hN hA2 (n := n) (d := d) (by omega) (by omega) (by omega)
      rw [show k + 2 = (k + 1) + 1 from rfl] at e ⊢
      rw [e]
      have : ¬ ((A : Int) < 0) := by omega
      simp only [this, if_false]
      split <;> rfl

def percS (a p : Int) : Int × Int := bif decide (p < 0) || decide (p > 10000) then (0, 6) else scaleS a p 10000
theorem perc_p {N : Nat} (hN : 5000 ≤ N) (a p : Int) : amount_Percent N a p = some (percS a p) := by
  unfold amount_Percent percS
  rw [scale_p hN]
  cases (decide (p < 0) || decide (p > 10000)) <;> rfl
theorem perc_r {N : Nat} (hN : 5000 ≤ N) (a p : Int) : billingref01_Percent N a p = some (percS a p) := by
  unfold billingref01_Percent percS
  rw [scale_r hN]
  cases (decide (p < 0) || decide (p > 10000)) <;> rfl
end Gx

/- What rounding and dividing give: sums and parts. -/
namespace Gx
open Go Gd
set_option linter.unusedVariables false
set_option linter.unusedSimpArgs false

/-! ## Rounded parts add up -/
theorem sum_set1 : ∀ {p : List Int} {j : Nat}, j < p.length → (p.set j (p.getD j 0 + 1)).sum = p.sum + 1
  | [], j, h => by simp at h
  | x :: p, 0, h => by simp; omega
  | x :: p, j + 1, h => by
    have := sum_set1 (p := p) (j := j) (by simpa using h)
    simp only [List.set_cons_succ, List.sum_cons, List.getD_cons_succ, this]
    omega
theorem giveF_sum : ∀ (n : Nat) (p r : List Int), p.length = r.length → n ≤ cnt r → (giveF n p r).1.sum = p.sum + (n : Int)
  | 0, p, r, _, _ => by simp [giveF]
  | n + 1, p, r, hl, hc => by
    rcases bestS_ok r with ⟨h1, h2⟩ | ⟨j, h1, h2, h3, h4⟩
    · exfalso
      have : 0 < cnt r := by omega
      obtain ⟨x, hx, hp⟩ := List.countP_pos_iff.1 this
      obtain ⟨i, hi, he⟩ := List.getElem_of_mem hx
      have := h2 i hi
      rw [List.getD_eq_getElem?_getD, List.getElem?_eq_getElem hi, he] at this
      simp at hp this
      omega
    · have hc' := cnt_set h2 h3
      simp only [giveF, h1, show ¬ ((j : Int) < 0) by omega, if_false, Int.toNat_natCast]
      rw [giveF_sum n _ _ (by simpa using hl) (by omega), sum_set1 (by omega)]
      push_cast; omega
theorem giveF_mem {lo hi : Int} : ∀ (n : Nat) (p r : List Int), p.length = r.length → (∀ x ∈ p, lo ≤ x ∧ x ≤ hi) → ∀ x ∈ (giveF n p r).1, lo ≤ x ∧ x ≤ hi + n
  | 0, p, r, _, h, x, hx => by have := h x hx; simp; omega
  | n + 1, p, r, hl, h, x, hx => by
    simp only [giveF] at hx
    split at hx
    · have := h x hx; push_cast; omega
    · rename_i hb
      have key := giveF_mem (lo := lo) (hi := hi + 1) n (p.set (bestS r).toNat (p.getD (bestS r).toNat 0 + 1)) (r.set (bestS r).toNat (-1)) (by simpa using hl) (fun y hy => by
        rcases bestS_ok r with ⟨h1, h2⟩ | ⟨j, h1, h2, h3, h4⟩
        · omega
        · rw [h1] at hy
          simp only [Int.toNat_natCast] at hy
          rcases List.mem_or_eq_of_mem_set hy with hy | rfl
          · have := h y hy; omega
          · have hj : j < p.length := by omega
            have := h _ (List.getElem_mem hj)
            rw [List.getD_eq_getElem?_getD, List.getElem?_eq_getElem hj]
            simp only [Option.getD_some]
            omega) x hx
      push_cast; omega
theorem flo_res : ∀ l : List Int, l.sum = 10000 * (floS l).sum + (resS l).sum
  | [] => rfl
  | x :: l => by
    have := flo_res l
    simp only [floS, resS, List.map_cons, List.sum_cons] at *
    have := Int.mul_ediv_add_emod x 10000
    omega
theorem res_bound : ∀ l : List Int, 0 ≤ (resS l).sum ∧ (resS l).sum ≤ 9999 * (l.length : Int)
  | [] => by simp [resS]
  | x :: l => by
    have := res_bound l
    simp only [resS, List.map_cons, List.sum_cons, List.length_cons] at *
    have h1 := Int.emod_nonneg x (b := 10000) (by omega)
    have h2 := Int.emod_lt_of_pos x (b := 10000) (by omega)
    push_cast; omega
theorem cnt_res (l : List Int) : cnt (resS l) = l.length := by
  unfold cnt
  rw [List.countP_eq_length.2]
  · simp [resS]
  · intro x hx
    simp only [resS, List.mem_map] at hx
    obtain ⟨y, _, rfl⟩ := hx
    have := Int.emod_nonneg y (b := 10000) (by omega)
    simpa using this
theorem round_n {l : List Int} : 0 ≤ rndS l.sum - (floS l).sum ∧ rndS l.sum - (floS l).sum ≤ (l.length : Int) := by
  have h1 := flo_res l
  have h2 := res_bound l
  have h3 := rnd_bound (a := l.sum)
  constructor <;> omega
theorem round_sum {l : List Int} (hl : l.length ≤ 4096) (h : l.all valB = true) : (roundS l).sum = rndS l.sum := by
  unfold roundS
  rw [if_neg (by omega), h]
  simp only [cond_true]
  have := round_n (l := l)
  rw [giveF_sum _ _ _ (by simp [floS, resS]) (by rw [cnt_res]; omega)]
  omega
theorem round_mem {l : List Int} (hl : l.length ≤ 4096) (h : l.all valB = true) : ∀ x ∈ roundS l, -112589990685 ≤ x ∧ x ≤ 112589994781 := by
  unfold roundS
  rw [if_neg (by omega), h]
  simp only [cond_true]
  intro x hx
  have hn := round_n (l := l)
  have := giveF_mem (lo := -112589990685) (hi := 112589990685) _ _ _ (by simp [floS, resS]) (fun y hy => by
    simp only [floS, List.mem_map] at hy
    obtain ⟨z, hz, rfl⟩ := hy
    have := valB_iff.1 (List.all_eq_true.1 h z hz)
    omega) x hx
  omega


/-! ## Each part gets at most one -/
theorem giveF_len : ∀ (n : Nat) (p r : List Int), (giveF n p r).1.length = p.length
  | 0, _, _ => rfl
  | n + 1, p, r => by
    simp only [giveF]
    split
    · rfl
    · rw [giveF_len n, List.length_set]
/-- How many of the rests are greater than 0. -/
def cpos (r : List Int) : Nat := r.countP fun x => decide (0 < x)
theorem cpos_le (r : List Int) : cpos r ≤ cnt r := List.countP_mono_left fun x _ h => by simp at *; omega
theorem cpos_set {r : List Int} {j : Nat} (hj : j < r.length) (h : 0 < r.getD j 0) : cpos (r.set j (-1)) + 1 = cpos r := by
  have hj' : r.getD j 0 = r[j] := by rw [List.getD_eq_getElem?_getD, List.getElem?_eq_getElem hj]; rfl
  rw [hj'] at h
  have hp : 0 < cpos r := List.countP_pos_iff.2 ⟨r[j], List.getElem_mem hj, by simpa using h⟩
  unfold cpos at *
  rw [List.countP_set hj]
  simp [h]
  omega
theorem getD_set_same {p : List Int} {j : Nat} {v : Int} (h : j < p.length) : (p.set j v).getD j 0 = v := by
  rw [List.getD_eq_getElem?_getD, List.getElem?_set_self (by simpa using h)]; rfl
theorem getD_set_ne {p : List Int} {i j : Nat} {v : Int} (h : j ≠ i) : (p.set j v).getD i 0 = p.getD i 0 := by
  rw [List.getD_eq_getElem?_getD, List.getD_eq_getElem?_getD, List.getElem?_set_ne h]
theorem giveF_get : ∀ (n : Nat) (p r : List Int), p.length = r.length → n ≤ cpos r → ∀ i, i < p.length → (giveF n p r).1.getD i 0 = p.getD i 0 ∨ ((giveF n p r).1.getD i 0 = p.getD i 0 + 1 ∧ 0 < r.getD i 0)
  | 0, p, r, _, _, i, _ => .inl rfl
  | n + 1, p, r, hl, hc, i, hi => by
    have hpos : 0 < cpos r := by omega
    obtain ⟨x, hx, hp⟩ := List.countP_pos_iff.1 hpos
    obtain ⟨k, hk, he⟩ := List.getElem_of_mem hx
    have hk' : r.getD k 0 = x := by rw [List.getD_eq_getElem?_getD, List.getElem?_eq_getElem hk, he]; rfl
    have hx0 : 0 < x := by simpa using hp
    rcases bestS_ok r with ⟨h1, h2⟩ | ⟨j, h1, h2, h3, h4⟩
    · have := h2 k hk; omega
    · have hj : 0 < r.getD j 0 := by have := h4 k hk; omega
      have hc' := cpos_set h2 hj
      simp only [giveF, h1, show ¬ ((j : Int) < 0) by omega, if_false, Int.toNat_natCast]
      have ih := giveF_get n (p.set j (p.getD j 0 + 1)) (r.set j (-1)) (by simpa using hl) (by omega) i (by simpa using hi)
      by_cases hij : j = i
      · subst hij
        rw [getD_set_same hi, getD_set_same h2] at ih
        rcases ih with ih | ⟨_, ih⟩
        · exact .inr ⟨ih, hj⟩
        · omega
      · rw [getD_set_ne hij, getD_set_ne hij] at ih
        exact ih
theorem res_pos : ∀ l : List Int, (resS l).sum ≤ 9999 * (cpos (resS l) : Int)
  | [] => by simp [resS, cpos]
  | x :: l => by
    have := res_pos l
    simp only [resS, cpos, List.map_cons, List.sum_cons, List.countP_cons] at *
    have h1 := Int.emod_nonneg x (b := 10000) (by omega)
    have h2 := Int.emod_lt_of_pos x (b := 10000) (by omega)
    by_cases h : 0 < x % 10000
    · simp only [h, decide_true, if_true]; push_cast; omega
    · simp only [h, decide_false, Bool.false_eq_true, if_false]; push_cast; omega
theorem round_len {l : List Int} (hl : l.length ≤ 4096) (h : l.all valB = true) : (roundS l).length = l.length := by
  unfold roundS
  rw [if_neg (by omega), h]
  simp [giveF_len, floS]
theorem round_len_le (l : List Int) : (roundS l).length ≤ 4096 := by
  unfold roundS
  split
  · simp
  · rename_i h
    cases l.all valB
    · simp
    · simp [giveF_len, floS]; omega
theorem round_get {l : List Int} (hl : l.length ≤ 4096) (h : l.all valB = true) {i : Nat} (hi : i < l.length) : -10000 < l.getD i 0 - (roundS l).getD i 0 * 10000 ∧ l.getD i 0 - (roundS l).getD i 0 * 10000 < 10000 := by
  have h1 := flo_res l
  have h2 := res_pos l
  have h3 := rnd_bound (a := l.sum)
  have hn : (rndS l.sum - (floS l).sum).toNat ≤ cpos (resS l) := by omega
  unfold roundS
  rw [if_neg (by omega), h]
  simp only [cond_true]
  have key := giveF_get _ (floS l) (resS l) (by simp [floS, resS]) hn i (by simpa [floS] using hi)
  have ef : (floS l).getD i 0 = l.getD i 0 / 10000 := by simp [floS, List.getD_eq_getElem?_getD, List.getElem?_map, List.getElem?_eq_getElem hi]
  have er : (resS l).getD i 0 = l.getD i 0 % 10000 := by simp [resS, List.getD_eq_getElem?_getD, List.getElem?_map, List.getElem?_eq_getElem hi]
  rw [ef, er] at key
  have e := Int.mul_ediv_add_emod (l.getD i 0) 10000
  have b1 := Int.emod_nonneg (l.getD i 0) (b := 10000) (by omega)
  have b2 := Int.emod_lt_of_pos (l.getD i 0) (b := 10000) (by omega)
  rcases key with k | ⟨k, k2⟩ <;> rw [k] <;> omega
end Gx

/- Strings in order. -/
namespace Gx
open Go Gd
set_option linter.unusedVariables false
set_option linter.unusedSimpArgs false

abbrev bl (x y : Str) : Bool := Op.bytesLess x y
theorem u8_lt {a b : UInt8} : a < b ↔ a.toNat < b.toNat := UInt8.lt_iff_toNat_lt
theorem u8_eq {a b : UInt8} : a = b ↔ a.toNat = b.toNat := ⟨fun h => h ▸ rfl, fun h => UInt8.toNat_inj.1 h⟩
theorem bl_cons {a b : UInt8} {x y : Str} : bl (a :: x) (b :: y) = true ↔ a.toNat < b.toNat ∨ (a = b ∧ bl x y = true) := by
  simp only [bl, Op.bytesLess, Bool.or_eq_true, decide_eq_true_eq, Bool.and_eq_true, beq_iff_eq, u8_lt]
theorem bl_irrefl : ∀ x : Str, bl x x = false
  | [] => rfl
  | a :: x => by
    rw [← Bool.not_eq_true, bl_cons]
    rintro (h | ⟨_, h⟩)
    · omega
    · rw [bl_irrefl x] at h; cases h
theorem bl_trans : ∀ {x y z : Str}, bl x y = true → bl y z = true → bl x z = true
  | _, [], _, h, _ => by cases ‹Str› <;> simp [bl, Op.bytesLess] at h
  | _, _ :: _, [], _, h => by simp [bl, Op.bytesLess] at h
  | [], _ :: _, _ :: _, _, _ => rfl
  | a :: x, b :: y, c :: z, h, k => by
    rw [bl_cons] at h k ⊢
    rcases h with h | ⟨rfl, h⟩
    · rcases k with k | ⟨rfl, k⟩
      · exact .inl (by omega)
      · exact .inl h
    · rcases k with k | ⟨rfl, k⟩
      · exact .inl k
      · exact .inr ⟨rfl, bl_trans h k⟩
theorem bl_total : ∀ {x y : Str}, bl x y = false → bl y x = false → x = y
  | [], [], _, _ => rfl
  | [], _ :: _, h, _ => by simp [bl, Op.bytesLess] at h
  | _ :: _, [], _, h => by simp [bl, Op.bytesLess] at h
  | a :: x, b :: y, h, k => by
    rw [← Bool.not_eq_true, bl_cons] at h k
    have e : a = b := u8_eq.2 (by
      have h1 : ¬ a.toNat < b.toNat := fun q => h (.inl q)
      have h2 : ¬ b.toNat < a.toNat := fun q => k (.inl q)
      omega)
    subst e
    rw [bl_total (x := x) (y := y) (by rw [← Bool.not_eq_true]; exact fun q => h (.inr ⟨rfl, q⟩)) (by rw [← Bool.not_eq_true]; exact fun q => k (.inr ⟨rfl, q⟩))]
theorem bl_asymm {x y : Str} (h : bl x y = true) : bl y x = false := by
  cases k : bl y x with
  | false => rfl
  | true => have := bl_trans h k; rw [bl_irrefl] at this; cases this
theorem bl_ne {x y : Str} (h : bl x y = true) : x ≠ y := fun e => by subst e; rw [bl_irrefl] at h; cases h
end Gx

/- Taxes: lists, rates. -/
namespace Gx
open Go Gd
set_option linter.unusedVariables false
set_option linter.unusedSimpArgs false

/-! ## Names -/
theorem sidx_get {s : Str} {i : Nat} {c : UInt8} (h : s[i]? = some c) : sidx s (i : Int) = some (c.toNat : Int) := by simp [sidx, idx_nat h]
def okc (c : UInt8) : Bool := !(((decide ((c.toNat : Int) < 97) || decide ((c.toNat : Int) > 122)) && (decide ((c.toNat : Int) < 48) || decide ((c.toNat : Int) > 57))) && ((c.toNat : Int) != 45))

theorem nameLoop_p {N : Nat} (hN : 5000 ≤ N) {s : Str} (hs : s.length ≤ 24) : ∀ k i, i + k = s.length → ∀ fuel, k < fuel → loopN (tax_name_l1 N s) fuel (i : Int) = some (bif (s.drop i).all okc then .inl () else .inr false)
  | 0, i, hi, fuel, hf => by
    obtain ⟨m, rfl⟩ : ∃ m, fuel = m + 1 := ⟨fuel - 1, by omega⟩
    have : i = s.length := by omega
    subst this
    simp [loopN, tax_name_l1]
  | k + 1, i, hi, fuel, hf => by
    obtain ⟨m, rfl⟩ : ∃ m, fuel = m + 1 := ⟨fuel - 1, by omega⟩
    have hlt : i < s.length := by omega
    have hd := List.drop_eq_getElem_cons hlt
    have hw : IntKind.wrap .i64 ((i : Int) + 1) = ((i + 1 : Nat) : Int) := wrap_succ (by rw [maxLen_val]; omega)
    have ih := nameLoop_p hN hs k (i + 1) (by omega) m (by omega)
    rw [hd]
    simp only [loopN, tax_name_l1, show decide ((i : Int) < (s.length : Int)) = true by simpa using hlt, if_true, sidx_get (List.getElem?_eq_getElem hlt), Option.bind_some, hw, List.all_cons]
    have e : (((decide ((s[i].toNat : Int) < 97) || decide ((s[i].toNat : Int) > 122)) && (decide ((s[i].toNat : Int) < 48) || decide ((s[i].toNat : Int) > 57))) && ((s[i].toNat : Int) != 45)) = !okc s[i] := (Bool.not_not _).symm
    rw [e]
    cases hc : okc s[i] with
    | true => simpa using ih
    | false => rfl

theorem nameLoop_r {N : Nat} (hN : 5000 ≤ N) {s : Str} (hs : s.length ≤ 24) : ∀ k i, i + k = s.length → ∀ fuel, k < fuel → loopN (billingref17_Name_l1 N s) fuel (i : Int) = some (bif (s.drop i).all okc then .inl () else .inr false)
  | 0, i, hi, fuel, hf => by
    obtain ⟨m, rfl⟩ : ∃ m, fuel = m + 1 := ⟨fuel - 1, by omega⟩
    have : i = s.length := by omega
    subst this
    simp [loopN, billingref17_Name_l1]
  | k + 1, i, hi, fuel, hf => by
    obtain ⟨m, rfl⟩ : ∃ m, fuel = m + 1 := ⟨fuel - 1, by omega⟩
    have hlt : i < s.length := by omega
    have hd := List.drop_eq_getElem_cons hlt
    have hw : IntKind.wrap .i64 ((i : Int) + 1) = ((i + 1 : Nat) : Int) := wrap_succ (by rw [maxLen_val]; omega)
    have ih := nameLoop_r hN hs k (i + 1) (by omega) m (by omega)
    rw [hd]
    simp only [loopN, billingref17_Name_l1, show decide ((i : Int) < (s.length : Int)) = true by simpa using hlt, if_true, sidx_get (List.getElem?_eq_getElem hlt), Option.bind_some, hw, List.all_cons]
    have e : (((decide ((s[i].toNat : Int) < 97) || decide ((s[i].toNat : Int) > 122)) && (decide ((s[i].toNat : Int) < 48) || decide ((s[i].toNat : Int) > 57))) && ((s[i].toNat : Int) != 45)) = !okc s[i] := (Bool.not_not _).symm
    generalize decide ((s[i].toNat : Int) < 97) = b1 at *
    generalize decide ((s[i].toNat : Int) > 122) = b2 at *
    generalize decide ((s[i].toNat : Int) < 48) = b3 at *
    generalize decide ((s[i].toNat : Int) > 57) = b4 at *
    generalize ((s[i].toNat : Int) != 45) = b5 at *
    cases hc : okc s[i] <;> rw [hc] at e <;> cases b1 <;> cases b2 <;> cases b3 <;> cases b4 <;> cases b5 <;> first | (exact absurd e (by decide)) | rfl | (simp; exact ih)

def nameS (s : Str) : Bool := decide (1 ≤ s.length) && decide (s.length ≤ 24) && (match s with
  | c :: _ => decide (97 ≤ c.toNat) && decide (c.toNat ≤ 122)
  | [] => false) && s.all okc
theorem okc_letter {c : UInt8} (h1 : 97 ≤ c.toNat) (h2 : c.toNat ≤ 122) : okc c = true := by
  have a1 : decide ((c.toNat : Int) < 97) = false := decide_eq_false (by omega)
  have a2 : decide ((c.toNat : Int) > 122) = false := decide_eq_false (by omega)
  unfold okc
  rw [a1, a2]; rfl
theorem name_p {N : Nat} (hN : 5000 ≤ N) (s : Str) : tax_name N s = some (nameS s) := by
  unfold tax_name
  cases s with
  | nil => rfl
  | cons c s =>
    have e0 : ((c :: s) == ([] : Str)) = false := rfl
    have i0 : sidx (c :: s) 0 = some (c.toNat : Int) := rfl
    simp only [e0, Bool.false_or, i0, Option.bind_some]
    by_cases hl : (c :: s).length ≤ 24
    · have d1 : decide (((c :: s).length : Int) > 24) = false := decide_eq_false (by omega)
      have d2 : decide (1 ≤ (c :: s).length) = true := decide_eq_true (by simp)
      rw [d1]
      have hloop : loopN (tax_name_l1 N (c :: s)) N 1 = some (bif s.all okc then .inl () else .inr false) := nameLoop_p hN hl s.length 1 (by simp; omega) N (by simp at hl; omega)
      rw [hloop]
      simp only [nameS, d2, decide_eq_true hl, Bool.true_and, List.all_cons]
      by_cases h1 : 97 ≤ c.toNat
      · by_cases h2 : c.toNat ≤ 122
        · have a1 : decide ((c.toNat : Int) < 97) = false := decide_eq_false (by omega)
          have a2 : decide ((c.toNat : Int) > 122) = false := decide_eq_false (by omega)
          rw [a1, a2, decide_eq_true h1, decide_eq_true h2, okc_letter h1 h2]
          cases s.all okc <;> rfl
        · have a1 : decide ((c.toNat : Int) < 97) = false := decide_eq_false (by omega)
          have a2 : decide ((c.toNat : Int) > 122) = true := decide_eq_true (by omega)
          rw [a1, a2, decide_eq_true h1, decide_eq_false h2]
          simp
      · have a1 : decide ((c.toNat : Int) < 97) = true := decide_eq_true (by omega)
        rw [a1, decide_eq_false h1]
        simp
    · have d1 : decide (((c :: s).length : Int) > 24) = true := decide_eq_true (by omega)
      rw [d1]
      simp only [nameS, decide_eq_false hl]
      simp
theorem name_r {N : Nat} (hN : 5000 ≤ N) (s : Str) : billingref17_Name N s = some (nameS s) := by
  unfold billingref17_Name
  cases s with
  | nil => rfl
  | cons c s =>
    have e0 : decide (((c :: s).length : Int) < 1) = false := decide_eq_false (by simp; omega)
    have i0 : sidx (c :: s) 0 = some (c.toNat : Int) := rfl
    simp only [e0, Bool.false_or, i0, Option.bind_some]
    by_cases hl : (c :: s).length ≤ 24
    · have d1 : decide (((c :: s).length : Int) > 24) = false := decide_eq_false (by omega)
      have d2 : decide (1 ≤ (c :: s).length) = true := decide_eq_true (by simp)
      rw [d1]
      have hloop : loopN (billingref17_Name_l1 N (c :: s)) N 0 = some (bif (c :: s).all okc then .inl () else .inr false) := nameLoop_r hN hl (s.length + 1) 0 (by simp) N (by simp at hl; omega)
      rw [hloop]
      simp only [nameS, d2, decide_eq_true hl, Bool.true_and]
      by_cases h1 : 97 ≤ c.toNat
      · by_cases h2 : c.toNat ≤ 122
        · have a1 : decide ((c.toNat : Int) < 97) = false := decide_eq_false (by omega)
          have a2 : decide ((c.toNat : Int) > 122) = false := decide_eq_false (by omega)
          rw [a1, a2, decide_eq_true h1, decide_eq_true h2]
          cases (c :: s).all okc <;> rfl
        · have a1 : decide ((c.toNat : Int) < 97) = false := decide_eq_false (by omega)
          have a2 : decide ((c.toNat : Int) > 122) = true := decide_eq_true (by omega)
          rw [a1, a2, decide_eq_true h1, decide_eq_false h2]
          simp
      · have a1 : decide ((c.toNat : Int) < 97) = true := decide_eq_true (by omega)
        rw [a1, decide_eq_false h1]
        simp
    · have d1 : decide (((c :: s).length : Int) > 24) = true := decide_eq_true (by omega)
      rw [d1]
      simp only [nameS, decide_eq_false hl]
      simp

/-! ## Lists -/
theorem check_l1_eq {N : Nat} (hN : 5000 ≤ N) (l : List ApiTax) : ∀ v, tax_Check_l1 N l v = billingref45_Check_l1 N l v := by
  intro v
  simp only [tax_Check_l1, billingref45_Check_l1, name_p hN, name_r hN, billingref45_before]
  split
  · cases idx l v with
    | none => rfl
    | some x =>
      simp only [Option.bind_some]
      split
      · rfl
      · split
        · rfl
        · split
          · rfl
          · split
            · cases idx l (IntKind.wrap .i64 (v - 1)) with
              | none => rfl
              | some y =>
                simp only [Option.bind_some]
                have hge : decide (y.From ≥ x.From) = !decide (y.From < x.From) := by
                  by_cases h : y.From < x.From
                  · rw [decide_eq_true h, decide_eq_false (by omega)]; rfl
                  · rw [decide_eq_false h, decide_eq_true (by omega)]; rfl
                rw [hge]
                cases hb : Op.bytesLess y.Category x.Category with
                | true =>
                  have hne : (y.Category == x.Category) = false := by
                    rw [← Bool.not_eq_true]
                    intro h
                    have := eq_of_beq h
                    exact bl_ne hb this
                  simp [hne]
                | false =>
                  cases (y.Category == x.Category) <;> cases decide (y.From < x.From) <;> rfl
            · rfl
  · rfl
theorem check_ok {N : Nat} (hN : 5000 ≤ N) {l : List ApiTax} (hl : l.length ≤ 4096) : ∃ r, billingref45_Check N l = some r := by
  unfold billingref45_Check
  rw [if_neg (by simp; omega)]
  obtain ⟨x, h1, _⟩ := loopN_inv (f := billingref45_Check_l1 N l) (n := N) (s := (0 : Int)) l.length (fun i s => s = (i : Int)) (fun _ => True) (fun i s hi hs => by
    subst hs
    rcases Nat.lt_or_ge i l.length with hlt | hge
    · simp only [billingref45_Check_l1, show decide ((i : Int) < (l.length : Int)) = true by simpa using hlt, if_true, idx_get hlt, Option.bind_some, name_r hN, wrap_succ (show i < maxLen by rw [maxLen_val]; omega)]
      split
      · exact .inr ⟨_, rfl, trivial⟩
      · split
        · exact .inr ⟨_, rfl, trivial⟩
        · split
          · exact .inr ⟨_, rfl, trivial⟩
          · have key : ∃ b : Bool, (if decide ((i : Int) > 0) = true then (idx l (IntKind.wrap .i64 ((i : Int) - 1))).bind fun x4 => (billingref45_before N x4 l[i]).bind fun r5 => some (!r5) else some false) = some b := by
              by_cases h0 : (i : Int) > 0
              · rw [if_pos (by simpa using h0), wrap64 (by omega) (by omega), show (i : Int) - 1 = ((i - 1 : Nat) : Int) by omega, idx_get (show i - 1 < l.length by omega)]
                exact ⟨_, rfl⟩
              · exact ⟨false, if_neg (by simpa using h0)⟩
            obtain ⟨b, hb⟩ := key
            rw [hb]
            cases b with
            | true => exact .inr ⟨_, rfl, trivial⟩
            | false => exact .inl ⟨_, hlt, rfl, rfl⟩
    · have : i = l.length := by omega
      subst this
      exact .inr ⟨.inl (), by simp [billingref45_Check_l1], trivial⟩) (by omega) rfl
  rw [h1]
  cases x <;> exact ⟨_, rfl⟩
theorem check_eq {N : Nat} (hN : 5000 ≤ N) (l : List ApiTax) : tax_Check N l = billingref45_Check N l := by
  unfold tax_Check billingref45_Check
  rw [loopN_congr (check_l1_eq hN l)]

end Gx

/- Taxes: rates, divided amounts. -/
namespace Gx
open Go Gd
set_option linter.unusedVariables false
set_option linter.unusedSimpArgs false

/-! ## Rates -/
theorem points_l1_eq (N : Nat) (l : List ApiTax) (c : Str) (t : Int) : ∀ s, tax_Points_l1 N l c t s = billingref45_Points_l1 N l c t s := by
  rintro ⟨b, i⟩
  simp only [tax_Points_l1, billingref45_Points_l1]
  split
  · cases h : idx l i with
    | none => rfl
    | some x =>
      simp only [Option.bind_some]
      cases (x.Category == c) <;> simp
  · rfl
theorem points_eq (N : Nat) (l : List ApiTax) (c : Str) (t : Int) : tax_Points N l c t = billingref45_Points N l c t := by
  unfold tax_Points billingref45_Points
  rw [loopN_congr (points_l1_eq N l c t)]
def ptsStep (c : Str) (t : Int) (n : Int) (x : ApiTax) : Int := if (x.Category == c && decide (x.From ≤ t)) = true then x.Points else n
def ptsS (l : List ApiTax) (c : Str) (t : Int) : Int := l.foldl (ptsStep c t) 0
theorem points_p {N : Nat} {l : List ApiTax} (hl : l.length ≤ 4096) (hN : 5000 ≤ N) (c : Str) (t : Int) : tax_Points N l c t = some (ptsS l c t) := by
  unfold tax_Points
  have key := loop_list (n := N) (s := (0 : Int)) l (by rw [maxLen_val]; omega) (f := tax_Points_l1 N l c t) (fun s i => (s, i)) (fun i s => True) (fun s xs => xs.foldl (ptsStep c t) s)
    (fun s hI h => by simp [tax_Points_l1]) (fun s i x xs hx hlt hidx hw hd hI => .inl ⟨ptsStep c t s x, by
      simp only [tax_Points_l1, hlt, if_true, hidx, Option.bind_some, hw, ptsStep]
      split <;> rfl, trivial, rfl⟩) (by omega) trivial
  rw [key]
  rfl
theorem points_r {N : Nat} {l : List ApiTax} (hl : l.length ≤ 4096) (hN : 5000 ≤ N) (c : Str) (t : Int) : billingref45_Points N l c t = some (ptsS l c t) := by rw [← points_eq, points_p hl hN]
/-! ## Divided amounts -/
def extrS (g p : Int) : Int × Int × Int := bif decide (p < 0) || decide (p > 10000) then (0, 0, 6) else
  if (scaleS g 10000 (10000 + p)).2 != 0 then (0, 0, (scaleS g 10000 (10000 + p)).2) else ((scaleS g 10000 (10000 + p)).1, IntKind.wrap .i64 (g - (scaleS g 10000 (10000 + p)).1), 0)
theorem rdiv_spec {A n d : Nat} (hd : 0 < d) : 2 * (d * rdiv A n d) ≤ 2 * (A * n) + d ∧ 2 * (A * n) ≤ 2 * (d * rdiv A n d) + d := by
  have h1 := Nat.div_add_mod (A * n) d
  have h2 := Nat.mod_lt (A * n) hd
  unfold rdiv
  generalize A * n / d = Q at *
  generalize A * n % d = R at *
  generalize A * n = M at *
  have h3 : d * (Q + 1) = d * Q + d := Nat.mul_succ d Q
  split
  · rw [h3]; omega
  · omega
theorem rdiv_le {A n d : Nat} (hd : 0 < d) (h : n ≤ d) : rdiv A n d ≤ A := by
  have h1 := rdiv_spec (A := A) (n := n) hd
  have h2 : A * n ≤ A * d := Nat.mul_le_mul_left A h
  rcases Nat.lt_or_ge A (rdiv A n d) with hlt | hge
  · have h3 : d * (A + 1) ≤ d * rdiv A n d := Nat.mul_le_mul_left d hlt
    have h4 : d * (A + 1) = A * d + d := by rw [Nat.mul_succ, Nat.mul_comm]
    omega
  · exact hge
theorem extr_close {A p T U : Nat} (hp : p ≤ 10000) (hT : T = rdiv A 10000 (10000 + p)) (hU : U = rdiv T p 10000) : (U : Int) - ((A : Int) - (T : Int)) ≤ 1 ∧ -1 ≤ (U : Int) - ((A : Int) - (T : Int)) := by
  have h1 := rdiv_spec (A := A) (n := 10000) (d := 10000 + p) (by omega)
  have h2 := rdiv_spec (A := T) (n := p) (d := 10000) (by omega)
  rw [← hT] at h1
  rw [← hU] at h2
  have h3 : (10000 + p) * T = 10000 * T + T * p := by rw [Nat.add_mul, Nat.mul_comm p T]
  rw [h3] at h1
  generalize T * p = M at *
  omega

theorem scale_val {a n d : Int} (hv : valB a = true) (hn : 0 ≤ n) (hn2 : n ≤ 1099511627776) (hd : 1 ≤ d) (hd2 : d ≤ 1099511627776) (hT : rdiv a.natAbs n.toNat d.toNat ≤ 1125899906842624) :
    scaleS a n d = (if a < 0 then -((rdiv a.natAbs n.toNat d.toNat : Nat) : Int) else ((rdiv a.natAbs n.toNat d.toNat : Nat) : Int), 0) := by
  unfold scaleS
  rw [hv, decide_eq_false (show ¬ n < 0 by omega), decide_eq_false (show ¬ n > 1099511627776 by omega), decide_eq_false (show ¬ d < 1 by omega), decide_eq_false (show ¬ d > 1099511627776 by omega)]
  simp only [Bool.not_true, Bool.or_false, cond_false, hT, if_true]

end Gx

/- Taxes of lines. -/
namespace Gx
open Go Gd
set_option linter.unusedVariables false
set_option linter.unusedSimpArgs false

/-! ## Categories -/
/-- Where a name belongs in names that ascend. -/
def insAt (l : List Str) (c : Str) : Nat := (l.takeWhile fun x => bl x c).length
def insS (l : List Str) (c : Str) : List Str := l.take (insAt l c) ++ c :: l.drop (insAt l c)
def catStep (acc : List Str) (x : ApiLine) : List Str := if acc.contains x.Category then acc else insS acc x.Category
def catsS (l : List ApiLine) : List Str := l.foldl catStep []
def amtsS (l : List ApiLine) (c : Str) : List Int := (l.filter fun x => x.Category == c).map fun x => x.Amount

theorem insAt_le (l : List Str) (c : Str) : insAt l c ≤ l.length := (List.takeWhile_sublist _).length_le
theorem insS_len (l : List Str) (c : Str) : (insS l c).length = l.length + 1 := by
  have := insAt_le l c
  simp [insS]; omega
theorem mem_insS {l : List Str} {c x : Str} : x ∈ insS l c ↔ x = c ∨ x ∈ l := by
  unfold insS
  simp only [List.mem_append, List.mem_cons]
  constructor
  · rintro (h | rfl | h)
    · exact .inr (List.mem_of_mem_take h)
    · exact .inl rfl
    · exact .inr (List.mem_of_mem_drop h)
  · rintro (rfl | h)
    · exact .inr (.inl rfl)
    · rw [← List.take_append_drop (insAt l c) l] at h
      rcases List.mem_append.1 h with h | h
      · exact .inl h
      · exact .inr (.inr h)
theorem takeWhile_take {α : Type} (p : α → Bool) : ∀ l : List α, l.take (l.takeWhile p).length = l.takeWhile p
  | [] => rfl
  | x :: l => by
    simp only [List.takeWhile_cons]
    cases p x with
    | true => simp [takeWhile_take p l]
    | false => simp
theorem insAt_get {l : List Str} {c : Str} {i : Nat} (h : i < insAt l c) : ∃ x, l[i]? = some x ∧ bl x c = true := by
  have h1 : (l.takeWhile fun x => bl x c)[i]? = some ((l.takeWhile fun x => bl x c)[i]'h) := List.getElem?_eq_getElem h
  refine ⟨(l.takeWhile fun x => bl x c)[i]'h, ?_, ?_⟩
  · have h2 : (l.take (insAt l c))[i]? = (l.takeWhile fun x => bl x c)[i]? := by rw [show l.take (insAt l c) = l.takeWhile fun x => bl x c from takeWhile_take _ l]
    rw [List.getElem?_take, if_pos h] at h2
    rw [h2]; exact h1
  · have := List.all_takeWhile (p := fun x => bl x c) (l := l)
    exact List.all_eq_true.1 this _ (List.getElem_mem h)
theorem insAt_end {l : List Str} {c : Str} {x : Str} (h : l[insAt l c]? = some x) : bl x c = false := by
  induction l with
  | nil => simp at h
  | cons y l ih =>
    unfold insAt at h ih
    simp only [List.takeWhile_cons] at h
    cases hy : bl y c with
    | true =>
      simp only [hy, if_true, List.length_cons, List.getElem?_cons_succ] at h
      exact ih h
    | false =>
      simp only [hy] at h
      simp at h
      subst h; exact hy

theorem insLoop {N : Nat} {f : Int → Option (Int ⊕ Int)} {l : List Str} {c : Str} (hl : l.length ≤ 4096)
    (hf : ∀ i : Nat, f (i : Int) = match l[i]? with
      | some x => if bl x c = true then some (.inl (IntKind.wrap .i64 ((i : Int) + 1))) else some (.inr (i : Int))
      | none => some (.inr (i : Int))) (hN : 5000 ≤ N) : loopN f N 0 = some ((insAt l c : Nat) : Int) := by
  obtain ⟨r, h1, h2⟩ := loopN_inv (f := f) (n := N) (s := (0 : Int)) (insAt l c) (fun i s => s = (i : Int)) (fun r => r = ((insAt l c : Nat) : Int)) (fun i s hi hs => by
    subst hs
    rw [hf]
    have hle := insAt_le l c
    rcases Nat.lt_or_ge i (insAt l c) with hlt | hge
    · obtain ⟨x, hx, hb⟩ := insAt_get hlt
      rw [hx]
      simp only [hb, if_true]
      exact .inl ⟨_, hlt, rfl, wrap_succ (by rw [maxLen_val]; omega)⟩
    · have : i = insAt l c := by omega
      subst this
      cases hx : l[insAt l c]? with
      | none => exact .inr ⟨_, rfl, rfl⟩
      | some x =>
        simp only [insAt_end hx]
        exact .inr ⟨_, by simp, rfl⟩) (by have := insAt_le l c; omega) rfl
  rw [h1, h2]
theorem idx_none {α : Type} {l : List α} {i : Nat} (h : l.length ≤ i) : idx l (i : Int) = none := by
  unfold idx
  rw [if_pos (by omega), Int.toNat_natCast, List.getElem?_eq_none h]
theorem insLoop_p {N : Nat} {l : List Str} {x : ApiLine} (hl : l.length ≤ 4096) (hN : 5000 ≤ N) : loopN (tax_categories_l4 N l x) N 0 = some ((insAt l x.Category : Nat) : Int) := by
  refine insLoop hl (fun i => ?_) hN
  simp only [tax_categories_l4]
  rcases Nat.lt_or_ge i l.length with hlt | hge
  · rw [decide_eq_true (show (i : Int) < (l.length : Int) by omega), List.getElem?_eq_getElem hlt, idx_get hlt]
    simp only [if_true, Option.bind_some]
  · rw [decide_eq_false (show ¬ (i : Int) < (l.length : Int) by omega), List.getElem?_eq_none hge]
    rfl
theorem insLoop_r {N : Nat} {l : List Str} {c : Str} (hl : l.length ≤ 4096) (hN : 5000 ≤ N) : loopN (billingref17_With_l1 N l c) N 0 = some ((insAt l c : Nat) : Int) := by
  refine insLoop hl (fun i => ?_) hN
  simp only [billingref17_With_l1]
  rcases Nat.lt_or_ge i l.length with hlt | hge
  · rw [decide_eq_true (show (i : Int) < (l.length : Int) by omega), List.getElem?_eq_getElem hlt, idx_get hlt]
    simp only [if_true, Option.bind_some]
  · rw [decide_eq_false (show ¬ (i : Int) < (l.length : Int) by omega), List.getElem?_eq_none hge]
    rfl

theorem slc_front {α : Type} {l : List α} {k : Nat} (h : k ≤ l.length) : slc l 0 (k : Int) = some (l.take k) := by
  unfold slc
  rw [if_pos ⟨by omega, by omega, by omega⟩]
  simp
theorem slc_back {α : Type} {l : List α} {k : Nat} (h : k ≤ l.length) : slc l (k : Int) (l.length : Int) = some (l.drop k) := by
  unfold slc
  rw [if_pos ⟨by omega, by omega, by omega⟩]
  simp only [Int.toNat_natCast]
  rw [List.take_of_length_le (by simp)]

theorem with_r {N : Nat} {l : List Str} {c : Str} (hl : l.length ≤ 4096) (hN : 5000 ≤ N) : billingref17_With N l c = some (insS l c) := by
  unfold billingref17_With
  have hk := insAt_le l c
  rw [insLoop_r hl hN]
  simp only [Option.bind_some]
  rw [slc_front hk]
  simp only [Option.bind_some]
  rw [app_of (by simp; omega)]
  simp only [Option.bind_some]
  rw [app_of (by simp; omega)]
  simp only [Option.bind_some]
  rw [slc_back hk]
  simp only [Option.bind_some]
  rw [app_of (by simp; omega)]
  simp [insS]

theorem has_r {N : Nat} {l : List Str} {c : Str} (hl : l.length ≤ 4096) (hN : 5000 ≤ N) : billingref17_Has N l c = some (l.contains c) := by
  unfold billingref17_Has
  have key := loop_list (n := N) (s := ()) l (by rw [maxLen_val]; omega) (f := billingref17_Has_l1 N l c) (fun s i => i) (fun i s => True) (fun s xs => if xs.contains c then .inr true else .inl ())
    (fun s hI h => by simp [billingref17_Has_l1]) (fun s i x xs hx hlt hidx hw hd hI => by
      simp only [billingref17_Has_l1, hlt, if_true, hidx, Option.bind_some, hw]
      cases hb : (x == c) with
      | true =>
        refine .inr ?_
        have := eq_of_beq hb
        subst this
        simp
      | false =>
        refine .inl ⟨(), by simp, trivial, ?_⟩
        have hne : ¬ c = x := fun e => by subst e; simp at hb
        simp [hne]) (by omega) trivial
  rw [key]
  cases l.contains c <;> rfl

theorem catStep_len (acc : List Str) (x : ApiLine) : (catStep acc x).length ≤ acc.length + 1 := by
  unfold catStep
  split
  · omega
  · rw [insS_len]; omega
theorem catsS_len : ∀ (l : List ApiLine) (acc : List Str), (l.foldl catStep acc).length ≤ acc.length + l.length
  | [], acc => by simp
  | x :: l, acc => by
    have h1 := catsS_len l (catStep acc x)
    have h2 := catStep_len acc x
    simp only [List.foldl_cons, List.length_cons]; omega

theorem cats_r {N : Nat} {l : List ApiLine} (hl : l.length ≤ 4096) (hN : 5000 ≤ N) : billingref45_Categories N l = some (catsS l) := by
  unfold billingref45_Categories
  have key := loop_list (n := N) (s := ([] : List Str)) l (by rw [maxLen_val]; omega) (f := billingref45_Categories_l1 N l) (fun s i => (i, s)) (fun i s => s.length ≤ i ∧ i ≤ l.length) (fun s xs => xs.foldl catStep s)
    (fun s hI h => by simp [billingref45_Categories_l1]) (fun s i x xs hx hlt hidx hw hd hI => by
      have hi := (List.getElem?_eq_some_iff.1 hx).1
      refine .inl ⟨catStep s x, ?_, ?_, rfl⟩
      · simp only [billingref45_Categories_l1, hlt, if_true, hidx, Option.bind_some, hw, has_r (show s.length ≤ 4096 by omega) hN, with_r (show s.length ≤ 4096 by omega) hN, catStep]
        cases s.contains x.Category <;> simp
      · have := catStep_len s x; omega) (by omega) (by simp)
  rw [key]
  rfl

theorem amts_snoc (l : List ApiLine) (x : ApiLine) (c : Str) : amtsS (l ++ [x]) c = amtsS l c ++ if x.Category == c then [x.Amount] else [] := by
  unfold amtsS
  rw [List.filter_append, List.map_append]
  congr 1
  simp only [List.filter_cons, List.filter_nil]
  split <;> rfl
theorem amts_len (l : List ApiLine) (c : Str) : (amtsS l c).length ≤ l.length := by
  unfold amtsS; rw [List.length_map]; exact List.length_filter_le _ _

/-- What the map holds behind some lines. -/
def mapOk (l : List ApiLine) (m : List (Str × List Int)) : Prop := ∀ c, findL (k := .str) c m = if amtsS l c = [] then none else some (amtsS l c)
theorem find_put (c d : Str) (v : List Int) : ∀ m : List (Str × List Int), findL (k := .str) c (putL (k := .str) d v m) = if c = d then some v else findL (k := .str) c m
  | [] => by
    simp only [putL, findL, eqK]
    by_cases h : c = d
    · simp [h]
    · rw [show (c == d) = false by simpa using h]; simp [h]
  | x :: m => by
    have ih := find_put c d v m
    simp only [putL]
    cases he : eqK .str d x.1 with
    | true =>
      have hd : d = x.1 := by simpa [eqK] using he
      simp only [cond_true, findL, eqK]
      by_cases h : c = d
      · simp [h]
      · have : ¬ c = x.1 := fun e => h (e.trans hd.symm)
        rw [show (c == d) = false by simpa using h, show (c == x.1) = false by simpa using this]
        simp [h]
    | false =>
      have hd : ¬ d = x.1 := by simpa [eqK] using he
      simp only [cond_false, findL, ih]
      by_cases h : c = d
      · subst h
        simp only [eqK]
        rw [show (c == x.1) = false by simpa using hd]
        simp
      · simp [h]

theorem cats_p {N : Nat} {l : List ApiLine} (hl : l.length ≤ 4096) (hN : 5000 ≤ N) : ∃ m, tax_categories N l = some (catsS l, m) ∧ mapOk l m := by
  unfold tax_categories
  obtain ⟨r, h1, h2⟩ := loopN_inv (f := tax_categories_l5 N l) (n := N) (s := ((0 : Int), ([] : List (Str × List Int)), ([] : List Str))) l.length
    (fun i s => ∃ m, s = ((i : Int), m, catsS (l.take i)) ∧ mapOk (l.take i) m ∧ ∀ c, (catsS (l.take i)).contains c = !(amtsS (l.take i) c).isEmpty) (fun r => ∃ m, r = (m, catsS l) ∧ mapOk l m) (fun i s hi hs => by
      obtain ⟨m, rfl, hm, hc⟩ := hs
      rcases Nat.lt_or_ge i l.length with hlt | hge
      · have hx : l[i]? = some l[i] := List.getElem?_eq_getElem hlt
        generalize hxx : l[i] = x at hx
        have ht := take_snoc hx
        have hcl : (catsS (l.take i)).length ≤ i := by
          have := catsS_len (l.take i) []
          simp at this
          unfold catsS; omega
        have hw : IntKind.wrap .i64 ((i : Int) + 1) = ((i + 1 : Nat) : Int) := wrap_succ (by rw [maxLen_val]; omega)
        have hcs : catsS (l.take (i + 1)) = catStep (catsS (l.take i)) x := by rw [ht]; simp [catsS, List.foldl_append]
        have hsome : (findL (k := .str) x.Category m).isSome = (catsS (l.take i)).contains x.Category := by
          rw [hm, hc]
          cases hA : amtsS (l.take i) x.Category <;> simp
        have happ : app 8 (optL (fun (y : List Int) => (y : List Int)) (findL (k := .str) x.Category m)) [x.Amount] = some (amtsS (l.take i) x.Category ++ [x.Amount]) := by
          have : optL (fun (y : List Int) => (y : List Int)) (findL (k := .str) x.Category m) = amtsS (l.take i) x.Category := by
            rw [hm]
            by_cases hA : amtsS (l.take i) x.Category = []
            · rw [if_pos hA, hA]; rfl
            · rw [if_neg hA]; rfl
          rw [this]
          have := amts_len (l.take i) x.Category
          exact app_of (by simp at this ⊢; omega)
        refine .inl ⟨((i + 1 : Nat) , putL (k := .str) x.Category (amtsS (l.take i) x.Category ++ [x.Amount]) m, catsS (l.take (i + 1))), hlt, ?_, _, rfl, ?_, ?_⟩
        · simp only [tax_categories_l5, decide_eq_true (show (i : Int) < (l.length : Int) by omega), if_true, idx_nat hx, Option.bind_some, hsome, hw]
          have hk := insAt_le (catsS (l.take i)) x.Category
          have hchk : chk (eqK .str x.Category x.Category) = some () := by simp [chk, eqK]
          cases hcon : (catsS (l.take i)).contains x.Category with
          | true =>
            simp only [Bool.not_true, Bool.false_eq_true, if_false, Option.bind_some, hchk, happ]
            rw [hcs, catStep, hcon]; rfl
          | false =>
            simp only [Bool.not_false, if_true]
            rw [insLoop_p (by omega) hN]
            simp only [Option.bind_some]
            rw [slc_front hk]
            simp only [Option.bind_some]
            rw [app_of (by simp; omega)]
            simp only [Option.bind_some]
            rw [app_of (by simp; omega)]
            simp only [Option.bind_some]
            rw [slc_back hk]
            simp only [Option.bind_some]
            rw [app_of (by simp; omega)]
            simp only [Option.bind_some, hchk, happ]
            rw [hcs, catStep, hcon]
            simp [insS]
        · intro c
          rw [find_put, ht, amts_snoc]
          by_cases hcx : c = x.Category
          · subst hcx; simp
          · have : (x.Category == c) = false := by simp; exact fun e => hcx e.symm
            rw [if_neg hcx, hm, this]; simp
        · intro c
          rw [hcs, ht, amts_snoc]
          have h3 : (catStep (catsS (l.take i)) x).contains c = ((c == x.Category) || (catsS (l.take i)).contains c) := by
            unfold catStep
            split
            · rename_i hcon
              by_cases hcx : c = x.Category
              · subst hcx; simp only [hcon]; simp
              · simp [hcx]
            · rw [Bool.eq_iff_iff]
              simp [mem_insS]
          rw [h3, hc]
          by_cases hcx : c = x.Category
          · subst hcx; simp
          · have h4 : (x.Category == c) = false := by simp; exact fun e => hcx e.symm
            simp [hcx, h4]
      · have : i = l.length := by omega
        subst this
        rw [List.take_length] at hm
        exact .inr ⟨(m, catsS l), by simp [tax_categories_l5], m, rfl, hm⟩) (by omega) ⟨[], by simp [catsS], by intro c; simp [findL, amtsS], by intro c; simp [catsS, amtsS]⟩
  obtain ⟨m, rfl, hm⟩ := h2
  have h1' : loopN (tax_categories_l5 N l) N (0, ([] : List (Str × List Int)), ([] : List Str)) = some (m, catsS l) := h1
  rw [h1']
  exact ⟨m, rfl, hm⟩

theorem base_r {N : Nat} {l : List ApiLine} (hl : l.length ≤ 4096) (hN : 5000 ≤ N) (c : Str) : billingref45_Base N l c = some (sumS (amtsS l c)) := by
  unfold billingref45_Base
  have key := loop_list (n := N) (s := ([] : List Int)) l (by rw [maxLen_val]; omega) (f := billingref45_Base_l1 N l c) (fun s i => (i, s)) (fun i s => s = amtsS (l.take i) c) (fun s xs => amtsS l c)
    (fun s hI h => by rw [List.take_length] at hI; subst hI; simp [billingref45_Base_l1]) (fun s i x xs hx hlt hidx hw hd hI => by
      subst hI
      refine .inl ⟨amtsS (l.take (i + 1)) c, ?_, rfl, rfl⟩
      simp only [billingref45_Base_l1, hlt, if_true, hidx, Option.bind_some, hw]
      rw [take_snoc hx, amts_snoc]
      have := amts_len (l.take i) c
      cases hb : (x.Category == c) with
      | true => rw [if_pos rfl, app_of (by simp at this ⊢; omega)]; rfl
      | false => simp) (by omega) (by simp [amtsS])
  rw [key]
  simp only [Option.bind_some]
  rw [sum_r hN]
  rfl

/-! ## Taxes of lines -/
/-- One category: its exact tax, an error, or nothing. -/
def lineStep (taxes : List ApiTax) (lines : List ApiLine) (t : Int) (c : Str) : Option (ApiTaxLine × Int) ⊕ Int :=
  if (sumS (amtsS lines c)).2 != 0 then .inr (sumS (amtsS lines c)).2 else
  if ptsS taxes c t == 0 then .inl none else
  if (percS (sumS (amtsS lines c)).1 (ptsS taxes c t)).2 != 0 then .inr (percS (sumS (amtsS lines c)).1 (ptsS taxes c t)).2 else
  .inl (some ((c, ptsS taxes c t, (sumS (amtsS lines c)).1, 0), (percS (sumS (amtsS lines c)).1 (ptsS taxes c t)).1))
def linesGo (taxes : List ApiTax) (lines : List ApiLine) (t : Int) : List ApiTaxLine × List Int → List Str → (List ApiTaxLine × List Int) ⊕ Int
  | s, [] => .inl s
  | s, c :: cs => match lineStep taxes lines t c with
    | .inr e => .inr e
    | .inl none => linesGo taxes lines t s cs
    | .inl (some q) => linesGo taxes lines t (s.1 ++ [q.1], s.2 ++ [q.2]) cs
def putR (x : ApiTaxLine) (r : Int) : ApiTaxLine := (x.1, x.2.1, x.2.2.1, r)
def finS (out : List ApiTaxLine) (rs : List Int) : List ApiTaxLine := List.zipWith putR out rs
def taxLinesS (taxes : List ApiTax) (lines : List ApiLine) (t : Int) : Int × List ApiTaxLine := if (lines.length : Int) > 4096 then (5, []) else match linesGo taxes lines t ([], []) (catsS lines) with
  | .inl q => (0, finS q.1 (roundS q.2))
  | .inr e => (e, [])

theorem perc_valid {a p : Int} (h : (percS a p).2 = 0) : valB (percS a p).1 = true := by
  unfold percS at *
  cases hc : (decide (p < 0) || decide (p > 10000)) with
  | true => rw [hc] at h; cases h
  | false =>
    rw [hc] at h
    simp only [cond_false] at h ⊢
    unfold scaleS at *
    cases hc2 : (!valB a || decide (p < 0) || decide (p > 1099511627776) || decide ((10000 : Int) < 1) || decide ((10000 : Int) > 1099511627776)) with
    | true => rw [hc2] at h; cases h
    | false =>
      rw [hc2] at h
      simp only [cond_false] at h ⊢
      split at h
      · rename_i hT
        rw [if_pos hT]
        refine valB_iff.2 ?_
        dsimp only
        split <;> omega
      · cases h
theorem line_valid {taxes : List ApiTax} {lines : List ApiLine} {t : Int} {c : Str} {q : ApiTaxLine × Int} (h : lineStep taxes lines t c = .inl (some q)) :
    q.1 = (c, ptsS taxes c t, (sumS (amtsS lines c)).1, 0) ∧ q.2 = (percS (sumS (amtsS lines c)).1 (ptsS taxes c t)).1 ∧ (sumS (amtsS lines c)).2 = 0 ∧ ptsS taxes c t ≠ 0 ∧ (percS (sumS (amtsS lines c)).1 (ptsS taxes c t)).2 = 0 := by
  unfold lineStep at h
  split at h
  · cases h
  · rename_i h1
    split at h
    · cases h
    · rename_i h2
      split at h
      · cases h
      · rename_i h3
        injection h with h
        injection h with h
        subst h
        exact ⟨rfl, rfl, by simpa using h1, by simpa using h2, by simpa using h3⟩
/-- What is known of the taxes so far. -/
def goOk (s : List ApiTaxLine × List Int) (n : Nat) : Prop := s.1.length = s.2.length ∧ s.2.all valB = true ∧ s.1.length ≤ n
theorem go_len {taxes : List ApiTax} {lines : List ApiLine} {t : Int} : ∀ {cs : List Str} {s q : List ApiTaxLine × List Int} {n : Nat}, goOk s n → linesGo taxes lines t s cs = .inl q → goOk q (n + cs.length)
  | [], s, q, n, h, hq => by simp [linesGo] at hq; subst hq; exact h
  | c :: cs, s, q, n, h, hq => by
    simp only [linesGo] at hq
    split at hq
    · cases hq
    · have := go_len (n := n) h hq
      exact ⟨this.1, this.2.1, by have := this.2.2; simp only [List.length_cons]; omega⟩
    · rename_i x hx
      obtain ⟨h1, h2, h3, h4, h5⟩ := line_valid hx
      have := go_len (s := (s.1 ++ [x.1], s.2 ++ [x.2])) (n := n + 1) ⟨by simp [h.1], by rw [List.all_append, h.2.1, h2]; simp [perc_valid h5], by simp; exact h.2.2⟩ hq
      exact ⟨this.1, this.2.1, by have := this.2.2; simp only [List.length_cons]; omega⟩

theorem linesLoop {N : Nat} {f : Int × List ApiTaxLine × List Int → Option ((Int × List ApiTaxLine × List Int) ⊕ ((List ApiTaxLine × List Int) ⊕ Int))} {taxes : List ApiTax} {lines : List ApiLine} {t : Int} {cs : List Str} (hcs : cs.length ≤ 4096)
    (hend : ∀ s : List ApiTaxLine × List Int, f ((cs.length : Int), s.1, s.2) = some (.inr (.inl s)))
    (hf : ∀ (i : Nat) (c : Str) (s : List ApiTaxLine × List Int), cs[i]? = some c → goOk s i → f ((i : Int), s.1, s.2) = some (match lineStep taxes lines t c with
      | .inr e => .inr (.inr e)
      | .inl none => .inl (((i + 1 : Nat) : Int), s.1, s.2)
      | .inl (some q) => .inl (((i + 1 : Nat) : Int), s.1 ++ [q.1], s.2 ++ [q.2]))) (hN : 5000 ≤ N) :
    loopN f N (0, [], []) = some (linesGo taxes lines t ([], []) cs) := by
  refine loop_list (n := N) (s := (([] : List ApiTaxLine), ([] : List Int))) cs (by rw [maxLen_val]; omega) (f := f) (fun s i => (i, s.1, s.2)) (fun i s => goOk s i) (fun s xs => linesGo taxes lines t s xs)
    (fun s hI h => hend s) (fun s i x xs hx hlt hidx hw hd hI => ?_) (by omega) ⟨rfl, rfl, Nat.le_refl _⟩
  rw [hf i x s hx hI]
  simp only [linesGo]
  cases hl : lineStep taxes lines t x with
  | inr e => exact .inr rfl
  | inl o =>
    cases o with
    | none => exact .inl ⟨s, rfl, ⟨hI.1, hI.2.1, by have := hI.2.2; omega⟩, rfl⟩
    | some q =>
      obtain ⟨h1, h2, h3, h4, h5⟩ := line_valid hl
      exact .inl ⟨(s.1 ++ [q.1], s.2 ++ [q.2]), rfl, ⟨by simp [hI.1], by rw [List.all_append, hI.2.1, h2]; simp [perc_valid h5], by have := hI.2.2; simp; exact this⟩, rfl⟩

theorem finLoop {N : Nat} {f : Int × List ApiTaxLine → Option ((Int × List ApiTaxLine) ⊕ List ApiTaxLine)} {rs : List Int} (hr : rs.length ≤ 4096)
    (hf0 : ∀ o : List ApiTaxLine, o.length = rs.length → f ((rs.length : Int), o) = some (.inr o))
    (hf : ∀ (i : Nat) (o : List ApiTaxLine), o.length = rs.length → i < rs.length → f ((i : Int), o) = (idx rs (i : Int)).bind fun x => (idx o (i : Int)).bind fun y => some (.inl (((i + 1 : Nat) : Int), o.set i (putR y x))))
    (hN : 5000 ≤ N) {out : List ApiTaxLine} (ho : out.length = rs.length) : loopN f N (0, out) = some (finS out rs) := by
  have key := loop_list (n := N) (s := out) rs (by rw [maxLen_val]; omega) (f := f) (fun s i => (i, s)) (fun i s => s = finS (out.take i) (rs.take i) ++ out.drop i) (fun s xs => finS out rs)
    (fun s hI h => by
      subst hI
      rw [List.take_length, ← ho, List.take_length, List.drop_length, List.append_nil, ho]
      exact hf0 _ (by simp [finS, ho])) (fun s i x xs hx hlt hidx hw hd hI => by
      have hi := (List.getElem?_eq_some_iff.1 hx).1
      have hlen : s.length = rs.length := by rw [hI]; simp [finS]; omega
      refine .inl ⟨finS (out.take (i + 1)) (rs.take (i + 1)) ++ out.drop (i + 1), ?_, rfl, rfl⟩
      obtain ⟨y0, ho'⟩ : ∃ y, out[i]? = some y := ⟨_, List.getElem?_eq_getElem (by omega)⟩
      have hdr : out.drop i = y0 :: out.drop (i + 1) := by
        obtain ⟨hio, hy⟩ := List.getElem?_eq_some_iff.1 ho'
        rw [List.drop_eq_getElem_cons hio, hy]
      have hs : s[i]? = some y0 := by
        rw [hI, List.getElem?_append_right (by simp [finS]; omega)]
        rw [show i - (finS (out.take i) (rs.take i)).length = 0 by simp [finS]; omega]
        rw [hdr]; rfl
      rw [hf i s hlen hi, hidx, idx_nat hs]
      simp only [Option.bind_some]
      have h1 : s.set i (putR y0 x) = finS (out.take (i + 1)) (rs.take (i + 1)) ++ out.drop (i + 1) := by
        rw [hI, List.set_append_right _ _ (by simp [finS]; omega)]
        rw [show i - (finS (out.take i) (rs.take i)).length = 0 by simp [finS]; omega]
        rw [hdr, List.set_cons_zero, take_snoc ho', take_snoc hx]
        have : finS (out.take i ++ [y0]) (rs.take i ++ [x]) = finS (out.take i) (rs.take i) ++ [putR y0 x] := by
          unfold finS
          rw [List.zipWith_append (by simp; omega)]
          rfl
        rw [this, List.append_assoc]; rfl
      rw [h1]) (by omega) (by simp [finS])
  exact key

theorem taxLines_p {N : Nat} {taxes : List ApiTax} (ht : taxes.length ≤ 4096) (hN : 5000 ≤ N) (lines : List ApiLine) (t : Int) : tax_Lines N taxes lines t = some (taxLinesS taxes lines t) := by
  unfold tax_Lines taxLinesS
  by_cases h : (lines.length : Int) > 4096
  · simp [h]
  · rw [if_neg (by simpa using h), if_neg h]
    have hl : lines.length ≤ 4096 := by omega
    obtain ⟨m, hm, hmap⟩ := cats_p hl hN
    have hc : (catsS lines).length ≤ 4096 := by have := catsS_len lines []; simp at this; unfold catsS; omega
    rw [hm]
    simp only [Option.bind_some]
    have hget : ∀ c, (findL (k := .str) c m).getD ([] : List Int) = amtsS lines c := by
      intro c
      rw [hmap]
      by_cases hA : amtsS lines c = []
      · rw [if_pos hA, hA]; rfl
      · rw [if_neg hA]; rfl
    rw [linesLoop (f := tax_Lines_l1 N (catsS lines) m taxes t) (taxes := taxes) (lines := lines) (t := t) hc (fun s => by simp [tax_Lines_l1]) (fun i c s hx hI => ?_) hN]
    · cases hg : linesGo taxes lines t ([], []) (catsS lines) with
      | inr e => rfl
      | inl q =>
        obtain ⟨g1, g2, g3⟩ := go_len (n := 0) ⟨rfl, rfl, Nat.le_refl _⟩ hg
        have hql : q.2.length ≤ 4096 := by omega
        have hrl := round_len hql g2
        simp only [Option.bind_some, round_p hN]
        have w := finLoop (f := tax_Lines_l2 N (roundS q.2)) (rs := roundS q.2) (out := q.1) (by omega) (fun o ho => by simp [tax_Lines_l2]) (fun i o ho hi => by
          have e1 : idx (roundS q.2) (i : Int) = some (roundS q.2)[i] := idx_get hi
          have e2 : idx o (i : Int) = some (o[i]'(by omega)) := idx_get (by omega)
          simp only [tax_Lines_l2, decide_eq_true (show (i : Int) < ((roundS q.2).length : Int) by omega), if_true, e1, e2, Option.bind_some, Int.toNat_natCast, wrap_succ (show i < maxLen by rw [maxLen_val]; omega)]
          rfl) hN (by omega)
        rw [w]
        rfl
    · have hi := (List.getElem?_eq_some_iff.1 hx).1
      obtain ⟨s1, s2⟩ := s
      have hlen := hI.2.2
      have hlen2 : s2.length ≤ i := by have := hI.1; simp only at this hlen; omega
      simp only at hlen
      simp only [tax_Lines_l1, decide_eq_true (show (i : Int) < ((catsS lines).length : Int) by omega), if_true, idx_nat hx, Option.bind_some, hget, tax_sum, sum_p hN, points_p ht hN, perc_p hN, lineStep, wrap_succ (show i < maxLen by rw [maxLen_val]; omega)]
      cases h1 : ((sumS (amtsS lines c)).2 != 0) with
      | true => simp
      | false =>
        simp only [Bool.false_eq_true, if_false]
        cases h2 : (ptsS taxes c t == 0) with
        | true => simp
        | false =>
          simp only [Bool.false_eq_true, if_false]
          cases h3 : ((percS (sumS (amtsS lines c)).1 (ptsS taxes c t)).2 != 0) with
          | true => simp
          | false =>
            simp only [Bool.false_eq_true, if_false]
            rw [app_of (by simp; omega)]
            simp only [Option.bind_some]
            rw [app_of (by simp; omega)]
            rfl
theorem taxLines_r {N : Nat} {taxes : List ApiTax} (ht : taxes.length ≤ 4096) (hN : 5000 ≤ N) (lines : List ApiLine) (t : Int) : billingref45_Lines N taxes lines t = some (taxLinesS taxes lines t) := by
  unfold billingref45_Lines taxLinesS
  by_cases h : (lines.length : Int) > 4096
  · simp [h]
  · rw [if_neg (by simpa using h), if_neg h]
    have hl : lines.length ≤ 4096 := by omega
    have hc : (catsS lines).length ≤ 4096 := by have := catsS_len lines []; simp at this; unfold catsS; omega
    rw [cats_r hl hN]
    simp only [Option.bind_some]
    rw [linesLoop (f := billingref45_Lines_l1 N (catsS lines) lines taxes t) (taxes := taxes) (lines := lines) (t := t) hc (fun s => by simp [billingref45_Lines_l1]) (fun i c s hx hI => ?_) hN]
    · cases hg : linesGo taxes lines t ([], []) (catsS lines) with
      | inr e => rfl
      | inl q =>
        obtain ⟨g1, g2, g3⟩ := go_len (n := 0) ⟨rfl, rfl, Nat.le_refl _⟩ hg
        have hql : q.2.length ≤ 4096 := by omega
        have hrl := round_len hql g2
        simp only [Option.bind_some, round_r hN]
        have w := finLoop (f := billingref45_Lines_l2 N (roundS q.2)) (rs := roundS q.2) (out := q.1) (by omega) (fun o ho => by simp [billingref45_Lines_l2, ho]) (fun i o ho hi => by
          have e1 : idx (roundS q.2) (i : Int) = some (roundS q.2)[i] := idx_get hi
          have e2 : idx o (i : Int) = some (o[i]'(by omega)) := idx_get (by omega)
          simp only [billingref45_Lines_l2, decide_eq_true (show (i : Int) < (o.length : Int) by omega), if_true, e1, e2, Option.bind_some, Int.toNat_natCast, wrap_succ (show i < maxLen by rw [maxLen_val]; omega)]
          rfl) hN (by omega)
        rw [w]
        rfl
    · have hi := (List.getElem?_eq_some_iff.1 hx).1
      obtain ⟨s1, s2⟩ := s
      have hlen := hI.2.2
      have hlen2 : s2.length ≤ i := by have := hI.1; simp only at this hlen; omega
      simp only at hlen
      simp only [billingref45_Lines_l1, decide_eq_true (show (i : Int) < ((catsS lines).length : Int) by omega), if_true, idx_nat hx, Option.bind_some, base_r hl hN, points_r ht hN, perc_r hN, lineStep, wrap_succ (show i < maxLen by rw [maxLen_val]; omega)]
      cases h1 : ((sumS (amtsS lines c)).2 != 0) with
      | true => simp
      | false =>
        simp only [Bool.false_eq_true, if_false]
        cases h2 : (ptsS taxes c t == 0) with
        | true => simp
        | false =>
          simp only [Bool.false_eq_true, if_false]
          cases h3 : ((percS (sumS (amtsS lines c)).1 (ptsS taxes c t)).2 != 0) with
          | true => simp
          | false =>
            simp only [Bool.false_eq_true, if_false]
            rw [app_of (by simp; omega)]
            simp only [Option.bind_some]
            rw [app_of (by simp; omega)]
            rfl

theorem same_refl {N : Nat} {l : List ApiTaxLine} (hl : l.length ≤ 4096) (hN : 5000 ≤ N) : billingref45_Same N l l = some true := by
  unfold billingref45_Same
  rw [if_neg (by simp)]
  have key := loop_list (n := N) (s := ()) l (by rw [maxLen_val]; omega) (f := billingref45_Same_l1 N l l) (fun s i => i) (fun i s => True) (fun s xs => .inl ())
    (fun s hI h => by simp [billingref45_Same_l1]) (fun s i x xs hx hlt hidx hw hd hI => .inl ⟨(), by simp [billingref45_Same_l1, hidx, hw]; exact (List.getElem?_eq_some_iff.1 hx).1, trivial, rfl⟩) (by omega) trivial
  rw [key]
  rfl
theorem taxLines_len (taxes : List ApiTax) (lines : List ApiLine) (t : Int) : (taxLinesS taxes lines t).2.length ≤ 4096 := by
  unfold taxLinesS
  split
  · simp
  · rename_i h
    split
    · rename_i q hq
      obtain ⟨g1, g2, g3⟩ := go_len (n := 0) ⟨rfl, rfl, Nat.le_refl _⟩ hq
      have := catsS_len lines []
      simp at this
      unfold catsS at g3
      simp only [finS, List.length_zipWith]
      omega
    · simp
end Gx

/- Invoices: the examples; equal lists are the same. -/
namespace Gx
open Go Gd
set_option linter.unusedVariables false
set_option linter.unusedSimpArgs false
set_option maxRecDepth 100000

theorem awake46 : billinglaw46_awake (10000 + 64) = some true := by
  have : ∀ M, billinglaw46_awake (M + 64) = some true := fun M => by kernel_rfl
  exact this 10000

theorem sameLines {N : Nat} {l : List ApiLine} (hl : l.length ≤ 4096) (hN : 5000 ≤ N) : billingref46_SameLines N l l = some true := by
  unfold billingref46_SameLines
  simp only [bne_self_eq_false, Bool.false_eq_true, if_false]
  have key := loop_list (n := N) (s := ()) l (by rw [maxLen_val]; omega) (f := billingref46_SameLines_l1 N l l) (fun s i => i) (fun i s => True) (fun s xs => .inl ())
    (fun s hI h => by simp [billingref46_SameLines_l1]) (fun s i x xs hx hlt hidx hw hd hI => .inl ⟨(), by simp [billingref46_SameLines_l1, hidx, hw]; exact (List.getElem?_eq_some_iff.1 hx).1, trivial, rfl⟩) (by omega) trivial
  rw [show loopN (billingref46_SameLines_l1 N l l) N 0 = some (.inl ()) from key]
  rfl
end Gx

/- Invoices: what Build yields. -/
namespace Gx
open Go Gd
set_option linter.unusedVariables false
set_option linter.unusedSimpArgs false

def amtL (l : List ApiLine) : List Int := l.map fun x => x.Amount
theorem amounts_loop {N : Nat} {l : List ApiLine} {f : Int × List Int → Option ((Int × List Int) ⊕ (List Int ⊕ Bool))} (hN : 5000 ≤ N) (hl : l.length ≤ 4096)
    (hf : ∀ v w, f (v, w) = if decide (v < (l.length : Int)) = true then (idx l v).bind fun x => if (!valB x.Amount) = true then some (.inr (.inr false)) else (app 8 w [x.Amount]).bind fun q => some (.inl (IntKind.wrap .i64 (v + 1), q)) else some (.inr (.inl w))) :
    loopN f N (0, []) = some (bif (amtL l).all valB then .inl (amtL l) else .inr false) := by
  refine loop_list (n := N) (s := ([] : List Int)) l (by rw [maxLen_val]; omega) (f := f) (fun s i => (i, s)) (fun i s => s = amtL (l.take i) ∧ (amtL (l.take i)).all valB = true)
    (fun s xs => bif (amtL l).all valB then .inl (amtL l) else .inr false) (fun s hI h => ?_) (fun s i x xs hx hlt hidx hw hd hI => ?_) (by omega) ⟨rfl, rfl⟩
  · obtain ⟨h1, h2⟩ := hI
    rw [List.take_length] at h1 h2
    rw [hf, h, h1, h2]; simp
  · obtain ⟨h1, h2⟩ := hI
    have hi := (List.getElem?_eq_some_iff.1 hx).1
    rw [hf, hlt, hidx]
    cases hv : valB x.Amount with
    | false =>
      right
      have : (amtL l).all valB = false := by
        rw [← Bool.not_eq_true, List.all_eq_true]
        intro hall
        have := hall x.Amount (List.mem_map.2 ⟨x, List.mem_of_getElem? hx, rfl⟩)
        rw [hv] at this; cases this
      rw [this]; simp [hv]
    | true =>
      have e : amtL (l.take (i + 1)) = amtL (l.take i) ++ [x.Amount] := by rw [take_snoc hx]; simp [amtL]
      refine .inl ⟨amtL (l.take (i + 1)), ?_, ⟨rfl, by rw [e, List.all_append, h2]; simp [hv]⟩, by trivial⟩
      subst h1
      have ha : app 8 (amtL (l.take i)) [x.Amount] = some (amtL (l.take i) ++ [x.Amount]) := app_of (by simp [amtL]; omega)
      simp [hv, ha, hw, e]
theorem amounts_p {N : Nat} {l : List ApiLine} (hN : 5000 ≤ N) (hl : l.length ≤ 4096) : invoice_amounts N l = some (bif (amtL l).all valB then (true, amtL l) else (false, [])) := by
  unfold invoice_amounts
  rw [amounts_loop hN hl (fun v w => by simp only [invoice_amounts_l1, valid_p]; rfl)]
  cases (amtL l).all valB <;> rfl
theorem amounts_r {N : Nat} {l : List ApiLine} (hN : 5000 ≤ N) (hl : l.length ≤ 4096) : billingref46_amounts N l = some (bif (amtL l).all valB then (true, amtL l) else (false, [])) := by
  unfold billingref46_amounts
  rw [amounts_loop hN hl (fun v w => by
    simp only [billingref46_amounts_l1, valid_r]
    split
    · cases idx l v with
      | none => rfl
      | some x => simp only [Option.bind_some]
    · rfl)]
  cases (amtL l).all valB <;> rfl

def setR (x : ApiLine) (n : Int) : ApiLine := (x.Kind, x.Sub, x.Name, x.Category, x.Count, x.Units, x.Amount, n)
def sumW (l : List Int) : Int := l.foldl (fun a x => IntKind.wrap .i64 (a + x)) 0
theorem sumW_snoc {l : List Int} {x : Int} : sumW (l ++ [x]) = IntKind.wrap .i64 (sumW l + x) := by simp [sumW, List.foldl_append]
def rndT (l : List ApiTaxLine) : List Int := l.map fun x => x.Rounded

section
variable {N : Nat} (hN : 5000 ≤ N)
include hN
theorem build1_p {lines : List ApiLine} {ns : List Int} (hn : ns.length = lines.length) (hl : lines.length ≤ 4096) (z : ApiInvoice) (ts : List ApiTaxLine) (a : Int) (p : ApiPeriod) :
    loopN (invoice_Build_l1 N ns) N (0, z, ts, a, p, 0, 0, 0, ns, lines) = some (z, ts, a, p, sumW ns, 0, 0, List.zipWith setR lines ns) := by
  refine loop_list (n := N) (s := ((0 : Int), lines)) ns (by rw [maxLen_val]; omega) (f := invoice_Build_l1 N ns) (fun s i => (i, z, ts, a, p, s.1, 0, 0, ns, s.2))
    (fun i s => s = (sumW (ns.take i), List.zipWith setR (lines.take i) (ns.take i) ++ lines.drop i)) (fun s xs => (z, ts, a, p, sumW ns, 0, 0, List.zipWith setR lines ns)) (fun s hI h => ?_) (fun s i x xs hx hlt hidx hw hd hI => ?_) (by omega) (by simp [sumW])
  · rw [List.take_length, hn, List.take_length, List.drop_length, List.append_nil] at hI
    rw [hI]
    simp [invoice_Build_l1]
  · have hi := (List.getElem?_eq_some_iff.1 hx).1
    obtain ⟨y, hy⟩ : ∃ y, lines[i]? = some y := ⟨_, List.getElem?_eq_getElem (by omega)⟩
    have hzl : (List.zipWith setR (lines.take i) (ns.take i)).length = i := by simp; omega
    have hdr : lines.drop i = y :: lines.drop (i + 1) := by
      obtain ⟨hio, hy'⟩ := List.getElem?_eq_some_iff.1 hy
      rw [List.drop_eq_getElem_cons hio, hy']
    have hs : (List.zipWith setR (lines.take i) (ns.take i) ++ lines.drop i)[i]? = some y := by
      rw [List.getElem?_append_right (by omega), hzl, Nat.sub_self, hdr]; rfl
    have e2 : (List.zipWith setR (lines.take i) (ns.take i) ++ lines.drop i).set i (setR y x) = List.zipWith setR (lines.take (i + 1)) (ns.take (i + 1)) ++ lines.drop (i + 1) := by
      rw [List.set_append_right _ _ (by omega), hzl, Nat.sub_self, hdr, List.set_cons_zero, take_snoc hy, take_snoc hx, List.zipWith_append (by simp; omega), List.append_assoc]
      rfl
    refine .inl ⟨(sumW (ns.take (i + 1)), List.zipWith setR (lines.take (i + 1)) (ns.take (i + 1)) ++ lines.drop (i + 1)), ?_, rfl, by trivial⟩
    rw [hI]
    simp only [invoice_Build_l1, hlt, if_true, hidx, Option.bind_some, idx_nat hs, hw, Int.toNat_natCast]
    rw [← e2, take_snoc hx, sumW_snoc]
    rfl
theorem build1_r {lines : List ApiLine} {ns : List Int} (hn : ns.length = lines.length) (hl : lines.length ≤ 4096) (ts : List ApiTaxLine) (a : Int) (p : ApiPeriod) :
    loopN (billingref46_Build_l1 N lines ns) N (0, ts, a, p, 0, 0, 0, []) = some (ts, a, p, sumW ns, 0, 0, List.zipWith setR lines ns) := by
  refine loop_list (n := N) (s := ((0 : Int), ([] : List ApiLine))) lines (by rw [maxLen_val]; omega) (f := billingref46_Build_l1 N lines ns) (fun s i => (i, ts, a, p, s.1, 0, 0, s.2))
    (fun i s => s = (sumW (ns.take i), List.zipWith setR (lines.take i) (ns.take i))) (fun s xs => (ts, a, p, sumW ns, 0, 0, List.zipWith setR lines ns)) (fun s hI h => ?_) (fun s i y xs hy hlt hidx hw hd hI => ?_) (by omega) (by simp [sumW])
  · rw [List.take_length, ← hn, List.take_length] at hI
    rw [hI]
    simp [billingref46_Build_l1]
  · have hi := (List.getElem?_eq_some_iff.1 hy).1
    obtain ⟨x, hx⟩ : ∃ x, ns[i]? = some x := ⟨_, List.getElem?_eq_getElem (by omega)⟩
    refine .inl ⟨(sumW (ns.take (i + 1)), List.zipWith setR (lines.take (i + 1)) (ns.take (i + 1))), ?_, rfl, by trivial⟩
    have ha : app 80 (List.zipWith setR (lines.take i) (ns.take i)) [setR y x] = some (List.zipWith setR (lines.take i) (ns.take i) ++ [setR y x]) := app_of (by simp; omega)
    rw [hI]
    have ha' : app 80 (List.zipWith setR (lines.take i) (ns.take i)) [(y.Kind, y.Sub, y.Name, y.Category, y.Count, y.Units, y.Amount, x)] = _ := ha
    simp only [billingref46_Build_l1, hlt, if_true, hidx, Option.bind_some, idx_nat hx, hw, ha']
    rw [take_snoc hx, take_snoc hy, sumW_snoc, List.zipWith_append (by simp; omega)]
    rfl
theorem build2_p {ts : List ApiTaxLine} (hl : ts.length ≤ 4096) (a : Int) (p : ApiPeriod) (n : Int) (ls : List ApiLine) :
    loopN (invoice_Build_l2 N ts) N (0, a, p, n, 0, 0, ts, ls) = some (a, p, n, sumW (rndT ts), 0, ls, ts) := by
  refine loop_list (n := N) (s := (0 : Int)) ts (by rw [maxLen_val]; omega) (f := invoice_Build_l2 N ts) (fun s i => (i, a, p, n, s, 0, ts, ls))
    (fun i s => s = sumW (rndT (ts.take i))) (fun s xs => (a, p, n, sumW (rndT ts), 0, ls, ts)) (fun s hI h => ?_) (fun s i x xs hx hlt hidx hw hd hI => ?_) (by omega) (by simp [sumW, rndT])
  · rw [List.take_length] at hI
    rw [hI]
    simp [invoice_Build_l2]
  · refine .inl ⟨sumW (rndT (ts.take (i + 1))), ?_, rfl, by trivial⟩
    have e : rndT (ts.take (i + 1)) = rndT (ts.take i) ++ [x.Rounded] := by rw [take_snoc hx]; simp [rndT]
    rw [hI, e, sumW_snoc]
    simp only [invoice_Build_l2, hlt, if_true, hidx, Option.bind_some, hw]
theorem build2_r {ts : List ApiTaxLine} (hl : ts.length ≤ 4096) (a : Int) (p : ApiPeriod) (n : Int) (ls : List ApiLine) :
    loopN (billingref46_Build_l2 N) N (0, ts, a, p, n, 0, 0, ls) = some (a, p, n, sumW (rndT ts), 0, ls, ts) := by
  refine loop_list (n := N) (s := (0 : Int)) ts (by rw [maxLen_val]; omega) (f := billingref46_Build_l2 N) (fun s i => (i, ts, a, p, n, s, 0, ls))
    (fun i s => s = sumW (rndT (ts.take i))) (fun s xs => (a, p, n, sumW (rndT ts), 0, ls, ts)) (fun s hI h => ?_) (fun s i x xs hx hlt hidx hw hd hI => ?_) (by omega) (by simp [sumW, rndT])
  · rw [List.take_length] at hI
    rw [hI]
    simp [billingref46_Build_l2]
  · refine .inl ⟨sumW (rndT (ts.take (i + 1))), ?_, rfl, by trivial⟩
    have e : rndT (ts.take (i + 1)) = rndT (ts.take i) ++ [x.Rounded] := by rw [take_snoc hx]; simp [rndT]
    rw [hI, e, sumW_snoc]
    simp only [billingref46_Build_l2, hlt, if_true, hidx, Option.bind_some, hw]
end
end Gx

/- Invoices: Build is as defined; taxes. -/
namespace Gx
open Go Gd
set_option linter.unusedVariables false
set_option linter.unusedSimpArgs false

abbrev Built := Int × ApiPeriod × Int × Int × Int × Int × (List ApiLine) × (List ApiTaxLine)
def noInv (e : Int) : Built := (0, (0, 0), 0, 0, 0, e, [], [])
def chkT (taxes : List ApiTax) : Int := (billingref45_Check 10064 taxes).getD 0
def validP (p : ApiPeriod) : Bool := ((decide (p.From ≥ 0)) && (decide (p.From < p.To))) && (decide (p.To ≤ 12622780800))
/-- What is built when all is well. -/
def goodS (a : Int) (p : ApiPeriod) (lines : List ApiLine) (ts : List ApiTaxLine) : Built :=
  (a, p, sumW (roundS (amtL lines)), sumW (rndT ts), IntKind.wrap .i64 (sumW (roundS (amtL lines)) + sumW (rndT ts)), 0, List.zipWith setR lines (roundS (amtL lines)), ts)
def buildS (a : Int) (p : ApiPeriod) (lines : List ApiLine) (taxes : List ApiTax) : Built :=
  if a < 1 ∨ a > 9999 then noInv 6 else bif validP p then (if lines.length = 0 then noInv 8 else if lines.length > 4096 then noInv 5 else
    bif (amtL lines).all valB then (if chkT taxes ≠ 0 then noInv (chkT taxes) else
      (if (taxLinesS taxes lines (IntKind.wrap .i64 (p.To - 1))).1 ≠ 0 then noInv (taxLinesS taxes lines (IntKind.wrap .i64 (p.To - 1))).1 else goodS a p lines (taxLinesS taxes lines (IntKind.wrap .i64 (p.To - 1))).2)) else noInv 6) else noInv 15

theorem amtL_len (l : List ApiLine) : (amtL l).length = l.length := by simp [amtL]
theorem chkT_eq {taxes : List ApiTax} (ht : taxes.length ≤ 4096) : tax_Check 10064 taxes = some (chkT taxes) ∧ billingref45_Check 10064 taxes = some (chkT taxes) := by
  obtain ⟨r, hr⟩ := check_ok (N := 10064) (by omega) ht
  have e : chkT taxes = r := by unfold chkT; rw [hr]; rfl
  exact ⟨by rw [check_eq (by omega), hr, e], by rw [hr, e]⟩

theorem build_p {a : Int} {p : ApiPeriod} {lines : List ApiLine} {taxes : List ApiTax} (ht : taxes.length ≤ 4096) : invoice_Build 10064 a p lines taxes = some (buildS a p lines taxes) := by
  unfold invoice_Build buildS
  by_cases h1 : a < 1 ∨ a > 9999
  · rw [if_pos h1, if_pos (by simpa using h1)]; rfl
  · rw [if_neg h1, if_neg (by simpa using h1)]
    rw [show interval_Valid 10064 p = some (validP p) from rfl]
    simp only [Option.bind_some]
    cases hp : validP p with
    | false => rfl
    | true =>
      simp only [Bool.not_true, Bool.false_eq_true, if_false, cond_true]
      by_cases h2 : lines.length = 0
      · simp only [h2, if_true, show (((0 : Nat) : Int) == 0) = true from rfl]; rfl
      · have b2 : ((lines.length : Int) == 0) = false := by rw [beq_eq_false_iff_ne]; omega
        simp only [b2, h2, Bool.false_eq_true, if_false]
        by_cases h3 : lines.length > 4096
        · have b3 : decide ((lines.length : Int) > 4096) = true := by simp; omega
          simp only [b3, h3, if_true]; rfl
        · have b3 : decide ((lines.length : Int) > 4096) = false := by simp; omega
          simp only [b3, h3, Bool.false_eq_true, if_false]
          rw [amounts_p (by omega) (by omega)]
          cases hv : (amtL lines).all valB with
          | false => rfl
          | true =>
            simp only [cond_true, Option.bind_some, Bool.not_true, Bool.false_eq_true, if_false, (chkT_eq ht).1, taxLines_p ht (show 5000 ≤ 10064 by omega)]
            by_cases h4 : chkT taxes = 0
            · have b4 : (chkT taxes != 0) = false := by simp [h4]
              simp only [b4, Bool.false_eq_true, if_false, h4, ne_eq, not_true_eq_false]
              by_cases h5 : (taxLinesS taxes lines (IntKind.wrap .i64 (p.To - 1))).1 = 0
              · have b5 : ((taxLinesS taxes lines (IntKind.wrap .i64 (p.To - 1))).1 != 0) = false := by simp [h5]
                simp only [b5, Bool.false_eq_true, if_false, h5, ne_eq, not_true_eq_false]
                have hrl := round_len (l := amtL lines) (by rw [amtL_len]; omega) hv
                rw [amtL_len] at hrl
                rw [app_of (by simp; omega)]
                simp only [Option.bind_some, List.nil_append, round_p (N := 10064) (by omega), build1_p (N := 10064) (by omega) hrl (by omega), build2_p (N := 10064) (by omega) (taxLines_len _ _ _)]
                rfl
              · have b5 : ((taxLinesS taxes lines (IntKind.wrap .i64 (p.To - 1))).1 != 0) = true := by simpa using h5
                simp only [b5, if_true, h5, ne_eq, not_false_eq_true]; rfl
            · have b4 : (chkT taxes != 0) = true := by simpa using h4
              simp only [b4, if_true, h4, ne_eq, not_false_eq_true]; rfl
theorem build_r {a : Int} {p : ApiPeriod} {lines : List ApiLine} {taxes : List ApiTax} (ht : taxes.length ≤ 4096) : billingref46_Build 10064 a p lines taxes = some (buildS a p lines taxes) := by
  unfold billingref46_Build buildS
  by_cases h1 : a < 1 ∨ a > 9999
  · rw [if_pos h1, if_pos (by simpa using h1)]; rfl
  · rw [if_neg h1, if_neg (by simpa using h1)]
    have hpv : ((decide (p.From < 0) || decide (p.From ≥ p.To)) || decide (p.To > 12622780800)) = !validP p := by
      unfold validP
      rw [Bool.eq_iff_iff]
      simp
    rw [hpv]
    cases hp : validP p with
    | false => rfl
    | true =>
      simp only [Bool.not_true, Bool.false_eq_true, if_false, cond_true]
      by_cases h2 : lines.length = 0
      · simp only [h2, if_true, show (((0 : Nat) : Int) == 0) = true from rfl]; rfl
      · have b2 : ((lines.length : Int) == 0) = false := by rw [beq_eq_false_iff_ne]; omega
        simp only [b2, h2, Bool.false_eq_true, if_false]
        by_cases h3 : lines.length > 4096
        · have b3 : decide ((lines.length : Int) > 4096) = true := by simp; omega
          simp only [b3, h3, if_true]; rfl
        · have b3 : decide ((lines.length : Int) > 4096) = false := by simp; omega
          simp only [b3, h3, Bool.false_eq_true, if_false]
          rw [amounts_r (by omega) (by omega)]
          cases hv : (amtL lines).all valB with
          | false => rfl
          | true =>
            simp only [cond_true, Option.bind_some, Bool.not_true, Bool.false_eq_true, if_false, (chkT_eq ht).2, taxLines_r ht (show 5000 ≤ 10064 by omega)]
            by_cases h4 : chkT taxes = 0
            · have b4 : (chkT taxes != 0) = false := by simp [h4]
              simp only [b4, Bool.false_eq_true, if_false, h4, ne_eq, not_true_eq_false]
              by_cases h5 : (taxLinesS taxes lines (IntKind.wrap .i64 (p.To - 1))).1 = 0
              · have b5 : ((taxLinesS taxes lines (IntKind.wrap .i64 (p.To - 1))).1 != 0) = false := by simp [h5]
                simp only [b5, Bool.false_eq_true, if_false, h5, ne_eq, not_true_eq_false]
                have hrl := round_len (l := amtL lines) (by rw [amtL_len]; omega) hv
                rw [amtL_len] at hrl
                simp only [Option.bind_some, round_r (N := 10064) (by omega), build1_r (N := 10064) (by omega) hrl (by omega), build2_r (N := 10064) (by omega) (taxLines_len _ _ _)]
                rfl
              · have b5 : ((taxLinesS taxes lines (IntKind.wrap .i64 (p.To - 1))).1 != 0) = true := by simpa using h5
                simp only [b5, if_true, h5, ne_eq, not_false_eq_true]; rfl
            · have b4 : (chkT taxes != 0) = true := by simpa using h4
              simp only [b4, if_true, h4, ne_eq, not_false_eq_true]; rfl
theorem build_lens {a : Int} {p : ApiPeriod} {lines : List ApiLine} {taxes : List ApiTax} : (buildS a p lines taxes).2.2.2.2.2.2.1.length ≤ 4096 ∧ (buildS a p lines taxes).2.2.2.2.2.2.2.length ≤ 4096 := by
  unfold buildS
  split
  · simp [noInv]
  · cases validP p with
    | false => simp [noInv]
    | true =>
      simp only [cond_true]
      split
      · simp [noInv]
      · split
        · simp [noInv]
        · cases (amtL lines).all valB with
          | false => simp [noInv]
          | true =>
            simp only [cond_true]
            split
            · simp [noInv]
            · split
              · simp [noInv]
              · refine ⟨?_, taxLines_len _ _ _⟩
                simp [goodS]; omega

theorem law_InvoiceBuilds (x0 : Billinglaw46Case) (g0 : gd tyBillinglaw46Case x0) : ∃ N, billinglaw46_InvoiceBuilds N x0 = some true := by
  refine ⟨10000 + 64, ?_⟩
  unfold billinglaw46_InvoiceBuilds billinglaw46_small
  rw [awake46]
  simp only [Option.bind_some]
  cases hs : (decide ((x0.Lines.length : Int) ≤ 60) && decide ((x0.Taxes.length : Int) ≤ 40)) with
  | false => rfl
  | true =>
    simp only [Bool.and_eq_true, decide_eq_true_eq] at hs
    obtain ⟨e1, e2⟩ := build_lens (a := x0.Account) (p := x0.Period) (lines := x0.Lines) (taxes := x0.Taxes)
    simp only [Bool.not_true, Bool.false_eq_true, if_false, build_p (show x0.Taxes.length ≤ 4096 by omega), build_r (show x0.Taxes.length ≤ 4096 by omega), Option.bind_some]
    unfold billingref46_Same
    simp only [sameLines (N := 10064) e1 (by omega), same_refl (N := 10064) e2 (by omega)]
    simp
end Gx

/- Invoices: the taxes are those of the last instant; without taxes the total is the net amount. -/
namespace Gx
open Go Gd
set_option linter.unusedVariables false
set_option linter.unusedSimpArgs false

theorem noInv_err (e : Int) : (noInv e).2.2.2.2.2.1 = e := rfl
theorem build_good {a : Int} {p : ApiPeriod} {lines : List ApiLine} {taxes : List ApiTax} (h : (buildS a p lines taxes).2.2.2.2.2.1 = 0) :
    ¬ (a < 1 ∨ a > 9999) ∧ validP p = true ∧ lines.length ≠ 0 ∧ lines.length ≤ 4096 ∧ (amtL lines).all valB = true ∧ chkT taxes = 0 ∧ (taxLinesS taxes lines (IntKind.wrap .i64 (p.To - 1))).1 = 0 ∧
      buildS a p lines taxes = goodS a p lines (taxLinesS taxes lines (IntKind.wrap .i64 (p.To - 1))).2 := by
  unfold buildS at h ⊢
  by_cases h1 : a < 1 ∨ a > 9999
  · rw [if_pos h1] at h; cases h
  · rw [if_neg h1] at h ⊢
    cases hp : validP p with
    | false => rw [hp] at h; cases h
    | true =>
      rw [hp] at h
      simp only [cond_true] at h ⊢
      by_cases h2 : lines.length = 0
      · rw [if_pos h2] at h; cases h
      · rw [if_neg h2] at h ⊢
        by_cases h3 : lines.length > 4096
        · rw [if_pos h3] at h; cases h
        · rw [if_neg h3] at h ⊢
          cases hv : (amtL lines).all valB with
          | false => rw [hv] at h; cases h
          | true =>
            rw [hv] at h
            simp only [cond_true] at h ⊢
            by_cases h4 : chkT taxes = 0
            · rw [if_neg (by simpa using h4)] at h ⊢
              by_cases h5 : (taxLinesS taxes lines (IntKind.wrap .i64 (p.To - 1))).1 = 0
              · rw [if_neg (by simpa using h5)] at h ⊢
                exact ⟨h1, by trivial, h2, by omega, by trivial, h4, h5, rfl⟩
              · rw [if_pos h5] at h; exact absurd h h5
            · rw [if_pos h4] at h; exact absurd h h4
theorem good_build {a : Int} {p : ApiPeriod} {lines : List ApiLine} {taxes : List ApiTax} (h1 : ¬ (a < 1 ∨ a > 9999)) (h2 : validP p = true) (h3 : lines.length ≠ 0) (h4 : lines.length ≤ 4096) (h5 : (amtL lines).all valB = true) (h6 : chkT taxes = 0) (h7 : (taxLinesS taxes lines (IntKind.wrap .i64 (p.To - 1))).1 = 0) :
    buildS a p lines taxes = goodS a p lines (taxLinesS taxes lines (IntKind.wrap .i64 (p.To - 1))).2 := by
  unfold buildS
  rw [if_neg h1, h2]
  simp only [cond_true]
  rw [if_neg h3, if_neg (show ¬ lines.length > 4096 by omega), h5]
  simp only [cond_true]
  rw [if_neg (by simpa using h6), if_neg (by simpa using h7)]

theorem chkT_nil : chkT [] = 0 := by
  unfold chkT
  have : ∀ M, billingref45_Check (M + 8) [] = some 0 := fun M => by kernel_rfl
  rw [this 10056]; rfl
theorem go_nil {taxes : List ApiTax} {lines : List ApiLine} {t : Int} : ∀ {cs : List Str} {s q s' : List ApiTaxLine × List Int}, linesGo taxes lines t s cs = .inl q → linesGo [] lines t s' cs = .inl s'
  | [], s, q, s', h => rfl
  | c :: cs, s, q, s', h => by
    have key : (sumS (amtsS lines c)).2 = 0 := by
      by_cases hk : (sumS (amtsS lines c)).2 = 0
      · exact hk
      · exfalso
        simp only [linesGo, lineStep] at h
        rw [if_pos (by simpa using hk)] at h
        cases h
    have e : lineStep [] lines t c = .inl none := by
      unfold lineStep
      rw [if_neg (by simp [key])]
      rfl
    simp only [linesGo, e]
    simp only [linesGo] at h
    cases hl : lineStep taxes lines t c with
    | inr e => rw [hl] at h; cases h
    | inl o =>
      rw [hl] at h
      cases o with
      | none => exact go_nil h
      | some y => exact go_nil h
theorem taxLines_nil {taxes : List ApiTax} {lines : List ApiLine} {t : Int} (h : (taxLinesS taxes lines t).1 = 0) : taxLinesS [] lines t = (0, []) := by
  unfold taxLinesS at h ⊢
  by_cases hl : (lines.length : Int) > 4096
  · rw [if_pos hl] at h; cases h
  · rw [if_neg hl] at h ⊢
    cases hg : linesGo taxes lines t ([], []) (catsS lines) with
    | inr e =>
      exfalso
      rw [hg] at h
      have : ∀ (cs : List Str) (s : List ApiTaxLine × List Int), linesGo taxes lines t s cs = .inr e → e ≠ 0 := by
        intro cs
        induction cs with
        | nil => intro s h; cases h
        | cons c cs ih =>
          intro s h
          simp only [linesGo] at h
          cases hs : lineStep taxes lines t c with
          | inr e' =>
            rw [hs] at h
            injection h with h
            subst h
            unfold lineStep at hs
            split at hs
            · rename_i q; injection hs with hs; subst hs; simpa using q
            · split at hs
              · cases hs
              · split at hs
                · rename_i q; injection hs with hs; subst hs; simpa using q
                · cases hs
          | inl o =>
            rw [hs] at h
            cases o with
            | none => exact ih _ h
            | some y => exact ih _ h
      exact this _ _ hg h
    | inl q =>
      rw [go_nil hg]
      rfl
theorem sumW_range (l : List Int) : -9223372036854775808 ≤ sumW l ∧ sumW l < 9223372036854775808 := by
  rcases List.eq_nil_or_concat l with rfl | ⟨l', x, rfl⟩
  · exact ⟨by decide, by decide⟩
  · rw [List.concat_eq_append, sumW_snoc]
    exact ⟨(wrap_facts _).2.1, (wrap_facts _).2.2⟩

theorem law_InvoiceTaxes (x0 : Billinglaw46Case) (g0 : gd tyBillinglaw46Case x0) : ∃ N, billinglaw46_InvoiceTaxes N x0 = some true := by
  refine ⟨10000 + 64, ?_⟩
  unfold billinglaw46_InvoiceTaxes billinglaw46_small
  rw [awake46]
  simp only [Option.bind_some]
  cases hs : (decide ((x0.Lines.length : Int) ≤ 60) && decide ((x0.Taxes.length : Int) ≤ 40)) with
  | false => rfl
  | true =>
    simp only [Bool.and_eq_true, decide_eq_true_eq] at hs
    simp only [Bool.not_true, Bool.false_eq_true, if_false, build_p (show x0.Taxes.length ≤ 4096 by omega), build_p (taxes := []) (show ([] : List ApiTax).length ≤ 4096 by simp), Option.bind_some]
    by_cases he : (buildS x0.Account x0.Period x0.Lines x0.Taxes).2.2.2.2.2.1 = 0
    · obtain ⟨h1, h2, h3, h4, h5, h6, h7, h8⟩ := build_good he
      have hn := taxLines_nil h7
      have hb2 := good_build (taxes := []) h1 h2 h3 h4 h5 chkT_nil (by rw [hn])
      rw [hn] at hb2
      have hlen := taxLines_len x0.Taxes x0.Lines (IntKind.wrap .i64 (x0.Period.To - 1))
      have hzl : (List.zipWith setR x0.Lines (roundS (amtL x0.Lines))).length ≤ 4096 := by simp; omega
      have hr := sumW_range (roundS (amtL x0.Lines))
      have hw : IntKind.wrap .i64 (sumW (roundS (amtL x0.Lines)) + sumW (rndT [])) = sumW (roundS (amtL x0.Lines)) := by
        rw [show sumW (rndT []) = 0 from rfl, Int.add_zero]
        exact wrap64 hr.1 hr.2
      rw [h8, hb2]
      simp only [goodS, bne_self_eq_false, Bool.false_eq_true, if_false, taxLines_r (show x0.Taxes.length ≤ 4096 by omega) (show 5000 ≤ 10064 by omega), Option.bind_some, h7, hw, same_refl (N := 10064) hlen (by omega), sameLines (N := 10064) hzl (by omega)]
      simp [sumW, rndT]
    · have : ((buildS x0.Account x0.Period x0.Lines x0.Taxes).2.2.2.2.2.1 != 0) = true := by simpa using he
      simp only [this, if_true]
end Gx

/- Invoices: keys of lines, in order. -/
namespace Gx
open Go Gd
set_option linter.unusedVariables false
set_option linter.unusedSimpArgs false

abbrev Key := Int × Int × Str
def kl (a b : Key) : Bool := if (a.1 != b.1) = true then decide (a.1 < b.1) else if (a.2.1 != b.2.1) = true then decide (a.2.1 < b.2.1) else Op.bytesLess a.2.2 b.2.2
theorem less_p (N : Nat) (a b : Key) : invoice_less N a b = some (kl a b) := by
  unfold invoice_less kl
  split
  · rfl
  · split <;> rfl
theorem less_r (N : Nat) (a b : Key) : billingref46_less N a b = some (kl a b) := less_p N a b
theorem kl_iff {a b : Key} : kl a b = true ↔ a.1 < b.1 ∨ (a.1 = b.1 ∧ (a.2.1 < b.2.1 ∨ (a.2.1 = b.2.1 ∧ bl a.2.2 b.2.2 = true))) := by
  unfold kl
  by_cases h1 : a.1 = b.1
  · by_cases h2 : a.2.1 = b.2.1
    · simp [h1, h2]
    · simp [h1, h2]
  · simp [h1]
theorem kl_irrefl (a : Key) : kl a a = false := by
  rw [← Bool.not_eq_true, kl_iff]
  rintro (h | ⟨_, h | ⟨_, h⟩⟩)
  · omega
  · omega
  · rw [bl_irrefl] at h; cases h
theorem kl_trans {a b c : Key} (h : kl a b = true) (k : kl b c = true) : kl a c = true := by
  rw [kl_iff] at h k ⊢
  rcases h with h | ⟨e1, h⟩
  · rcases k with k | ⟨e2, k⟩
    · exact .inl (by omega)
    · exact .inl (by omega)
  · rcases k with k | ⟨e2, k⟩
    · exact .inl (by omega)
    · refine .inr ⟨e1.trans e2, ?_⟩
      rcases h with h | ⟨e3, h⟩
      · rcases k with k | ⟨e4, k⟩
        · exact .inl (by omega)
        · exact .inl (by omega)
      · rcases k with k | ⟨e4, k⟩
        · exact .inl (by omega)
        · exact .inr ⟨e3.trans e4, bl_trans h k⟩
theorem kl_total {a b : Key} (h : kl a b = false) (hne : b ≠ a) : kl b a = true := by
  cases hk : kl b a with
  | true => rfl
  | false =>
    exfalso
    rw [← Bool.not_eq_true, kl_iff] at h hk
    apply hne
    obtain ⟨a1, a2, a3⟩ := a
    obtain ⟨b1, b2, b3⟩ := b
    simp only [not_or, not_and] at h hk
    have e1 : a1 = b1 := by
      have := h.1; have := hk.1; omega
    subst e1
    have h2 := h.2 rfl
    have k2 := hk.2 rfl
    have e2 : a2 = b2 := by omega
    subst e2
    have e3 : a3 = b3 := bl_total (by simpa using h2.2 rfl) (by simpa using k2.2 rfl)
    rw [e3]

def atK (l : List Key) (k : Key) : Nat := (l.takeWhile fun x => kl x k).length
def insK (l : List Key) (k : Key) : List Key := l.take (atK l k) ++ k :: l.drop (atK l k)
def ascK (l : List Key) : Prop := l.Pairwise fun a b => kl a b = true
theorem atK_le (l : List Key) (k : Key) : atK l k ≤ l.length := (List.takeWhile_sublist _).length_le
theorem insK_len (l : List Key) (k : Key) : (insK l k).length = l.length + 1 := by
  have := atK_le l k
  simp [insK]; omega
theorem atK_cons {x : Key} {l : List Key} {k : Key} : atK (x :: l) k = bif kl x k then atK l k + 1 else 0 := by
  unfold atK
  rw [List.takeWhile_cons]
  cases kl x k <;> simp
theorem insK_cons {x : Key} {l : List Key} {k : Key} : insK (x :: l) k = bif kl x k then x :: insK l k else k :: x :: l := by
  unfold insK
  rw [atK_cons]
  cases kl x k <;> simp
theorem mem_insK {l : List Key} {k x : Key} : x ∈ insK l k ↔ x = k ∨ x ∈ l := by
  induction l with
  | nil => simp [insK]
  | cons y l ih =>
    rw [insK_cons]
    cases kl y k with
    | true =>
      simp only [cond_true, List.mem_cons, ih]
      constructor
      · rintro (h | h | h)
        · exact .inr (.inl h)
        · exact .inl h
        · exact .inr (.inr h)
      · rintro (h | h | h)
        · exact .inr (.inl h)
        · exact .inl h
        · exact .inr (.inr h)
    | false => simp
theorem at_mem {l : List Key} {k : Key} (h : ascK l) : l[atK l k]? = some k ↔ k ∈ l := by
  induction l with
  | nil => simp
  | cons x l ih =>
    have hp := List.pairwise_cons.1 h
    rw [atK_cons]
    cases hk : kl x k with
    | true =>
      simp only [cond_true, List.getElem?_cons_succ, ih hp.2, List.mem_cons]
      constructor
      · exact .inr
      · rintro (rfl | h)
        · rw [kl_irrefl] at hk; cases hk
        · exact h
    | false =>
      simp only [cond_false, List.getElem?_cons_zero, Option.some.injEq, List.mem_cons]
      constructor
      · exact fun e => .inl e.symm
      · rintro (rfl | h)
        · rfl
        · rw [hp.1 k h] at hk; cases hk
theorem asc_insK {l : List Key} {k : Key} (h : ascK l) (hn : k ∉ l) : ascK (insK l k) := by
  induction l with
  | nil => exact List.pairwise_singleton _ _
  | cons x l ih =>
    have hp := List.pairwise_cons.1 h
    rw [insK_cons]
    cases hk : kl x k with
    | true =>
      simp only [cond_true]
      refine List.pairwise_cons.2 ⟨fun y hy => ?_, ih hp.2 fun q => hn (.tail _ q)⟩
      rcases mem_insK.1 hy with rfl | hy
      · exact hk
      · exact hp.1 y hy
    | false =>
      simp only [cond_false]
      have hkx : kl k x = true := kl_total hk fun e => hn (by rw [e]; exact .head _)
      refine List.pairwise_cons.2 ⟨fun y hy => ?_, h⟩
      rcases List.mem_cons.1 hy with rfl | hy
      · exact hkx
      · exact kl_trans hkx (hp.1 y hy)

/-- Where the first one lies that does not come before. -/
theorem posLoop {f : Int → Option (Int ⊕ Int)} {l : List Key} {k : Key} (hl : l.length ≤ 4096)
    (hf : ∀ i : Nat, i ≤ l.length → f (i : Int) = match l[i]? with
      | some x => if kl x k = true then some (.inl ((i + 1 : Nat) : Int)) else some (.inr (i : Int))
      | none => some (.inr (i : Int))) {N : Nat} (hN : 5000 ≤ N) : loopN f N 0 = some (atK l k : Int) := by
  have key : ∀ (s pre : List Key) (fuel : Nat), l = pre ++ s → s.length < fuel → loopN f fuel (pre.length : Int) = some ((pre.length + atK s k : Nat) : Int) := by
    intro s
    induction s with
    | nil =>
      intro pre fuel he hfu
      obtain ⟨m, rfl⟩ : ∃ m, fuel = m + 1 := ⟨fuel - 1, by omega⟩
      have hn : l[pre.length]? = none := by rw [he]; simp
      simp only [loopN, hf pre.length (by rw [he]; simp), hn]
      rfl
    | cons x s ih =>
      intro pre fuel he hfu
      obtain ⟨m, rfl⟩ : ∃ m, fuel = m + 1 := ⟨fuel - 1, by omega⟩
      have hx : l[pre.length]? = some x := by rw [he]; simp
      simp only [loopN, hf pre.length (by rw [he]; simp), hx]
      rw [atK_cons]
      cases hk : kl x k with
      | true =>
        have := ih (pre ++ [x]) m (by rw [he]; simp) (by simp at hfu; omega)
        rw [List.length_append] at this
        have this' : loopN f m ((pre.length + 1 : Nat) : Int) = some ((pre.length + 1 + atK s k : Nat) : Int) := this
        simp only [if_true, cond_true, Option.bind_some]
        rw [this']
        congr 2; omega
      | false => simp
  have := key l [] N rfl (by omega)
  simpa using this
end Gx

/- Invoices: the lines of usages. -/
namespace Gx
open Go Gd
set_option linter.unusedVariables false
set_option linter.unusedSimpArgs false

def cntB (x : ApiRated) (a : Int) (p : ApiPeriod) : Bool :=
  (((x.Usage.Account == a) && (x.Err == 0)) && (!x.Usage.Inbound)) && (decide (x.Usage.Units > 0)) && (((((decide (p.From ≥ 0)) && (decide (p.From < p.To))) && (decide (p.To ≤ 12622780800))) && (decide (x.Usage.Start ≥ p.From))) && (decide (x.Usage.Start < p.To)))
def keyOf (x : ApiRated) : Key := (x.Usage.Sub, x.Usage.Kind, if x.Zone = [] then [111, 116, 104, 101, 114] else x.Zone)
theorem counts_p (N : Nat) (x : ApiRated) (a : Int) (p : ApiPeriod) : invoice_counts N x a p = some (cntB x a p) := by
  unfold invoice_counts cntB
  cases ((((x.Usage.Account == a) && (x.Err == 0)) && (!x.Usage.Inbound)) && (decide (x.Usage.Units > 0))) <;> rfl
theorem counts_r (N : Nat) (x : ApiRated) (a : Int) (p : ApiPeriod) : billingref46_Counts N x a p = some (cntB x a p) := by
  unfold billingref46_Counts cntB
  congr 1
  generalize (x.Usage.Account == a) = b1
  generalize (x.Err == 0) = b2
  generalize x.Usage.Inbound = b3
  generalize decide (x.Usage.Units > 0) = b4
  generalize decide (p.From ≥ 0) = b5
  generalize decide (p.From < p.To) = b6
  generalize decide (p.To ≤ 12622780800) = b7
  generalize decide (x.Usage.Start ≥ p.From) = b8
  generalize decide (x.Usage.Start < p.To) = b9
  revert b1 b2 b3 b4 b5 b6 b7 b8 b9
  decide
theorem of_p (N : Nat) (x : ApiRated) : invoice_of N x = some (keyOf x) := by
  unfold invoice_of keyOf
  by_cases h : x.Zone = []
  · rw [if_pos (by simpa using h), if_pos h]; rfl
  · rw [if_neg (by simpa using h), if_neg h]; rfl
theorem of_r (N : Nat) (x : ApiRated) : billingref46_of N x = some (keyOf x) := by
  unfold billingref46_of billingref46_Name keyOf
  by_cases h : x.Zone = []
  · rw [if_pos (by simpa using h), if_pos h]; rfl
  · rw [if_neg (by simpa using h), if_neg h]; rfl

/-! ## The keys -/
def keyStep (a : Int) (p : ApiPeriod) (l : List Key) (x : ApiRated) : List Key := bif cntB x a p then (if keyOf x ∈ l then l else insK l (keyOf x)) else l
def keysS (a : Int) (p : ApiPeriod) (l : List ApiRated) : List Key := l.foldl (keyStep a p) []
theorem keyStep_len {a : Int} {p : ApiPeriod} (l : List Key) (x : ApiRated) : (keyStep a p l x).length ≤ l.length + 1 := by
  unfold keyStep
  cases cntB x a p with
  | false => simp
  | true =>
    simp only [cond_true]
    split
    · omega
    · rw [insK_len]; omega
theorem keysS_len {a : Int} {p : ApiPeriod} : ∀ (l : List ApiRated) (s : List Key), (l.foldl (keyStep a p) s).length ≤ s.length + l.length
  | [], s => by simp
  | x :: l, s => by
    have h1 := keysS_len (a := a) (p := p) l (keyStep a p s x)
    have h2 := keyStep_len (a := a) (p := p) s x
    simp only [List.foldl_cons, List.length_cons]
    omega
theorem keyStep_asc {a : Int} {p : ApiPeriod} {l : List Key} {x : ApiRated} (h : ascK l) : ascK (keyStep a p l x) := by
  unfold keyStep
  cases cntB x a p with
  | false => exact h
  | true =>
    simp only [cond_true]
    split
    · exact h
    · rename_i hn; exact asc_insK h hn
theorem keysS_asc {a : Int} {p : ApiPeriod} : ∀ (l : List ApiRated) (s : List Key), ascK s → ascK (l.foldl (keyStep a p) s)
  | [], s, h => h
  | x :: l, s, h => keysS_asc l _ (keyStep_asc h)
theorem keysS_snoc {a : Int} {p : ApiPeriod} {l : List ApiRated} {x : ApiRated} : keysS a p (l ++ [x]) = keyStep a p (keysS a p l) x := by simp [keysS, List.foldl_append]

theorem putLoop {N : Nat} {l : List Key} {k : Key} (hl : l.length ≤ 4096) (hN : 5000 ≤ N) : loopN (billingref46_put_l1 N l k) N 0 = some (atK l k : Int) := by
  refine posLoop hl (fun i hi => ?_) hN
  unfold billingref46_put_l1
  cases hx : l[i]? with
  | none =>
    have : l.length ≤ i := by rw [List.getElem?_eq_none_iff] at hx; exact hx
    have e : decide ((i : Int) < (l.length : Int)) = false := by simp; omega
    simp only [e, Bool.false_eq_true, if_false, Option.bind_some]
  | some x =>
    have hlt := (List.getElem?_eq_some_iff.1 hx).1
    have e : decide ((i : Int) < (l.length : Int)) = true := by simp; omega
    simp only [e, if_true, idx_nat hx, less_r, Option.bind_some, wrap_succ (show i < maxLen by rw [maxLen_val]; omega)]
theorem grpLoop {N : Nat} {l : List Key} {k : Key} (hl : l.length ≤ 4096) (hN : 5000 ≤ N) : loopN (invoice_groups_l3 N l k) N 0 = some (atK l k : Int) := by
  refine posLoop hl (fun i hi => ?_) hN
  unfold invoice_groups_l3
  cases hx : l[i]? with
  | none =>
    have : l.length ≤ i := by rw [List.getElem?_eq_none_iff] at hx; exact hx
    have e : decide ((i : Int) < (l.length : Int)) = false := by simp; omega
    simp only [e, Bool.false_eq_true, if_false, Option.bind_some]
  | some x =>
    have hlt := (List.getElem?_eq_some_iff.1 hx).1
    have e : decide ((i : Int) < (l.length : Int)) = true := by simp; omega
    simp only [e, if_true, idx_nat hx, less_p, Option.bind_some, wrap_succ (show i < maxLen by rw [maxLen_val]; omega)]

theorem put_r {N : Nat} {l : List Key} {k : Key} (h : ascK l) (hl : l.length ≤ 4095) (hN : 5000 ≤ N) : billingref46_put N l k = some (if k ∈ l then l else insK l k) := by
  unfold billingref46_put
  have hle := atK_le l k
  rw [putLoop (by omega) hN]
  simp only [Option.bind_some]
  have hb : ((if decide ((atK l k : Int) < (l.length : Int)) = true then
    (idx l (atK l k : Int)).bind fun x7 =>
    some ((Billingref46Key.Sub x7 == Billingref46Key.Sub k) && ((Billingref46Key.Kind x7 == Billingref46Key.Kind k) && ((Billingref46Key.Name x7 == Billingref46Key.Name k) && true)))
  else
    some false : Option (Bool))) = some (decide (k ∈ l)) := by
    by_cases hlt : atK l k < l.length
    · have hx : l[atK l k]? = some l[atK l k] := List.getElem?_eq_getElem hlt
      have hiff : l[atK l k] = k ↔ k ∈ l := by
        rw [← at_mem h, hx]; simp
      generalize l[atK l k] = x at *
      rw [if_pos (by simp; omega), idx_nat hx]
      simp only [Option.bind_some, Option.some.injEq]
      rw [Bool.eq_iff_iff]
      simp only [Bool.and_true, Bool.and_eq_true, beq_iff_eq, decide_eq_true_eq, ← hiff]
      constructor
      · rintro ⟨h1, h2, h3⟩
        obtain ⟨x1, x2, x3⟩ := x
        obtain ⟨k1, k2, k3⟩ := k
        have h1 : x1 = k1 := h1
        have h2 : x2 = k2 := h2
        have h3 : x3 = k3 := h3
        rw [h1, h2, h3]
      · rintro rfl; exact ⟨rfl, rfl, rfl⟩
    · rw [if_neg (by simp; omega)]
      have : k ∉ l := fun hm => by
        have := (at_mem h).2 hm
        rw [List.getElem?_eq_none (by omega)] at this
        cases this
      simp [this]
  rw [hb]
  by_cases hm : k ∈ l
  · simp [hm]
  · simp only [Option.bind_some, hm, decide_false, Bool.false_eq_true, if_false]
    rw [slc_front hle]
    simp only [Option.bind_some]
    rw [app_of (by simp; omega)]
    simp only [Option.bind_some]
    rw [app_of (by simp; omega)]
    simp only [Option.bind_some]
    rw [slc_back hle]
    simp only [Option.bind_some]
    rw [app_of (by simp; omega)]
    simp [insK]

theorem keys_r {N : Nat} {l : List ApiRated} {a : Int} {p : ApiPeriod} (hl : l.length ≤ 4000) (hN : 5000 ≤ N) : loopN (billingref46_Lines_l1 N l a p) N ([], 0) = some (keysS a p l) := by
  refine loop_list (n := N) (s := ([] : List Key)) l (by rw [maxLen_val]; omega) (f := billingref46_Lines_l1 N l a p) (fun s i => (s, i)) (fun i s => s = keysS a p (l.take i))
    (fun s xs => keysS a p l) (fun s hI h => ?_) (fun s i x xs hx hlt hidx hw hd hI => ?_) (by omega) rfl
  · rw [List.take_length] at hI
    rw [hI]
    simp [billingref46_Lines_l1]
  · have hi := (List.getElem?_eq_some_iff.1 hx).1
    refine .inl ⟨keysS a p (l.take (i + 1)), ?_, rfl, by trivial⟩
    have hlen := keysS_len (a := a) (p := p) (l.take i) []
    have hasc := keysS_asc (a := a) (p := p) (l.take i) [] List.Pairwise.nil
    have hlen' : (keysS a p (l.take i)).length ≤ 4095 := by
      unfold keysS
      simp at hlen
      omega
    rw [hI, take_snoc hx, keysS_snoc]
    simp only [billingref46_Lines_l1, hlt, if_true, hidx, Option.bind_some, counts_r, hw, of_r, put_r (k := keyOf x) (show ascK (keysS a p (l.take i)) from hasc) hlen' hN]
    unfold keyStep
    cases cntB x a p <;> rfl
end Gx

/- Invoices: the usages behind a line, and the lines. -/
namespace Gx
open Go Gd
set_option linter.unusedVariables false
set_option linter.unusedSimpArgs false

abbrev Grp := Int × Int × List Int
def capU (u x : Int) : Int := if x > 1125899906842624 - (if 1125899906842624 < u then 1125899906842624 else u) then 1125899906842625 else u + x
def grpStep (a : Int) (p : ApiPeriod) (k : Key) (g : Grp) (x : ApiRated) : Grp := bif cntB x a p && (decide (keyOf x = k)) then (g.1 + 1, capU g.2.1 x.Usage.Units, g.2.2 ++ [x.Owed]) else g
def grpS (a : Int) (p : ApiPeriod) (l : List ApiRated) (k : Key) : Grp := l.foldl (grpStep a p k) (0, 0, [])
theorem grpS_snoc {a : Int} {p : ApiPeriod} {l : List ApiRated} {x : ApiRated} {k : Key} : grpS a p (l ++ [x]) k = grpStep a p k (grpS a p l k) x := by simp [grpS, List.foldl_append]
theorem cnt_pos {x : ApiRated} {a : Int} {p : ApiPeriod} (h : cntB x a p = true) : x.Usage.Units > 0 := by
  unfold cntB at h
  simp only [Bool.and_eq_true, decide_eq_true_eq] at h
  exact h.1.2
theorem cap_ok {u x : Int} (h0 : 0 ≤ u) (h1 : u ≤ 1125899906842625) (hx : x > 0) : 0 ≤ capU u x ∧ capU u x ≤ 1125899906842625 ∧
    capU u x = (if 1125899906842625 < u + (if 1125899906842625 < x then 1125899906842625 else x) then 1125899906842625 else u + (if 1125899906842625 < x then 1125899906842625 else x)) := by
  unfold capU
  repeat' split
  all_goals omega
theorem grp_ok {a : Int} {p : ApiPeriod} {k : Key} : ∀ (l : List ApiRated) (g : Grp), 0 ≤ g.1 → 0 ≤ g.2.1 → g.2.1 ≤ 1125899906842625 →
    (0 ≤ (l.foldl (grpStep a p k) g).1 ∧ (l.foldl (grpStep a p k) g).1 ≤ g.1 + l.length) ∧ (0 ≤ (l.foldl (grpStep a p k) g).2.1 ∧ (l.foldl (grpStep a p k) g).2.1 ≤ 1125899906842625) ∧ (l.foldl (grpStep a p k) g).2.2.length ≤ g.2.2.length + l.length
  | [], g, h0, h1, h2 => by simp; omega
  | x :: l, g, h0, h1, h2 => by
    have key : 0 ≤ (grpStep a p k g x).1 ∧ (grpStep a p k g x).1 ≤ g.1 + 1 ∧ 0 ≤ (grpStep a p k g x).2.1 ∧ (grpStep a p k g x).2.1 ≤ 1125899906842625 ∧ (grpStep a p k g x).2.2.length ≤ g.2.2.length + 1 := by
      unfold grpStep
      cases hc : cntB x a p with
      | false => simp; omega
      | true =>
        have := cap_ok h1 h2 (cnt_pos hc)
        cases decide (keyOf x = k) with
        | false => simp; omega
        | true => simp; omega
    have ih := grp_ok (a := a) (p := p) (k := k) l (grpStep a p k g x) key.1 key.2.2.1 key.2.2.2.1
    simp only [List.foldl_cons, List.length_cons]
    push_cast
    omega
theorem grp_ok0 (a : Int) (p : ApiPeriod) (k : Key) (l : List ApiRated) : (0 ≤ (grpS a p l k).1 ∧ (grpS a p l k).1 ≤ l.length) ∧ (0 ≤ (grpS a p l k).2.1 ∧ (grpS a p l k).2.1 ≤ 1125899906842625) ∧ (grpS a p l k).2.2.length ≤ l.length := by
  have := grp_ok (a := a) (p := p) (k := k) l (0, 0, []) (by simp) (by simp) (by simp)
  simpa [grpS] using this

/-! ## The code's groups -/
theorem eqK_key {a b : Key} : eqK tyInvoiceKey a b = decide (a = b) := by
  obtain ⟨a1, a2, a3⟩ := a
  obtain ⟨b1, b2, b3⟩ := b
  rw [Bool.eq_iff_iff]
  show ((a1 == b1) && ((a2 == b2) && (a3 == b3))) = true ↔ _
  simp
theorem find_putK (c d : Key) (v : Grp) : ∀ m : List (Key × Grp), findL (k := tyInvoiceKey) c (putL (k := tyInvoiceKey) d v m) = if c = d then some v else findL (k := tyInvoiceKey) c m
  | [] => by
    simp only [putL, findL, eqK_key]
    by_cases h : c = d <;> simp [h]
  | x :: m => by
    have ih := find_putK c d v m
    simp only [putL, eqK_key]
    by_cases hd : d = x.1
    · simp only [hd, decide_true, cond_true, findL, eqK_key]
      by_cases h : c = x.1 <;> simp [h]
    · simp only [hd, decide_false, cond_false, findL, eqK_key, ih]
      by_cases h : c = d
      · subst h; simp [hd]
      · simp [h]
def mapG (a : Int) (p : ApiPeriod) (l : List ApiRated) (m : List (Key × Grp)) : Prop :=
  ∀ k, (findL (k := tyInvoiceKey) k m).getD (0, 0, []) = grpS a p l k ∧ ((findL (k := tyInvoiceKey) k m).isSome = decide (k ∈ keysS a p l))
theorem opt_getD {o : Option Grp} : optL (fun (y : InvoiceGroup) => (y.owed : (List Int))) o = (o.getD (0, 0, [])).2.2 := by
  cases o <;> rfl

theorem groups_p {N : Nat} {l : List ApiRated} {a : Int} {p : ApiPeriod} (hl : l.length ≤ 4000) (hN : 5000 ≤ N) : ∃ m, invoice_groups N l a p = some (keysS a p l, m) ∧ mapG a p l m := by
  unfold invoice_groups
  obtain ⟨r, h1, h2⟩ := loopN_inv (f := invoice_groups_l4 N l a) (n := N) (s := ((0 : Int), p, ([] : List (Key × Grp)), ([] : List Key))) l.length
    (fun i s => ∃ m, s = ((i : Int), p, m, keysS a p (l.take i)) ∧ mapG a p (l.take i) m) (fun r => ∃ m, r = (m, keysS a p l) ∧ mapG a p l m) (fun i s hi hs => by
      obtain ⟨m, rfl, hm⟩ := hs
      rcases Nat.lt_or_ge i l.length with hlt | hge
      · have hx : l[i]? = some l[i] := List.getElem?_eq_getElem hlt
        generalize hxx : l[i] = x at hx
        have ht := take_snoc hx
        have hlen : (keysS a p (l.take i)).length ≤ 4000 := by
          have := keysS_len (a := a) (p := p) (l.take i) []
          simp at this
          unfold keysS; omega
        have hw : IntKind.wrap .i64 ((i : Int) + 1) = ((i + 1 : Nat) : Int) := wrap_succ (by rw [maxLen_val]; omega)
        have hcs : keysS a p (l.take (i + 1)) = keyStep a p (keysS a p (l.take i)) x := by rw [ht, keysS_snoc]
        cases hc : cntB x a p with
        | false =>
          refine .inl ⟨((i + 1 : Nat), p, m, keysS a p (l.take (i + 1))), hlt, ?_, m, rfl, ?_⟩
          · simp only [invoice_groups_l4, decide_eq_true (show (i : Int) < (l.length : Int) by omega), if_true, idx_nat hx, Option.bind_some, counts_p, hc, Bool.not_false, hw]
            rw [hcs]; unfold keyStep; rw [hc]; rfl
          · intro k
            have := hm k
            rw [hcs, ht, grpS_snoc]
            unfold grpStep keyStep
            rw [hc]
            exact this
        | true =>
          have hk := atK_le (keysS a p (l.take i)) (keyOf x)
          obtain ⟨g1, g2⟩ := hm (keyOf x)
          have gb := grp_ok0 a p (keyOf x) (l.take i)
          have htl : (l.take i).length ≤ 4000 := by rw [List.length_take]; omega
          have hxu := cnt_pos hc
          have hcap := cap_ok gb.2.1.1 gb.2.1.2 hxu
          have hchk : chk (eqK tyInvoiceKey (keyOf x) (keyOf x)) = some () := by rw [eqK_key]; simp [chk]
          have hnew : grpS a p (l.take (i + 1)) (keyOf x) = ((grpS a p (l.take i) (keyOf x)).1 + 1, capU (grpS a p (l.take i) (keyOf x)).2.1 x.Usage.Units, (grpS a p (l.take i) (keyOf x)).2.2 ++ [x.Owed]) := by
            rw [ht, grpS_snoc]; unfold grpStep; rw [hc]; simp
          refine .inl ⟨((i + 1 : Nat), p, putL (k := tyInvoiceKey) (keyOf x) (grpS a p (l.take (i + 1)) (keyOf x)) m, keysS a p (l.take (i + 1))), hlt, ?_, _, rfl, ?_⟩
          · simp only [invoice_groups_l4, decide_eq_true (show (i : Int) < (l.length : Int) by omega), if_true, idx_nat hx, Option.bind_some, counts_p, hc, Bool.not_true, Bool.false_eq_true, if_false, of_p, hchk, g2, hw]
            have hk1 : (if (!decide (keyOf x ∈ keysS a p (l.take i))) = true then
                (loopN (invoice_groups_l3 N (keysS a p (l.take i)) (keyOf x)) N 0).bind fun v28 =>
                (slc (keysS a p (l.take i)) 0 v28).bind fun s29 =>
                (app 32 ([] : (List InvoiceKey)) s29).bind fun q30 =>
                (app 32 q30 ([keyOf x] : (List InvoiceKey))).bind fun q31 =>
                (slc (keysS a p (l.take i)) v28 (List.length (keysS a p (l.take i)) : Int)).bind fun s32 =>
                (app 32 q31 s32).bind fun q33 =>
                some q33
              else some (keysS a p (l.take i))) = some (keysS a p (l.take (i + 1))) := by
              rw [hcs]
              unfold keyStep
              rw [hc]
              simp only [cond_true]
              by_cases hmem : keyOf x ∈ keysS a p (l.take i)
              · simp [hmem]
              · simp only [hmem, decide_false, Bool.not_false, if_true, if_false]
                rw [grpLoop (by omega) hN]
                simp only [Option.bind_some]
                rw [slc_front hk]
                simp only [Option.bind_some]
                rw [app_of (by simp; omega)]
                simp only [Option.bind_some]
                rw [app_of (by simp; omega)]
                simp only [Option.bind_some]
                rw [slc_back hk]
                simp only [Option.bind_some]
                rw [app_of (by simp; omega)]
                simp [insK]
            rw [hk1]
            simp only [Option.bind_some, opt_getD]
            rw [hnew]
            rw [show (findL (k := tyInvoiceKey) (keyOf x) m).getD (0, 0, ([] : List Int)) = grpS a p (l.take i) (keyOf x) from g1]
            generalize grpS a p (l.take i) (keyOf x) = g at *
            obtain ⟨gc, gu, go⟩ := g
            have w1 : IntKind.wrap .i64 (gc + 1) = gc + 1 := wrap64 (by simp at gb; omega) (by simp at gb; omega)
            have w2 : IntKind.wrap .i64 (1125899906842624 - (if 1125899906842624 < gu then 1125899906842624 else gu)) = 1125899906842624 - (if 1125899906842624 < gu then 1125899906842624 else gu) := by
              have := gb.2.1
              simp only at this
              apply wrap64 <;> split <;> omega
            have ha : app 8 go [x.Owed] = some (go ++ [x.Owed]) := app_of (by have := gb.2.2; simp only at this; simp; omega)
            have w3 : ¬ (x.Usage.Units > 1125899906842624 - (if 1125899906842624 < gu then 1125899906842624 else gu)) → IntKind.wrap .i64 (gu + x.Usage.Units) = gu + x.Usage.Units := fun hn => by
              have := gb.2.1
              simp only at this
              have h3 : x.Usage.Units ≤ 1125899906842624 := by
                by_cases hq : 1125899906842624 < gu
                · rw [if_pos hq] at hn; omega
                · rw [if_neg hq] at hn; omega
              exact wrap64 (by omega) (by omega)
            show ((if decide (x.Usage.Units > IntKind.wrap .i64 (1125899906842624 - (if 1125899906842624 < gu then 1125899906842624 else gu))) = true then
                some (IntKind.wrap .i64 (gc + 1), (1125899906842625 : Int), go)
              else some (IntKind.wrap .i64 (gc + 1), IntKind.wrap .i64 (gu + x.Usage.Units), go)).bind _).bind _ = _
            rw [w1, w2]
            unfold capU
            by_cases hcu : x.Usage.Units > 1125899906842624 - (if 1125899906842624 < gu then 1125899906842624 else gu)
            · rw [if_pos (by simpa using hcu), if_pos hcu]
              simp only [Option.bind_some, ha, hchk]
            · rw [if_neg (by simpa using hcu), if_neg hcu, w3 hcu]
              simp only [Option.bind_some, ha, hchk]
          · intro k
            rw [find_putK]
            by_cases hkx : k = keyOf x
            · subst hkx
              rw [if_pos rfl]
              refine ⟨rfl, ?_⟩
              rw [hcs]
              unfold keyStep
              rw [hc]
              simp only [cond_true]
              split
              · rename_i q; simp [q]
              · simp [mem_insK]
            · rw [if_neg hkx]
              obtain ⟨q1, q2⟩ := hm k
              refine ⟨?_, ?_⟩
              · rw [q1, ht, grpS_snoc]
                unfold grpStep
                rw [hc]
                have : decide (keyOf x = k) = false := by simp; exact fun e => hkx e.symm
                rw [this]; rfl
              · rw [q2, hcs]
                unfold keyStep
                rw [hc]
                simp only [cond_true]
                split
                · rfl
                · rw [decide_eq_decide, mem_insK]; simp [hkx]
      · have : i = l.length := by omega
        subst this
        rw [List.take_length] at hm
        exact .inr ⟨(m, keysS a p l), by simp [invoice_groups_l4], m, rfl, hm⟩) (by omega) ⟨[], by simp [keysS], fun k => by simp [findL, grpS, keysS]⟩
  obtain ⟨m, rfl, hm⟩ := h2
  have h1' : loopN (invoice_groups_l4 N l a) N (0, p, ([] : List (Key × Grp)), ([] : List Key)) = some (m, keysS a p l) := h1
  rw [h1']
  exact ⟨m, rfl, hm⟩
end Gx

/- Invoices: the lines of usages are as defined. -/
namespace Gx
open Go Gd
set_option linter.unusedVariables false
set_option linter.unusedSimpArgs false

def catS (k : Int) : Str := if (k == 1) = true then [118, 111, 105, 99, 101] else if (k == 2) = true then [116, 101, 120, 116] else if (k == 3) = true then [100, 97, 116, 97] else if (k == 4) = true then [99, 111, 110, 116, 101, 110, 116] else []
theorem cat_p (N : Nat) (k : Int) : invoice_category N k = some (catS k) := by
  unfold invoice_category catS
  repeat' split
  all_goals rfl
theorem cat_r (N : Nat) (k : Int) : billingref46_Category N k = some (catS k) := by
  unfold billingref46_Category catS
  repeat' split
  all_goals rfl
/-- The line of a key, if it can be told. -/
def lineOf (k : Key) (g : Grp) : Option ApiLine := if ((sumS g.2.2).2 != 0 || decide (g.2.1 > 1125899906842624)) = true then none else some (1, k.1, k.2.2, catS k.2.1, g.1, g.2.1, (sumS g.2.2).1, 0)
def linesK (gr : Key → Grp) : List Key → List ApiLine → Option (List ApiLine)
  | [], acc => some acc
  | k :: ks, acc => match lineOf k (gr k) with
    | some x => linesK gr ks (acc ++ [x])
    | none => none
def linesS (l : List ApiRated) (a : Int) (p : ApiPeriod) : Int × List ApiLine := match linesK (grpS a p l) (keysS a p l) [] with
  | some ls => (0, ls)
  | none => (6, [])

theorem linesLoop7 {N : Nat} {ks : List Key} {gr : Key → Grp} {f : Int × List ApiLine → Option ((Int × List ApiLine) ⊕ (List ApiLine ⊕ Int))} (hl : ks.length ≤ 4096) (hN : 5000 ≤ N)
    (hf0 : ∀ s : List ApiLine, f ((ks.length : Int), s) = some (.inr (.inl s)))
    (hf : ∀ (i : Nat) (k : Key) (s : List ApiLine), ks[i]? = some k → s.length ≤ i → f ((i : Int), s) = match lineOf k (gr k) with
      | some x => some (.inl (((i + 1 : Nat) : Int), s ++ [x]))
      | none => some (.inr (.inr 6))) :
    loopN f N (0, []) = some (match linesK gr ks [] with | some ls => .inl ls | none => .inr 6) := by
  refine loop_list (n := N) (s := ([] : List ApiLine)) ks (by rw [maxLen_val]; omega) (f := f) (fun s i => (i, s)) (fun i s => s.length ≤ i)
    (fun s xs => match linesK gr xs s with | some ls => .inl ls | none => .inr 6) (fun s hI h => ?_) (fun s i k xs hx hlt hidx hw hd hI => ?_) (by omega) (by simp)
  · rw [hf0]; rfl
  · have h1 := hf i k s hx hI
    cases hk : lineOf k (gr k) with
    | some x =>
      rw [hk] at h1
      exact .inl ⟨s ++ [x], h1, by simp; exact hI, by simp only [linesK, hk]⟩
    | none =>
      rw [hk] at h1
      exact .inr (by rw [h1]; simp only [linesK, hk])

theorem lines_p {l : List ApiRated} {a : Int} {p : ApiPeriod} (hl : l.length ≤ 4000) {N : Nat} (hN : 5000 ≤ N) : invoice_Lines N l a p = some (linesS l a p) := by
  unfold invoice_Lines linesS
  obtain ⟨m, hm, hg⟩ := groups_p (a := a) (p := p) hl hN
  have hklen : (keysS a p l).length ≤ 4000 := by
    have := keysS_len (a := a) (p := p) l []
    simp at this
    unfold keysS; omega
  rw [if_neg (by simp; omega), hm]
  simp only [Option.bind_some]
  rw [linesLoop7 (f := invoice_Lines_l1 N (keysS a p l) m) (ks := keysS a p l) (gr := grpS a p l) (by omega) hN (fun s => by simp [invoice_Lines_l1]) (fun i k s hk hs => ?_)]
  · cases linesK (grpS a p l) (keysS a p l) [] <;> rfl
  · have hi := (List.getElem?_eq_some_iff.1 hk).1
    have g1 := (hg k).1
    have hw : IntKind.wrap .i64 ((i : Int) + 1) = ((i + 1 : Nat) : Int) := wrap_succ (by rw [maxLen_val]; omega)
    have g1' : (findL (k := tyInvoiceKey) k m).getD (0, 0, ([] : List Int)) = grpS a p l k := g1
    simp only [invoice_Lines_l1, decide_eq_true (show (i : Int) < ((keysS a p l).length : Int) by omega), if_true, idx_nat hk, Option.bind_some, g1', sum_p hN, cat_p, hw]
    unfold lineOf
    generalize grpS a p l k = g
    obtain ⟨gc, gu, go⟩ := g
    by_cases hc : ((sumS go).2 != 0 || decide (gu > 1125899906842624)) = true
    · rw [if_pos hc, if_pos hc]
    · rw [if_neg hc, if_neg hc, app_of (by simp; omega)]
      rfl

theorem line_r {l : List ApiRated} {a : Int} {p : ApiPeriod} {k : Key} (hl : l.length ≤ 4000) {N : Nat} (hN : 5000 ≤ N) :
    billingref46_line N l a p k = some (match lineOf k (grpS a p l k) with | some x => (x, 0) | none => ((0, 0, [], [], 0, 0, 0, 0), 6)) := by
  unfold billingref46_line
  rw [cat_r]
  simp only [Option.bind_some]
  have key : loopN (billingref46_line_l1 N l a p k) N (0, (1, k.1, k.2.2, catS k.2.1, 0, 0, 0, 0), []) = some ((1, k.1, k.2.2, catS k.2.1, (grpS a p l k).1, (grpS a p l k).2.1, 0, 0), (grpS a p l k).2.2) := by
    refine loop_list (n := N) (s := (((1, k.1, k.2.2, catS k.2.1, 0, 0, 0, 0) : ApiLine), ([] : List Int))) l (by rw [maxLen_val]; omega) (f := billingref46_line_l1 N l a p k) (fun s i => (i, s.1, s.2))
      (fun i s => s = ((1, k.1, k.2.2, catS k.2.1, (grpS a p (l.take i) k).1, (grpS a p (l.take i) k).2.1, 0, 0), (grpS a p (l.take i) k).2.2))
      (fun s xs => ((1, k.1, k.2.2, catS k.2.1, (grpS a p l k).1, (grpS a p l k).2.1, 0, 0), (grpS a p l k).2.2)) (fun s hI h => ?_) (fun s i x xs hx hlt hidx hw hd hI => ?_) (by omega) rfl
    · rw [List.take_length] at hI
      rw [hI]
      simp [billingref46_line_l1]
    · have hi := (List.getElem?_eq_some_iff.1 hx).1
      have hgb := grp_ok0 a p k (l.take i)
      have hgs : grpS a p (l.take (i + 1)) k = grpStep a p k (grpS a p (l.take i) k) x := by rw [take_snoc hx, grpS_snoc]
      refine .inl ⟨((1, k.1, k.2.2, catS k.2.1, (grpS a p (l.take (i + 1)) k).1, (grpS a p (l.take (i + 1)) k).2.1, 0, 0), (grpS a p (l.take (i + 1)) k).2.2), ?_, rfl, by trivial⟩
      rw [hI, hgs]
      have htl : (l.take i).length ≤ 4000 := by rw [List.length_take]; omega
      generalize grpS a p (l.take i) k = g at *
      obtain ⟨gc, gu, go⟩ := g
      simp only [billingref46_line_l1, hlt, if_true, hidx, Option.bind_some, counts_r, of_r, hw]
      unfold grpStep
      cases hc : cntB x a p with
      | false => rfl
      | true =>
        have hke : ((Billingref46Key.Sub (keyOf x) == Billingref46Key.Sub k) && ((Billingref46Key.Kind (keyOf x) == Billingref46Key.Kind k) && ((Billingref46Key.Name (keyOf x) == Billingref46Key.Name k) && true))) = decide (keyOf x = k) := by
          generalize keyOf x = y
          obtain ⟨y1, y2, y3⟩ := y
          obtain ⟨k1, k2, k3⟩ := k
          rw [Bool.eq_iff_iff]
          show ((y1 == k1) && ((y2 == k2) && ((y3 == k3) && true))) = true ↔ _
          simp
        simp only [Bool.not_true, Bool.false_eq_true, if_false, Option.bind_some, hke, Bool.true_and]
        cases hd2 : decide (keyOf x = k) with
        | false => rfl
        | true =>
          have hcap := cap_ok hgb.2.1.1 hgb.2.1.2 (cnt_pos hc)
          simp only at hcap
          have hgb1 := hgb.1
          have hgb2 := hgb.2.1
          have hgb3 := hgb.2.2
          simp only at hgb1 hgb2 hgb3
          have w1 : IntKind.wrap .i64 (gc + 1) = gc + 1 := wrap64 (by omega) (by omega)
          have w2 : IntKind.wrap .i64 (gu + (if 1125899906842625 < x.Usage.Units then 1125899906842625 else x.Usage.Units)) = gu + (if 1125899906842625 < x.Usage.Units then 1125899906842625 else x.Usage.Units) := by
            have := cnt_pos hc
            apply wrap64 <;> split <;> omega
          have ha : app 8 go [x.Owed] = some (go ++ [x.Owed]) := app_of (by simp; omega)
          simp only [Bool.not_true, Bool.false_eq_true, if_false, Option.bind_some, ha, cond_true, hcap.2.2]
          show some (Sum.inl ((((i + 1 : Nat) : Int)), (1, k.1, k.2.2, catS k.2.1, IntKind.wrap .i64 (gc + 1), (if 1125899906842625 < IntKind.wrap .i64 (gu + (if 1125899906842625 < x.Usage.Units then 1125899906842625 else x.Usage.Units)) then 1125899906842625 else IntKind.wrap .i64 (gu + (if 1125899906842625 < x.Usage.Units then 1125899906842625 else x.Usage.Units))), 0, 0), go ++ [x.Owed])) = _
          rw [w1, w2]
  have key' : loopN (billingref46_line_l1 N l a p k) N (0, (1, Billingref46Key.Sub k, Billingref46Key.Name k, catS (Billingref46Key.Kind k), 0, 0, 0, 0), []) = _ := key
  rw [key']
  simp only [Option.bind_some, sum_r hN]
  unfold lineOf
  generalize grpS a p l k = g
  obtain ⟨gc, gu, go⟩ := g
  by_cases hc : ((sumS go).2 != 0 || decide (gu > 1125899906842624)) = true
  · rw [if_pos hc, if_pos hc]
  · rw [if_neg hc, if_neg hc]

theorem lines_r {l : List ApiRated} {a : Int} {p : ApiPeriod} (hl : l.length ≤ 4000) {N : Nat} (hN : 5000 ≤ N) : billingref46_Lines N l a p = some (linesS l a p) := by
  unfold billingref46_Lines linesS
  have hklen : (keysS a p l).length ≤ 4000 := by
    have := keysS_len (a := a) (p := p) l []
    simp at this
    unfold keysS; omega
  rw [if_neg (by simp; omega), keys_r hl hN]
  simp only [Option.bind_some]
  rw [linesLoop7 (f := billingref46_Lines_l2 N (keysS a p l) l a p) (ks := keysS a p l) (gr := grpS a p l) (by omega) hN (fun s => by simp [billingref46_Lines_l2]) (fun i k s hk hs => ?_)]
  · cases linesK (grpS a p l) (keysS a p l) [] <;> rfl
  · have hi := (List.getElem?_eq_some_iff.1 hk).1
    have hw : IntKind.wrap .i64 ((i : Int) + 1) = ((i + 1 : Nat) : Int) := wrap_succ (by rw [maxLen_val]; omega)
    simp only [billingref46_Lines_l2, decide_eq_true (show (i : Int) < ((keysS a p l).length : Int) by omega), if_true, idx_nat hk, Option.bind_some, line_r hl hN, hw]
    cases lineOf k (grpS a p l k) with
    | none => rfl
    | some x =>
      simp only [bne_self_eq_false, Bool.false_eq_true, if_false]
      rw [app_of (by simp; omega)]
      rfl

theorem linesK_len {gr : Key → Grp} : ∀ {ks : List Key} {acc ls : List ApiLine}, linesK gr ks acc = some ls → ls.length = acc.length + ks.length
  | [], acc, ls, h => by simp [linesK] at h; subst h; simp
  | k :: ks, acc, ls, h => by
    simp only [linesK] at h
    split at h
    · have := linesK_len h
      simp at this ⊢; omega
    · cases h
theorem linesS_len {l : List ApiRated} {a : Int} {p : ApiPeriod} (hl : l.length ≤ 4000) : (linesS l a p).2.length ≤ 4096 := by
  unfold linesS
  have hklen : (keysS a p l).length ≤ 4000 := by
    have := keysS_len (a := a) (p := p) l []
    simp at this
    unfold keysS; omega
  split
  · rename_i ls h
    have := linesK_len h
    simp at this ⊢; omega
  · simp

theorem law_InvoiceLines (x0 : List ApiRated) (g0 : gd (.sl tyApiRated) x0) (x1 : Int) (g1 : gd (.int .i64) x1) (x2 : ApiPeriod) (g2 : gd tyApiPeriod x2) : ∃ N, billinglaw46_InvoiceLines N x0 x1 x2 = some true := by
  refine ⟨10000 + 64, ?_⟩
  unfold billinglaw46_InvoiceLines
  rw [awake46]
  split
  · rfl
  · rename_i h
    have hl : x0.length ≤ 40 := by simp at h; omega
    simp only [lines_p (N := 10000 + 64) (a := x1) (p := x2) (show x0.length ≤ 4000 by omega) (by omega), lines_r (N := 10000 + 64) (a := x1) (p := x2) (show x0.length ≤ 4000 by omega) (by omega), Option.bind_some,
      sameLines (N := 10000 + 64) (linesS_len (a := x1) (p := x2) (show x0.length ≤ 4000 by omega)) (by omega)]
    simp
end Gx

/- Invoices: a changed invoice is not accepted. -/
namespace Gx
open Go Gd
set_option linter.unusedVariables false
set_option linter.unusedSimpArgs false

def rndL (l : List ApiLine) : List Int := l.map fun x => x.Rounded
/-- The lines' loop: their rounded amounts are the given ones, or the answer is no. -/
theorem chkLoop {N : Nat} (hN : 5000 ≤ N) {ns : List Int} {inv : ApiInvoice} (hl : inv.Lines.length ≤ 4096) (hn : ns.length = inv.Lines.length) :
    loopN (invoice_Check_l1 N ns inv) N (0, 0) = some (if rndL inv.Lines = ns then .inl (sumW ns) else .inr false) := by
  have key := loop_list (n := N) (s := (0 : Int)) ns (by rw [maxLen_val]; omega) (f := invoice_Check_l1 N ns inv) (fun s i => (s, i)) (fun i s => s = sumW (ns.take i) ∧ rndL (inv.Lines.take i) = ns.take i)
    (fun s xs => if rndL inv.Lines = ns then .inl (sumW ns) else .inr false) (fun s hI h => ?_) (fun s i x xs hx hlt hidx hw hd hI => ?_) (by omega) ⟨rfl, by simp [rndL]⟩
  · exact key
  · obtain ⟨h1, h2⟩ := hI
    rw [List.take_length] at h1 h2
    rw [hn, List.take_length] at h2
    rw [h1, if_pos h2]
    simp [invoice_Check_l1]
  · obtain ⟨h1, h2⟩ := hI
    have hi := (List.getElem?_eq_some_iff.1 hx).1
    obtain ⟨y, hy⟩ : ∃ y, inv.Lines[i]? = some y := ⟨_, List.getElem?_eq_getElem (by omega)⟩
    have hyi : idx inv.Lines (i : Int) = some y := idx_nat hy
    simp only [invoice_Check_l1, hlt, if_true, hidx, Option.bind_some, hyi, hw]
    by_cases he : y.Rounded = x
    · left
      refine ⟨sumW (ns.take (i + 1)), ?_, ⟨rfl, ?_⟩, by trivial⟩
      · rw [if_neg (by simp [he]), take_snoc hx, sumW_snoc, h1]
      · rw [take_snoc hx, take_snoc hy]
        simp only [rndL, List.map_append, List.map_cons, List.map_nil] at h2 ⊢
        rw [h2, he]
    · right
      rw [if_pos (by simpa using he)]
      have : ¬ rndL inv.Lines = ns := by
        intro e
        have h3 : (rndL inv.Lines)[i]? = some y.Rounded := by simp [rndL, hy]
        rw [e, hx] at h3
        injection h3 with h3
        exact he h3.symm
      rw [if_neg this]

/-- What taxed yields: the sum of the rounded taxes where it says yes. -/
theorem taxed_some {N : Nat} (hN : 5000 ≤ N) {inv : ApiInvoice} (ht : inv.Taxes.length ≤ 4096) (hl : inv.Lines.length ≤ 4096) :
    ∃ s ok, invoice_taxed N inv = some (s, ok) ∧ (ok = true → s = sumW (rndT inv.Taxes) ∧ ∀ (i : Nat) x, inv.Taxes[i]? = some x → ∃ b : Int × Bool, invoice_base N inv.Lines x.Category = some b ∧ b.1 = x.Base) := by
  have hbase : ∀ c, ∃ b, invoice_base N inv.Lines c = some b := by
    intro c
    unfold invoice_base
    have key := loop_list (n := N) (s := ((0 : Int), false)) inv.Lines (by rw [maxLen_val]; omega) (f := invoice_base_l1 N inv.Lines c) (fun s i => (s.1, s.2, i)) (fun i s => True)
      (fun s xs => xs.foldl (fun s x => if (x.Category == c) = true then (IntKind.wrap .i64 (s.1 + x.Amount), true) else s) s) (fun s hI h => by simp [invoice_base_l1]) (fun s i x xs hx hlt hidx hw hd hI => .inl ⟨if (x.Category == c) = true then (IntKind.wrap .i64 (s.1 + x.Amount), true) else s, by
        simp only [invoice_base_l1, hlt, if_true, hidx, Option.bind_some, hw]
        split <;> rfl, trivial, rfl⟩) (by omega) trivial
    rw [show loopN (invoice_base_l1 N inv.Lines c) N (0, false, 0) = _ from key]
    exact ⟨_, rfl⟩
  -- the first loop
  obtain ⟨r, h1, h2⟩ := loopN_inv (f := invoice_taxed_l1 N inv) (n := N) (s := ((0 : Int), ([] : List Int))) inv.Taxes.length
    (fun i s => ∃ v : List Int, s = ((i : Int), v) ∧ v.length = i ∧ v.all valB = true ∧ ∀ (j : Nat) x, j < i → inv.Taxes[j]? = some x → ∃ b : Int × Bool, invoice_base N inv.Lines x.Category = some b ∧ b.1 = x.Base)
    (fun r => r = .inr (0, false) ∨ ∃ v : List Int, r = .inl v ∧ v.length = inv.Taxes.length ∧ v.all valB = true ∧ ∀ (j : Nat) x, inv.Taxes[j]? = some x → ∃ b : Int × Bool, invoice_base N inv.Lines x.Category = some b ∧ b.1 = x.Base) (fun i s hi hs => by
      obtain ⟨v, rfl, hv, hva, hj⟩ := hs
      rcases Nat.lt_or_ge i inv.Taxes.length with hlt | hge
      · have hx : inv.Taxes[i]? = some inv.Taxes[i] := List.getElem?_eq_getElem hlt
        generalize inv.Taxes[i] = x at hx
        obtain ⟨b, hb⟩ := hbase x.Category
        have hw : IntKind.wrap .i64 ((i : Int) + 1) = ((i + 1 : Nat) : Int) := wrap_succ (by rw [maxLen_val]; omega)
        have hd : decide ((i : Int) < (inv.Taxes.length : Int)) = true := by simp; omega
        simp only [invoice_taxed_l1, hd, if_true, idx_nat hx, Option.bind_some, hb]
        by_cases hc : ((((!b.2) || (b.1 != x.Base)) || (decide (x.Points < 1))) || (decide (x.Points > 10000))) = true
        · right
          exact ⟨.inr (0, false), by simp only [hc, if_true, Option.bind_some], .inl rfl⟩
        · have hbb : b.1 = x.Base := by
            simp at hc
            exact hc.1.1.2
          have hprev : ∃ q : Bool, (if decide ((i : Int) > 0) = true then (idx inv.Taxes (IntKind.wrap .i64 ((i : Int) - 1))).bind fun x12 => some (!(Op.bytesLess x12.Category x.Category)) else some false : Option Bool) = some q := by
            by_cases h0 : i = 0
            · subst h0; exact ⟨false, rfl⟩
            · have hw2 : IntKind.wrap .i64 ((i : Int) - 1) = ((i - 1 : Nat) : Int) := by rw [wrap64 (by omega) (by omega)]; omega
              rw [if_pos (by simp; omega), hw2, idx_get (show i - 1 < inv.Taxes.length by omega)]
              exact ⟨_, rfl⟩
          obtain ⟨q, hq⟩ := hprev
          simp only [hc, if_false, hq, Option.bind_some, Bool.false_eq_true]
          cases q with
          | true => exact .inr ⟨.inr (0, false), by simp, .inl rfl⟩
          | false =>
            simp only [Bool.false_eq_true, if_false, perc_p hN, Option.bind_some]
            by_cases hp : (percS x.Base x.Points).2 = 0
            · left
              have ha : app 8 v [(percS x.Base x.Points).1] = some (v ++ [(percS x.Base x.Points).1]) := app_of (by simp; omega)
              refine ⟨(((i + 1 : Nat) : Int), v ++ [(percS x.Base x.Points).1]), hlt, ?_, v ++ [(percS x.Base x.Points).1], rfl, by simp [hv], by rw [List.all_append, hva]; simp [perc_valid hp], fun j y hji hy => ?_⟩
              · simp only [hp, bne_self_eq_false, Bool.false_eq_true, if_false, ha, Option.bind_some, hw]
              · rcases Nat.lt_or_ge j i with h3 | h3
                · exact hj j y h3 hy
                · have : j = i := by omega
                  subst this
                  rw [hx] at hy; injection hy with hy; subst hy
                  exact ⟨b, hb, hbb⟩
            · right
              exact ⟨.inr (0, false), by simp only [show ((percS x.Base x.Points).2 != 0) = true by simpa using hp, if_true], .inl rfl⟩
      · have : i = inv.Taxes.length := by omega
        subst this
        exact .inr ⟨.inl v, by simp [invoice_taxed_l1], .inr ⟨v, rfl, hv, hva, fun j x hx => hj j x (List.getElem?_eq_some_iff.1 hx).1 hx⟩⟩) (by omega) ⟨[], rfl, rfl, rfl, fun j x h => by omega⟩
  have h1' : loopN (invoice_taxed_l1 N inv) N (0, ([] : List Int)) = some r := h1
  unfold invoice_taxed
  rw [h1']
  rcases h2 with rfl | ⟨v, rfl, hv, hva, hb⟩
  · exact ⟨0, false, rfl, fun h => by cases h⟩
  · simp only [Option.bind_some, round_p hN]
    have hrl := round_len (l := v) (by omega) hva
    generalize roundS v = ns at *
    have key := loop_list (n := N) (s := (0 : Int)) ns (by rw [maxLen_val]; omega) (f := invoice_taxed_l2 N ns inv) (fun s i => (s, i)) (fun i s => s = sumW (ns.take i) ∧ rndT (inv.Taxes.take i) = ns.take i)
      (fun s xs => if rndT inv.Taxes = ns then .inl (sumW ns) else .inr (0, false)) (fun s hI h => ?_) (fun s i x xs hx hlt hidx hw hd hI => ?_) (by omega) ⟨rfl, by simp [rndT]⟩
    · rw [show loopN (invoice_taxed_l2 N ns inv) N (0, 0) = _ from key]
      by_cases he : rndT inv.Taxes = ns
      · rw [if_pos he]
        exact ⟨_, true, rfl, fun _ => ⟨by rw [he], hb⟩⟩
      · rw [if_neg he]
        exact ⟨0, false, rfl, fun h => by cases h⟩
    · obtain ⟨h3, h4⟩ := hI
      rw [List.take_length] at h3 h4
      rw [show ns.length = inv.Taxes.length by omega, List.take_length] at h4
      rw [h3, if_pos h4]
      simp [invoice_taxed_l2]
    · obtain ⟨h3, h4⟩ := hI
      have hi := (List.getElem?_eq_some_iff.1 hx).1
      obtain ⟨y, hy⟩ : ∃ y, inv.Taxes[i]? = some y := ⟨_, List.getElem?_eq_getElem (by omega)⟩
      have hyi : idx inv.Taxes (i : Int) = some y := idx_nat hy
      simp only [invoice_taxed_l2, hlt, if_true, hidx, Option.bind_some, hyi, hw]
      by_cases he : y.Rounded = x
      · left
        refine ⟨sumW (ns.take (i + 1)), ?_, ⟨rfl, ?_⟩, by trivial⟩
        · rw [if_neg (by simp [he]), take_snoc hx, sumW_snoc, h3]
        · rw [take_snoc hx, take_snoc hy]
          simp only [rndT, List.map_append, List.map_cons, List.map_nil] at h4 ⊢
          rw [h4, he]
      · right
        rw [if_pos (by simpa using he)]
        have : ¬ rndT inv.Taxes = ns := by
          intro e
          have h5 : (rndT inv.Taxes)[i]? = some y.Rounded := by simp [rndT, hy]
          rw [e, hx] at h5
          injection h5 with h5
          exact he h5.symm
        rw [if_neg this]
end Gx

/- Invoices: what Check says of a built invoice that was changed. -/
namespace Gx
open Go Gd
set_option linter.unusedVariables false
set_option linter.unusedSimpArgs false

theorem sum_zero {l : List Int} (h : (sumS l).2 = 0) : l.length ≤ 4096 ∧ l.all valB = true ∧ (sumS l).1 = l.sum ∧ valB l.sum = true := by
  unfold sumS at *
  by_cases hl : (l.length : Int) > 4096
  · rw [if_pos hl] at h; cases h
  · rw [if_neg hl] at h ⊢
    cases hv : l.all valB with
    | false => rw [hv] at h; cases h
    | true =>
      rw [hv] at h
      simp only [cond_true, chkS] at h ⊢
      cases hs : valB l.sum with
      | false => rw [hs] at h; cases h
      | true => exact ⟨by omega, by first | trivial | rfl, by simp, by first | trivial | rfl⟩
theorem sumW_mod (l : List Int) : ∀ a : Int, (l.foldl (fun a x => IntKind.wrap .i64 (a + x)) a) % 18446744073709551616 = (a + l.sum) % 18446744073709551616 := by
  induction l with
  | nil => intro a; simp
  | cons x l ih =>
    intro a
    simp only [List.foldl_cons, List.sum_cons]
    rw [ih]
    have := (wrap_facts (a + x)).1
    omega
theorem sumW_exact {l : List Int} (h0 : -9223372036854775808 ≤ l.sum) (h1 : l.sum < 9223372036854775808) : sumW l = l.sum := by
  have h2 := sumW_mod l 0
  have h3 := sumW_range l
  unfold sumW at *
  omega

theorem base_eq {N : Nat} (hN : 5000 ≤ N) {l : List ApiLine} (hl : l.length ≤ 4096) (c : Str) : ∃ b, invoice_base N l c = some b ∧ b.1 = sumW (amtsS l c) := by
  unfold invoice_base
  have key := loop_list (n := N) (s := ((0 : Int), false)) l (by rw [maxLen_val]; omega) (f := invoice_base_l1 N l c) (fun s i => (s.1, s.2, i)) (fun i s => s.1 = sumW (amtsS (l.take i) c))
    (fun s xs => (sumW (amtsS l c), (xs.foldl (fun s x => if (x.Category == c) = true then true else s) s.2))) (fun s hI h => by
      rw [List.take_length] at hI
      obtain ⟨s1, s2⟩ := s
      simp only at hI
      subst hI
      simp [invoice_base_l1]) (fun s i x xs hx hlt hidx hw hd hI => by
      refine .inl ⟨if (x.Category == c) = true then (IntKind.wrap .i64 (s.1 + x.Amount), true) else s, ?_, ?_, ?_⟩
      · simp only [invoice_base_l1, hlt, if_true, hidx, Option.bind_some, hw]
        split <;> rfl
      · rw [take_snoc hx, amts_snoc]
        cases hc : x.Category == c with
        | true => simp only [if_true]; rw [sumW_snoc, hI]
        | false => simp only [Bool.false_eq_true, if_false, List.append_nil]; exact hI
      · simp only [List.foldl_cons]
        cases x.Category == c <;> simp) (by omega) rfl
  rw [show loopN (invoice_base_l1 N l c) N (0, false, 0) = _ from key]
  exact ⟨_, rfl, rfl⟩

/-- Each tax line names the sum of its category. -/
theorem go_base {taxes : List ApiTax} {lines : List ApiLine} {t : Int} : ∀ {cs : List Str} {s q : List ApiTaxLine × List Int}, (∀ x ∈ s.1, (sumS (amtsS lines x.Category)).2 = 0 ∧ x.Base = (sumS (amtsS lines x.Category)).1) → linesGo taxes lines t s cs = .inl q →
    ∀ x ∈ q.1, (sumS (amtsS lines x.Category)).2 = 0 ∧ x.Base = (sumS (amtsS lines x.Category)).1
  | [], s, q, h, hq => by simp [linesGo] at hq; subst hq; exact h
  | c :: cs, s, q, h, hq => by
    simp only [linesGo] at hq
    cases hl : lineStep taxes lines t c with
    | inr e => rw [hl] at hq; cases hq
    | inl o =>
      rw [hl] at hq
      cases o with
      | none => exact go_base h hq
      | some y =>
        obtain ⟨e1, e2, e3, e4, e5⟩ := line_valid hl
        refine go_base (fun x hx => ?_) hq
        rcases List.mem_append.1 hx with hx | hx
        · exact h x hx
        · rcases List.mem_cons.1 hx with rfl | hx
          · rw [e1]; exact ⟨e3, rfl⟩
          · cases hx
theorem fin_get {out : List ApiTaxLine} {rs : List Int} {i : Nat} {x : ApiTaxLine} (h : (finS out rs)[i]? = some x) : ∃ y, out[i]? = some y ∧ x.Category = y.Category ∧ x.Base = y.Base := by
  unfold finS at h
  rw [List.getElem?_zipWith] at h
  cases ho : out[i]? with
  | none => rw [ho] at h; cases h
  | some y =>
    rw [ho] at h
    cases hr : rs[i]? with
    | none => rw [hr] at h; cases h
    | some r =>
      rw [hr] at h
      injection h with h
      subst h
      exact ⟨y, rfl, rfl, rfl⟩
theorem tax_base {taxes : List ApiTax} {lines : List ApiLine} {t : Int} (h : (taxLinesS taxes lines t).1 = 0) {i : Nat} {x : ApiTaxLine} (hx : (taxLinesS taxes lines t).2[i]? = some x) : sumW (amtsS lines x.Category) = x.Base := by
  unfold taxLinesS at h hx
  by_cases hl : (lines.length : Int) > 4096
  · rw [if_pos hl] at hx; simp at hx
  · rw [if_neg hl] at h hx
    cases hg : linesGo taxes lines t ([], []) (catsS lines) with
    | inr e => rw [hg] at hx; simp at hx
    | inl q =>
      rw [hg] at hx
      obtain ⟨y, hy, e1, e2⟩ := fin_get hx
      obtain ⟨h1, h2⟩ := go_base (fun x hx => by cases hx) hg y (List.mem_of_getElem? hy)
      obtain ⟨_, _, h5, h6⟩ := sum_zero h1
      have := valB_iff.1 h6
      rw [e1, e2, h2, h5]
      exact sumW_exact (by omega) (by omega)

theorem check_p {N : Nat} (hN : 5000 ≤ N) {inv : ApiInvoice} (h0 : inv.Lines.length ≠ 0) (hl : inv.Lines.length ≤ 4096) (ht : inv.Taxes.length ≤ 4096) (hv : (amtL inv.Lines).all valB = true) :
    ∃ s ok, (ok = true → s = sumW (rndT inv.Taxes) ∧ ∀ (i : Nat) x, inv.Taxes[i]? = some x → sumW (amtsS inv.Lines x.Category) = x.Base) ∧
      invoice_Check N inv = some (if rndL inv.Lines = roundS (amtL inv.Lines) then (((ok && (inv.Net == sumW (roundS (amtL inv.Lines)))) && (inv.Tax == s)) && (inv.Total == (IntKind.wrap .i64 (sumW (roundS (amtL inv.Lines)) + s)))) else false) := by
  obtain ⟨s, ok, h1, h2⟩ := taxed_some hN ht hl
  refine ⟨s, ok, fun ho => ⟨(h2 ho).1, fun i x hx => ?_⟩, ?_⟩
  · obtain ⟨b, b1, b2⟩ := (h2 ho).2 i x hx
    obtain ⟨b', q1, q2⟩ := base_eq hN hl x.Category
    rw [b1] at q1
    injection q1 with q1
    subst q1
    rw [← q2, b2]
  · unfold invoice_Check
    have hb : (((inv.Lines.length : Int) == 0) || decide ((inv.Lines.length : Int) > 4096)) = false := by
      have : ((inv.Lines.length : Int) == 0) = false := by rw [beq_eq_false_iff_ne]; omega
      rw [this]; simp; omega
    rw [hb, amounts_p hN hl, hv]
    have hrl := round_len (l := amtL inv.Lines) (by rw [amtL_len]; omega) hv
    rw [amtL_len] at hrl
    simp only [Bool.false_eq_true, if_false, Option.bind_some, cond_true, Bool.not_true, round_p hN, chkLoop hN hl hrl]
    by_cases he : rndL inv.Lines = roundS (amtL inv.Lines)
    · rw [if_pos he, if_pos he]
      simp only [h1, Option.bind_some]
    · rw [if_neg he, if_neg he]
end Gx

/- Invoices: the usages behind lines. -/
namespace Gx
open Go Gd
set_option linter.unusedVariables false
set_option linter.unusedSimpArgs false

def selB (a : Int) (p : ApiPeriod) (k : Key) (x : ApiRated) : Bool := cntB x a p && decide (keyOf x = k)
def selS (a : Int) (p : ApiPeriod) (l : List ApiRated) (k : Key) : List ApiRated := l.filter (selB a p k)
def unitsL (l : List ApiRated) : List Int := l.map fun x => x.Usage.Units
def owedL (l : List ApiRated) : List Int := l.map fun x => x.Owed
theorem selS_snoc {a : Int} {p : ApiPeriod} {l : List ApiRated} {x : ApiRated} {k : Key} : selS a p (l ++ [x]) k = selS a p l k ++ if selB a p k x = true then [x] else [] := by
  unfold selS
  rw [List.filter_append]
  congr 1
  simp only [List.filter_cons, List.filter_nil]
theorem list_snoc {α : Type} {Q : List α → Prop} (h0 : Q []) (h1 : ∀ l x, Q l → Q (l ++ [x])) : ∀ l, Q l := by
  intro l
  have : ∀ n, n ≤ l.length → Q (l.take n) := by
    intro n
    induction n with
    | zero => intro _; simpa using h0
    | succ n ih =>
      intro hn
      have hx : l[n]? = some l[n] := List.getElem?_eq_getElem (by omega)
      rw [take_snoc hx]
      exact h1 _ _ (ih (by omega))
  have := this l.length (Nat.le_refl _)
  rwa [List.take_length] at this
theorem grp_sel (a : Int) (p : ApiPeriod) (k : Key) (l : List ApiRated) : (grpS a p l k).1 = ((selS a p l k).length : Int) ∧ (grpS a p l k).2.2 = owedL (selS a p l k) ∧
    ((grpS a p l k).2.1 ≤ 1125899906842624 → (grpS a p l k).2.1 = (unitsL (selS a p l k)).sum) := by
  refine list_snoc (Q := fun l => (grpS a p l k).1 = ((selS a p l k).length : Int) ∧ (grpS a p l k).2.2 = owedL (selS a p l k) ∧ ((grpS a p l k).2.1 ≤ 1125899906842624 → (grpS a p l k).2.1 = (unitsL (selS a p l k)).sum)) ⟨rfl, rfl, fun _ => rfl⟩ (fun l x h => ?_) l
  have hb := grp_ok0 a p k l
  rw [grpS_snoc, selS_snoc]
  obtain ⟨h1, h2, h3⟩ := h
  generalize grpS a p l k = g at *
  obtain ⟨gc, gu, go⟩ := g
  unfold grpStep selB
  cases hc : (cntB x a p && decide (keyOf x = k)) with
  | false => simp only [cond_false, Bool.false_eq_true, if_false, List.append_nil]; exact ⟨h1, h2, h3⟩
  | true =>
    simp only [Bool.and_eq_true] at hc
    have hu := cnt_pos hc.1
    simp only [cond_true, if_true]
    simp only at h1 h2 h3 hb
    refine ⟨?_, ?_, fun h => ?_⟩
    · rw [List.length_append, h1]; simp
    · rw [h2]; simp [owedL]
    · have e : gu ≤ 1125899906842624 ∧ capU gu x.Usage.Units = gu + x.Usage.Units := by
        unfold capU at h ⊢
        have q : ¬ (x.Usage.Units > 1125899906842624 - (if 1125899906842624 < gu then 1125899906842624 else gu)) := by
          intro q; rw [if_pos q] at h; omega
        rw [if_neg q]
        refine ⟨?_, rfl⟩
        split at q <;> omega
      rw [e.2, h3 e.1]
      simp [unitsL, List.sum_append]

/-! ## Lines and keys -/
theorem linesK_get {gr : Key → Grp} : ∀ {ks : List Key} {acc ls : List ApiLine}, linesK gr ks acc = some ls → ∃ xs, ls = acc ++ xs ∧ xs.length = ks.length ∧ ∀ (i : Nat) k, ks[i]? = some k → ∃ x, xs[i]? = some x ∧ lineOf k (gr k) = some x
  | [], acc, ls, h => by simp [linesK] at h; subst h; exact ⟨[], by simp, rfl, fun i k h => by simp at h⟩
  | k :: ks, acc, ls, h => by
    simp only [linesK] at h
    split at h
    · rename_i x hx
      obtain ⟨xs, rfl, h2, h3⟩ := linesK_get h
      refine ⟨x :: xs, by simp, by simp [h2], fun i k' hk => ?_⟩
      cases i with
      | zero => simp at hk; subst hk; exact ⟨x, rfl, hx⟩
      | succ i => simpa using h3 i k' (by simpa using hk)
    · cases h
theorem lineOf_some {k : Key} {g : Grp} {x : ApiLine} (h : lineOf k g = some x) : x = (1, k.1, k.2.2, catS k.2.1, g.1, g.2.1, g.2.2.sum, 0) ∧ valB g.2.2.sum = true ∧ g.2.1 ≤ 1125899906842624 := by
  unfold lineOf at h
  split at h
  · cases h
  · rename_i hc
    simp at hc
    obtain ⟨_, _, h5, h6⟩ := sum_zero hc.1
    injection h with h
    rw [h5] at h
    exact ⟨h.symm, h6, hc.2⟩
theorem mem_keys {a : Int} {p : ApiPeriod} {k : Key} (l : List ApiRated) : k ∈ keysS a p l ↔ ∃ x ∈ l, cntB x a p = true ∧ keyOf x = k := by
  refine list_snoc (Q := fun l => k ∈ keysS a p l ↔ ∃ x ∈ l, cntB x a p = true ∧ keyOf x = k) (by simp [keysS]) (fun l x h => ?_) l
  rw [keysS_snoc]
  have key : k ∈ keyStep a p (keysS a p l) x ↔ (cntB x a p = true ∧ keyOf x = k) ∨ k ∈ keysS a p l := by
    unfold keyStep
    cases hc : cntB x a p with
    | false => simp
    | true =>
      simp only [cond_true]
      split
      · rename_i hm
        constructor
        · exact .inr
        · rintro (⟨_, rfl⟩ | h)
          · exact hm
          · exact h
      · rw [mem_insK]
        constructor
        · rintro (rfl | h)
          · exact .inl ⟨by trivial, rfl⟩
          · exact .inr h
        · rintro (⟨_, rfl⟩ | h)
          · exact .inl rfl
          · exact .inr h
  rw [key, h]
  constructor
  · rintro (⟨h1, h2⟩ | ⟨y, h1, h2⟩)
    · exact ⟨x, by simp, h1, h2⟩
    · exact ⟨y, by simp [h1], h2⟩
  · rintro ⟨y, h1, h2⟩
    rcases List.mem_append.1 h1 with h1 | h1
    · exact .inr ⟨y, h1, h2⟩
    · simp at h1; subst h1; exact .inl h2
theorem keys_nodup {a : Int} {p : ApiPeriod} (l : List ApiRated) : (keysS a p l).Nodup := by
  have h := keysS_asc (a := a) (p := p) l [] List.Pairwise.nil
  unfold List.Nodup
  refine List.Pairwise.imp (fun {x y} hxy => ?_) h
  intro e
  subst e
  rw [kl_irrefl] at hxy
  cases hxy
theorem map0 (ks : List Key) : (ks.map fun _ => (0 : Nat)).sum = 0 := by
  induction ks with
  | nil => rfl
  | cons k ks ih => simp only [List.map_cons, List.sum_cons, ih]
/-- The usages of all keys are those that count. -/
theorem count_keys {a : Int} {p : ApiPeriod} {ks : List Key} (hn : ks.Nodup) : ∀ l : List ApiRated, (∀ x ∈ l, cntB x a p = true → keyOf x ∈ ks) → (ks.map fun k => (selS a p l k).length).sum = (l.filter fun x => cntB x a p).length := by
  intro l
  refine list_snoc (Q := fun l => (∀ x ∈ l, cntB x a p = true → keyOf x ∈ ks) → (ks.map fun k => (selS a p l k).length).sum = (l.filter fun x => cntB x a p).length) (fun _ => ?_) (fun l x ih h => ?_) l
  · induction ks with
    | nil => rfl
    | cons k ks ih2 =>
      have : ∀ k, (selS a p [] k).length = 0 := fun k => rfl
      simp only [this, map0]; rfl
  · have ih' := ih fun y hy => h y (List.mem_append_left _ hy)
    have hx := h x (by simp)
    have one : (ks.map fun k => (if selB a p k x = true then [x] else ([] : List ApiRated)).length).sum = if cntB x a p = true then 1 else 0 := by
      clear ih ih' h
      cases hc : cntB x a p with
      | false =>
        have : ∀ k, selB a p k x = false := fun k => by unfold selB; rw [hc]; rfl
        simp only [this, Bool.false_eq_true, if_false, List.length_nil, map0]
      | true =>
        have hm := hx hc
        clear hx
        induction ks with
        | nil => cases hm
        | cons k ks ih =>
          have hnd := List.nodup_cons.1 hn
          simp only [List.map_cons, List.sum_cons]
          by_cases hk : keyOf x = k
          · have h0 : (ks.map fun k => (if selB a p k x = true then [x] else ([] : List ApiRated)).length).sum = 0 := by
              have : ∀ k' ∈ ks, selB a p k' x = false := fun k' hk' => by
                unfold selB
                have : ¬ keyOf x = k' := fun e => hnd.1 (by rw [← hk, e]; exact hk')
                simp [this]
              clear ih hm hn hnd
              induction ks with
              | nil => rfl
              | cons k2 ks ih2 =>
                simp only [List.map_cons, List.sum_cons, this k2 (.head _)]
                rw [ih2 fun k' hk' => this k' (.tail _ hk')]
                rfl
            rw [h0]
            have : selB a p k x = true := by unfold selB; rw [hc]; simp [hk]
            simp [this]
          · have : selB a p k x = false := by unfold selB; simp [hk]
            have hm' : keyOf x ∈ ks := by
              rcases List.mem_cons.1 hm with h | h
              · exact absurd h hk
              · exact h
            rw [ih hnd.2 hm', this]
            simp
    have e : (ks.map fun k => (selS a p (l ++ [x]) k).length).sum = (ks.map fun k => (selS a p l k).length).sum + (ks.map fun k => (if selB a p k x = true then [x] else ([] : List ApiRated)).length).sum := by
      clear one ih ih' h hx hn
      induction ks with
      | nil => rfl
      | cons k ks ih2 =>
        simp only [List.map_cons, List.sum_cons]
        rw [ih2, selS_snoc, List.length_append]
        omega
    rw [e, ih', one, List.filter_append, List.length_append]
    simp only [List.filter_cons, List.filter_nil]
    cases cntB x a p <;> rfl
end Gx

/- Invoices: each usage stands behind one line. -/
namespace Gx
open Go Gd
set_option linter.unusedVariables false
set_option linter.unusedSimpArgs false

def drB (a : Int) (p : ApiPeriod) (y : ApiLine) (x : ApiRated) : Bool := cntB x a p && (((keyOf x).1 == y.Sub) && (((keyOf x).2.2 == y.Name) && (catS (keyOf x).2.1 == y.Category)))
def idsL (l : List ApiRated) : List Int := l.map fun x => x.Usage.Id
theorem drill_loop {N : Nat} (hN : 5000 ≤ N) {l : List ApiRated} (hl : l.length ≤ 4096) {inv : ApiInvoice} {y : ApiLine} :
    loopN (invoice_Drill_l1 N l inv y) N (0, []) = some (idsL (l.filter (drB inv.Account inv.Period y))) := by
  refine loop_list (n := N) (s := ([] : List Int)) l (by rw [maxLen_val]; omega) (f := invoice_Drill_l1 N l inv y) (fun s i => (i, s)) (fun i s => s = idsL ((l.take i).filter (drB inv.Account inv.Period y)))
    (fun s xs => idsL (l.filter (drB inv.Account inv.Period y))) (fun s hI h => ?_) (fun s i x xs hx hlt hidx hw hd hI => ?_) (by omega) rfl
  · rw [List.take_length] at hI
    rw [hI]
    simp [invoice_Drill_l1]
  · have hi := (List.getElem?_eq_some_iff.1 hx).1
    refine .inl ⟨idsL ((l.take (i + 1)).filter (drB inv.Account inv.Period y)), ?_, rfl, by trivial⟩
    have hfl : ((l.take i).filter (drB inv.Account inv.Period y)).length ≤ (l.take i).length := List.length_filter_le _ _
    have htl : (l.take i).length ≤ 4096 := by rw [List.length_take]; omega
    have ha : app 8 s [x.Usage.Id] = some (s ++ [x.Usage.Id]) := app_of (by rw [hI]; simp [idsL]; omega)
    have hb : ((invoice_counts N x inv.Account inv.Period).bind fun r16 =>
        if r16 = true then
          if (InvoiceKey.sub (keyOf x) == y.Sub) = true then
            if (InvoiceKey.name (keyOf x) == y.Name) = true then
              (invoice_category N (InvoiceKey.kind (keyOf x))).bind fun r17 => some (r17 == y.Category)
            else some false
          else some false
        else some false : Option Bool) = some (drB inv.Account inv.Period y x) := by
      rw [counts_p, Option.bind_some]
      unfold drB
      cases cntB x inv.Account inv.Period with
      | false => rfl
      | true =>
        have e1 : InvoiceKey.sub (keyOf x) = (keyOf x).1 := rfl
        have e2 : InvoiceKey.name (keyOf x) = (keyOf x).2.2 := rfl
        have e3 : InvoiceKey.kind (keyOf x) = (keyOf x).2.1 := rfl
        rw [e1, e2, e3]
        cases (keyOf x).1 == y.Sub with
        | false => rfl
        | true =>
          cases (keyOf x).2.2 == y.Name with
          | false => rfl
          | true => simp only [if_true, cat_p, Option.bind_some, Bool.true_and]
    simp only [invoice_Drill_l1, hlt, if_true, hidx, Option.bind_some, of_p, hw]
    rw [hb, take_snoc hx, List.filter_append]
    simp only [Option.bind_some]
    cases hd2 : drB inv.Account inv.Period y x with
    | false => simp [hI, List.filter_cons, hd2, idsL]
    | true => simp only [if_true, ha, Option.bind_some]; rw [hI]; simp [List.filter_cons, hd2, idsL]
theorem drill_p {N : Nat} (hN : 5000 ≤ N) {l : List ApiRated} (hl : l.length ≤ 4096) {inv : ApiInvoice} {i : Nat} {y : ApiLine} (hy : inv.Lines[i]? = some y) (hk : y.Kind = 1) :
    invoice_Drill N l inv (i : Int) = some (idsL (l.filter (drB inv.Account inv.Period y))) := by
  have hi := (List.getElem?_eq_some_iff.1 hy).1
  unfold invoice_Drill
  have hc : (decide ((i : Int) < 0) || decide ((i : Int) ≥ (inv.Lines.length : Int))) = false := by simp; omega
  rw [if_neg (by rw [hc]; simp), idx_nat hy]
  simp only [Option.bind_some, hk, bne_self_eq_false, Bool.false_eq_true, if_false, drill_loop hN hl]
theorem drill_out {N : Nat} {l : List ApiRated} {inv : ApiInvoice} {i : Int} (h : i < 0 ∨ i ≥ (inv.Lines.length : Int)) : invoice_Drill N l inv i = some [] := by
  unfold invoice_Drill
  have hc : (decide (i < 0) || decide (i ≥ (inv.Lines.length : Int))) = true := by simp; exact h
  rw [if_pos hc]
  rfl

theorem find_loop {N : Nat} (hN : 5000 ≤ N) {l : List ApiRated} (hl : l.length ≤ 4096) {j : Nat} {y : ApiRated} (hy : l[j]? = some y) (hd : ∀ k, k < j → ∀ x, l[k]? = some x → x.Usage.Id ≠ y.Usage.Id) :
    billinglaw46_find N l y.Usage.Id = some (j : Int) := by
  have hj := (List.getElem?_eq_some_iff.1 hy).1
  have key : ∀ (m i fuel : Nat), i + m = j → m < fuel → loopN (billinglaw46_find_l1 N l y.Usage.Id) fuel (i : Int) = some (.inr (j : Int)) := by
    intro m
    induction m with
    | zero =>
      intro i fuel he hf
      obtain ⟨f, rfl⟩ : ∃ f, fuel = f + 1 := ⟨fuel - 1, by omega⟩
      have : i = j := by omega
      subst this
      simp only [loopN, billinglaw46_find_l1, decide_eq_true (show (i : Int) < (l.length : Int) by omega), if_true, idx_nat hy, Option.bind_some, beq_self_eq_true]
    | succ m ih =>
      intro i fuel he hf
      obtain ⟨f, rfl⟩ : ∃ f, fuel = f + 1 := ⟨fuel - 1, by omega⟩
      have hx : l[i]? = some (l[i]'(by omega)) := List.getElem?_eq_getElem (by omega)
      have hne := hd i (by omega) _ hx
      generalize l[i]'(by omega) = x at *
      have hb : (x.Usage.Id == y.Usage.Id) = false := by rw [beq_eq_false_iff_ne]; exact hne
      simp only [loopN, billinglaw46_find_l1, decide_eq_true (show (i : Int) < (l.length : Int) by omega), if_true, idx_nat hx, Option.bind_some, hb, Bool.false_eq_true, if_false, wrap_succ (show i < maxLen by rw [maxLen_val]; omega)]
      exact ih (i + 1) f (by omega) (by omega)
  unfold billinglaw46_find
  have := key j 0 N (by omega) (by omega)
  rw [show loopN (billinglaw46_find_l1 N l y.Usage.Id) N 0 = _ from this]
  rfl

/-- Different Ids. -/
def distI (l : List ApiRated) : Prop := ∀ (i j : Nat) (x y : ApiRated), i < j → l[i]? = some x → l[j]? = some y → x.Usage.Id ≠ y.Usage.Id
theorem sum_loop {N : Nat} (hN : 5000 ≤ N) {l ys : List ApiRated} {a : Int} {p : ApiPeriod} (hl : l.length ≤ 4096) (hy : ys.length ≤ 4096) (hm : ∀ y ∈ ys, y ∈ l ∧ cntB y a p = true) (hd : distI l) :
    loopN (billinglaw46_InvoicePlaces_l3 N (idsL ys) l a p) N (0, 0, 0) = some (.inl (sumW (unitsL ys), sumW (owedL ys))) := by
  have hil : (idsL ys).length = ys.length := by simp [idsL]
  refine loop_list (n := N) (s := ((0 : Int), (0 : Int))) (idsL ys) (by rw [maxLen_val]; omega) (f := billinglaw46_InvoicePlaces_l3 N (idsL ys) l a p) (fun s i => (s.1, s.2, i)) (fun i s => s = (sumW (unitsL (ys.take i)), sumW (owedL (ys.take i))))
    (fun s xs => .inl (sumW (unitsL ys), sumW (owedL ys))) (fun s hI h => ?_) (fun s i x xs hx hlt hidx hw hdr hI => ?_) (by omega) rfl
  · rw [hil, List.take_length] at hI
    rw [hI]
    simp [billinglaw46_InvoicePlaces_l3]
  · have hi := (List.getElem?_eq_some_iff.1 hx).1
    obtain ⟨y, hyy⟩ : ∃ y, ys[i]? = some y := ⟨_, List.getElem?_eq_getElem (by omega)⟩
    have hxe : x = y.Usage.Id := by
      have : (idsL ys)[i]? = some y.Usage.Id := by simp [idsL, hyy]
      rw [hx] at this; injection this
    subst hxe
    obtain ⟨hyl, hyc⟩ := hm y (List.mem_of_getElem? hyy)
    obtain ⟨j, hj⟩ := List.getElem?_of_mem hyl
    have hfind := find_loop hN hl hj fun k hk x hx => hd k j x y hk hx hj
    have hjn : decide ((j : Int) < 0) = false := by simp
    refine .inl ⟨(sumW (unitsL (ys.take (i + 1))), sumW (owedL (ys.take (i + 1)))), ?_, rfl, by trivial⟩
    rw [hI]
    simp only [billinglaw46_InvoicePlaces_l3, hlt, if_true, hidx, Option.bind_some, hfind, hjn, Bool.false_eq_true, if_false, idx_nat hj, counts_r, hyc, Bool.not_true, hw]
    rw [take_snoc hyy]
    simp only [unitsL, owedL, List.map_append, List.map_cons, List.map_nil, sumW_snoc]

theorem catS_inj {i j : Int} (h1 : 1 ≤ i) (h2 : i ≤ 4) (h3 : 1 ≤ j) (h4 : j ≤ 4) (h : catS i = catS j) : i = j := by
  have hi : i = 1 ∨ i = 2 ∨ i = 3 ∨ i = 4 := by omega
  have hj : j = 1 ∨ j = 2 ∨ j = 3 ∨ j = 4 := by omega
  rcases hi with rfl | rfl | rfl | rfl <;> rcases hj with rfl | rfl | rfl | rfl <;> first | rfl | (exfalso; revert h; decide)
theorem drB_sel {a : Int} {p : ApiPeriod} {l : List ApiRated} {k : Key} {y : ApiLine} (hk : ∀ x ∈ l, 1 ≤ x.Usage.Kind ∧ x.Usage.Kind ≤ 4) (hk2 : 1 ≤ k.2.1 ∧ k.2.1 ≤ 4) (h1 : y.Sub = k.1) (h2 : y.Name = k.2.2) (h3 : y.Category = catS k.2.1) :
    l.filter (drB a p y) = selS a p l k := by
  unfold selS
  refine List.filter_congr fun x hx => ?_
  unfold drB selB
  rw [h1, h2, h3]
  congr 1
  obtain ⟨q1, q2⟩ := hk x hx
  have e : (keyOf x).2.1 = x.Usage.Kind := rfl
  rw [← e] at q1 q2
  generalize keyOf x = kx at *
  obtain ⟨k1, k2, k3⟩ := kx
  obtain ⟨m1, m2, m3⟩ := k
  rw [Bool.eq_iff_iff]
  simp only [Bool.and_eq_true, beq_iff_eq, decide_eq_true_eq, Prod.mk.injEq]
  constructor
  · rintro ⟨e1, e2, e3⟩
    exact ⟨e1, catS_inj q1 q2 hk2.1 hk2.2 e3, e2⟩
  · rintro ⟨e1, e2, e3⟩
    exact ⟨e1, e3, by rw [e2]⟩
end Gx

/- Invoices: the statement on the places of usages. -/
namespace Gx
open Go Gd
set_option linter.unusedVariables false
set_option linter.unusedSimpArgs false

/-- The check of Ids and kinds. -/
theorem idLoop {l : List ApiRated} {i : Nat} {y : ApiRated} (hl : l.length ≤ 40) (hi : i < l.length) : loopN (billinglaw46_InvoicePlaces_l1 (10000 + 64) (i : Int) l y) (10000 + 64) 0 = some (if ∃ k : Nat, k < i ∧ ∃ x, l[k]? = some x ∧ x.Usage.Id = y.Usage.Id then .inr true else .inl ()) := by
  have key : ∀ (m k fuel : Nat), k + m = i → m < fuel → (∀ q : Nat, q < k → ∀ x, l[q]? = some x → x.Usage.Id ≠ y.Usage.Id) → loopN (billinglaw46_InvoicePlaces_l1 (10000 + 64) (i : Int) l y) fuel (k : Int) = some (if ∃ k : Nat, k < i ∧ ∃ x, l[k]? = some x ∧ x.Usage.Id = y.Usage.Id then .inr true else .inl ()) := by
    intro m
    induction m with
    | zero =>
      intro k fuel he hf hq
      obtain ⟨f, rfl⟩ : ∃ f, fuel = f + 1 := ⟨fuel - 1, by omega⟩
      have : k = i := by omega
      subst this
      have hno : ¬ ∃ q : Nat, q < k ∧ ∃ x, l[q]? = some x ∧ x.Usage.Id = y.Usage.Id := fun ⟨q, h1, x, h2, h3⟩ => hq q h1 x h2 h3
      rw [if_neg hno]
      simp [loopN, billinglaw46_InvoicePlaces_l1]
    | succ m ih =>
      intro k fuel he hf hq
      obtain ⟨f, rfl⟩ : ∃ f, fuel = f + 1 := ⟨fuel - 1, by omega⟩
      have hx : l[k]? = some (l[k]'(by omega)) := List.getElem?_eq_getElem (by omega)
      generalize l[k]'(by omega) = x at hx
      by_cases hb : x.Usage.Id = y.Usage.Id
      · rw [if_pos ⟨k, by omega, x, hx, hb⟩]
        simp only [loopN, billinglaw46_InvoicePlaces_l1, decide_eq_true (show (k : Int) < (i : Int) by omega), if_true, idx_nat hx, Option.bind_some, show (x.Usage.Id == y.Usage.Id) = true by simpa using hb, awake46]
      · have hb' : (x.Usage.Id == y.Usage.Id) = false := by simpa using hb
        simp only [loopN, billinglaw46_InvoicePlaces_l1, decide_eq_true (show (k : Int) < (i : Int) by omega), if_true, idx_nat hx, Option.bind_some, hb', Bool.false_eq_true, if_false, wrap_succ (show k < maxLen by rw [maxLen_val]; omega)]
        refine ih (k + 1) f (by omega) (by omega) fun q hq2 z hz => ?_
        rcases Nat.lt_or_ge q k with h3 | h3
        · exact hq q h3 z hz
        · have : q = k := by omega
          subst this
          rw [hx] at hz; injection hz with hz; subst hz
          exact hb
  have := key i 0 (10000 + 64) (by omega) (by omega) (fun q hq => by omega)
  exact this
theorem preLoop {l : List ApiRated} (hl : l.length ≤ 40) : loopN (billinglaw46_InvoicePlaces_l2 (10000 + 64) l) (10000 + 64) 0 = some (.inr true) ∨
    (loopN (billinglaw46_InvoicePlaces_l2 (10000 + 64) l) (10000 + 64) 0 = some (.inl ()) ∧ distI l ∧ ∀ x ∈ l, 1 ≤ x.Usage.Kind ∧ x.Usage.Kind ≤ 4) := by
  obtain ⟨r, h1, h2⟩ := loopN_inv (f := billinglaw46_InvoicePlaces_l2 (10000 + 64) l) (n := 10000 + 64) (s := (0 : Int)) l.length
    (fun i s => s = (i : Int) ∧ (∀ (k j : Nat) (x y : ApiRated), k < j → j < i → l[k]? = some x → l[j]? = some y → x.Usage.Id ≠ y.Usage.Id) ∧ ∀ (k : Nat) x, k < i → l[k]? = some x → 1 ≤ x.Usage.Kind ∧ x.Usage.Kind ≤ 4)
    (fun r => r = .inr true ∨ (r = .inl () ∧ distI l ∧ ∀ x ∈ l, 1 ≤ x.Usage.Kind ∧ x.Usage.Kind ≤ 4)) (fun i s hi hs => by
      obtain ⟨rfl, hd, hk⟩ := hs
      rcases Nat.lt_or_ge i l.length with hlt | hge
      · have hx : l[i]? = some (l[i]'hlt) := List.getElem?_eq_getElem hlt
        generalize l[i]'hlt = y at hx
        have hI := idLoop (y := y) hl hlt
        simp only [billinglaw46_InvoicePlaces_l2, decide_eq_true (show (i : Int) < (l.length : Int) by omega), if_true, idx_nat hx, Option.bind_some, hI]
        by_cases hex : ∃ k : Nat, k < i ∧ ∃ x, l[k]? = some x ∧ x.Usage.Id = y.Usage.Id
        · right
          exact ⟨.inr true, by rw [if_pos hex], .inl rfl⟩
        · rw [if_neg hex]
          by_cases hkk : (decide (y.Usage.Kind < 1) || decide (y.Usage.Kind ≥ 5)) = true
          · right
            exact ⟨.inr true, by simp only [hkk, if_true, awake46, Option.bind_some], .inl rfl⟩
          · left
            refine ⟨((i + 1 : Nat) : Int), hlt, ?_, rfl, fun k j x z hkj hji hx2 hz => ?_, fun k x hki hx2 => ?_⟩
            · simp only [hkk, Bool.false_eq_true, if_false, wrap_succ (show i < maxLen by rw [maxLen_val]; omega)]
            · rcases Nat.lt_or_ge j i with h3 | h3
              · exact hd k j x z hkj h3 hx2 hz
              · have : j = i := by omega
                subst this
                rw [hx] at hz; injection hz with hz; subst hz
                exact fun e => hex ⟨k, hkj, x, hx2, e⟩
            · rcases Nat.lt_or_ge k i with h3 | h3
              · exact hk k x h3 hx2
              · have : k = i := by omega
                subst this
                rw [hx] at hx2; injection hx2 with hx2; subst hx2
                simp at hkk
                omega
      · have : i = l.length := by omega
        subst this
        exact .inr ⟨.inl (), by simp [billinglaw46_InvoicePlaces_l2], .inr ⟨rfl, fun k j x y hkj hx hy => hd k j x y hkj (List.getElem?_eq_some_iff.1 hy).1 hx hy, fun x hx => by
          obtain ⟨k, hk2⟩ := List.getElem?_of_mem hx
          exact hk k x (List.getElem?_eq_some_iff.1 hk2).1 hk2⟩⟩) (by omega) ⟨rfl, fun k j x y _ h => by omega, fun k x h => by omega⟩
  have h1' : loopN (billinglaw46_InvoicePlaces_l2 (10000 + 64) l) (10000 + 64) 0 = some r := h1
  rcases h2 with rfl | ⟨rfl, h3, h4⟩
  · exact .inl h1'
  · exact .inr ⟨h1', h3, h4⟩
theorem countLoop {N : Nat} (hN : 5000 ≤ N) {l : List ApiRated} {a : Int} {p : ApiPeriod} (hl : l.length ≤ 40) {v : Int} (hv : 0 ≤ v ∧ v ≤ 100) : loopN (billinglaw46_InvoicePlaces_l5 N l a p) N (v, 0) = some (v - ((l.filter fun x => cntB x a p).length : Int)) := by
  refine loop_list (n := N) (s := v) l (by rw [maxLen_val]; omega) (f := billinglaw46_InvoicePlaces_l5 N l a p) (fun s i => (s, i)) (fun i s => s = v - (((l.take i).filter fun x => cntB x a p).length : Int))
    (fun s xs => v - ((l.filter fun x => cntB x a p).length : Int)) (fun s hI h => ?_) (fun s i x xs hx hlt hidx hw hdr hI => ?_) (by omega) (by simp)
  · rw [List.take_length] at hI
    rw [hI]
    simp [billinglaw46_InvoicePlaces_l5]
  · have hi := (List.getElem?_eq_some_iff.1 hx).1
    have hfl : ((l.take i).filter fun x => cntB x a p).length ≤ (l.take i).length := List.length_filter_le _ _
    have htl : (l.take i).length ≤ 40 := by rw [List.length_take]; omega
    refine .inl ⟨v - (((l.take (i + 1)).filter fun x => cntB x a p).length : Int), ?_, rfl, by trivial⟩
    have w : IntKind.wrap .i64 (s - 1) = s - 1 := wrap64 (by omega) (by omega)
    simp only [billinglaw46_InvoicePlaces_l5, hlt, if_true, hidx, Option.bind_some, counts_r, hw, w]
    rw [take_snoc hx, List.filter_append, List.length_append]
    cases hc : cntB x a p with
    | false => simp [List.filter_cons, hc, hI]
    | true => simp [List.filter_cons, hc, hI]; omega

theorem law_InvoicePlaces (x0 : List ApiRated) (g0 : gd (.sl tyApiRated) x0) (x1 : Int) (g1 : gd (.int .i64) x1) (x2 : ApiPeriod) (g2 : gd tyApiPeriod x2) : ∃ N, billinglaw46_InvoicePlaces N x0 x1 x2 = some true := by
  refine ⟨10000 + 64, ?_⟩
  unfold billinglaw46_InvoicePlaces
  rw [awake46]
  split
  · rfl
  · rename_i h
    have hl : x0.length ≤ 40 := by simp at h; omega
    rcases preLoop hl with hp | ⟨hp, hd, hk⟩
    · rw [hp]; rfl
    · rw [hp]
      simp only [Option.bind_some, lines_p (N := 10000 + 64) (a := x1) (p := x2) (show x0.length ≤ 4000 by omega) (by omega)]
      unfold linesS
      cases hls : linesK (grpS x1 x2 x0) (keysS x1 x2 x0) [] with
      | none => rfl
      | some ls =>
        simp only [bne_self_eq_false, Bool.false_eq_true, if_false]
        obtain ⟨xs, hxs, hlen, hget⟩ := linesK_get hls
        simp only [List.nil_append] at hxs
        subst hxs
        have hcnt := count_keys (a := x1) (p := x2) (keys_nodup (a := x1) (p := x2) x0) x0 (fun x hx hc => (mem_keys x0).2 ⟨x, hx, hc, rfl⟩)
        have hfle : (x0.filter fun x => cntB x x1 x2).length ≤ x0.length := List.length_filter_le _ _
        generalize hK : keysS x1 x2 x0 = K at *
        have hpart : ∀ i, i ≤ K.length → ((K.take i).map fun k => (selS x1 x2 x0 k).length).sum ≤ (K.map fun k => (selS x1 x2 x0 k).length).sum := by
          intro i _
          conv => rhs; rw [← List.take_append_drop i K, List.map_append, List.sum_append]
          omega
        have hKl : K.length ≤ 4000 := by
          have := keysS_len (a := x1) (p := x2) x0 []
          simp at this
          rw [← hK]
          unfold keysS; omega
        have hloop : loopN (billinglaw46_InvoicePlaces_l4 (10000 + 64) ls x0 x1 x2) (10000 + 64) (0, 0) = some (.inl (((K.map fun k => (selS x1 x2 x0 k).length).sum : Nat) : Int)) := by
          refine loop_list (n := 10000 + 64) (s := (0 : Int)) ls (by rw [maxLen_val]; omega) (f := billinglaw46_InvoicePlaces_l4 (10000 + 64) ls x0 x1 x2) (fun s i => (s, i)) (fun i s => s = ((((K.take i).map fun k => (selS x1 x2 x0 k).length).sum : Nat) : Int))
            (fun s _ => .inl (((K.map fun k => (selS x1 x2 x0 k).length).sum : Nat) : Int)) (fun s hI h => ?_) (fun s i y ys hy hlt hidx hw hdr hI => ?_) (by omega) (by simp)
          · rw [hlen, List.take_length] at hI
            rw [hI]
            simp [billinglaw46_InvoicePlaces_l4]
          · have hi := (List.getElem?_eq_some_iff.1 hy).1
            obtain ⟨k, hkk⟩ : ∃ k, K[i]? = some k := ⟨_, List.getElem?_eq_getElem (by omega)⟩
            obtain ⟨y', hy', hlo⟩ := hget i k hkk
            rw [hy] at hy'; injection hy' with hy'; subst hy'
            obtain ⟨e1, e2, e3⟩ := lineOf_some hlo
            obtain ⟨s1, s2, s3⟩ := grp_sel x1 x2 k x0
            have hmem : k ∈ keysS x1 x2 x0 := by rw [hK]; exact List.mem_of_getElem? hkk
            obtain ⟨z, hz1, hz2, hz3⟩ := (mem_keys x0).1 hmem
            have hk2 : 1 ≤ k.2.1 ∧ k.2.1 ≤ 4 := by rw [← hz3]; exact hk z hz1
            have hsel := drB_sel (a := x1) (p := x2) (l := x0) (k := k) (y := y) hk hk2 (by rw [e1]) (by rw [e1]) (by rw [e1])
            have hdr := drill_p (N := 10000 + 64) (by omega) (l := x0) (by omega) (inv := (x1, x2, ls, [], 0, 0, 0)) (i := i) (y := y) hy (by rw [e1])
            have hdr' : invoice_Drill (10000 + 64) x0 (x1, x2, ls, ([] : (List ApiTaxLine)), 0, 0, 0) (i : Int) = some (idsL (selS x1 x2 x0 k)) := by rw [hdr]; congr 2
            have hsl : (selS x1 x2 x0 k).length ≤ x0.length := List.length_filter_le _ _
            have hsum := sum_loop (N := 10000 + 64) (by omega) (l := x0) (ys := selS x1 x2 x0 k) (a := x1) (p := x2) (by omega) (by omega) (fun y hy => by
              unfold selS at hy
              rw [List.mem_filter] at hy
              refine ⟨hy.1, ?_⟩
              have := hy.2
              unfold selB at this
              simp only [Bool.and_eq_true] at this
              exact this.1) hd
            have hpos : 1 ≤ (selS x1 x2 x0 k).length := by
              have : z ∈ selS x1 x2 x0 k := by
                unfold selS
                rw [List.mem_filter]
                exact ⟨hz1, by unfold selB; simp [hz2, hz3]⟩
              exact List.length_pos_of_mem this
            have hil : (idsL (selS x1 x2 x0 k)).length = (selS x1 x2 x0 k).length := by simp [idsL]
            have hu := s3 e3
            have hgb := grp_ok0 x1 x2 k x0
            have hue : sumW (unitsL (selS x1 x2 x0 k)) = (grpS x1 x2 x0 k).2.1 := by rw [hu]; exact sumW_exact (by omega) (by omega)
            have hob := valB_iff.1 e2
            have hoe : sumW (owedL (selS x1 x2 x0 k)) = (grpS x1 x2 x0 k).2.2.sum := by rw [s2] at hob ⊢; exact sumW_exact (by omega) (by omega)
            have htk : ((K.take (i + 1)).map fun k => (selS x1 x2 x0 k).length).sum = ((K.take i).map fun k => (selS x1 x2 x0 k).length).sum + (selS x1 x2 x0 k).length := by
              rw [take_snoc hkk]; simp
            have hp1 := hpart (i + 1) (by omega)
            have w1 : IntKind.wrap .i64 (s + (((selS x1 x2 x0 k).length : Nat) : Int)) = ((((K.take (i + 1)).map fun k => (selS x1 x2 x0 k).length).sum : Nat) : Int) := by
              rw [htk, hI, wrap64 (by omega) (by omega)]; omega
            refine .inl ⟨((((K.take (i + 1)).map fun k => (selS x1 x2 x0 k).length).sum : Nat) : Int), ?_, rfl, by trivial⟩
            simp only [billinglaw46_InvoicePlaces_l4, hlt, if_true, Option.bind_some, hdr', hsum, hidx, hil, hue, hoe, hw, w1]
            have hcond : ((((((decide ((((selS x1 x2 x0 k).length : Nat) : Int) < 1)) || (y.Count != (((selS x1 x2 x0 k).length : Nat) : Int))) || (y.Units != (grpS x1 x2 x0 k).2.1)) || (y.Amount != (grpS x1 x2 x0 k).2.2.sum)) || (y.Kind != 1)) || (y.Rounded != 0)) = false := by
              rw [e1, ← s1]
              have : decide ((grpS x1 x2 x0 k).1 < 1) = false := by rw [s1]; simp; omega
              simp [this]
            rw [if_neg (by rw [hcond]; simp)]
        rw [hloop]
        simp only [Option.bind_some]
        rw [countLoop (by omega) hl (by omega)]
        have hz : ((((K.map fun k => (selS x1 x2 x0 k).length).sum : Nat) : Int) - ((x0.filter fun x => cntB x x1 x2).length : Int) == 0) = true := by rw [hcnt]; simp
        have d1 : invoice_Drill (10000 + 64) x0 (x1, x2, ls, ([] : (List ApiTaxLine)), 0, 0, 0) (ls.length : Int) = some [] := drill_out (.inr (Int.le_refl _))
        have d2 : invoice_Drill (10000 + 64) x0 (x1, x2, ls, ([] : (List ApiTaxLine)), 0, 0, 0) (-1) = some [] := drill_out (.inl (by omega))
        simp only [Option.bind_some, hz, if_true, d1, d2]
        rfl
end Gx

