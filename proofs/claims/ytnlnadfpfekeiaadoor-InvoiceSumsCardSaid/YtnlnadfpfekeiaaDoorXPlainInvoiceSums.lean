/- The plain laws for InvoiceSums. -/
import Derived.Test.YtnlnadfpfekeiaaDoorXFns
import Derived.Test.YtnlnadfpfekeiaaDoorGPure
import Derived.Laws.Bits128
import Derived.Test.YtnlnadfpfekeiaaDoorXQ
namespace Gx
open Go Gd
set_option linter.unusedVariables false
set_option linter.unusedSimpArgs false
theorem loopN_inv {σ τ : Type} {f : σ → Option (σ ⊕ τ)} (k : Nat) (I : Nat → σ → Prop) (R : τ → Prop)
    (step : ∀ i s, i ≤ k → I i s → (∃ s', i < k ∧ f s = some (.inl s') ∧ I (i + 1) s') ∨ (∃ r, f s = some (.inr r) ∧ R r)) :
    ∀ {n : Nat} {s : σ}, k < n → I 0 s → ∃ r, loopN f n s = some r ∧ R r := by
  have main : ∀ (d i n : Nat) (s : σ), i + d = k → d < n → I i s → ∃ r, loopN f n s = some r ∧ R r := by
    intro d
    induction d with
    | zero =>
      intro i n s hi hn hI
      obtain ⟨m, rfl⟩ : ∃ m, n = m + 1 := ⟨n - 1, by omega⟩
      rcases step i s (by omega) hI with ⟨s', h, _⟩ | ⟨r, h1, h2⟩
      · omega
      · exact ⟨r, by simp [loopN, h1], h2⟩
    | succ d ih =>
      intro i n s hi hn hI
      obtain ⟨m, rfl⟩ : ∃ m, n = m + 1 := ⟨n - 1, by omega⟩
      rcases step i s (by omega) hI with ⟨s', _, h1, h2⟩ | ⟨r, h1, h2⟩
      · obtain ⟨r, h3, h4⟩ := ih (i + 1) m s' (by omega) (by omega) h2
        exact ⟨r, by simp [loopN, h1, h3], h4⟩
      · exact ⟨r, by simp [loopN, h1], h2⟩
  intro n s hn hI
  exact main k 0 n s (by omega) hn hI
theorem loop_list {α σ ρ τ : Type} (l : List α) (hl : l.length ≤ maxLen) {f : ρ → Option (ρ ⊕ τ)} (mk : σ → Int → ρ) (Inv : Nat → σ → Prop) (go : σ → List α → τ)
    (h0 : ∀ s, Inv l.length s → decide (((l.length : Nat) : Int) < (l.length : Int)) = false → f (mk s (l.length : Int)) = some (.inr (go s [])))
    (h1 : ∀ s (i : Nat) x xs, l[i]? = some x → decide ((i : Int) < (l.length : Int)) = true → idx l (i : Int) = some x → IntKind.wrap .i64 ((i : Int) + 1) = ((i + 1 : Nat) : Int) → l.drop i = x :: xs → Inv i s →
      (∃ s', f (mk s (i : Int)) = some (.inl (mk s' ((i + 1 : Nat) : Int))) ∧ Inv (i + 1) s' ∧ go s (x :: xs) = go s' xs) ∨ f (mk s (i : Int)) = some (.inr (go s (x :: xs))))
    {n : Nat} {s : σ} (hn : l.length < n) (hs : Inv 0 s) : loopN f n (mk s 0) = some (go s l) := by
  have main : ∀ (k i n : Nat) (s : σ), l.length = i + k → k < n → Inv i s → loopN f n (mk s (i : Int)) = some (go s (l.drop i)) := by
    intro k
    induction k with
    | zero =>
      intro i n s hk hn hI
      obtain ⟨m, rfl⟩ : ∃ m, n = m + 1 := ⟨n - 1, by omega⟩
      have hi : i = l.length := by omega
      subst hi
      rw [List.drop_length]
      simp [loopN, h0 s hI (by simp)]
    | succ k ih =>
      intro i n s hk hn hI
      obtain ⟨m, rfl⟩ : ∃ m, n = m + 1 := ⟨n - 1, by omega⟩
      have hlt : i < l.length := by omega
      have hd := List.drop_eq_getElem_cons hlt
      rw [hd]
      rcases h1 s i _ _ (List.getElem?_eq_getElem hlt) (by simpa using hlt) (idx_nat (List.getElem?_eq_getElem hlt)) (wrap_succ (by omega)) hd hI with ⟨s', e1, e2, e3⟩ | e1
      · simp only [loopN, e1, Option.bind_some, e3]
        exact ih (i + 1) m s' (by omega) (by omega) e2
      · simp only [loopN, e1, Option.bind_some]
  simpa using main l.length 0 n s (by omega) hn hs
theorem loopN_congr {σ τ : Type} {f g : σ → Option (σ ⊕ τ)} (h : ∀ s, f s = g s) (n : Nat) (s : σ) : loopN f n s = loopN g n s := by rw [show f = g from funext h]
theorem idx_get {α : Type} {l : List α} {i : Nat} (h : i < l.length) : idx l (i : Int) = some l[i] := idx_nat (List.getElem?_eq_getElem h)
theorem idx_set {α : Type} {l : List α} {i : Nat} {v : α} (h : i < l.length) : idx (l.set i v) (i : Int) = some v := by
  rw [idx_nat]
  rw [List.getElem?_set_self h]
theorem mkL_of {τ : Type} {b n : Nat} {z : τ} (h : b * n ≤ 281474976710656) : mkL b n n z = some (List.replicate n z) := by
  unfold mkL
  have e : ((b * n : Nat) : Int) = (b : Int) * (n : Int) := Int.natCast_mul b n
  have h' : (b : Int) * (n : Int) ≤ 281474976710656 := by rw [← e]; omega
  rw [if_pos ⟨Int.natCast_nonneg n, Int.le_refl _, h'⟩, Int.toNat_natCast]
end Gx
namespace Gx
open Go Gd
set_option linter.unusedVariables false
set_option linter.unusedSimpArgs false
def valB (a : Int) : Bool := decide (a ≥ -1125899906842624) && decide (a ≤ 1125899906842624)
theorem valB_iff {a : Int} : valB a = true ↔ -1125899906842624 ≤ a ∧ a ≤ 1125899906842624 := by simp [valB]
theorem valid_p (N : Nat) (a : Int) : amount_Valid N a = some (valB a) := rfl
def chkS (a : Int) : Int × Int := bif valB a then (a, 0) else (0, 6)
theorem checked_p (N : Nat) (a : Int) : amount_checked N a = some (chkS a) := by
  unfold amount_checked chkS
  rw [valid_p]
  cases valB a <;> rfl
def sumS (l : List Int) : Int × Int := if (l.length : Int) > 4096 then (0, 5) else bif l.all valB then chkS l.sum else (0, 6)
theorem sum_bound {l : List Int} (h : l.all valB = true) : -1125899906842624 * (l.length : Int) ≤ l.sum ∧ l.sum ≤ 1125899906842624 * (l.length : Int) := by
  induction l with
  | nil => simp
  | cons x l ih =>
    simp only [List.all_cons, Bool.and_eq_true] at h
    have h1 := valB_iff.1 h.1
    have h2 := ih h.2
    simp only [List.sum_cons, List.length_cons]
    push_cast
    omega
theorem sumLoop {f : Int × Int → Option ((Int × Int) ⊕ (Int ⊕ (Int × Int)))} {l : List Int} (hl : l.length ≤ 4096)
    (hf : ∀ v1 v2, f (v1, v2) = if decide (v2 < (l.length : Int)) = true then (idx l v2).bind fun x => if (!valB x) = true then some (.inr (.inr (0, 6))) else some (.inl (IntKind.wrap .i64 (v1 + x), IntKind.wrap .i64 (v2 + 1))) else some (.inr (.inl v1)))
    {N : Nat} (hN : 5000 ≤ N) : loopN f N (0, 0) = some (bif l.all valB then .inl l.sum else .inr (0, 6)) := by
  have key := loop_list (n := N) (s := 0) l (by rw [maxLen_val]; omega) (f := f) (fun s i => (s, i)) (fun i s => (l.take i).all valB = true ∧ s = (l.take i).sum)
    (fun s xs => bif xs.all valB then .inl (s + xs.sum) else .inr (0, 6)) (fun s hI h => ?_) (fun s i x xs hx hlt hidx hw hd hI => ?_) (by omega) ⟨by simp, by simp⟩
  · rw [key]; simp
  · rw [hf, h]; simp
  · have hi := (List.getElem?_eq_some_iff.1 hx).1
    have ht : l.take (i + 1) = l.take i ++ [x] := by rw [List.take_add_one, hx]; rfl
    rw [hf, hlt, hidx]
    cases hv : valB x with
    | false => exact .inr (by simp [hv])
    | true =>
      refine .inl ⟨s + x, ?_, ⟨by rw [ht, List.all_append, hI.1]; simp [hv], by rw [ht, List.sum_append, ← hI.2]; simp⟩, by simp [hv, Int.add_assoc]⟩
      have h1 := sum_bound hI.1
      rw [← hI.2, List.length_take] at h1
      have h2 := valB_iff.1 hv
      have h3 : IntKind.wrap .i64 (s + x) = s + x := wrap64 (by omega) (by omega)
      simp [hv, h3, hw]
theorem sum_p {N : Nat} (hN : 5000 ≤ N) (l : List Int) : amount_Sum N l = some (sumS l) := by
  unfold amount_Sum sumS
  by_cases h : (l.length : Int) > 4096
  · simp [h]
  · rw [if_neg h, if_neg (by simpa using h), sumLoop (l := l) (by omega) (fun v1 v2 => by simp only [amount_Sum_l1, valid_p]; rfl) hN]
    cases l.all valB <;> simp [checked_p]
def rndS (a : Int) : Int := if Int.tmod a 10000 ≥ 5000 then Int.tdiv a 10000 + 1 else if Int.tmod a 10000 ≤ -5000 then Int.tdiv a 10000 - 1 else Int.tdiv a 10000
theorem tdm (a : Int) : Int.tdiv a 10000 * 10000 + Int.tmod a 10000 = a ∧ -10000 < Int.tmod a 10000 ∧ Int.tmod a 10000 < 10000 ∧ (0 ≤ a → 0 ≤ Int.tmod a 10000) ∧ (a ≤ 0 → Int.tmod a 10000 ≤ 0) := by
  have h1 := Int.tmod_def a 10000
  refine ⟨by omega, ?_, ?_, fun h => Int.tmod_nonneg _ h, fun h => ?_⟩
  · have := Int.lt_tmod_of_pos a (b := 10000) (by omega); omega
  · exact Int.tmod_lt_of_pos a (by omega)
  · have := Int.tmod_nonneg 10000 (a := -a) (by omega)
    rw [Int.neg_tmod] at this; omega
theorem rounded_p (N : Nat) {a : Int} (h0 : -9223372036854775808 ≤ a) (h1 : a < 9223372036854775808) : amount_Rounded N a = some (rndS a) := by
  obtain ⟨t1, t2, t3, t4, t5⟩ := tdm a
  have w1 : IntKind.wrap .i64 (Int.tdiv a 10000) = Int.tdiv a 10000 := wrap64 (by omega) (by omega)
  have w2 : IntKind.wrap .i64 (Int.tdiv a 10000 + 1) = Int.tdiv a 10000 + 1 := wrap64 (by omega) (by omega)
  have w3 : IntKind.wrap .i64 (Int.tdiv a 10000 - 1) = Int.tdiv a 10000 - 1 := wrap64 (by omega) (by omega)
  unfold amount_Rounded rndS
  rw [w1, w2, w3]
  simp only [decide_eq_true_eq]
  split
  · rfl
  · split <;> rfl
def bstep (r : List Int) (b : Int) (i : Nat) : Int := if r.getD i 0 ≥ 0 ∧ (b < 0 ∨ r.getD i 0 > r.getD b.toNat 0) then (i : Int) else b
def bestTo (r : List Int) : Nat → Int
  | 0 => -1
  | i + 1 => bstep r (bestTo r i) i
def bestS (r : List Int) : Int := bestTo r r.length
theorem best_ok (r : List Int) : ∀ k : Nat, (bestTo r k = -1 ∧ ∀ i, i < k → r.getD i 0 < 0) ∨ (∃ j : Nat, bestTo r k = (j : Int) ∧ j < k ∧ 0 ≤ r.getD j 0 ∧ ∀ i, i < k → r.getD i 0 ≤ r.getD j 0)
  | 0 => .inl ⟨rfl, by simp⟩
  | k + 1 => by
    rcases best_ok r k with ⟨h1, h2⟩ | ⟨j, h1, h2, h3, h4⟩
    · simp only [bestTo, bstep, h1]
      by_cases hx : r.getD k 0 ≥ 0
      · refine .inr ⟨k, by rw [if_pos ⟨hx, .inl (by omega)⟩], by omega, hx, fun i hi => ?_⟩
        rcases Nat.lt_or_ge i k with hik | hik
        · have := h2 i hik; omega
        · rw [show i = k by omega]; exact Int.le_refl _
      · refine .inl ⟨by rw [if_neg (fun h => hx h.1)], fun i hi => ?_⟩
        rcases Nat.lt_or_ge i k with hik | hik
        · exact h2 i hik
        · rw [show i = k by omega]; omega
    · simp only [bestTo, bstep, h1, Int.toNat_natCast]
      by_cases hx : r.getD k 0 > r.getD j 0
      · refine .inr ⟨k, by rw [if_pos ⟨by omega, .inr hx⟩], by omega, by omega, fun i hi => ?_⟩
        rcases Nat.lt_or_ge i k with hik | hik
        · have := h4 i hik; omega
        · rw [show i = k by omega]; exact Int.le_refl _
      · refine .inr ⟨j, by rw [if_neg (fun h => h.2.elim (fun h => by omega) hx)], by omega, h3, fun i hi => ?_⟩
        rcases Nat.lt_or_ge i k with hik | hik
        · exact h4 i hik
        · rw [show i = k by omega]; omega
theorem getD_of {l : List Int} {i : Nat} {x : Int} (h : l[i]? = some x) : l.getD i 0 = x := by rw [List.getD_eq_getElem?_getD, h]; rfl
theorem idx_getD {l : List Int} {i : Nat} (h : i < l.length) : idx l (i : Int) = some (l.getD i 0) := by
  rw [idx_get h, List.getD_eq_getElem?_getD, List.getElem?_eq_getElem h]; rfl
theorem bestLoop {N : Nat} (hN : 5000 ≤ N) {r : List Int} (hl : r.length ≤ 4096) : loopN (amount_give_l3 N r) N (-1, 0) = some (bestS r) := by
  have key := loop_list (n := N) (s := (-1 : Int)) r (by rw [maxLen_val]; omega) (f := amount_give_l3 N r) (fun s i => (s, i)) (fun i s => s = bestTo r i)
    (fun s xs => bestS r) (fun s hI h => ?_) (fun s i x xs hx hlt hidx hw hd hI => ?_) (by omega) rfl
  · exact key
  · simp only [amount_give_l3, h]; rw [hI]; rfl
  · refine .inl ⟨bestTo r (i + 1), ?_, rfl, rfl⟩
    have hxD := getD_of hx
    simp only [amount_give_l3, hlt, hidx, Option.bind_some, if_true, decide_eq_true_eq, hw]
    subst hI
    have hil := (List.getElem?_eq_some_iff.1 hx).1
    rcases best_ok r i with ⟨h1, h2⟩ | ⟨j, h1, h2, h3, h4⟩
    · simp only [bestTo, bstep, h1, hxD]
      by_cases h0 : x ≥ 0 <;> simp [h0]
    · have hj : idx r (j : Int) = some (r.getD j 0) := idx_getD (by omega)
      simp only [bestTo, bstep, h1, hxD, hj, Int.toNat_natCast, Option.bind_some]
      by_cases h0 : x ≥ 0
      · have : ¬ ((j : Int) < 0) := by omega
        simp only [h0, if_true, this, if_false, Option.bind_some]
        by_cases h5 : x > r.getD j 0 <;> (rw [List.getD_eq_getElem?_getD] at h5; simp [h5, this])
      · simp [h0]
def cnt (r : List Int) : Nat := r.countP fun x => decide (0 ≤ x)
def giveF : Nat → List Int → List Int → List Int × List Int
  | 0, p, r => (p, r)
  | n + 1, p, r => if bestS r < 0 then (p, r) else giveF n (p.set (bestS r).toNat (p.getD (bestS r).toNat 0 + 1)) (r.set (bestS r).toNat (-1))
theorem bestS_ok (r : List Int) : (bestS r = -1 ∧ ∀ i, i < r.length → r.getD i 0 < 0) ∨ (∃ j : Nat, bestS r = (j : Int) ∧ j < r.length ∧ 0 ≤ r.getD j 0 ∧ ∀ i, i < r.length → r.getD i 0 ≤ r.getD j 0) := best_ok r r.length
theorem cnt_set {r : List Int} {j : Nat} (hj : j < r.length) (h : 0 ≤ r.getD j 0) : cnt (r.set j (-1)) + 1 = cnt r := by
  have hj' : r.getD j 0 = r[j] := by rw [List.getD_eq_getElem?_getD, List.getElem?_eq_getElem hj]; rfl
  rw [hj'] at h
  have hp : 0 < cnt r := List.countP_pos_iff.2 ⟨r[j], List.getElem_mem hj, by simpa using h⟩
  unfold cnt at *
  rw [List.countP_set hj]
  simp [h]
  omega
theorem giveLoop {N : Nat} (hN : 5000 ≤ N) : ∀ (fuel : Nat) (v B : Int) (p r : List Int), cnt r < fuel → p.length = r.length → r.length ≤ 4096 → v < 9223372036854775808 → (∀ x ∈ p, -4611686018427387904 ≤ x ∧ x ≤ B) → B + fuel ≤ 4611686018427387904 →
    ∃ x, loopN (amount_give_l4 N) fuel (v, p, r) = some x ∧ (match x with | .inl q => q | .inr q => q) = giveF v.toNat p r
  | 0, v, B, p, r, hc, _, _, _, _, _ => by omega
  | fuel + 1, v, B, p, r, hc, hl, hL, hv, hp, hB => by
    simp only [loopN, amount_give_l4, decide_eq_true_eq]
    by_cases h0 : v > 0
    · rw [if_pos h0, bestLoop hN hL]
      obtain ⟨m, hm⟩ : ∃ m, v.toNat = m + 1 := ⟨v.toNat - 1, by omega⟩
      rw [hm]
      rcases bestS_ok r with ⟨h1, h2⟩ | ⟨j, h1, h2, h3, h4⟩
      · refine ⟨.inr (p, r), by simp [h1], by simp [giveF, h1]⟩
      · have hj : ¬ ((j : Int) < 0) := by omega
        have hpj : p.getD j 0 ∈ p := by
          have : j < p.length := by omega
          rw [List.getD_eq_getElem?_getD, List.getElem?_eq_getElem this]; exact List.getElem_mem this
        have hb := hp _ hpj
        have hw1 : IntKind.wrap .i64 (p.getD j 0 + 1) = p.getD j 0 + 1 := wrap64 (by omega) (by omega)
        have hw2 : IntKind.wrap .i64 (v - 1) = v - 1 := wrap64 (by omega) (by omega)
        have e1 : idx p (j : Int) = some (p.getD j 0) := idx_getD (by omega)
        have e2 : idx r (j : Int) = some (r.getD j 0) := idx_getD h2
        have hc' := cnt_set h2 h3
        obtain ⟨x, q1, q2⟩ := giveLoop hN fuel (v - 1) (B + 1) (p.set j (p.getD j 0 + 1)) (r.set j (-1)) (by omega) (by simpa using hl) (by simpa using hL) (by omega) (fun x hx => by
          rcases List.mem_or_eq_of_mem_set hx with hx | rfl
          · have := hp x hx; omega
          · omega) (by push_cast at hB ⊢; omega)
        refine ⟨x, ?_, ?_⟩
        · simp only [h1, Option.bind_some, hj, if_false, e1, e2, hw1, hw2, Int.toNat_natCast]
          exact q1
        · rw [q2]
          simp only [giveF, h1, hj, if_false, Int.toNat_natCast]
          rw [show (v - 1).toNat = m by omega]
    · refine ⟨.inl (p, r), by simp [h0], ?_⟩
      rw [show v.toNat = 0 by omega]; rfl
theorem cnt_le (r : List Int) : cnt r ≤ r.length := List.countP_le_length
theorem give_p {N : Nat} (hN : 5000 ≤ N) {v : Int} {p r : List Int} (hl : p.length = r.length) (hL : r.length ≤ 4096) (hv : v < 9223372036854775808) (hp : ∀ x ∈ p, -4503599627370496 ≤ x ∧ x ≤ 4503599627370496) :
    amount_give N v p r = some (giveF v.toNat p r) := by
  unfold amount_give
  obtain ⟨k, rfl⟩ : ∃ k, N = 5000 + k := ⟨N - 5000, by omega⟩
  have hgen : ∀ (f : Nat) (n : Nat) (s : Int × List Int × List Int) x, loopN (amount_give_l4 (5000 + k)) n s = some x → loopN (amount_give_l4 (5000 + k)) (n + f) s = some x := by
    intro f n
    induction n with
    | zero => intro s x h; cases h
    | succ n ih =>
      intro s x h
      rw [show n + 1 + f = (n + f) + 1 by omega]
      simp only [loopN] at h ⊢
      cases hs : amount_give_l4 (5000 + k) s with
      | none => rw [hs] at h; cases h
      | some y =>
        rw [hs] at h
        cases y with
        | inl s' => exact ih s' x h
        | inr r => exact h
  have hc := cnt_le r
  obtain ⟨x, q1, q2⟩ := giveLoop (N := 5000 + k) hN 5000 v 4503599627370496 p r (by omega) hl hL hv (fun x hx => by have := hp x hx; omega) (by omega)
  rw [hgen k 5000 _ x q1, ← q2]
  cases x <;> rfl
def floS (l : List Int) : List Int := l.map (· / 10000)
def resS (l : List Int) : List Int := l.map (· % 10000)
def roundS (l : List Int) : List Int := if (l.length : Int) > 4096 then [] else bif l.all valB then (giveF (rndS l.sum - (floS l).sum).toNat (floS l) (resS l)).1 else []
theorem rest_eq {a : Int} (h : valB a = true) : Int.tmod (IntKind.wrap .i64 (Int.tmod a 10000 + 10000)) 10000 = a % 10000 := by
  obtain ⟨t1, t2, t3, _⟩ := tdm a
  rw [wrap64 (by omega) (by omega), Int.tmod_eq_emod_of_nonneg (by omega)]
  omega
theorem part_eq {a : Int} (h : valB a = true) : IntKind.wrap .i64 (Int.tdiv (IntKind.wrap .i64 (a - a % 10000)) 10000) = a / 10000 := by
  have h1 := valB_iff.1 h
  rw [wrap64 (n := a - a % 10000) (by omega) (by omega), show a - a % 10000 = 10000 * (a / 10000) by omega, Int.mul_tdiv_cancel_left _ (by omega)]
  exact wrap64 (by omega) (by omega)
theorem flo_bound {l : List Int} (h : l.all valB = true) : (∀ x ∈ floS l, -4503599627370496 ≤ x ∧ x ≤ 4503599627370496) ∧ -112589990685 * (l.length : Int) ≤ (floS l).sum ∧ (floS l).sum ≤ 112589990685 * (l.length : Int) := by
  induction l with
  | nil => simp [floS]
  | cons x l ih =>
    simp only [List.all_cons, Bool.and_eq_true] at h
    have h1 := valB_iff.1 h.1
    obtain ⟨h2, h3, h4⟩ := ih h.2
    simp only [floS, List.map_cons, List.sum_cons, List.length_cons] at *
    refine ⟨fun y hy => ?_, by push_cast; omega, by push_cast; omega⟩
    rcases List.mem_cons.1 hy with rfl | hy
    · omega
    · exact h2 y hy
theorem take_snoc {α : Type} {l : List α} {i : Nat} {x : α} (h : l[i]? = some x) : l.take (i + 1) = l.take i ++ [x] := by rw [List.take_add_one, h]; rfl
theorem all_take {l : List Int} {i : Nat} {x : Int} (h : (l.take i).all valB = true) (hx : l[i]? = some x) (hv : valB x = true) : (l.take (i + 1)).all valB = true := by
  rw [take_snoc hx, List.all_append, h]; simp [hv]
theorem all_false {l : List Int} {i : Nat} {x : Int} (hx : l[i]? = some x) (hv : valB x = false) : l.all valB = false := by
  cases h : l.all valB with
  | false => rfl
  | true => rw [List.all_eq_true.1 h x (List.mem_of_getElem? hx)] at hv; cases hv
theorem sums_take {l : List Int} (i : Nat) (h : (l.take i).all valB = true) (hl : l.length ≤ 4096) : -4611686018427387904 ≤ (l.take i).sum ∧ (l.take i).sum ≤ 4611686018427387904 ∧ -4611686018427387904 ≤ (floS (l.take i)).sum ∧ (floS (l.take i)).sum ≤ 4611686018427387904 := by
  have h1 := sum_bound h
  have h2 := (flo_bound h).2
  have h3 : (l.take i).length ≤ 4096 := by rw [List.length_take]; omega
  omega
theorem roundLoop_p {N : Nat} (hN : 5000 ≤ N) {l : List Int} (hl : l.length ≤ 4096) :
    loopN (amount_Round_l1 N l) N (0, 0, 0, List.replicate l.length 0, List.replicate l.length 0) = some (bif l.all valB then .inl (l.sum, (floS l).sum, floS l, resS l) else .inr ()) := by
  refine loop_list (n := N) (s := ((0 : Int), (0 : Int), List.replicate l.length (0 : Int), List.replicate l.length (0 : Int))) l (by rw [maxLen_val]; omega) (f := amount_Round_l1 N l) (fun s i => (s.1, s.2.1, i, s.2.2.1, s.2.2.2))
    (fun i s => (l.take i).all valB = true ∧ s = ((l.take i).sum, (floS (l.take i)).sum, floS (l.take i) ++ List.replicate (l.length - i) 0, resS (l.take i) ++ List.replicate (l.length - i) 0))
    (fun s xs => bif l.all valB then .inl (l.sum, (floS l).sum, floS l, resS l) else .inr ()) (fun s hI h => ?_) (fun s i x xs hx hlt hidx hw hd hI => ?_) (by omega) ⟨by simp, by simp [floS, resS]⟩
  · obtain ⟨h1, h2⟩ := hI
    rw [List.take_length] at h1 h2
    rw [h2, h1]
    simp [amount_Round_l1]
  · obtain ⟨h1, h2⟩ := hI
    have hil := (List.getElem?_eq_some_iff.1 hx).1
    simp only [amount_Round_l1, hlt, hidx, if_true, Option.bind_some, valid_p]
    cases hv : valB x with
    | false => exact .inr (by rw [all_false hx hv]; simp)
    | true =>
      refine .inl ⟨((l.take (i + 1)).sum, (floS (l.take (i + 1))).sum, floS (l.take (i + 1)) ++ List.replicate (l.length - (i + 1)) 0, resS (l.take (i + 1)) ++ List.replicate (l.length - (i + 1)) 0), ?_, ⟨all_take h1 hx hv, rfl⟩, by trivial⟩
      have b1 := sums_take (i + 1) (all_take h1 hx hv) hl
      rw [h2]
      have e1 : (floS (l.take i) ++ List.replicate (l.length - i) (0 : Int)).length = l.length := by simp [floS]; omega
      have e2 : (resS (l.take i) ++ List.replicate (l.length - i) (0 : Int)).length = l.length := by simp [resS]; omega
      have s1 : ∀ v : Int, (floS (l.take i) ++ List.replicate (l.length - i) (0 : Int)).set i v = floS (l.take i) ++ v :: List.replicate (l.length - (i + 1)) 0 := by
        intro v
        rw [show l.length - i = (l.length - (i + 1)) + 1 by omega, List.replicate_succ, List.set_append_right _ _ (by simp [floS]; omega)]
        rw [show i - (floS (l.take i)).length = 0 by simp [floS]; omega]
        rfl
      have s2 : ∀ v : Int, (resS (l.take i) ++ List.replicate (l.length - i) (0 : Int)).set i v = resS (l.take i) ++ v :: List.replicate (l.length - (i + 1)) 0 := by
        intro v
        rw [show l.length - i = (l.length - (i + 1)) + 1 by omega, List.replicate_succ, List.set_append_right _ _ (by simp [resS]; omega)]
        rw [show i - (resS (l.take i)).length = 0 by simp [resS]; omega]
        rfl
      have i1 : idx (floS (l.take i) ++ List.replicate (l.length - i) (0 : Int)) (i : Int) = some ((floS (l.take i) ++ List.replicate (l.length - i) (0 : Int)).getD i 0) := idx_getD (by rw [e1]; exact hil)
      have i2 : idx (resS (l.take i) ++ List.replicate (l.length - i) (0 : Int)) (i : Int) = some ((resS (l.take i) ++ List.replicate (l.length - i) (0 : Int)).getD i 0) := idx_getD (by rw [e2]; exact hil)
      have i3 : ∀ v : Int, idx (resS (l.take i) ++ v :: List.replicate (l.length - (i + 1)) (0 : Int)) (i : Int) = some v := fun v => by rw [← s2]; exact idx_set (by rw [e2]; exact hil)
      have i4 : ∀ v : Int, idx (floS (l.take i) ++ v :: List.replicate (l.length - (i + 1)) (0 : Int)) (i : Int) = some v := fun v => by rw [← s1]; exact idx_set (by rw [e1]; exact hil)
      have ts : (l.take (i + 1)).sum = (l.take i).sum + x := by rw [take_snoc hx, List.sum_append]; simp
      have tf : (floS (l.take (i + 1))).sum = (floS (l.take i)).sum + x / 10000 := by rw [take_snoc hx]; simp [floS, List.sum_append]
      have w1 : IntKind.wrap .i64 ((l.take i).sum + x) = (l.take i).sum + x := wrap64 (by omega) (by omega)
      have w2 : IntKind.wrap .i64 ((floS (l.take i)).sum + x / 10000) = (floS (l.take i)).sum + x / 10000 := wrap64 (by omega) (by omega)
      simp only [Bool.not_true, if_false, Bool.false_eq_true, i1, i2, i3, i4, Option.bind_some, Int.toNat_natCast, rest_eq hv, part_eq hv, w1, w2, hw, s1, s2]
      rw [ts, tf, take_snoc hx]
      simp [floS, resS]
theorem rnd_bound {a : Int} : a - 5000 ≤ 10000 * rndS a ∧ 10000 * rndS a ≤ a + 5000 := by
  obtain ⟨t1, t2, t3, t4, t5⟩ := tdm a
  unfold rndS
  split
  · omega
  · split <;> omega
theorem round_give {l : List Int} (hl : l.length ≤ 4096) (h : l.all valB = true) : IntKind.wrap .i64 (rndS l.sum - (floS l).sum) = rndS l.sum - (floS l).sum ∧ (floS l).length = (resS l).length ∧ (resS l).length ≤ 4096 ∧ rndS l.sum - (floS l).sum < 9223372036854775808 ∧
    (∀ x ∈ floS l, -4503599627370496 ≤ x ∧ x ≤ 4503599627370496) ∧ -9223372036854775808 ≤ l.sum ∧ l.sum < 9223372036854775808 := by
  have h1 := sum_bound h
  obtain ⟨h2, h3, h4⟩ := flo_bound h
  have h5 := rnd_bound (a := l.sum)
  have h6 : (l.length : Int) ≤ 4096 := by omega
  exact ⟨wrap64 (by omega) (by omega), by simp [floS, resS], by simpa [resS] using hl, by omega, h2, by omega, by omega⟩
theorem round_p {N : Nat} (hN : 5000 ≤ N) (l : List Int) : amount_Round N l = some (roundS l) := by
  unfold amount_Round roundS
  by_cases h : (l.length : Int) > 4096
  · simp [h]
  · rw [if_neg h, if_neg (by simpa using h)]
    have hl : l.length ≤ 4096 := by omega
    have hm : mkL 8 (l.length : Int) (l.length : Int) (0 : Int) = some (List.replicate l.length 0) := mkL_of (by omega)
    rw [hm]
    simp only [Option.bind_some]
    rw [roundLoop_p hN hl]
    cases hv : l.all valB with
    | false => rfl
    | true =>
      obtain ⟨r1, r2, r3, r4, r5, r6, r7⟩ := round_give hl hv
      simp only [cond_true, Option.bind_some]
      rw [rounded_p N r6 r7]
      simp only [Option.bind_some]
      rw [r1, give_p hN r2 r3 r4 r5]
      rfl
end Gx
namespace Gx
open Go Gd
set_option linter.unusedVariables false
set_option linter.unusedSimpArgs false
theorem i64_and1 (n : Int) : Go.bits .and .i64 n 1 = n % 2 := by
  have h127 : (BitVec.ofInt 64 1).toNat = 2 ^ 1 - 1 := by decide
  have key : (BitVec.ofInt 64 n &&& BitVec.ofInt 64 1).toNat = (n % ((2 ^ 64 : Nat) : Int)).toNat % 2 ^ 1 := by
    rw [BitVec.toNat_and, BitVec.toNat_ofInt, h127, Nat.and_two_pow_sub_one_eq_mod]
  show IntKind.i64.wrap ((BitVec.ofInt 64 n &&& BitVec.ofInt 64 1).toNat : Nat) = n % 2
  rw [key, IntKind.wrap_i64]
  omega
theorem dm_step {A m d b q r : Nat} (hd : 0 < d) (hq : q = A * m / d) (hr : r = A * m % d) (x : Nat) (hx : A * (2 * m + b) = 2 * (A * m) + x) :
    A * (2 * m + b) / d = 2 * q + (2 * r + x) / d ∧ A * (2 * m + b) % d = (2 * r + x) % d := by
  have h1 : A * m = d * q + r := by rw [hq, hr]; exact (Nat.div_add_mod _ _).symm
  have h2 : A * (2 * m + b) = (2 * r + x) + d * (2 * q) := by rw [hx, h1, Nat.mul_add, ← Nat.mul_assoc 2 d q, Nat.mul_comm 2 d, Nat.mul_assoc]; omega
  rw [h2]
  refine ⟨?_, Nat.add_mul_mod_self_left _ _ _⟩
  rw [Nat.add_mul_div_left _ _ hd]; omega
theorem shr_nat (n b : Nat) (hb : b ≤ 62) : shrW .i64 (n : Int) (b : Int) = some ((n / 2 ^ b : Nat) : Int) := by
  unfold shrW
  rw [if_neg (by omega)]
  have : min ((b : Int)).toNat (IntKind.bits .i64) = b := by
    rw [Int.toNat_natCast]; show min b 64 = b; omega
  rw [this]
  congr 1
  rw [Int.fdiv_eq_ediv_of_nonneg _ (by exact_mod_cast Nat.zero_le _)]
  rw [Int.natCast_ediv]; congr 1
theorem wrap_nat {z : Nat} (h : z < 9223372036854775808) : IntKind.wrap .i64 (z : Int) = (z : Int) := wrap64 (by omega) (by omega)
theorem wrap_add_nat {x y : Nat} (h : x + y < 9223372036854775808) : IntKind.wrap .i64 ((x : Int) + (y : Int)) = ((x + y : Nat) : Int) := by rw [← Int.natCast_add]; exact wrap_nat h
theorem wrap_two {x : Nat} (h : 2 * x < 9223372036854775808) : IntKind.wrap .i64 (2 * (x : Int)) = ((2 * x : Nat) : Int) := by rw [wrap64 (by omega) (by omega)]; omega
theorem quo_nat (x y : Nat) (hy : 0 < y) (hx : x < 9223372036854775808) : quoW .i64 (x : Int) (y : Int) = some ((x / y : Nat) : Int) := by
  unfold quoW
  rw [if_neg (by omega), ← Int.ofNat_tdiv]
  have := Nat.div_le_self x y
  rw [wrap_nat (by omega)]
theorem rem_nat (x y : Nat) (hy : 0 < y) : remW (x : Int) (y : Int) = some ((x % y : Nat) : Int) := by
  unfold remW
  rw [if_neg (by omega), ← Int.ofNat_tmod]
theorem half_pow (n b : Nat) : n / 2 ^ b = 2 * (n / 2 ^ (b + 1)) + n / 2 ^ b % 2 := by
  have : n / 2 ^ (b + 1) = n / 2 ^ b / 2 := by rw [Nat.pow_succ, Nat.div_div_eq_div_mul]
  omega
theorem divLoop_p (N : Nat) {A n d : Nat} (hA : A ≤ 1125899906842624) (hn : n ≤ 1099511627776) (hd : 0 < d) (hd2 : d ≤ 70368744177664) : ∀ (b q r fuel : Nat), b ≤ 63 → b < fuel → q = A * (n / 2 ^ b) / d → r = A * (n / 2 ^ b) % d → q ≤ 2251799813685248 →
    ∃ x, loopN (amount_divide_l1 N n A d) fuel ((q : Int), (r : Int), (b : Int) - 1) = some x ∧
      ((x = .inl (((A * n / d : Nat) : Int), ((A * n % d : Nat) : Int)) ∧ A * n / d ≤ 2251799813685248) ∨ ∃ q' : Nat, x = .inr ((q' : Int), 0) ∧ 2251799813685248 < q' ∧ q' ≤ A * n / d ∧ q' < 9007199254740992)
  | 0, q, r, fuel, hb, hf, hq, hr, hle => by
    obtain ⟨m, rfl⟩ : ∃ m, fuel = m + 1 := ⟨fuel - 1, by omega⟩
    simp only [Nat.pow_zero, Nat.div_one] at hq hr
    exact ⟨_, by simp [loopN, amount_divide_l1]; rfl, .inl ⟨by rw [hq, hr], by omega⟩⟩
  | b + 1, q, r, fuel, hb, hf, hq, hr, hle => by
    obtain ⟨f, rfl⟩ : ∃ m, fuel = m + 1 := ⟨fuel - 1, by omega⟩
    have hm := half_pow n b
    generalize hm' : n / 2 ^ b = m' at *
    have hr2 : r < d := by rw [hr]; exact Nat.mod_lt _ hd
    have hAd : A % d < d := Nat.mod_lt _ hd
    have hAq : A / d ≤ A := Nat.div_le_self _ _
    have hAdm : A = d * (A / d) + A % d := (Nat.div_add_mod _ _).symm
    have hm2 : m' ≤ n := by rw [← hm']; exact Nat.div_le_self _ _
    have hmono : A * m' / d ≤ A * n / d := Nat.div_le_div_right (Nat.mul_le_mul_left _ hm2)
    have e0 : (((b + 1 : Nat) : Int) - 1) = (b : Int) := by omega
    have e1 : IntKind.wrap .i64 ((b : Int) - 1) = (b : Int) - 1 := wrap64 (by omega) (by omega)
    simp only [loopN, amount_divide_l1, e0, e1, show (decide ((b : Int) ≥ 0)) = true by simp, if_true, shr_nat n b (by omega), hm', Option.bind_some, i64_and1]
    have w1 : IntKind.wrap .i64 (2 * (q : Int)) = ((2 * q : Nat) : Int) := wrap_two (by omega)
    have w2 : IntKind.wrap .i64 (2 * (r : Int)) = ((2 * r : Nat) : Int) := wrap_two (by omega)
    have fin : ∀ x : Nat, A * (2 * (n / 2 ^ (b + 1)) + m' % 2) = 2 * (A * (n / 2 ^ (b + 1))) + x → ∀ q1 r1 : Nat, 2 * q + (2 * r + x) / d = q1 + r1 / d → (2 * r + x) % d = r1 % d → r1 ≤ 3 * 70368744177664 → q1 ≤ 6755399441055744 →
        ∃ y, ((quoW .i64 (r1 : Int) (d : Int)).bind fun n9 => (remW (r1 : Int) (d : Int)).bind fun n10 => if (decide ((IntKind.wrap .i64 ((q1 : Int) + n9)) > 2251799813685248)) = true then some (.inr (.inr ((IntKind.wrap .i64 ((q1 : Int) + n9)), (0 : Int)))) else some (.inl ((IntKind.wrap .i64 ((q1 : Int) + n9)), n10, (b : Int) - 1)) : Option ((Int × Int × Int) ⊕ ((Int × Int) ⊕ (Int × Int)))) = some y ∧
          ((∃ q2 r2 : Nat, y = .inl ((q2 : Int), (r2 : Int), (b : Int) - 1) ∧ q2 = A * m' / d ∧ r2 = A * m' % d ∧ q2 ≤ 2251799813685248) ∨ ∃ q' : Nat, y = .inr (.inr ((q' : Int), 0)) ∧ 2251799813685248 < q' ∧ q' ≤ A * n / d ∧ q' < 9007199254740992) := by
      intro x hx q1 r1 hq1 hr1 hb1 hb2
      obtain ⟨s1, s2⟩ := dm_step hd hq hr x hx
      rw [← hm] at s1 s2
      have hdiv := Nat.div_le_self r1 d
      rw [quo_nat r1 d hd (by omega), rem_nat r1 d hd]
      simp only [Option.bind_some]
      have w3 : IntKind.wrap .i64 ((q1 : Int) + ((r1 / d : Nat) : Int)) = ((q1 + r1 / d : Nat) : Int) := wrap_add_nat (by omega)
      rw [w3, ← hq1, ← s1]
      by_cases hgt : ((A * m' / d : Nat) : Int) > 2251799813685248
      · rw [if_pos (by simpa using hgt)]
        refine ⟨_, rfl, .inr ⟨A * m' / d, rfl, by omega, hmono, by omega⟩⟩
      · rw [if_neg (by simpa using hgt)]
        refine ⟨_, rfl, .inl ⟨A * m' / d, A * m' % d, by rw [s2, ← hr1], rfl, rfl, by omega⟩⟩
    rcases Nat.mod_two_eq_zero_or_one m' with hbit | hbit
    · have hb0 : ((((m' : Nat) : Int) % 2) == 1) = false := by
        have : ((m' : Int) % 2) = 0 := by omega
        rw [this]; rfl
      rw [hb0]
      simp only [Bool.false_eq_true, if_false, Option.bind_some, w1, w2]
      obtain ⟨y, hy1, hy2⟩ := fin 0 (by rw [hbit]; simp [Nat.mul_add, Nat.mul_left_comm]) (2 * q) (2 * r) rfl rfl (by omega) (by omega)
      rw [hy1]
      rcases hy2 with ⟨q2, r2, rfl, h1, h2, h3⟩ | ⟨q', rfl, h1, h2, h3⟩
      · exact divLoop_p N hA hn hd hd2 b q2 r2 f (by omega) (by omega) (by rw [hm']; exact h1) (by rw [hm']; exact h2) h3
      · exact ⟨_, rfl, .inr ⟨q', rfl, h1, h2, h3⟩⟩
    · have hb1 : ((((m' : Nat) : Int) % 2) == 1) = true := by
        have : ((m' : Int) % 2) = 1 := by omega
        rw [this]; rfl
      rw [hb1]
      simp only [if_true, Option.bind_some, w1, w2, quo_nat A d hd (by omega), rem_nat A d hd]
      have w4 : IntKind.wrap .i64 (((2 * q : Nat) : Int) + ((A / d : Nat) : Int)) = ((2 * q + A / d : Nat) : Int) := wrap_add_nat (by omega)
      have w5 : IntKind.wrap .i64 (((2 * r : Nat) : Int) + ((A % d : Nat) : Int)) = ((2 * r + A % d : Nat) : Int) := wrap_add_nat (by omega)
      rw [w4, w5]
      obtain ⟨y, hy1, hy2⟩ := fin A (by rw [hbit]; simp [Nat.mul_add, Nat.mul_left_comm]) (2 * q + A / d) (2 * r + A % d) (by
        have : 2 * r + A = (2 * r + A % d) + d * (A / d) := by omega
        rw [this, Nat.add_mul_div_left _ _ hd]; omega) (by
        have : 2 * r + A = (2 * r + A % d) + d * (A / d) := by omega
        rw [this, Nat.add_mul_mod_self_left]) (by omega) (by omega)
      rw [hy1]
      rcases hy2 with ⟨q2, r2, rfl, h1, h2, h3⟩ | ⟨q', rfl, h1, h2, h3⟩
      · exact divLoop_p N hA hn hd hd2 b q2 r2 f (by omega) (by omega) (by rw [hm']; exact h1) (by rw [hm']; exact h2) h3
      · exact ⟨_, rfl, .inr ⟨q', rfl, h1, h2, h3⟩⟩
theorem divide_p {N : Nat} (hN : 5000 ≤ N) {A n d : Nat} (hA : A ≤ 1125899906842624) (hn : n ≤ 1099511627776) (hd : 0 < d) (hd2 : d ≤ 70368744177664) :
    (amount_divide N A n d = some (((A * n / d : Nat) : Int), ((A * n % d : Nat) : Int)) ∧ A * n / d ≤ 2251799813685248) ∨ ∃ q' : Nat, amount_divide N A n d = some ((q' : Int), 0) ∧ 2251799813685248 < q' ∧ q' ≤ A * n / d ∧ q' < 9007199254740992 := by
  have h0 : n / 2 ^ 63 = 0 := Nat.div_eq_of_lt (by omega)
  obtain ⟨x, h1, h2⟩ := divLoop_p N hA hn hd hd2 63 0 0 N (by omega) (by omega) (by rw [h0]; simp) (by rw [h0]; simp) (by omega)
  have h1' : loopN (amount_divide_l1 N (n : Int) (A : Int) (d : Int)) N (0, 0, 62) = some x := h1
  unfold amount_divide
  rw [h1']
  rcases h2 with ⟨rfl, h3⟩ | ⟨q', rfl, h3⟩
  · exact .inl ⟨rfl, h3⟩
  · exact .inr ⟨q', rfl, h3⟩
def rdiv (A n d : Nat) : Nat := if d ≤ 2 * (A * n % d) then A * n / d + 1 else A * n / d
def scaleS (a n d : Int) : Int × Int := bif !valB a || decide (n < 0) || decide (n > 1099511627776) || decide (d < 1) || decide (d > 1099511627776) then (0, 6) else
  if rdiv a.natAbs n.toNat d.toNat ≤ 1125899906842624 then (if a < 0 then -((rdiv a.natAbs n.toNat d.toNat : Nat) : Int) else ((rdiv a.natAbs n.toNat d.toNat : Nat) : Int), 0) else (0, 6)
theorem rdiv_ge {A n d : Nat} : A * n / d ≤ rdiv A n d ∧ rdiv A n d ≤ A * n / d + 1 := by unfold rdiv; split <;> omega
theorem scale_p {N : Nat} (hN : 5000 ≤ N) (a n d : Int) : amount_Scale N a n d = some (scaleS a n d) := by
  unfold amount_Scale scaleS
  rw [valid_p]
  simp only [Option.bind_some]
  cases hc : (!valB a || decide (n < 0) || decide (n > 1099511627776) || decide (d < 1) || decide (d > 1099511627776)) with
  | true => simp
  | false =>
    simp only [Bool.or_eq_false_iff, Bool.not_eq_false', decide_eq_false_iff_not] at hc
    obtain ⟨⟨⟨⟨h1, h2⟩, h3⟩, h4⟩, h5⟩ := hc
    have hv := valB_iff.1 h1
    obtain ⟨n, rfl⟩ : ∃ m : Nat, n = m := ⟨n.toNat, by omega⟩
    obtain ⟨d, rfl⟩ : ∃ m : Nat, d = m := ⟨d.toNat, by omega⟩
    have w0 : IntKind.wrap .i64 (0 - a) = -a := by rw [wrap64 (by omega) (by omega)]; omega
    have ha : (if -a > a then -a else a) = ((a.natAbs : Nat) : Int) := by split <;> omega
    simp only [Bool.false_eq_true, if_false, cond_false, w0, ha, Int.toNat_natCast]
    generalize hA : a.natAbs = A
    have hA2 : A ≤ 1125899906842624 := by omega
    rcases divide_p hN hA2 (n := n) (d := d) (by omega) (by omega) (by omega) with ⟨q1, q2⟩ | ⟨q', q1, q2, q3, q4⟩
    · rw [q1]
      have hlt := Nat.mod_lt (A * n) (show d > 0 by omega)
      generalize hQ : A * n / d = Q at *
      generalize hR : A * n % d = R at *
      have w1 : IntKind.wrap .i64 ((d : Int) - (R : Int)) = (d : Int) - (R : Int) := wrap64 (by omega) (by omega)
      have w2 : IntKind.wrap .i64 ((Q : Int) + 1) = ((Q + 1 : Nat) : Int) := by rw [wrap64 (by omega) (by omega)]; omega
      have e1 : (if decide ((R : Int) ≥ (d : Int) - (R : Int)) = true then some ((Q + 1 : Nat) : Int) else some (Q : Int)) = some ((rdiv A n d : Nat) : Int) := by
        unfold rdiv
        rw [hQ, hR]
        by_cases hc : d ≤ 2 * R
        · rw [if_pos (by simp; omega), if_pos hc]
        · rw [if_neg (by simp; omega), if_neg hc]
      have hrd := rdiv_ge (A := A) (n := n) (d := d)
      rw [hQ] at hrd
      simp only [Option.bind_some, w1, w2, e1]
      generalize rdiv A n d = T at *
      have w3 : IntKind.wrap .i64 (0 - (T : Int)) = -(T : Int) := by rw [wrap64 (by omega) (by omega)]; omega
      rw [w3]
      by_cases hneg : a < 0
      · simp only [hneg, decide_true, if_true, Option.bind_some, checked_p]
        by_cases hT : T ≤ 1125899906842624
        · have : valB (-(T : Int)) = true := valB_iff.2 (by omega)
          simp [chkS, this, hT]
        · have : valB (-(T : Int)) = false := by rw [← Bool.not_eq_true, valB_iff]; omega
          simp [chkS, this, hT]
      · simp only [hneg, decide_false, Bool.false_eq_true, if_false, Option.bind_some, checked_p]
        by_cases hT : T ≤ 1125899906842624
        · have : valB (T : Int) = true := valB_iff.2 (by omega)
          simp [chkS, this, hT]
        · have : valB (T : Int) = false := by rw [← Bool.not_eq_true, valB_iff]; omega
          simp [chkS, this, hT]
    · rw [q1]
      have hrd := rdiv_ge (A := A) (n := n) (d := d)
      have hT : ¬ rdiv A n d ≤ 1125899906842624 := by omega
      have w1 : IntKind.wrap .i64 ((d : Int) - 0) = (d : Int) := by rw [wrap64 (by omega) (by omega)]; omega
      have w3 : IntKind.wrap .i64 (0 - (q' : Int)) = -(q' : Int) := by rw [wrap64 (by omega) (by omega)]; omega
      have hd0 : decide ((0 : Int) ≥ (d : Int)) = false := by simp; omega
      simp only [Option.bind_some, w1, hd0, Bool.false_eq_true, if_false, w3, hT]
      by_cases hneg : a < 0
      · have : valB (-(q' : Int)) = false := by rw [← Bool.not_eq_true, valB_iff]; omega
        simp [hneg, checked_p, chkS, this]
      · have : valB (q' : Int) = false := by rw [← Bool.not_eq_true, valB_iff]; omega
        simp [hneg, checked_p, chkS, this]
def percS (a p : Int) : Int × Int := bif decide (p < 0) || decide (p > 10000) then (0, 6) else scaleS a p 10000
theorem perc_p {N : Nat} (hN : 5000 ≤ N) (a p : Int) : amount_Percent N a p = some (percS a p) := by
  unfold amount_Percent percS
  rw [scale_p hN]
  cases (decide (p < 0) || decide (p > 10000)) <;> rfl
end Gx
namespace Gx
open Go Gd
set_option linter.unusedVariables false
set_option linter.unusedSimpArgs false
theorem sum_set1 : ∀ {p : List Int} {j : Nat}, j < p.length → (p.set j (p.getD j 0 + 1)).sum = p.sum + 1
  | [], j, h => by simp at h
  | x :: p, 0, h => by simp; omega
  | x :: p, j + 1, h => by
    have := sum_set1 (p := p) (j := j) (by simpa using h)
    simp only [List.set_cons_succ, List.sum_cons, List.getD_cons_succ, this]
    omega
theorem giveF_sum : ∀ (n : Nat) (p r : List Int), p.length = r.length → n ≤ cnt r → (giveF n p r).1.sum = p.sum + (n : Int)
  | 0, p, r, _, _ => by simp [giveF]
  | n + 1, p, r, hl, hc => by
    rcases bestS_ok r with ⟨h1, h2⟩ | ⟨j, h1, h2, h3, h4⟩
    · exfalso
      have : 0 < cnt r := by omega
      obtain ⟨x, hx, hp⟩ := List.countP_pos_iff.1 this
      obtain ⟨i, hi, he⟩ := List.getElem_of_mem hx
      have := h2 i hi
      rw [List.getD_eq_getElem?_getD, List.getElem?_eq_getElem hi, he] at this
      simp at hp this
      omega
    · have hc' := cnt_set h2 h3
      simp only [giveF, h1, show ¬ ((j : Int) < 0) by omega, if_false, Int.toNat_natCast]
      rw [giveF_sum n _ _ (by simpa using hl) (by omega), sum_set1 (by omega)]
      push_cast; omega
theorem flo_res : ∀ l : List Int, l.sum = 10000 * (floS l).sum + (resS l).sum
  | [] => rfl
  | x :: l => by
    have := flo_res l
    simp only [floS, resS, List.map_cons, List.sum_cons] at *
    have := Int.mul_ediv_add_emod x 10000
    omega
theorem res_bound : ∀ l : List Int, 0 ≤ (resS l).sum ∧ (resS l).sum ≤ 9999 * (l.length : Int)
  | [] => by simp [resS]
  | x :: l => by
    have := res_bound l
    simp only [resS, List.map_cons, List.sum_cons, List.length_cons] at *
    have h1 := Int.emod_nonneg x (b := 10000) (by omega)
    have h2 := Int.emod_lt_of_pos x (b := 10000) (by omega)
    push_cast; omega
theorem cnt_res (l : List Int) : cnt (resS l) = l.length := by
  unfold cnt
  rw [List.countP_eq_length.2]
  · simp [resS]
  · intro x hx
    simp only [resS, List.mem_map] at hx
    obtain ⟨y, _, rfl⟩ := hx
    have := Int.emod_nonneg y (b := 10000) (by omega)
    simpa using this
theorem round_n {l : List Int} : 0 ≤ rndS l.sum - (floS l).sum ∧ rndS l.sum - (floS l).sum ≤ (l.length : Int) := by
  have h1 := flo_res l
  have h2 := res_bound l
  have h3 := rnd_bound (a := l.sum)
  constructor <;> omega
theorem round_sum {l : List Int} (hl : l.length ≤ 4096) (h : l.all valB = true) : (roundS l).sum = rndS l.sum := by
  unfold roundS
  rw [if_neg (by omega), h]
  simp only [cond_true]
  have := round_n (l := l)
  rw [giveF_sum _ _ _ (by simp [floS, resS]) (by rw [cnt_res]; omega)]
  omega
theorem giveF_len : ∀ (n : Nat) (p r : List Int), (giveF n p r).1.length = p.length
  | 0, _, _ => rfl
  | n + 1, p, r => by
    simp only [giveF]
    split
    · rfl
    · rw [giveF_len n, List.length_set]
def cpos (r : List Int) : Nat := r.countP fun x => decide (0 < x)
theorem cpos_set {r : List Int} {j : Nat} (hj : j < r.length) (h : 0 < r.getD j 0) : cpos (r.set j (-1)) + 1 = cpos r := by
  have hj' : r.getD j 0 = r[j] := by rw [List.getD_eq_getElem?_getD, List.getElem?_eq_getElem hj]; rfl
  rw [hj'] at h
  have hp : 0 < cpos r := List.countP_pos_iff.2 ⟨r[j], List.getElem_mem hj, by simpa using h⟩
  unfold cpos at *
  rw [List.countP_set hj]
  simp [h]
  omega
theorem getD_set_same {p : List Int} {j : Nat} {v : Int} (h : j < p.length) : (p.set j v).getD j 0 = v := by
  rw [List.getD_eq_getElem?_getD, List.getElem?_set_self (by simpa using h)]; rfl
theorem getD_set_ne {p : List Int} {i j : Nat} {v : Int} (h : j ≠ i) : (p.set j v).getD i 0 = p.getD i 0 := by
  rw [List.getD_eq_getElem?_getD, List.getD_eq_getElem?_getD, List.getElem?_set_ne h]
theorem giveF_get : ∀ (n : Nat) (p r : List Int), p.length = r.length → n ≤ cpos r → ∀ i, i < p.length → (giveF n p r).1.getD i 0 = p.getD i 0 ∨ ((giveF n p r).1.getD i 0 = p.getD i 0 + 1 ∧ 0 < r.getD i 0)
  | 0, p, r, _, _, i, _ => .inl rfl
  | n + 1, p, r, hl, hc, i, hi => by
    have hpos : 0 < cpos r := by omega
    obtain ⟨x, hx, hp⟩ := List.countP_pos_iff.1 hpos
    obtain ⟨k, hk, he⟩ := List.getElem_of_mem hx
    have hk' : r.getD k 0 = x := by rw [List.getD_eq_getElem?_getD, List.getElem?_eq_getElem hk, he]; rfl
    have hx0 : 0 < x := by simpa using hp
    rcases bestS_ok r with ⟨h1, h2⟩ | ⟨j, h1, h2, h3, h4⟩
    · have := h2 k hk; omega
    · have hj : 0 < r.getD j 0 := by have := h4 k hk; omega
      have hc' := cpos_set h2 hj
      simp only [giveF, h1, show ¬ ((j : Int) < 0) by omega, if_false, Int.toNat_natCast]
      have ih := giveF_get n (p.set j (p.getD j 0 + 1)) (r.set j (-1)) (by simpa using hl) (by omega) i (by simpa using hi)
      by_cases hij : j = i
      · subst hij
        rw [getD_set_same hi, getD_set_same h2] at ih
        rcases ih with ih | ⟨_, ih⟩
        · exact .inr ⟨ih, hj⟩
        · omega
      · rw [getD_set_ne hij, getD_set_ne hij] at ih
        exact ih
theorem res_pos : ∀ l : List Int, (resS l).sum ≤ 9999 * (cpos (resS l) : Int)
  | [] => by simp [resS, cpos]
  | x :: l => by
    have := res_pos l
    simp only [resS, cpos, List.map_cons, List.sum_cons, List.countP_cons] at *
    have h1 := Int.emod_nonneg x (b := 10000) (by omega)
    have h2 := Int.emod_lt_of_pos x (b := 10000) (by omega)
    by_cases h : 0 < x % 10000
    · simp only [h, decide_true, if_true]; push_cast; omega
    · simp only [h, decide_false, Bool.false_eq_true, if_false]; push_cast; omega
theorem round_len {l : List Int} (hl : l.length ≤ 4096) (h : l.all valB = true) : (roundS l).length = l.length := by
  unfold roundS
  rw [if_neg (by omega), h]
  simp [giveF_len, floS]
theorem round_get {l : List Int} (hl : l.length ≤ 4096) (h : l.all valB = true) {i : Nat} (hi : i < l.length) : -10000 < l.getD i 0 - (roundS l).getD i 0 * 10000 ∧ l.getD i 0 - (roundS l).getD i 0 * 10000 < 10000 := by
  have h1 := flo_res l
  have h2 := res_pos l
  have h3 := rnd_bound (a := l.sum)
  have hn : (rndS l.sum - (floS l).sum).toNat ≤ cpos (resS l) := by omega
  unfold roundS
  rw [if_neg (by omega), h]
  simp only [cond_true]
  have key := giveF_get _ (floS l) (resS l) (by simp [floS, resS]) hn i (by simpa [floS] using hi)
  have ef : (floS l).getD i 0 = l.getD i 0 / 10000 := by simp [floS, List.getD_eq_getElem?_getD, List.getElem?_map, List.getElem?_eq_getElem hi]
  have er : (resS l).getD i 0 = l.getD i 0 % 10000 := by simp [resS, List.getD_eq_getElem?_getD, List.getElem?_map, List.getElem?_eq_getElem hi]
  rw [ef, er] at key
  have e := Int.mul_ediv_add_emod (l.getD i 0) 10000
  have b1 := Int.emod_nonneg (l.getD i 0) (b := 10000) (by omega)
  have b2 := Int.emod_lt_of_pos (l.getD i 0) (b := 10000) (by omega)
  rcases key with k | ⟨k, k2⟩ <;> rw [k] <;> omega
end Gx
namespace Gx
open Go Gd
set_option linter.unusedVariables false
set_option linter.unusedSimpArgs false
abbrev bl (x y : Str) : Bool := Op.bytesLess x y
theorem u8_lt {a b : UInt8} : a < b ↔ a.toNat < b.toNat := UInt8.lt_iff_toNat_lt
theorem u8_eq {a b : UInt8} : a = b ↔ a.toNat = b.toNat := ⟨fun h => h ▸ rfl, fun h => UInt8.toNat_inj.1 h⟩
theorem bl_cons {a b : UInt8} {x y : Str} : bl (a :: x) (b :: y) = true ↔ a.toNat < b.toNat ∨ (a = b ∧ bl x y = true) := by
  simp only [bl, Op.bytesLess, Bool.or_eq_true, decide_eq_true_eq, Bool.and_eq_true, beq_iff_eq, u8_lt]
theorem bl_irrefl : ∀ x : Str, bl x x = false
  | [] => rfl
  | a :: x => by
    rw [← Bool.not_eq_true, bl_cons]
    rintro (h | ⟨_, h⟩)
    · omega
    · rw [bl_irrefl x] at h; cases h
theorem bl_trans : ∀ {x y z : Str}, bl x y = true → bl y z = true → bl x z = true
  | _, [], _, h, _ => by cases ‹Str› <;> simp [bl, Op.bytesLess] at h
  | _, _ :: _, [], _, h => by simp [bl, Op.bytesLess] at h
  | [], _ :: _, _ :: _, _, _ => rfl
  | a :: x, b :: y, c :: z, h, k => by
    rw [bl_cons] at h k ⊢
    rcases h with h | ⟨rfl, h⟩
    · rcases k with k | ⟨rfl, k⟩
      · exact .inl (by omega)
      · exact .inl h
    · rcases k with k | ⟨rfl, k⟩
      · exact .inl k
      · exact .inr ⟨rfl, bl_trans h k⟩
theorem bl_total : ∀ {x y : Str}, bl x y = false → bl y x = false → x = y
  | [], [], _, _ => rfl
  | [], _ :: _, h, _ => by simp [bl, Op.bytesLess] at h
  | _ :: _, [], _, h => by simp [bl, Op.bytesLess] at h
  | a :: x, b :: y, h, k => by
    rw [← Bool.not_eq_true, bl_cons] at h k
    have e : a = b := u8_eq.2 (by
      have h1 : ¬ a.toNat < b.toNat := fun q => h (.inl q)
      have h2 : ¬ b.toNat < a.toNat := fun q => k (.inl q)
      omega)
    subst e
    rw [bl_total (x := x) (y := y) (by rw [← Bool.not_eq_true]; exact fun q => h (.inr ⟨rfl, q⟩)) (by rw [← Bool.not_eq_true]; exact fun q => k (.inr ⟨rfl, q⟩))]
theorem bl_ne {x y : Str} (h : bl x y = true) : x ≠ y := fun e => by subst e; rw [bl_irrefl] at h; cases h
end Gx
namespace Gx
open Go Gd
set_option linter.unusedVariables false
set_option linter.unusedSimpArgs false
theorem sidx_get {s : Str} {i : Nat} {c : UInt8} (h : s[i]? = some c) : sidx s (i : Int) = some (c.toNat : Int) := by simp [sidx, idx_nat h]
def okc (c : UInt8) : Bool := !(((decide ((c.toNat : Int) < 97) || decide ((c.toNat : Int) > 122)) && (decide ((c.toNat : Int) < 48) || decide ((c.toNat : Int) > 57))) && ((c.toNat : Int) != 45))
theorem nameLoop_p {N : Nat} (hN : 5000 ≤ N) {s : Str} (hs : s.length ≤ 24) : ∀ k i, i + k = s.length → ∀ fuel, k < fuel → loopN (tax_name_l1 N s) fuel (i : Int) = some (bif (s.drop i).all okc then .inl () else .inr false)
  | 0, i, hi, fuel, hf => by
    obtain ⟨m, rfl⟩ : ∃ m, fuel = m + 1 := ⟨fuel - 1, by omega⟩
    have : i = s.length := by omega
    subst this
    simp [loopN, tax_name_l1]
  | k + 1, i, hi, fuel, hf => by
    obtain ⟨m, rfl⟩ : ∃ m, fuel = m + 1 := ⟨fuel - 1, by omega⟩
    have hlt : i < s.length := by omega
    have hd := List.drop_eq_getElem_cons hlt
    have hw : IntKind.wrap .i64 ((i : Int) + 1) = ((i + 1 : Nat) : Int) := wrap_succ (by rw [maxLen_val]; omega)
    have ih := nameLoop_p hN hs k (i + 1) (by omega) m (by omega)
    rw [hd]
    simp only [loopN, tax_name_l1, show decide ((i : Int) < (s.length : Int)) = true by simpa using hlt, if_true, sidx_get (List.getElem?_eq_getElem hlt), Option.bind_some, hw, List.all_cons]
    have e : (((decide ((s[i].toNat : Int) < 97) || decide ((s[i].toNat : Int) > 122)) && (decide ((s[i].toNat : Int) < 48) || decide ((s[i].toNat : Int) > 57))) && ((s[i].toNat : Int) != 45)) = !okc s[i] := (Bool.not_not _).symm
    rw [e]
    cases hc : okc s[i] with
    | true => simpa using ih
    | false => rfl
theorem nameLoop_r {N : Nat} (hN : 5000 ≤ N) {s : Str} (hs : s.length ≤ 24) : ∀ k i, i + k = s.length → ∀ fuel, k < fuel → loopN (billingref17_Name_l1 N s) fuel (i : Int) = some (bif (s.drop i).all okc then .inl () else .inr false)
  | 0, i, hi, fuel, hf => by
    obtain ⟨m, rfl⟩ : ∃ m, fuel = m + 1 := ⟨fuel - 1, by omega⟩
    have : i = s.length := by omega
    subst this
    simp [loopN, billingref17_Name_l1]
  | k + 1, i, hi, fuel, hf => by
    obtain ⟨m, rfl⟩ : ∃ m, fuel = m + 1 := ⟨fuel - 1, by omega⟩
    have hlt : i < s.length := by omega
    have hd := List.drop_eq_getElem_cons hlt
    have hw : IntKind.wrap .i64 ((i : Int) + 1) = ((i + 1 : Nat) : Int) := wrap_succ (by rw [maxLen_val]; omega)
    have ih := nameLoop_r hN hs k (i + 1) (by omega) m (by omega)
    rw [hd]
    simp only [loopN, billingref17_Name_l1, show decide ((i : Int) < (s.length : Int)) = true by simpa using hlt, if_true, sidx_get (List.getElem?_eq_getElem hlt), Option.bind_some, hw, List.all_cons]
    have e : (((decide ((s[i].toNat : Int) < 97) || decide ((s[i].toNat : Int) > 122)) && (decide ((s[i].toNat : Int) < 48) || decide ((s[i].toNat : Int) > 57))) && ((s[i].toNat : Int) != 45)) = !okc s[i] := (Bool.not_not _).symm
    generalize decide ((s[i].toNat : Int) < 97) = b1 at *
    generalize decide ((s[i].toNat : Int) > 122) = b2 at *
    generalize decide ((s[i].toNat : Int) < 48) = b3 at *
    generalize decide ((s[i].toNat : Int) > 57) = b4 at *
    generalize ((s[i].toNat : Int) != 45) = b5 at *
    cases hc : okc s[i] <;> rw [hc] at e <;> cases b1 <;> cases b2 <;> cases b3 <;> cases b4 <;> cases b5 <;> first | (exact absurd e (by decide)) | rfl | (simp; exact ih)
def nameS (s : Str) : Bool := decide (1 ≤ s.length) && decide (s.length ≤ 24) && (match s with
  | c :: _ => decide (97 ≤ c.toNat) && decide (c.toNat ≤ 122)
  | [] => false) && s.all okc
theorem okc_letter {c : UInt8} (h1 : 97 ≤ c.toNat) (h2 : c.toNat ≤ 122) : okc c = true := by
  have a1 : decide ((c.toNat : Int) < 97) = false := decide_eq_false (by omega)
  have a2 : decide ((c.toNat : Int) > 122) = false := decide_eq_false (by omega)
  unfold okc
  rw [a1, a2]; rfl
theorem name_p {N : Nat} (hN : 5000 ≤ N) (s : Str) : tax_name N s = some (nameS s) := by
  unfold tax_name
  cases s with
  | nil => rfl
  | cons c s =>
    have e0 : ((c :: s) == ([] : Str)) = false := rfl
    have i0 : sidx (c :: s) 0 = some (c.toNat : Int) := rfl
    simp only [e0, Bool.false_or, i0, Option.bind_some]
    by_cases hl : (c :: s).length ≤ 24
    · have d1 : decide (((c :: s).length : Int) > 24) = false := decide_eq_false (by omega)
      have d2 : decide (1 ≤ (c :: s).length) = true := decide_eq_true (by simp)
      rw [d1]
      have hloop : loopN (tax_name_l1 N (c :: s)) N 1 = some (bif s.all okc then .inl () else .inr false) := nameLoop_p hN hl s.length 1 (by simp; omega) N (by simp at hl; omega)
      rw [hloop]
      simp only [nameS, d2, decide_eq_true hl, Bool.true_and, List.all_cons]
      by_cases h1 : 97 ≤ c.toNat
      · by_cases h2 : c.toNat ≤ 122
        · have a1 : decide ((c.toNat : Int) < 97) = false := decide_eq_false (by omega)
          have a2 : decide ((c.toNat : Int) > 122) = false := decide_eq_false (by omega)
          rw [a1, a2, decide_eq_true h1, decide_eq_true h2, okc_letter h1 h2]
          cases s.all okc <;> rfl
        · have a1 : decide ((c.toNat : Int) < 97) = false := decide_eq_false (by omega)
          have a2 : decide ((c.toNat : Int) > 122) = true := decide_eq_true (by omega)
          rw [a1, a2, decide_eq_true h1, decide_eq_false h2]
          simp
      · have a1 : decide ((c.toNat : Int) < 97) = true := decide_eq_true (by omega)
        rw [a1, decide_eq_false h1]
        simp
    · have d1 : decide (((c :: s).length : Int) > 24) = true := decide_eq_true (by omega)
      rw [d1]
      simp only [nameS, decide_eq_false hl]
      simp
theorem name_r {N : Nat} (hN : 5000 ≤ N) (s : Str) : billingref17_Name N s = some (nameS s) := by
  unfold billingref17_Name
  cases s with
  | nil => rfl
  | cons c s =>
    have e0 : decide (((c :: s).length : Int) < 1) = false := decide_eq_false (by simp; omega)
    have i0 : sidx (c :: s) 0 = some (c.toNat : Int) := rfl
    simp only [e0, Bool.false_or, i0, Option.bind_some]
    by_cases hl : (c :: s).length ≤ 24
    · have d1 : decide (((c :: s).length : Int) > 24) = false := decide_eq_false (by omega)
      have d2 : decide (1 ≤ (c :: s).length) = true := decide_eq_true (by simp)
      rw [d1]
      have hloop : loopN (billingref17_Name_l1 N (c :: s)) N 0 = some (bif (c :: s).all okc then .inl () else .inr false) := nameLoop_r hN hl (s.length + 1) 0 (by simp) N (by simp at hl; omega)
      rw [hloop]
      simp only [nameS, d2, decide_eq_true hl, Bool.true_and]
      by_cases h1 : 97 ≤ c.toNat
      · by_cases h2 : c.toNat ≤ 122
        · have a1 : decide ((c.toNat : Int) < 97) = false := decide_eq_false (by omega)
          have a2 : decide ((c.toNat : Int) > 122) = false := decide_eq_false (by omega)
          rw [a1, a2, decide_eq_true h1, decide_eq_true h2]
          cases (c :: s).all okc <;> rfl
        · have a1 : decide ((c.toNat : Int) < 97) = false := decide_eq_false (by omega)
          have a2 : decide ((c.toNat : Int) > 122) = true := decide_eq_true (by omega)
          rw [a1, a2, decide_eq_true h1, decide_eq_false h2]
          simp
      · have a1 : decide ((c.toNat : Int) < 97) = true := decide_eq_true (by omega)
        rw [a1, decide_eq_false h1]
        simp
    · have d1 : decide (((c :: s).length : Int) > 24) = true := decide_eq_true (by omega)
      rw [d1]
      simp only [nameS, decide_eq_false hl]
      simp
theorem check_l1_eq {N : Nat} (hN : 5000 ≤ N) (l : List ApiTax) : ∀ v, tax_Check_l1 N l v = billingref45_Check_l1 N l v := by
  intro v
  simp only [tax_Check_l1, billingref45_Check_l1, name_p hN, name_r hN, billingref45_before]
  split
  · cases idx l v with
    | none => rfl
    | some x =>
      simp only [Option.bind_some]
      split
      · rfl
      · split
        · rfl
        · split
          · rfl
          · split
            · cases idx l (IntKind.wrap .i64 (v - 1)) with
              | none => rfl
              | some y =>
                simp only [Option.bind_some]
                have hge : decide (y.From ≥ x.From) = !decide (y.From < x.From) := by
                  by_cases h : y.From < x.From
                  · rw [decide_eq_true h, decide_eq_false (by omega)]; rfl
                  · rw [decide_eq_false h, decide_eq_true (by omega)]; rfl
                rw [hge]
                cases hb : Op.bytesLess y.Category x.Category with
                | true =>
                  have hne : (y.Category == x.Category) = false := by
                    rw [← Bool.not_eq_true]
                    intro h
                    have := eq_of_beq h
                    exact bl_ne hb this
                  simp [hne]
                | false =>
                  cases (y.Category == x.Category) <;> cases decide (y.From < x.From) <;> rfl
            · rfl
  · rfl
theorem check_ok {N : Nat} (hN : 5000 ≤ N) {l : List ApiTax} (hl : l.length ≤ 4096) : ∃ r, billingref45_Check N l = some r := by
  unfold billingref45_Check
  rw [if_neg (by simp; omega)]
  obtain ⟨x, h1, _⟩ := loopN_inv (f := billingref45_Check_l1 N l) (n := N) (s := (0 : Int)) l.length (fun i s => s = (i : Int)) (fun _ => True) (fun i s hi hs => by
    subst hs
    rcases Nat.lt_or_ge i l.length with hlt | hge
    · simp only [billingref45_Check_l1, show decide ((i : Int) < (l.length : Int)) = true by simpa using hlt, if_true, idx_get hlt, Option.bind_some, name_r hN, wrap_succ (show i < maxLen by rw [maxLen_val]; omega)]
      split
      · exact .inr ⟨_, rfl, trivial⟩
      · split
        · exact .inr ⟨_, rfl, trivial⟩
        · split
          · exact .inr ⟨_, rfl, trivial⟩
          · have key : ∃ b : Bool, (if decide ((i : Int) > 0) = true then (idx l (IntKind.wrap .i64 ((i : Int) - 1))).bind fun x4 => (billingref45_before N x4 l[i]).bind fun r5 => some (!r5) else some false) = some b := by
              by_cases h0 : (i : Int) > 0
              · rw [if_pos (by simpa using h0), wrap64 (by omega) (by omega), show (i : Int) - 1 = ((i - 1 : Nat) : Int) by omega, idx_get (show i - 1 < l.length by omega)]
                exact ⟨_, rfl⟩
              · exact ⟨false, if_neg (by simpa using h0)⟩
            obtain ⟨b, hb⟩ := key
            rw [hb]
            cases b with
            | true => exact .inr ⟨_, rfl, trivial⟩
            | false => exact .inl ⟨_, hlt, rfl, rfl⟩
    · have : i = l.length := by omega
      subst this
      exact .inr ⟨.inl (), by simp [billingref45_Check_l1], trivial⟩) (by omega) rfl
  rw [h1]
  cases x <;> exact ⟨_, rfl⟩
theorem check_eq {N : Nat} (hN : 5000 ≤ N) (l : List ApiTax) : tax_Check N l = billingref45_Check N l := by
  unfold tax_Check billingref45_Check
  rw [loopN_congr (check_l1_eq hN l)]
end Gx
namespace Gx
open Go Gd
set_option linter.unusedVariables false
set_option linter.unusedSimpArgs false
def ptsStep (c : Str) (t : Int) (n : Int) (x : ApiTax) : Int := if (x.Category == c && decide (x.From ≤ t)) = true then x.Points else n
def ptsS (l : List ApiTax) (c : Str) (t : Int) : Int := l.foldl (ptsStep c t) 0
theorem points_p {N : Nat} {l : List ApiTax} (hl : l.length ≤ 4096) (hN : 5000 ≤ N) (c : Str) (t : Int) : tax_Points N l c t = some (ptsS l c t) := by
  unfold tax_Points
  have key := loop_list (n := N) (s := (0 : Int)) l (by rw [maxLen_val]; omega) (f := tax_Points_l1 N l c t) (fun s i => (s, i)) (fun i s => True) (fun s xs => xs.foldl (ptsStep c t) s)
    (fun s hI h => by simp [tax_Points_l1]) (fun s i x xs hx hlt hidx hw hd hI => .inl ⟨ptsStep c t s x, by
      simp only [tax_Points_l1, hlt, if_true, hidx, Option.bind_some, hw, ptsStep]
      split <;> rfl, trivial, rfl⟩) (by omega) trivial
  rw [key]
  rfl
end Gx
namespace Gx
open Go Gd
set_option linter.unusedVariables false
set_option linter.unusedSimpArgs false
def insAt (l : List Str) (c : Str) : Nat := (l.takeWhile fun x => bl x c).length
def insS (l : List Str) (c : Str) : List Str := l.take (insAt l c) ++ c :: l.drop (insAt l c)
def catStep (acc : List Str) (x : ApiLine) : List Str := if acc.contains x.Category then acc else insS acc x.Category
def catsS (l : List ApiLine) : List Str := l.foldl catStep []
def amtsS (l : List ApiLine) (c : Str) : List Int := (l.filter fun x => x.Category == c).map fun x => x.Amount
theorem insAt_le (l : List Str) (c : Str) : insAt l c ≤ l.length := (List.takeWhile_sublist _).length_le
theorem insS_len (l : List Str) (c : Str) : (insS l c).length = l.length + 1 := by
  have := insAt_le l c
  simp [insS]; omega
theorem mem_insS {l : List Str} {c x : Str} : x ∈ insS l c ↔ x = c ∨ x ∈ l := by
  unfold insS
  simp only [List.mem_append, List.mem_cons]
  constructor
  · rintro (h | rfl | h)
    · exact .inr (List.mem_of_mem_take h)
    · exact .inl rfl
    · exact .inr (List.mem_of_mem_drop h)
  · rintro (rfl | h)
    · exact .inr (.inl rfl)
    · rw [← List.take_append_drop (insAt l c) l] at h
      rcases List.mem_append.1 h with h | h
      · exact .inl h
      · exact .inr (.inr h)
theorem takeWhile_take {α : Type} (p : α → Bool) : ∀ l : List α, l.take (l.takeWhile p).length = l.takeWhile p
  | [] => rfl
  | x :: l => by
    simp only [List.takeWhile_cons]
    cases p x with
    | true => simp [takeWhile_take p l]
    | false => simp
theorem insAt_get {l : List Str} {c : Str} {i : Nat} (h : i < insAt l c) : ∃ x, l[i]? = some x ∧ bl x c = true := by
  have h1 : (l.takeWhile fun x => bl x c)[i]? = some ((l.takeWhile fun x => bl x c)[i]'h) := List.getElem?_eq_getElem h
  refine ⟨(l.takeWhile fun x => bl x c)[i]'h, ?_, ?_⟩
  · have h2 : (l.take (insAt l c))[i]? = (l.takeWhile fun x => bl x c)[i]? := by rw [show l.take (insAt l c) = l.takeWhile fun x => bl x c from takeWhile_take _ l]
    rw [List.getElem?_take, if_pos h] at h2
    rw [h2]; exact h1
  · have := List.all_takeWhile (p := fun x => bl x c) (l := l)
    exact List.all_eq_true.1 this _ (List.getElem_mem h)
theorem insAt_end {l : List Str} {c : Str} {x : Str} (h : l[insAt l c]? = some x) : bl x c = false := by
  induction l with
  | nil => simp at h
  | cons y l ih =>
    unfold insAt at h ih
    simp only [List.takeWhile_cons] at h
    cases hy : bl y c with
    | true =>
      simp only [hy, if_true, List.length_cons, List.getElem?_cons_succ] at h
      exact ih h
    | false =>
      simp only [hy] at h
      simp at h
      subst h; exact hy
theorem insLoop {N : Nat} {f : Int → Option (Int ⊕ Int)} {l : List Str} {c : Str} (hl : l.length ≤ 4096)
    (hf : ∀ i : Nat, f (i : Int) = match l[i]? with
      | some x => if bl x c = true then some (.inl (IntKind.wrap .i64 ((i : Int) + 1))) else some (.inr (i : Int))
      | none => some (.inr (i : Int))) (hN : 5000 ≤ N) : loopN f N 0 = some ((insAt l c : Nat) : Int) := by
  obtain ⟨r, h1, h2⟩ := loopN_inv (f := f) (n := N) (s := (0 : Int)) (insAt l c) (fun i s => s = (i : Int)) (fun r => r = ((insAt l c : Nat) : Int)) (fun i s hi hs => by
    subst hs
    rw [hf]
    have hle := insAt_le l c
    rcases Nat.lt_or_ge i (insAt l c) with hlt | hge
    · obtain ⟨x, hx, hb⟩ := insAt_get hlt
      rw [hx]
      simp only [hb, if_true]
      exact .inl ⟨_, hlt, rfl, wrap_succ (by rw [maxLen_val]; omega)⟩
    · have : i = insAt l c := by omega
      subst this
      cases hx : l[insAt l c]? with
      | none => exact .inr ⟨_, rfl, rfl⟩
      | some x =>
        simp only [insAt_end hx]
        exact .inr ⟨_, by simp, rfl⟩) (by have := insAt_le l c; omega) rfl
  rw [h1, h2]
theorem insLoop_p {N : Nat} {l : List Str} {x : ApiLine} (hl : l.length ≤ 4096) (hN : 5000 ≤ N) : loopN (tax_categories_l4 N l x) N 0 = some ((insAt l x.Category : Nat) : Int) := by
  refine insLoop hl (fun i => ?_) hN
  simp only [tax_categories_l4]
  rcases Nat.lt_or_ge i l.length with hlt | hge
  · rw [decide_eq_true (show (i : Int) < (l.length : Int) by omega), List.getElem?_eq_getElem hlt, idx_get hlt]
    simp only [if_true, Option.bind_some]
  · rw [decide_eq_false (show ¬ (i : Int) < (l.length : Int) by omega), List.getElem?_eq_none hge]
    rfl
theorem slc_front {α : Type} {l : List α} {k : Nat} (h : k ≤ l.length) : slc l 0 (k : Int) = some (l.take k) := by
  unfold slc
  rw [if_pos ⟨by omega, by omega, by omega⟩]
  simp
theorem slc_back {α : Type} {l : List α} {k : Nat} (h : k ≤ l.length) : slc l (k : Int) (l.length : Int) = some (l.drop k) := by
  unfold slc
  rw [if_pos ⟨by omega, by omega, by omega⟩]
  simp only [Int.toNat_natCast]
  rw [List.take_of_length_le (by simp)]
theorem catStep_len (acc : List Str) (x : ApiLine) : (catStep acc x).length ≤ acc.length + 1 := by
  unfold catStep
  split
  · omega
  · rw [insS_len]; omega
theorem catsS_len : ∀ (l : List ApiLine) (acc : List Str), (l.foldl catStep acc).length ≤ acc.length + l.length
  | [], acc => by simp
  | x :: l, acc => by
    have h1 := catsS_len l (catStep acc x)
    have h2 := catStep_len acc x
    simp only [List.foldl_cons, List.length_cons]; omega
theorem amts_snoc (l : List ApiLine) (x : ApiLine) (c : Str) : amtsS (l ++ [x]) c = amtsS l c ++ if x.Category == c then [x.Amount] else [] := by
  unfold amtsS
  rw [List.filter_append, List.map_append]
  congr 1
  simp only [List.filter_cons, List.filter_nil]
  split <;> rfl
theorem amts_len (l : List ApiLine) (c : Str) : (amtsS l c).length ≤ l.length := by
  unfold amtsS; rw [List.length_map]; exact List.length_filter_le _ _
def mapOk (l : List ApiLine) (m : List (Str × List Int)) : Prop := ∀ c, findL (k := .str) c m = if amtsS l c = [] then none else some (amtsS l c)
theorem find_put (c d : Str) (v : List Int) : ∀ m : List (Str × List Int), findL (k := .str) c (putL (k := .str) d v m) = if c = d then some v else findL (k := .str) c m
  | [] => by
    simp only [putL, findL, eqK]
    by_cases h : c = d
    · simp [h]
    · rw [show (c == d) = false by simpa using h]; simp [h]
  | x :: m => by
    have ih := find_put c d v m
    simp only [putL]
    cases he : eqK .str d x.1 with
    | true =>
      have hd : d = x.1 := by simpa [eqK] using he
      simp only [cond_true, findL, eqK]
      by_cases h : c = d
      · simp [h]
      · have : ¬ c = x.1 := fun e => h (e.trans hd.symm)
        rw [show (c == d) = false by simpa using h, show (c == x.1) = false by simpa using this]
        simp [h]
    | false =>
      have hd : ¬ d = x.1 := by simpa [eqK] using he
      simp only [cond_false, findL, ih]
      by_cases h : c = d
      · subst h
        simp only [eqK]
        rw [show (c == x.1) = false by simpa using hd]
        simp
      · simp [h]
theorem cats_p {N : Nat} {l : List ApiLine} (hl : l.length ≤ 4096) (hN : 5000 ≤ N) : ∃ m, tax_categories N l = some (catsS l, m) ∧ mapOk l m := by
  unfold tax_categories
  obtain ⟨r, h1, h2⟩ := loopN_inv (f := tax_categories_l5 N l) (n := N) (s := ((0 : Int), ([] : List (Str × List Int)), ([] : List Str))) l.length
    (fun i s => ∃ m, s = ((i : Int), m, catsS (l.take i)) ∧ mapOk (l.take i) m ∧ ∀ c, (catsS (l.take i)).contains c = !(amtsS (l.take i) c).isEmpty) (fun r => ∃ m, r = (m, catsS l) ∧ mapOk l m) (fun i s hi hs => by
      obtain ⟨m, rfl, hm, hc⟩ := hs
      rcases Nat.lt_or_ge i l.length with hlt | hge
      · have hx : l[i]? = some l[i] := List.getElem?_eq_getElem hlt
        generalize hxx : l[i] = x at hx
        have ht := take_snoc hx
        have hcl : (catsS (l.take i)).length ≤ i := by
          have := catsS_len (l.take i) []
          simp at this
          unfold catsS; omega
        have hw : IntKind.wrap .i64 ((i : Int) + 1) = ((i + 1 : Nat) : Int) := wrap_succ (by rw [maxLen_val]; omega)
        have hcs : catsS (l.take (i + 1)) = catStep (catsS (l.take i)) x := by rw [ht]; simp [catsS, List.foldl_append]
        have hsome : (findL (k := .str) x.Category m).isSome = (catsS (l.take i)).contains x.Category := by
          rw [hm, hc]
          cases hA : amtsS (l.take i) x.Category <;> simp
        have happ : app 8 (optL (fun (y : List Int) => (y : List Int)) (findL (k := .str) x.Category m)) [x.Amount] = some (amtsS (l.take i) x.Category ++ [x.Amount]) := by
          have : optL (fun (y : List Int) => (y : List Int)) (findL (k := .str) x.Category m) = amtsS (l.take i) x.Category := by
            rw [hm]
            by_cases hA : amtsS (l.take i) x.Category = []
            · rw [if_pos hA, hA]; rfl
            · rw [if_neg hA]; rfl
          rw [this]
          have := amts_len (l.take i) x.Category
          exact app_of (by simp at this ⊢; omega)
        refine .inl ⟨((i + 1 : Nat) , putL (k := .str) x.Category (amtsS (l.take i) x.Category ++ [x.Amount]) m, catsS (l.take (i + 1))), hlt, ?_, _, rfl, ?_, ?_⟩
        · simp only [tax_categories_l5, decide_eq_true (show (i : Int) < (l.length : Int) by omega), if_true, idx_nat hx, Option.bind_some, hsome, hw]
          have hk := insAt_le (catsS (l.take i)) x.Category
          have hchk : chk (eqK .str x.Category x.Category) = some () := by simp [chk, eqK]
          cases hcon : (catsS (l.take i)).contains x.Category with
          | true =>
            simp only [Bool.not_true, Bool.false_eq_true, if_false, Option.bind_some, hchk, happ]
            rw [hcs, catStep, hcon]; rfl
          | false =>
            simp only [Bool.not_false, if_true]
            rw [insLoop_p (by omega) hN]
            simp only [Option.bind_some]
            rw [slc_front hk]
            simp only [Option.bind_some]
            rw [app_of (by simp; omega)]
            simp only [Option.bind_some]
            rw [app_of (by simp; omega)]
            simp only [Option.bind_some]
            rw [slc_back hk]
            simp only [Option.bind_some]
            rw [app_of (by simp; omega)]
            simp only [Option.bind_some, hchk, happ]
            rw [hcs, catStep, hcon]
            simp [insS]
        · intro c
          rw [find_put, ht, amts_snoc]
          by_cases hcx : c = x.Category
          · subst hcx; simp
          · have : (x.Category == c) = false := by simp; exact fun e => hcx e.symm
            rw [if_neg hcx, hm, this]; simp
        · intro c
          rw [hcs, ht, amts_snoc]
          have h3 : (catStep (catsS (l.take i)) x).contains c = ((c == x.Category) || (catsS (l.take i)).contains c) := by
            unfold catStep
            split
            · rename_i hcon
              by_cases hcx : c = x.Category
              · subst hcx; simp only [hcon]; simp
              · simp [hcx]
            · rw [Bool.eq_iff_iff]
              simp [mem_insS]
          rw [h3, hc]
          by_cases hcx : c = x.Category
          · subst hcx; simp
          · have h4 : (x.Category == c) = false := by simp; exact fun e => hcx e.symm
            simp [hcx, h4]
      · have : i = l.length := by omega
        subst this
        rw [List.take_length] at hm
        exact .inr ⟨(m, catsS l), by simp [tax_categories_l5], m, rfl, hm⟩) (by omega) ⟨[], by simp [catsS], by intro c; simp [findL, amtsS], by intro c; simp [catsS, amtsS]⟩
  obtain ⟨m, rfl, hm⟩ := h2
  have h1' : loopN (tax_categories_l5 N l) N (0, ([] : List (Str × List Int)), ([] : List Str)) = some (m, catsS l) := h1
  rw [h1']
  exact ⟨m, rfl, hm⟩
def lineStep (taxes : List ApiTax) (lines : List ApiLine) (t : Int) (c : Str) : Option (ApiTaxLine × Int) ⊕ Int :=
  if (sumS (amtsS lines c)).2 != 0 then .inr (sumS (amtsS lines c)).2 else
  if ptsS taxes c t == 0 then .inl none else
  if (percS (sumS (amtsS lines c)).1 (ptsS taxes c t)).2 != 0 then .inr (percS (sumS (amtsS lines c)).1 (ptsS taxes c t)).2 else
  .inl (some ((c, ptsS taxes c t, (sumS (amtsS lines c)).1, 0), (percS (sumS (amtsS lines c)).1 (ptsS taxes c t)).1))
def linesGo (taxes : List ApiTax) (lines : List ApiLine) (t : Int) : List ApiTaxLine × List Int → List Str → (List ApiTaxLine × List Int) ⊕ Int
  | s, [] => .inl s
  | s, c :: cs => match lineStep taxes lines t c with
    | .inr e => .inr e
    | .inl none => linesGo taxes lines t s cs
    | .inl (some q) => linesGo taxes lines t (s.1 ++ [q.1], s.2 ++ [q.2]) cs
def putR (x : ApiTaxLine) (r : Int) : ApiTaxLine := (x.1, x.2.1, x.2.2.1, r)
def finS (out : List ApiTaxLine) (rs : List Int) : List ApiTaxLine := List.zipWith putR out rs
def taxLinesS (taxes : List ApiTax) (lines : List ApiLine) (t : Int) : Int × List ApiTaxLine := if (lines.length : Int) > 4096 then (5, []) else match linesGo taxes lines t ([], []) (catsS lines) with
  | .inl q => (0, finS q.1 (roundS q.2))
  | .inr e => (e, [])
theorem perc_valid {a p : Int} (h : (percS a p).2 = 0) : valB (percS a p).1 = true := by
  unfold percS at *
  cases hc : (decide (p < 0) || decide (p > 10000)) with
  | true => rw [hc] at h; cases h
  | false =>
    rw [hc] at h
    simp only [cond_false] at h ⊢
    unfold scaleS at *
    cases hc2 : (!valB a || decide (p < 0) || decide (p > 1099511627776) || decide ((10000 : Int) < 1) || decide ((10000 : Int) > 1099511627776)) with
    | true => rw [hc2] at h; cases h
    | false =>
      rw [hc2] at h
      simp only [cond_false] at h ⊢
      split at h
      · rename_i hT
        rw [if_pos hT]
        refine valB_iff.2 ?_
        dsimp only
        split <;> omega
      · cases h
theorem line_valid {taxes : List ApiTax} {lines : List ApiLine} {t : Int} {c : Str} {q : ApiTaxLine × Int} (h : lineStep taxes lines t c = .inl (some q)) :
    q.1 = (c, ptsS taxes c t, (sumS (amtsS lines c)).1, 0) ∧ q.2 = (percS (sumS (amtsS lines c)).1 (ptsS taxes c t)).1 ∧ (sumS (amtsS lines c)).2 = 0 ∧ ptsS taxes c t ≠ 0 ∧ (percS (sumS (amtsS lines c)).1 (ptsS taxes c t)).2 = 0 := by
  unfold lineStep at h
  split at h
  · cases h
  · rename_i h1
    split at h
    · cases h
    · rename_i h2
      split at h
      · cases h
      · rename_i h3
        injection h with h
        injection h with h
        subst h
        exact ⟨rfl, rfl, by simpa using h1, by simpa using h2, by simpa using h3⟩
def goOk (s : List ApiTaxLine × List Int) (n : Nat) : Prop := s.1.length = s.2.length ∧ s.2.all valB = true ∧ s.1.length ≤ n
theorem go_len {taxes : List ApiTax} {lines : List ApiLine} {t : Int} : ∀ {cs : List Str} {s q : List ApiTaxLine × List Int} {n : Nat}, goOk s n → linesGo taxes lines t s cs = .inl q → goOk q (n + cs.length)
  | [], s, q, n, h, hq => by simp [linesGo] at hq; subst hq; exact h
  | c :: cs, s, q, n, h, hq => by
    simp only [linesGo] at hq
    split at hq
    · cases hq
    · have := go_len (n := n) h hq
      exact ⟨this.1, this.2.1, by have := this.2.2; simp only [List.length_cons]; omega⟩
    · rename_i x hx
      obtain ⟨h1, h2, h3, h4, h5⟩ := line_valid hx
      have := go_len (s := (s.1 ++ [x.1], s.2 ++ [x.2])) (n := n + 1) ⟨by simp [h.1], by rw [List.all_append, h.2.1, h2]; simp [perc_valid h5], by simp; exact h.2.2⟩ hq
      exact ⟨this.1, this.2.1, by have := this.2.2; simp only [List.length_cons]; omega⟩
theorem linesLoop {N : Nat} {f : Int × List ApiTaxLine × List Int → Option ((Int × List ApiTaxLine × List Int) ⊕ ((List ApiTaxLine × List Int) ⊕ Int))} {taxes : List ApiTax} {lines : List ApiLine} {t : Int} {cs : List Str} (hcs : cs.length ≤ 4096)
    (hend : ∀ s : List ApiTaxLine × List Int, f ((cs.length : Int), s.1, s.2) = some (.inr (.inl s)))
    (hf : ∀ (i : Nat) (c : Str) (s : List ApiTaxLine × List Int), cs[i]? = some c → goOk s i → f ((i : Int), s.1, s.2) = some (match lineStep taxes lines t c with
      | .inr e => .inr (.inr e)
      | .inl none => .inl (((i + 1 : Nat) : Int), s.1, s.2)
      | .inl (some q) => .inl (((i + 1 : Nat) : Int), s.1 ++ [q.1], s.2 ++ [q.2]))) (hN : 5000 ≤ N) :
    loopN f N (0, [], []) = some (linesGo taxes lines t ([], []) cs) := by
  refine loop_list (n := N) (s := (([] : List ApiTaxLine), ([] : List Int))) cs (by rw [maxLen_val]; omega) (f := f) (fun s i => (i, s.1, s.2)) (fun i s => goOk s i) (fun s xs => linesGo taxes lines t s xs)
    (fun s hI h => hend s) (fun s i x xs hx hlt hidx hw hd hI => ?_) (by omega) ⟨rfl, rfl, Nat.le_refl _⟩
  rw [hf i x s hx hI]
  simp only [linesGo]
  cases hl : lineStep taxes lines t x with
  | inr e => exact .inr rfl
  | inl o =>
    cases o with
    | none => exact .inl ⟨s, rfl, ⟨hI.1, hI.2.1, by have := hI.2.2; omega⟩, rfl⟩
    | some q =>
      obtain ⟨h1, h2, h3, h4, h5⟩ := line_valid hl
      exact .inl ⟨(s.1 ++ [q.1], s.2 ++ [q.2]), rfl, ⟨by simp [hI.1], by rw [List.all_append, hI.2.1, h2]; simp [perc_valid h5], by have := hI.2.2; simp; exact this⟩, rfl⟩
theorem finLoop {N : Nat} {f : Int × List ApiTaxLine → Option ((Int × List ApiTaxLine) ⊕ List ApiTaxLine)} {rs : List Int} (hr : rs.length ≤ 4096)
    (hf0 : ∀ o : List ApiTaxLine, o.length = rs.length → f ((rs.length : Int), o) = some (.inr o))
    (hf : ∀ (i : Nat) (o : List ApiTaxLine), o.length = rs.length → i < rs.length → f ((i : Int), o) = (idx rs (i : Int)).bind fun x => (idx o (i : Int)).bind fun y => some (.inl (((i + 1 : Nat) : Int), o.set i (putR y x))))
    (hN : 5000 ≤ N) {out : List ApiTaxLine} (ho : out.length = rs.length) : loopN f N (0, out) = some (finS out rs) := by
  have key := loop_list (n := N) (s := out) rs (by rw [maxLen_val]; omega) (f := f) (fun s i => (i, s)) (fun i s => s = finS (out.take i) (rs.take i) ++ out.drop i) (fun s xs => finS out rs)
    (fun s hI h => by
      subst hI
      rw [List.take_length, ← ho, List.take_length, List.drop_length, List.append_nil, ho]
      exact hf0 _ (by simp [finS, ho])) (fun s i x xs hx hlt hidx hw hd hI => by
      have hi := (List.getElem?_eq_some_iff.1 hx).1
      have hlen : s.length = rs.length := by rw [hI]; simp [finS]; omega
      refine .inl ⟨finS (out.take (i + 1)) (rs.take (i + 1)) ++ out.drop (i + 1), ?_, rfl, rfl⟩
      obtain ⟨y0, ho'⟩ : ∃ y, out[i]? = some y := ⟨_, List.getElem?_eq_getElem (by omega)⟩
      have hdr : out.drop i = y0 :: out.drop (i + 1) := by
        obtain ⟨hio, hy⟩ := List.getElem?_eq_some_iff.1 ho'
        rw [List.drop_eq_getElem_cons hio, hy]
      have hs : s[i]? = some y0 := by
        rw [hI, List.getElem?_append_right (by simp [finS]; omega)]
        rw [show i - (finS (out.take i) (rs.take i)).length = 0 by simp [finS]; omega]
        rw [hdr]; rfl
      rw [hf i s hlen hi, hidx, idx_nat hs]
      simp only [Option.bind_some]
      have h1 : s.set i (putR y0 x) = finS (out.take (i + 1)) (rs.take (i + 1)) ++ out.drop (i + 1) := by
        rw [hI, List.set_append_right _ _ (by simp [finS]; omega)]
        rw [show i - (finS (out.take i) (rs.take i)).length = 0 by simp [finS]; omega]
        rw [hdr, List.set_cons_zero, take_snoc ho', take_snoc hx]
        have : finS (out.take i ++ [y0]) (rs.take i ++ [x]) = finS (out.take i) (rs.take i) ++ [putR y0 x] := by
          unfold finS
          rw [List.zipWith_append (by simp; omega)]
          rfl
        rw [this, List.append_assoc]; rfl
      rw [h1]) (by omega) (by simp [finS])
  exact key
theorem taxLines_p {N : Nat} {taxes : List ApiTax} (ht : taxes.length ≤ 4096) (hN : 5000 ≤ N) (lines : List ApiLine) (t : Int) : tax_Lines N taxes lines t = some (taxLinesS taxes lines t) := by
  unfold tax_Lines taxLinesS
  by_cases h : (lines.length : Int) > 4096
  · simp [h]
  · rw [if_neg (by simpa using h), if_neg h]
    have hl : lines.length ≤ 4096 := by omega
    obtain ⟨m, hm, hmap⟩ := cats_p hl hN
    have hc : (catsS lines).length ≤ 4096 := by have := catsS_len lines []; simp at this; unfold catsS; omega
    rw [hm]
    simp only [Option.bind_some]
    have hget : ∀ c, (findL (k := .str) c m).getD ([] : List Int) = amtsS lines c := by
      intro c
      rw [hmap]
      by_cases hA : amtsS lines c = []
      · rw [if_pos hA, hA]; rfl
      · rw [if_neg hA]; rfl
    rw [linesLoop (f := tax_Lines_l1 N (catsS lines) m taxes t) (taxes := taxes) (lines := lines) (t := t) hc (fun s => by simp [tax_Lines_l1]) (fun i c s hx hI => ?_) hN]
    · cases hg : linesGo taxes lines t ([], []) (catsS lines) with
      | inr e => rfl
      | inl q =>
        obtain ⟨g1, g2, g3⟩ := go_len (n := 0) ⟨rfl, rfl, Nat.le_refl _⟩ hg
        have hql : q.2.length ≤ 4096 := by omega
        have hrl := round_len hql g2
        simp only [Option.bind_some, round_p hN]
        have w := finLoop (f := tax_Lines_l2 N (roundS q.2)) (rs := roundS q.2) (out := q.1) (by omega) (fun o ho => by simp [tax_Lines_l2]) (fun i o ho hi => by
          have e1 : idx (roundS q.2) (i : Int) = some (roundS q.2)[i] := idx_get hi
          have e2 : idx o (i : Int) = some (o[i]'(by omega)) := idx_get (by omega)
          simp only [tax_Lines_l2, decide_eq_true (show (i : Int) < ((roundS q.2).length : Int) by omega), if_true, e1, e2, Option.bind_some, Int.toNat_natCast, wrap_succ (show i < maxLen by rw [maxLen_val]; omega)]
          rfl) hN (by omega)
        rw [w]
        rfl
    · have hi := (List.getElem?_eq_some_iff.1 hx).1
      obtain ⟨s1, s2⟩ := s
      have hlen := hI.2.2
      have hlen2 : s2.length ≤ i := by have := hI.1; simp only at this hlen; omega
      simp only at hlen
      simp only [tax_Lines_l1, decide_eq_true (show (i : Int) < ((catsS lines).length : Int) by omega), if_true, idx_nat hx, Option.bind_some, hget, tax_sum, sum_p hN, points_p ht hN, perc_p hN, lineStep, wrap_succ (show i < maxLen by rw [maxLen_val]; omega)]
      cases h1 : ((sumS (amtsS lines c)).2 != 0) with
      | true => simp
      | false =>
        simp only [Bool.false_eq_true, if_false]
        cases h2 : (ptsS taxes c t == 0) with
        | true => simp
        | false =>
          simp only [Bool.false_eq_true, if_false]
          cases h3 : ((percS (sumS (amtsS lines c)).1 (ptsS taxes c t)).2 != 0) with
          | true => simp
          | false =>
            simp only [Bool.false_eq_true, if_false]
            rw [app_of (by simp; omega)]
            simp only [Option.bind_some]
            rw [app_of (by simp; omega)]
            rfl
theorem taxLines_len (taxes : List ApiTax) (lines : List ApiLine) (t : Int) : (taxLinesS taxes lines t).2.length ≤ 4096 := by
  unfold taxLinesS
  split
  · simp
  · rename_i h
    split
    · rename_i q hq
      obtain ⟨g1, g2, g3⟩ := go_len (n := 0) ⟨rfl, rfl, Nat.le_refl _⟩ hq
      have := catsS_len lines []
      simp at this
      unfold catsS at g3
      simp only [finS, List.length_zipWith]
      omega
    · simp
end Gx
namespace Gx
open Go Gd
set_option linter.unusedVariables false
set_option linter.unusedSimpArgs false
set_option maxRecDepth 100000
theorem awake46 : billinglaw46_awake (10000 + 64) = some true := by
  have : ∀ M, billinglaw46_awake (M + 64) = some true := fun M => by kernel_rfl
  exact this 10000
end Gx
namespace Gx
open Go Gd
set_option linter.unusedVariables false
set_option linter.unusedSimpArgs false
def amtL (l : List ApiLine) : List Int := l.map fun x => x.Amount
theorem amounts_loop {N : Nat} {l : List ApiLine} {f : Int × List Int → Option ((Int × List Int) ⊕ (List Int ⊕ Bool))} (hN : 5000 ≤ N) (hl : l.length ≤ 4096)
    (hf : ∀ v w, f (v, w) = if decide (v < (l.length : Int)) = true then (idx l v).bind fun x => if (!valB x.Amount) = true then some (.inr (.inr false)) else (app 8 w [x.Amount]).bind fun q => some (.inl (IntKind.wrap .i64 (v + 1), q)) else some (.inr (.inl w))) :
    loopN f N (0, []) = some (bif (amtL l).all valB then .inl (amtL l) else .inr false) := by
  refine loop_list (n := N) (s := ([] : List Int)) l (by rw [maxLen_val]; omega) (f := f) (fun s i => (i, s)) (fun i s => s = amtL (l.take i) ∧ (amtL (l.take i)).all valB = true)
    (fun s xs => bif (amtL l).all valB then .inl (amtL l) else .inr false) (fun s hI h => ?_) (fun s i x xs hx hlt hidx hw hd hI => ?_) (by omega) ⟨rfl, rfl⟩
  · obtain ⟨h1, h2⟩ := hI
    rw [List.take_length] at h1 h2
    rw [hf, h, h1, h2]; simp
  · obtain ⟨h1, h2⟩ := hI
    have hi := (List.getElem?_eq_some_iff.1 hx).1
    rw [hf, hlt, hidx]
    cases hv : valB x.Amount with
    | false =>
      right
      have : (amtL l).all valB = false := by
        rw [← Bool.not_eq_true, List.all_eq_true]
        intro hall
        have := hall x.Amount (List.mem_map.2 ⟨x, List.mem_of_getElem? hx, rfl⟩)
        rw [hv] at this; cases this
      rw [this]; simp [hv]
    | true =>
      have e : amtL (l.take (i + 1)) = amtL (l.take i) ++ [x.Amount] := by rw [take_snoc hx]; simp [amtL]
      refine .inl ⟨amtL (l.take (i + 1)), ?_, ⟨rfl, by rw [e, List.all_append, h2]; simp [hv]⟩, by trivial⟩
      subst h1
      have ha : app 8 (amtL (l.take i)) [x.Amount] = some (amtL (l.take i) ++ [x.Amount]) := app_of (by simp [amtL]; omega)
      simp [hv, ha, hw, e]
theorem amounts_p {N : Nat} {l : List ApiLine} (hN : 5000 ≤ N) (hl : l.length ≤ 4096) : invoice_amounts N l = some (bif (amtL l).all valB then (true, amtL l) else (false, [])) := by
  unfold invoice_amounts
  rw [amounts_loop hN hl (fun v w => by simp only [invoice_amounts_l1, valid_p]; rfl)]
  cases (amtL l).all valB <;> rfl
def setR (x : ApiLine) (n : Int) : ApiLine := (x.Kind, x.Sub, x.Name, x.Category, x.Count, x.Units, x.Amount, n)
def sumW (l : List Int) : Int := l.foldl (fun a x => IntKind.wrap .i64 (a + x)) 0
theorem sumW_snoc {l : List Int} {x : Int} : sumW (l ++ [x]) = IntKind.wrap .i64 (sumW l + x) := by simp [sumW, List.foldl_append]
def rndT (l : List ApiTaxLine) : List Int := l.map fun x => x.Rounded
section
variable {N : Nat} (hN : 5000 ≤ N)
include hN
theorem build1_p {lines : List ApiLine} {ns : List Int} (hn : ns.length = lines.length) (hl : lines.length ≤ 4096) (z1 : Int) (z2 : ApiPeriod) (z3 z4 z5 : Int) (ts : List ApiTaxLine) (a : Int) (p : ApiPeriod) :
    loopN (invoice_Build_l1 N ns) N (0, z1, z2, z3, z4, z5, ts, a, p, 0, 0, 0, ns, lines) = some (z1, z2, z3, z4, z5, ts, a, p, sumW ns, 0, 0, List.zipWith setR lines ns) := by
  refine loop_list (n := N) (s := ((0 : Int), lines)) ns (by rw [maxLen_val]; omega) (f := invoice_Build_l1 N ns) (fun s i => (i, z1, z2, z3, z4, z5, ts, a, p, s.1, 0, 0, ns, s.2))
    (fun i s => s = (sumW (ns.take i), List.zipWith setR (lines.take i) (ns.take i) ++ lines.drop i)) (fun s xs => (z1, z2, z3, z4, z5, ts, a, p, sumW ns, 0, 0, List.zipWith setR lines ns)) (fun s hI h => ?_) (fun s i x xs hx hlt hidx hw hd hI => ?_) (by omega) (by simp [sumW])
  · rw [List.take_length, hn, List.take_length, List.drop_length, List.append_nil] at hI
    rw [hI]
    simp [invoice_Build_l1]
  · have hi := (List.getElem?_eq_some_iff.1 hx).1
    obtain ⟨y, hy⟩ : ∃ y, lines[i]? = some y := ⟨_, List.getElem?_eq_getElem (by omega)⟩
    have hzl : (List.zipWith setR (lines.take i) (ns.take i)).length = i := by simp; omega
    have hdr : lines.drop i = y :: lines.drop (i + 1) := by
      obtain ⟨hio, hy'⟩ := List.getElem?_eq_some_iff.1 hy
      rw [List.drop_eq_getElem_cons hio, hy']
    have hs : (List.zipWith setR (lines.take i) (ns.take i) ++ lines.drop i)[i]? = some y := by
      rw [List.getElem?_append_right (by omega), hzl, Nat.sub_self, hdr]; rfl
    have e2 : (List.zipWith setR (lines.take i) (ns.take i) ++ lines.drop i).set i (setR y x) = List.zipWith setR (lines.take (i + 1)) (ns.take (i + 1)) ++ lines.drop (i + 1) := by
      rw [List.set_append_right _ _ (by omega), hzl, Nat.sub_self, hdr, List.set_cons_zero, take_snoc hy, take_snoc hx, List.zipWith_append (by simp; omega), List.append_assoc]
      rfl
    refine .inl ⟨(sumW (ns.take (i + 1)), List.zipWith setR (lines.take (i + 1)) (ns.take (i + 1)) ++ lines.drop (i + 1)), ?_, rfl, by trivial⟩
    rw [hI]
    simp only [invoice_Build_l1, hlt, if_true, hidx, Option.bind_some, idx_nat hs, hw, Int.toNat_natCast]
    rw [← e2, take_snoc hx, sumW_snoc]
    rfl
theorem build2_p {ts : List ApiTaxLine} (hl : ts.length ≤ 4096) (a : Int) (p : ApiPeriod) (n : Int) (ls : List ApiLine) :
    loopN (invoice_Build_l2 N ts) N (0, a, p, n, 0, 0, ts, ls) = some (a, p, n, sumW (rndT ts), 0, ls, ts) := by
  refine loop_list (n := N) (s := (0 : Int)) ts (by rw [maxLen_val]; omega) (f := invoice_Build_l2 N ts) (fun s i => (i, a, p, n, s, 0, ts, ls))
    (fun i s => s = sumW (rndT (ts.take i))) (fun s xs => (a, p, n, sumW (rndT ts), 0, ls, ts)) (fun s hI h => ?_) (fun s i x xs hx hlt hidx hw hd hI => ?_) (by omega) (by simp [sumW, rndT])
  · rw [List.take_length] at hI
    rw [hI]
    simp [invoice_Build_l2]
  · refine .inl ⟨sumW (rndT (ts.take (i + 1))), ?_, rfl, by trivial⟩
    have e : rndT (ts.take (i + 1)) = rndT (ts.take i) ++ [x.Rounded] := by rw [take_snoc hx]; simp [rndT]
    rw [hI, e, sumW_snoc]
    simp only [invoice_Build_l2, hlt, if_true, hidx, Option.bind_some, hw]
end
end Gx
namespace Gx
open Go Gd
set_option linter.unusedVariables false
set_option linter.unusedSimpArgs false
abbrev Built := Int × ApiPeriod × Int × Int × Int × Int × (List ApiLine) × (List ApiTaxLine)
def noInv (e : Int) : Built := (0, (0, 0), 0, 0, 0, e, [], [])
def chkT (taxes : List ApiTax) : Int := (billingref45_Check 10064 taxes).getD 0
def validP (p : ApiPeriod) : Bool := ((decide (p.From ≥ 0)) && (decide (p.From < p.To))) && (decide (p.To ≤ 12622780800))
def goodS (a : Int) (p : ApiPeriod) (lines : List ApiLine) (ts : List ApiTaxLine) : Built :=
  (a, p, sumW (roundS (amtL lines)), sumW (rndT ts), IntKind.wrap .i64 (sumW (roundS (amtL lines)) + sumW (rndT ts)), 0, List.zipWith setR lines (roundS (amtL lines)), ts)
def buildS (a : Int) (p : ApiPeriod) (lines : List ApiLine) (taxes : List ApiTax) : Built :=
  if a < 1 ∨ a > 9999 then noInv 6 else bif validP p then (if lines.length = 0 then noInv 8 else if lines.length > 4096 then noInv 5 else
    bif (amtL lines).all valB then (if chkT taxes ≠ 0 then noInv (chkT taxes) else
      (if (taxLinesS taxes lines (IntKind.wrap .i64 (p.To - 1))).1 ≠ 0 then noInv (taxLinesS taxes lines (IntKind.wrap .i64 (p.To - 1))).1 else goodS a p lines (taxLinesS taxes lines (IntKind.wrap .i64 (p.To - 1))).2)) else noInv 6) else noInv 15
theorem amtL_len (l : List ApiLine) : (amtL l).length = l.length := by simp [amtL]
theorem chkT_eq {taxes : List ApiTax} (ht : taxes.length ≤ 4096) : tax_Check 10064 taxes = some (chkT taxes) ∧ billingref45_Check 10064 taxes = some (chkT taxes) := by
  obtain ⟨r, hr⟩ := check_ok (N := 10064) (by omega) ht
  have e : chkT taxes = r := by unfold chkT; rw [hr]; rfl
  exact ⟨by rw [check_eq (by omega), hr, e], by rw [hr, e]⟩
theorem build_p {a : Int} {p : ApiPeriod} {lines : List ApiLine} {taxes : List ApiTax} (ht : taxes.length ≤ 4096) : invoice_Build 10064 a p lines taxes = some (buildS a p lines taxes) := by
  unfold invoice_Build buildS
  by_cases h1 : a < 1 ∨ a > 9999
  · rw [if_pos h1, if_pos (by simpa using h1)]; rfl
  · rw [if_neg h1, if_neg (by simpa using h1)]
    rw [show interval_Valid 10064 p = some (validP p) from rfl]
    simp only [Option.bind_some]
    cases hp : validP p with
    | false => rfl
    | true =>
      simp only [Bool.not_true, Bool.false_eq_true, if_false, cond_true]
      by_cases h2 : lines.length = 0
      · simp only [h2, if_true, show (((0 : Nat) : Int) == 0) = true from rfl]; rfl
      · have b2 : ((lines.length : Int) == 0) = false := by rw [beq_eq_false_iff_ne]; omega
        simp only [b2, h2, Bool.false_eq_true, if_false]
        by_cases h3 : lines.length > 4096
        · have b3 : decide ((lines.length : Int) > 4096) = true := by simp; omega
          simp only [b3, h3, if_true]; rfl
        · have b3 : decide ((lines.length : Int) > 4096) = false := by simp; omega
          simp only [b3, h3, Bool.false_eq_true, if_false]
          rw [amounts_p (by omega) (by omega)]
          cases hv : (amtL lines).all valB with
          | false => rfl
          | true =>
            simp only [cond_true, Option.bind_some, Bool.not_true, Bool.false_eq_true, if_false, (chkT_eq ht).1, taxLines_p ht (show 5000 ≤ 10064 by omega)]
            by_cases h4 : chkT taxes = 0
            · have b4 : (chkT taxes != 0) = false := by simp [h4]
              simp only [b4, Bool.false_eq_true, if_false, h4, ne_eq, not_true_eq_false]
              by_cases h5 : (taxLinesS taxes lines (IntKind.wrap .i64 (p.To - 1))).1 = 0
              · have b5 : ((taxLinesS taxes lines (IntKind.wrap .i64 (p.To - 1))).1 != 0) = false := by simp [h5]
                simp only [b5, Bool.false_eq_true, if_false, h5, ne_eq, not_true_eq_false]
                have hrl := round_len (l := amtL lines) (by rw [amtL_len]; omega) hv
                rw [amtL_len] at hrl
                rw [app_of (by simp; omega)]
                simp only [Option.bind_some, List.nil_append, round_p (N := 10064) (by omega), build1_p (N := 10064) (by omega) hrl (by omega), build2_p (N := 10064) (by omega) (taxLines_len _ _ _)]
                rfl
              · have b5 : ((taxLinesS taxes lines (IntKind.wrap .i64 (p.To - 1))).1 != 0) = true := by simpa using h5
                simp only [b5, if_true, h5, ne_eq, not_false_eq_true]; rfl
            · have b4 : (chkT taxes != 0) = true := by simpa using h4
              simp only [b4, if_true, h4, ne_eq, not_false_eq_true]; rfl
end Gx
namespace Gx
open Go Gd
set_option linter.unusedVariables false
set_option linter.unusedSimpArgs false
theorem noInv_err (e : Int) : (noInv e).2.2.2.2.2.1 = e := rfl
theorem build_good {a : Int} {p : ApiPeriod} {lines : List ApiLine} {taxes : List ApiTax} (h : (buildS a p lines taxes).2.2.2.2.2.1 = 0) :
    ¬ (a < 1 ∨ a > 9999) ∧ validP p = true ∧ lines.length ≠ 0 ∧ lines.length ≤ 4096 ∧ (amtL lines).all valB = true ∧ chkT taxes = 0 ∧ (taxLinesS taxes lines (IntKind.wrap .i64 (p.To - 1))).1 = 0 ∧
      buildS a p lines taxes = goodS a p lines (taxLinesS taxes lines (IntKind.wrap .i64 (p.To - 1))).2 := by
  unfold buildS at h ⊢
  by_cases h1 : a < 1 ∨ a > 9999
  · rw [if_pos h1] at h; cases h
  · rw [if_neg h1] at h ⊢
    cases hp : validP p with
    | false => rw [hp] at h; cases h
    | true =>
      rw [hp] at h
      simp only [cond_true] at h ⊢
      by_cases h2 : lines.length = 0
      · rw [if_pos h2] at h; cases h
      · rw [if_neg h2] at h ⊢
        by_cases h3 : lines.length > 4096
        · rw [if_pos h3] at h; cases h
        · rw [if_neg h3] at h ⊢
          cases hv : (amtL lines).all valB with
          | false => rw [hv] at h; cases h
          | true =>
            rw [hv] at h
            simp only [cond_true] at h ⊢
            by_cases h4 : chkT taxes = 0
            · rw [if_neg (by simpa using h4)] at h ⊢
              by_cases h5 : (taxLinesS taxes lines (IntKind.wrap .i64 (p.To - 1))).1 = 0
              · rw [if_neg (by simpa using h5)] at h ⊢
                exact ⟨h1, by trivial, h2, by omega, by trivial, h4, h5, rfl⟩
              · rw [if_pos h5] at h; exact absurd h h5
            · rw [if_pos h4] at h; exact absurd h h4
theorem sumW_range (l : List Int) : -9223372036854775808 ≤ sumW l ∧ sumW l < 9223372036854775808 := by
  rcases List.eq_nil_or_concat l with rfl | ⟨l', x, rfl⟩
  · exact ⟨by decide, by decide⟩
  · rw [List.concat_eq_append, sumW_snoc]
    exact ⟨(wrap_facts _).2.1, (wrap_facts _).2.2⟩
end Gx
namespace Gx
open Go Gd
set_option linter.unusedVariables false
set_option linter.unusedSimpArgs false
def rndL (l : List ApiLine) : List Int := l.map fun x => x.Rounded
theorem chkLoop {N : Nat} (hN : 5000 ≤ N) {ns : List Int} {inv : ApiInvoice} (hl : inv.Lines.length ≤ 4096) (hn : ns.length = inv.Lines.length) :
    loopN (invoice_Check_l1 N ns inv) N (0, 0) = some (if rndL inv.Lines = ns then .inl (sumW ns) else .inr false) := by
  have key := loop_list (n := N) (s := (0 : Int)) ns (by rw [maxLen_val]; omega) (f := invoice_Check_l1 N ns inv) (fun s i => (s, i)) (fun i s => s = sumW (ns.take i) ∧ rndL (inv.Lines.take i) = ns.take i)
    (fun s xs => if rndL inv.Lines = ns then .inl (sumW ns) else .inr false) (fun s hI h => ?_) (fun s i x xs hx hlt hidx hw hd hI => ?_) (by omega) ⟨rfl, by simp [rndL]⟩
  · exact key
  · obtain ⟨h1, h2⟩ := hI
    rw [List.take_length] at h1 h2
    rw [hn, List.take_length] at h2
    rw [h1, if_pos h2]
    simp [invoice_Check_l1]
  · obtain ⟨h1, h2⟩ := hI
    have hi := (List.getElem?_eq_some_iff.1 hx).1
    obtain ⟨y, hy⟩ : ∃ y, inv.Lines[i]? = some y := ⟨_, List.getElem?_eq_getElem (by omega)⟩
    have hyi : idx inv.Lines (i : Int) = some y := idx_nat hy
    simp only [invoice_Check_l1, hlt, if_true, hidx, Option.bind_some, hyi, hw]
    by_cases he : y.Rounded = x
    · left
      refine ⟨sumW (ns.take (i + 1)), ?_, ⟨rfl, ?_⟩, by trivial⟩
      · rw [if_neg (by simp [he]), take_snoc hx, sumW_snoc, h1]
      · rw [take_snoc hx, take_snoc hy]
        simp only [rndL, List.map_append, List.map_cons, List.map_nil] at h2 ⊢
        rw [h2, he]
    · right
      rw [if_pos (by simpa using he)]
      have : ¬ rndL inv.Lines = ns := by
        intro e
        have h3 : (rndL inv.Lines)[i]? = some y.Rounded := by simp [rndL, hy]
        rw [e, hx] at h3
        injection h3 with h3
        exact he h3.symm
      rw [if_neg this]
end Gx
namespace Gx
open Go Gd
set_option linter.unusedVariables false
set_option linter.unusedSimpArgs false
theorem sum_zero {l : List Int} (h : (sumS l).2 = 0) : l.length ≤ 4096 ∧ l.all valB = true ∧ (sumS l).1 = l.sum ∧ valB l.sum = true := by
  unfold sumS at *
  by_cases hl : (l.length : Int) > 4096
  · rw [if_pos hl] at h; cases h
  · rw [if_neg hl] at h ⊢
    cases hv : l.all valB with
    | false => rw [hv] at h; cases h
    | true =>
      rw [hv] at h
      simp only [cond_true, chkS] at h ⊢
      cases hs : valB l.sum with
      | false => rw [hs] at h; cases h
      | true => exact ⟨by omega, by first | trivial | rfl, by simp, by first | trivial | rfl⟩
theorem sumW_mod (l : List Int) : ∀ a : Int, (l.foldl (fun a x => IntKind.wrap .i64 (a + x)) a) % 18446744073709551616 = (a + l.sum) % 18446744073709551616 := by
  induction l with
  | nil => intro a; simp
  | cons x l ih =>
    intro a
    simp only [List.foldl_cons, List.sum_cons]
    rw [ih]
    have := (wrap_facts (a + x)).1
    omega
theorem sumW_exact {l : List Int} (h0 : -9223372036854775808 ≤ l.sum) (h1 : l.sum < 9223372036854775808) : sumW l = l.sum := by
  have h2 := sumW_mod l 0
  have h3 := sumW_range l
  unfold sumW at *
  omega
end Gx
namespace Gx
open Go Gd
set_option linter.unusedVariables false
set_option linter.unusedSimpArgs false
theorem rndL_zip : ∀ {ls : List ApiLine} {ns : List Int}, ls.length = ns.length → rndL (List.zipWith setR ls ns) = ns
  | [], [], _ => rfl
  | x :: ls, n :: ns, h => by
    have := rndL_zip (ls := ls) (ns := ns) (by simpa using h)
    simp only [rndL, List.zipWith_cons_cons, List.map_cons] at this ⊢
    rw [this]; rfl
  | [], _ :: _, h => by simp at h
  | _ :: _, [], h => by simp at h
theorem amtL_zip : ∀ {ls : List ApiLine} {ns : List Int}, ls.length = ns.length → amtL (List.zipWith setR ls ns) = amtL ls
  | [], [], _ => rfl
  | x :: ls, n :: ns, h => by
    have := amtL_zip (ls := ls) (ns := ns) (by simpa using h)
    simp only [amtL, List.zipWith_cons_cons, List.map_cons] at this ⊢
    rw [this]; rfl
  | [], _ :: _, h => by simp at h
  | _ :: _, [], h => by simp at h
theorem amts_zip {c : Str} : ∀ {ls : List ApiLine} {ns : List Int}, ls.length = ns.length → amtsS (List.zipWith setR ls ns) c = amtsS ls c
  | [], [], _ => rfl
  | x :: ls, n :: ns, h => by
    have := amts_zip (c := c) (ls := ls) (ns := ns) (by simpa using h)
    simp only [amtsS, List.zipWith_cons_cons, List.filter_cons] at this ⊢
    have e : (setR x n).Category = x.Category := rfl
    rw [e]
    split
    · simp only [List.map_cons]; rw [this]; rfl
    · exact this
  | [], _ :: _, h => by simp at h
  | _ :: _, [], h => by simp at h
end Gx
namespace Gx
open Go Gd
set_option linter.unusedVariables false
set_option linter.unusedSimpArgs false
def asc (l : List Str) : Prop := l.Pairwise fun a b => bl a b = true
theorem asc_ins {l : List Str} {c : Str} (h : asc l) (hc : c ∉ l) : asc (insS l c) := by
  induction l with
  | nil => simp [insS, insAt, asc]
  | cons y l ih =>
    have h' := List.pairwise_cons.1 h
    cases hb : bl y c with
    | true =>
      have e : insS (y :: l) c = y :: insS l c := by simp [insS, insAt, hb]
      rw [e]
      refine List.pairwise_cons.2 ⟨fun z hz => ?_, ih h'.2 (fun hm => hc (List.mem_cons_of_mem _ hm))⟩
      rcases mem_insS.1 hz with rfl | hz
      · exact hb
      · exact h'.1 z hz
    | false =>
      have e : insS (y :: l) c = c :: y :: l := by simp [insS, insAt, hb]
      rw [e]
      have hcy : bl c y = true := by
        cases hk : bl c y with
        | true => rfl
        | false => exact absurd (bl_total hb hk) (fun e => hc (by simp [e]))
      refine List.pairwise_cons.2 ⟨fun z hz => ?_, h⟩
      rcases List.mem_cons.1 hz with rfl | hz
      · exact hcy
      · exact bl_trans hcy (h'.1 z hz)
theorem asc_step {acc : List Str} {x : ApiLine} (h : asc acc) : asc (catStep acc x) := by
  unfold catStep
  split
  · exact h
  · rename_i hc
    exact asc_ins h (by simpa using hc)
theorem mem_step {acc : List Str} {x : ApiLine} {c : Str} : c ∈ catStep acc x ↔ c = x.Category ∨ c ∈ acc := by
  unfold catStep
  split
  · rename_i hc
    have : x.Category ∈ acc := by simpa using hc
    constructor
    · exact .inr
    · rintro (rfl | h)
      · exact this
      · exact h
  · exact mem_insS
theorem cats_go : ∀ (l : List ApiLine) (acc : List Str), asc acc → asc (l.foldl catStep acc) ∧ ∀ c, c ∈ l.foldl catStep acc ↔ c ∈ acc ∨ c ∈ l.map fun x => x.Category
  | [], acc, h => ⟨h, by simp⟩
  | x :: l, acc, h => by
    obtain ⟨h1, h2⟩ := cats_go l (catStep acc x) (asc_step h)
    refine ⟨h1, fun c => ?_⟩
    simp only [List.foldl_cons, h2, mem_step, List.map_cons, List.mem_cons]
    constructor
    · rintro ((h | h) | h)
      · exact .inr (.inl h)
      · exact .inl h
      · exact .inr (.inr h)
    · rintro (h | h | h)
      · exact .inl (.inr h)
      · exact .inl (.inl h)
      · exact .inr h
theorem cats_asc (l : List ApiLine) : asc (catsS l) := (cats_go l [] List.Pairwise.nil).1
theorem mem_cats {l : List ApiLine} {c : Str} : c ∈ catsS l ↔ c ∈ l.map fun x => x.Category := by
  have := (cats_go l [] List.Pairwise.nil).2 c
  simpa [catsS] using this
def okCat (taxes : List ApiTax) (lines : List ApiLine) (t : Int) (c : Str) : Prop := (sumS (amtsS lines c)).2 = 0 ∧ ptsS taxes c t ≠ 0 ∧ (percS (sumS (amtsS lines c)).1 (ptsS taxes c t)).2 = 0
def mkT (taxes : List ApiTax) (lines : List ApiLine) (t : Int) (c : Str) : ApiTaxLine := (c, ptsS taxes c t, (sumS (amtsS lines c)).1, 0)
def mkX (taxes : List ApiTax) (lines : List ApiLine) (t : Int) (c : Str) : Int := (percS (sumS (amtsS lines c)).1 (ptsS taxes c t)).1
theorem go_form {taxes : List ApiTax} {lines : List ApiLine} {t : Int} : ∀ {cs : List Str} {s q : List ApiTaxLine × List Int}, linesGo taxes lines t s cs = .inl q →
    ∃ ds : List Str, ds.Sublist cs ∧ (∀ c ∈ ds, okCat taxes lines t c) ∧ q = (s.1 ++ ds.map (mkT taxes lines t), s.2 ++ ds.map (mkX taxes lines t))
  | [], s, q, h => by simp [linesGo] at h; subst h; exact ⟨[], List.Sublist.refl _, by simp, by simp⟩
  | c :: cs, s, q, h => by
    simp only [linesGo] at h
    split at h
    · cases h
    · obtain ⟨ds, h1, h2, h3⟩ := go_form h
      exact ⟨ds, h1.trans (List.sublist_cons_self _ _), h2, h3⟩
    · rename_i x hx
      obtain ⟨e1, e2, e3, e4, e5⟩ := line_valid hx
      obtain ⟨ds, h1, h2, h3⟩ := go_form h
      refine ⟨c :: ds, h1.cons_cons c, fun d hd => ?_, ?_⟩
      · rcases List.mem_cons.1 hd with rfl | hd
        · exact ⟨e3, e4, e5⟩
        · exact h2 d hd
      · rw [h3, e1, e2]
        simp [mkT, mkX]
theorem lines_form2 (taxes : List ApiTax) (lines : List ApiLine) (t : Int) : ∃ ds, asc ds ∧ ds.length ≤ 4096 ∧ (∀ c ∈ ds, okCat taxes lines t c ∧ c ∈ lines.map fun x => x.Category) ∧ (taxLinesS taxes lines t).2 = finS (ds.map (mkT taxes lines t)) (roundS (ds.map (mkX taxes lines t))) := by
  unfold taxLinesS
  split
  · exact ⟨[], List.Pairwise.nil, by simp, by simp, rfl⟩
  · rename_i h
    split
    · rename_i q hq
      obtain ⟨ds, h1, h2, h3⟩ := go_form hq
      have hlen := catsS_len lines []
      simp at hlen
      have := h1.length_le
      unfold catsS at this
      exact ⟨ds, (cats_asc lines).sublist h1, by omega, fun c hc => ⟨h2 c hc, mem_cats.1 (h1.subset hc)⟩, by rw [h3]; simp⟩
    · exact ⟨[], List.Pairwise.nil, by simp, by simp, rfl⟩
theorem base_eq2 {N : Nat} (hN : 5000 ≤ N) {l : List ApiLine} (hl : l.length ≤ 4096) (c : Str) : invoice_base N l c = some (sumW (amtsS l c), l.any fun x => x.Category == c) := by
  unfold invoice_base
  have key := loop_list (n := N) (s := ((0 : Int), false)) l (by rw [maxLen_val]; omega) (f := invoice_base_l1 N l c) (fun s i => (s.1, s.2, i)) (fun i s => s.1 = sumW (amtsS (l.take i) c) ∧ s.2 = (l.take i).any fun x => x.Category == c)
    (fun s xs => (sumW (amtsS l c), l.any fun x => x.Category == c)) (fun s hI h => by
      rw [List.take_length] at hI
      obtain ⟨s1, s2⟩ := s
      simp only at hI
      obtain ⟨rfl, rfl⟩ := hI
      simp [invoice_base_l1]) (fun s i x xs hx hlt hidx hw hd hI => by
      refine .inl ⟨if (x.Category == c) = true then (IntKind.wrap .i64 (s.1 + x.Amount), true) else s, ?_, ⟨?_, ?_⟩, rfl⟩
      · simp only [invoice_base_l1, hlt, if_true, hidx, Option.bind_some, hw]
        split <;> rfl
      · rw [take_snoc hx, amts_snoc]
        cases hc : x.Category == c with
        | true => simp only [if_true]; rw [sumW_snoc, hI.1]
        | false => simp only [Bool.false_eq_true, if_false, List.append_nil]; exact hI.1
      · rw [take_snoc hx, List.any_append, ← hI.2]
        cases hc : x.Category == c with
        | true => simp [hc]
        | false => simp [hc]) (by omega) ⟨rfl, rfl⟩
  rw [show loopN (invoice_base_l1 N l c) N (0, false, 0) = _ from key]
  rfl
theorem perc_pts {a p : Int} (h : (percS a p).2 = 0) : 0 ≤ p ∧ p ≤ 10000 := by
  unfold percS at h
  cases hc : (decide (p < 0) || decide (p > 10000)) with
  | true => rw [hc] at h; cases h
  | false =>
    simp only [Bool.or_eq_false_iff, decide_eq_false_iff_not] at hc
    omega
theorem build_err {a : Int} {p : ApiPeriod} {lines : List ApiLine} {taxes : List ApiTax} (h : (buildS a p lines taxes).2.2.2.2.2.1 ≠ 0) : ∃ e, buildS a p lines taxes = noInv e := by
  unfold buildS at h ⊢
  split
  · exact ⟨_, rfl⟩
  · rename_i h1
    rw [if_neg h1] at h
    cases hp : validP p with
    | false => exact ⟨_, rfl⟩
    | true =>
      rw [hp] at h
      simp only [cond_true] at h ⊢
      split
      · exact ⟨_, rfl⟩
      · rename_i h2
        rw [if_neg h2] at h
        split
        · exact ⟨_, rfl⟩
        · rename_i h3
          rw [if_neg h3] at h
          cases hv : (amtL lines).all valB with
          | false => exact ⟨_, rfl⟩
          | true =>
            rw [hv] at h
            simp only [cond_true] at h ⊢
            split
            · exact ⟨_, rfl⟩
            · rename_i h4
              rw [if_neg h4] at h
              split
              · exact ⟨_, rfl⟩
              · rename_i h5
                rw [if_neg h5] at h
                exact absurd rfl h
section
variable {taxes : List ApiTax} {lines : List ApiLine} {t : Int} {ds : List Str}
def taxF (taxes : List ApiTax) (lines : List ApiLine) (t : Int) (ds : List Str) : List ApiTaxLine := finS (ds.map (mkT taxes lines t)) (roundS (ds.map (mkX taxes lines t)))
theorem mkX_valid (hok : ∀ c ∈ ds, okCat taxes lines t c ∧ c ∈ lines.map fun x => x.Category) : (ds.map (mkX taxes lines t)).all valB = true := by
  rw [List.all_eq_true]
  intro y hy
  obtain ⟨c, hc, rfl⟩ := List.mem_map.1 hy
  exact perc_valid (hok c hc).1.2.2
theorem taxF_len (hd : ds.length ≤ 4096) (hok : ∀ c ∈ ds, okCat taxes lines t c ∧ c ∈ lines.map fun x => x.Category) : (taxF taxes lines t ds).length = ds.length := by
  have := round_len (l := ds.map (mkX taxes lines t)) (by simpa using hd) (mkX_valid hok)
  unfold taxF finS
  rw [List.length_zipWith, this]; simp
theorem taxF_get (hd : ds.length ≤ 4096) (hok : ∀ c ∈ ds, okCat taxes lines t c ∧ c ∈ lines.map fun x => x.Category) {k : Nat} {c : Str} (hc : ds[k]? = some c) : ∃ r, (roundS (ds.map (mkX taxes lines t)))[k]? = some r ∧ (taxF taxes lines t ds)[k]? = some (putR (mkT taxes lines t c) r) := by
  have hrl := round_len (l := ds.map (mkX taxes lines t)) (by simpa using hd) (mkX_valid hok)
  rw [List.length_map] at hrl
  have hk := (List.getElem?_eq_some_iff.1 hc).1
  refine ⟨(roundS (ds.map (mkX taxes lines t)))[k]'(by omega), List.getElem?_eq_getElem _, ?_⟩
  unfold taxF finS
  rw [List.getElem?_zipWith]
  simp [hc, List.getElem?_eq_getElem (show k < (roundS (ds.map (mkX taxes lines t))).length by omega)]
theorem taxF_rnd (hd : ds.length ≤ 4096) (hok : ∀ c ∈ ds, okCat taxes lines t c ∧ c ∈ lines.map fun x => x.Category) : rndT (taxF taxes lines t ds) = roundS (ds.map (mkX taxes lines t)) := by
  have hrl := round_len (l := ds.map (mkX taxes lines t)) (by simpa using hd) (mkX_valid hok)
  rw [List.length_map] at hrl
  refine List.ext_getElem? fun k => ?_
  unfold rndT
  rw [List.getElem?_map]
  rcases Nat.lt_or_ge k ds.length with hk | hk
  · obtain ⟨r, h1, h2⟩ := taxF_get hd hok (List.getElem?_eq_getElem hk)
    rw [h1, h2]; rfl
  · rw [List.getElem?_eq_none (by rw [taxF_len hd hok]; exact hk), List.getElem?_eq_none (by omega)]; rfl
theorem taxed_built {N : Nat} (hN : 5000 ≤ N) {inv : ApiInvoice} (ha : asc ds) (hd : ds.length ≤ 4096) (hok : ∀ c ∈ ds, okCat taxes lines t c ∧ c ∈ lines.map fun x => x.Category) (hT : inv.Taxes = taxF taxes lines t ds) (hl : inv.Lines.length ≤ 4096)
    (hA : ∀ c, amtsS inv.Lines c = amtsS lines c) (hC : ∀ c, (inv.Lines.any fun x => x.Category == c) = lines.any fun x => x.Category == c) : invoice_taxed N inv = some (sumW (rndT inv.Taxes), true) := by
  have hfl : inv.Taxes.length = ds.length := by rw [hT]; exact taxF_len hd hok
  have hX := mkX_valid hok
  have key := loop_list (n := N) (s := ([] : List Int)) inv.Taxes (by rw [maxLen_val]; omega) (f := invoice_taxed_l1 N inv) (fun s i => (i, s)) (fun i s => s = (ds.map (mkX taxes lines t)).take i) (fun s xs => .inl (ds.map (mkX taxes lines t)))
    (fun s hI h => by
      subst hI
      have e : (ds.map (mkX taxes lines t)).take inv.Taxes.length = ds.map (mkX taxes lines t) := List.take_of_length_le (by simp; omega)
      rw [e]
      simp [invoice_taxed_l1]) (fun s i x xs hx hlt hidx hw hdr hI => by
      subst hI
      have hi := (List.getElem?_eq_some_iff.1 hx).1
      have hk : i < ds.length := by omega
      obtain ⟨r, hr, he⟩ := taxF_get hd hok (List.getElem?_eq_getElem hk)
      rw [hT, he] at hx
      injection hx with hx
      obtain ⟨⟨o1, o2, o3⟩, o4⟩ := hok ds[i] (List.getElem_mem hk)
      obtain ⟨z1, z2, z3, z4⟩ := sum_zero o1
      have hpt := perc_pts o3
      have hcat : x.Category = ds[i] := by rw [← hx]; rfl
      have hpts : x.Points = ptsS taxes ds[i] t := by rw [← hx]; rfl
      have hbas : x.Base = (sumS (amtsS lines ds[i])).1 := by rw [← hx]; rfl
      have hxk : (ds.map (mkX taxes lines t))[i]? = some (mkX taxes lines t ds[i]) := by simp [List.getElem?_eq_getElem hk]
      refine .inl ⟨(ds.map (mkX taxes lines t)).take (i + 1), ?_, rfl, rfl⟩
      have hb : invoice_base N inv.Lines x.Category = some ((sumS (amtsS lines ds[i])).1, true) := by
        rw [base_eq2 hN hl, hA, hC, hcat]
        have e1 : sumW (amtsS lines ds[i]) = (sumS (amtsS lines ds[i])).1 := by
          rw [z3]
          have := valB_iff.1 z4
          exact sumW_exact (by omega) (by omega)
        have e2 : (lines.any fun x => x.Category == ds[i]) = true := by
          rw [List.any_eq_true]
          obtain ⟨y, hy, hy2⟩ := List.mem_map.1 o4
          exact ⟨y, hy, by simpa using hy2⟩
        rw [e1, e2]
      have hprev : (if decide ((i : Int) > 0) = true then (idx inv.Taxes (IntKind.wrap .i64 ((i : Int) - 1))).bind fun x12 => some (!(Op.bytesLess x12.Category x.Category)) else some false : Option Bool) = some false := by
        by_cases h0 : (i : Int) > 0
        · rw [if_pos (by simpa using h0), wrap64 (by omega) (by omega), show (i : Int) - 1 = ((i - 1 : Nat) : Int) by omega]
          have hk' : i - 1 < ds.length := by omega
          obtain ⟨r', hr', he'⟩ := taxF_get hd hok (List.getElem?_eq_getElem hk')
          rw [hT, idx_nat he']
          have hlt2 : bl ds[i - 1] ds[i] = true := (List.pairwise_iff_getElem.1 ha) (i - 1) i hk' hk (by omega)
          show some (!(Op.bytesLess ds[i - 1] x.Category)) = some false
          rw [hcat, show Op.bytesLess ds[i - 1] ds[i] = true from hlt2]; rfl
        · rw [if_neg (by simpa using h0)]
      have hc : ((((!true) || ((sumS (amtsS lines ds[i])).1 != x.Base)) || (decide (x.Points < 1))) || (decide (x.Points > 10000))) = false := by
        rw [hbas, hpts]
        simp; omega
      have hp2 : percS x.Base x.Points = (mkX taxes lines t ds[i], 0) := by
        rw [hbas, hpts]
        show percS (sumS (amtsS lines ds[i])).1 (ptsS taxes ds[i] t) = ((percS (sumS (amtsS lines ds[i])).1 (ptsS taxes ds[i] t)).1, 0)
        rw [← o3]
      have ha8 : app 8 ((ds.map (mkX taxes lines t)).take i) [mkX taxes lines t ds[i]] = some ((ds.map (mkX taxes lines t)).take (i + 1)) := by
        rw [take_snoc hxk]
        exact app_of (by simp; omega)
      simp only [invoice_taxed_l1, hlt, if_true, hidx, Option.bind_some, hb, hc, Bool.false_eq_true, if_false, hprev, perc_p hN, hp2, bne_self_eq_false, ha8, hw]) (by omega) (by simp)
  unfold invoice_taxed
  rw [show loopN (invoice_taxed_l1 N inv) N (0, ([] : List Int)) = _ from key]
  have hrl := round_len (l := ds.map (mkX taxes lines t)) (by simpa using hd) hX
  rw [List.length_map] at hrl
  have hrt : rndT inv.Taxes = roundS (ds.map (mkX taxes lines t)) := by rw [hT]; exact taxF_rnd hd hok
  simp only [Option.bind_some, round_p hN]
  rw [← hrt]
  have key2 := loop_list (n := N) (s := (0 : Int)) (rndT inv.Taxes) (by rw [maxLen_val, hrt]; omega) (f := invoice_taxed_l2 N (rndT inv.Taxes) inv) (fun s i => (s, i)) (fun i s => s = sumW ((rndT inv.Taxes).take i)) (fun s xs => .inl (sumW (rndT inv.Taxes)))
    (fun s hI h => by
      rw [List.take_length] at hI
      subst hI
      simp [invoice_taxed_l2]) (fun s i x xs hx hlt hidx hw hdr hI => by
      subst hI
      have hi := (List.getElem?_eq_some_iff.1 hx).1
      obtain ⟨y, hy⟩ : ∃ y, inv.Taxes[i]? = some y := ⟨_, List.getElem?_eq_getElem (by rw [hrt] at hi; omega)⟩
      have hyr : y.Rounded = x := by
        have : (rndT inv.Taxes)[i]? = some y.Rounded := by simp [rndT, hy]
        rw [this] at hx; injection hx
      refine .inl ⟨sumW ((rndT inv.Taxes).take (i + 1)), ?_, rfl, rfl⟩
      simp only [invoice_taxed_l2, hlt, if_true, hidx, Option.bind_some, idx_nat hy, hw, hyr, bne_self_eq_false, Bool.false_eq_true, if_false]
      rw [take_snoc hx, sumW_snoc]) (by rw [hrt]; omega) rfl
  rw [show loopN (invoice_taxed_l2 N (rndT inv.Taxes) inv) N (0, 0) = _ from key2]
  rfl
end
end Gx
namespace Gx
open Go Gd
set_option linter.unusedVariables false
set_option linter.unusedSimpArgs false
theorem round_sumW {l : List Int} (hl : l.length ≤ 4096) (hv : l.all valB = true) : sumW (roundS l) = rndS (sumW l) ∧ -9223372036854775808 ≤ sumW l ∧ sumW l < 9223372036854775808 := by
  have hb := sum_bound hv
  have h1 : sumW l = l.sum := sumW_exact (by omega) (by omega)
  have hr := round_sum hl hv
  have hrb := rnd_bound (a := l.sum)
  have h2 : sumW (roundS l) = (roundS l).sum := sumW_exact (by omega) (by omega)
  rw [h1, h2, hr]
  exact ⟨rfl, by omega, by omega⟩
theorem sums1 {N : Nat} (hN : 5000 ≤ N) {x0 : Billinglaw46Case} (hl : x0.Lines.length ≤ 4096) (hv : (amtL x0.Lines).all valB = true) :
    loopN (billinglaw46_InvoiceSums_l1 N (List.zipWith setR x0.Lines (roundS (amtL x0.Lines))) x0) N (0, 0, 0) = some (.inl (sumW (roundS (amtL x0.Lines)), sumW (amtL x0.Lines))) := by
  have hal : (amtL x0.Lines).length ≤ 4096 := by rw [amtL_len]; omega
  have hrl := round_len hal hv
  have hrg := fun (i : Nat) => round_get (l := amtL x0.Lines) hal hv (i := i)
  generalize roundS (amtL x0.Lines) = ns at *
  rw [amtL_len] at hrl hrg
  have hzl : (List.zipWith setR x0.Lines ns).length = x0.Lines.length := by simp; omega
  have key := loop_list (n := N) (s := ((0 : Int), (0 : Int))) (List.zipWith setR x0.Lines ns) (by rw [maxLen_val]; omega) (f := billinglaw46_InvoiceSums_l1 N (List.zipWith setR x0.Lines ns) x0) (fun s i => (s.1, s.2, i))
    (fun i s => s = (sumW (ns.take i), sumW (amtL (x0.Lines.take i)))) (fun s xs => .inl (sumW ns, sumW (amtL x0.Lines))) (fun s hI h => by
      rw [hzl, List.take_length, ← hrl, List.take_length] at hI
      subst hI
      simp [billinglaw46_InvoiceSums_l1]) (fun s i x xs hx hlt hidx hw hd hI => by
      subst hI
      have hi : i < x0.Lines.length := by have := (List.getElem?_eq_some_iff.1 hx).1; omega
      obtain ⟨y, hy⟩ : ∃ y, x0.Lines[i]? = some y := ⟨_, List.getElem?_eq_getElem hi⟩
      obtain ⟨r, hr⟩ : ∃ r, ns[i]? = some r := ⟨_, List.getElem?_eq_getElem (by omega)⟩
      have hxe : x = setR y r := by
        rw [List.getElem?_zipWith, hy, hr] at hx
        injection hx with hx; exact hx.symm
      subst hxe
      have hg := hrg i hi
      have e1 : (amtL x0.Lines).getD i 0 = y.Amount := by simp [List.getD_eq_getElem?_getD, amtL, hy]
      have e2 : ns.getD i 0 = r := by simp [List.getD_eq_getElem?_getD, hr]
      rw [e1, e2] at hg
      have hyv : valB y.Amount = true := List.all_eq_true.1 hv _ (List.mem_map.2 ⟨y, List.mem_of_getElem? hy, rfl⟩)
      have hyb := valB_iff.1 hyv
      have w1 : IntKind.wrap .i64 (y.Amount - 10000) = y.Amount - 10000 := wrap64 (by omega) (by omega)
      have w2 : IntKind.wrap .i64 (y.Amount + 10000) = y.Amount + 10000 := wrap64 (by omega) (by omega)
      have w3 : IntKind.wrap .i64 (r * 10000) = r * 10000 := wrap64 (by omega) (by omega)
      have hc : (((!(((setR y r).Kind == y.Kind) && (((setR y r).Sub == y.Sub) && (((setR y r).Name == y.Name) && (((setR y r).Category == y.Category) && (((setR y r).Count == y.Count) && (((setR y r).Units == y.Units) && (((setR y r).Amount == y.Amount) && (((setR y r).Rounded == (setR y r).Rounded) && true))))))))) || (decide ((IntKind.wrap .i64 ((setR y r).Amount - 10000)) ≥ (IntKind.wrap .i64 ((setR y r).Rounded * 10000))))) || (decide ((IntKind.wrap .i64 ((setR y r).Rounded * 10000)) ≥ (IntKind.wrap .i64 ((setR y r).Amount + 10000))))) = false := by
        have f1 : (setR y r).Kind = y.Kind := rfl
        have f2 : (setR y r).Sub = y.Sub := rfl
        have f3 : (setR y r).Name = y.Name := rfl
        have f4 : (setR y r).Category = y.Category := rfl
        have f5 : (setR y r).Count = y.Count := rfl
        have f6 : (setR y r).Units = y.Units := rfl
        have f7 : (setR y r).Amount = y.Amount := rfl
        have f8 : (setR y r).Rounded = r := rfl
        rw [f1, f2, f3, f4, f5, f6, f7, f8, w1, w2, w3]
        simp; omega
      refine .inl ⟨(sumW (ns.take (i + 1)), sumW (amtL (x0.Lines.take (i + 1)))), ?_, rfl, rfl⟩
      simp only [billinglaw46_InvoiceSums_l1, hlt, if_true, hidx, Option.bind_some, idx_nat hy, hc, Bool.false_eq_true, if_false, hw]
      rw [take_snoc hr, take_snoc hy, sumW_snoc]
      have : amtL (List.take i x0.Lines ++ [y]) = amtL (List.take i x0.Lines) ++ [y.Amount] := by simp [amtL]
      rw [this, sumW_snoc]
      rfl) (by omega) rfl
  exact key
theorem sums2 {N : Nat} (hN : 5000 ≤ N) {taxes : List ApiTax} {lines : List ApiLine} {t : Int} {ds : List Str} (hd : ds.length ≤ 4096) (hok : ∀ c ∈ ds, okCat taxes lines t c ∧ c ∈ lines.map fun x => x.Category) :
    loopN (billinglaw46_InvoiceSums_l2 N (taxF taxes lines t ds)) N (0, 0, 0) = some (.inl (sumW (rndT (taxF taxes lines t ds)), sumW (ds.map (mkX taxes lines t)))) := by
  have hfl := taxF_len (taxes := taxes) (lines := lines) (t := t) hd hok
  have key := loop_list (n := N) (s := ((0 : Int), (0 : Int))) (taxF taxes lines t ds) (by rw [maxLen_val]; omega) (f := billinglaw46_InvoiceSums_l2 N (taxF taxes lines t ds)) (fun s i => (s.1, s.2, i))
    (fun i s => s = (sumW (rndT ((taxF taxes lines t ds).take i)), sumW ((ds.map (mkX taxes lines t)).take i))) (fun s xs => .inl (sumW (rndT (taxF taxes lines t ds)), sumW (ds.map (mkX taxes lines t)))) (fun s hI h => by
      have e : (ds.map (mkX taxes lines t)).take (taxF taxes lines t ds).length = ds.map (mkX taxes lines t) := List.take_of_length_le (by simp; omega)
      rw [List.take_length, e] at hI
      subst hI
      simp [billinglaw46_InvoiceSums_l2]) (fun s i x xs hx hlt hidx hw hdr hI => by
      subst hI
      have hk : i < ds.length := by have := (List.getElem?_eq_some_iff.1 hx).1; omega
      obtain ⟨r, hr, he⟩ := taxF_get hd hok (List.getElem?_eq_getElem hk)
      have hx' := hx
      rw [he] at hx'
      injection hx' with hx'
      obtain ⟨⟨o1, o2, o3⟩, o4⟩ := hok ds[i] (List.getElem_mem hk)
      have hxk : (ds.map (mkX taxes lines t))[i]? = some (mkX taxes lines t ds[i]) := by simp [List.getElem?_eq_getElem hk]
      have hp2 : percS x.Base x.Points = (mkX taxes lines t ds[i], 0) := by
        rw [← hx']
        show percS (sumS (amtsS lines ds[i])).1 (ptsS taxes ds[i] t) = ((percS (sumS (amtsS lines ds[i])).1 (ptsS taxes ds[i] t)).1, 0)
        rw [← o3]
      refine .inl ⟨(sumW (rndT ((taxF taxes lines t ds).take (i + 1))), sumW ((ds.map (mkX taxes lines t)).take (i + 1))), ?_, rfl, rfl⟩
      simp only [billinglaw46_InvoiceSums_l2, hlt, if_true, hidx, Option.bind_some, perc_p hN, hp2, bne_self_eq_false, Bool.false_eq_true, if_false, hw]
      rw [take_snoc hxk, take_snoc hx, sumW_snoc]
      have : rndT (List.take i (taxF taxes lines t ds) ++ [x]) = rndT (List.take i (taxF taxes lines t ds)) ++ [x.Rounded] := by simp [rndT]
      rw [this, sumW_snoc]) (by omega) rfl
  exact key
theorem check_built {N : Nat} (hN : 5000 ≤ N) {inv : ApiInvoice} {s : Int} (h0 : inv.Lines.length ≠ 0) (hl : inv.Lines.length ≤ 4096) (hv : (amtL inv.Lines).all valB = true) (ht : invoice_taxed N inv = some (s, true)) (he : rndL inv.Lines = roundS (amtL inv.Lines))
    (h1 : inv.Net = sumW (roundS (amtL inv.Lines))) (h2 : inv.Tax = s) (h3 : inv.Total = IntKind.wrap .i64 (inv.Net + inv.Tax)) : invoice_Check N inv = some true := by
  unfold invoice_Check
  have hb : (((inv.Lines.length : Int) == 0) || decide ((inv.Lines.length : Int) > 4096)) = false := by
    have : ((inv.Lines.length : Int) == 0) = false := by rw [beq_eq_false_iff_ne]; omega
    rw [this]; simp; omega
  rw [hb, amounts_p hN hl, hv]
  have hrl := round_len (l := amtL inv.Lines) (by rw [amtL_len]; omega) hv
  rw [amtL_len] at hrl
  simp only [Bool.false_eq_true, if_false, Option.bind_some, cond_true, Bool.not_true, round_p hN, chkLoop hN hl hrl]
  rw [if_pos he]
  simp only [ht, Option.bind_some]
  rw [h3, h1, h2]
  simp
theorem law_InvoiceSums (x0 : Billinglaw46Case) (g0 : gd tyBillinglaw46Case x0) : ∃ N, billinglaw46_InvoiceSums N x0 = some true := by
  refine ⟨10000 + 64, ?_⟩
  unfold billinglaw46_InvoiceSums billinglaw46_small
  rw [awake46]
  simp only [Option.bind_some]
  cases hs : (decide ((x0.Lines.length : Int) ≤ 60) && decide ((x0.Taxes.length : Int) ≤ 40)) with
  | false => rfl
  | true =>
    simp only [Bool.and_eq_true, decide_eq_true_eq] at hs
    simp only [Bool.not_true, Bool.false_eq_true, if_false, build_p (show x0.Taxes.length ≤ 4096 by omega), Option.bind_some]
    by_cases he : (buildS x0.Account x0.Period x0.Lines x0.Taxes).2.2.2.2.2.1 = 0
    · obtain ⟨h1, h2, h3, h4, h5, h6, h7, h8⟩ := build_good he
      obtain ⟨ds, d1, d2, d3, d4⟩ := lines_form2 x0.Taxes x0.Lines (IntKind.wrap .i64 (x0.Period.To - 1))
      have hal : (amtL x0.Lines).length ≤ 4096 := by rw [amtL_len]; omega
      have hrl := round_len hal h5
      rw [amtL_len] at hrl
      have hzl : (List.zipWith setR x0.Lines (roundS (amtL x0.Lines))).length = x0.Lines.length := by simp; omega
      have hX := mkX_valid (taxes := x0.Taxes) (t := IntKind.wrap .i64 (x0.Period.To - 1)) d3
      obtain ⟨a1, a2, a3⟩ := round_sumW hal h5
      obtain ⟨b1, b2, b3⟩ := round_sumW (l := ds.map (mkX x0.Taxes x0.Lines (IntKind.wrap .i64 (x0.Period.To - 1)))) (by simpa using d2) hX
      have hT : (taxLinesS x0.Taxes x0.Lines (IntKind.wrap .i64 (x0.Period.To - 1))).2 = taxF x0.Taxes x0.Lines (IntKind.wrap .i64 (x0.Period.To - 1)) ds := d4
      rw [h8, hT]
      have hbl : ((List.zipWith setR x0.Lines (roundS (amtL x0.Lines))).length : Int) = (x0.Lines.length : Int) := by rw [hzl]
      simp only [goodS, bne_self_eq_false, Bool.false_eq_true, if_false, hbl, sums1 (N := 10064) (by omega) h4 h5, sums2 (N := 10064) (by omega) d2 d3, Option.bind_some, beq_self_eq_true, if_true, rounded_p 10064 a2 a3, rounded_p 10064 b2 b3, a1, taxF_rnd d2 d3, b1, Bool.and_self, Bool.true_and]
      have hchk : invoice_Check 10064 (x0.Account, x0.Period, List.zipWith setR x0.Lines (roundS (amtL x0.Lines)), taxF x0.Taxes x0.Lines (IntKind.wrap .i64 (x0.Period.To - 1)) ds, rndS (sumW (amtL x0.Lines)), rndS (sumW (ds.map (mkX x0.Taxes x0.Lines (IntKind.wrap .i64 (x0.Period.To - 1))))), IntKind.wrap .i64 (rndS (sumW (amtL x0.Lines)) + rndS (sumW (ds.map (mkX x0.Taxes x0.Lines (IntKind.wrap .i64 (x0.Period.To - 1))))))) = some true := by
        have hzz : x0.Lines.length = (roundS (amtL x0.Lines)).length := hrl.symm
        have haz := amtL_zip hzz
        have hcz : ∀ c, ((List.zipWith setR x0.Lines (roundS (amtL x0.Lines))).any fun x => x.Category == c) = x0.Lines.any fun x => x.Category == c := fun c => any_zip hzz
        refine check_built (by omega) (s := sumW (rndT (taxF x0.Taxes x0.Lines (IntKind.wrap .i64 (x0.Period.To - 1)) ds))) ?_ ?_ ?_ (taxed_built (by omega) d1 d2 d3 rfl ?_ (fun c => amts_zip hzz) hcz) ?_ ?_ ?_ rfl
        · show (List.zipWith setR x0.Lines (roundS (amtL x0.Lines))).length ≠ 0
          rw [hzl]; exact h3
        · show (List.zipWith setR x0.Lines (roundS (amtL x0.Lines))).length ≤ 4096
          rw [hzl]; exact h4
        · show (amtL (List.zipWith setR x0.Lines (roundS (amtL x0.Lines)))).all valB = true
          rw [haz]; exact h5
        · show (List.zipWith setR x0.Lines (roundS (amtL x0.Lines))).length ≤ 4096
          rw [hzl]; exact h4
        · show rndL (List.zipWith setR x0.Lines (roundS (amtL x0.Lines))) = roundS (amtL (List.zipWith setR x0.Lines (roundS (amtL x0.Lines))))
          rw [haz, rndL_zip hzz]
        · show rndS (sumW (amtL x0.Lines)) = sumW (roundS (amtL (List.zipWith setR x0.Lines (roundS (amtL x0.Lines)))))
          rw [haz, a1]
        · show rndS (sumW (ds.map (mkX x0.Taxes x0.Lines (IntKind.wrap .i64 (x0.Period.To - 1))))) = _
          rw [taxF_rnd d2 d3, b1]
      rw [hchk]
      rfl
    · obtain ⟨e, hee⟩ := build_err he
      have h0 : (e != 0) = true := by
        rw [hee, noInv_err] at he
        simpa using he
      rw [hee]
      simp only [noInv, h0, if_true, List.length_nil]
      rfl
where
  any_zip {c : Str} : ∀ {ls : List ApiLine} {ns : List Int}, ls.length = ns.length → ((List.zipWith setR ls ns).any fun x => x.Category == c) = ls.any fun x => x.Category == c
    | [], _, _ => by simp
    | x :: ls, [], h => by simp at h
    | x :: ls, n :: ns, h => by
      simp only [List.zipWith_cons_cons, List.any_cons, any_zip (c := c) (ls := ls) (ns := ns) (by simpa using h)]
      rfl
end Gx
