/- Taxes: rates, divided amounts. -/
import Derived.Test.YtaekakpannjacaaXPTax
namespace Gx
open Go Gd
set_option linter.unusedVariables false
set_option linter.unusedSimpArgs false

/-! ## Rates -/
theorem points_l1_eq (N : Nat) (l : List ApiTax) (c : Str) (t : Int) : ∀ s, tax_Points_l1 N l c t s = billingref45_Points_l1 N l c t s := by
  rintro ⟨b, i⟩
  simp only [tax_Points_l1, billingref45_Points_l1]
  split
  · cases h : idx l i with
    | none => rfl
    | some x =>
      simp only [Option.bind_some]
      cases (x.Category == c) <;> simp
  · rfl
theorem points_eq (N : Nat) (l : List ApiTax) (c : Str) (t : Int) : tax_Points N l c t = billingref45_Points N l c t := by
  unfold tax_Points billingref45_Points
  rw [loopN_congr (points_l1_eq N l c t)]
def ptsStep (c : Str) (t : Int) (n : Int) (x : ApiTax) : Int := if (x.Category == c && decide (x.From ≤ t)) = true then x.Points else n
def ptsS (l : List ApiTax) (c : Str) (t : Int) : Int := l.foldl (ptsStep c t) 0
theorem points_p {N : Nat} {l : List ApiTax} (hl : l.length ≤ 4096) (hN : 5000 ≤ N) (c : Str) (t : Int) : tax_Points N l c t = some (ptsS l c t) := by
  unfold tax_Points
  have key := loop_list (n := N) (s := (0 : Int)) l (by rw [maxLen_val]; omega) (f := tax_Points_l1 N l c t) (fun s i => (s, i)) (fun i s => True) (fun s xs => xs.foldl (ptsStep c t) s)
    (fun s hI h => by simp [tax_Points_l1]) (fun s i x xs hx hlt hidx hw hd hI => .inl ⟨ptsStep c t s x, by
      simp only [tax_Points_l1, hlt, if_true, hidx, Option.bind_some, hw, ptsStep]
      split <;> rfl, trivial, rfl⟩) (by omega) trivial
  rw [key]
  rfl
theorem points_r {N : Nat} {l : List ApiTax} (hl : l.length ≤ 4096) (hN : 5000 ≤ N) (c : Str) (t : Int) : billingref45_Points N l c t = some (ptsS l c t) := by rw [← points_eq, points_p hl hN]
theorem ascending_ok {N : Nat} (hN : 5000 ≤ N) {l : List ApiTax} (hl : l.length ≤ 4096) : ∃ r, billingref45_Ascending N l = some r := by
  unfold billingref45_Ascending
  obtain ⟨x, h1, _⟩ := loopN_inv (f := billingref45_Ascending_l1 N l) (n := N) (s := (1 : Int)) l.length (fun i s => s = ((i + 1 : Nat) : Int)) (fun _ => True) (fun i s hi hs => by
    subst hs
    rcases Nat.lt_or_ge (i + 1) l.length with hlt | hge
    · simp only [billingref45_Ascending_l1, show decide (((i + 1 : Nat) : Int) < (l.length : Int)) = true by simp; omega, if_true, idx_get hlt, Option.bind_some, wrap_succ (show i + 1 < maxLen by rw [maxLen_val]; omega)]
      rw [wrap64 (by omega) (by omega), show ((i + 1 : Nat) : Int) - 1 = (i : Int) by omega, idx_get (show i < l.length by omega)]
      simp only [Option.bind_some, billingref45_before]
      split
      · exact .inr ⟨_, rfl, trivial⟩
      · exact .inl ⟨_, by omega, rfl, rfl⟩
    · exact .inr ⟨.inl (), by
        have : decide (((i + 1 : Nat) : Int) < (l.length : Int)) = false := decide_eq_false (by omega)
        simp only [billingref45_Ascending_l1, this]; rfl, trivial⟩) (by omega) rfl
  rw [h1]
  cases x <;> exact ⟨_, rfl⟩

theorem law_TaxPoints (x0 : List ApiTax) (g0 : gd (.sl tyApiTax) x0) (x1 : Str) (g1 : gd .str x1) (x2 : Int) (g2 : gd (.int .i64) x2) : ∃ N, billinglaw45_TaxPoints N x0 x1 x2 = some true := by
  refine ⟨10000 + 64, ?_⟩
  unfold billinglaw45_TaxPoints
  rw [awake45]
  by_cases h : (x0.length : Int) > 40
  · rw [if_pos (by simpa using h)]; rfl
  · rw [if_neg (by simpa using h)]
    obtain ⟨r, hr⟩ := ascending_ok (N := 10000 + 64) (by omega) (l := x0) (by omega)
    rw [hr]
    cases r with
    | false => rfl
    | true =>
      simp only [Option.bind_some, points_p (l := x0) (N := 10000 + 64) (by omega) (by omega), points_r (l := x0) (N := 10000 + 64) (by omega) (by omega)]
      simp

/-! ## Divided amounts -/
def extrS (g p : Int) : Int × Int × Int := bif decide (p < 0) || decide (p > 10000) then (0, 0, 6) else
  if (scaleS g 10000 (10000 + p)).2 != 0 then (0, 0, (scaleS g 10000 (10000 + p)).2) else ((scaleS g 10000 (10000 + p)).1, IntKind.wrap .i64 (g - (scaleS g 10000 (10000 + p)).1), 0)
theorem extract_p {N : Nat} (hN : 5000 ≤ N) (g p : Int) : tax_Extract N g p = some (extrS g p) := by
  unfold tax_Extract extrS
  cases hc : (decide (p < 0) || decide (p > 10000)) with
  | true => rfl
  | false =>
    simp only [Bool.or_eq_false_iff, decide_eq_false_iff_not] at hc
    rw [wrap64 (n := 10000 + p) (by omega) (by omega), scale_p hN]
    simp only [Option.bind_some, Bool.false_eq_true, if_false, cond_false]
    split <;> rfl
theorem extract_r {N : Nat} (hN : 5000 ≤ N) (g p : Int) : billingref45_Extract N g p = some (extrS g p) := by
  unfold billingref45_Extract extrS
  rw [valid_r]
  simp only [Option.bind_some]
  cases hc : (decide (p < 0) || decide (p > 10000)) with
  | true => cases valB g <;> simp [hc]
  | false =>
    have hc' := hc
    simp only [Bool.or_eq_false_iff, decide_eq_false_iff_not] at hc'
    rw [wrap64 (n := 10000 + p) (by omega) (by omega), scale_r hN]
    cases hv : valB g with
    | false => simp [hc, scaleS, hv]
    | true =>
      simp only [Bool.not_true, Bool.false_or, hc, Bool.false_eq_true, if_false, Option.bind_some, cond_false]
      split <;> rfl

theorem rdiv_spec {A n d : Nat} (hd : 0 < d) : 2 * (d * rdiv A n d) ≤ 2 * (A * n) + d ∧ 2 * (A * n) ≤ 2 * (d * rdiv A n d) + d := by
  have h1 := Nat.div_add_mod (A * n) d
  have h2 := Nat.mod_lt (A * n) hd
  unfold rdiv
  generalize A * n / d = Q at *
  generalize A * n % d = R at *
  generalize A * n = M at *
  have h3 : d * (Q + 1) = d * Q + d := Nat.mul_succ d Q
  split
  · rw [h3]; omega
  · omega
theorem rdiv_le {A n d : Nat} (hd : 0 < d) (h : n ≤ d) : rdiv A n d ≤ A := by
  have h1 := rdiv_spec (A := A) (n := n) hd
  have h2 : A * n ≤ A * d := Nat.mul_le_mul_left A h
  rcases Nat.lt_or_ge A (rdiv A n d) with hlt | hge
  · have h3 : d * (A + 1) ≤ d * rdiv A n d := Nat.mul_le_mul_left d hlt
    have h4 : d * (A + 1) = A * d + d := by rw [Nat.mul_succ, Nat.mul_comm]
    omega
  · exact hge
theorem extr_close {A p T U : Nat} (hp : p ≤ 10000) (hT : T = rdiv A 10000 (10000 + p)) (hU : U = rdiv T p 10000) : (U : Int) - ((A : Int) - (T : Int)) ≤ 1 ∧ -1 ≤ (U : Int) - ((A : Int) - (T : Int)) := by
  have h1 := rdiv_spec (A := A) (n := 10000) (d := 10000 + p) (by omega)
  have h2 := rdiv_spec (A := T) (n := p) (d := 10000) (by omega)
  rw [← hT] at h1
  rw [← hU] at h2
  have h3 : (10000 + p) * T = 10000 * T + T * p := by rw [Nat.add_mul, Nat.mul_comm p T]
  rw [h3] at h1
  generalize T * p = M at *
  omega

theorem scale_val {a n d : Int} (hv : valB a = true) (hn : 0 ≤ n) (hn2 : n ≤ 1099511627776) (hd : 1 ≤ d) (hd2 : d ≤ 1099511627776) (hT : rdiv a.natAbs n.toNat d.toNat ≤ 1125899906842624) :
    scaleS a n d = (if a < 0 then -((rdiv a.natAbs n.toNat d.toNat : Nat) : Int) else ((rdiv a.natAbs n.toNat d.toNat : Nat) : Int), 0) := by
  unfold scaleS
  rw [hv, decide_eq_false (show ¬ n < 0 by omega), decide_eq_false (show ¬ n > 1099511627776 by omega), decide_eq_false (show ¬ d < 1 by omega), decide_eq_false (show ¬ d > 1099511627776 by omega)]
  simp only [Bool.not_true, Bool.or_false, cond_false, hT, if_true]

theorem law_TaxExtracts (x0 : Int) (g0 : gd (.int .i64) x0) (x1 : Int) (g1 : gd (.int .i64) x1) : ∃ N, billinglaw45_TaxExtracts N x0 x1 = some true := by
  refine ⟨10000 + 64, ?_⟩
  unfold billinglaw45_TaxExtracts
  rw [awake45, extract_p (by omega), extract_r (by omega)]
  simp only [Option.bind_some]
  have hself : ∀ a b c : Int, (((a != a) || (b != b)) || (c != c)) = false := by simp
  rw [hself]
  simp only [Bool.false_eq_true, if_false]
  unfold extrS
  cases hc : (decide (x1 < 0) || decide (x1 > 10000)) with
  | true => rfl
  | false =>
    simp only [Bool.or_eq_false_iff, decide_eq_false_iff_not] at hc
    simp only [cond_false]
    cases hv : valB x0 with
    | false =>
      have : scaleS x0 10000 (10000 + x1) = (0, 6) := by unfold scaleS; rw [hv]; rfl
      rw [this]; rfl
    | true =>
      have hvv := valB_iff.1 hv
      obtain ⟨p, rfl⟩ : ∃ p : Nat, x1 = (p : Int) := ⟨x1.toNat, by omega⟩
      have htn : ((10000 : Int) + (p : Int)).toNat = 10000 + p := by omega
      have hle : rdiv x0.natAbs 10000 (10000 + p) ≤ x0.natAbs := rdiv_le (by omega) (by omega)
      have hsc := scale_val (a := x0) (n := 10000) (d := 10000 + (p : Int)) hv (by omega) (by omega) (by omega) (by omega) (by rw [htn]; show rdiv x0.natAbs 10000 (10000 + p) ≤ _; omega)
      rw [htn] at hsc
      have hsc' : scaleS x0 10000 (10000 + (p : Int)) = (if x0 < 0 then -((rdiv x0.natAbs 10000 (10000 + p) : Nat) : Int) else ((rdiv x0.natAbs 10000 (10000 + p) : Nat) : Int), 0) := hsc
      rw [hsc']
      generalize hT : rdiv x0.natAbs 10000 (10000 + p) = T at *
      simp only [bne_self_eq_false, Bool.false_eq_true, if_false, perc_p (N := 10000 + 64) (by omega), Option.bind_some]
      have hUle : rdiv T p 10000 ≤ T := rdiv_le (by omega) (by omega)
      obtain ⟨c1, c2⟩ := extr_close (A := x0.natAbs) (p := p) (T := T) (U := rdiv T p 10000) (by omega) hT.symm rfl
      generalize hU : rdiv T p 10000 = U at *
      have key : ∀ net : Int, net.natAbs = T → (x0 < 0 → net ≤ 0) → (¬ x0 < 0 → 0 ≤ net) → (match percS net p with | (r9, r10) => (if (((((r10 == 0) && ((IntKind.wrap .i64 (net + (IntKind.wrap .i64 (x0 - net)))) == x0)) && (decide ((IntKind.wrap .i64 (r9 - (IntKind.wrap .i64 (x0 - net)))) ≥ (-1)))) && (decide ((IntKind.wrap .i64 (r9 - (IntKind.wrap .i64 (x0 - net)))) ≤ 1)))) = true then some true else some false : Option Bool).bind fun v12 => some v12) = some true := by
        intro net hn1 hn2 hn3
        have hvn : valB net = true := valB_iff.2 (by omega)
        have hpc : percS net p = (if net < 0 then -(U : Int) else (U : Int), 0) := by
          unfold percS
          rw [decide_eq_false (show ¬ (p : Int) < 0 by omega), decide_eq_false (show ¬ (p : Int) > 10000 by omega)]
          simp only [Bool.or_false, cond_false]
          have h1 := scale_val (a := net) (n := (p : Int)) (d := 10000) hvn (by omega) (by omega) (by omega) (by omega) (by rw [hn1]; show rdiv T p 10000 ≤ _; omega)
          rw [h1, hn1]
          show (if net < 0 then -((rdiv T p 10000 : Nat) : Int) else ((rdiv T p 10000 : Nat) : Int), 0) = _
          rw [hU]
        rw [hpc]
        have w1 : IntKind.wrap .i64 (x0 - net) = x0 - net := wrap64 (by omega) (by omega)
        have w2 : IntKind.wrap .i64 (net + (x0 - net)) = x0 := by rw [wrap64 (by omega) (by omega)]; omega
        have w3 : ∀ v : Int, -1 ≤ v - (x0 - net) → v - (x0 - net) ≤ 1 → IntKind.wrap .i64 (v - (x0 - net)) = v - (x0 - net) := fun v h1 h2 => wrap64 (by omega) (by omega)
        by_cases hneg : net < 0
        · rw [if_pos hneg, w1, w2]
          dsimp only
          rw [w3 (-(U : Int)) (by omega) (by omega), decide_eq_true (show -(U : Int) - (x0 - net) ≥ -1 by omega), decide_eq_true (show -(U : Int) - (x0 - net) ≤ 1 by omega)]
          simp
        · have hU0 : net = 0 → U = 0 := by
            intro h0
            rw [← hU, ← hn1, h0]
            simp [rdiv]
          rw [if_neg hneg, w1, w2]
          dsimp only
          rw [w3 (U : Int) (by omega) (by omega), decide_eq_true (show (U : Int) - (x0 - net) ≥ -1 by omega), decide_eq_true (show (U : Int) - (x0 - net) ≤ 1 by omega)]
          simp
      by_cases hneg : x0 < 0
      · rw [if_pos hneg]
        exact key (-(T : Int)) (by omega) (by omega) (by omega)
      · rw [if_neg hneg]
        exact key (T : Int) (by omega) (by omega) (by omega)
end Gx
