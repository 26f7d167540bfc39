/- Taxes: lists, rates. -/
import Derived.Test.YtaekakpannjacaaXPScale
import Derived.Test.YtaekakpannjacaaXPStr
import Derived.Test.YtaekakpannjacaaXQ
namespace Gx
open Go Gd
set_option linter.unusedVariables false
set_option linter.unusedSimpArgs false

theorem awake45 : billinglaw45_awake (10000 + 64) = some true := by
  have : ∀ M, billinglaw45_awake (M + 64) = some true := fun M => by kernel_rfl
  exact this 10000

/-! ## Names -/
theorem sidx_get {s : Str} {i : Nat} {c : UInt8} (h : s[i]? = some c) : sidx s (i : Int) = some (c.toNat : Int) := by simp [sidx, idx_nat h]
def okc (c : UInt8) : Bool := !(((decide ((c.toNat : Int) < 97) || decide ((c.toNat : Int) > 122)) && (decide ((c.toNat : Int) < 48) || decide ((c.toNat : Int) > 57))) && ((c.toNat : Int) != 45))

theorem nameLoop_p {N : Nat} (hN : 5000 ≤ N) {s : Str} (hs : s.length ≤ 24) : ∀ k i, i + k = s.length → ∀ fuel, k < fuel → loopN (tax_name_l1 N s) fuel (i : Int) = some (bif (s.drop i).all okc then .inl () else .inr false)
  | 0, i, hi, fuel, hf => by
    obtain ⟨m, rfl⟩ : ∃ m, fuel = m + 1 := ⟨fuel - 1, by omega⟩
    have : i = s.length := by omega
    subst this
    simp [loopN, tax_name_l1]
  | k + 1, i, hi, fuel, hf => by
    obtain ⟨m, rfl⟩ : ∃ m, fuel = m + 1 := ⟨fuel - 1, by omega⟩
    have hlt : i < s.length := by omega
    have hd := List.drop_eq_getElem_cons hlt
    have hw : IntKind.wrap .i64 ((i : Int) + 1) = ((i + 1 : Nat) : Int) := wrap_succ (by rw [maxLen_val]; omega)
    have ih := nameLoop_p hN hs k (i + 1) (by omega) m (by omega)
    rw [hd]
    simp only [loopN, tax_name_l1, show decide ((i : Int) < (s.length : Int)) = true by simpa using hlt, if_true, sidx_get (List.getElem?_eq_getElem hlt), Option.bind_some, hw, List.all_cons]
    have e : (((decide ((s[i].toNat : Int) < 97) || decide ((s[i].toNat : Int) > 122)) && (decide ((s[i].toNat : Int) < 48) || decide ((s[i].toNat : Int) > 57))) && ((s[i].toNat : Int) != 45)) = !okc s[i] := (Bool.not_not _).symm
    rw [e]
    cases hc : okc s[i] with
    | true => simpa using ih
    | false => rfl

theorem nameLoop_r {N : Nat} (hN : 5000 ≤ N) {s : Str} (hs : s.length ≤ 24) : ∀ k i, i + k = s.length → ∀ fuel, k < fuel → loopN (billingref17_Name_l1 N s) fuel (i : Int) = some (bif (s.drop i).all okc then .inl () else .inr false)
  | 0, i, hi, fuel, hf => by
    obtain ⟨m, rfl⟩ : ∃ m, fuel = m + 1 := ⟨fuel - 1, by omega⟩
    have : i = s.length := by omega
    subst this
    simp [loopN, billingref17_Name_l1]
  | k + 1, i, hi, fuel, hf => by
    obtain ⟨m, rfl⟩ : ∃ m, fuel = m + 1 := ⟨fuel - 1, by omega⟩
    have hlt : i < s.length := by omega
    have hd := List.drop_eq_getElem_cons hlt
    have hw : IntKind.wrap .i64 ((i : Int) + 1) = ((i + 1 : Nat) : Int) := wrap_succ (by rw [maxLen_val]; omega)
    have ih := nameLoop_r hN hs k (i + 1) (by omega) m (by omega)
    rw [hd]
    simp only [loopN, billingref17_Name_l1, show decide ((i : Int) < (s.length : Int)) = true by simpa using hlt, if_true, sidx_get (List.getElem?_eq_getElem hlt), Option.bind_some, hw, List.all_cons]
    have e : (((decide ((s[i].toNat : Int) < 97) || decide ((s[i].toNat : Int) > 122)) && (decide ((s[i].toNat : Int) < 48) || decide ((s[i].toNat : Int) > 57))) && ((s[i].toNat : Int) != 45)) = !okc s[i] := (Bool.not_not _).symm
    generalize decide ((s[i].toNat : Int) < 97) = b1 at *
    generalize decide ((s[i].toNat : Int) > 122) = b2 at *
    generalize decide ((s[i].toNat : Int) < 48) = b3 at *
    generalize decide ((s[i].toNat : Int) > 57) = b4 at *
    generalize ((s[i].toNat : Int) != 45) = b5 at *
    cases hc : okc s[i] <;> rw [hc] at e <;> cases b1 <;> cases b2 <;> cases b3 <;> cases b4 <;> cases b5 <;> first | (exact absurd e (by decide)) | rfl | (simp; exact ih)

def nameS (s : Str) : Bool := decide (1 ≤ s.length) && decide (s.length ≤ 24) && (match s with
  | c :: _ => decide (97 ≤ c.toNat) && decide (c.toNat ≤ 122)
  | [] => false) && s.all okc
theorem okc_letter {c : UInt8} (h1 : 97 ≤ c.toNat) (h2 : c.toNat ≤ 122) : okc c = true := by
  have a1 : decide ((c.toNat : Int) < 97) = false := decide_eq_false (by omega)
  have a2 : decide ((c.toNat : Int) > 122) = false := decide_eq_false (by omega)
  unfold okc
  rw [a1, a2]; rfl
theorem name_p {N : Nat} (hN : 5000 ≤ N) (s : Str) : tax_name N s = some (nameS s) := by
  unfold tax_name
  cases s with
  | nil => rfl
  | cons c s =>
    have e0 : ((c :: s) == ([] : Str)) = false := rfl
    have i0 : sidx (c :: s) 0 = some (c.toNat : Int) := rfl
    simp only [e0, Bool.false_or, i0, Option.bind_some]
    by_cases hl : (c :: s).length ≤ 24
    · have d1 : decide (((c :: s).length : Int) > 24) = false := decide_eq_false (by omega)
      have d2 : decide (1 ≤ (c :: s).length) = true := decide_eq_true (by simp)
      rw [d1]
      have hloop : loopN (tax_name_l1 N (c :: s)) N 1 = some (bif s.all okc then .inl () else .inr false) := nameLoop_p hN hl s.length 1 (by simp; omega) N (by simp at hl; omega)
      rw [hloop]
      simp only [nameS, d2, decide_eq_true hl, Bool.true_and, List.all_cons]
      by_cases h1 : 97 ≤ c.toNat
      · by_cases h2 : c.toNat ≤ 122
        · have a1 : decide ((c.toNat : Int) < 97) = false := decide_eq_false (by omega)
          have a2 : decide ((c.toNat : Int) > 122) = false := decide_eq_false (by omega)
          rw [a1, a2, decide_eq_true h1, decide_eq_true h2, okc_letter h1 h2]
          cases s.all okc <;> rfl
        · have a1 : decide ((c.toNat : Int) < 97) = false := decide_eq_false (by omega)
          have a2 : decide ((c.toNat : Int) > 122) = true := decide_eq_true (by omega)
          rw [a1, a2, decide_eq_true h1, decide_eq_false h2]
          simp
      · have a1 : decide ((c.toNat : Int) < 97) = true := decide_eq_true (by omega)
        rw [a1, decide_eq_false h1]
        simp
    · have d1 : decide (((c :: s).length : Int) > 24) = true := decide_eq_true (by omega)
      rw [d1]
      simp only [nameS, decide_eq_false hl]
      simp
theorem name_r {N : Nat} (hN : 5000 ≤ N) (s : Str) : billingref17_Name N s = some (nameS s) := by
  unfold billingref17_Name
  cases s with
  | nil => rfl
  | cons c s =>
    have e0 : decide (((c :: s).length : Int) < 1) = false := decide_eq_false (by simp; omega)
    have i0 : sidx (c :: s) 0 = some (c.toNat : Int) := rfl
    simp only [e0, Bool.false_or, i0, Option.bind_some]
    by_cases hl : (c :: s).length ≤ 24
    · have d1 : decide (((c :: s).length : Int) > 24) = false := decide_eq_false (by omega)
      have d2 : decide (1 ≤ (c :: s).length) = true := decide_eq_true (by simp)
      rw [d1]
      have hloop : loopN (billingref17_Name_l1 N (c :: s)) N 0 = some (bif (c :: s).all okc then .inl () else .inr false) := nameLoop_r hN hl (s.length + 1) 0 (by simp) N (by simp at hl; omega)
      rw [hloop]
      simp only [nameS, d2, decide_eq_true hl, Bool.true_and]
      by_cases h1 : 97 ≤ c.toNat
      · by_cases h2 : c.toNat ≤ 122
        · have a1 : decide ((c.toNat : Int) < 97) = false := decide_eq_false (by omega)
          have a2 : decide ((c.toNat : Int) > 122) = false := decide_eq_false (by omega)
          rw [a1, a2, decide_eq_true h1, decide_eq_true h2]
          cases (c :: s).all okc <;> rfl
        · have a1 : decide ((c.toNat : Int) < 97) = false := decide_eq_false (by omega)
          have a2 : decide ((c.toNat : Int) > 122) = true := decide_eq_true (by omega)
          rw [a1, a2, decide_eq_true h1, decide_eq_false h2]
          simp
      · have a1 : decide ((c.toNat : Int) < 97) = true := decide_eq_true (by omega)
        rw [a1, decide_eq_false h1]
        simp
    · have d1 : decide (((c :: s).length : Int) > 24) = true := decide_eq_true (by omega)
      rw [d1]
      simp only [nameS, decide_eq_false hl]
      simp

/-! ## Lists -/
theorem check_l1_eq {N : Nat} (hN : 5000 ≤ N) (l : List ApiTax) : ∀ v, tax_Check_l1 N l v = billingref45_Check_l1 N l v := by
  intro v
  simp only [tax_Check_l1, billingref45_Check_l1, name_p hN, name_r hN, billingref45_before]
  split
  · cases idx l v with
    | none => rfl
    | some x =>
      simp only [Option.bind_some]
      split
      · rfl
      · split
        · rfl
        · split
          · rfl
          · split
            · cases idx l (IntKind.wrap .i64 (v - 1)) with
              | none => rfl
              | some y =>
                simp only [Option.bind_some]
                have hge : decide (y.From ≥ x.From) = !decide (y.From < x.From) := by
                  by_cases h : y.From < x.From
                  · rw [decide_eq_true h, decide_eq_false (by omega)]; rfl
                  · rw [decide_eq_false h, decide_eq_true (by omega)]; rfl
                rw [hge]
                cases hb : Op.bytesLess y.Category x.Category with
                | true =>
                  have hne : (y.Category == x.Category) = false := by
                    rw [← Bool.not_eq_true]
                    intro h
                    have := eq_of_beq h
                    exact bl_ne hb this
                  simp [hne]
                | false =>
                  cases (y.Category == x.Category) <;> cases decide (y.From < x.From) <;> rfl
            · rfl
  · rfl
theorem check_ok {N : Nat} (hN : 5000 ≤ N) {l : List ApiTax} (hl : l.length ≤ 4096) : ∃ r, billingref45_Check N l = some r := by
  unfold billingref45_Check
  rw [if_neg (by simp; omega)]
  obtain ⟨x, h1, _⟩ := loopN_inv (f := billingref45_Check_l1 N l) (n := N) (s := (0 : Int)) l.length (fun i s => s = (i : Int)) (fun _ => True) (fun i s hi hs => by
    subst hs
    rcases Nat.lt_or_ge i l.length with hlt | hge
    · simp only [billingref45_Check_l1, show decide ((i : Int) < (l.length : Int)) = true by simpa using hlt, if_true, idx_get hlt, Option.bind_some, name_r hN, wrap_succ (show i < maxLen by rw [maxLen_val]; omega)]
      split
      · exact .inr ⟨_, rfl, trivial⟩
      · split
        · exact .inr ⟨_, rfl, trivial⟩
        · split
          · exact .inr ⟨_, rfl, trivial⟩
          · have key : ∃ b : Bool, (if decide ((i : Int) > 0) = true then (idx l (IntKind.wrap .i64 ((i : Int) - 1))).bind fun x4 => (billingref45_before N x4 l[i]).bind fun r5 => some (!r5) else some false) = some b := by
              by_cases h0 : (i : Int) > 0
              · rw [if_pos (by simpa using h0), wrap64 (by omega) (by omega), show (i : Int) - 1 = ((i - 1 : Nat) : Int) by omega, idx_get (show i - 1 < l.length by omega)]
                exact ⟨_, rfl⟩
              · exact ⟨false, if_neg (by simpa using h0)⟩
            obtain ⟨b, hb⟩ := key
            rw [hb]
            cases b with
            | true => exact .inr ⟨_, rfl, trivial⟩
            | false => exact .inl ⟨_, hlt, rfl, rfl⟩
    · have : i = l.length := by omega
      subst this
      exact .inr ⟨.inl (), by simp [billingref45_Check_l1], trivial⟩) (by omega) rfl
  rw [h1]
  cases x <;> exact ⟨_, rfl⟩
theorem check_eq {N : Nat} (hN : 5000 ≤ N) (l : List ApiTax) : tax_Check N l = billingref45_Check N l := by
  unfold tax_Check billingref45_Check
  rw [loopN_congr (check_l1_eq hN l)]

theorem law_TaxChecks (x0 : List ApiTax) (g0 : gd (.sl tyApiTax) x0) : ∃ N, billinglaw45_TaxChecks N x0 = some true := by
  refine ⟨10000 + 64, ?_⟩
  unfold billinglaw45_TaxChecks
  rw [awake45]
  split
  · rfl
  · rename_i h
    obtain ⟨r, hr⟩ := check_ok (N := 10000 + 64) (by omega) (l := x0) (by simp at h; omega)
    rw [check_eq (by omega), hr]
    simp
end Gx
