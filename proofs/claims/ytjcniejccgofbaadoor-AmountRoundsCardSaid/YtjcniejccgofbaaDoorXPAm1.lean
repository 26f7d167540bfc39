/- Amount, chapter 01: the statements about products, percentages, roundings. -/
import Derived.Test.YtjcniejccgofbaaDoorXPAm0
import Derived.Test.YtjcniejccgofbaaDoorXPGive
namespace Gx
open Go Gd
set_option linter.unusedVariables false
set_option linter.unusedSimpArgs false
set_option maxRecDepth 100000

theorem scale_id (a : Int) : scaleS a 10000 10000 = bif valB a then (a, 0) else (0, 6) := by
  unfold scaleS
  cases h : valB a with
  | false => simp
  | true =>
    have hb := valB_iff.1 h
    have e : rdiv a.natAbs (10000 : Int).toNat (10000 : Int).toNat = a.natAbs := by
      rw [show (10000 : Int).toNat = 10000 from rfl]
      unfold rdiv
      rw [Nat.mul_mod_left, Nat.mul_div_cancel _ (by omega)]
      rfl
    rw [e, if_pos (by omega)]
    simp only [Bool.not_true, Bool.false_or, cond_true]
    rw [show (decide ((10000 : Int) < 0) || decide ((10000 : Int) > 1099511627776) || decide ((10000 : Int) < 1) || decide ((10000 : Int) > 1099511627776)) = false from rfl]
    simp only [cond_false]
    split
    · rw [show -(a.natAbs : Int) = a by omega]
    · rw [show (a.natAbs : Int) = a by omega]

theorem law_AmountPercents (x0 : Int) (g0 : gd (.int .i64) x0) (x1 : Int) (g1 : gd (.int .i64) x1) : ∃ N, billinglaw01_AmountPercents N x0 x1 = some true := by
  refine ⟨10000 + 64, ?_⟩
  unfold billinglaw01_AmountPercents
  rw [perc_p (by omega), perc_r (by omega), perc_p (by omega), awake01, valid_r]
  have e : percS x0 10000 = bif valB x0 then (x0, 0) else (0, 6) := by
    unfold percS
    rw [scale_id]
    rfl
  simp only [Option.bind_some, e]
  cases valB x0 <;> simp

theorem law_AmountRounds (x0 : Int) (g0 : gd (.int .i64) x0) (x1 : List Int) (g1 : gd (.sl (.int .i64)) x1) : ∃ N, billinglaw01_AmountRounds N x0 x1 = some true := by
  refine ⟨10000 + 64, ?_⟩
  unfold billinglaw01_AmountRounds
  rw [awake01]
  split
  · rfl
  · rename_i h
    have hl : x1.length ≤ 200 := by simp at h; omega
    have g0 : -9223372036854775808 ≤ x0 ∧ x0 ≤ 9223372036854775807 := g0
    have hr := round_len_le x1
    rw [rounded_p _ g0.1 (by omega), rounded_r _ g0.1 (by omega), app_of (by simp; omega)]
    simp only [Option.bind_some, List.nil_append, round_p (N := 10000 + 64) (by omega), round_r (N := 10000 + 64) (by omega), same01 hr (show 5000 ≤ 10000 + 64 by omega)]
    simp
end Gx
