/- Amounts: products and quotients. -/
import Derived.Test.YtjcniejccgofbaaDoorXPAmount
import Derived.Laws.Bits128
namespace Gx
open Go Gd
set_option linter.unusedVariables false
set_option linter.unusedSimpArgs false

theorem i64_and1 (n : Int) : Go.bits .and .i64 n 1 = n % 2 := by
  have h127 : (BitVec.ofInt 64 1).toNat = 2 ^ 1 - 1 := by decide
  have key : (BitVec.ofInt 64 n &&& BitVec.ofInt 64 1).toNat = (n % ((2 ^ 64 : Nat) : Int)).toNat % 2 ^ 1 := by
    rw [BitVec.toNat_and, BitVec.toNat_ofInt, h127, Nat.and_two_pow_sub_one_eq_mod]
  show IntKind.i64.wrap ((BitVec.ofInt 64 n &&& BitVec.ofInt 64 1).toNat : Nat) = n % 2
  rw [key, IntKind.wrap_i64]
  omega

theorem dm_step {A m d b q r : Nat} (hd : 0 < d) (hq : q = A * m / d) (hr : r = A * m % d) (x : Nat) (hx : A * (2 * m + b) = 2 * (A * m) + x) :
    A * (2 * m + b) / d = 2 * q + (2 * r + x) / d ∧ A * (2 * m + b) % d = (2 * r + x) % d := by
  have h1 : A * m = d * q + r := by rw [hq, hr]; exact (Nat.div_add_mod _ _).symm
  have h2 : A * (2 * m + b) = (2 * r + x) + d * (2 * q) := by rw [hx, h1, Nat.mul_add, ← Nat.mul_assoc 2 d q, Nat.mul_comm 2 d, Nat.mul_assoc]; omega
  rw [h2]
  refine ⟨?_, Nat.add_mul_mod_self_left _ _ _⟩
  rw [Nat.add_mul_div_left _ _ hd]; omega

theorem shr_nat (n b : Nat) (hb : b ≤ 62) : shrW .i64 (n : Int) (b : Int) = some ((n / 2 ^ b : Nat) : Int) := by
  unfold shrW
  rw [if_neg (by omega)]
  have : min ((b : Int)).toNat (IntKind.bits .i64) = b := by
    rw [Int.toNat_natCast]; show min b 64 = b; omega
  rw [this]
  congr 1
  rw [Int.fdiv_eq_ediv_of_nonneg _ (by exact_mod_cast Nat.zero_le _)]
  rw [Int.natCast_ediv]; congr 1
theorem wrap_nat {z : Nat} (h : z < 9223372036854775808) : IntKind.wrap .i64 (z : Int) = (z : Int) := wrap64 (by omega) (by omega)
theorem wrap_add_nat {x y : Nat} (h : x + y < 9223372036854775808) : IntKind.wrap .i64 ((x : Int) + (y : Int)) = ((x + y : Nat) : Int) := by rw [← Int.natCast_add]; exact wrap_nat h
theorem wrap_two {x : Nat} (h : 2 * x < 9223372036854775808) : IntKind.wrap .i64 (2 * (x : Int)) = ((2 * x : Nat) : Int) := by rw [wrap64 (by omega) (by omega)]; omega
theorem quo_nat (x y : Nat) (hy : 0 < y) (hx : x < 9223372036854775808) : quoW .i64 (x : Int) (y : Int) = some ((x / y : Nat) : Int) := by
  unfold quoW
  rw [if_neg (by omega), ← Int.ofNat_tdiv]
  have := Nat.div_le_self x y
  rw [wrap_nat (by omega)]
theorem rem_nat (x y : Nat) (hy : 0 < y) : remW (x : Int) (y : Int) = some ((x % y : Nat) : Int) := by
  unfold remW
  rw [if_neg (by omega), ← Int.ofNat_tmod]

theorem half_pow (n b : Nat) : n / 2 ^ b = 2 * (n / 2 ^ (b + 1)) + n / 2 ^ b % 2 := by
  have : n / 2 ^ (b + 1) = n / 2 ^ b / 2 := by rw [Nat.pow_succ, Nat.div_div_eq_div_mul]
  omega

theorem divLoop_p (N : Nat) {A n d : Nat} (hA : A ≤ 1125899906842624) (hn : n ≤ 1099511627776) (hd : 0 < d) (hd2 : d ≤ 70368744177664) : ∀ (b q r fuel : Nat), b ≤ 63 → b < fuel → q = A * (n / 2 ^ b) / d → r = A * (n / 2 ^ b) % d → q ≤ 2251799813685248 →
    ∃ x, loopN (amount_divide_l1 N n A d) fuel ((q : Int), (r : Int), (b : Int) - 1) = some x ∧
      ((x = .inl (((A * n / d : Nat) : Int), ((A * n % d : Nat) : Int)) ∧ A * n / d ≤ 2251799813685248) ∨ ∃ q' : Nat, x = .inr ((q' : Int), 0) ∧ 2251799813685248 < q' ∧ q' ≤ A * n / d ∧ q' < 9007199254740992)
  | 0, q, r, fuel, hb, hf, hq, hr, hle => by
    obtain ⟨m, rfl⟩ : ∃ m, fuel = m + 1 := ⟨fuel - 1, by omega⟩
    simp only [Nat.pow_zero, Nat.div_one] at hq hr
    exact ⟨_, by simp [loopN, amount_divide_l1]; rfl, .inl ⟨by rw [hq, hr], by omega⟩⟩
  | b + 1, q, r, fuel, hb, hf, hq, hr, hle => by
    obtain ⟨f, rfl⟩ : ∃ m, fuel = m + 1 := ⟨fuel - 1, by omega⟩
    have hm := half_pow n b
    generalize hm' : n / 2 ^ b = m' at *
    have hr2 : r < d := by rw [hr]; exact Nat.mod_lt _ hd
    have hAd : A % d < d := Nat.mod_lt _ hd
    have hAq : A / d ≤ A := Nat.div_le_self _ _
    have hAdm : A = d * (A / d) + A % d := (Nat.div_add_mod _ _).symm
    have hm2 : m' ≤ n := by rw [← hm']; exact Nat.div_le_self _ _
    have hmono : A * m' / d ≤ A * n / d := Nat.div_le_div_right (Nat.mul_le_mul_left _ hm2)
    have e0 : (((b + 1 : Nat) : Int) - 1) = (b : Int) := by omega
    have e1 : IntKind.wrap .i64 ((b : Int) - 1) = (b : Int) - 1 := wrap64 (by omega) (by omega)
    simp only [loopN, amount_divide_l1, e0, e1, show (decide ((b : Int) ≥ 0)) = true by simp, if_true, shr_nat n b (by omega), hm', Option.bind_some, i64_and1]
    -- what the bit adds
    have w1 : IntKind.wrap .i64 (2 * (q : Int)) = ((2 * q : Nat) : Int) := wrap_two (by omega)
    have w2 : IntKind.wrap .i64 (2 * (r : Int)) = ((2 * r : Nat) : Int) := wrap_two (by omega)
    have fin : ∀ x : Nat, A * (2 * (n / 2 ^ (b + 1)) + m' % 2) = 2 * (A * (n / 2 ^ (b + 1))) + x → ∀ q1 r1 : Nat, 2 * q + (2 * r + x) / d = q1 + r1 / d → (2 * r + x) % d = r1 % d → r1 ≤ 3 * 70368744177664 → q1 ≤ 6755399441055744 →
        ∃ y, ((quoW .i64 (r1 : Int) (d : Int)).bind fun n9 => (remW (r1 : Int) (d : Int)).bind fun n10 => if (decide ((IntKind.wrap .i64 ((q1 : Int) + n9)) > 2251799813685248)) = true then some (.inr (.inr ((IntKind.wrap .i64 ((q1 : Int) + n9)), (0 : Int)))) else some (.inl ((IntKind.wrap .i64 ((q1 : Int) + n9)), n10, (b : Int) - 1)) : Option ((Int × Int × Int) ⊕ ((Int × Int) ⊕ (Int × Int)))) = some y ∧
          ((∃ q2 r2 : Nat, y = .inl ((q2 : Int), (r2 : Int), (b : Int) - 1) ∧ q2 = A * m' / d ∧ r2 = A * m' % d ∧ q2 ≤ 2251799813685248) ∨ ∃ q' : Nat, y = .inr (.inr ((q' : Int), 0)) ∧ 2251799813685248 < q' ∧ q' ≤ A * n / d ∧ q' < 9007199254740992) := by
      intro x hx q1 r1 hq1 hr1 hb1 hb2
      obtain ⟨s1, s2⟩ := dm_step hd hq hr x hx
      rw [← hm] at s1 s2
      have hdiv := Nat.div_le_self r1 d
      rw [quo_nat r1 d hd (by omega), rem_nat r1 d hd]
      simp only [Option.bind_some]
      have w3 : IntKind.wrap .i64 ((q1 : Int) + ((r1 / d : Nat) : Int)) = ((q1 + r1 / d : Nat) : Int) := wrap_add_nat (by omega)
      rw [w3, ← hq1, ← s1]
      by_cases hgt : ((A * m' / d : Nat) : Int) > 2251799813685248
      · rw [if_pos (by simpa using hgt)]
        refine ⟨_, rfl, .inr ⟨A * m' / d, rfl, by omega, hmono, by omega⟩⟩
      · rw [if_neg (by simpa using hgt)]
        refine ⟨_, rfl, .inl ⟨A * m' / d, A * m' % d, by rw [s2, ← hr1], rfl, rfl, by omega⟩⟩
    rcases Nat.mod_two_eq_zero_or_one m' with hbit | hbit
    · have hb0 : ((((m' : Nat) : Int) % 2) == 1) = false := by
        have : ((m' : Int) % 2) = 0 := by omega
        rw [this]; rfl
      rw [hb0]
      simp only [Bool.false_eq_true, if_false, Option.bind_some, w1, w2]
      obtain ⟨y, hy1, hy2⟩ := fin 0 (by rw [hbit]; simp [Nat.mul_add, Nat.mul_left_comm]) (2 * q) (2 * r) rfl rfl (by omega) (by omega)
      rw [hy1]
      rcases hy2 with ⟨q2, r2, rfl, h1, h2, h3⟩ | ⟨q', rfl, h1, h2, h3⟩
      · exact divLoop_p N hA hn hd hd2 b q2 r2 f (by omega) (by omega) (by rw [hm']; exact h1) (by rw [hm']; exact h2) h3
      · exact ⟨_, rfl, .inr ⟨q', rfl, h1, h2, h3⟩⟩
    · have hb1 : ((((m' : Nat) : Int) % 2) == 1) = true := by
        have : ((m' : Int) % 2) = 1 := by omega
        rw [this]; rfl
      rw [hb1]
      simp only [if_true, Option.bind_some, w1, w2, quo_nat A d hd (by omega), rem_nat A d hd]
      have w4 : IntKind.wrap .i64 (((2 * q : Nat) : Int) + ((A / d : Nat) : Int)) = ((2 * q + A / d : Nat) : Int) := wrap_add_nat (by omega)
      have w5 : IntKind.wrap .i64 (((2 * r : Nat) : Int) + ((A % d : Nat) : Int)) = ((2 * r + A % d : Nat) : Int) := wrap_add_nat (by omega)
      rw [w4, w5]
      obtain ⟨y, hy1, hy2⟩ := fin A (by rw [hbit]; simp [Nat.mul_add, Nat.mul_left_comm]) (2 * q + A / d) (2 * r + A % d) (by
        have : 2 * r + A = (2 * r + A % d) + d * (A / d) := by omega
        rw [this, Nat.add_mul_div_left _ _ hd]; omega) (by
        have : 2 * r + A = (2 * r + A % d) + d * (A / d) := by omega
        rw [this, Nat.add_mul_mod_self_left]) (by omega) (by omega)
      rw [hy1]
      rcases hy2 with ⟨q2, r2, rfl, h1, h2, h3⟩ | ⟨q', rfl, h1, h2, h3⟩
      · exact divLoop_p N hA hn hd hd2 b q2 r2 f (by omega) (by omega) (by rw [hm']; exact h1) (by rw [hm']; exact h2) h3
      · exact ⟨_, rfl, .inr ⟨q', rfl, h1, h2, h3⟩⟩

theorem divide_p {N : Nat} (hN : 5000 ≤ N) {A n d : Nat} (hA : A ≤ 1125899906842624) (hn : n ≤ 1099511627776) (hd : 0 < d) (hd2 : d ≤ 70368744177664) :
    (amount_divide N A n d = some (((A * n / d : Nat) : Int), ((A * n % d : Nat) : Int)) ∧ A * n / d ≤ 2251799813685248) ∨ ∃ q' : Nat, amount_divide N A n d = some ((q' : Int), 0) ∧ 2251799813685248 < q' ∧ q' ≤ A * n / d ∧ q' < 9007199254740992 := by
  have h0 : n / 2 ^ 63 = 0 := Nat.div_eq_of_lt (by omega)
  obtain ⟨x, h1, h2⟩ := divLoop_p N hA hn hd hd2 63 0 0 N (by omega) (by omega) (by rw [h0]; simp) (by rw [h0]; simp) (by omega)
  have h1' : loopN (amount_divide_l1 N (n : Int) (A : Int) (d : Int)) N (0, 0, 62) = some x := h1
  unfold amount_divide
  rw [h1']
  rcases h2 with ⟨rfl, h3⟩ | ⟨q', rfl, h3⟩
  · exact .inl ⟨rfl, h3⟩
  · exact .inr ⟨q', rfl, h3⟩

theorem divLoop_r (N : Nat) {A n d : Nat} (hA : A ≤ 1125899906842624) (hn : n ≤ 1099511627776) (hd : 0 < d) (hd2 : d ≤ 70368744177664) : ∀ (b q r fuel : Nat), b ≤ 51 → b < fuel → q = min (n * (A / 2 ^ b) / d) 288230376151711744 → r = n * (A / 2 ^ b) % d →
    loopN (billingref01_Divide_l1 N A n d) fuel ((q : Int), (r : Int), (b : Int) - 1) = some (((min (n * A / d) 288230376151711744 : Nat) : Int), ((n * A % d : Nat) : Int))
  | 0, q, r, fuel, hb, hf, hq, hr => by
    obtain ⟨m, rfl⟩ : ∃ m, fuel = m + 1 := ⟨fuel - 1, by omega⟩
    simp only [Nat.pow_zero, Nat.div_one] at hq hr
    simp [loopN, billingref01_Divide_l1, hq, hr]
  | b + 1, q, r, fuel, hb, hf, hq, hr => by
    obtain ⟨f, rfl⟩ : ∃ m, fuel = m + 1 := ⟨fuel - 1, by omega⟩
    have hm := half_pow A b
    generalize hm' : A / 2 ^ b = m' at *
    have hr2 : r < d := by rw [hr]; exact Nat.mod_lt _ hd
    have hq2 : q ≤ 288230376151711744 := by rw [hq]; exact Nat.min_le_right _ _
    have e0 : (((b + 1 : Nat) : Int) - 1) = (b : Int) := by omega
    have e1 : IntKind.wrap .i64 ((b : Int) - 1) = (b : Int) - 1 := wrap64 (by omega) (by omega)
    have e2 : IntKind.wrap .u64 (b : Int) = (b : Int) := by
      simp only [IntKind.wrap, IntKind.bits, IntKind.signed]
      simp
      omega
    have w1 : IntKind.wrap .i64 (2 * (q : Int)) = ((2 * q : Nat) : Int) := wrap_two (by omega)
    have w2 : IntKind.wrap .i64 (2 * (r : Int)) = ((2 * r : Nat) : Int) := wrap_two (by omega)
    simp only [loopN, billingref01_Divide_l1, e0, e1, e2, show (decide ((b : Int) ≥ 0)) = true by simp, if_true, shr_nat A b (by omega), hm', Option.bind_some, i64_and1, w1, w2]
    have fin : ∀ x r1 : Nat, n * (2 * (A / 2 ^ (b + 1)) + m' % 2) = 2 * (n * (A / 2 ^ (b + 1))) + x → 2 * r + x = r1 → r1 ≤ 3 * 70368744177664 →
        ∃ q2 r2 : Nat, ((quoW .i64 (r1 : Int) (d : Int)).bind fun n6 => (remW (r1 : Int) (d : Int)).bind fun n7 => if (decide ((IntKind.wrap .i64 (((2 * q : Nat) : Int) + n6)) > 288230376151711744)) = true then some ((288230376151711744 : Int), n7) else some ((IntKind.wrap .i64 (((2 * q : Nat) : Int) + n6)), n7)) = some ((q2 : Int), (r2 : Int)) ∧
          q2 = min (n * m' / d) 288230376151711744 ∧ r2 = n * m' % d := by
      intro x r1 hx hr1 hb1
      have s0 := dm_step (q := n * (A / 2 ^ (b + 1)) / d) hd rfl hr x hx
      rw [← hm, hr1] at s0
      obtain ⟨s1, s2⟩ := s0
      have hdiv := Nat.div_le_self r1 d
      rw [quo_nat r1 d hd (by omega), rem_nat r1 d hd]
      simp only [Option.bind_some]
      have w3 : IntKind.wrap .i64 (((2 * q : Nat) : Int) + ((r1 / d : Nat) : Int)) = ((2 * q + r1 / d : Nat) : Int) := wrap_add_nat (by omega)
      rw [w3, ← s2]
      generalize n * (A / 2 ^ (b + 1)) / d = Q at *
      generalize n * m' / d = Q' at *
      generalize r1 / d = t at *
      by_cases hgt : ((2 * q + t : Nat) : Int) > 288230376151711744
      · rw [if_pos (by simpa using hgt)]
        exact ⟨288230376151711744, n * m' % d, rfl, by omega, rfl⟩
      · rw [if_neg (by simpa using hgt)]
        exact ⟨2 * q + t, n * m' % d, rfl, by omega, rfl⟩
    rcases Nat.mod_two_eq_zero_or_one m' with hbit | hbit
    · have hb0 : ((((m' : Nat) : Int) % 2) == 1) = false := by
        have : ((m' : Int) % 2) = 0 := by omega
        rw [this]; rfl
      rw [hb0]
      simp only [Bool.false_eq_true, if_false, Option.bind_some]
      obtain ⟨q2, r2, h1, h2, h3⟩ := fin 0 (2 * r) (by rw [hbit]; simp [Nat.mul_add, Nat.mul_left_comm]) rfl (by omega)
      rw [h1]
      exact divLoop_r N hA hn hd hd2 b q2 r2 f (by omega) (by omega) (by rw [hm']; exact h2) (by rw [hm']; exact h3)
    · have hb1 : ((((m' : Nat) : Int) % 2) == 1) = true := by
        have : ((m' : Int) % 2) = 1 := by omega
        rw [this]; rfl
      rw [hb1]
      have w4 : IntKind.wrap .i64 (((2 * r : Nat) : Int) + (n : Int)) = ((2 * r + n : Nat) : Int) := wrap_add_nat (by omega)
      simp only [if_true, Option.bind_some, w4]
      obtain ⟨q2, r2, h1, h2, h3⟩ := fin n (2 * r + n) (by rw [hbit]; simp [Nat.mul_add, Nat.mul_left_comm]) rfl (by omega)
      rw [h1]
      exact divLoop_r N hA hn hd hd2 b q2 r2 f (by omega) (by omega) (by rw [hm']; exact h2) (by rw [hm']; exact h3)
theorem divide_r {N : Nat} (hN : 5000 ≤ N) {A n d : Nat} (hA : A ≤ 1125899906842624) (hn : n ≤ 1099511627776) (hd : 0 < d) (hd2 : d ≤ 70368744177664) :
    billingref01_Divide N A n d = some (((min (A * n / d) 288230376151711744 : Nat) : Int), ((A * n % d : Nat) : Int)) := by
  have h0 : A / 2 ^ 51 = 0 := Nat.div_eq_of_lt (by omega)
  have h1 := divLoop_r N hA hn hd hd2 51 0 0 N (by omega) (by omega) (by rw [h0]; simp) (by rw [h0]; simp)
  have h1' : loopN (billingref01_Divide_l1 N (A : Int) (n : Int) (d : Int)) N (0, 0, 50) = some (((min (n * A / d) 288230376151711744 : Nat) : Int), ((n * A % d : Nat) : Int)) := h1
  unfold billingref01_Divide
  rw [h1', Nat.mul_comm n A]
  rfl

/-! ## Products, rounded -/
/-- a * n / d, rounded. -/
def rdiv (A n d : Nat) : Nat := if d ≤ 2 * (A * n % d) then A * n / d + 1 else A * n / d
def scaleS (a n d : Int) : Int × Int := bif !valB a || decide (n < 0) || decide (n > 1099511627776) || decide (d < 1) || decide (d > 1099511627776) then (0, 6) else
  if rdiv a.natAbs n.toNat d.toNat ≤ 1125899906842624 then (if a < 0 then -((rdiv a.natAbs n.toNat d.toNat : Nat) : Int) else ((rdiv a.natAbs n.toNat d.toNat : Nat) : Int), 0) else (0, 6)

theorem rdiv_ge {A n d : Nat} : A * n / d ≤ rdiv A n d ∧ rdiv A n d ≤ A * n / d + 1 := by unfold rdiv; split <;> omega

theorem scale_p {N : Nat} (hN : 5000 ≤ N) (a n d : Int) : amount_Scale N a n d = some (scaleS a n d) := by
  unfold amount_Scale scaleS
  rw [valid_p]
  simp only [Option.bind_some]
  cases hc : (!valB a || decide (n < 0) || decide (n > 1099511627776) || decide (d < 1) || decide (d > 1099511627776)) with
  | true => simp
  | false =>
    simp only [Bool.or_eq_false_iff, Bool.not_eq_false', decide_eq_false_iff_not] at hc
    obtain ⟨⟨⟨⟨h1, h2⟩, h3⟩, h4⟩, h5⟩ := hc
    have hv := valB_iff.1 h1
    obtain ⟨n, rfl⟩ : ∃ m : Nat, n = m := ⟨n.toNat, by omega⟩
    obtain ⟨d, rfl⟩ : ∃ m : Nat, d = m := ⟨d.toNat, by omega⟩
    have w0 : IntKind.wrap .i64 (0 - a) = -a := by rw [wrap64 (by omega) (by omega)]; omega
    have ha : (if -a > a then -a else a) = ((a.natAbs : Nat) : Int) := by split <;> omega
    simp only [Bool.false_eq_true, if_false, cond_false, w0, ha, Int.toNat_natCast]
    generalize hA : a.natAbs = A
    have hA2 : A ≤ 1125899906842624 := by omega
    rcases divide_p hN hA2 (n := n) (d := d) (by omega) (by omega) (by omega) with ⟨q1, q2⟩ | ⟨q', q1, q2, q3, q4⟩
    · rw [q1]
      have hlt := Nat.mod_lt (A * n) (show d > 0 by omega)
      generalize hQ : A * n / d = Q at *
      generalize hR : A * n % d = R at *
      have w1 : IntKind.wrap .i64 ((d : Int) - (R : Int)) = (d : Int) - (R : Int) := wrap64 (by omega) (by omega)
      have w2 : IntKind.wrap .i64 ((Q : Int) + 1) = ((Q + 1 : Nat) : Int) := by rw [wrap64 (by omega) (by omega)]; omega
      have e1 : (if decide ((R : Int) ≥ (d : Int) - (R : Int)) = true then some ((Q + 1 : Nat) : Int) else some (Q : Int)) = some ((rdiv A n d : Nat) : Int) := by
        unfold rdiv
        rw [hQ, hR]
        by_cases hc : d ≤ 2 * R
        · rw [if_pos (by simp; omega), if_pos hc]
        · rw [if_neg (by simp; omega), if_neg hc]
      have hrd := rdiv_ge (A := A) (n := n) (d := d)
      rw [hQ] at hrd
      simp only [Option.bind_some, w1, w2, e1]
      generalize rdiv A n d = T at *
      have w3 : IntKind.wrap .i64 (0 - (T : Int)) = -(T : Int) := by rw [wrap64 (by omega) (by omega)]; omega
      rw [w3]
      by_cases hneg : a < 0
      · simp only [hneg, decide_true, if_true, Option.bind_some, checked_p]
        by_cases hT : T ≤ 1125899906842624
        · have : valB (-(T : Int)) = true := valB_iff.2 (by omega)
          simp [chkS, this, hT]
        · have : valB (-(T : Int)) = false := by rw [← Bool.not_eq_true, valB_iff]; omega
          simp [chkS, this, hT]
      · simp only [hneg, decide_false, Bool.false_eq_true, if_false, Option.bind_some, checked_p]
        by_cases hT : T ≤ 1125899906842624
        · have : valB (T : Int) = true := valB_iff.2 (by omega)
          simp [chkS, this, hT]
        · have : valB (T : Int) = false := by rw [← Bool.not_eq_true, valB_iff]; omega
          simp [chkS, this, hT]
    · rw [q1]
      have hrd := rdiv_ge (A := A) (n := n) (d := d)
      have hT : ¬ rdiv A n d ≤ 1125899906842624 := by omega
      have w1 : IntKind.wrap .i64 ((d : Int) - 0) = (d : Int) := by rw [wrap64 (by omega) (by omega)]; omega
      have w3 : IntKind.wrap .i64 (0 - (q' : Int)) = -(q' : Int) := by rw [wrap64 (by omega) (by omega)]; omega
      have hd0 : decide ((0 : Int) ≥ (d : Int)) = false := by simp; omega
      simp only [Option.bind_some, w1, hd0, Bool.false_eq_true, if_false, w3, hT]
      by_cases hneg : a < 0
      · have : valB (-(q' : Int)) = false := by rw [← Bool.not_eq_true, valB_iff]; omega
        simp [hneg, checked_p, chkS, this]
      · have : valB (q' : Int) = false := by rw [← Bool.not_eq_true, valB_iff]; omega
        simp [hneg, checked_p, chkS, this]

theorem scale_r1 {N k : Nat} (hN : 5000 ≤ N) {A n d : Nat} (hA : A ≤ 1125899906842624) (hn : n ≤ 1099511627776) (hd : 0 < d) (hd2 : d ≤ 1099511627776) :
    billingref01_Scale_r N (k + 1) A n d = some (if rdiv A n d ≤ 1125899906842624 then ((rdiv A n d : Nat) : Int) else 0, if rdiv A n d ≤ 1125899906842624 then 0 else 6) := by
  have hv : valB (A : Int) = true := valB_iff.2 (by omega)
  have c1 : (((((!true) || (decide ((n : Int) < 0))) || (decide ((n : Int) > 1099511627776))) || (decide ((d : Int) < 1))) || (decide ((d : Int) > 1099511627776))) = false := by
    have a1 : decide ((n : Int) < 0) = false := by simp
    have a2 : decide ((n : Int) > 1099511627776) = false := by simp; omega
    have a3 : decide ((d : Int) < 1) = false := by simp; omega
    have a4 : decide ((d : Int) > 1099511627776) = false := by simp; omega
    rw [a1, a2, a3, a4]; rfl
  have hneg : decide ((A : Int) < 0) = false := by simp
  simp only [billingref01_Scale_r, valid_r, Option.bind_some, hv, c1, Bool.false_eq_true, if_false, hneg, divide_r hN hA hn hd (by omega)]
  have hlt := Nat.mod_lt (A * n) hd
  have hrd := rdiv_ge (A := A) (n := n) (d := d)
  have w1 : IntKind.wrap .i64 (2 * ((A * n % d : Nat) : Int)) = ((2 * (A * n % d) : Nat) : Int) := wrap_two (by omega)
  rw [w1]
  generalize hR : A * n % d = R at *
  have hrdiv : rdiv A n d = if d ≤ 2 * R then A * n / d + 1 else A * n / d := by unfold rdiv; rw [hR]
  generalize hQ : A * n / d = Q at *
  have w2 : IntKind.wrap .i64 (((min Q 288230376151711744 : Nat) : Int) + 1) = ((min Q 288230376151711744 + 1 : Nat) : Int) := by rw [wrap64 (by omega) (by omega)]; omega
  rw [w2]
  generalize rdiv A n d = T at *
  have hfin : ∀ U : Nat, (T ≤ 1125899906842624 → U = T) → (1125899906842624 < T → 1125899906842624 < U) →
      (if (!valB (U : Int)) = true then some ((0 : Int), (6 : Int)) else some ((U : Int), (0 : Int))) = some (if T ≤ 1125899906842624 then (T : Int) else 0, if T ≤ 1125899906842624 then 0 else 6) := by
    intro U h1 h2
    rcases Nat.lt_or_ge 1125899906842624 T with hT | hT
    · have hv2 : valB (U : Int) = false := by have := h2 hT; rw [← Bool.not_eq_true, valB_iff]; omega
      rw [hv2, if_pos (show (!false) = true from rfl), if_neg (Nat.not_le.2 hT), if_neg (Nat.not_le.2 hT)]
    · have hv2 : valB (U : Int) = true := by rw [h1 hT]; exact valB_iff.2 (by omega)
      rw [hv2, if_neg (show ¬ (!true) = true from by simp), if_pos hT, if_pos hT, h1 hT]
  by_cases hc : d ≤ 2 * R
  · rw [if_pos hc] at hrdiv
    have : decide (((2 * R : Nat) : Int) ≥ (d : Int)) = true := decide_eq_true (by omega)
    rw [this, if_pos rfl]
    obtain ⟨U, hU⟩ : ∃ U, U = min Q 288230376151711744 + 1 := ⟨_, rfl⟩
    rw [← hU]
    rw [Option.bind_some]
    exact hfin U (by omega) (by omega)
  · rw [if_neg hc] at hrdiv
    have : decide (((2 * R : Nat) : Int) ≥ (d : Int)) = false := decide_eq_false (by omega)
    rw [this, if_neg (by simp)]
    obtain ⟨U, hU⟩ : ∃ U, U = min Q 288230376151711744 := ⟨_, rfl⟩
    rw [← hU]
    rw [Option.bind_some]
    exact hfin U (by omega) (by omega)

theorem scale_r {N : Nat} (hN : 5000 ≤ N) (a n d : Int) : billingref01_Scale N a n d = some (scaleS a n d) := by
  obtain ⟨k, rfl⟩ : ∃ k, N = k + 2 := ⟨N - 2, by omega⟩
  unfold billingref01_Scale scaleS
  cases hc : (!valB a || decide (n < 0) || decide (n > 1099511627776) || decide (d < 1) || decide (d > 1099511627776)) with
  | true => simp only [billingref01_Scale_r, valid_r, Option.bind_some, hc]; rfl
  | false =>
    have hc' := hc
    simp only [Bool.or_eq_false_iff, Bool.not_eq_false', decide_eq_false_iff_not] at hc
    obtain ⟨⟨⟨⟨h1, h2⟩, h3⟩, h4⟩, h5⟩ := hc
    have hv := valB_iff.1 h1
    obtain ⟨n, rfl⟩ : ∃ m : Nat, n = m := ⟨n.toNat, by omega⟩
    obtain ⟨d, rfl⟩ : ∃ m : Nat, d = m := ⟨d.toNat, by omega⟩
    simp only [cond_false, Int.toNat_natCast]
    generalize hA : a.natAbs = A
    have hA2 : A ≤ 1125899906842624 := by omega
    by_cases hneg : a < 0
    · have w0 : IntKind.wrap .i64 (0 - a) = (A : Int) := by rw [wrap64 (by omega) (by omega)]; omega
      have e := scale_r1 (k := k) hN hA2 (n := n) (d := d) (by omega) (by omega) (by omega)
      rw [show k + 2 = (k + 1) + 1 from rfl]
      rw [show k + 2 = (k + 1) + 1 from rfl] at e
      rw [billingref01_Scale_r]
      simp only [valid_r, Option.bind_some, hc', Bool.false_eq_true, if_false, hneg, decide_true, if_true, w0, e]
      have hrd : rdiv A n d ≤ 1125899906842624 ∨ ¬ rdiv A n d ≤ 1125899906842624 := Nat.lt_or_ge _ _ |>.elim (fun h => .inr (by omega)) (fun h => .inl h)
      rcases hrd with hT | hT
      · simp only [hT, if_true]
        rw [wrap64 (by omega) (by omega)]
        simp
      · simp only [hT, if_false]
        rfl
    · have hAe : a = (A : Int) := by omega
      rw [hAe]
      have e := scale_r1 (k := k + 1) hN hA2 (n := n) (d := d) (by omega) (by omega) (by omega)
      rw [show k + 2 = (k + 1) + 1 from rfl] at e ⊢
      rw [e]
      have : ¬ ((A : Int) < 0) := by omega
      simp only [this, if_false]
      split <;> rfl

def percS (a p : Int) : Int × Int := bif decide (p < 0) || decide (p > 10000) then (0, 6) else scaleS a p 10000
theorem perc_p {N : Nat} (hN : 5000 ≤ N) (a p : Int) : amount_Percent N a p = some (percS a p) := by
  unfold amount_Percent percS
  rw [scale_p hN]
  cases (decide (p < 0) || decide (p > 10000)) <;> rfl
theorem perc_r {N : Nat} (hN : 5000 ≤ N) (a p : Int) : billingref01_Percent N a p = some (percS a p) := by
  unfold billingref01_Percent percS
  rw [scale_r hN]
  cases (decide (p < 0) || decide (p > 10000)) <;> rfl
end Gx
