/- Amount, chapter 01: the roundings of a list add up. -/
import Derived.Test.YtjcniejccgofbaaDoorXPAm0
import Derived.Test.YtjcniejccgofbaaDoorXPGive
namespace Gx
open Go Gd
set_option linter.unusedVariables false
set_option linter.unusedSimpArgs false

theorem totLoop1 {l : List Int} (hl : l.length ≤ 4096) : loopN (billinglaw01_AmountTotals_l1 (10000 + 64) l) (10000 + 64) (0, 0) = some (bif l.all valB then .inl l.sum else .inr true) := by
  refine loop_list (n := 10000 + 64) (s := (0 : Int)) l (by rw [maxLen_val]; omega) (f := billinglaw01_AmountTotals_l1 (10000 + 64) l) (fun s i => (s, i))
    (fun i s => (l.take i).all valB = true ∧ s = (l.take i).sum)
    (fun s xs => bif l.all valB then .inl l.sum else .inr true) (fun s hI h => ?_) (fun s i x xs hx hlt hidx hw hd hI => ?_) (by omega) ⟨by simp, by simp⟩
  · obtain ⟨h1, h2⟩ := hI
    rw [List.take_length] at h1 h2
    rw [h2, h1]
    simp [billinglaw01_AmountTotals_l1]
  · obtain ⟨h1, h2⟩ := hI
    simp only [billinglaw01_AmountTotals_l1, hlt, hidx, if_true, Option.bind_some, valid_r]
    cases hv : valB x with
    | false => exact .inr (by rw [all_false hx hv, awake01]; simp)
    | true =>
      refine .inl ⟨(l.take (i + 1)).sum, ?_, ⟨all_take h1 hx hv, rfl⟩, by trivial⟩
      have b1 := sums_take (i + 1) (all_take h1 hx hv) hl
      have ts : (l.take (i + 1)).sum = (l.take i).sum + x := by rw [take_snoc hx, List.sum_append]; simp
      have w1 : IntKind.wrap .i64 ((l.take i).sum + x) = (l.take i).sum + x := wrap64 (by omega) (by omega)
      rw [h2]
      simp only [Bool.not_true, Bool.false_eq_true, if_false, w1, hw, ts]

theorem take_sum_bound {lo hi : Int} : ∀ {l : List Int}, (∀ x ∈ l, lo ≤ x ∧ x ≤ hi) → lo * (l.length : Int) ≤ l.sum ∧ l.sum ≤ hi * (l.length : Int)
  | [], _ => by simp
  | x :: l, h => by
    have h1 := h x (List.mem_cons_self ..)
    have h2 := take_sum_bound (l := l) (fun y hy => h y (List.mem_cons_of_mem _ hy))
    simp only [List.sum_cons, List.length_cons]
    push_cast
    rw [Int.mul_add, Int.mul_add]
    omega

theorem totLoop2 {N : Nat} {l : List Int} (hN : 5000 ≤ N) (hl : l.length ≤ 4096) (h : l.all valB = true) : loopN (billinglaw01_AmountTotals_l2 N (roundS l) l) N (0, 0) = some (.inl (rndS l.sum)) := by
  have hlen := round_len hl h
  have key := loop_list (n := N) (s := (0 : Int)) (roundS l) (by rw [maxLen_val]; omega) (f := billinglaw01_AmountTotals_l2 N (roundS l) l) (fun s i => (s, i))
    (fun i s => s = ((roundS l).take i).sum)
    (fun s xs => .inl (roundS l).sum) (fun s hI h => ?_) (fun s i x xs hx hlt hidx hw hd hI => ?_) (by omega) (by simp)
  · rw [round_sum hl h] at key
    exact key
  · rw [List.take_length] at hI
    rw [hI]
    simp [billinglaw01_AmountTotals_l2]
  · have hi := (List.getElem?_eq_some_iff.1 hx).1
    have hm := round_mem hl h x (List.mem_of_getElem? hx)
    have hg := round_get hl h (i := i) (by omega)
    have hil : idx l (i : Int) = some (l.getD i 0) := idx_getD (by omega)
    rw [getD_of hx] at hg
    generalize l.getD i 0 = y at hg hil
    have w1 : IntKind.wrap .i64 (x * 10000) = x * 10000 := wrap64 (by omega) (by omega)
    have w2 : IntKind.wrap .i64 (y - x * 10000) = y - x * 10000 := wrap64 (by omega) (by omega)
    have hb := take_sum_bound (l := (roundS l).take i) (fun y hy => round_mem hl h y (List.mem_of_mem_take hy))
    have hle : ((roundS l).take i).length ≤ 4096 := by rw [List.length_take]; omega
    have ts : ((roundS l).take (i + 1)).sum = ((roundS l).take i).sum + x := by rw [take_snoc hx, List.sum_append]; simp
    have w3 : IntKind.wrap .i64 (((roundS l).take i).sum + x) = ((roundS l).take i).sum + x := wrap64 (by omega) (by omega)
    refine .inl ⟨((roundS l).take (i + 1)).sum, ?_, rfl, rfl⟩
    rw [hI]
    simp only [billinglaw01_AmountTotals_l2, hlt, hidx, hil, if_true, Option.bind_some, w1, w2, w3, hw, ts]
    rw [if_neg (by simp; omega)]
    simp only [Option.bind_some, show decide (x > 1125899906842624) = false by simp; omega, Bool.false_eq_true, if_false]
    rw [if_neg (by simp; omega)]

theorem law_AmountTotals (x0 : List Int) (g0 : gd (.sl (.int .i64)) x0) : ∃ N, billinglaw01_AmountTotals N x0 = some true := by
  refine ⟨10000 + 64, ?_⟩
  unfold billinglaw01_AmountTotals
  rw [awake01]
  split
  · rfl
  · rename_i h
    have hl : x0.length ≤ 200 := by simp at h; omega
    rw [totLoop1 (by omega), app_of (by simp; omega)]
    cases hv : x0.all valB with
    | false => rfl
    | true =>
      have hb := sum_bound hv
      simp only [Option.bind_some, cond_true, List.nil_append, round_p (N := 10000 + 64) (by omega)]
      rw [round_len (by omega) hv, totLoop2 (by omega) (by omega) hv]
      simp only [bne_self_eq_false, Bool.false_eq_true, if_false, Option.bind_some]
      rw [rounded_p _ (by omega) (by omega)]
      simp
end Gx
