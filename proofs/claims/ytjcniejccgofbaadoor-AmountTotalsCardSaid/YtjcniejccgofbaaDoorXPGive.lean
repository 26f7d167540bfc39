/- What rounding and dividing give: sums and parts. -/
import Derived.Test.YtjcniejccgofbaaDoorXPAmount
namespace Gx
open Go Gd
set_option linter.unusedVariables false
set_option linter.unusedSimpArgs false

/-! ## Rounded parts add up -/
theorem sum_set1 : ∀ {p : List Int} {j : Nat}, j < p.length → (p.set j (p.getD j 0 + 1)).sum = p.sum + 1
  | [], j, h => by simp at h
  | x :: p, 0, h => by simp; omega
  | x :: p, j + 1, h => by
    have := sum_set1 (p := p) (j := j) (by simpa using h)
    simp only [List.set_cons_succ, List.sum_cons, List.getD_cons_succ, this]
    omega
theorem giveF_sum : ∀ (n : Nat) (p r : List Int), p.length = r.length → n ≤ cnt r → (giveF n p r).1.sum = p.sum + (n : Int)
  | 0, p, r, _, _ => by simp [giveF]
  | n + 1, p, r, hl, hc => by
    rcases bestS_ok r with ⟨h1, h2⟩ | ⟨j, h1, h2, h3, h4⟩
    · exfalso
      have : 0 < cnt r := by omega
      obtain ⟨x, hx, hp⟩ := List.countP_pos_iff.1 this
      obtain ⟨i, hi, he⟩ := List.getElem_of_mem hx
      have := h2 i hi
      rw [List.getD_eq_getElem?_getD, List.getElem?_eq_getElem hi, he] at this
      simp at hp this
      omega
    · have hc' := cnt_set h2 h3
      simp only [giveF, h1, show ¬ ((j : Int) < 0) by omega, if_false, Int.toNat_natCast]
      rw [giveF_sum n _ _ (by simpa using hl) (by omega), sum_set1 (by omega)]
      push_cast; omega
theorem giveF_mem {lo hi : Int} : ∀ (n : Nat) (p r : List Int), p.length = r.length → (∀ x ∈ p, lo ≤ x ∧ x ≤ hi) → ∀ x ∈ (giveF n p r).1, lo ≤ x ∧ x ≤ hi + n
  | 0, p, r, _, h, x, hx => by have := h x hx; simp; omega
  | n + 1, p, r, hl, h, x, hx => by
    simp only [giveF] at hx
    split at hx
    · have := h x hx; push_cast; omega
    · rename_i hb
      have key := giveF_mem (lo := lo) (hi := hi + 1) n (p.set (bestS r).toNat (p.getD (bestS r).toNat 0 + 1)) (r.set (bestS r).toNat (-1)) (by simpa using hl) (fun y hy => by
        rcases bestS_ok r with ⟨h1, h2⟩ | ⟨j, h1, h2, h3, h4⟩
        · omega
        · rw [h1] at hy
          simp only [Int.toNat_natCast] at hy
          rcases List.mem_or_eq_of_mem_set hy with hy | rfl
          · have := h y hy; omega
          · have hj : j < p.length := by omega
            have := h _ (List.getElem_mem hj)
            rw [List.getD_eq_getElem?_getD, List.getElem?_eq_getElem hj]
            simp only [Option.getD_some]
            omega) x hx
      push_cast; omega
theorem flo_res : ∀ l : List Int, l.sum = 10000 * (floS l).sum + (resS l).sum
  | [] => rfl
  | x :: l => by
    have := flo_res l
    simp only [floS, resS, List.map_cons, List.sum_cons] at *
    have := Int.mul_ediv_add_emod x 10000
    omega
theorem res_bound : ∀ l : List Int, 0 ≤ (resS l).sum ∧ (resS l).sum ≤ 9999 * (l.length : Int)
  | [] => by simp [resS]
  | x :: l => by
    have := res_bound l
    simp only [resS, List.map_cons, List.sum_cons, List.length_cons] at *
    have h1 := Int.emod_nonneg x (b := 10000) (by omega)
    have h2 := Int.emod_lt_of_pos x (b := 10000) (by omega)
    push_cast; omega
theorem cnt_res (l : List Int) : cnt (resS l) = l.length := by
  unfold cnt
  rw [List.countP_eq_length.2]
  · simp [resS]
  · intro x hx
    simp only [resS, List.mem_map] at hx
    obtain ⟨y, _, rfl⟩ := hx
    have := Int.emod_nonneg y (b := 10000) (by omega)
    simpa using this
theorem round_n {l : List Int} : 0 ≤ rndS l.sum - (floS l).sum ∧ rndS l.sum - (floS l).sum ≤ (l.length : Int) := by
  have h1 := flo_res l
  have h2 := res_bound l
  have h3 := rnd_bound (a := l.sum)
  constructor <;> omega
theorem round_sum {l : List Int} (hl : l.length ≤ 4096) (h : l.all valB = true) : (roundS l).sum = rndS l.sum := by
  unfold roundS
  rw [if_neg (by omega), h]
  simp only [cond_true]
  have := round_n (l := l)
  rw [giveF_sum _ _ _ (by simp [floS, resS]) (by rw [cnt_res]; omega)]
  omega
theorem round_mem {l : List Int} (hl : l.length ≤ 4096) (h : l.all valB = true) : ∀ x ∈ roundS l, -112589990685 ≤ x ∧ x ≤ 112589994781 := by
  unfold roundS
  rw [if_neg (by omega), h]
  simp only [cond_true]
  intro x hx
  have hn := round_n (l := l)
  have := giveF_mem (lo := -112589990685) (hi := 112589990685) _ _ _ (by simp [floS, resS]) (fun y hy => by
    simp only [floS, List.mem_map] at hy
    obtain ⟨z, hz, rfl⟩ := hy
    have := valB_iff.1 (List.all_eq_true.1 h z hz)
    omega) x hx
  omega


/-! ## Each part gets at most one -/
theorem giveF_len : ∀ (n : Nat) (p r : List Int), (giveF n p r).1.length = p.length
  | 0, _, _ => rfl
  | n + 1, p, r => by
    simp only [giveF]
    split
    · rfl
    · rw [giveF_len n, List.length_set]
/-- How many of the rests are greater than 0. -/
def cpos (r : List Int) : Nat := r.countP fun x => decide (0 < x)
theorem cpos_le (r : List Int) : cpos r ≤ cnt r := List.countP_mono_left fun x _ h => by simp at *; omega
theorem cpos_set {r : List Int} {j : Nat} (hj : j < r.length) (h : 0 < r.getD j 0) : cpos (r.set j (-1)) + 1 = cpos r := by
  have hj' : r.getD j 0 = r[j] := by rw [List.getD_eq_getElem?_getD, List.getElem?_eq_getElem hj]; rfl
  rw [hj'] at h
  have hp : 0 < cpos r := List.countP_pos_iff.2 ⟨r[j], List.getElem_mem hj, by simpa using h⟩
  unfold cpos at *
  rw [List.countP_set hj]
  simp [h]
  omega
theorem getD_set_same {p : List Int} {j : Nat} {v : Int} (h : j < p.length) : (p.set j v).getD j 0 = v := by
  rw [List.getD_eq_getElem?_getD, List.getElem?_set_self (by simpa using h)]; rfl
theorem getD_set_ne {p : List Int} {i j : Nat} {v : Int} (h : j ≠ i) : (p.set j v).getD i 0 = p.getD i 0 := by
  rw [List.getD_eq_getElem?_getD, List.getD_eq_getElem?_getD, List.getElem?_set_ne h]
theorem giveF_get : ∀ (n : Nat) (p r : List Int), p.length = r.length → n ≤ cpos r → ∀ i, i < p.length → (giveF n p r).1.getD i 0 = p.getD i 0 ∨ ((giveF n p r).1.getD i 0 = p.getD i 0 + 1 ∧ 0 < r.getD i 0)
  | 0, p, r, _, _, i, _ => .inl rfl
  | n + 1, p, r, hl, hc, i, hi => by
    have hpos : 0 < cpos r := by omega
    obtain ⟨x, hx, hp⟩ := List.countP_pos_iff.1 hpos
    obtain ⟨k, hk, he⟩ := List.getElem_of_mem hx
    have hk' : r.getD k 0 = x := by rw [List.getD_eq_getElem?_getD, List.getElem?_eq_getElem hk, he]; rfl
    have hx0 : 0 < x := by simpa using hp
    rcases bestS_ok r with ⟨h1, h2⟩ | ⟨j, h1, h2, h3, h4⟩
    · have := h2 k hk; omega
    · have hj : 0 < r.getD j 0 := by have := h4 k hk; omega
      have hc' := cpos_set h2 hj
      simp only [giveF, h1, show ¬ ((j : Int) < 0) by omega, if_false, Int.toNat_natCast]
      have ih := giveF_get n (p.set j (p.getD j 0 + 1)) (r.set j (-1)) (by simpa using hl) (by omega) i (by simpa using hi)
      by_cases hij : j = i
      · subst hij
        rw [getD_set_same hi, getD_set_same h2] at ih
        rcases ih with ih | ⟨_, ih⟩
        · exact .inr ⟨ih, hj⟩
        · omega
      · rw [getD_set_ne hij, getD_set_ne hij] at ih
        exact ih
theorem res_pos : ∀ l : List Int, (resS l).sum ≤ 9999 * (cpos (resS l) : Int)
  | [] => by simp [resS, cpos]
  | x :: l => by
    have := res_pos l
    simp only [resS, cpos, List.map_cons, List.sum_cons, List.countP_cons] at *
    have h1 := Int.emod_nonneg x (b := 10000) (by omega)
    have h2 := Int.emod_lt_of_pos x (b := 10000) (by omega)
    by_cases h : 0 < x % 10000
    · simp only [h, decide_true, if_true]; push_cast; omega
    · simp only [h, decide_false, Bool.false_eq_true, if_false]; push_cast; omega
theorem round_len {l : List Int} (hl : l.length ≤ 4096) (h : l.all valB = true) : (roundS l).length = l.length := by
  unfold roundS
  rw [if_neg (by omega), h]
  simp [giveF_len, floS]
theorem round_len_le (l : List Int) : (roundS l).length ≤ 4096 := by
  unfold roundS
  split
  · simp
  · rename_i h
    cases l.all valB
    · simp
    · simp [giveF_len, floS]; omega
theorem round_get {l : List Int} (hl : l.length ≤ 4096) (h : l.all valB = true) {i : Nat} (hi : i < l.length) : -10000 < l.getD i 0 - (roundS l).getD i 0 * 10000 ∧ l.getD i 0 - (roundS l).getD i 0 * 10000 < 10000 := by
  have h1 := flo_res l
  have h2 := res_pos l
  have h3 := rnd_bound (a := l.sum)
  have hn : (rndS l.sum - (floS l).sum).toNat ≤ cpos (resS l) := by omega
  unfold roundS
  rw [if_neg (by omega), h]
  simp only [cond_true]
  have key := giveF_get _ (floS l) (resS l) (by simp [floS, resS]) hn i (by simpa [floS] using hi)
  have ef : (floS l).getD i 0 = l.getD i 0 / 10000 := by simp [floS, List.getD_eq_getElem?_getD, List.getElem?_map, List.getElem?_eq_getElem hi]
  have er : (resS l).getD i 0 = l.getD i 0 % 10000 := by simp [resS, List.getD_eq_getElem?_getD, List.getElem?_map, List.getElem?_eq_getElem hi]
  rw [ef, er] at key
  have e := Int.mul_ediv_add_emod (l.getD i 0) 10000
  have b1 := Int.emod_nonneg (l.getD i 0) (b := 10000) (by omega)
  have b2 := Int.emod_lt_of_pos (l.getD i 0) (b := 10000) (by omega)
  rcases key with k | ⟨k, k2⟩ <;> rw [k] <;> omega
end Gx
