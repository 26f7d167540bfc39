/- Plain facts on the functions that the texts are written with. -/
import Derived.Test.YtnlnadfpfekeiaaDoorGArr
namespace Gd
open Go
set_option linter.unusedVariables false
set_option linter.unusedSimpArgs false

/-- Rounds enough for any loop over a list. -/
def Big : Nat := 18446744073709551616

theorem wrap64 {n : Int} (h0 : -9223372036854775808 ≤ n) (h1 : n < 9223372036854775808) : IntKind.wrap .i64 n = n := by
  have e : IntKind.wrap .i64 n = (if (18446744073709551616 : Int) / 2 ≤ n % 18446744073709551616 then n % 18446744073709551616 - 18446744073709551616 else n % 18446744073709551616) := by
    simp [IntKind.wrap, IntKind.bits, IntKind.signed]
  rw [e]
  split <;> omega

theorem wrap_form (n : Int) : IntKind.wrap .i64 n = (if (9223372036854775808 : Int) ≤ n % 18446744073709551616 then n % 18446744073709551616 - 18446744073709551616 else n % 18446744073709551616) := by
  simp [IntKind.wrap, IntKind.bits, IntKind.signed]
/-- What is known of a wrapped number. -/
theorem wrap_facts (n : Int) : IntKind.wrap .i64 n % 18446744073709551616 = n % 18446744073709551616 ∧ -9223372036854775808 ≤ IntKind.wrap .i64 n ∧ IntKind.wrap .i64 n < 9223372036854775808 := by
  rw [wrap_form]; split <;> omega
theorem wrap_eq {n m : Int} (h : n % 18446744073709551616 = m % 18446744073709551616) : IntKind.wrap .i64 n = IntKind.wrap .i64 m := by
  rw [wrap_form, wrap_form, h]
theorem wrap_of {n m : Int} (h : n % 18446744073709551616 = m % 18446744073709551616) (h0 : -9223372036854775808 ≤ m) (h1 : m < 9223372036854775808) : IntKind.wrap .i64 n = m := by
  rw [wrap_eq h, wrap64 h0 h1]

theorem wrap_succ {i : Nat} (h : i < maxLen) : IntKind.wrap .i64 ((i : Int) + 1) = ((i + 1 : Nat) : Int) := by
  rw [maxLen_val] at h
  rw [wrap64 (by omega) (by omega)]
  omega

theorem idx_nat {α : Type} {l : List α} {i : Nat} {x : α} (h : l[i]? = some x) : idx l (i : Int) = some x := by
  simp [idx, h]
theorem idx_zero {α : Type} {x : α} {l : List α} : idx (x :: l) 0 = some x := rfl
theorem app_of {α : Type} {b : Nat} {xs ys : List α} (h : (xs.length + ys.length) * b ≤ 140737488355328) : app b xs ys = some (xs ++ ys) := by simp [app, h]
theorem scat_of {a b : Str} (h : a.length + b.length ≤ 9223372036854775807) : scat a b = some (a ++ b) := by simp [scat, h]

theorem drop_get {α : Type} {l : List α} {i : Nat} {x : α} {xs : List α} (h : l.drop i = x :: xs) : l[i]? = some x ∧ i < l.length ∧ l.drop (i + 1) = xs := by
  have hlt : i < l.length := by
    rcases Nat.lt_or_ge i l.length with h1 | h1
    · exact h1
    · rw [List.drop_eq_nil_of_le h1] at h; cases h
  rw [List.drop_eq_getElem_cons hlt] at h
  injection h with h1 h2
  exact ⟨by rw [List.getElem?_eq_getElem hlt, h1], hlt, h2⟩

/-- A loop over a list, by its index. -/
theorem each {α σ ρ : Type} (l : List α) (hl : l.length ≤ maxLen) (L : Nat → σ → Int → Option ρ) (go : σ → List α → ρ) (Inv : Nat → σ → Prop)
    (h0 : ∀ n s, Inv l.length s → decide (((l.length : Nat) : Int) < (l.length : Int)) = false → L (n + 1) s (l.length : Int) = some (go s []))
    (h1 : ∀ n s (i : Nat) x xs, x ∈ l → decide ((i : Int) < (l.length : Int)) = true → idx l (i : Int) = some x → IntKind.wrap .i64 ((i : Int) + 1) = ((i + 1 : Nat) : Int) → l.drop i = x :: xs → Inv i s →
      (∀ s', Inv (i + 1) s' → L n s' ((i + 1 : Nat) : Int) = some (go s' xs)) → L (n + 1) s (i : Int) = some (go s (x :: xs)))
    {n : Nat} {s : σ} (hn : l.length < n) (hs : Inv 0 s) : L n s 0 = some (go s l) := by
  have main : ∀ (k : Nat) (i n : Nat) (s : σ), l.length = i + k → k < n → Inv i s → L n s (i : Int) = some (go s (l.drop i)) := by
    intro k
    induction k with
    | zero =>
      intro i n s hk hn hI
      obtain ⟨m, rfl⟩ : ∃ m, n = m + 1 := ⟨n - 1, by omega⟩
      have hi : i = l.length := by omega
      subst hi
      rw [List.drop_length]
      exact h0 m s hI (by simp)
    | succ k ih =>
      intro i n s hk hn hI
      obtain ⟨m, rfl⟩ : ∃ m, n = m + 1 := ⟨n - 1, by omega⟩
      have hlt : i < l.length := by omega
      have hd := List.drop_eq_getElem_cons hlt
      rw [hd]
      refine h1 m s i _ _ (List.getElem_mem hlt) (by simpa using hlt) (idx_nat (List.getElem?_eq_getElem hlt)) (wrap_succ (by omega)) hd hI fun s' hs' => ?_
      exact ih (i + 1) m s' (by omega) (by omega) hs'
  simpa using main l.length 0 n s (by omega) hn hs
end Gd
