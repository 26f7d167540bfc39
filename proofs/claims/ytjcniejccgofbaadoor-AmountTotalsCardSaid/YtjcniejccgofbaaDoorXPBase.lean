/- Plain facts on loops, numbers, lists. -/
import Derived.Test.YtjcniejccgofbaaDoorXFns
import Derived.Test.YtjcniejccgofbaaDoorGPure
namespace Gx
open Go Gd
set_option linter.unusedVariables false
set_option linter.unusedSimpArgs false

/-- A loop that ends, by an invariant. -/
theorem loopN_inv {σ τ : Type} {f : σ → Option (σ ⊕ τ)} (k : Nat) (I : Nat → σ → Prop) (R : τ → Prop)
    (step : ∀ i s, i ≤ k → I i s → (∃ s', i < k ∧ f s = some (.inl s') ∧ I (i + 1) s') ∨ (∃ r, f s = some (.inr r) ∧ R r)) :
    ∀ {n : Nat} {s : σ}, k < n → I 0 s → ∃ r, loopN f n s = some r ∧ R r := by
  have main : ∀ (d i n : Nat) (s : σ), i + d = k → d < n → I i s → ∃ r, loopN f n s = some r ∧ R r := by
    intro d
    induction d with
    | zero =>
      intro i n s hi hn hI
      obtain ⟨m, rfl⟩ : ∃ m, n = m + 1 := ⟨n - 1, by omega⟩
      rcases step i s (by omega) hI with ⟨s', h, _⟩ | ⟨r, h1, h2⟩
      · omega
      · exact ⟨r, by simp [loopN, h1], h2⟩
    | succ d ih =>
      intro i n s hi hn hI
      obtain ⟨m, rfl⟩ : ∃ m, n = m + 1 := ⟨n - 1, by omega⟩
      rcases step i s (by omega) hI with ⟨s', _, h1, h2⟩ | ⟨r, h1, h2⟩
      · obtain ⟨r, h3, h4⟩ := ih (i + 1) m s' (by omega) (by omega) h2
        exact ⟨r, by simp [loopN, h1, h3], h4⟩
      · exact ⟨r, by simp [loopN, h1], h2⟩
  intro n s hn hI
  exact main k 0 n s (by omega) hn hI

/-- A loop over a list, by its index. -/
theorem loop_list {α σ ρ τ : Type} (l : List α) (hl : l.length ≤ maxLen) {f : ρ → Option (ρ ⊕ τ)} (mk : σ → Int → ρ) (Inv : Nat → σ → Prop) (go : σ → List α → τ)
    (h0 : ∀ s, Inv l.length s → decide (((l.length : Nat) : Int) < (l.length : Int)) = false → f (mk s (l.length : Int)) = some (.inr (go s [])))
    (h1 : ∀ s (i : Nat) x xs, l[i]? = some x → decide ((i : Int) < (l.length : Int)) = true → idx l (i : Int) = some x → IntKind.wrap .i64 ((i : Int) + 1) = ((i + 1 : Nat) : Int) → l.drop i = x :: xs → Inv i s →
      (∃ s', f (mk s (i : Int)) = some (.inl (mk s' ((i + 1 : Nat) : Int))) ∧ Inv (i + 1) s' ∧ go s (x :: xs) = go s' xs) ∨ f (mk s (i : Int)) = some (.inr (go s (x :: xs))))
    {n : Nat} {s : σ} (hn : l.length < n) (hs : Inv 0 s) : loopN f n (mk s 0) = some (go s l) := by
  have main : ∀ (k i n : Nat) (s : σ), l.length = i + k → k < n → Inv i s → loopN f n (mk s (i : Int)) = some (go s (l.drop i)) := by
    intro k
    induction k with
    | zero =>
      intro i n s hk hn hI
      obtain ⟨m, rfl⟩ : ∃ m, n = m + 1 := ⟨n - 1, by omega⟩
      have hi : i = l.length := by omega
      subst hi
      rw [List.drop_length]
      simp [loopN, h0 s hI (by simp)]
    | succ k ih =>
      intro i n s hk hn hI
      obtain ⟨m, rfl⟩ : ∃ m, n = m + 1 := ⟨n - 1, by omega⟩
      have hlt : i < l.length := by omega
      have hd := List.drop_eq_getElem_cons hlt
      rw [hd]
      rcases h1 s i _ _ (List.getElem?_eq_getElem hlt) (by simpa using hlt) (idx_nat (List.getElem?_eq_getElem hlt)) (wrap_succ (by omega)) hd hI with ⟨s', e1, e2, e3⟩ | e1
      · simp only [loopN, e1, Option.bind_some, e3]
        exact ih (i + 1) m s' (by omega) (by omega) e2
      · simp only [loopN, e1, Option.bind_some]
  simpa using main l.length 0 n s (by omega) hn hs

theorem loopN_congr {σ τ : Type} {f g : σ → Option (σ ⊕ τ)} (h : ∀ s, f s = g s) (n : Nat) (s : σ) : loopN f n s = loopN g n s := by rw [show f = g from funext h]

/-- The same loop with another result. -/
theorem loopN_map {σ τ τ' : Type} {f : σ → Option (σ ⊕ τ)} {g : σ → Option (σ ⊕ τ')} (p : τ → τ') (h : ∀ s, g s = (f s).map (fun x => match x with | .inl s' => .inl s' | .inr r => .inr (p r))) :
    ∀ (n : Nat) (s : σ), loopN g n s = (loopN f n s).map p
  | 0, s => rfl
  | n + 1, s => by
    simp only [loopN, h s]
    cases f s with
    | none => rfl
    | some x => cases x with
      | inl s' => simpa using loopN_map p h n s'
      | inr r => rfl

theorem idx_some {α : Type} {l : List α} {i : Int} {x : α} (h : idx l i = some x) : 0 ≤ i ∧ i < l.length ∧ l[i.toNat]? = some x := by
  obtain ⟨h0, h1⟩ := idx_ok h
  obtain ⟨h2, _⟩ := List.getElem?_eq_some_iff.1 h1
  exact ⟨h0, by omega, h1⟩
theorem idx_get {α : Type} {l : List α} {i : Nat} (h : i < l.length) : idx l (i : Int) = some l[i] := idx_nat (List.getElem?_eq_getElem h)
theorem idx_set {α : Type} {l : List α} {i : Nat} {v : α} (h : i < l.length) : idx (l.set i v) (i : Int) = some v := by
  rw [idx_nat]
  rw [List.getElem?_set_self h]
theorem mkL_of {τ : Type} {b n : Nat} {z : τ} (h : b * n ≤ 281474976710656) : mkL b n n z = some (List.replicate n z) := by
  unfold mkL
  have e : ((b * n : Nat) : Int) = (b : Int) * (n : Int) := Int.natCast_mul b n
  have h' : (b : Int) * (n : Int) ≤ 281474976710656 := by rw [← e]; omega
  rw [if_pos ⟨Int.natCast_nonneg n, Int.le_refl _, h'⟩, Int.toNat_natCast]
end Gx
