/- Strings in order. -/
import Derived.Test.YtaekakpannjacaaXPBase
namespace Gx
open Go Gd
set_option linter.unusedVariables false
set_option linter.unusedSimpArgs false

abbrev bl (x y : Str) : Bool := Op.bytesLess x y
theorem u8_lt {a b : UInt8} : a < b ↔ a.toNat < b.toNat := UInt8.lt_iff_toNat_lt
theorem u8_eq {a b : UInt8} : a = b ↔ a.toNat = b.toNat := ⟨fun h => h ▸ rfl, fun h => UInt8.toNat_inj.1 h⟩
theorem bl_cons {a b : UInt8} {x y : Str} : bl (a :: x) (b :: y) = true ↔ a.toNat < b.toNat ∨ (a = b ∧ bl x y = true) := by
  simp only [bl, Op.bytesLess, Bool.or_eq_true, decide_eq_true_eq, Bool.and_eq_true, beq_iff_eq, u8_lt]
theorem bl_irrefl : ∀ x : Str, bl x x = false
  | [] => rfl
  | a :: x => by
    rw [← Bool.not_eq_true, bl_cons]
    rintro (h | ⟨_, h⟩)
    · omega
    · rw [bl_irrefl x] at h; cases h
theorem bl_trans : ∀ {x y z : Str}, bl x y = true → bl y z = true → bl x z = true
  | _, [], _, h, _ => by cases ‹Str› <;> simp [bl, Op.bytesLess] at h
  | _, _ :: _, [], _, h => by simp [bl, Op.bytesLess] at h
  | [], _ :: _, _ :: _, _, _ => rfl
  | a :: x, b :: y, c :: z, h, k => by
    rw [bl_cons] at h k ⊢
    rcases h with h | ⟨rfl, h⟩
    · rcases k with k | ⟨rfl, k⟩
      · exact .inl (by omega)
      · exact .inl h
    · rcases k with k | ⟨rfl, k⟩
      · exact .inl k
      · exact .inr ⟨rfl, bl_trans h k⟩
theorem bl_total : ∀ {x y : Str}, bl x y = false → bl y x = false → x = y
  | [], [], _, _ => rfl
  | [], _ :: _, h, _ => by simp [bl, Op.bytesLess] at h
  | _ :: _, [], _, h => by simp [bl, Op.bytesLess] at h
  | a :: x, b :: y, h, k => by
    rw [← Bool.not_eq_true, bl_cons] at h k
    have e : a = b := u8_eq.2 (by
      have h1 : ¬ a.toNat < b.toNat := fun q => h (.inl q)
      have h2 : ¬ b.toNat < a.toNat := fun q => k (.inl q)
      omega)
    subst e
    rw [bl_total (x := x) (y := y) (by rw [← Bool.not_eq_true]; exact fun q => h (.inr ⟨rfl, q⟩)) (by rw [← Bool.not_eq_true]; exact fun q => k (.inr ⟨rfl, q⟩))]
theorem bl_asymm {x y : Str} (h : bl x y = true) : bl y x = false := by
  cases k : bl y x with
  | false => rfl
  | true => have := bl_trans h k; rw [bl_irrefl] at this; cases this
theorem bl_ne {x y : Str} (h : bl x y = true) : x ≠ y := fun e => by subst e; rw [bl_irrefl] at h; cases h
end Gx
