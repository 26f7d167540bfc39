/- Amount, chapter 01: the examples; the statement about products. -/
import Derived.Test.YtjcniejccgofbaaDoorXPScale
namespace Gx
open Go Gd
set_option linter.unusedVariables false
set_option linter.unusedSimpArgs false
set_option maxRecDepth 100000

theorem awake01 : billinglaw01_awake (10000 + 64) = some true := by
  have : ∀ M, billinglaw01_awake (M + 64) = some true := fun M => by kernel_rfl
  exact this 10000

theorem same01 {N : Nat} {l : List Int} (hl : l.length ≤ 4096) (hN : 5000 ≤ N) : billingref01_Same N l l = some true := by
  unfold billingref01_Same
  simp only [bne_self_eq_false, Bool.false_eq_true, if_false]
  have key := loop_list (n := N) (s := ()) l (by rw [maxLen_val]; omega) (f := billingref01_Same_l1 N l l) (fun s i => i) (fun i s => True) (fun s xs => .inl ())
    (fun s hI h => by simp [billingref01_Same_l1]) (fun s i x xs hx hlt hidx hw hd hI => .inl ⟨(), by simp [billingref01_Same_l1, hidx, hw]; exact (List.getElem?_eq_some_iff.1 hx).1, trivial, rfl⟩) (by omega) trivial
  rw [show loopN (billingref01_Same_l1 N l l) N 0 = some (.inl ()) from key]
  rfl

theorem law_AmountScales (x0 : Int) (g0 : gd (.int .i64) x0) (x1 : Int) (g1 : gd (.int .i64) x1) (x2 : Int) (g2 : gd (.int .i64) x2) : ∃ N, billinglaw01_AmountScales N x0 x1 x2 = some true := by
  refine ⟨10000 + 64, ?_⟩
  unfold billinglaw01_AmountScales
  rw [scale_p (by omega), scale_r (by omega), awake01]
  simp

end Gx
