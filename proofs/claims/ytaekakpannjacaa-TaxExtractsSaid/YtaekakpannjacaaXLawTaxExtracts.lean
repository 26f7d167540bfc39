/- TaxExtracts: proved for every input. The plain law, the walk of the law, and the statement. Conditions: none. -/
import Derived.Test.YtaekakpannjacaaRows
import Derived.Test.YtaekakpannjacaaXRuns
import Derived.Test.YtaekakpannjacaaXPBase
import Derived.Test.YtaekakpannjacaaXPAmount
import Derived.Test.YtaekakpannjacaaXPScale
import Derived.Test.YtaekakpannjacaaXPStr
import Derived.Test.YtaekakpannjacaaXPTax
import Derived.Test.YtaekakpannjacaaXPTax2
import Derived.Test.YtaekakpannjacaaXQ
import Derived.WalkKit
import Derived.ProofKit
import Derived.OpenShut
namespace Gx
open Go Gd Go.Proofs Go.Proofs.Ytaekakpannjacaa Go.RowKit Go.WideShapes Go.ChangeShapes
set_option linter.unusedVariables false
theorem op3 : OpensT Try.prog 3 (.int .i64) := openT_int (show Try.prog.underlying 3 = some (.int .i64) by kernel_rfl) (by kernel_rfl)
end Gx
namespace Go.Proofs.Ytaekakpannjacaa
open Go Gd Gx Go.ChangeShapes Go.WideShapes Go.ChangeAt Go.RowKit
set_option linter.unusedVariables false
set_option maxRecDepth 100000 in
/-- What the walk and the plain law give. -/
theorem taxExtracts_lifted (os : Os) (started : os.Started) (H : Type) (enc : TypeId × Value → H) :
    ReturnsInHanded {} Try.checked os 7 .any (Rows.taxExtractsSpec.pre6 enc Try.prog Try.f7 Rows.taxExtractsRow.domain false) (Rows.taxExtractsSpec.post enc Try.prog Try.f7 false true false false) := by
  refine returnsInHanded_of_change (C := Try.checked) (by kernel_rfl) started (by kernel_rfl) Try.func7
    (ChangeSpec.witness6 (enc := enc) (C := Try.checked) false ⟨#[], #[.int .i64 0, .int .i64 0], []⟩ 8 (by kernel_rfl) (by kernel_rfl) (by kernel_rfl) (by kernel_rfl)) ?_
  intro W base args ds gs before hval0 hW hcnd _
  have hval : ∀ (j : Nat) t v, Try.f7.params[j]? = some t → args[j]? = some v → Value.okWide Try.prog W .any base t v := hval0
  obtain ⟨v0, v1, x0, x1, hargs, hv0, g0, hv1, g1⟩ := open2 (show Try.f7.params = #[3, 3] by kernel_rfl) hval hW op3 op3
  obtain ⟨N, hF⟩ := law_TaxExtracts x0 g0 x1 g1
  subst hargs
  exact law_post (tb := 4) (by kernel_rfl) (show Try.prog.underlying 4 = some .bool by kernel_rfl) rfl (by kernel_rfl) (by kernel_rfl) (fun d hd => (match d, hd with
      | [d0, d1], _ => rfl)) hW
    (post_true (c := con_billinglaw45_TaxExtracts N) (ok_billinglaw45_TaxExtracts N (lt W) W [] (fun _ => 0) (fun _ => undef) (x0, x1) true [v0, v1] (fun _ _ h => h) rfl lends_nil (args2 hv0 hv1) hF) rfl)

/-- The statement TaxExtracts. -/
theorem taxExtracts_proved : Rows.TaxExtractsSaid :=
  OpenClaim.holds_of_wide 7 Try.f7 rfl rfl rfl rfl rfl rfl rfl ⟨rfl, rfl, rfl, rfl, rfl⟩ rfl rfl rfl rfl rfl (by kernel_rfl) Try.func7 (by kernel_rfl)
    (of_decide_eq_true (by kernel_rfl)) (by unfold Func.isWrapper; first | (rw [if_pos (by decide +kernel)]; kernel_rfl) | (rw [if_neg (by decide +kernel)]; exact ⟨rfl, rfl⟩))
    (fun os started H enc _ => taxExtracts_lifted os started H enc)
end Go.Proofs.Ytaekakpannjacaa
