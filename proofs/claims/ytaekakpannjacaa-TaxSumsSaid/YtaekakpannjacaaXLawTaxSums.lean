/- TaxSums: proved for every input. The plain law, the walk of the law, and the statement. Conditions: none. -/
import Derived.Test.YtaekakpannjacaaRows
import Derived.Test.YtaekakpannjacaaXRuns
import Derived.Test.YtaekakpannjacaaXPBase
import Derived.Test.YtaekakpannjacaaXPAmount
import Derived.Test.YtaekakpannjacaaXPScale
import Derived.Test.YtaekakpannjacaaXPStr
import Derived.Test.YtaekakpannjacaaXPTax
import Derived.Test.YtaekakpannjacaaXPTax2
import Derived.Test.YtaekakpannjacaaXPTax3
import Derived.Test.YtaekakpannjacaaXPTax4
import Derived.Test.YtaekakpannjacaaXQ
import Derived.WalkKit
import Derived.ProofKit
import Derived.OpenShut
namespace Gx
open Go Gd Go.Proofs Go.Proofs.Ytaekakpannjacaa Go.RowKit Go.WideShapes Go.ChangeShapes
set_option linter.unusedVariables false
theorem op9 : OpensT Try.prog 9 .str := openT_str (show Try.prog.underlying 9 = some (.string) by kernel_rfl) (by kernel_rfl)
theorem op3 : OpensT Try.prog 3 (.int .i64) := openT_int (show Try.prog.underlying 3 = some (.int .i64) by kernel_rfl) (by kernel_rfl)
theorem op47 : OpensT Try.prog 47 tyApiTax := openT_st (show Try.prog.underlying 47 = some (.struct ⟨[⟨"Category", 9, 0, false, "", "", 0⟩, ⟨"From", 3, 1, false, "", "", 16⟩, ⟨"Points", 3, 2, false, "", "", 24⟩]⟩) by kernel_rfl) (by kernel_rfl) (.pr op9 rfl rfl rfl (.pr op3 rfl rfl rfl (.last op3 rfl rfl rfl)))
theorem op22 : OpensT Try.prog 22 (.sl tyApiTax) := openT_sl (show Try.prog.underlying 22 = some (.slice 47) by kernel_rfl) (by kernel_rfl) op47 (by decide)
theorem op37 : OpensT Try.prog 37 tyApiLine := openT_st (show Try.prog.underlying 37 = some (.struct ⟨[⟨"Kind", 3, 0, false, "", "", 0⟩, ⟨"Sub", 3, 1, false, "", "", 8⟩, ⟨"Name", 9, 2, false, "", "", 16⟩, ⟨"Category", 9, 3, false, "", "", 32⟩, ⟨"Count", 3, 4, false, "", "", 48⟩, ⟨"Units", 3, 5, false, "", "", 56⟩, ⟨"Amount", 3, 6, false, "", "", 64⟩, ⟨"Rounded", 3, 7, false, "", "", 72⟩]⟩) by kernel_rfl) (by kernel_rfl) (.pr op3 rfl rfl rfl (.pr op3 rfl rfl rfl (.pr op9 rfl rfl rfl (.pr op9 rfl rfl rfl (.pr op3 rfl rfl rfl (.pr op3 rfl rfl rfl (.pr op3 rfl rfl rfl (.last op3 rfl rfl rfl))))))))
theorem op29 : OpensT Try.prog 29 (.sl tyApiLine) := openT_sl (show Try.prog.underlying 29 = some (.slice 37) by kernel_rfl) (by kernel_rfl) op37 (by decide)
end Gx
namespace Go.Proofs.Ytaekakpannjacaa
open Go Gd Gx Go.ChangeShapes Go.WideShapes Go.ChangeAt Go.RowKit
set_option linter.unusedVariables false
set_option maxRecDepth 100000 in
/-- What the walk and the plain law give. -/
theorem taxSums_lifted (os : Os) (started : os.Started) (H : Type) (enc : TypeId × Value → H) :
    ReturnsInHanded {} Try.checked os 6 .any (Rows.taxSumsSpec.pre6 enc Try.prog Try.f6 Rows.taxSumsRow.domain false) (Rows.taxSumsSpec.post enc Try.prog Try.f6 false true false false) := by
  refine returnsInHanded_of_change (C := Try.checked) (by kernel_rfl) started (by kernel_rfl) Try.func6
    (ChangeSpec.witness6 (enc := enc) (C := Try.checked) false ⟨#[], #[.slice none 0 0, .slice none 0 0, .int .i64 0], []⟩ 8 (by kernel_rfl) (by kernel_rfl) (by kernel_rfl) (by kernel_rfl)) ?_
  intro W base args ds gs before hval0 hW hcnd _
  have hval : ∀ (j : Nat) t v, Try.f6.params[j]? = some t → args[j]? = some v → Value.okWide Try.prog W .any base t v := hval0
  obtain ⟨v0, v1, v2, x0, x1, x2, hargs, hv0, g0, hv1, g1, hv2, g2⟩ := open3 (show Try.f6.params = #[22, 29, 3] by kernel_rfl) hval hW op22 op29 op3
  obtain ⟨N, hF⟩ := law_TaxSums x0 g0 x1 g1 x2 g2
  subst hargs
  exact law_post (tb := 4) (by kernel_rfl) (show Try.prog.underlying 4 = some .bool by kernel_rfl) rfl (by kernel_rfl) (by kernel_rfl) (fun d hd => (match d, hd with
      | [d0, d1, d2], _ => rfl)) hW
    (post_true (c := con_billinglaw45_TaxSums N) (ok_billinglaw45_TaxSums N (lt W) W [] (fun _ => 0) (fun _ => undef) (x0, x1, x2) true [v0, v1, v2] (fun _ _ h => h) rfl lends_nil (args3 hv0 hv1 hv2) hF) rfl)

/-- The statement TaxSums. -/
theorem taxSums_proved : Rows.TaxSumsSaid :=
  OpenClaim.holds_of_wide 6 Try.f6 rfl rfl rfl rfl rfl rfl rfl ⟨rfl, rfl, rfl, rfl, rfl⟩ rfl rfl rfl rfl rfl (by kernel_rfl) Try.func6 (by kernel_rfl)
    (of_decide_eq_true (by kernel_rfl)) (by unfold Func.isWrapper; first | (rw [if_pos (by decide +kernel)]; kernel_rfl) | (rw [if_neg (by decide +kernel)]; exact ⟨rfl, rfl⟩))
    (fun os started H enc _ => taxSums_lifted os started H enc)
end Go.Proofs.Ytaekakpannjacaa
