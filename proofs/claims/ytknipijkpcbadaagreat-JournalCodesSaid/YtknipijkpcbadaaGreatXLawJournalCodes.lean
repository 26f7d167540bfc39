/- JournalCodes: proved for every input. The plain law, the walk of the law, and the statement. Conditions: none. -/
import Derived.Test.YtknipijkpcbadaaGreatRows
import Derived.Test.YtknipijkpcbadaaGreatXRuns
import Derived.Test.YtknipijkpcbadaaGreatXPlainJournalCodes
import Derived.Test.YtknipijkpcbadaaGreatXRj
import Derived.WalkKit
import Derived.ProofKit
import Derived.OpenShut
namespace Gx
open Go Gd Go.Proofs Go.Proofs.YtknipijkpcbadaaGreat Go.RowKit Go.WideShapes Go.ChangeShapes
set_option linter.unusedVariables false
theorem op3 : OpensT Tryz.prog 3 (.int .i64) := openT_int (show Tryz.prog.underlying 3 = some (.int .i64) by kernel_rfl) (by kernel_rfl)
theorem op9 : OpensT Tryz.prog 9 .str := openT_str (show Tryz.prog.underlying 9 = some (.string) by kernel_rfl) (by kernel_rfl)
theorem op42 : OpensT Tryz.prog 42 tyApiRequest := openT_st (show Tryz.prog.underlying 42 = some (.struct ⟨[⟨"Session", 3, 0, false, "", "", 0⟩, ⟨"Seq", 3, 1, false, "", "", 8⟩, ⟨"Kind", 3, 2, false, "", "", 16⟩, ⟨"At", 3, 3, false, "", "", 24⟩, ⟨"Sub", 3, 4, false, "", "", 32⟩, ⟨"Usage", 3, 5, false, "", "", 40⟩, ⟨"B", 9, 6, false, "", "", 48⟩, ⟨"Used", 3, 7, false, "", "", 64⟩, ⟨"Ask", 3, 8, false, "", "", 72⟩]⟩) by kernel_rfl) (by kernel_rfl) (.pr op3 rfl rfl rfl (.pr op3 rfl rfl rfl (.pr op3 rfl rfl rfl (.pr op3 rfl rfl rfl (.pr op3 rfl rfl rfl (.pr op3 rfl rfl rfl (.pr op9 rfl rfl rfl (.pr op3 rfl rfl rfl (.last op3 rfl rfl rfl)))))))))
theorem op5 : OpensT Tryz.prog 5 (.int .u8) := openT_int (show Tryz.prog.underlying 5 = some (.int .u8) by kernel_rfl) (by kernel_rfl)
theorem op43 : OpensT Tryz.prog 43 (.sl (.int .u8)) := openT_sl (show Tryz.prog.underlying 43 = some (.slice 5) by kernel_rfl) (by kernel_rfl) op5 (by decide)
end Gx
namespace Go.Proofs.YtknipijkpcbadaaGreat
open Go Gd Gx Go.ChangeShapes Go.WideShapes Go.ChangeAt Go.RowKit
set_option linter.unusedVariables false
set_option maxRecDepth 100000 in
/-- What the walk and the plain law give. -/
theorem journalCodes_lifted (os : Os) (started : os.Started) (H : Type) (enc : TypeId × Value → H) :
    ReturnsInHanded {} Tryz.checked os 4 .any (Rows.journalCodesSpec.pre6 enc Tryz.prog Tryz.f4 Rows.journalCodesRow.domain false) (Rows.journalCodesSpec.post enc Tryz.prog Tryz.f4 false true false false) := by
  refine returnsInHanded_of_change (C := Tryz.checked) (by kernel_rfl) started (by kernel_rfl) Tryz.func4
    (ChangeSpec.witness6 (enc := enc) (C := Tryz.checked) false ⟨#[], #[.agg #[.int .i64 0, .int .i64 0, .int .i64 0, .int .i64 0, .int .i64 0, .int .i64 0, .string ⟨#[]⟩, .int .i64 0, .int .i64 0], .slice none 0 0], []⟩ 8 (by kernel_rfl) (by kernel_rfl) (by kernel_rfl) (by kernel_rfl)) ?_
  intro W base args ds gs before hval0 hW hcnd _
  have hval : ∀ (j : Nat) t v, Tryz.f4.params[j]? = some t → args[j]? = some v → Value.okWide Tryz.prog W .any base t v := hval0
  obtain ⟨v0, v1, x0, x1, hargs, hv0, g0, hv1, g1⟩ := open2 (show Tryz.f4.params = #[42, 43] by kernel_rfl) hval hW op42 op43
  obtain ⟨N, hF⟩ := law_JournalCodes x0 g0 x1 g1
  subst hargs
  exact law_post (tb := 4) (by kernel_rfl) (show Tryz.prog.underlying 4 = some .bool by kernel_rfl) rfl (by kernel_rfl) (by kernel_rfl) (fun d hd => (match d, hd with
      | [d0, d1], _ => rfl)) hW
    (post_true (c := con_billinglaw42_JournalCodes N) (ok_billinglaw42_JournalCodes N (lt W) W [] (fun _ => 0) (fun _ => undef) (x0, x1) true [v0, v1] (fun _ _ h => h) (fun q hq => by cases hq) rfl lends_nil (args2 hv0 hv1) hF) rfl)

/-- The statement JournalCodes. -/
theorem journalCodes_proved : Rows.JournalCodesSaid :=
  OpenClaim.holds_of_wide 4 Tryz.f4 rfl rfl rfl rfl rfl rfl rfl ⟨rfl, rfl, rfl, rfl, rfl⟩ rfl rfl rfl rfl rfl (by kernel_rfl) Tryz.func4 (by kernel_rfl)
    (of_decide_eq_true (by kernel_rfl)) (by unfold Func.isWrapper; first | (rw [if_pos (by decide +kernel)]; kernel_rfl) | (rw [if_neg (by decide +kernel)]; exact ⟨rfl, rfl⟩))
    (fun os started H enc _ => journalCodes_lifted os started H enc)
end Go.Proofs.YtknipijkpcbadaaGreat
