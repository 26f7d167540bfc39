/- LedgerZero: proved for every input. The plain law, the walk of the law, and the statement. Conditions: none. -/
import Derived.Test.YteiofmonhoddfaaRows
import Derived.Test.YteiofmonhoddfaaGWalks1
import Derived.Test.YteiofmonhoddfaaGLedger
import Derived.Test.YteiofmonhoddfaaGLedgerAll
import Derived.Test.YteiofmonhoddfaaGLedgerBal
import Derived.Test.YteiofmonhoddfaaGLedgerZero
import Derived.WalkKit
import Derived.ProofKit
import Derived.OpenShut
namespace Gd
open Go Go.Proofs Go.Proofs.Yteiofmonhoddfaa Go.RowKit Go.WideShapes Go.ChangeShapes
set_option linter.unusedVariables false
theorem op3 : Opens Try.prog (rInt .i64) 3 (goodI .i64) := opens_int (lookT_ok tabOk tb3).2 (by kernel_rfl)
theorem op9 : Opens Try.prog rStr 9 goodS := opens_str (lookT_ok tabOk tb9).2 (by kernel_rfl)
theorem op38 : Opens Try.prog rApiPost 38 goodApiPost := by
  refine ⟨by kernel_rfl, fun hv => ⟨fun _ => ?_, fun h => nomatch h⟩, fun enc w n cs x h => ?_⟩
  · obtain ⟨c, rfl, _⟩ := okWide_struct (lookT_ok tabOk tb38).2 hv; exact ⟨_, rfl⟩
  · obtain ⟨xs, m, _, _, hl, hlen, hf⟩ := DataW.trod_struct (lookT_ok tabOk tb38).2 h
    have hl : cs.length = 2 := hl.trans (by kernel_rfl)
    obtain ⟨y0, h0, g0⟩ := Opens.fld op9 hlen hf 0 0 rfl rfl rfl
    obtain ⟨y1, h1, g1⟩ := Opens.fld op3 hlen hf 1 1 rfl rfl rfl
    exact ⟨⟨y0, y1⟩, (repF_step (o := 0) h0 (repF_step (o := 1) h1 (repF_end (o := 2) hl))), g0, g1⟩
theorem op22 : Opens Try.prog (rSl rApiPost) 22 (goodL goodApiPost) := opens_sl (lookT_ok tabOk tb22).2 (by kernel_rfl) op38 (by decide)
theorem op24 : Opens Try.prog rApiEntry 24 goodApiEntry := by
  refine ⟨by kernel_rfl, fun hv => ⟨fun _ => ?_, fun h => nomatch h⟩, fun enc w n cs x h => ?_⟩
  · obtain ⟨c, rfl, _⟩ := okWide_struct (lookT_ok tabOk tb24).2 hv; exact ⟨_, rfl⟩
  · obtain ⟨xs, m, _, _, hl, hlen, hf⟩ := DataW.trod_struct (lookT_ok tabOk tb24).2 h
    have hl : cs.length = 3 := hl.trans (by kernel_rfl)
    obtain ⟨y0, h0, g0⟩ := Opens.fld op3 hlen hf 0 0 rfl rfl rfl
    obtain ⟨y1, h1, g1⟩ := Opens.fld op9 hlen hf 1 1 rfl rfl rfl
    obtain ⟨y2, h2, g2⟩ := Opens.fld op22 hlen hf 2 2 rfl rfl rfl
    exact ⟨⟨y0, y1, y2⟩, (repF_step (o := 0) h0 (repF_step (o := 1) h1 (repF_step (o := 2) h2 (repF_end (o := 3) hl)))), g0, g1, g2⟩
theorem op30 : Opens Try.prog (rSl rApiEntry) 30 (goodL goodApiEntry) := opens_sl (lookT_ok tabOk tb30).2 (by kernel_rfl) op24 (by decide)
end Gd
namespace Go.Proofs.Yteiofmonhoddfaa
open Go Gd Go.ChangeShapes Go.WideShapes Go.ChangeAt Go.RowKit
set_option linter.unusedVariables false
set_option maxRecDepth 100000 in
/-- What the walk and the plain law give. -/
theorem ledgerZero_lifted (os : Os) (started : os.Started) (H : Type) (enc : TypeId × Value → H) :
    ReturnsInHanded {} Try.checked os 5 .any (Rows.ledgerZeroSpec.pre6 enc Try.prog Try.f5 Rows.ledgerZeroRow.domain false) (Rows.ledgerZeroSpec.post enc Try.prog Try.f5 false true false false) := by
  refine returnsInHanded_of_change (C := Try.checked) (by kernel_rfl) started (by kernel_rfl) Try.func5
    (ChangeSpec.witness6 (enc := enc) (C := Try.checked) false ⟨#[], #[.slice none 0 0, .slice none 0 0], []⟩ 8 (by kernel_rfl) (by kernel_rfl) (by kernel_rfl) (by kernel_rfl)) ?_
  intro W base args ds gs before hval0 hW hcnd _
  have hval : ∀ (j : Nat) t v, Try.f5.params[j]? = some t → args[j]? = some v → Value.okWide Try.prog W .any base t v := hval0
  obtain ⟨v0, v1, x0, x1, hargs, hv0, g0, hv1, g1⟩ := open2 (show Try.f5.params = #[30, 30] by kernel_rfl) hval hW op30 op30
  obtain ⟨N, hF⟩ := law_LedgerZero x0 g0 x1 g1
  obtain ⟨A1, c2, rfl, hs3⟩ := slForm hv0
  obtain ⟨A4, c5, rfl, hs6⟩ := slForm hv1
  subst hargs
  exact law_post (tb := 4) (by kernel_rfl) (lookT_ok tabOk tb4).2 rfl (by kernel_rfl) (by kernel_rfl) (fun d hd => (match d, hd with
      | [d0, d1], _ => rfl)) hW
    (c_billinglaw47_LedgerZero (fun _ _ h => h) N hs3 hs6 hF)

/-- The statement LedgerZero. -/
theorem ledgerZero_proved : Rows.LedgerZeroSaid :=
  OpenClaim.holds_of_wide 5 Try.f5 rfl rfl rfl rfl rfl rfl rfl ⟨rfl, rfl, rfl, rfl, rfl⟩ rfl rfl rfl rfl rfl (by kernel_rfl) Try.func5 (by kernel_rfl)
    (of_decide_eq_true (by kernel_rfl)) (by unfold Func.isWrapper; first | (rw [if_pos (by decide +kernel)]; kernel_rfl) | (rw [if_neg (by decide +kernel)]; exact ⟨rfl, rfl⟩))
    (fun os started H enc _ => ledgerZero_lifted os started H enc)
end Go.Proofs.Yteiofmonhoddfaa
