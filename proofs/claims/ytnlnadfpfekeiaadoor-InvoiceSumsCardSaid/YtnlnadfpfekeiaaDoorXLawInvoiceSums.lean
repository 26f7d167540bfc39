/- InvoiceSums: proved for every input. The plain law, the walk of the law, and the statement. Conditions: none. -/
import Derived.Test.YtnlnadfpfekeiaaDoorRows
import Derived.Test.YtnlnadfpfekeiaaDoorXRuns
import Derived.Test.YtnlnadfpfekeiaaDoorXPlainInvoiceSums
import Derived.Test.YtnlnadfpfekeiaaDoorXQ
import Derived.WalkKit
import Derived.ProofKit
import Derived.OpenShut
import Derived.Test.YtnlnadfpfekeiaaDoorCards
import Derived.Test.YtnlnadfpfekeiaaDoorTie
import Derived.Lay
import Derived.Stop.LaidErr
import Derived.LaidOnce
import Derived.SevenTiedAt
import Derived.MakeChecks
namespace Gx
open Go Gd Go.Proofs Go.Proofs.YtnlnadfpfekeiaaDoor Go.RowKit Go.WideShapes Go.ChangeShapes
set_option linter.unusedVariables false
theorem op3 : OpensT Tryd.prog 3 (.int .i64) := openT_int (show Tryd.prog.underlying 3 = some (.int .i64) by kernel_rfl) (by kernel_rfl)
theorem op24 : OpensT Tryd.prog 24 tyApiPeriod := openT_st (show Tryd.prog.underlying 24 = some (.struct ⟨[⟨"From", 3, 0, false, "", "", 0⟩, ⟨"To", 3, 1, false, "", "", 8⟩]⟩) by kernel_rfl) (by kernel_rfl) (.pr op3 rfl rfl rfl (.last op3 rfl rfl rfl))
theorem op9 : OpensT Tryd.prog 9 .str := openT_str (show Tryd.prog.underlying 9 = some (.string) by kernel_rfl) (by kernel_rfl)
theorem op43 : OpensT Tryd.prog 43 tyApiLine := openT_st (show Tryd.prog.underlying 43 = some (.struct ⟨[⟨"Kind", 3, 0, false, "", "", 0⟩, ⟨"Sub", 3, 1, false, "", "", 8⟩, ⟨"Name", 9, 2, false, "", "", 16⟩, ⟨"Category", 9, 3, false, "", "", 32⟩, ⟨"Count", 3, 4, false, "", "", 48⟩, ⟨"Units", 3, 5, false, "", "", 56⟩, ⟨"Amount", 3, 6, false, "", "", 64⟩, ⟨"Rounded", 3, 7, false, "", "", 72⟩]⟩) by kernel_rfl) (by kernel_rfl) (.pr op3 rfl rfl rfl (.pr op3 rfl rfl rfl (.pr op9 rfl rfl rfl (.pr op9 rfl rfl rfl (.pr op3 rfl rfl rfl (.pr op3 rfl rfl rfl (.pr op3 rfl rfl rfl (.last op3 rfl rfl rfl))))))))
theorem op26 : OpensT Tryd.prog 26 (.sl tyApiLine) := openT_sl (show Tryd.prog.underlying 26 = some (.slice 43) by kernel_rfl) (by kernel_rfl) op43 (by decide)
theorem op69 : OpensT Tryd.prog 69 tyApiTax := openT_st (show Tryd.prog.underlying 69 = some (.struct ⟨[⟨"Category", 9, 0, false, "", "", 0⟩, ⟨"From", 3, 1, false, "", "", 16⟩, ⟨"Points", 3, 2, false, "", "", 24⟩]⟩) by kernel_rfl) (by kernel_rfl) (.pr op9 rfl rfl rfl (.pr op3 rfl rfl rfl (.last op3 rfl rfl rfl)))
theorem op32 : OpensT Tryd.prog 32 (.sl tyApiTax) := openT_sl (show Tryd.prog.underlying 32 = some (.slice 69) by kernel_rfl) (by kernel_rfl) op69 (by decide)
theorem op34 : OpensT Tryd.prog 34 tyBillinglaw46Case := openT_st (show Tryd.prog.underlying 34 = some (.struct ⟨[⟨"Account", 3, 0, false, "", "", 0⟩, ⟨"Period", 24, 1, false, "", "", 8⟩, ⟨"Lines", 26, 3, false, "", "", 24⟩, ⟨"Taxes", 32, 4, false, "", "", 48⟩]⟩) by kernel_rfl) (by kernel_rfl) (.pr op3 rfl rfl rfl (.pr op24 rfl rfl rfl (.pr op26 rfl rfl rfl (.last op32 rfl rfl rfl))))
end Gx
namespace Go.Proofs.YtnlnadfpfekeiaaDoor
open Go Gd Gx Go.ChangeShapes Go.WideShapes Go.ChangeAt Go.RowKit
set_option linter.unusedVariables false
theorem own : ownKnob Tryd.prog.godebug = none := by kernel_rfl
theorem laidIs : Rows.invoiceSumsRow.laid = [("math/bits.deBruijn32tab", Rows.laid_math_bits_deBruijn32tab), ("math/bits.deBruijn64tab", Rows.laid_math_bits_deBruijn64tab), ("internal/strconv.uint64pow10", Lib.tabData .u64 Lib.pow10Tab), ("billing/amount.powers", Lib.tabData .i64 ([1, 10, 100, 1000, 10000] : List Int))] := by kernel_rfl
theorem globs {W : World} (hL : laidMetH Tryd.prog Rows.invoiceSumsRow.laid W) : GlobOk tx.gl (lt W) W := by
  rw [MakeChecks.laidMetH_plain _ _ _ (by kernel_rfl), laidIs] at hL
  have t1 := Lib.tabIs_of_head (g := 1) (t := 134) (e := 128) (n := 20) (by kernel_rfl) (by kernel_rfl) (by kernel_rfl) (by kernel_rfl) (by kernel_rfl) (by kernel_rfl) hL.tail.tail
  have t0 := Lib.tabIs_of_head (g := 0) (t := 119) (e := 3) (n := 5) (by kernel_rfl) (by kernel_rfl) (by kernel_rfl) (by kernel_rfl) (by kernel_rfl) (by kernel_rfl) hL.tail.tail.tail
  intro q hq
  rcases List.mem_cons.1 hq with rfl | hq
  · exact glob_of_tab t0 (by kernel_rfl) (by kernel_rfl) (by kernel_rfl)
  rcases List.mem_cons.1 hq with rfl | hq
  · exact glob_of_tab t1 (by kernel_rfl) (by kernel_rfl) (by kernel_rfl)
  cases hq
set_option maxRecDepth 100000 in
/-- What the walk and the plain law give. -/
theorem invoiceSums_lifted (os : Os) (started : os.Started) (H : Type) (enc : TypeId × Value → H) :
    ReturnsInHanded {} Tryd.checked os 6 .any (fun w args => (Rows.invoiceSumsSpec.pre enc Tryd.prog Tryd.f6 [] false w args ∧ laidMetH Tryd.prog Rows.invoiceSumsRow.laid w) ∧ sizedMet enc Tryd.prog Tryd.f6 (OpenSpec.ofChange Rows.invoiceSumsSpec) false w args)
      (Rows.invoiceSumsSpec.post enc Tryd.prog Tryd.f6 false true false false) := by
  refine returnsInHanded_of_change_and (C := Tryd.checked) (X := fun w _ => laidMetH Tryd.prog Rows.invoiceSumsRow.laid w) (fun _ _ _ hh h => h.of_heap hh) own started (by kernel_rfl) Tryd.func6
    (ChangeSpec.witness_shaped (enc := enc) (C := Tryd.checked) (os := os) (X := fun w _ => laidMetH Tryd.prog Rows.invoiceSumsRow.laid w) false (World.laidAll Tryd.prog os Rows.invoiceSumsRow.laid) #[.agg #[.int .i64 0, .int .i64 0, .int .i64 0, .slice none 0 0, .slice none 0 0]] 8 (World.laidAll_os _ _ _)
      (World.shaped_of_ZipB (by kernel_rfl) (by kernel_rfl)) (by kernel_rfl) (by kernel_rfl) (by kernel_rfl)
      (by rw [MakeChecks.laidMetH_plain _ _ _ (by kernel_rfl)]; exact laidMet_laidAll _ (by kernel_rfl) (by kernel_rfl))) ?_
  intro W base args ds gs before hval0 hW _ hz hL _
  have hval : ∀ (j : Nat) t v, Tryd.f6.params[j]? = some t → args[j]? = some v → Value.okWide Tryd.prog W .any base t v := hval0
  obtain ⟨v0, x0, hargs, hv0, g0⟩ := open1 (show Tryd.f6.params = #[34] by kernel_rfl) hval hW op34
  subst hargs
  obtain ⟨N, hF⟩ := law_InvoiceSums x0 g0
  exact law_post (tb := 4) (by kernel_rfl) (show Tryd.prog.underlying 4 = some .bool by kernel_rfl) rfl (by kernel_rfl) (by kernel_rfl) (fun d hd => (match d, hd with
      | [d0], _ => rfl)) hW
    (post_true (c := con_billinglaw46_InvoiceSums N) (ok_billinglaw46_InvoiceSums N (lt W) W [] (fun _ => 0) (fun _ => undef) x0 true [v0] (fun _ _ h => h) (globs hL) rfl lends_nil (args1 hv0) hF) rfl)

/-- The row of InvoiceSums. -/
theorem invoiceSums_row : Rows.InvoiceSumsSaid :=
  OpenClaim.holds_of_wide 6 Tryd.f6 rfl rfl rfl rfl rfl rfl rfl ⟨rfl, rfl, rfl, rfl, rfl⟩ rfl rfl rfl rfl rfl (by kernel_rfl) Tryd.func6 (by kernel_rfl)
    (of_decide_eq_true (by kernel_rfl)) (by unfold Func.isWrapper; first | (rw [if_pos (by decide +kernel)]; kernel_rfl) | (rw [if_neg (by decide +kernel)]; exact ⟨rfl, rfl⟩))
    (fun os started H enc _ => invoiceSums_lifted os started H enc)
/-- The card of InvoiceSums. -/
theorem invoiceSums_proved : Rows.InvoiceSumsCardSaid :=
  Claim7.holds_tied_plain_at .later [] [.data, .data, .data, .data] true (true, "992b21c8ec4abeaa62fa39d4b9048b012eef1fddf24099bb35f06df1be7fe9bf") false
    invoiceSums_row (fun _ h => by cases h) (by kernel_rfl) (fun _ h => by cases h) invoiceSums_row_tie rfl ⟨rfl, rfl⟩ (by kernel_rfl) rfl
    (fun f fn hf hfn => by
      obtain rfl : f = 6 := Option.some.inj ((show Tryd.prog.funcNamed "billing/billinglaw46.InvoiceSums" = some 6 by kernel_rfl).symm.trans hf) |>.symm
      obtain rfl : fn = Tryd.f6 := (Option.some.inj (Tryd.func6.symm.trans hfn)).symm
      exact ⟨by kernel_rfl, fun j t ht => by
        rw [show Tryd.f6.params = #[34] by kernel_rfl] at ht
        have hm : t ∈ [34] := by simpa using Array.mem_of_getElem? ht
        have hall : ([34].all fun u => !Tryd.prog.wantsStandIn u) = true := by kernel_rfl
        exact (show Tryd.prog.wantsStandIn t = false by simpa using List.all_eq_true.1 hall t hm)⟩)
    (by kernel_rfl)
end Go.Proofs.YtnlnadfpfekeiaaDoor
