/- InvoiceTexts: proved for every input. The plain law, the walk of the law, and the statement. Conditions: none. -/
import Derived.Test.YtnlnadfpfekeiaaDoorRows
import Derived.Test.YtnlnadfpfekeiaaDoorXRuns
import Derived.Test.YtnlnadfpfekeiaaDoorXPlainInvoiceTexts
import Derived.Test.YtnlnadfpfekeiaaDoorXQ
import Derived.WalkKit
import Derived.ProofKit
import Derived.OpenShut
import Derived.Test.YtnlnadfpfekeiaaDoorCards
import Derived.Test.YtnlnadfpfekeiaaDoorTie
import Derived.Lay
import Derived.Stop.LaidErr
import Derived.LaidOnce
import Derived.SevenTiedAt
import Derived.MakeChecks
namespace Gx
open Go Gd Go.Proofs Go.Proofs.YtnlnadfpfekeiaaDoor Go.RowKit Go.WideShapes Go.ChangeShapes
set_option linter.unusedVariables false
theorem opz3 : OpensTZ Tryd.prog 3 (.int .i64) := openZ_int (show Tryd.prog.underlying 3 = some (.int .i64) by kernel_rfl) (by kernel_rfl)
theorem opz24 : OpensTZ Tryd.prog 24 tyApiPeriod := openZ_st (show Tryd.prog.underlying 24 = some (.struct ⟨[⟨"From", 3, 0, false, "", "", 0⟩, ⟨"To", 3, 1, false, "", "", 8⟩]⟩) by kernel_rfl) (by kernel_rfl) (.pr opz3 rfl rfl rfl (.last opz3 rfl rfl rfl))
theorem opz9 : OpensTZ Tryd.prog 9 .str := openZ_str (show Tryd.prog.underlying 9 = some (.string) by kernel_rfl) (by kernel_rfl)
theorem opz43 : OpensTZ Tryd.prog 43 tyApiLine := openZ_st (show Tryd.prog.underlying 43 = some (.struct ⟨[⟨"Kind", 3, 0, false, "", "", 0⟩, ⟨"Sub", 3, 1, false, "", "", 8⟩, ⟨"Name", 9, 2, false, "", "", 16⟩, ⟨"Category", 9, 3, false, "", "", 32⟩, ⟨"Count", 3, 4, false, "", "", 48⟩, ⟨"Units", 3, 5, false, "", "", 56⟩, ⟨"Amount", 3, 6, false, "", "", 64⟩, ⟨"Rounded", 3, 7, false, "", "", 72⟩]⟩) by kernel_rfl) (by kernel_rfl) (.pr opz3 rfl rfl rfl (.pr opz3 rfl rfl rfl (.pr opz9 rfl rfl rfl (.pr opz9 rfl rfl rfl (.pr opz3 rfl rfl rfl (.pr opz3 rfl rfl rfl (.pr opz3 rfl rfl rfl (.last opz3 rfl rfl rfl))))))))
theorem opz26 : OpensTZ Tryd.prog 26 (.sl tyApiLine) := openZ_sl (show Tryd.prog.underlying 26 = some (.slice 43) by kernel_rfl) (by kernel_rfl) opz43 (by decide) (by kernel_rfl)
theorem opz45 : OpensTZ Tryd.prog 45 tyApiTaxLine := openZ_st (show Tryd.prog.underlying 45 = some (.struct ⟨[⟨"Category", 9, 0, false, "", "", 0⟩, ⟨"Points", 3, 1, false, "", "", 16⟩, ⟨"Base", 3, 2, false, "", "", 24⟩, ⟨"Rounded", 3, 3, false, "", "", 32⟩]⟩) by kernel_rfl) (by kernel_rfl) (.pr opz9 rfl rfl rfl (.pr opz3 rfl rfl rfl (.pr opz3 rfl rfl rfl (.last opz3 rfl rfl rfl))))
theorem opz36 : OpensTZ Tryd.prog 36 (.sl tyApiTaxLine) := openZ_sl (show Tryd.prog.underlying 36 = some (.slice 45) by kernel_rfl) (by kernel_rfl) opz45 (by decide) (by kernel_rfl)
theorem opz38 : OpensTZ Tryd.prog 38 tyApiInvoice := openZ_st (show Tryd.prog.underlying 38 = some (.struct ⟨[⟨"Account", 3, 0, false, "", "", 0⟩, ⟨"Period", 24, 1, false, "", "", 8⟩, ⟨"Lines", 26, 3, false, "", "", 24⟩, ⟨"Taxes", 36, 4, false, "", "", 48⟩, ⟨"Net", 3, 5, false, "", "", 72⟩, ⟨"Tax", 3, 6, false, "", "", 80⟩, ⟨"Total", 3, 7, false, "", "", 88⟩]⟩) by kernel_rfl) (by kernel_rfl) (.pr opz3 rfl rfl rfl (.pr opz24 rfl rfl rfl (.pr opz26 rfl rfl rfl (.pr opz36 rfl rfl rfl (.pr opz3 rfl rfl rfl (.pr opz3 rfl rfl rfl (.last opz3 rfl rfl rfl)))))))
end Gx
namespace Go.Proofs.YtnlnadfpfekeiaaDoor
open Go Gd Gx Go.ChangeShapes Go.WideShapes Go.ChangeAt Go.RowKit
set_option linter.unusedVariables false
theorem own : ownKnob Tryd.prog.godebug = none := by kernel_rfl
theorem laidIs : Rows.invoiceTextsRow.laid = [("math/bits.deBruijn32tab", Rows.laid_math_bits_deBruijn32tab), ("math/bits.deBruijn64tab", Rows.laid_math_bits_deBruijn64tab), ("internal/strconv.uint64pow10", Lib.tabData .u64 Lib.pow10Tab), ("billing/amount.powers", Lib.tabData .i64 ([1, 10, 100, 1000, 10000] : List Int))] := by kernel_rfl
theorem globs {W : World} (hL : laidMetH Tryd.prog Rows.invoiceTextsRow.laid W) : GlobOk tx.gl (lt W) W := by
  rw [MakeChecks.laidMetH_plain _ _ _ (by kernel_rfl), laidIs] at hL
  have t1 := Lib.tabIs_of_head (g := 1) (t := 134) (e := 128) (n := 20) (by kernel_rfl) (by kernel_rfl) (by kernel_rfl) (by kernel_rfl) (by kernel_rfl) (by kernel_rfl) hL.tail.tail
  have t0 := Lib.tabIs_of_head (g := 0) (t := 119) (e := 3) (n := 5) (by kernel_rfl) (by kernel_rfl) (by kernel_rfl) (by kernel_rfl) (by kernel_rfl) (by kernel_rfl) hL.tail.tail.tail
  intro q hq
  rcases List.mem_cons.1 hq with rfl | hq
  · exact glob_of_tab t0 (by kernel_rfl) (by kernel_rfl) (by kernel_rfl)
  rcases List.mem_cons.1 hq with rfl | hq
  · exact glob_of_tab t1 (by kernel_rfl) (by kernel_rfl) (by kernel_rfl)
  cases hq
set_option maxRecDepth 100000 in
/-- What the walk and the plain law give. -/
theorem invoiceTexts_lifted (os : Os) (started : os.Started) (H : Type) (enc : TypeId × Value → H) :
    ReturnsInHanded {} Tryd.checked os 5 .any (fun w args => (Rows.invoiceTextsSpec.pre enc Tryd.prog Tryd.f5 [] false w args ∧ laidMetH Tryd.prog Rows.invoiceTextsRow.laid w) ∧ sizedMet enc Tryd.prog Tryd.f5 (OpenSpec.ofChange Rows.invoiceTextsSpec) false w args)
      (Rows.invoiceTextsSpec.post enc Tryd.prog Tryd.f5 false true false false) := by
  refine returnsInHanded_of_change_and (C := Tryd.checked) (X := fun w _ => laidMetH Tryd.prog Rows.invoiceTextsRow.laid w) (fun _ _ _ hh h => h.of_heap hh) own started (by kernel_rfl) Tryd.func5
    (ChangeSpec.witness_shaped (enc := enc) (C := Tryd.checked) (os := os) (X := fun w _ => laidMetH Tryd.prog Rows.invoiceTextsRow.laid w) false (World.laidAll Tryd.prog os Rows.invoiceTextsRow.laid) #[.agg #[.int .i64 0, .int .i64 0, .int .i64 0, .slice none 0 0, .slice none 0 0, .int .i64 0, .int .i64 0, .int .i64 0]] 8 (World.laidAll_os _ _ _)
      (World.shaped_of_ZipB (by kernel_rfl) (by kernel_rfl)) (by kernel_rfl) (by kernel_rfl) (by kernel_rfl)
      (by rw [MakeChecks.laidMetH_plain _ _ _ (by kernel_rfl)]; exact laidMet_laidAll _ (by kernel_rfl) (by kernel_rfl))) ?_
  intro W base args ds gs before hval0 hW _ hz hL _
  have hval : ∀ (j : Nat) t v, Tryd.f5.params[j]? = some t → args[j]? = some v → Value.okWide Tryd.prog W .any base t v := hval0
  obtain ⟨v0, x0, hargs, hv0, g0⟩ := openz1 (show Tryd.f5.params = #[38] by kernel_rfl) hval hW hz opz38
  subst hargs
  obtain ⟨N, hF⟩ := law_InvoiceTexts x0 g0
  exact law_post (tb := 4) (by kernel_rfl) (show Tryd.prog.underlying 4 = some .bool by kernel_rfl) rfl (by kernel_rfl) (by kernel_rfl) (fun d hd => (match d, hd with
      | [d0], _ => rfl)) hW
    (post_true (c := con_billinglaw46_InvoiceTexts N) (ok_billinglaw46_InvoiceTexts N (lt W) W [] (fun _ => 0) (fun _ => undef) x0 true [v0] (fun _ _ h => h) (globs hL) rfl lends_nil (args1 hv0) hF) rfl)

/-- The row of InvoiceTexts. -/
theorem invoiceTexts_row : Rows.InvoiceTextsSaid :=
  OpenClaim.holds_of_wide 5 Tryd.f5 rfl rfl rfl rfl rfl rfl rfl ⟨rfl, rfl, rfl, rfl, rfl⟩ rfl rfl rfl rfl rfl (by kernel_rfl) Tryd.func5 (by kernel_rfl)
    (of_decide_eq_true (by kernel_rfl)) (by unfold Func.isWrapper; first | (rw [if_pos (by decide +kernel)]; kernel_rfl) | (rw [if_neg (by decide +kernel)]; exact ⟨rfl, rfl⟩))
    (fun os started H enc _ => invoiceTexts_lifted os started H enc)
/-- The card of InvoiceTexts. -/
theorem invoiceTexts_proved : Rows.InvoiceTextsCardSaid :=
  Claim7.holds_tied_plain_at .later [] [.data, .data, .data, .data] true (true, "992b21c8ec4abeaa62fa39d4b9048b012eef1fddf24099bb35f06df1be7fe9bf") false
    invoiceTexts_row (fun _ h => by cases h) (by kernel_rfl) (fun _ h => by cases h) invoiceTexts_row_tie rfl ⟨rfl, rfl⟩ (by kernel_rfl) rfl
    (fun f fn hf hfn => by
      obtain rfl : f = 5 := Option.some.inj ((show Tryd.prog.funcNamed "billing/billinglaw46.InvoiceTexts" = some 5 by kernel_rfl).symm.trans hf) |>.symm
      obtain rfl : fn = Tryd.f5 := (Option.some.inj (Tryd.func5.symm.trans hfn)).symm
      exact ⟨by kernel_rfl, fun j t ht => by
        rw [show Tryd.f5.params = #[38] by kernel_rfl] at ht
        have hm : t ∈ [38] := by simpa using Array.mem_of_getElem? ht
        have hall : ([38].all fun u => !Tryd.prog.wantsStandIn u) = true := by kernel_rfl
        exact (show Tryd.prog.wantsStandIn t = false by simpa using List.all_eq_true.1 hall t hm)⟩)
    (by kernel_rfl)
end Go.Proofs.YtnlnadfpfekeiaaDoor
