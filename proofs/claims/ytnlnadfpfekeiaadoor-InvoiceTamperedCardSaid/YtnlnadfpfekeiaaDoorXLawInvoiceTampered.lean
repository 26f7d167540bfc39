/- InvoiceTampered: proved for every input. The plain law, the walk of the law, and the statement. Conditions: none. -/
import Derived.Test.YtnlnadfpfekeiaaDoorRows
import Derived.Test.YtnlnadfpfekeiaaDoorXRuns
import Derived.Test.YtnlnadfpfekeiaaDoorXPlainInvoiceTampered
import Derived.Test.YtnlnadfpfekeiaaDoorXQ
import Derived.WalkKit
import Derived.ProofKit
import Derived.OpenShut
import Derived.Test.YtnlnadfpfekeiaaDoorCards
import Derived.Test.YtnlnadfpfekeiaaDoorTie
import Derived.Lay
import Derived.Stop.LaidErr
import Derived.LaidOnce
import Derived.SevenTiedAt
import Derived.MakeChecks
namespace Gx
open Go Gd Go.Proofs Go.Proofs.YtnlnadfpfekeiaaDoor Go.RowKit Go.WideShapes Go.ChangeShapes
set_option linter.unusedVariables false
theorem op3 : OpensT Tryd.prog 3 (.int .i64) := openT_int (show Tryd.prog.underlying 3 = some (.int .i64) by kernel_rfl) (by kernel_rfl)
theorem op24 : OpensT Tryd.prog 24 tyApiPeriod := openT_st (show Tryd.prog.underlying 24 = some (.struct ⟨[⟨"From", 3, 0, false, "", "", 0⟩, ⟨"To", 3, 1, false, "", "", 8⟩]⟩) by kernel_rfl) (by kernel_rfl) (.pr op3 rfl rfl rfl (.last op3 rfl rfl rfl))
theorem op9 : OpensT Tryd.prog 9 .str := openT_str (show Tryd.prog.underlying 9 = some (.string) by kernel_rfl) (by kernel_rfl)
theorem op43 : OpensT Tryd.prog 43 tyApiLine := openT_st (show Tryd.prog.underlying 43 = some (.struct ⟨[⟨"Kind", 3, 0, false, "", "", 0⟩, ⟨"Sub", 3, 1, false, "", "", 8⟩, ⟨"Name", 9, 2, false, "", "", 16⟩, ⟨"Category", 9, 3, false, "", "", 32⟩, ⟨"Count", 3, 4, false, "", "", 48⟩, ⟨"Units", 3, 5, false, "", "", 56⟩, ⟨"Amount", 3, 6, false, "", "", 64⟩, ⟨"Rounded", 3, 7, false, "", "", 72⟩]⟩) by kernel_rfl) (by kernel_rfl) (.pr op3 rfl rfl rfl (.pr op3 rfl rfl rfl (.pr op9 rfl rfl rfl (.pr op9 rfl rfl rfl (.pr op3 rfl rfl rfl (.pr op3 rfl rfl rfl (.pr op3 rfl rfl rfl (.last op3 rfl rfl rfl))))))))
theorem op26 : OpensT Tryd.prog 26 (.sl tyApiLine) := openT_sl (show Tryd.prog.underlying 26 = some (.slice 43) by kernel_rfl) (by kernel_rfl) op43 (by decide)
theorem op69 : OpensT Tryd.prog 69 tyApiTax := openT_st (show Tryd.prog.underlying 69 = some (.struct ⟨[⟨"Category", 9, 0, false, "", "", 0⟩, ⟨"From", 3, 1, false, "", "", 16⟩, ⟨"Points", 3, 2, false, "", "", 24⟩]⟩) by kernel_rfl) (by kernel_rfl) (.pr op9 rfl rfl rfl (.pr op3 rfl rfl rfl (.last op3 rfl rfl rfl)))
theorem op32 : OpensT Tryd.prog 32 (.sl tyApiTax) := openT_sl (show Tryd.prog.underlying 32 = some (.slice 69) by kernel_rfl) (by kernel_rfl) op69 (by decide)
theorem op34 : OpensT Tryd.prog 34 tyBillinglaw46Case := openT_st (show Tryd.prog.underlying 34 = some (.struct ⟨[⟨"Account", 3, 0, false, "", "", 0⟩, ⟨"Period", 24, 1, false, "", "", 8⟩, ⟨"Lines", 26, 3, false, "", "", 24⟩, ⟨"Taxes", 32, 4, false, "", "", 48⟩]⟩) by kernel_rfl) (by kernel_rfl) (.pr op3 rfl rfl rfl (.pr op24 rfl rfl rfl (.pr op26 rfl rfl rfl (.last op32 rfl rfl rfl))))
theorem op5 : OpensT Tryd.prog 5 (.int .u8) := openT_int (show Tryd.prog.underlying 5 = some (.int .u8) by kernel_rfl) (by kernel_rfl)
theorem op51 : OpensT Tryd.prog 51 (.int .i16) := openT_int (show Tryd.prog.underlying 51 = some (.int .i16) by kernel_rfl) (by kernel_rfl)
end Gx
namespace Go.Proofs.YtnlnadfpfekeiaaDoor
open Go Gd Gx Go.ChangeShapes Go.WideShapes Go.ChangeAt Go.RowKit
set_option linter.unusedVariables false
theorem own : ownKnob Tryd.prog.godebug = none := by kernel_rfl
theorem laidIs : Rows.invoiceTamperedRow.laid = [("math/bits.deBruijn32tab", Rows.laid_math_bits_deBruijn32tab), ("math/bits.deBruijn64tab", Rows.laid_math_bits_deBruijn64tab), ("internal/strconv.uint64pow10", Lib.tabData .u64 Lib.pow10Tab), ("billing/amount.powers", Lib.tabData .i64 ([1, 10, 100, 1000, 10000] : List Int))] := by kernel_rfl
theorem globs {W : World} (hL : laidMetH Tryd.prog Rows.invoiceTamperedRow.laid W) : GlobOk tx.gl (lt W) W := by
  rw [MakeChecks.laidMetH_plain _ _ _ (by kernel_rfl), laidIs] at hL
  have t1 := Lib.tabIs_of_head (g := 1) (t := 134) (e := 128) (n := 20) (by kernel_rfl) (by kernel_rfl) (by kernel_rfl) (by kernel_rfl) (by kernel_rfl) (by kernel_rfl) hL.tail.tail
  have t0 := Lib.tabIs_of_head (g := 0) (t := 119) (e := 3) (n := 5) (by kernel_rfl) (by kernel_rfl) (by kernel_rfl) (by kernel_rfl) (by kernel_rfl) (by kernel_rfl) hL.tail.tail.tail
  intro q hq
  rcases List.mem_cons.1 hq with rfl | hq
  · exact glob_of_tab t0 (by kernel_rfl) (by kernel_rfl) (by kernel_rfl)
  rcases List.mem_cons.1 hq with rfl | hq
  · exact glob_of_tab t1 (by kernel_rfl) (by kernel_rfl) (by kernel_rfl)
  cases hq
set_option maxRecDepth 100000 in
/-- What the walk and the plain law give. -/
theorem invoiceTampered_lifted (os : Os) (started : os.Started) (H : Type) (enc : TypeId × Value → H) :
    ReturnsInHanded {} Tryd.checked os 7 .any (fun w args => (Rows.invoiceTamperedSpec.pre enc Tryd.prog Tryd.f7 [] false w args ∧ laidMetH Tryd.prog Rows.invoiceTamperedRow.laid w) ∧ sizedMet enc Tryd.prog Tryd.f7 (OpenSpec.ofChange Rows.invoiceTamperedSpec) false w args)
      (Rows.invoiceTamperedSpec.post enc Tryd.prog Tryd.f7 false true false false) := by
  refine returnsInHanded_of_change_and (C := Tryd.checked) (X := fun w _ => laidMetH Tryd.prog Rows.invoiceTamperedRow.laid w) (fun _ _ _ hh h => h.of_heap hh) own started (by kernel_rfl) Tryd.func7
    (ChangeSpec.witness_shaped (enc := enc) (C := Tryd.checked) (os := os) (X := fun w _ => laidMetH Tryd.prog Rows.invoiceTamperedRow.laid w) false (World.laidAll Tryd.prog os Rows.invoiceTamperedRow.laid) #[.agg #[.int .i64 0, .int .i64 0, .int .i64 0, .slice none 0 0, .slice none 0 0], .int .u8 0, .int .i16 0] 8 (World.laidAll_os _ _ _)
      (World.shaped_of_ZipB (by kernel_rfl) (by kernel_rfl)) (by kernel_rfl) (by kernel_rfl) (by kernel_rfl)
      (by rw [MakeChecks.laidMetH_plain _ _ _ (by kernel_rfl)]; exact laidMet_laidAll _ (by kernel_rfl) (by kernel_rfl))) ?_
  intro W base args ds gs before hval0 hW _ hz hL _
  have hval : ∀ (j : Nat) t v, Tryd.f7.params[j]? = some t → args[j]? = some v → Value.okWide Tryd.prog W .any base t v := hval0
  obtain ⟨v0, v1, v2, x0, x1, x2, hargs, hv0, g0, hv1, g1, hv2, g2⟩ := open3 (show Tryd.f7.params = #[34, 5, 51] by kernel_rfl) hval hW op34 op5 op51
  subst hargs
  obtain ⟨N, hF⟩ := law_InvoiceTampered x0 g0 x1 g1 x2 g2
  exact law_post (tb := 4) (by kernel_rfl) (show Tryd.prog.underlying 4 = some .bool by kernel_rfl) rfl (by kernel_rfl) (by kernel_rfl) (fun d hd => (match d, hd with
      | [d0, d1, d2], _ => rfl)) hW
    (post_true (c := con_billinglaw46_InvoiceTampered N) (ok_billinglaw46_InvoiceTampered N (lt W) W [] (fun _ => 0) (fun _ => undef) (x0, x1, x2) true [v0, v1, v2] (fun _ _ h => h) (globs hL) rfl lends_nil (args3 hv0 hv1 hv2) hF) rfl)

/-- The row of InvoiceTampered. -/
theorem invoiceTampered_row : Rows.InvoiceTamperedSaid :=
  OpenClaim.holds_of_wide 7 Tryd.f7 rfl rfl rfl rfl rfl rfl rfl ⟨rfl, rfl, rfl, rfl, rfl⟩ rfl rfl rfl rfl rfl (by kernel_rfl) Tryd.func7 (by kernel_rfl)
    (of_decide_eq_true (by kernel_rfl)) (by unfold Func.isWrapper; first | (rw [if_pos (by decide +kernel)]; kernel_rfl) | (rw [if_neg (by decide +kernel)]; exact ⟨rfl, rfl⟩))
    (fun os started H enc _ => invoiceTampered_lifted os started H enc)
/-- The card of InvoiceTampered. -/
theorem invoiceTampered_proved : Rows.InvoiceTamperedCardSaid :=
  Claim7.holds_tied_plain_at .later [] [.data, .data, .data, .data] true (true, "992b21c8ec4abeaa62fa39d4b9048b012eef1fddf24099bb35f06df1be7fe9bf") false
    invoiceTampered_row (fun _ h => by cases h) (by kernel_rfl) (fun _ h => by cases h) invoiceTampered_row_tie rfl ⟨rfl, rfl⟩ (by kernel_rfl) rfl
    (fun f fn hf hfn => by
      obtain rfl : f = 7 := Option.some.inj ((show Tryd.prog.funcNamed "billing/billinglaw46.InvoiceTampered" = some 7 by kernel_rfl).symm.trans hf) |>.symm
      obtain rfl : fn = Tryd.f7 := (Option.some.inj (Tryd.func7.symm.trans hfn)).symm
      exact ⟨by kernel_rfl, fun j t ht => by
        rw [show Tryd.f7.params = #[34, 5, 51] by kernel_rfl] at ht
        have hm : t ∈ [34, 5, 51] := by simpa using Array.mem_of_getElem? ht
        have hall : ([34, 5, 51].all fun u => !Tryd.prog.wantsStandIn u) = true := by kernel_rfl
        exact (show Tryd.prog.wantsStandIn t = false by simpa using List.all_eq_true.1 hall t hm)⟩)
    (by kernel_rfl)
end Go.Proofs.YtnlnadfpfekeiaaDoor
