/- InvoicePlaces: proved for every input. The plain law, the walk of the law, and the statement. Conditions: none. -/
import Derived.Test.YtnlnadfpfekeiaaDoorRows
import Derived.Test.YtnlnadfpfekeiaaDoorXRuns
import Derived.Test.YtnlnadfpfekeiaaDoorXPlainInvoicePlaces
import Derived.Test.YtnlnadfpfekeiaaDoorXQ
import Derived.WalkKit
import Derived.ProofKit
import Derived.OpenShut
import Derived.Test.YtnlnadfpfekeiaaDoorCards
import Derived.Test.YtnlnadfpfekeiaaDoorTie
import Derived.Lay
import Derived.Stop.LaidErr
import Derived.LaidOnce
import Derived.SevenTiedAt
import Derived.MakeChecks
namespace Gx
open Go Gd Go.Proofs Go.Proofs.YtnlnadfpfekeiaaDoor Go.RowKit Go.WideShapes Go.ChangeShapes
set_option linter.unusedVariables false
theorem op3 : OpensT Tryd.prog 3 (.int .i64) := openT_int (show Tryd.prog.underlying 3 = some (.int .i64) by kernel_rfl) (by kernel_rfl)
theorem op9 : OpensT Tryd.prog 9 .str := openT_str (show Tryd.prog.underlying 9 = some (.string) by kernel_rfl) (by kernel_rfl)
theorem op4 : OpensT Tryd.prog 4 .bool := openT_bool (show Tryd.prog.underlying 4 = some (.bool) by kernel_rfl) (by kernel_rfl)
theorem op54 : OpensT Tryd.prog 54 tyApiUsage := openT_st (show Tryd.prog.underlying 54 = some (.struct ⟨[⟨"Id", 3, 0, false, "", "", 0⟩, ⟨"Kind", 3, 1, false, "", "", 8⟩, ⟨"Account", 3, 2, false, "", "", 16⟩, ⟨"Sub", 3, 3, false, "", "", 24⟩, ⟨"A", 9, 4, false, "", "", 32⟩, ⟨"B", 9, 5, false, "", "", 48⟩, ⟨"Start", 3, 6, false, "", "", 64⟩, ⟨"Units", 3, 7, false, "", "", 72⟩, ⟨"Trunk", 3, 8, false, "", "", 80⟩, ⟨"Inbound", 4, 9, false, "", "", 88⟩, ⟨"Source", 3, 10, false, "", "", 96⟩, ⟨"Serial", 3, 11, false, "", "", 104⟩]⟩) by kernel_rfl) (by kernel_rfl) (.pr op3 rfl rfl rfl (.pr op3 rfl rfl rfl (.pr op3 rfl rfl rfl (.pr op3 rfl rfl rfl (.pr op9 rfl rfl rfl (.pr op9 rfl rfl rfl (.pr op3 rfl rfl rfl (.pr op3 rfl rfl rfl (.pr op3 rfl rfl rfl (.pr op4 rfl rfl rfl (.pr op3 rfl rfl rfl (.last op3 rfl rfl rfl))))))))))))
theorem op27 : OpensT Tryd.prog 27 (.int .i64) := openT_int (show Tryd.prog.underlying 27 = some (.int .i64) by kernel_rfl) (by kernel_rfl)
theorem op157 : OpensT Tryd.prog 157 tyApiTake := openT_st (show Tryd.prog.underlying 157 = some (.struct ⟨[⟨"Sub", 3, 0, false, "", "", 0⟩, ⟨"Product", 9, 1, false, "", "", 8⟩, ⟨"Index", 3, 2, false, "", "", 24⟩, ⟨"From", 3, 3, false, "", "", 32⟩, ⟨"Units", 3, 4, false, "", "", 40⟩]⟩) by kernel_rfl) (by kernel_rfl) (.pr op3 rfl rfl rfl (.pr op9 rfl rfl rfl (.pr op3 rfl rfl rfl (.pr op3 rfl rfl rfl (.last op3 rfl rfl rfl)))))
theorem op55 : OpensT Tryd.prog 55 (.sl tyApiTake) := openT_sl (show Tryd.prog.underlying 55 = some (.slice 157) by kernel_rfl) (by kernel_rfl) op157 (by decide)
theorem op159 : OpensT Tryd.prog 159 tyApiSegment := openT_st (show Tryd.prog.underlying 159 = some (.struct ⟨[⟨"Band", 9, 0, false, "", "", 0⟩, ⟨"Start", 3, 1, false, "", "", 16⟩, ⟨"Units", 3, 2, false, "", "", 24⟩, ⟨"Amount", 3, 3, false, "", "", 32⟩]⟩) by kernel_rfl) (by kernel_rfl) (.pr op9 rfl rfl rfl (.pr op3 rfl rfl rfl (.pr op3 rfl rfl rfl (.last op3 rfl rfl rfl))))
theorem op56 : OpensT Tryd.prog 56 (.sl tyApiSegment) := openT_sl (show Tryd.prog.underlying 56 = some (.slice 159) by kernel_rfl) (by kernel_rfl) op159 (by decide)
theorem op161 : OpensT Tryd.prog 161 tyApiGiven := openT_st (show Tryd.prog.underlying 161 = some (.struct ⟨[⟨"Name", 9, 0, false, "", "", 0⟩, ⟨"Amount", 3, 1, false, "", "", 16⟩]⟩) by kernel_rfl) (by kernel_rfl) (.pr op9 rfl rfl rfl (.last op3 rfl rfl rfl))
theorem op57 : OpensT Tryd.prog 57 (.sl tyApiGiven) := openT_sl (show Tryd.prog.underlying 57 = some (.slice 161) by kernel_rfl) (by kernel_rfl) op161 (by decide)
theorem op59 : OpensT Tryd.prog 59 tyApiRated := openT_st (show Tryd.prog.underlying 59 = some (.struct ⟨[⟨"Usage", 54, 0, false, "", "", 0⟩, ⟨"Err", 27, 12, false, "", "", 112⟩, ⟨"Plan", 9, 13, false, "", "", 120⟩, ⟨"Version", 3, 14, false, "", "", 136⟩, ⟨"Zone", 9, 15, false, "", "", 144⟩, ⟨"Takes", 55, 16, false, "", "", 160⟩, ⟨"Segments", 56, 17, false, "", "", 184⟩, ⟨"Setup", 3, 18, false, "", "", 208⟩, ⟨"Gross", 3, 19, false, "", "", 216⟩, ⟨"Net", 3, 20, false, "", "", 224⟩, ⟨"Given", 57, 21, false, "", "", 232⟩, ⟨"Paid", 3, 22, false, "", "", 256⟩, ⟨"Owed", 3, 23, false, "", "", 264⟩]⟩) by kernel_rfl) (by kernel_rfl) (.pr op54 rfl rfl rfl (.pr op27 rfl rfl rfl (.pr op9 rfl rfl rfl (.pr op3 rfl rfl rfl (.pr op9 rfl rfl rfl (.pr op55 rfl rfl rfl (.pr op56 rfl rfl rfl (.pr op3 rfl rfl rfl (.pr op3 rfl rfl rfl (.pr op3 rfl rfl rfl (.pr op57 rfl rfl rfl (.pr op3 rfl rfl rfl (.last op3 rfl rfl rfl)))))))))))))
theorem op22 : OpensT Tryd.prog 22 (.sl tyApiRated) := openT_sl (show Tryd.prog.underlying 22 = some (.slice 59) by kernel_rfl) (by kernel_rfl) op59 (by decide)
theorem op24 : OpensT Tryd.prog 24 tyApiPeriod := openT_st (show Tryd.prog.underlying 24 = some (.struct ⟨[⟨"From", 3, 0, false, "", "", 0⟩, ⟨"To", 3, 1, false, "", "", 8⟩]⟩) by kernel_rfl) (by kernel_rfl) (.pr op3 rfl rfl rfl (.last op3 rfl rfl rfl))
end Gx
namespace Go.Proofs.YtnlnadfpfekeiaaDoor
open Go Gd Gx Go.ChangeShapes Go.WideShapes Go.ChangeAt Go.RowKit
set_option linter.unusedVariables false
theorem own : ownKnob Tryd.prog.godebug = none := by kernel_rfl
theorem laidIs : Rows.invoicePlacesRow.laid = [("math/bits.deBruijn32tab", Rows.laid_math_bits_deBruijn32tab), ("math/bits.deBruijn64tab", Rows.laid_math_bits_deBruijn64tab), ("internal/strconv.uint64pow10", Lib.tabData .u64 Lib.pow10Tab), ("billing/amount.powers", Lib.tabData .i64 ([1, 10, 100, 1000, 10000] : List Int))] := by kernel_rfl
theorem globs {W : World} (hL : laidMetH Tryd.prog Rows.invoicePlacesRow.laid W) : GlobOk tx.gl (lt W) W := by
  rw [MakeChecks.laidMetH_plain _ _ _ (by kernel_rfl), laidIs] at hL
  have t1 := Lib.tabIs_of_head (g := 1) (t := 134) (e := 128) (n := 20) (by kernel_rfl) (by kernel_rfl) (by kernel_rfl) (by kernel_rfl) (by kernel_rfl) (by kernel_rfl) hL.tail.tail
  have t0 := Lib.tabIs_of_head (g := 0) (t := 119) (e := 3) (n := 5) (by kernel_rfl) (by kernel_rfl) (by kernel_rfl) (by kernel_rfl) (by kernel_rfl) (by kernel_rfl) hL.tail.tail.tail
  intro q hq
  rcases List.mem_cons.1 hq with rfl | hq
  · exact glob_of_tab t0 (by kernel_rfl) (by kernel_rfl) (by kernel_rfl)
  rcases List.mem_cons.1 hq with rfl | hq
  · exact glob_of_tab t1 (by kernel_rfl) (by kernel_rfl) (by kernel_rfl)
  cases hq
set_option maxRecDepth 100000 in
/-- What the walk and the plain law give. -/
theorem invoicePlaces_lifted (os : Os) (started : os.Started) (H : Type) (enc : TypeId × Value → H) :
    ReturnsInHanded {} Tryd.checked os 8 .any (fun w args => (Rows.invoicePlacesSpec.pre enc Tryd.prog Tryd.f8 [] false w args ∧ laidMetH Tryd.prog Rows.invoicePlacesRow.laid w) ∧ sizedMet enc Tryd.prog Tryd.f8 (OpenSpec.ofChange Rows.invoicePlacesSpec) false w args)
      (Rows.invoicePlacesSpec.post enc Tryd.prog Tryd.f8 false true false false) := by
  refine returnsInHanded_of_change_and (C := Tryd.checked) (X := fun w _ => laidMetH Tryd.prog Rows.invoicePlacesRow.laid w) (fun _ _ _ hh h => h.of_heap hh) own started (by kernel_rfl) Tryd.func8
    (ChangeSpec.witness_shaped (enc := enc) (C := Tryd.checked) (os := os) (X := fun w _ => laidMetH Tryd.prog Rows.invoicePlacesRow.laid w) false (World.laidAll Tryd.prog os Rows.invoicePlacesRow.laid) #[.slice none 0 0, .int .i64 0, .agg #[.int .i64 0, .int .i64 0]] 8 (World.laidAll_os _ _ _)
      (World.shaped_of_ZipB (by kernel_rfl) (by kernel_rfl)) (by kernel_rfl) (by kernel_rfl) (by kernel_rfl)
      (by rw [MakeChecks.laidMetH_plain _ _ _ (by kernel_rfl)]; exact laidMet_laidAll _ (by kernel_rfl) (by kernel_rfl))) ?_
  intro W base args ds gs before hval0 hW _ hz hL _
  have hval : ∀ (j : Nat) t v, Tryd.f8.params[j]? = some t → args[j]? = some v → Value.okWide Tryd.prog W .any base t v := hval0
  obtain ⟨v0, v1, v2, x0, x1, x2, hargs, hv0, g0, hv1, g1, hv2, g2⟩ := open3 (show Tryd.f8.params = #[22, 3, 24] by kernel_rfl) hval hW op22 op3 op24
  subst hargs
  obtain ⟨N, hF⟩ := law_InvoicePlaces x0 g0 x1 g1 x2 g2
  exact law_post (tb := 4) (by kernel_rfl) (show Tryd.prog.underlying 4 = some .bool by kernel_rfl) rfl (by kernel_rfl) (by kernel_rfl) (fun d hd => (match d, hd with
      | [d0, d1, d2], _ => rfl)) hW
    (post_true (c := con_billinglaw46_InvoicePlaces N) (ok_billinglaw46_InvoicePlaces N (lt W) W [] (fun _ => 0) (fun _ => undef) (x0, x1, x2) true [v0, v1, v2] (fun _ _ h => h) (globs hL) rfl lends_nil (args3 hv0 hv1 hv2) hF) rfl)

/-- The row of InvoicePlaces. -/
theorem invoicePlaces_row : Rows.InvoicePlacesSaid :=
  OpenClaim.holds_of_wide 8 Tryd.f8 rfl rfl rfl rfl rfl rfl rfl ⟨rfl, rfl, rfl, rfl, rfl⟩ rfl rfl rfl rfl rfl (by kernel_rfl) Tryd.func8 (by kernel_rfl)
    (of_decide_eq_true (by kernel_rfl)) (by unfold Func.isWrapper; first | (rw [if_pos (by decide +kernel)]; kernel_rfl) | (rw [if_neg (by decide +kernel)]; exact ⟨rfl, rfl⟩))
    (fun os started H enc _ => invoicePlaces_lifted os started H enc)
/-- The card of InvoicePlaces. -/
theorem invoicePlaces_proved : Rows.InvoicePlacesCardSaid :=
  Claim7.holds_tied_plain_at .later [] [.data, .data, .data, .data] true (true, "992b21c8ec4abeaa62fa39d4b9048b012eef1fddf24099bb35f06df1be7fe9bf") false
    invoicePlaces_row (fun _ h => by cases h) (by kernel_rfl) (fun _ h => by cases h) invoicePlaces_row_tie rfl ⟨rfl, rfl⟩ (by kernel_rfl) rfl
    (fun f fn hf hfn => by
      obtain rfl : f = 8 := Option.some.inj ((show Tryd.prog.funcNamed "billing/billinglaw46.InvoicePlaces" = some 8 by kernel_rfl).symm.trans hf) |>.symm
      obtain rfl : fn = Tryd.f8 := (Option.some.inj (Tryd.func8.symm.trans hfn)).symm
      exact ⟨by kernel_rfl, fun j t ht => by
        rw [show Tryd.f8.params = #[22, 3, 24] by kernel_rfl] at ht
        have hm : t ∈ [22, 3, 24] := by simpa using Array.mem_of_getElem? ht
        have hall : ([22, 3, 24].all fun u => !Tryd.prog.wantsStandIn u) = true := by kernel_rfl
        exact (show Tryd.prog.wantsStandIn t = false by simpa using List.all_eq_true.1 hall t hm)⟩)
    (by kernel_rfl)
end Go.Proofs.YtnlnadfpfekeiaaDoor
