/- JournalLogs: proved for every input. The plain law, the walk of the law, and the statement. Conditions: none. -/
import Derived.Test.YtknipijkpcbadaaGreatRows
import Derived.Test.YtknipijkpcbadaaGreatXRuns
import Derived.Test.YtknipijkpcbadaaGreatXPlainJournalLogs
import Derived.Test.YtknipijkpcbadaaGreatXRd
import Derived.WalkKit
import Derived.ProofKit
import Derived.OpenShut
namespace Gx
open Go Gd Go.Proofs Go.Proofs.YtknipijkpcbadaaGreat Go.RowKit Go.WideShapes Go.ChangeShapes
set_option linter.unusedVariables false
theorem op3 : OpensT Tryz.prog 3 (.int .i64) := openT_int (show Tryz.prog.underlying 3 = some (.int .i64) by kernel_rfl) (by kernel_rfl)
theorem op9 : OpensT Tryz.prog 9 .str := openT_str (show Tryz.prog.underlying 9 = some (.string) by kernel_rfl) (by kernel_rfl)
theorem op42 : OpensT Tryz.prog 42 tyApiRequest := openT_st (show Tryz.prog.underlying 42 = some (.struct ⟨[⟨"Session", 3, 0, false, "", "", 0⟩, ⟨"Seq", 3, 1, false, "", "", 8⟩, ⟨"Kind", 3, 2, false, "", "", 16⟩, ⟨"At", 3, 3, false, "", "", 24⟩, ⟨"Sub", 3, 4, false, "", "", 32⟩, ⟨"Usage", 3, 5, false, "", "", 40⟩, ⟨"B", 9, 6, false, "", "", 48⟩, ⟨"Used", 3, 7, false, "", "", 64⟩, ⟨"Ask", 3, 8, false, "", "", 72⟩]⟩) by kernel_rfl) (by kernel_rfl) (.pr op3 rfl rfl rfl (.pr op3 rfl rfl rfl (.pr op3 rfl rfl rfl (.pr op3 rfl rfl rfl (.pr op3 rfl rfl rfl (.pr op3 rfl rfl rfl (.pr op9 rfl rfl rfl (.pr op3 rfl rfl rfl (.last op3 rfl rfl rfl)))))))))
theorem op55 : OpensT Tryz.prog 55 tyBillinglaw42Op := openT_st (show Tryz.prog.underlying 55 = some (.struct ⟨[⟨"Call", 3, 0, false, "", "", 0⟩, ⟨"Request", 42, 1, false, "", "", 8⟩, ⟨"Keep", 3, 10, false, "", "", 88⟩]⟩) by kernel_rfl) (by kernel_rfl) (.pr op3 rfl rfl rfl (.pr op42 rfl rfl rfl (.last op3 rfl rfl rfl)))
theorem op49 : OpensT Tryz.prog 49 (.sl tyBillinglaw42Op) := openT_sl (show Tryz.prog.underlying 49 = some (.slice 55) by kernel_rfl) (by kernel_rfl) op55 (by decide)
end Gx
namespace Go.Proofs.YtknipijkpcbadaaGreat
open Go Gd Gx Go.ChangeShapes Go.WideShapes Go.ChangeAt Go.RowKit
set_option linter.unusedVariables false
set_option maxRecDepth 100000 in
/-- What the walk and the plain law give. -/
theorem journalLogs_lifted (os : Os) (started : os.Started) (H : Type) (enc : TypeId × Value → H) :
    ReturnsInHanded {} Tryz.checked os 6 .any (Rows.journalLogsSpec.pre6 enc Tryz.prog Tryz.f6 Rows.journalLogsRow.domain false) (Rows.journalLogsSpec.post enc Tryz.prog Tryz.f6 false true false false) := by
  refine returnsInHanded_of_change (C := Tryz.checked) (by kernel_rfl) started (by kernel_rfl) Tryz.func6
    (ChangeSpec.witness6 (enc := enc) (C := Tryz.checked) false ⟨#[], #[.slice none 0 0], []⟩ 8 (by kernel_rfl) (by kernel_rfl) (by kernel_rfl) (by kernel_rfl)) ?_
  intro W base args ds gs before hval0 hW hcnd _
  have hval : ∀ (j : Nat) t v, Tryz.f6.params[j]? = some t → args[j]? = some v → Value.okWide Tryz.prog W .any base t v := hval0
  obtain ⟨v0, x0, hargs, hv0, g0⟩ := open1 (show Tryz.f6.params = #[49] by kernel_rfl) hval hW op49
  obtain ⟨N, hF⟩ := law_JournalLogs x0 g0
  subst hargs
  exact law_post (tb := 4) (by kernel_rfl) (show Tryz.prog.underlying 4 = some .bool by kernel_rfl) rfl (by kernel_rfl) (by kernel_rfl) (fun d hd => (match d, hd with
      | [d0], _ => rfl)) hW
    (post_true (c := con_billinglaw42_JournalLogs N) (ok_billinglaw42_JournalLogs N (lt W) W [] (fun _ => 0) (fun _ => undef) x0 true [v0] (fun _ _ h => h) (fun q hq => by cases hq) rfl lends_nil (args1 hv0) hF) rfl)

theorem andT {a b : Bool} (ha : a = true) (hb : b = true) : (a && b) = true := by rw [ha, hb]; rfl
theorem jf0 : (Rows.journalLogsRow.wf (OpenSpec.ofChange Rows.journalLogsSpec)) = true := by kernel_rfl
theorem jf1 : (laidOutB Tryz.prog) = true := by kernel_rfl
theorem jf2 : (mapsRowed Tryz.prog) = true := by kernel_rfl
theorem jf3 : (Tryz.f6.params.all (Tryz.prog.readableRec ·)) = true := by kernel_rfl
theorem jf4 : (namedTie Tryz.prog Rows.journalLogsRow.named Rows.journalLogsSpec.vars) = true := by kernel_rfl
theorem jf5 : ((Rows.journalLogsRow.stops == [])) = true := by kernel_rfl
theorem jf6 : ((Tryz.prog.stops == [])) = true := by kernel_rfl
theorem jf7 : ((Rows.journalLogsRow.knobs == [])) = true := by kernel_rfl
theorem jf8 : ((Tryz.prog.stopKnobs == [])) = true := by kernel_rfl
theorem jf9 : ((Rows.journalLogsRow.inPlace == Tryz.prog.inPlace 6)) = true := by kernel_rfl
theorem jf10 : ((Rows.journalLogsRow.unfollowed == Tryz.prog.unfollowed 6)) = true := by kernel_rfl
theorem jf11 : ((Rows.journalLogsRow.recurses == Tryz.prog.recurses 6)) = true := by kernel_rfl
theorem jf12 : ((Rows.journalLogsRow.named == Tryz.prog.varsNamed 6)) = true := by kernel_rfl
theorem jf13 : ((Rows.journalLogsRow.maps == (Tryz.f6.params.toList ++ Rows.journalLogsSpec.plain.varTypes Tryz.prog).any (Tryz.prog.mapsRec ·))) = true := by kernel_rfl
theorem jf14 : ((Rows.journalLogsRow.ifaces == (Tryz.f6.params.toList ++ Rows.journalLogsSpec.plain.varTypes Tryz.prog).any (Tryz.prog.ifacesRec ·))) = true := by kernel_rfl
theorem jf15 : ((Rows.journalLogsRow.mapsOut == Tryz.prog.mapsAmong Tryz.f6.resultTypes.toList)) = true := by kernel_rfl
theorem jf16 : ((Rows.journalLogsRow.loops == (Tryz.f6.params.toList ++ Rows.journalLogsSpec.plain.varTypes Tryz.prog).any (Tryz.prog.loopsFrom ·))) = true := by kernel_rfl
theorem jf17 : ((Rows.journalLogsRow.wideKeys == (Tryz.f6.params.toList ++ Rows.journalLogsSpec.plain.varTypes Tryz.prog ++ Tryz.f6.resultTypes.toList).any (Tryz.prog.wideKeysFrom ·))) = true := by kernel_rfl
theorem jf18 : (Rows.journalLogsSpec.vars.all (Tryz.prog.varReadable ·)) = true := by kernel_rfl
theorem jf19 : (Tryz.f6.resultTypes.all (fun t => Tryz.prog.readableRec t && decide (t < Tryz.prog.types.size))) = true := by kernel_rfl
theorem jf20 : ((Rows.journalLogsRow.ifacesOut == Tryz.f6.resultTypes.toList.any (Tryz.prog.ifacesRec ·))) = true := by kernel_rfl
theorem jf21 : ((Rows.journalLogsRow.loopsOut == Tryz.f6.resultTypes.toList.any (Tryz.prog.loopsFrom ·))) = true := by kernel_rfl
theorem jf22 : ((Rows.journalLogsRow.plainKeys == Tryz.prog.plainKeys)) = true := by kernel_rfl
theorem jf23 : (Rows.journalLogsRow.shortTexts.isNone) = true := by kernel_rfl
theorem jf24 : (Tryz.prog.stopsHeard) = true := by kernel_rfl
theorem jf25 : (Tryz.prog.mayEnter) = true := by kernel_rfl
theorem jf26 : ((Rows.journalLogsRow.lifted == Tryz.prog.liftsFinal)) = true := by kernel_rfl
theorem jf27 : ((Tryz.prog.make == some Rows.journalLogsRow.make)) = true := by kernel_rfl
theorem jf28 : ((Rows.journalLogsRow.kinds == (if Rows.journalLogsRow.domain.isEmpty then [] else Tryz.f6.params.toList.map fun t => match Tryz.prog.underlying t with | some (.int k) => some k | _ => none))) = true := by kernel_rfl
theorem jf29 : ((Rows.journalLogsRow.pinned == Rows.journalLogsRow.pinnedBy)) = true := by kernel_rfl
theorem jf30 : ((Rows.journalLogsRow.veiled == (Tryz.f6.params.toList ++ Rows.journalLogsSpec.plain.varTypes Tryz.prog ++ Tryz.f6.resultTypes.toList).any (Tryz.prog.veiledRec ·))) = true := by kernel_rfl
theorem jf31 : (Rows.journalLogsRow.veiledFits Tryz.prog Tryz.f6.params.toList (Tryz.f6.params.toList ++ Rows.journalLogsSpec.plain.varTypes Tryz.prog ++ Tryz.f6.resultTypes.toList)) = true := by kernel_rfl
set_option maxRecDepth 100000 in
theorem jfAll : joinedFacts Tryz.prog 6 Tryz.f6 Rows.journalLogsSpec Rows.journalLogsRow = true := (andT (andT (andT (andT (andT (andT (andT (andT (andT (andT (andT (andT (andT (andT (andT (andT (andT (andT (andT (andT (andT (andT (andT (andT (andT (andT (andT (andT (andT (andT (andT jf0 jf1) jf2) jf3) jf4) jf5) jf6) jf7) jf8) jf9) jf10) jf11) jf12) jf13) jf14) jf15) jf16) jf17) jf18) jf19) jf20) jf21) jf22) jf23) jf24) jf25) jf26) jf27) jf28) jf29) jf30) jf31)
/-- The statement JournalLogs. -/
theorem journalLogs_proved : Rows.JournalLogsSaid :=
  OpenClaim.holds_of_wide 6 Tryz.f6 rfl rfl rfl rfl rfl rfl rfl ⟨rfl, rfl, rfl, rfl, rfl⟩ rfl rfl rfl rfl rfl (by kernel_rfl) Tryz.func6 jfAll
    (of_decide_eq_true (by kernel_rfl)) (by unfold Func.isWrapper; first | (rw [if_pos (by decide +kernel)]; kernel_rfl) | (rw [if_neg (by decide +kernel)]; exact ⟨rfl, rfl⟩))
    (fun os started H enc _ => journalLogs_lifted os started H enc)
end Go.Proofs.YtknipijkpcbadaaGreat
