/- HistoryTotals: proved for every input. The plain law, the walk of the law, and the statement. Conditions: none. -/
import Derived.Test.YtbhpbpilmejnlaaGreatRows
import Derived.Test.YtbhpbpilmejnlaaGreatXRuns
import Derived.Test.YtbhpbpilmejnlaaGreatXPlainHistoryTotals
import Derived.Test.YtbhpbpilmejnlaaGreatXRn
import Derived.WalkKit
import Derived.ProofKit
import Derived.OpenShut
namespace Gx
open Go Gd Go.Proofs Go.Proofs.YtbhpbpilmejnlaaGreat Go.RowKit Go.WideShapes Go.ChangeShapes
set_option linter.unusedVariables false
theorem op3:OpensT Tryz.prog 3 (.int .i64):=openT_int (show Tryz.prog.underlying 3=some (.int .i64) by kernel_rfl) (by kernel_rfl)
theorem op9:OpensT Tryz.prog 9 .str:=openT_str (show Tryz.prog.underlying 9=some (.string) by kernel_rfl) (by kernel_rfl)
theorem op4:OpensT Tryz.prog 4 .bool:=openT_bool (show Tryz.prog.underlying 4=some (.bool) by kernel_rfl) (by kernel_rfl)
theorem op23:OpensT Tryz.prog 23 tyApiUsage:=openT_st (show Tryz.prog.underlying 23=some (.struct ⟨[⟨"Id",3,0,false, "", "",0⟩,⟨"Kind",3,1,false, "", "",8⟩,⟨"Account",3,2,false, "", "",16⟩,⟨"Sub",3,3,false, "", "",24⟩,⟨"A",9,4,false, "", "",32⟩,⟨"B",9,5,false, "", "",48⟩,⟨"Start",3,6,false, "", "",64⟩,⟨"Units",3,7,false, "", "",72⟩,⟨"Trunk",3,8,false, "", "",80⟩,⟨"Inbound",4,9,false, "", "",88⟩,⟨"Source",3,10,false, "", "",96⟩,⟨"Serial",3,11,false, "", "",104⟩]⟩) by kernel_rfl) (by kernel_rfl) (.pr op3 rfl rfl rfl (.pr op3 rfl rfl rfl (.pr op3 rfl rfl rfl (.pr op3 rfl rfl rfl (.pr op9 rfl rfl rfl (.pr op9 rfl rfl rfl (.pr op3 rfl rfl rfl (.pr op3 rfl rfl rfl (.pr op3 rfl rfl rfl (.pr op4 rfl rfl rfl (.pr op3 rfl rfl rfl (.last op3 rfl rfl rfl))))))))))))
theorem op24:OpensT Tryz.prog 24 (.int .i64):=openT_int (show Tryz.prog.underlying 24=some (.int .i64) by kernel_rfl) (by kernel_rfl)
theorem op33:OpensT Tryz.prog 33 tyApiTake:=openT_st (show Tryz.prog.underlying 33=some (.struct ⟨[⟨"Sub",3,0,false, "", "",0⟩,⟨"Product",9,1,false, "", "",8⟩,⟨"Index",3,2,false, "", "",24⟩,⟨"From",3,3,false, "", "",32⟩,⟨"Units",3,4,false, "", "",40⟩]⟩) by kernel_rfl) (by kernel_rfl) (.pr op3 rfl rfl rfl (.pr op9 rfl rfl rfl (.pr op3 rfl rfl rfl (.pr op3 rfl rfl rfl (.last op3 rfl rfl rfl)))))
theorem op25:OpensT Tryz.prog 25 (.sl tyApiTake):=openT_sl (show Tryz.prog.underlying 25=some (.slice 33) by kernel_rfl) (by kernel_rfl) op33 (by decide)
theorem op35:OpensT Tryz.prog 35 tyApiSegment:=openT_st (show Tryz.prog.underlying 35=some (.struct ⟨[⟨"Band",9,0,false, "", "",0⟩,⟨"Start",3,1,false, "", "",16⟩,⟨"Units",3,2,false, "", "",24⟩,⟨"Amount",3,3,false, "", "",32⟩]⟩) by kernel_rfl) (by kernel_rfl) (.pr op9 rfl rfl rfl (.pr op3 rfl rfl rfl (.pr op3 rfl rfl rfl (.last op3 rfl rfl rfl))))
theorem op26:OpensT Tryz.prog 26 (.sl tyApiSegment):=openT_sl (show Tryz.prog.underlying 26=some (.slice 35) by kernel_rfl) (by kernel_rfl) op35 (by decide)
theorem op76:OpensT Tryz.prog 76 tyApiGiven:=openT_st (show Tryz.prog.underlying 76=some (.struct ⟨[⟨"Name",9,0,false, "", "",0⟩,⟨"Amount",3,1,false, "", "",16⟩]⟩) by kernel_rfl) (by kernel_rfl) (.pr op9 rfl rfl rfl (.last op3 rfl rfl rfl))
theorem op27:OpensT Tryz.prog 27 (.sl tyApiGiven):=openT_sl (show Tryz.prog.underlying 27=some (.slice 76) by kernel_rfl) (by kernel_rfl) op76 (by decide)
theorem op29:OpensT Tryz.prog 29 tyApiRated:=openT_st (show Tryz.prog.underlying 29=some (.struct ⟨[⟨"Usage",23,0,false, "", "",0⟩,⟨"Err",24,12,false, "", "",112⟩,⟨"Plan",9,13,false, "", "",120⟩,⟨"Version",3,14,false, "", "",136⟩,⟨"Zone",9,15,false, "", "",144⟩,⟨"Takes",25,16,false, "", "",160⟩,⟨"Segments",26,17,false, "", "",184⟩,⟨"Setup",3,18,false, "", "",208⟩,⟨"Gross",3,19,false, "", "",216⟩,⟨"Net",3,20,false, "", "",224⟩,⟨"Given",27,21,false, "", "",232⟩,⟨"Paid",3,22,false, "", "",256⟩,⟨"Owed",3,23,false, "", "",264⟩]⟩) by kernel_rfl) (by kernel_rfl) (.pr op23 rfl rfl rfl (.pr op24 rfl rfl rfl (.pr op9 rfl rfl rfl (.pr op3 rfl rfl rfl (.pr op9 rfl rfl rfl (.pr op25 rfl rfl rfl (.pr op26 rfl rfl rfl (.pr op3 rfl rfl rfl (.pr op3 rfl rfl rfl (.pr op3 rfl rfl rfl (.pr op27 rfl rfl rfl (.pr op3 rfl rfl rfl (.last op3 rfl rfl rfl)))))))))))))
theorem op38:OpensT Tryz.prog 38 (.sl tyApiRated):=openT_sl (show Tryz.prog.underlying 38=some (.slice 29) by kernel_rfl) (by kernel_rfl) op29 (by decide)
end Gx
namespace Go.Proofs.YtbhpbpilmejnlaaGreat
open Go Gd Gx Go.ChangeShapes Go.WideShapes Go.ChangeAt Go.RowKit
set_option linter.unusedVariables false
set_option maxRecDepth 100000 in
/-- What the walk and the plain law give. -/
theorem historyTotals_lifted (os:Os) (started:os.Started) (H:Type) (enc:TypeId×Value→H) :
    ReturnsInHanded {} Tryz.checked os 5 .any (Rows.historyTotalsSpec.pre6 enc Tryz.prog Tryz.f5 Rows.historyTotalsRow.domain false) (Rows.historyTotalsSpec.post enc Tryz.prog Tryz.f5 false true false false):=by
  refine returnsInHanded_of_change (C:=Tryz.checked) (by kernel_rfl) started (by kernel_rfl) Tryz.func5
    (ChangeSpec.witness6 (enc:=enc) (C:=Tryz.checked) false ⟨#[],#[.slice none 0 0],[]⟩ 8 (by kernel_rfl) (by kernel_rfl) (by kernel_rfl) (by kernel_rfl)) ?_
  intro W base args ds gs before hval0 hW hcnd _
  have hval:∀(j:Nat) t v,Tryz.f5.params[j]?=some t→args[j]?=some v→Value.okWide Tryz.prog W .any base t v:=hval0
  obtain ⟨v0,x0,hargs,hv0,g0⟩:=open1 (show Tryz.f5.params=#[38] by kernel_rfl) hval hW op38
  obtain ⟨N,hF⟩:=law_HistoryTotals x0 g0
  subst hargs
  exact law_post (tb:=4) (by kernel_rfl) (show Tryz.prog.underlying 4=some .bool by kernel_rfl) rfl (by kernel_rfl) (by kernel_rfl) (fun d hd=>(match d,hd with
      | [d0],_=>rfl)) hW
    (post_true (c:=con_billinglaw38_HistoryTotals N) (ok_billinglaw38_HistoryTotals N (lt W) W [] (fun _=>0) (fun _=>undef) x0 true [v0] (fun _ _ h=>h) (fun q hq=>by cases hq) rfl lends_nil (args1 hv0) hF) rfl)

theorem andT {a b:Bool} (ha:a=true) (hb:b=true):(a&&b)=true:=by rw [ha,hb]; rfl
theorem jf0:(Rows.historyTotalsRow.wf (OpenSpec.ofChange Rows.historyTotalsSpec))=true:=by kernel_rfl
theorem jf1:(laidOutB Tryz.prog)=true:=by kernel_rfl
theorem jf2:(mapsRowed Tryz.prog)=true:=by kernel_rfl
theorem jf3:(Tryz.f5.params.all (Tryz.prog.readableRec ·))=true:=by kernel_rfl
theorem jf4:(namedTie Tryz.prog Rows.historyTotalsRow.named Rows.historyTotalsSpec.vars)=true:=by kernel_rfl
theorem jf5:((Rows.historyTotalsRow.stops==[]))=true:=by kernel_rfl
theorem jf6:((Tryz.prog.stops==[]))=true:=by kernel_rfl
theorem jf7:((Rows.historyTotalsRow.knobs==[]))=true:=by kernel_rfl
theorem jf8:((Tryz.prog.stopKnobs==[]))=true:=by kernel_rfl
theorem jf9:((Rows.historyTotalsRow.inPlace==Tryz.prog.inPlace 5))=true:=by kernel_rfl
theorem jf10:((Rows.historyTotalsRow.unfollowed==Tryz.prog.unfollowed 5))=true:=by kernel_rfl
theorem jf11:((Rows.historyTotalsRow.recurses==Tryz.prog.recurses 5))=true:=by kernel_rfl
theorem jf12:((Rows.historyTotalsRow.named==Tryz.prog.varsNamed 5))=true:=by kernel_rfl
theorem jf13:((Rows.historyTotalsRow.maps==(Tryz.f5.params.toList++Rows.historyTotalsSpec.plain.varTypes Tryz.prog).any (Tryz.prog.mapsRec ·)))=true:=by kernel_rfl
theorem jf14:((Rows.historyTotalsRow.ifaces==(Tryz.f5.params.toList++Rows.historyTotalsSpec.plain.varTypes Tryz.prog).any (Tryz.prog.ifacesRec ·)))=true:=by kernel_rfl
theorem jf15:((Rows.historyTotalsRow.mapsOut==Tryz.prog.mapsAmong Tryz.f5.resultTypes.toList))=true:=by kernel_rfl
theorem jf16:((Rows.historyTotalsRow.loops==(Tryz.f5.params.toList++Rows.historyTotalsSpec.plain.varTypes Tryz.prog).any (Tryz.prog.loopsFrom ·)))=true:=by kernel_rfl
theorem jf17:((Rows.historyTotalsRow.wideKeys==(Tryz.f5.params.toList++Rows.historyTotalsSpec.plain.varTypes Tryz.prog++Tryz.f5.resultTypes.toList).any (Tryz.prog.wideKeysFrom ·)))=true:=by kernel_rfl
theorem jf18:(Rows.historyTotalsSpec.vars.all (Tryz.prog.varReadable ·))=true:=by kernel_rfl
theorem jf19:(Tryz.f5.resultTypes.all (fun t=>Tryz.prog.readableRec t&&decide (t<Tryz.prog.types.size)))=true:=by kernel_rfl
theorem jf20:((Rows.historyTotalsRow.ifacesOut==Tryz.f5.resultTypes.toList.any (Tryz.prog.ifacesRec ·)))=true:=by kernel_rfl
theorem jf21:((Rows.historyTotalsRow.loopsOut==Tryz.f5.resultTypes.toList.any (Tryz.prog.loopsFrom ·)))=true:=by kernel_rfl
theorem jf22:((Rows.historyTotalsRow.plainKeys==Tryz.prog.plainKeys))=true:=by kernel_rfl
theorem jf23:(Rows.historyTotalsRow.shortTexts.isNone)=true:=by kernel_rfl
theorem jf24:(Tryz.prog.stopsHeard)=true:=by kernel_rfl
theorem jf25:(Tryz.prog.mayEnter)=true:=by kernel_rfl
theorem jf26:((Rows.historyTotalsRow.lifted==Tryz.prog.liftsFinal))=true:=by kernel_rfl
theorem jf27:((Tryz.prog.make==some Rows.historyTotalsRow.make))=true:=by kernel_rfl
theorem jf28:((Rows.historyTotalsRow.kinds==(if Rows.historyTotalsRow.domain.isEmpty then [] else Tryz.f5.params.toList.map fun t=>match Tryz.prog.underlying t with | some (.int k)=>some k | _=>none)))=true:=by kernel_rfl
theorem jf29:((Rows.historyTotalsRow.pinned==Rows.historyTotalsRow.pinnedBy))=true:=by kernel_rfl
theorem jf30:((Rows.historyTotalsRow.veiled==(Tryz.f5.params.toList++Rows.historyTotalsSpec.plain.varTypes Tryz.prog++Tryz.f5.resultTypes.toList).any (Tryz.prog.veiledRec ·)))=true:=by kernel_rfl
theorem jf31:(Rows.historyTotalsRow.veiledFits Tryz.prog Tryz.f5.params.toList (Tryz.f5.params.toList++Rows.historyTotalsSpec.plain.varTypes Tryz.prog++Tryz.f5.resultTypes.toList))=true:=by kernel_rfl
set_option maxRecDepth 100000 in
theorem jfAll:joinedFacts Tryz.prog 5 Tryz.f5 Rows.historyTotalsSpec Rows.historyTotalsRow=true:=(andT (andT (andT (andT (andT (andT (andT (andT (andT (andT (andT (andT (andT (andT (andT (andT (andT (andT (andT (andT (andT (andT (andT (andT (andT (andT (andT (andT (andT (andT (andT jf0 jf1) jf2) jf3) jf4) jf5) jf6) jf7) jf8) jf9) jf10) jf11) jf12) jf13) jf14) jf15) jf16) jf17) jf18) jf19) jf20) jf21) jf22) jf23) jf24) jf25) jf26) jf27) jf28) jf29) jf30) jf31)
/-- The statement HistoryTotals. -/
theorem historyTotals_proved:Rows.HistoryTotalsSaid :=
  OpenClaim.holds_of_wide 5 Tryz.f5 rfl rfl rfl rfl rfl rfl rfl ⟨rfl,rfl,rfl,rfl,rfl⟩ rfl rfl rfl rfl rfl (by kernel_rfl) Tryz.func5 jfAll
    (of_decide_eq_true (by kernel_rfl)) (by unfold Func.isWrapper; first | (rw [if_pos (by decide +kernel)]; kernel_rfl) | (rw [if_neg (by decide +kernel)]; exact ⟨rfl,rfl⟩))
    (fun os started H enc _=>historyTotals_lifted os started H enc)
end Go.Proofs.YtbhpbpilmejnlaaGreat
