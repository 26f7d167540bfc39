/- RerateAdjusts: proved for every input. The plain law, the walk of the law, and the statement. Conditions: none. -/
import Derived.Test.YtbhpbpilmejnlaaGreatRows
import Derived.Test.YtbhpbpilmejnlaaGreatXRuns
import Derived.Test.YtbhpbpilmejnlaaGreatXPlainRerateAdjusts
import Derived.Test.YtbhpbpilmejnlaaGreatXRl
import Derived.WalkKit
import Derived.ProofKit
import Derived.OpenShut
namespace Gx
open Go Gd Go.Proofs Go.Proofs.YtbhpbpilmejnlaaGreat Go.RowKit Go.WideShapes Go.ChangeShapes
set_option linter.unusedVariables false
theorem op3:Zm Tryz.prog 3 (.int .i64):=Qbx (show Tryz.prog.underlying 3=some (.int .i64) by kernel_rfl) (by kernel_rfl)
theorem op9:Zm Tryz.prog 9 .str:=Qps (show Tryz.prog.underlying 9=some (.string) by kernel_rfl) (by kernel_rfl)
theorem op4:Zm Tryz.prog 4 .bool:=Qjg (show Tryz.prog.underlying 4=some (.bool) by kernel_rfl) (by kernel_rfl)
theorem Jlk:Zm Tryz.prog 23 Qk:=C4 (show Tryz.prog.underlying 23=some (.struct ⟨[⟨"Id",3,0,false, "", "",0⟩,⟨"Kind",3,1,false, "", "",8⟩,⟨"Account",3,2,false, "", "",16⟩,⟨"Sub",3,3,false, "", "",24⟩,⟨"A",9,4,false, "", "",32⟩,⟨"B",9,5,false, "", "",48⟩,⟨"Start",3,6,false, "", "",64⟩,⟨"Units",3,7,false, "", "",72⟩,⟨"Trunk",3,8,false, "", "",80⟩,⟨"Inbound",4,9,false, "", "",88⟩,⟨"Source",3,10,false, "", "",96⟩,⟨"Serial",3,11,false, "", "",104⟩]⟩) by kernel_rfl) (by kernel_rfl) (.pr op3 rfl rfl rfl (.pr op3 rfl rfl rfl (.pr op3 rfl rfl rfl (.pr op3 rfl rfl rfl (.pr op9 rfl rfl rfl (.pr op9 rfl rfl rfl (.pr op3 rfl rfl rfl (.pr op3 rfl rfl rfl (.pr op3 rfl rfl rfl (.pr op4 rfl rfl rfl (.pr op3 rfl rfl rfl (.last op3 rfl rfl rfl))))))))))))
theorem Jll:Zm Tryz.prog 24 (.int .i64):=Qbx (show Tryz.prog.underlying 24=some (.int .i64) by kernel_rfl) (by kernel_rfl)
theorem Jlm:Zm Tryz.prog 33 Jy:=C4 (show Tryz.prog.underlying 33=some (.struct ⟨[⟨"Sub",3,0,false, "", "",0⟩,⟨"Product",9,1,false, "", "",8⟩,⟨"Index",3,2,false, "", "",24⟩,⟨"From",3,3,false, "", "",32⟩,⟨"Units",3,4,false, "", "",40⟩]⟩) by kernel_rfl) (by kernel_rfl) (.pr op3 rfl rfl rfl (.pr op9 rfl rfl rfl (.pr op3 rfl rfl rfl (.pr op3 rfl rfl rfl (.last op3 rfl rfl rfl)))))
theorem Jln:Zm Tryz.prog 25 (.sl Jy):=Mf (show Tryz.prog.underlying 25=some (.slice 33) by kernel_rfl) (by kernel_rfl) Jlm (by decide)
theorem Jlo:Zm Tryz.prog 35 Q7:=C4 (show Tryz.prog.underlying 35=some (.struct ⟨[⟨"Band",9,0,false, "", "",0⟩,⟨"Start",3,1,false, "", "",16⟩,⟨"Units",3,2,false, "", "",24⟩,⟨"Amount",3,3,false, "", "",32⟩]⟩) by kernel_rfl) (by kernel_rfl) (.pr op9 rfl rfl rfl (.pr op3 rfl rfl rfl (.pr op3 rfl rfl rfl (.last op3 rfl rfl rfl))))
theorem Jlp:Zm Tryz.prog 26 (.sl Q7):=Mf (show Tryz.prog.underlying 26=some (.slice 35) by kernel_rfl) (by kernel_rfl) Jlo (by decide)
theorem Jlq:Zm Tryz.prog 76 Ju:=C4 (show Tryz.prog.underlying 76=some (.struct ⟨[⟨"Name",9,0,false, "", "",0⟩,⟨"Amount",3,1,false, "", "",16⟩]⟩) by kernel_rfl) (by kernel_rfl) (.pr op9 rfl rfl rfl (.last op3 rfl rfl rfl))
theorem Jlr:Zm Tryz.prog 27 (.sl Ju):=Mf (show Tryz.prog.underlying 27=some (.slice 76) by kernel_rfl) (by kernel_rfl) Jlq (by decide)
theorem Jls:Zm Tryz.prog 29 Jm:=C4 (show Tryz.prog.underlying 29=some (.struct ⟨[⟨"Usage",23,0,false, "", "",0⟩,⟨"Err",24,12,false, "", "",112⟩,⟨"Plan",9,13,false, "", "",120⟩,⟨"Version",3,14,false, "", "",136⟩,⟨"Zone",9,15,false, "", "",144⟩,⟨"Takes",25,16,false, "", "",160⟩,⟨"Segments",26,17,false, "", "",184⟩,⟨"Setup",3,18,false, "", "",208⟩,⟨"Gross",3,19,false, "", "",216⟩,⟨"Net",3,20,false, "", "",224⟩,⟨"Given",27,21,false, "", "",232⟩,⟨"Paid",3,22,false, "", "",256⟩,⟨"Owed",3,23,false, "", "",264⟩]⟩) by kernel_rfl) (by kernel_rfl) (.pr Jlk rfl rfl rfl (.pr Jll rfl rfl rfl (.pr op9 rfl rfl rfl (.pr op3 rfl rfl rfl (.pr op9 rfl rfl rfl (.pr Jln rfl rfl rfl (.pr Jlp rfl rfl rfl (.pr op3 rfl rfl rfl (.pr op3 rfl rfl rfl (.pr op3 rfl rfl rfl (.pr Jlr rfl rfl rfl (.pr op3 rfl rfl rfl (.last op3 rfl rfl rfl)))))))))))))
theorem Jld:Zm Tryz.prog 38 (.sl Jm):=Mf (show Tryz.prog.underlying 38=some (.slice 29) by kernel_rfl) (by kernel_rfl) Jls (by decide)
end Gx
namespace Go.Proofs.YtbhpbpilmejnlaaGreat
open Go Gd Gx Go.ChangeShapes Go.WideShapes Go.ChangeAt Go.RowKit
set_option linter.unusedVariables false
set_option maxRecDepth 100000 in
/-- What the walk and the plain law give. -/
theorem Db (os:Os) (started:os.Started) (H:Type) (enc:TypeId×Value→H) :
  ReturnsInHanded {} Tryz.checked os 6 .any (Rows.rerateAdjustsSpec.pre6 enc Tryz.prog Tryz.f6 Rows.rerateAdjustsRow.domain false) (Rows.rerateAdjustsSpec.post enc Tryz.prog Tryz.f6 false true false false):=by
 refine returnsInHanded_of_change (C:=Tryz.checked) (by kernel_rfl) started (by kernel_rfl) Tryz.func6
  (ChangeSpec.witness6 (enc:=enc) (C:=Tryz.checked) false ⟨#[],#[.slice none 0 0,.slice none 0 0],[]⟩ 8 (by kernel_rfl) (by kernel_rfl) (by kernel_rfl) (by kernel_rfl)) ?_
 intro W base args ds gs before hval0 hW hcnd _
 have hval:∀(j:Nat) t v,Tryz.f6.params[j]?=some t→args[j]?=some v→Value.okWide Tryz.prog W .any base t v:=hval0
 obtain ⟨v0,v1,x0,x1,hargs,hv0,g0,hv1,g1⟩:=Jir (show Tryz.f6.params=#[38,38] by kernel_rfl) hval hW Jld Jld
 obtain ⟨N,hF⟩:=Mw x0 g0 x1 g1
 subst hargs
 exact Qrc (tb:=4) (by kernel_rfl) (show Tryz.prog.underlying 4=some .bool by kernel_rfl) rfl (by kernel_rfl) (by kernel_rfl) (fun d hd=>(match d,hd with
   | [d0,d1],_=>rfl)) hW
  (Qpv (c:=Z4 N) (G4 N (lt W) W [] (fun _=>0) (fun _=>undef) (x0,x1) true [v0,v1] (fun _ _ h=>h) (fun q hq=>by cases hq) rfl Qpu (Jjf hv0 hv1) hF) rfl)

theorem Xy {a b:Bool} (ha:a=true) (hb:b=true):(a&&b)=true:=by rw [ha,hb]; rfl
theorem jf0:(Rows.rerateAdjustsRow.wf (OpenSpec.ofChange Rows.rerateAdjustsSpec))=true:=by kernel_rfl
theorem jf1:(laidOutB Tryz.prog)=true:=by kernel_rfl
theorem jf2:(mapsRowed Tryz.prog)=true:=by kernel_rfl
theorem jf3:(Tryz.f6.params.all (Tryz.prog.readableRec ·))=true:=by kernel_rfl
theorem jf4:(namedTie Tryz.prog Rows.rerateAdjustsRow.named Rows.rerateAdjustsSpec.vars)=true:=by kernel_rfl
theorem jf5:((Rows.rerateAdjustsRow.stops==[]))=true:=by kernel_rfl
theorem jf6:((Tryz.prog.stops==[]))=true:=by kernel_rfl
theorem jf7:((Rows.rerateAdjustsRow.knobs==[]))=true:=by kernel_rfl
theorem jf8:((Tryz.prog.stopKnobs==[]))=true:=by kernel_rfl
theorem jf9:((Rows.rerateAdjustsRow.inPlace==Tryz.prog.inPlace 6))=true:=by kernel_rfl
theorem Jlt:((Rows.rerateAdjustsRow.unfollowed==Tryz.prog.unfollowed 6))=true:=by kernel_rfl
theorem Jlu:((Rows.rerateAdjustsRow.recurses==Tryz.prog.recurses 6))=true:=by kernel_rfl
theorem Jlv:((Rows.rerateAdjustsRow.named==Tryz.prog.varsNamed 6))=true:=by kernel_rfl
theorem Jlw:((Rows.rerateAdjustsRow.maps==(Tryz.f6.params.toList++Rows.rerateAdjustsSpec.plain.varTypes Tryz.prog).any (Tryz.prog.mapsRec ·)))=true:=by kernel_rfl
theorem Jlx:((Rows.rerateAdjustsRow.ifaces==(Tryz.f6.params.toList++Rows.rerateAdjustsSpec.plain.varTypes Tryz.prog).any (Tryz.prog.ifacesRec ·)))=true:=by kernel_rfl
theorem Jly:((Rows.rerateAdjustsRow.mapsOut==Tryz.prog.mapsAmong Tryz.f6.resultTypes.toList))=true:=by kernel_rfl
theorem Jlz:((Rows.rerateAdjustsRow.loops==(Tryz.f6.params.toList++Rows.rerateAdjustsSpec.plain.varTypes Tryz.prog).any (Tryz.prog.loopsFrom ·)))=true:=by kernel_rfl
theorem Jl0:((Rows.rerateAdjustsRow.wideKeys==(Tryz.f6.params.toList++Rows.rerateAdjustsSpec.plain.varTypes Tryz.prog++Tryz.f6.resultTypes.toList).any (Tryz.prog.wideKeysFrom ·)))=true:=by kernel_rfl
theorem Jl1:(Rows.rerateAdjustsSpec.vars.all (Tryz.prog.varReadable ·))=true:=by kernel_rfl
theorem Jl2:(Tryz.f6.resultTypes.all (fun t=>Tryz.prog.readableRec t&&decide (t<Tryz.prog.types.size)))=true:=by kernel_rfl
theorem Jl3:((Rows.rerateAdjustsRow.ifacesOut==Tryz.f6.resultTypes.toList.any (Tryz.prog.ifacesRec ·)))=true:=by kernel_rfl
theorem Jl4:((Rows.rerateAdjustsRow.loopsOut==Tryz.f6.resultTypes.toList.any (Tryz.prog.loopsFrom ·)))=true:=by kernel_rfl
theorem Jl5:((Rows.rerateAdjustsRow.plainKeys==Tryz.prog.plainKeys))=true:=by kernel_rfl
theorem Jl6:(Rows.rerateAdjustsRow.shortTexts.isNone)=true:=by kernel_rfl
theorem Jl7:(Tryz.prog.stopsHeard)=true:=by kernel_rfl
theorem Jl8:(Tryz.prog.mayEnter)=true:=by kernel_rfl
theorem Jl9:((Rows.rerateAdjustsRow.lifted==Tryz.prog.liftsFinal))=true:=by kernel_rfl
theorem Jma:((Tryz.prog.make==some Rows.rerateAdjustsRow.make))=true:=by kernel_rfl
theorem Jmb:((Rows.rerateAdjustsRow.kinds==(if Rows.rerateAdjustsRow.domain.isEmpty then [] else Tryz.f6.params.toList.map fun t=>match Tryz.prog.underlying t with | some (.int k)=>some k | _=>none)))=true:=by kernel_rfl
theorem Jmc:((Rows.rerateAdjustsRow.pinned==Rows.rerateAdjustsRow.pinnedBy))=true:=by kernel_rfl
theorem Jmd:((Rows.rerateAdjustsRow.veiled==(Tryz.f6.params.toList++Rows.rerateAdjustsSpec.plain.varTypes Tryz.prog++Tryz.f6.resultTypes.toList).any (Tryz.prog.veiledRec ·)))=true:=by kernel_rfl
theorem Jme:(Rows.rerateAdjustsRow.veiledFits Tryz.prog Tryz.f6.params.toList (Tryz.f6.params.toList++Rows.rerateAdjustsSpec.plain.varTypes Tryz.prog++Tryz.f6.resultTypes.toList))=true:=by kernel_rfl
set_option maxRecDepth 100000 in
theorem Jle:joinedFacts Tryz.prog 6 Tryz.f6 Rows.rerateAdjustsSpec Rows.rerateAdjustsRow=true:=(Xy (Xy (Xy (Xy (Xy (Xy (Xy (Xy (Xy (Xy (Xy (Xy (Xy (Xy (Xy (Xy (Xy (Xy (Xy (Xy (Xy (Xy (Xy (Xy (Xy (Xy (Xy (Xy (Xy (Xy (Xy jf0 jf1) jf2) jf3) jf4) jf5) jf6) jf7) jf8) jf9) Jlt) Jlu) Jlv) Jlw) Jlx) Jly) Jlz) Jl0) Jl1) Jl2) Jl3) Jl4) Jl5) Jl6) Jl7) Jl8) Jl9) Jma) Jmb) Jmc) Jmd) Jme)
/-- The statement RerateAdjusts. -/
theorem rerateAdjusts_proved:Rows.RerateAdjustsSaid :=
 OpenClaim.holds_of_wide 6 Tryz.f6 rfl rfl rfl rfl rfl rfl rfl ⟨rfl,rfl,rfl,rfl,rfl⟩ rfl rfl rfl rfl rfl (by kernel_rfl) Tryz.func6 Jle
  (of_decide_eq_true (by kernel_rfl)) (by unfold Func.isWrapper; first | (rw [if_pos (by decide +kernel)]; kernel_rfl) | (rw [if_neg (by decide +kernel)]; exact ⟨rfl,rfl⟩))
  (fun os started H enc _=>Db os started H enc)
end Go.Proofs.YtbhpbpilmejnlaaGreat
