/- HistoryFloor: proved for every input. The plain law, the walk of the law, and the statement. Conditions: none. -/
import Derived.Test.YtfkpgpibpnghiaaGreatRows
import Derived.Test.YtfkpgpibpnghiaaGreatXRuns
import Derived.Test.YtfkpgpibpnghiaaGreatXPlainHistoryFloor
import Derived.Test.YtfkpgpibpnghiaaGreatXRl
import Derived.WalkKit
import Derived.ProofKit
import Derived.OpenShut
namespace Gx
open Go Gd Go.Proofs Go.Proofs.YtfkpgpibpnghiaaGreat Go.RowKit Go.WideShapes Go.ChangeShapes
set_option linter.unusedVariables false
theorem op3:Jy Tryz.prog 3 (.int .i64):=Jax (show Tryz.prog.underlying 3=some (.int .i64) by kernel_rfl) (by kernel_rfl)
theorem op9:Jy Tryz.prog 9 .str:=Jay (show Tryz.prog.underlying 9=some (.string) by kernel_rfl) (by kernel_rfl)
theorem Jp9:Jy Tryz.prog 104 Jt:=U2 (show Tryz.prog.underlying 104=some (.struct ⟨[⟨"At",3,0,false, "", "",0⟩,⟨"Kind",3,1,false, "", "",8⟩,⟨"Account",3,2,false, "", "",16⟩,⟨"Sub",3,3,false, "", "",24⟩,⟨"Number",9,4,false, "", "",32⟩,⟨"Name",9,5,false, "", "",48⟩,⟨"Value",3,6,false, "", "",64⟩]⟩) by kernel_rfl) (by kernel_rfl) (.pr op3 rfl rfl rfl (.pr op3 rfl rfl rfl (.pr op3 rfl rfl rfl (.pr op3 rfl rfl rfl (.pr op9 rfl rfl rfl (.pr op9 rfl rfl rfl (.last op3 rfl rfl rfl)))))))
theorem Jqo:Jy Tryz.prog 22 (.sl Jt):=U1 (show Tryz.prog.underlying 22=some (.slice 104) by kernel_rfl) (by kernel_rfl) Jp9 (by decide)
theorem op4:Jy Tryz.prog 4 .bool:=Q4s (show Tryz.prog.underlying 4=some (.bool) by kernel_rfl) (by kernel_rfl)
theorem Jqa:Jy Tryz.prog 54 (.sl .str):=U1 (show Tryz.prog.underlying 54=some (.slice 9) by kernel_rfl) (by kernel_rfl) op9 (by decide)
theorem Jqp:Jy Tryz.prog 95 Ua:=U2 (show Tryz.prog.underlying 95=some (.struct ⟨[⟨"Name",9,0,false, "", "",0⟩,⟨"Prefixes",54,1,false, "", "",16⟩]⟩) by kernel_rfl) (by kernel_rfl) (.pr op9 rfl rfl rfl (.last Jqa rfl rfl rfl))
theorem Jqq:Jy Tryz.prog 71 (.sl Ua):=U1 (show Tryz.prog.underlying 71=some (.slice 95) by kernel_rfl) (by kernel_rfl) Jqp (by decide)
theorem Jqb:Jy Tryz.prog 262 Kj:=U2 (show Tryz.prog.underlying 262=some (.struct ⟨[⟨"Days",3,0,false, "", "",0⟩,⟨"From",3,1,false, "", "",8⟩,⟨"To",3,2,false, "", "",16⟩]⟩) by kernel_rfl) (by kernel_rfl) (.pr op3 rfl rfl rfl (.pr op3 rfl rfl rfl (.last op3 rfl rfl rfl)))
theorem Jqr:Jy Tryz.prog 96 (.sl Kj):=U1 (show Tryz.prog.underlying 96=some (.slice 262) by kernel_rfl) (by kernel_rfl) Jqb (by decide)
theorem Jqs:Jy Tryz.prog 98 Vs:=U2 (show Tryz.prog.underlying 98=some (.struct ⟨[⟨"Name",9,0,false, "", "",0⟩,⟨"Slots",96,1,false, "", "",16⟩]⟩) by kernel_rfl) (by kernel_rfl) (.pr op9 rfl rfl rfl (.last Jqr rfl rfl rfl))
theorem Jqt:Jy Tryz.prog 72 (.sl Vs):=U1 (show Tryz.prog.underlying 72=some (.slice 98) by kernel_rfl) (by kernel_rfl) Jqs (by decide)
theorem Jqc:Jy Tryz.prog 100 Gp:=U2 (show Tryz.prog.underlying 100=some (.struct ⟨[⟨"Upto",3,0,false, "", "",0⟩,⟨"Quantum",3,1,false, "", "",8⟩,⟨"Price",3,2,false, "", "",16⟩]⟩) by kernel_rfl) (by kernel_rfl) (.pr op3 rfl rfl rfl (.pr op3 rfl rfl rfl (.last op3 rfl rfl rfl)))
theorem Jqd:Jy Tryz.prog 83 (.sl Gp):=U1 (show Tryz.prog.underlying 83=some (.slice 100) by kernel_rfl) (by kernel_rfl) Jqc (by decide)
theorem Jqe:Jy Tryz.prog 102 Gq:=U2 (show Tryz.prog.underlying 102=some (.struct ⟨[⟨"Kind",3,0,false, "", "",0⟩,⟨"Zone",9,1,false, "", "",8⟩,⟨"Band",9,2,false, "", "",24⟩,⟨"Setup",3,3,false, "", "",40⟩,⟨"Steps",83,4,false, "", "",48⟩]⟩) by kernel_rfl) (by kernel_rfl) (.pr op3 rfl rfl rfl (.pr op9 rfl rfl rfl (.pr op9 rfl rfl rfl (.pr op3 rfl rfl rfl (.last Jqd rfl rfl rfl)))))
theorem Jqu:Jy Tryz.prog 73 (.sl Gq):=U1 (show Tryz.prog.underlying 73=some (.slice 102) by kernel_rfl) (by kernel_rfl) Jqe (by decide)
theorem Jqf:Jy Tryz.prog 111 Kk:=Q4u (show Tryz.prog.underlying 111=some (.struct ⟨[⟨"Op",3,0,false, "", "",0⟩,⟨"Num",3,1,false, "", "",8⟩,⟨"Text",9,2,false, "", "",16⟩,⟨"Args",109,3,false, "", "",32⟩]⟩) by kernel_rfl) rfl (by kernel_rfl) op3 op3 op9 (show Tryz.prog.underlying 109=some (.slice 111) by kernel_rfl) (by kernel_rfl) rfl rfl rfl ⟨rfl,rfl⟩ ⟨rfl,rfl⟩ ⟨rfl,rfl⟩ ⟨rfl,rfl⟩
theorem Jqg:Jy Tryz.prog 113 Y7:=U2 (show Tryz.prog.underlying 113=some (.struct ⟨[⟨"Name",9,0,false, "", "",0⟩,⟨"When",111,1,false, "", "",16⟩,⟨"Points",3,5,false, "", "",72⟩]⟩) by kernel_rfl) (by kernel_rfl) (.pr op9 rfl rfl rfl (.pr Jqf rfl rfl rfl (.last op3 rfl rfl rfl)))
theorem Jqv:Jy Tryz.prog 74 (.sl Y7):=U1 (show Tryz.prog.underlying 74=some (.slice 113) by kernel_rfl) (by kernel_rfl) Jqg (by decide)
theorem Jqw:Jy Tryz.prog 76 J6:=U2 (show Tryz.prog.underlying 76=some (.struct ⟨[⟨"Name",9,0,false, "", "",0⟩,⟨"From",3,1,false, "", "",16⟩,⟨"Split",4,2,false, "", "",24⟩,⟨"Zones",71,3,false, "", "",32⟩,⟨"Bands",72,4,false, "", "",56⟩,⟨"Rates",73,5,false, "", "",80⟩,⟨"Discounts",74,6,false, "", "",104⟩]⟩) by kernel_rfl) (by kernel_rfl) (.pr op9 rfl rfl rfl (.pr op3 rfl rfl rfl (.pr op4 rfl rfl rfl (.pr Jqq rfl rfl rfl (.pr Jqt rfl rfl rfl (.pr Jqu rfl rfl rfl (.last Jqv rfl rfl rfl)))))))
theorem Jqx:Jy Tryz.prog 23 (.sl J6):=U1 (show Tryz.prog.underlying 23=some (.slice 76) by kernel_rfl) (by kernel_rfl) Jqw (by decide)
theorem Jqy:Jy Tryz.prog 82 Kz:=U2 (show Tryz.prog.underlying 82=some (.struct ⟨[⟨"Kind",3,0,false, "", "",0⟩,⟨"Zones",54,1,false, "", "",8⟩,⟨"Units",3,2,false, "", "",32⟩,⟨"Rollover",3,3,false, "", "",40⟩,⟨"Priority",3,4,false, "", "",48⟩,⟨"Shared",4,5,false, "", "",56⟩]⟩) by kernel_rfl) (by kernel_rfl) (.pr op3 rfl rfl rfl (.pr Jqa rfl rfl rfl (.pr op3 rfl rfl rfl (.pr op3 rfl rfl rfl (.pr op3 rfl rfl rfl (.last op4 rfl rfl rfl))))))
theorem Jqz:Jy Tryz.prog 78 (.sl Kz):=U1 (show Tryz.prog.underlying 78=some (.slice 82) by kernel_rfl) (by kernel_rfl) Jqy (by decide)
theorem Jq0:Jy Tryz.prog 80 Yl:=U2 (show Tryz.prog.underlying 80=some (.struct ⟨[⟨"Name",9,0,false, "", "",0⟩,⟨"From",3,1,false, "", "",16⟩,⟨"Fee",3,2,false, "", "",24⟩,⟨"Category",9,3,false, "", "",32⟩,⟨"Prorate",4,4,false, "", "",48⟩,⟨"Bundles",78,5,false, "", "",56⟩]⟩) by kernel_rfl) (by kernel_rfl) (.pr op9 rfl rfl rfl (.pr op3 rfl rfl rfl (.pr op3 rfl rfl rfl (.pr op9 rfl rfl rfl (.pr op4 rfl rfl rfl (.last Jqz rfl rfl rfl))))))
theorem Jq1:Jy Tryz.prog 24 (.sl Yl):=U1 (show Tryz.prog.underlying 24=some (.slice 80) by kernel_rfl) (by kernel_rfl) Jq0 (by decide)
theorem Jqh:Jy Tryz.prog 128 Cy:=U2 (show Tryz.prog.underlying 128=some (.struct ⟨[⟨"Category",9,0,false, "", "",0⟩,⟨"From",3,1,false, "", "",16⟩,⟨"Points",3,2,false, "", "",24⟩]⟩) by kernel_rfl) (by kernel_rfl) (.pr op9 rfl rfl rfl (.pr op3 rfl rfl rfl (.last op3 rfl rfl rfl)))
theorem Jq2:Jy Tryz.prog 25 (.sl Cy):=U1 (show Tryz.prog.underlying 25=some (.slice 128) by kernel_rfl) (by kernel_rfl) Jqh (by decide)
theorem Jq3:Jy Tryz.prog 26 (.sl (.int .i64)):=U1 (show Tryz.prog.underlying 26=some (.slice 3) by kernel_rfl) (by kernel_rfl) op3 (by decide)
theorem Jq4:Jy Tryz.prog 56 Ja:=U2 (show Tryz.prog.underlying 56=some (.struct ⟨[⟨"From",3,0,false, "", "",0⟩,⟨"To",3,1,false, "", "",8⟩]⟩) by kernel_rfl) (by kernel_rfl) (.pr op3 rfl rfl rfl (.last op3 rfl rfl rfl))
theorem Jq5:Jy Tryz.prog 85 V2:=U2 (show Tryz.prog.underlying 85=some (.struct ⟨[⟨"Partner",3,0,false, "", "",0⟩,⟨"Kind",3,1,false, "", "",8⟩,⟨"Inbound",4,2,false, "", "",16⟩,⟨"Valid",56,3,false, "", "",24⟩,⟨"Steps",83,5,false, "", "",40⟩,⟨"Cap",3,6,false, "", "",64⟩]⟩) by kernel_rfl) (by kernel_rfl) (.pr op3 rfl rfl rfl (.pr op3 rfl rfl rfl (.pr op4 rfl rfl rfl (.pr Jq4 rfl rfl rfl (.pr Jqd rfl rfl rfl (.last op3 rfl rfl rfl))))))
theorem Jq6:Jy Tryz.prog 27 (.sl V2):=U1 (show Tryz.prog.underlying 27=some (.slice 85) by kernel_rfl) (by kernel_rfl) Jq5 (by decide)
theorem Jq7:Jy Tryz.prog 29 Vt:=U2 (show Tryz.prog.underlying 29=some (.struct ⟨[⟨"Events",22,0,false, "", "",0⟩,⟨"Tariffs",23,1,false, "", "",24⟩,⟨"Products",24,2,false, "", "",48⟩,⟨"Taxes",25,3,false, "", "",72⟩,⟨"Holidays",26,4,false, "", "",96⟩,⟨"Agreements",27,5,false, "", "",120⟩]⟩) by kernel_rfl) (by kernel_rfl) (.pr Jqo rfl rfl rfl (.pr Jqx rfl rfl rfl (.pr Jq1 rfl rfl rfl (.pr Jq2 rfl rfl rfl (.pr Jq3 rfl rfl rfl (.last Jq6 rfl rfl rfl))))))
theorem Jq8:Jy Tryz.prog 34 J2:=U2 (show Tryz.prog.underlying 34=some (.struct ⟨[⟨"Id",3,0,false, "", "",0⟩,⟨"Kind",3,1,false, "", "",8⟩,⟨"Account",3,2,false, "", "",16⟩,⟨"Sub",3,3,false, "", "",24⟩,⟨"A",9,4,false, "", "",32⟩,⟨"B",9,5,false, "", "",48⟩,⟨"Start",3,6,false, "", "",64⟩,⟨"Units",3,7,false, "", "",72⟩,⟨"Trunk",3,8,false, "", "",80⟩,⟨"Inbound",4,9,false, "", "",88⟩,⟨"Source",3,10,false, "", "",96⟩,⟨"Serial",3,11,false, "", "",104⟩]⟩) by kernel_rfl) (by kernel_rfl) (.pr op3 rfl rfl rfl (.pr op3 rfl rfl rfl (.pr op3 rfl rfl rfl (.pr op3 rfl rfl rfl (.pr op9 rfl rfl rfl (.pr op9 rfl rfl rfl (.pr op3 rfl rfl rfl (.pr op3 rfl rfl rfl (.pr op3 rfl rfl rfl (.pr op4 rfl rfl rfl (.pr op3 rfl rfl rfl (.last op3 rfl rfl rfl))))))))))))
theorem Jq9:Jy Tryz.prog 30 (.sl J2):=U1 (show Tryz.prog.underlying 30=some (.slice 34) by kernel_rfl) (by kernel_rfl) Jq8 (by decide)
end Gx
namespace Go.Proofs.YtfkpgpibpnghiaaGreat
open Go Gd Gx Go.ChangeShapes Go.WideShapes Go.ChangeAt Go.RowKit
set_option linter.unusedVariables false
set_option maxRecDepth 100000 in
/-- What the walk and the plain law give. -/
theorem Qez(os:Os)(started:os.Started)(H:Type)(enc:TypeId×Value→H) :
  ReturnsInHanded {} Tryz.checked os 4 .any (Rows.historyFloorSpec.pre6 enc Tryz.prog Tryz.f4 Rows.historyFloorRow.domain false) (Rows.historyFloorSpec.post enc Tryz.prog Tryz.f4 false true false false):=by
 refine returnsInHanded_of_change (C:=Tryz.checked) (by kernel_rfl) started (by kernel_rfl) Tryz.func4
  (ChangeSpec.witness6 (enc:=enc) (C:=Tryz.checked) false ⟨#[],#[.agg #[.slice none 0 0,.slice none 0 0,.slice none 0 0,.slice none 0 0,.slice none 0 0,.slice none 0 0],.slice none 0 0],[]⟩ 8 (by kernel_rfl) (by kernel_rfl) (by kernel_rfl) (by kernel_rfl)) ?_
 intro W base args ds gs before bz hW hcnd _
 have yg:∀(j:Nat) t v,Tryz.f4.params[j]?=some t→args[j]?=some v→Value.okWide Tryz.prog W .any base t v:=bz
 obtain⟨v0,v1,x0,x1,zq,xh,g0,pc,g1⟩:=Jo3 (show Tryz.f4.params=#[29,30] by kernel_rfl) yg hW Jq7 Jq9
 obtain⟨N,hF⟩:=Qlc x0 g0 x1 g1
 subst zq
 exact Jdv (tb:=4) (by kernel_rfl) (show Tryz.prog.underlying 4=some .bool by kernel_rfl) rfl (by kernel_rfl) (by kernel_rfl) (fun d hd=>(match d,hd with
   | [d0,d1],_=>rfl)) hW
  (Ja1 (c:=(Wo N).1) ((Wo N).2.1 (lt W) W [] (fun _=>0) (fun _=>undef) (x0,x1) true [v0,v1] (fun _ _ h=>h) (fun q hq=>by cases hq) rfl Ja0 (Jpq xh pc) hF) rfl)

theorem E0{a b:Bool}(ha:a=true)(hb:b=true):(a&&b)=true:=by rw[ha,hb]; rfl
theorem jf0:(Rows.historyFloorRow.wf (OpenSpec.ofChange Rows.historyFloorSpec))=true:=by kernel_rfl
theorem jf1:(laidOutB Tryz.prog)=true:=by kernel_rfl
theorem jf2:(mapsRowed Tryz.prog)=true:=by kernel_rfl
theorem jf3:(Tryz.f4.params.all (Tryz.prog.readableRec ·))=true:=by kernel_rfl
theorem jf4:(namedTie Tryz.prog Rows.historyFloorRow.named Rows.historyFloorSpec.vars)=true:=by kernel_rfl
theorem jf5:((Rows.historyFloorRow.stops==[]))=true:=by kernel_rfl
theorem jf6:((Tryz.prog.stops==[]))=true:=by kernel_rfl
theorem jf7:((Rows.historyFloorRow.knobs==[]))=true:=by kernel_rfl
theorem jf8:((Tryz.prog.stopKnobs==[]))=true:=by kernel_rfl
theorem jf9:((Rows.historyFloorRow.inPlace==Tryz.prog.inPlace 4))=true:=by kernel_rfl
theorem Jra:((Rows.historyFloorRow.unfollowed==Tryz.prog.unfollowed 4))=true:=by kernel_rfl
theorem Jrb:((Rows.historyFloorRow.recurses==Tryz.prog.recurses 4))=true:=by kernel_rfl
theorem Jrc:((Rows.historyFloorRow.named==Tryz.prog.varsNamed 4))=true:=by kernel_rfl
theorem Jrd:((Rows.historyFloorRow.maps==(Tryz.f4.params.toList++Rows.historyFloorSpec.plain.varTypes Tryz.prog).any (Tryz.prog.mapsRec ·)))=true:=by kernel_rfl
theorem Jre:((Rows.historyFloorRow.ifaces==(Tryz.f4.params.toList++Rows.historyFloorSpec.plain.varTypes Tryz.prog).any (Tryz.prog.ifacesRec ·)))=true:=by kernel_rfl
theorem Jrf:((Rows.historyFloorRow.mapsOut==Tryz.prog.mapsAmong Tryz.f4.resultTypes.toList))=true:=by kernel_rfl
theorem Jrg:((Rows.historyFloorRow.loops==(Tryz.f4.params.toList++Rows.historyFloorSpec.plain.varTypes Tryz.prog).any (Tryz.prog.loopsFrom ·)))=true:=by kernel_rfl
theorem Jrh:((Rows.historyFloorRow.wideKeys==(Tryz.f4.params.toList++Rows.historyFloorSpec.plain.varTypes Tryz.prog++Tryz.f4.resultTypes.toList).any (Tryz.prog.wideKeysFrom ·)))=true:=by kernel_rfl
theorem Jri:(Rows.historyFloorSpec.vars.all (Tryz.prog.varReadable ·))=true:=by kernel_rfl
theorem Jrj:(Tryz.f4.resultTypes.all (fun t=>Tryz.prog.readableRec t&&decide (t<Tryz.prog.types.size)))=true:=by kernel_rfl
theorem Jrk:((Rows.historyFloorRow.ifacesOut==Tryz.f4.resultTypes.toList.any (Tryz.prog.ifacesRec ·)))=true:=by kernel_rfl
theorem Jrl:((Rows.historyFloorRow.loopsOut==Tryz.f4.resultTypes.toList.any (Tryz.prog.loopsFrom ·)))=true:=by kernel_rfl
theorem Jrm:((Rows.historyFloorRow.plainKeys==Tryz.prog.plainKeys))=true:=by kernel_rfl
theorem Jrn:(Rows.historyFloorRow.shortTexts.isNone)=true:=by kernel_rfl
theorem Jro:(Tryz.prog.stopsHeard)=true:=by kernel_rfl
theorem Jrp:(Tryz.prog.mayEnter)=true:=by kernel_rfl
theorem Jrq:((Rows.historyFloorRow.lifted==Tryz.prog.liftsFinal))=true:=by kernel_rfl
theorem Jrr:((Tryz.prog.make==some Rows.historyFloorRow.make))=true:=by kernel_rfl
theorem Jrs:((Rows.historyFloorRow.kinds==(if Rows.historyFloorRow.domain.isEmpty then []else Tryz.f4.params.toList.map fun t=>match Tryz.prog.underlying t with | some (.int k)=>some k | _=>none)))=true:=by kernel_rfl
theorem Jrt:((Rows.historyFloorRow.pinned==Rows.historyFloorRow.pinnedBy))=true:=by kernel_rfl
theorem Jru:((Rows.historyFloorRow.veiled==(Tryz.f4.params.toList++Rows.historyFloorSpec.plain.varTypes Tryz.prog++Tryz.f4.resultTypes.toList).any (Tryz.prog.veiledRec ·)))=true:=by kernel_rfl
theorem Jrv:(Rows.historyFloorRow.veiledFits Tryz.prog Tryz.f4.params.toList (Tryz.f4.params.toList++Rows.historyFloorSpec.plain.varTypes Tryz.prog++Tryz.f4.resultTypes.toList))=true:=by kernel_rfl
set_option maxRecDepth 100000 in
theorem Jqi:joinedFacts Tryz.prog 4 Tryz.f4 Rows.historyFloorSpec Rows.historyFloorRow=true:=(E0 (E0 (E0 (E0 (E0 (E0 (E0 (E0 (E0 (E0 (E0 (E0 (E0 (E0 (E0 (E0 (E0 (E0 (E0 (E0 (E0 (E0 (E0 (E0 (E0 (E0 (E0 (E0 (E0 (E0 (E0 jf0 jf1) jf2) jf3) jf4) jf5) jf6) jf7) jf8) jf9) Jra) Jrb) Jrc) Jrd) Jre) Jrf) Jrg) Jrh) Jri) Jrj) Jrk) Jrl) Jrm) Jrn) Jro) Jrp) Jrq) Jrr) Jrs) Jrt) Jru) Jrv)
/-- The statement HistoryFloor. -/
theorem historyFloor_proved:Rows.HistoryFloorSaid :=
 OpenClaim.holds_of_wide 4 Tryz.f4 rfl rfl rfl rfl rfl rfl rfl ⟨rfl,rfl,rfl,rfl,rfl⟩ rfl rfl rfl rfl rfl (by kernel_rfl) Tryz.func4 Jqi
  (of_decide_eq_true (by kernel_rfl)) (by unfold Func.isWrapper; first | (rw[if_pos (by decide +kernel)]; kernel_rfl) | (rw[if_neg (by decide +kernel)]; exact⟨rfl,rfl⟩))
  (fun os started H enc _=>Qez os started H enc)
end Go.Proofs.YtfkpgpibpnghiaaGreat
