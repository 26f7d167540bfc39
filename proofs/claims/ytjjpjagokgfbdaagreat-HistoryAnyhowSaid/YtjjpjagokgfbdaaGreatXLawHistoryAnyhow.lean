/- HistoryAnyhow: proved for every input. The plain law, the walk of the law, and the statement. Conditions: none. -/
import Derived.Test.YtjjpjagokgfbdaaGreatRows
import Derived.Test.YtjjpjagokgfbdaaGreatXRuns
import Derived.Test.YtjjpjagokgfbdaaGreatXPlainHistoryAnyhow
import Derived.Test.YtjjpjagokgfbdaaGreatXRn
import Derived.WalkKit
import Derived.ProofKit
import Derived.OpenShut
namespace Gx
open Go Gd Go.Proofs Go.Proofs.YtjjpjagokgfbdaaGreat Go.RowKit Go.WideShapes Go.ChangeShapes
set_option linter.unusedVariables false
theorem op3:Jy Tryz.prog 3 (.int .i64):=Jb5 (show Tryz.prog.underlying 3=some (.int .i64) by kernel_rfl) (by kernel_rfl)
theorem op9:Jy Tryz.prog 9 .str:=Jb6 (show Tryz.prog.underlying 9=some (.string) by kernel_rfl) (by kernel_rfl)
theorem Jrk:Jy Tryz.prog 144 Jv:=U5 (show Tryz.prog.underlying 144=some (.struct ⟨[⟨"At",3,0,false, "", "",0⟩,⟨"Kind",3,1,false, "", "",8⟩,⟨"Account",3,2,false, "", "",16⟩,⟨"Sub",3,3,false, "", "",24⟩,⟨"Number",9,4,false, "", "",32⟩,⟨"Name",9,5,false, "", "",48⟩,⟨"Value",3,6,false, "", "",64⟩]⟩) by kernel_rfl) (by kernel_rfl) (.pr op3 rfl rfl rfl (.pr op3 rfl rfl rfl (.pr op3 rfl rfl rfl (.pr op3 rfl rfl rfl (.pr op9 rfl rfl rfl (.pr op9 rfl rfl rfl (.last op3 rfl rfl rfl)))))))
theorem Jr6:Jy Tryz.prog 22 (.sl Jv):=U4 (show Tryz.prog.underlying 22=some (.slice 144) by kernel_rfl) (by kernel_rfl) Jrk (by decide)
theorem op4:Jy Tryz.prog 4 .bool:=Q58 (show Tryz.prog.underlying 4=some (.bool) by kernel_rfl) (by kernel_rfl)
theorem Jrl:Jy Tryz.prog 64 (.sl .str):=U4 (show Tryz.prog.underlying 64=some (.slice 9) by kernel_rfl) (by kernel_rfl) op9 (by decide)
theorem Jrm:Jy Tryz.prog 135 V8:=U5 (show Tryz.prog.underlying 135=some (.struct ⟨[⟨"Name",9,0,false, "", "",0⟩,⟨"Prefixes",64,1,false, "", "",16⟩]⟩) by kernel_rfl) (by kernel_rfl) (.pr op9 rfl rfl rfl (.last Jrl rfl rfl rfl))
theorem Jr7:Jy Tryz.prog 95 (.sl V8):=U4 (show Tryz.prog.underlying 95=some (.slice 135) by kernel_rfl) (by kernel_rfl) Jrm (by decide)
theorem Jrn:Jy Tryz.prog 319 Kn:=U5 (show Tryz.prog.underlying 319=some (.struct ⟨[⟨"Days",3,0,false, "", "",0⟩,⟨"From",3,1,false, "", "",8⟩,⟨"To",3,2,false, "", "",16⟩]⟩) by kernel_rfl) (by kernel_rfl) (.pr op3 rfl rfl rfl (.pr op3 rfl rfl rfl (.last op3 rfl rfl rfl)))
theorem Jro:Jy Tryz.prog 136 (.sl Kn):=U4 (show Tryz.prog.underlying 136=some (.slice 319) by kernel_rfl) (by kernel_rfl) Jrn (by decide)
theorem Jrp:Jy Tryz.prog 138 Vv:=U5 (show Tryz.prog.underlying 138=some (.struct ⟨[⟨"Name",9,0,false, "", "",0⟩,⟨"Slots",136,1,false, "", "",16⟩]⟩) by kernel_rfl) (by kernel_rfl) (.pr op9 rfl rfl rfl (.last Jro rfl rfl rfl))
theorem Jr8:Jy Tryz.prog 96 (.sl Vv):=U4 (show Tryz.prog.underlying 96=some (.slice 138) by kernel_rfl) (by kernel_rfl) Jrp (by decide)
theorem Jrq:Jy Tryz.prog 140 Gz:=U5 (show Tryz.prog.underlying 140=some (.struct ⟨[⟨"Upto",3,0,false, "", "",0⟩,⟨"Quantum",3,1,false, "", "",8⟩,⟨"Price",3,2,false, "", "",16⟩]⟩) by kernel_rfl) (by kernel_rfl) (.pr op3 rfl rfl rfl (.pr op3 rfl rfl rfl (.last op3 rfl rfl rfl)))
theorem Jou:Jy Tryz.prog 111 (.sl Gz):=U4 (show Tryz.prog.underlying 111=some (.slice 140) by kernel_rfl) (by kernel_rfl) Jrq (by decide)
theorem Jrr:Jy Tryz.prog 142 G0:=U5 (show Tryz.prog.underlying 142=some (.struct ⟨[⟨"Kind",3,0,false, "", "",0⟩,⟨"Zone",9,1,false, "", "",8⟩,⟨"Band",9,2,false, "", "",24⟩,⟨"Setup",3,3,false, "", "",40⟩,⟨"Steps",111,4,false, "", "",48⟩]⟩) by kernel_rfl) (by kernel_rfl) (.pr op3 rfl rfl rfl (.pr op9 rfl rfl rfl (.pr op9 rfl rfl rfl (.pr op3 rfl rfl rfl (.last Jou rfl rfl rfl)))))
theorem Jr9:Jy Tryz.prog 97 (.sl G0):=U4 (show Tryz.prog.underlying 97=some (.slice 142) by kernel_rfl) (by kernel_rfl) Jrr (by decide)
theorem Jrs:Jy Tryz.prog 180 Ko:=Q6a (show Tryz.prog.underlying 180=some (.struct ⟨[⟨"Op",3,0,false, "", "",0⟩,⟨"Num",3,1,false, "", "",8⟩,⟨"Text",9,2,false, "", "",16⟩,⟨"Args",178,3,false, "", "",32⟩]⟩) by kernel_rfl) rfl (by kernel_rfl) op3 op3 op9 (show Tryz.prog.underlying 178=some (.slice 180) by kernel_rfl) (by kernel_rfl) rfl rfl rfl ⟨rfl,rfl⟩ ⟨rfl,rfl⟩ ⟨rfl,rfl⟩ ⟨rfl,rfl⟩
theorem Jrt:Jy Tryz.prog 182 Vb:=U5 (show Tryz.prog.underlying 182=some (.struct ⟨[⟨"Name",9,0,false, "", "",0⟩,⟨"When",180,1,false, "", "",16⟩,⟨"Points",3,5,false, "", "",72⟩]⟩) by kernel_rfl) (by kernel_rfl) (.pr op9 rfl rfl rfl (.pr Jrs rfl rfl rfl (.last op3 rfl rfl rfl)))
theorem Jsa:Jy Tryz.prog 98 (.sl Vb):=U4 (show Tryz.prog.underlying 98=some (.slice 182) by kernel_rfl) (by kernel_rfl) Jrt (by decide)
theorem Jru:Jy Tryz.prog 100 J6:=U5 (show Tryz.prog.underlying 100=some (.struct ⟨[⟨"Name",9,0,false, "", "",0⟩,⟨"From",3,1,false, "", "",16⟩,⟨"Split",4,2,false, "", "",24⟩,⟨"Zones",95,3,false, "", "",32⟩,⟨"Bands",96,4,false, "", "",56⟩,⟨"Rates",97,5,false, "", "",80⟩,⟨"Discounts",98,6,false, "", "",104⟩]⟩) by kernel_rfl) (by kernel_rfl) (.pr op9 rfl rfl rfl (.pr op3 rfl rfl rfl (.pr op4 rfl rfl rfl (.pr Jr7 rfl rfl rfl (.pr Jr8 rfl rfl rfl (.pr Jr9 rfl rfl rfl (.last Jsa rfl rfl rfl)))))))
theorem Jsb:Jy Tryz.prog 23 (.sl J6):=U4 (show Tryz.prog.underlying 23=some (.slice 100) by kernel_rfl) (by kernel_rfl) Jru (by decide)
theorem Jrv:Jy Tryz.prog 110 K5:=U5 (show Tryz.prog.underlying 110=some (.struct ⟨[⟨"Kind",3,0,false, "", "",0⟩,⟨"Zones",64,1,false, "", "",8⟩,⟨"Units",3,2,false, "", "",32⟩,⟨"Rollover",3,3,false, "", "",40⟩,⟨"Priority",3,4,false, "", "",48⟩,⟨"Shared",4,5,false, "", "",56⟩]⟩) by kernel_rfl) (by kernel_rfl) (.pr op3 rfl rfl rfl (.pr Jrl rfl rfl rfl (.pr op3 rfl rfl rfl (.pr op3 rfl rfl rfl (.pr op3 rfl rfl rfl (.last op4 rfl rfl rfl))))))
theorem Jrw:Jy Tryz.prog 106 (.sl K5):=U4 (show Tryz.prog.underlying 106=some (.slice 110) by kernel_rfl) (by kernel_rfl) Jrv (by decide)
theorem Jrx:Jy Tryz.prog 108 Yo:=U5 (show Tryz.prog.underlying 108=some (.struct ⟨[⟨"Name",9,0,false, "", "",0⟩,⟨"From",3,1,false, "", "",16⟩,⟨"Fee",3,2,false, "", "",24⟩,⟨"Category",9,3,false, "", "",32⟩,⟨"Prorate",4,4,false, "", "",48⟩,⟨"Bundles",106,5,false, "", "",56⟩]⟩) by kernel_rfl) (by kernel_rfl) (.pr op9 rfl rfl rfl (.pr op3 rfl rfl rfl (.pr op3 rfl rfl rfl (.pr op9 rfl rfl rfl (.pr op4 rfl rfl rfl (.last Jrw rfl rfl rfl))))))
theorem Jsc:Jy Tryz.prog 24 (.sl Yo):=U4 (show Tryz.prog.underlying 24=some (.slice 108) by kernel_rfl) (by kernel_rfl) Jrx (by decide)
theorem Jry:Jy Tryz.prog 209 Db:=U5 (show Tryz.prog.underlying 209=some (.struct ⟨[⟨"Category",9,0,false, "", "",0⟩,⟨"From",3,1,false, "", "",16⟩,⟨"Points",3,2,false, "", "",24⟩]⟩) by kernel_rfl) (by kernel_rfl) (.pr op9 rfl rfl rfl (.pr op3 rfl rfl rfl (.last op3 rfl rfl rfl)))
theorem Jsd:Jy Tryz.prog 25 (.sl Db):=U4 (show Tryz.prog.underlying 25=some (.slice 209) by kernel_rfl) (by kernel_rfl) Jry (by decide)
theorem Jse:Jy Tryz.prog 26 (.sl (.int .i64)):=U4 (show Tryz.prog.underlying 26=some (.slice 3) by kernel_rfl) (by kernel_rfl) op3 (by decide)
theorem Jsf:Jy Tryz.prog 66 Q8:=U5 (show Tryz.prog.underlying 66=some (.struct ⟨[⟨"From",3,0,false, "", "",0⟩,⟨"To",3,1,false, "", "",8⟩]⟩) by kernel_rfl) (by kernel_rfl) (.pr op3 rfl rfl rfl (.last op3 rfl rfl rfl))
theorem Jrz:Jy Tryz.prog 113 V3:=U5 (show Tryz.prog.underlying 113=some (.struct ⟨[⟨"Partner",3,0,false, "", "",0⟩,⟨"Kind",3,1,false, "", "",8⟩,⟨"Inbound",4,2,false, "", "",16⟩,⟨"Valid",66,3,false, "", "",24⟩,⟨"Steps",111,5,false, "", "",40⟩,⟨"Cap",3,6,false, "", "",64⟩]⟩) by kernel_rfl) (by kernel_rfl) (.pr op3 rfl rfl rfl (.pr op3 rfl rfl rfl (.pr op4 rfl rfl rfl (.pr Jsf rfl rfl rfl (.pr Jou rfl rfl rfl (.last op3 rfl rfl rfl))))))
theorem Jsg:Jy Tryz.prog 27 (.sl V3):=U4 (show Tryz.prog.underlying 27=some (.slice 113) by kernel_rfl) (by kernel_rfl) Jrz (by decide)
theorem Jsh:Jy Tryz.prog 29 Vw:=U5 (show Tryz.prog.underlying 29=some (.struct ⟨[⟨"Events",22,0,false, "", "",0⟩,⟨"Tariffs",23,1,false, "", "",24⟩,⟨"Products",24,2,false, "", "",48⟩,⟨"Taxes",25,3,false, "", "",72⟩,⟨"Holidays",26,4,false, "", "",96⟩,⟨"Agreements",27,5,false, "", "",120⟩]⟩) by kernel_rfl) (by kernel_rfl) (.pr Jr6 rfl rfl rfl (.pr Jsb rfl rfl rfl (.pr Jsc rfl rfl rfl (.pr Jsd rfl rfl rfl (.pr Jse rfl rfl rfl (.last Jsg rfl rfl rfl))))))
theorem Jsi:Jy Tryz.prog 40 J0:=U5 (show Tryz.prog.underlying 40=some (.struct ⟨[⟨"Id",3,0,false, "", "",0⟩,⟨"Kind",3,1,false, "", "",8⟩,⟨"Account",3,2,false, "", "",16⟩,⟨"Sub",3,3,false, "", "",24⟩,⟨"A",9,4,false, "", "",32⟩,⟨"B",9,5,false, "", "",48⟩,⟨"Start",3,6,false, "", "",64⟩,⟨"Units",3,7,false, "", "",72⟩,⟨"Trunk",3,8,false, "", "",80⟩,⟨"Inbound",4,9,false, "", "",88⟩,⟨"Source",3,10,false, "", "",96⟩,⟨"Serial",3,11,false, "", "",104⟩]⟩) by kernel_rfl) (by kernel_rfl) (.pr op3 rfl rfl rfl (.pr op3 rfl rfl rfl (.pr op3 rfl rfl rfl (.pr op3 rfl rfl rfl (.pr op9 rfl rfl rfl (.pr op9 rfl rfl rfl (.pr op3 rfl rfl rfl (.pr op3 rfl rfl rfl (.pr op3 rfl rfl rfl (.pr op4 rfl rfl rfl (.pr op3 rfl rfl rfl (.last op3 rfl rfl rfl))))))))))))
theorem Jsj:Jy Tryz.prog 30 (.sl J0):=U4 (show Tryz.prog.underlying 30=some (.slice 40) by kernel_rfl) (by kernel_rfl) Jsi (by decide)
end Gx
namespace Go.Proofs.YtjjpjagokgfbdaaGreat
open Go Gd Gx Go.ChangeShapes Go.WideShapes Go.ChangeAt Go.RowKit
set_option linter.unusedVariables false
set_option maxRecDepth 100000 in
/-- What the walk and the plain law give. -/
theorem Qei(os:Os)(started:os.Started)(H:Type)(enc:TypeId×Value→H) :
  ReturnsInHanded {} Tryz.checked os 8 .any (Rows.historyAnyhowSpec.pre6 enc Tryz.prog Tryz.f8 Rows.historyAnyhowRow.domain false) (Rows.historyAnyhowSpec.post enc Tryz.prog Tryz.f8 false true false false):=by
 refine returnsInHanded_of_change (C:=Tryz.checked) (by kernel_rfl) started (by kernel_rfl) Tryz.func8
  (ChangeSpec.witness6 (enc:=enc) (C:=Tryz.checked) false ⟨#[],#[.agg #[.slice none 0 0,.slice none 0 0,.slice none 0 0,.slice none 0 0,.slice none 0 0,.slice none 0 0],.slice none 0 0,.int .i64 0],[]⟩ 8 (by kernel_rfl) (by kernel_rfl) (by kernel_rfl) (by kernel_rfl)) ?_
 intro W base args ds gs before hval0 hW hcnd _
 have hval:∀(j:Nat) t v,Tryz.f8.params[j]?=some t→args[j]?=some v→Value.okWide Tryz.prog W .any base t v:=hval0
 obtain⟨v0,v1,v2,x0,x1,x2,hargs,hv0,g0,hv1,g1,hv2,g2⟩:=Jqe (show Tryz.f8.params=#[29,30,3] by kernel_rfl) hval hW Jsh Jsj op3
 obtain⟨N,hF⟩:=Qjp x0 g0 x1 g1 x2 g2
 subst hargs
 exact Je5 (tb:=4) (by kernel_rfl) (show Tryz.prog.underlying 4=some .bool by kernel_rfl) rfl (by kernel_rfl) (by kernel_rfl) (fun d hd=>(match d,hd with
   | [d0,d1,d2],_=>rfl)) hW
  (Jb9 (c:=(Xw N).1) ((Xw N).2.1 (lt W) W [] (fun _=>0) (fun _=>undef) (x0,x1,x2) true [v0,v1,v2] (fun _ _ h=>h) (fun q hq=>by cases hq) rfl Jb8 (Jq1 hv0 hv1 hv2) hF) rfl)

theorem Fc{a b:Bool}(ha:a=true)(hb:b=true):(a&&b)=true:=by rw[ha,hb]; rfl
theorem jf0:(Rows.historyAnyhowRow.wf (OpenSpec.ofChange Rows.historyAnyhowSpec))=true:=by kernel_rfl
theorem jf1:(laidOutB Tryz.prog)=true:=by kernel_rfl
theorem jf2:(mapsRowed Tryz.prog)=true:=by kernel_rfl
theorem jf3:(Tryz.f8.params.all (Tryz.prog.readableRec ·))=true:=by kernel_rfl
theorem jf4:(namedTie Tryz.prog Rows.historyAnyhowRow.named Rows.historyAnyhowSpec.vars)=true:=by kernel_rfl
theorem jf5:((Rows.historyAnyhowRow.stops==[]))=true:=by kernel_rfl
theorem jf6:((Tryz.prog.stops==[]))=true:=by kernel_rfl
theorem jf7:((Rows.historyAnyhowRow.knobs==[]))=true:=by kernel_rfl
theorem jf8:((Tryz.prog.stopKnobs==[]))=true:=by kernel_rfl
theorem jf9:((Rows.historyAnyhowRow.inPlace==Tryz.prog.inPlace 8))=true:=by kernel_rfl
theorem Jsk:((Rows.historyAnyhowRow.unfollowed==Tryz.prog.unfollowed 8))=true:=by kernel_rfl
theorem Jsl:((Rows.historyAnyhowRow.recurses==Tryz.prog.recurses 8))=true:=by kernel_rfl
theorem Jsm:((Rows.historyAnyhowRow.named==Tryz.prog.varsNamed 8))=true:=by kernel_rfl
theorem Jsn:((Rows.historyAnyhowRow.maps==(Tryz.f8.params.toList++Rows.historyAnyhowSpec.plain.varTypes Tryz.prog).any (Tryz.prog.mapsRec ·)))=true:=by kernel_rfl
theorem Jso:((Rows.historyAnyhowRow.ifaces==(Tryz.f8.params.toList++Rows.historyAnyhowSpec.plain.varTypes Tryz.prog).any (Tryz.prog.ifacesRec ·)))=true:=by kernel_rfl
theorem Jsp:((Rows.historyAnyhowRow.mapsOut==Tryz.prog.mapsAmong Tryz.f8.resultTypes.toList))=true:=by kernel_rfl
theorem Jsq:((Rows.historyAnyhowRow.loops==(Tryz.f8.params.toList++Rows.historyAnyhowSpec.plain.varTypes Tryz.prog).any (Tryz.prog.loopsFrom ·)))=true:=by kernel_rfl
theorem Jsr:((Rows.historyAnyhowRow.wideKeys==(Tryz.f8.params.toList++Rows.historyAnyhowSpec.plain.varTypes Tryz.prog++Tryz.f8.resultTypes.toList).any (Tryz.prog.wideKeysFrom ·)))=true:=by kernel_rfl
theorem Jss:(Rows.historyAnyhowSpec.vars.all (Tryz.prog.varReadable ·))=true:=by kernel_rfl
theorem Jst:(Tryz.f8.resultTypes.all (fun t=>Tryz.prog.readableRec t&&decide (t<Tryz.prog.types.size)))=true:=by kernel_rfl
theorem Jsu:((Rows.historyAnyhowRow.ifacesOut==Tryz.f8.resultTypes.toList.any (Tryz.prog.ifacesRec ·)))=true:=by kernel_rfl
theorem Jsv:((Rows.historyAnyhowRow.loopsOut==Tryz.f8.resultTypes.toList.any (Tryz.prog.loopsFrom ·)))=true:=by kernel_rfl
theorem Jsw:((Rows.historyAnyhowRow.plainKeys==Tryz.prog.plainKeys))=true:=by kernel_rfl
theorem Jsx:(Rows.historyAnyhowRow.shortTexts.isNone)=true:=by kernel_rfl
theorem Jsy:(Tryz.prog.stopsHeard)=true:=by kernel_rfl
theorem Jsz:(Tryz.prog.mayEnter)=true:=by kernel_rfl
theorem Js0:((Rows.historyAnyhowRow.lifted==Tryz.prog.liftsFinal))=true:=by kernel_rfl
theorem Js1:((Tryz.prog.make==some Rows.historyAnyhowRow.make))=true:=by kernel_rfl
theorem Js2:((Rows.historyAnyhowRow.kinds==(if Rows.historyAnyhowRow.domain.isEmpty then []else Tryz.f8.params.toList.map fun t=>match Tryz.prog.underlying t with | some (.int k)=>some k | _=>none)))=true:=by kernel_rfl
theorem Js3:((Rows.historyAnyhowRow.pinned==Rows.historyAnyhowRow.pinnedBy))=true:=by kernel_rfl
theorem Js4:((Rows.historyAnyhowRow.veiled==(Tryz.f8.params.toList++Rows.historyAnyhowSpec.plain.varTypes Tryz.prog++Tryz.f8.resultTypes.toList).any (Tryz.prog.veiledRec ·)))=true:=by kernel_rfl
theorem Js5:(Rows.historyAnyhowRow.veiledFits Tryz.prog Tryz.f8.params.toList (Tryz.f8.params.toList++Rows.historyAnyhowSpec.plain.varTypes Tryz.prog++Tryz.f8.resultTypes.toList))=true:=by kernel_rfl
set_option maxRecDepth 100000 in
theorem Jr0:joinedFacts Tryz.prog 8 Tryz.f8 Rows.historyAnyhowSpec Rows.historyAnyhowRow=true:=(Fc (Fc (Fc (Fc (Fc (Fc (Fc (Fc (Fc (Fc (Fc (Fc (Fc (Fc (Fc (Fc (Fc (Fc (Fc (Fc (Fc (Fc (Fc (Fc (Fc (Fc (Fc (Fc (Fc (Fc (Fc jf0 jf1) jf2) jf3) jf4) jf5) jf6) jf7) jf8) jf9) Jsk) Jsl) Jsm) Jsn) Jso) Jsp) Jsq) Jsr) Jss) Jst) Jsu) Jsv) Jsw) Jsx) Jsy) Jsz) Js0) Js1) Js2) Js3) Js4) Js5)
/-- The statement HistoryAnyhow. -/
theorem historyAnyhow_proved:Rows.HistoryAnyhowSaid :=
 OpenClaim.holds_of_wide 8 Tryz.f8 rfl rfl rfl rfl rfl rfl rfl ⟨rfl,rfl,rfl,rfl,rfl⟩ rfl rfl rfl rfl rfl (by kernel_rfl) Tryz.func8 Jr0
  (of_decide_eq_true (by kernel_rfl)) (by unfold Func.isWrapper; first | (rw[if_pos (by decide +kernel)]; kernel_rfl) | (rw[if_neg (by decide +kernel)]; exact⟨rfl,rfl⟩))
  (fun os started H enc _=>Qei os started H enc)
end Go.Proofs.YtjjpjagokgfbdaaGreat
