/- HistoryResume: proved for every input. The plain law, the walk of the law, and the statement. Conditions: none. -/
import Derived.Test.YtjjpjagokgfbdaaGreatRows
import Derived.Test.YtjjpjagokgfbdaaGreatXRuns
import Derived.Test.YtjjpjagokgfbdaaGreatXPlainHistoryResume
import Derived.Test.YtjjpjagokgfbdaaGreatXRn
import Derived.WalkKit
import Derived.ProofKit
import Derived.OpenShut
namespace Gx
open Go Gd Go.Proofs Go.Proofs.YtjjpjagokgfbdaaGreat Go.RowKit Go.WideShapes Go.ChangeShapes
set_option linter.unusedVariables false
theorem op3:Jz Tryz.prog 3 (.int .i64):=Jcb (show Tryz.prog.underlying 3=some (.int .i64) by kernel_rfl) (by kernel_rfl)
theorem op9:Jz Tryz.prog 9 .str:=Jcc (show Tryz.prog.underlying 9=some (.string) by kernel_rfl) (by kernel_rfl)
theorem Jrn:Jz Tryz.prog 144 Jw:=U6 (show Tryz.prog.underlying 144=some (.struct ⟨[⟨"At",3,0,false, "", "",0⟩,⟨"Kind",3,1,false, "", "",8⟩,⟨"Account",3,2,false, "", "",16⟩,⟨"Sub",3,3,false, "", "",24⟩,⟨"Number",9,4,false, "", "",32⟩,⟨"Name",9,5,false, "", "",48⟩,⟨"Value",3,6,false, "", "",64⟩]⟩) by kernel_rfl) (by kernel_rfl) (.pr op3 rfl rfl rfl (.pr op3 rfl rfl rfl (.pr op3 rfl rfl rfl (.pr op3 rfl rfl rfl (.pr op9 rfl rfl rfl (.pr op9 rfl rfl rfl (.last op3 rfl rfl rfl)))))))
theorem Jr9:Jz Tryz.prog 22 (.sl Jw):=U5 (show Tryz.prog.underlying 22=some (.slice 144) by kernel_rfl) (by kernel_rfl) Jrn (by decide)
theorem op4:Jz Tryz.prog 4 .bool:=Q6g (show Tryz.prog.underlying 4=some (.bool) by kernel_rfl) (by kernel_rfl)
theorem Jro:Jz Tryz.prog 64 (.sl .str):=U5 (show Tryz.prog.underlying 64=some (.slice 9) by kernel_rfl) (by kernel_rfl) op9 (by decide)
theorem Jrp:Jz Tryz.prog 135 V9:=U6 (show Tryz.prog.underlying 135=some (.struct ⟨[⟨"Name",9,0,false, "", "",0⟩,⟨"Prefixes",64,1,false, "", "",16⟩]⟩) by kernel_rfl) (by kernel_rfl) (.pr op9 rfl rfl rfl (.last Jro rfl rfl rfl))
theorem Jsa:Jz Tryz.prog 95 (.sl V9):=U5 (show Tryz.prog.underlying 95=some (.slice 135) by kernel_rfl) (by kernel_rfl) Jrp (by decide)
theorem Jrq:Jz Tryz.prog 319 Kp:=U6 (show Tryz.prog.underlying 319=some (.struct ⟨[⟨"Days",3,0,false, "", "",0⟩,⟨"From",3,1,false, "", "",8⟩,⟨"To",3,2,false, "", "",16⟩]⟩) by kernel_rfl) (by kernel_rfl) (.pr op3 rfl rfl rfl (.pr op3 rfl rfl rfl (.last op3 rfl rfl rfl)))
theorem Jrr:Jz Tryz.prog 136 (.sl Kp):=U5 (show Tryz.prog.underlying 136=some (.slice 319) by kernel_rfl) (by kernel_rfl) Jrq (by decide)
theorem Jrs:Jz Tryz.prog 138 Vw:=U6 (show Tryz.prog.underlying 138=some (.struct ⟨[⟨"Name",9,0,false, "", "",0⟩,⟨"Slots",136,1,false, "", "",16⟩]⟩) by kernel_rfl) (by kernel_rfl) (.pr op9 rfl rfl rfl (.last Jrr rfl rfl rfl))
theorem Jsb:Jz Tryz.prog 96 (.sl Vw):=U5 (show Tryz.prog.underlying 96=some (.slice 138) by kernel_rfl) (by kernel_rfl) Jrs (by decide)
theorem Jrt:Jz Tryz.prog 140 G2:=U6 (show Tryz.prog.underlying 140=some (.struct ⟨[⟨"Upto",3,0,false, "", "",0⟩,⟨"Quantum",3,1,false, "", "",8⟩,⟨"Price",3,2,false, "", "",16⟩]⟩) by kernel_rfl) (by kernel_rfl) (.pr op3 rfl rfl rfl (.pr op3 rfl rfl rfl (.last op3 rfl rfl rfl)))
theorem Joy:Jz Tryz.prog 111 (.sl G2):=U5 (show Tryz.prog.underlying 111=some (.slice 140) by kernel_rfl) (by kernel_rfl) Jrt (by decide)
theorem Jru:Jz Tryz.prog 142 G3:=U6 (show Tryz.prog.underlying 142=some (.struct ⟨[⟨"Kind",3,0,false, "", "",0⟩,⟨"Zone",9,1,false, "", "",8⟩,⟨"Band",9,2,false, "", "",24⟩,⟨"Setup",3,3,false, "", "",40⟩,⟨"Steps",111,4,false, "", "",48⟩]⟩) by kernel_rfl) (by kernel_rfl) (.pr op3 rfl rfl rfl (.pr op9 rfl rfl rfl (.pr op9 rfl rfl rfl (.pr op3 rfl rfl rfl (.last Joy rfl rfl rfl)))))
theorem Jsc:Jz Tryz.prog 97 (.sl G3):=U5 (show Tryz.prog.underlying 97=some (.slice 142) by kernel_rfl) (by kernel_rfl) Jru (by decide)
theorem Jrv:Jz Tryz.prog 180 Kq:=Q6i (show Tryz.prog.underlying 180=some (.struct ⟨[⟨"Op",3,0,false, "", "",0⟩,⟨"Num",3,1,false, "", "",8⟩,⟨"Text",9,2,false, "", "",16⟩,⟨"Args",178,3,false, "", "",32⟩]⟩) by kernel_rfl) rfl (by kernel_rfl) op3 op3 op9 (show Tryz.prog.underlying 178=some (.slice 180) by kernel_rfl) (by kernel_rfl) rfl rfl rfl ⟨rfl,rfl⟩ ⟨rfl,rfl⟩ ⟨rfl,rfl⟩ ⟨rfl,rfl⟩
theorem Jrw:Jz Tryz.prog 182 Vd:=U6 (show Tryz.prog.underlying 182=some (.struct ⟨[⟨"Name",9,0,false, "", "",0⟩,⟨"When",180,1,false, "", "",16⟩,⟨"Points",3,5,false, "", "",72⟩]⟩) by kernel_rfl) (by kernel_rfl) (.pr op9 rfl rfl rfl (.pr Jrv rfl rfl rfl (.last op3 rfl rfl rfl)))
theorem Jsd:Jz Tryz.prog 98 (.sl Vd):=U5 (show Tryz.prog.underlying 98=some (.slice 182) by kernel_rfl) (by kernel_rfl) Jrw (by decide)
theorem Jrx:Jz Tryz.prog 100 J7:=U6 (show Tryz.prog.underlying 100=some (.struct ⟨[⟨"Name",9,0,false, "", "",0⟩,⟨"From",3,1,false, "", "",16⟩,⟨"Split",4,2,false, "", "",24⟩,⟨"Zones",95,3,false, "", "",32⟩,⟨"Bands",96,4,false, "", "",56⟩,⟨"Rates",97,5,false, "", "",80⟩,⟨"Discounts",98,6,false, "", "",104⟩]⟩) by kernel_rfl) (by kernel_rfl) (.pr op9 rfl rfl rfl (.pr op3 rfl rfl rfl (.pr op4 rfl rfl rfl (.pr Jsa rfl rfl rfl (.pr Jsb rfl rfl rfl (.pr Jsc rfl rfl rfl (.last Jsd rfl rfl rfl)))))))
theorem Jse:Jz Tryz.prog 23 (.sl J7):=U5 (show Tryz.prog.underlying 23=some (.slice 100) by kernel_rfl) (by kernel_rfl) Jrx (by decide)
theorem Jry:Jz Tryz.prog 110 K8:=U6 (show Tryz.prog.underlying 110=some (.struct ⟨[⟨"Kind",3,0,false, "", "",0⟩,⟨"Zones",64,1,false, "", "",8⟩,⟨"Units",3,2,false, "", "",32⟩,⟨"Rollover",3,3,false, "", "",40⟩,⟨"Priority",3,4,false, "", "",48⟩,⟨"Shared",4,5,false, "", "",56⟩]⟩) by kernel_rfl) (by kernel_rfl) (.pr op3 rfl rfl rfl (.pr Jro rfl rfl rfl (.pr op3 rfl rfl rfl (.pr op3 rfl rfl rfl (.pr op3 rfl rfl rfl (.last op4 rfl rfl rfl))))))
theorem Jrz:Jz Tryz.prog 106 (.sl K8):=U5 (show Tryz.prog.underlying 106=some (.slice 110) by kernel_rfl) (by kernel_rfl) Jry (by decide)
theorem Jr0:Jz Tryz.prog 108 Yp:=U6 (show Tryz.prog.underlying 108=some (.struct ⟨[⟨"Name",9,0,false, "", "",0⟩,⟨"From",3,1,false, "", "",16⟩,⟨"Fee",3,2,false, "", "",24⟩,⟨"Category",9,3,false, "", "",32⟩,⟨"Prorate",4,4,false, "", "",48⟩,⟨"Bundles",106,5,false, "", "",56⟩]⟩) by kernel_rfl) (by kernel_rfl) (.pr op9 rfl rfl rfl (.pr op3 rfl rfl rfl (.pr op3 rfl rfl rfl (.pr op9 rfl rfl rfl (.pr op4 rfl rfl rfl (.last Jrz rfl rfl rfl))))))
theorem Jsf:Jz Tryz.prog 24 (.sl Yp):=U5 (show Tryz.prog.underlying 24=some (.slice 108) by kernel_rfl) (by kernel_rfl) Jr0 (by decide)
theorem Jr1:Jz Tryz.prog 209 Dc:=U6 (show Tryz.prog.underlying 209=some (.struct ⟨[⟨"Category",9,0,false, "", "",0⟩,⟨"From",3,1,false, "", "",16⟩,⟨"Points",3,2,false, "", "",24⟩]⟩) by kernel_rfl) (by kernel_rfl) (.pr op9 rfl rfl rfl (.pr op3 rfl rfl rfl (.last op3 rfl rfl rfl)))
theorem Jsg:Jz Tryz.prog 25 (.sl Dc):=U5 (show Tryz.prog.underlying 25=some (.slice 209) by kernel_rfl) (by kernel_rfl) Jr1 (by decide)
theorem Jsh:Jz Tryz.prog 26 (.sl (.int .i64)):=U5 (show Tryz.prog.underlying 26=some (.slice 3) by kernel_rfl) (by kernel_rfl) op3 (by decide)
theorem Jsi:Jz Tryz.prog 66 Q9:=U6 (show Tryz.prog.underlying 66=some (.struct ⟨[⟨"From",3,0,false, "", "",0⟩,⟨"To",3,1,false, "", "",8⟩]⟩) by kernel_rfl) (by kernel_rfl) (.pr op3 rfl rfl rfl (.last op3 rfl rfl rfl))
theorem Jr2:Jz Tryz.prog 113 V4:=U6 (show Tryz.prog.underlying 113=some (.struct ⟨[⟨"Partner",3,0,false, "", "",0⟩,⟨"Kind",3,1,false, "", "",8⟩,⟨"Inbound",4,2,false, "", "",16⟩,⟨"Valid",66,3,false, "", "",24⟩,⟨"Steps",111,5,false, "", "",40⟩,⟨"Cap",3,6,false, "", "",64⟩]⟩) by kernel_rfl) (by kernel_rfl) (.pr op3 rfl rfl rfl (.pr op3 rfl rfl rfl (.pr op4 rfl rfl rfl (.pr Jsi rfl rfl rfl (.pr Joy rfl rfl rfl (.last op3 rfl rfl rfl))))))
theorem Jsj:Jz Tryz.prog 27 (.sl V4):=U5 (show Tryz.prog.underlying 27=some (.slice 113) by kernel_rfl) (by kernel_rfl) Jr2 (by decide)
theorem Jsk:Jz Tryz.prog 29 Vx:=U6 (show Tryz.prog.underlying 29=some (.struct ⟨[⟨"Events",22,0,false, "", "",0⟩,⟨"Tariffs",23,1,false, "", "",24⟩,⟨"Products",24,2,false, "", "",48⟩,⟨"Taxes",25,3,false, "", "",72⟩,⟨"Holidays",26,4,false, "", "",96⟩,⟨"Agreements",27,5,false, "", "",120⟩]⟩) by kernel_rfl) (by kernel_rfl) (.pr Jr9 rfl rfl rfl (.pr Jse rfl rfl rfl (.pr Jsf rfl rfl rfl (.pr Jsg rfl rfl rfl (.pr Jsh rfl rfl rfl (.last Jsj rfl rfl rfl))))))
theorem Jsl:Jz Tryz.prog 40 J2:=U6 (show Tryz.prog.underlying 40=some (.struct ⟨[⟨"Id",3,0,false, "", "",0⟩,⟨"Kind",3,1,false, "", "",8⟩,⟨"Account",3,2,false, "", "",16⟩,⟨"Sub",3,3,false, "", "",24⟩,⟨"A",9,4,false, "", "",32⟩,⟨"B",9,5,false, "", "",48⟩,⟨"Start",3,6,false, "", "",64⟩,⟨"Units",3,7,false, "", "",72⟩,⟨"Trunk",3,8,false, "", "",80⟩,⟨"Inbound",4,9,false, "", "",88⟩,⟨"Source",3,10,false, "", "",96⟩,⟨"Serial",3,11,false, "", "",104⟩]⟩) by kernel_rfl) (by kernel_rfl) (.pr op3 rfl rfl rfl (.pr op3 rfl rfl rfl (.pr op3 rfl rfl rfl (.pr op3 rfl rfl rfl (.pr op9 rfl rfl rfl (.pr op9 rfl rfl rfl (.pr op3 rfl rfl rfl (.pr op3 rfl rfl rfl (.pr op3 rfl rfl rfl (.pr op4 rfl rfl rfl (.pr op3 rfl rfl rfl (.last op3 rfl rfl rfl))))))))))))
theorem Jsm:Jz Tryz.prog 30 (.sl J2):=U5 (show Tryz.prog.underlying 30=some (.slice 40) by kernel_rfl) (by kernel_rfl) Jsl (by decide)
end Gx
namespace Go.Proofs.YtjjpjagokgfbdaaGreat
open Go Gd Gx Go.ChangeShapes Go.WideShapes Go.ChangeAt Go.RowKit
set_option linter.unusedVariables false
set_option maxRecDepth 100000 in
/-- What the walk and the plain law give. -/
theorem Qem(os:Os)(started:os.Started)(H:Type)(enc:TypeId×Value→H) :
  ReturnsInHanded {} Tryz.checked os 7 .any (Rows.historyResumeSpec.pre6 enc Tryz.prog Tryz.f7 Rows.historyResumeRow.domain false) (Rows.historyResumeSpec.post enc Tryz.prog Tryz.f7 false true false false):=by
 refine returnsInHanded_of_change (C:=Tryz.checked) (by kernel_rfl) started (by kernel_rfl) Tryz.func7
  (ChangeSpec.witness6 (enc:=enc) (C:=Tryz.checked) false ⟨#[],#[.agg #[.slice none 0 0,.slice none 0 0,.slice none 0 0,.slice none 0 0,.slice none 0 0,.slice none 0 0],.slice none 0 0,.int .i64 0],[]⟩ 8 (by kernel_rfl) (by kernel_rfl) (by kernel_rfl) (by kernel_rfl)) ?_
 intro W base args ds gs before hval0 hW hcnd _
 have ym:∀(j:Nat) t v,Tryz.f7.params[j]?=some t→args[j]?=some v→Value.okWide Tryz.prog W .any base t v:=hval0
 obtain⟨v0,v1,v2,x0,x1,x2,zx,xq,g0,my,g1,ux,g2⟩:=Jqh (show Tryz.f7.params=#[29,30,3] by kernel_rfl) ym hW Jsk Jsm op3
 obtain⟨N,hF⟩:=Qjv x0 g0 x1 g1 x2 g2
 subst zx
 exact Jfb (tb:=4) (by kernel_rfl) (show Tryz.prog.underlying 4=some .bool by kernel_rfl) rfl (by kernel_rfl) (by kernel_rfl) (fun d hd=>(match d,hd with
   | [d0,d1,d2],_=>rfl)) hW
  (Jcf (c:=(Xz N).1) ((Xz N).2.1 (lt W) W [] (fun _=>0) (fun _=>undef) (x0,x1,x2) true [v0,v1,v2] (fun _ _ h=>h) (fun q hq=>by cases hq) rfl Jce (Jq4 xq my ux) hF) rfl)

theorem Ff{a b:Bool}(ha:a=true)(hb:b=true):(a&&b)=true:=by rw[ha,hb]; rfl
theorem jf0:(Rows.historyResumeRow.wf (OpenSpec.ofChange Rows.historyResumeSpec))=true:=by kernel_rfl
theorem jf1:(laidOutB Tryz.prog)=true:=by kernel_rfl
theorem jf2:(mapsRowed Tryz.prog)=true:=by kernel_rfl
theorem jf3:(Tryz.f7.params.all (Tryz.prog.readableRec ·))=true:=by kernel_rfl
theorem jf4:(namedTie Tryz.prog Rows.historyResumeRow.named Rows.historyResumeSpec.vars)=true:=by kernel_rfl
theorem jf5:((Rows.historyResumeRow.stops==[]))=true:=by kernel_rfl
theorem jf6:((Tryz.prog.stops==[]))=true:=by kernel_rfl
theorem jf7:((Rows.historyResumeRow.knobs==[]))=true:=by kernel_rfl
theorem jf8:((Tryz.prog.stopKnobs==[]))=true:=by kernel_rfl
theorem jf9:((Rows.historyResumeRow.inPlace==Tryz.prog.inPlace 7))=true:=by kernel_rfl
theorem Jsn:((Rows.historyResumeRow.unfollowed==Tryz.prog.unfollowed 7))=true:=by kernel_rfl
theorem Jso:((Rows.historyResumeRow.recurses==Tryz.prog.recurses 7))=true:=by kernel_rfl
theorem Jsp:((Rows.historyResumeRow.named==Tryz.prog.varsNamed 7))=true:=by kernel_rfl
theorem Jsq:((Rows.historyResumeRow.maps==(Tryz.f7.params.toList++Rows.historyResumeSpec.plain.varTypes Tryz.prog).any (Tryz.prog.mapsRec ·)))=true:=by kernel_rfl
theorem Jsr:((Rows.historyResumeRow.ifaces==(Tryz.f7.params.toList++Rows.historyResumeSpec.plain.varTypes Tryz.prog).any (Tryz.prog.ifacesRec ·)))=true:=by kernel_rfl
theorem Jss:((Rows.historyResumeRow.mapsOut==Tryz.prog.mapsAmong Tryz.f7.resultTypes.toList))=true:=by kernel_rfl
theorem Jst:((Rows.historyResumeRow.loops==(Tryz.f7.params.toList++Rows.historyResumeSpec.plain.varTypes Tryz.prog).any (Tryz.prog.loopsFrom ·)))=true:=by kernel_rfl
theorem Jsu:((Rows.historyResumeRow.wideKeys==(Tryz.f7.params.toList++Rows.historyResumeSpec.plain.varTypes Tryz.prog++Tryz.f7.resultTypes.toList).any (Tryz.prog.wideKeysFrom ·)))=true:=by kernel_rfl
theorem Jsv:(Rows.historyResumeSpec.vars.all (Tryz.prog.varReadable ·))=true:=by kernel_rfl
theorem Jsw:(Tryz.f7.resultTypes.all (fun t=>Tryz.prog.readableRec t&&decide (t<Tryz.prog.types.size)))=true:=by kernel_rfl
theorem Jsx:((Rows.historyResumeRow.ifacesOut==Tryz.f7.resultTypes.toList.any (Tryz.prog.ifacesRec ·)))=true:=by kernel_rfl
theorem Jsy:((Rows.historyResumeRow.loopsOut==Tryz.f7.resultTypes.toList.any (Tryz.prog.loopsFrom ·)))=true:=by kernel_rfl
theorem Jsz:((Rows.historyResumeRow.plainKeys==Tryz.prog.plainKeys))=true:=by kernel_rfl
theorem Js0:(Rows.historyResumeRow.shortTexts.isNone)=true:=by kernel_rfl
theorem Js1:(Tryz.prog.stopsHeard)=true:=by kernel_rfl
theorem Js2:(Tryz.prog.mayEnter)=true:=by kernel_rfl
theorem Js3:((Rows.historyResumeRow.lifted==Tryz.prog.liftsFinal))=true:=by kernel_rfl
theorem Js4:((Tryz.prog.make==some Rows.historyResumeRow.make))=true:=by kernel_rfl
theorem Js5:((Rows.historyResumeRow.kinds==(if Rows.historyResumeRow.domain.isEmpty then []else Tryz.f7.params.toList.map fun t=>match Tryz.prog.underlying t with | some (.int k)=>some k | _=>none)))=true:=by kernel_rfl
theorem Js6:((Rows.historyResumeRow.pinned==Rows.historyResumeRow.pinnedBy))=true:=by kernel_rfl
theorem Js7:((Rows.historyResumeRow.veiled==(Tryz.f7.params.toList++Rows.historyResumeSpec.plain.varTypes Tryz.prog++Tryz.f7.resultTypes.toList).any (Tryz.prog.veiledRec ·)))=true:=by kernel_rfl
theorem Js8:(Rows.historyResumeRow.veiledFits Tryz.prog Tryz.f7.params.toList (Tryz.f7.params.toList++Rows.historyResumeSpec.plain.varTypes Tryz.prog++Tryz.f7.resultTypes.toList))=true:=by kernel_rfl
set_option maxRecDepth 100000 in
theorem Jr3:joinedFacts Tryz.prog 7 Tryz.f7 Rows.historyResumeSpec Rows.historyResumeRow=true:=(Ff (Ff (Ff (Ff (Ff (Ff (Ff (Ff (Ff (Ff (Ff (Ff (Ff (Ff (Ff (Ff (Ff (Ff (Ff (Ff (Ff (Ff (Ff (Ff (Ff (Ff (Ff (Ff (Ff (Ff (Ff jf0 jf1) jf2) jf3) jf4) jf5) jf6) jf7) jf8) jf9) Jsn) Jso) Jsp) Jsq) Jsr) Jss) Jst) Jsu) Jsv) Jsw) Jsx) Jsy) Jsz) Js0) Js1) Js2) Js3) Js4) Js5) Js6) Js7) Js8)
/-- The statement HistoryResume. -/
theorem historyResume_proved:Rows.HistoryResumeSaid :=
 OpenClaim.holds_of_wide 7 Tryz.f7 rfl rfl rfl rfl rfl rfl rfl ⟨rfl,rfl,rfl,rfl,rfl⟩ rfl rfl rfl rfl rfl (by kernel_rfl) Tryz.func7 Jr3
  (of_decide_eq_true (by kernel_rfl)) (by unfold Func.isWrapper; first | (rw[if_pos (by decide +kernel)]; kernel_rfl) | (rw[if_neg (by decide +kernel)]; exact⟨rfl,rfl⟩))
  (fun os started H enc _=>Qem os started H enc)
end Go.Proofs.YtjjpjagokgfbdaaGreat
