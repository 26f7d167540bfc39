/- HistoryApart: proved for every input. The plain law, the walk of the law, and the statement. Conditions: none. -/
import Derived.Test.YtfkpgpibpnghiaaGreatRows
import Derived.Test.YtfkpgpibpnghiaaGreatXRuns
import Derived.Test.YtfkpgpibpnghiaaGreatXPlainHistoryApart
import Derived.Test.YtfkpgpibpnghiaaGreatXRl
import Derived.WalkKit
import Derived.ProofKit
import Derived.OpenShut
namespace Gx
open Go Gd Go.Proofs Go.Proofs.YtfkpgpibpnghiaaGreat Go.RowKit Go.WideShapes Go.ChangeShapes
set_option linter.unusedVariables false
theorem op3:J4 Tryz.prog 3 (.int .i64):=Jex (show Tryz.prog.underlying 3=some (.int .i64) by kernel_rfl) (by kernel_rfl)
theorem op9:J4 Tryz.prog 9 .str:=Jey (show Tryz.prog.underlying 9=some (.string) by kernel_rfl) (by kernel_rfl)
theorem Jvw:J4 Tryz.prog 104 Jy:=Z7 (show Tryz.prog.underlying 104=some (.struct ⟨[⟨"At",3,0,false, "", "",0⟩,⟨"Kind",3,1,false, "", "",8⟩,⟨"Account",3,2,false, "", "",16⟩,⟨"Sub",3,3,false, "", "",24⟩,⟨"Number",9,4,false, "", "",32⟩,⟨"Name",9,5,false, "", "",48⟩,⟨"Value",3,6,false, "", "",64⟩]⟩) by kernel_rfl) (by kernel_rfl) (.pr op3 rfl rfl rfl (.pr op3 rfl rfl rfl (.pr op3 rfl rfl rfl (.pr op3 rfl rfl rfl (.pr op9 rfl rfl rfl (.pr op9 rfl rfl rfl (.last op3 rfl rfl rfl)))))))
theorem Jwb:J4 Tryz.prog 22 (.sl Jy):=Z6 (show Tryz.prog.underlying 22=some (.slice 104) by kernel_rfl) (by kernel_rfl) Jvw (by decide)
theorem op4:J4 Tryz.prog 4 .bool:=Q8h (show Tryz.prog.underlying 4=some (.bool) by kernel_rfl) (by kernel_rfl)
theorem Jvx:J4 Tryz.prog 54 (.sl .str):=Z6 (show Tryz.prog.underlying 54=some (.slice 9) by kernel_rfl) (by kernel_rfl) op9 (by decide)
theorem Jwc:J4 Tryz.prog 95 Uz:=Z7 (show Tryz.prog.underlying 95=some (.struct ⟨[⟨"Name",9,0,false, "", "",0⟩,⟨"Prefixes",54,1,false, "", "",16⟩]⟩) by kernel_rfl) (by kernel_rfl) (.pr op9 rfl rfl rfl (.last Jvx rfl rfl rfl))
theorem Jwd:J4 Tryz.prog 71 (.sl Uz):=Z6 (show Tryz.prog.underlying 71=some (.slice 95) by kernel_rfl) (by kernel_rfl) Jwc (by decide)
theorem Jvy:J4 Tryz.prog 262 Xx:=Z7 (show Tryz.prog.underlying 262=some (.struct ⟨[⟨"Days",3,0,false, "", "",0⟩,⟨"From",3,1,false, "", "",8⟩,⟨"To",3,2,false, "", "",16⟩]⟩) by kernel_rfl) (by kernel_rfl) (.pr op3 rfl rfl rfl (.pr op3 rfl rfl rfl (.last op3 rfl rfl rfl)))
theorem Jwe:J4 Tryz.prog 96 (.sl Xx):=Z6 (show Tryz.prog.underlying 96=some (.slice 262) by kernel_rfl) (by kernel_rfl) Jvy (by decide)
theorem Jwf:J4 Tryz.prog 98 Uh:=Z7 (show Tryz.prog.underlying 98=some (.struct ⟨[⟨"Name",9,0,false, "", "",0⟩,⟨"Slots",96,1,false, "", "",16⟩]⟩) by kernel_rfl) (by kernel_rfl) (.pr op9 rfl rfl rfl (.last Jwe rfl rfl rfl))
theorem Jwg:J4 Tryz.prog 72 (.sl Uh):=Z6 (show Tryz.prog.underlying 72=some (.slice 98) by kernel_rfl) (by kernel_rfl) Jwf (by decide)
theorem Jvz:J4 Tryz.prog 100 H8:=Z7 (show Tryz.prog.underlying 100=some (.struct ⟨[⟨"Upto",3,0,false, "", "",0⟩,⟨"Quantum",3,1,false, "", "",8⟩,⟨"Price",3,2,false, "", "",16⟩]⟩) by kernel_rfl) (by kernel_rfl) (.pr op3 rfl rfl rfl (.pr op3 rfl rfl rfl (.last op3 rfl rfl rfl)))
theorem Jv0:J4 Tryz.prog 83 (.sl H8):=Z6 (show Tryz.prog.underlying 83=some (.slice 100) by kernel_rfl) (by kernel_rfl) Jvz (by decide)
theorem Jv1:J4 Tryz.prog 102 H9:=Z7 (show Tryz.prog.underlying 102=some (.struct ⟨[⟨"Kind",3,0,false, "", "",0⟩,⟨"Zone",9,1,false, "", "",8⟩,⟨"Band",9,2,false, "", "",24⟩,⟨"Setup",3,3,false, "", "",40⟩,⟨"Steps",83,4,false, "", "",48⟩]⟩) by kernel_rfl) (by kernel_rfl) (.pr op3 rfl rfl rfl (.pr op9 rfl rfl rfl (.pr op9 rfl rfl rfl (.pr op3 rfl rfl rfl (.last Jv0 rfl rfl rfl)))))
theorem Jwh:J4 Tryz.prog 73 (.sl H9):=Z6 (show Tryz.prog.underlying 73=some (.slice 102) by kernel_rfl) (by kernel_rfl) Jv1 (by decide)
theorem Jv2:J4 Tryz.prog 111 Xy:=Q8j (show Tryz.prog.underlying 111=some (.struct ⟨[⟨"Op",3,0,false, "", "",0⟩,⟨"Num",3,1,false, "", "",8⟩,⟨"Text",9,2,false, "", "",16⟩,⟨"Args",109,3,false, "", "",32⟩]⟩) by kernel_rfl) rfl (by kernel_rfl) op3 op3 op9 (show Tryz.prog.underlying 109=some (.slice 111) by kernel_rfl) (by kernel_rfl) rfl rfl rfl ⟨rfl,rfl⟩ ⟨rfl,rfl⟩ ⟨rfl,rfl⟩ ⟨rfl,rfl⟩
theorem Jv3:J4 Tryz.prog 113 Vo:=Z7 (show Tryz.prog.underlying 113=some (.struct ⟨[⟨"Name",9,0,false, "", "",0⟩,⟨"When",111,1,false, "", "",16⟩,⟨"Points",3,5,false, "", "",72⟩]⟩) by kernel_rfl) (by kernel_rfl) (.pr op9 rfl rfl rfl (.pr Jv2 rfl rfl rfl (.last op3 rfl rfl rfl)))
theorem Jwi:J4 Tryz.prog 74 (.sl Vo):=Z6 (show Tryz.prog.underlying 74=some (.slice 113) by kernel_rfl) (by kernel_rfl) Jv3 (by decide)
theorem Jwj:J4 Tryz.prog 76 Ye:=Z7 (show Tryz.prog.underlying 76=some (.struct ⟨[⟨"Name",9,0,false, "", "",0⟩,⟨"From",3,1,false, "", "",16⟩,⟨"Split",4,2,false, "", "",24⟩,⟨"Zones",71,3,false, "", "",32⟩,⟨"Bands",72,4,false, "", "",56⟩,⟨"Rates",73,5,false, "", "",80⟩,⟨"Discounts",74,6,false, "", "",104⟩]⟩) by kernel_rfl) (by kernel_rfl) (.pr op9 rfl rfl rfl (.pr op3 rfl rfl rfl (.pr op4 rfl rfl rfl (.pr Jwd rfl rfl rfl (.pr Jwg rfl rfl rfl (.pr Jwh rfl rfl rfl (.last Jwi rfl rfl rfl)))))))
theorem Jwk:J4 Tryz.prog 23 (.sl Ye):=Z6 (show Tryz.prog.underlying 23=some (.slice 76) by kernel_rfl) (by kernel_rfl) Jwj (by decide)
theorem Jwl:J4 Tryz.prog 82 Wk:=Z7 (show Tryz.prog.underlying 82=some (.struct ⟨[⟨"Kind",3,0,false, "", "",0⟩,⟨"Zones",54,1,false, "", "",8⟩,⟨"Units",3,2,false, "", "",32⟩,⟨"Rollover",3,3,false, "", "",40⟩,⟨"Priority",3,4,false, "", "",48⟩,⟨"Shared",4,5,false, "", "",56⟩]⟩) by kernel_rfl) (by kernel_rfl) (.pr op3 rfl rfl rfl (.pr Jvx rfl rfl rfl (.pr op3 rfl rfl rfl (.pr op3 rfl rfl rfl (.pr op3 rfl rfl rfl (.last op4 rfl rfl rfl))))))
theorem Jwm:J4 Tryz.prog 78 (.sl Wk):=Z6 (show Tryz.prog.underlying 78=some (.slice 82) by kernel_rfl) (by kernel_rfl) Jwl (by decide)
theorem Jwn:J4 Tryz.prog 80 Yv:=Z7 (show Tryz.prog.underlying 80=some (.struct ⟨[⟨"Name",9,0,false, "", "",0⟩,⟨"From",3,1,false, "", "",16⟩,⟨"Fee",3,2,false, "", "",24⟩,⟨"Category",9,3,false, "", "",32⟩,⟨"Prorate",4,4,false, "", "",48⟩,⟨"Bundles",78,5,false, "", "",56⟩]⟩) by kernel_rfl) (by kernel_rfl) (.pr op9 rfl rfl rfl (.pr op3 rfl rfl rfl (.pr op3 rfl rfl rfl (.pr op9 rfl rfl rfl (.pr op4 rfl rfl rfl (.last Jwm rfl rfl rfl))))))
theorem Jwo:J4 Tryz.prog 24 (.sl Yv):=Z6 (show Tryz.prog.underlying 24=some (.slice 80) by kernel_rfl) (by kernel_rfl) Jwn (by decide)
theorem Jv4:J4 Tryz.prog 128 I1:=Z7 (show Tryz.prog.underlying 128=some (.struct ⟨[⟨"Category",9,0,false, "", "",0⟩,⟨"From",3,1,false, "", "",16⟩,⟨"Points",3,2,false, "", "",24⟩]⟩) by kernel_rfl) (by kernel_rfl) (.pr op9 rfl rfl rfl (.pr op3 rfl rfl rfl (.last op3 rfl rfl rfl)))
theorem Jwp:J4 Tryz.prog 25 (.sl I1):=Z6 (show Tryz.prog.underlying 25=some (.slice 128) by kernel_rfl) (by kernel_rfl) Jv4 (by decide)
theorem Jwq:J4 Tryz.prog 26 (.sl (.int .i64)):=Z6 (show Tryz.prog.underlying 26=some (.slice 3) by kernel_rfl) (by kernel_rfl) op3 (by decide)
theorem Jwr:J4 Tryz.prog 56 Jf:=Z7 (show Tryz.prog.underlying 56=some (.struct ⟨[⟨"From",3,0,false, "", "",0⟩,⟨"To",3,1,false, "", "",8⟩]⟩) by kernel_rfl) (by kernel_rfl) (.pr op3 rfl rfl rfl (.last op3 rfl rfl rfl))
theorem Jws:J4 Tryz.prog 85 Ur:=Z7 (show Tryz.prog.underlying 85=some (.struct ⟨[⟨"Partner",3,0,false, "", "",0⟩,⟨"Kind",3,1,false, "", "",8⟩,⟨"Inbound",4,2,false, "", "",16⟩,⟨"Valid",56,3,false, "", "",24⟩,⟨"Steps",83,5,false, "", "",40⟩,⟨"Cap",3,6,false, "", "",64⟩]⟩) by kernel_rfl) (by kernel_rfl) (.pr op3 rfl rfl rfl (.pr op3 rfl rfl rfl (.pr op4 rfl rfl rfl (.pr Jwr rfl rfl rfl (.pr Jv0 rfl rfl rfl (.last op3 rfl rfl rfl))))))
theorem Jwt:J4 Tryz.prog 27 (.sl Ur):=Z6 (show Tryz.prog.underlying 27=some (.slice 85) by kernel_rfl) (by kernel_rfl) Jws (by decide)
theorem Jwu:J4 Tryz.prog 29 Ui:=Z7 (show Tryz.prog.underlying 29=some (.struct ⟨[⟨"Events",22,0,false, "", "",0⟩,⟨"Tariffs",23,1,false, "", "",24⟩,⟨"Products",24,2,false, "", "",48⟩,⟨"Taxes",25,3,false, "", "",72⟩,⟨"Holidays",26,4,false, "", "",96⟩,⟨"Agreements",27,5,false, "", "",120⟩]⟩) by kernel_rfl) (by kernel_rfl) (.pr Jwb rfl rfl rfl (.pr Jwk rfl rfl rfl (.pr Jwo rfl rfl rfl (.pr Jwp rfl rfl rfl (.pr Jwq rfl rfl rfl (.last Jwt rfl rfl rfl))))))
theorem Jwv:J4 Tryz.prog 34 J9:=Z7 (show Tryz.prog.underlying 34=some (.struct ⟨[⟨"Id",3,0,false, "", "",0⟩,⟨"Kind",3,1,false, "", "",8⟩,⟨"Account",3,2,false, "", "",16⟩,⟨"Sub",3,3,false, "", "",24⟩,⟨"A",9,4,false, "", "",32⟩,⟨"B",9,5,false, "", "",48⟩,⟨"Start",3,6,false, "", "",64⟩,⟨"Units",3,7,false, "", "",72⟩,⟨"Trunk",3,8,false, "", "",80⟩,⟨"Inbound",4,9,false, "", "",88⟩,⟨"Source",3,10,false, "", "",96⟩,⟨"Serial",3,11,false, "", "",104⟩]⟩) by kernel_rfl) (by kernel_rfl) (.pr op3 rfl rfl rfl (.pr op3 rfl rfl rfl (.pr op3 rfl rfl rfl (.pr op3 rfl rfl rfl (.pr op9 rfl rfl rfl (.pr op9 rfl rfl rfl (.pr op3 rfl rfl rfl (.pr op3 rfl rfl rfl (.pr op3 rfl rfl rfl (.pr op4 rfl rfl rfl (.pr op3 rfl rfl rfl (.last op3 rfl rfl rfl))))))))))))
theorem Jww:J4 Tryz.prog 30 (.sl J9):=Z6 (show Tryz.prog.underlying 30=some (.slice 34) by kernel_rfl) (by kernel_rfl) Jwv (by decide)
end Gx
namespace Go.Proofs.YtfkpgpibpnghiaaGreat
open Go Gd Gx Go.ChangeShapes Go.WideShapes Go.ChangeAt Go.RowKit
set_option linter.unusedVariables false
set_option maxRecDepth 100000 in
/-- What the walk and the plain law give. -/
theorem Qgp(os:Os)(started:os.Started)(H:Type)(enc:TypeId×Value→H) :
  ReturnsInHanded {} Tryz.checked os 3 .any (Rows.historyApartSpec.pre6 enc Tryz.prog Tryz.f3 Rows.historyApartRow.domain false) (Rows.historyApartSpec.post enc Tryz.prog Tryz.f3 false true false false):=by
 refine returnsInHanded_of_change (C:=Tryz.checked) (by kernel_rfl) started (by kernel_rfl) Tryz.func3
  (ChangeSpec.witness6 (enc:=enc) (C:=Tryz.checked) false ⟨#[],#[.agg #[.slice none 0 0,.slice none 0 0,.slice none 0 0,.slice none 0 0,.slice none 0 0,.slice none 0 0],.slice none 0 0,.int .i64 0],[]⟩ 8 (by kernel_rfl) (by kernel_rfl) (by kernel_rfl) (by kernel_rfl)) ?_
 intro W base args ds gs before hval0 hW hcnd _
 have hval:∀(j:Nat) t v,Tryz.f3.params[j]?=some t→args[j]?=some v→Value.okWide Tryz.prog W .any base t v:=hval0
 obtain⟨v0,v1,v2,x0,x1,x2,hargs,hv0,g0,hv1,g1,hv2,g2⟩:=Juo (show Tryz.f3.params=#[29,30,3] by kernel_rfl) hval hW Jwu Jww op3
 obtain⟨N,hF⟩:=Qnc x0 g0 x1 g1 x2 g2
 subst hargs
 exact Jh6 (tb:=4) (by kernel_rfl) (show Tryz.prog.underlying 4=some .bool by kernel_rfl) rfl (by kernel_rfl) (by kernel_rfl) (fun d hd=>(match d,hd with
   | [d0,d1,d2],_=>rfl)) hW
  (Je1 (c:=(Hd N).1) ((Hd N).2.1 (lt W) W [] (fun _=>0) (fun _=>undef) (x0,x1,x2) true [v0,v1,v2] (fun _ _ h=>h) (fun q hq=>by cases hq) rfl Je0 (Jvb hv0 hv1 hv2) hF) rfl)

theorem Aq{a b:Bool}(ha:a=true)(hb:b=true):(a&&b)=true:=by rw[ha,hb]; rfl
theorem jf0:(Rows.historyApartRow.wf (OpenSpec.ofChange Rows.historyApartSpec))=true:=by kernel_rfl
theorem jf1:(laidOutB Tryz.prog)=true:=by kernel_rfl
theorem jf2:(mapsRowed Tryz.prog)=true:=by kernel_rfl
theorem jf3:(Tryz.f3.params.all (Tryz.prog.readableRec ·))=true:=by kernel_rfl
theorem jf4:(namedTie Tryz.prog Rows.historyApartRow.named Rows.historyApartSpec.vars)=true:=by kernel_rfl
theorem jf5:((Rows.historyApartRow.stops==[]))=true:=by kernel_rfl
theorem jf6:((Tryz.prog.stops==[]))=true:=by kernel_rfl
theorem jf7:((Rows.historyApartRow.knobs==[]))=true:=by kernel_rfl
theorem jf8:((Tryz.prog.stopKnobs==[]))=true:=by kernel_rfl
theorem jf9:((Rows.historyApartRow.inPlace==Tryz.prog.inPlace 3))=true:=by kernel_rfl
theorem Jwx:((Rows.historyApartRow.unfollowed==Tryz.prog.unfollowed 3))=true:=by kernel_rfl
theorem Jwy:((Rows.historyApartRow.recurses==Tryz.prog.recurses 3))=true:=by kernel_rfl
theorem Jwz:((Rows.historyApartRow.named==Tryz.prog.varsNamed 3))=true:=by kernel_rfl
theorem Jw0:((Rows.historyApartRow.maps==(Tryz.f3.params.toList++Rows.historyApartSpec.plain.varTypes Tryz.prog).any (Tryz.prog.mapsRec ·)))=true:=by kernel_rfl
theorem Jw1:((Rows.historyApartRow.ifaces==(Tryz.f3.params.toList++Rows.historyApartSpec.plain.varTypes Tryz.prog).any (Tryz.prog.ifacesRec ·)))=true:=by kernel_rfl
theorem Jw2:((Rows.historyApartRow.mapsOut==Tryz.prog.mapsAmong Tryz.f3.resultTypes.toList))=true:=by kernel_rfl
theorem Jw3:((Rows.historyApartRow.loops==(Tryz.f3.params.toList++Rows.historyApartSpec.plain.varTypes Tryz.prog).any (Tryz.prog.loopsFrom ·)))=true:=by kernel_rfl
theorem Jw4:((Rows.historyApartRow.wideKeys==(Tryz.f3.params.toList++Rows.historyApartSpec.plain.varTypes Tryz.prog++Tryz.f3.resultTypes.toList).any (Tryz.prog.wideKeysFrom ·)))=true:=by kernel_rfl
theorem Jw5:(Rows.historyApartSpec.vars.all (Tryz.prog.varReadable ·))=true:=by kernel_rfl
theorem Jw6:(Tryz.f3.resultTypes.all (fun t=>Tryz.prog.readableRec t&&decide (t<Tryz.prog.types.size)))=true:=by kernel_rfl
theorem Jw7:((Rows.historyApartRow.ifacesOut==Tryz.f3.resultTypes.toList.any (Tryz.prog.ifacesRec ·)))=true:=by kernel_rfl
theorem Jw8:((Rows.historyApartRow.loopsOut==Tryz.f3.resultTypes.toList.any (Tryz.prog.loopsFrom ·)))=true:=by kernel_rfl
theorem Jw9:((Rows.historyApartRow.plainKeys==Tryz.prog.plainKeys))=true:=by kernel_rfl
theorem Jxa:(Rows.historyApartRow.shortTexts.isNone)=true:=by kernel_rfl
theorem Jxb:(Tryz.prog.stopsHeard)=true:=by kernel_rfl
theorem Jxc:(Tryz.prog.mayEnter)=true:=by kernel_rfl
theorem Jxd:((Rows.historyApartRow.lifted==Tryz.prog.liftsFinal))=true:=by kernel_rfl
theorem Jxe:((Tryz.prog.make==some Rows.historyApartRow.make))=true:=by kernel_rfl
theorem Jxf:((Rows.historyApartRow.kinds==(if Rows.historyApartRow.domain.isEmpty then []else Tryz.f3.params.toList.map fun t=>match Tryz.prog.underlying t with | some (.int k)=>some k | _=>none)))=true:=by kernel_rfl
theorem Jxg:((Rows.historyApartRow.pinned==Rows.historyApartRow.pinnedBy))=true:=by kernel_rfl
theorem Jxh:((Rows.historyApartRow.veiled==(Tryz.f3.params.toList++Rows.historyApartSpec.plain.varTypes Tryz.prog++Tryz.f3.resultTypes.toList).any (Tryz.prog.veiledRec ·)))=true:=by kernel_rfl
theorem Jxi:(Rows.historyApartRow.veiledFits Tryz.prog Tryz.f3.params.toList (Tryz.f3.params.toList++Rows.historyApartSpec.plain.varTypes Tryz.prog++Tryz.f3.resultTypes.toList))=true:=by kernel_rfl
set_option maxRecDepth 100000 in
theorem Jv5:joinedFacts Tryz.prog 3 Tryz.f3 Rows.historyApartSpec Rows.historyApartRow=true:=(Aq (Aq (Aq (Aq (Aq (Aq (Aq (Aq (Aq (Aq (Aq (Aq (Aq (Aq (Aq (Aq (Aq (Aq (Aq (Aq (Aq (Aq (Aq (Aq (Aq (Aq (Aq (Aq (Aq (Aq (Aq jf0 jf1) jf2) jf3) jf4) jf5) jf6) jf7) jf8) jf9) Jwx) Jwy) Jwz) Jw0) Jw1) Jw2) Jw3) Jw4) Jw5) Jw6) Jw7) Jw8) Jw9) Jxa) Jxb) Jxc) Jxd) Jxe) Jxf) Jxg) Jxh) Jxi)
/-- The statement HistoryApart. -/
theorem historyApart_proved:Rows.HistoryApartSaid :=
 OpenClaim.holds_of_wide 3 Tryz.f3 rfl rfl rfl rfl rfl rfl rfl ⟨rfl,rfl,rfl,rfl,rfl⟩ rfl rfl rfl rfl rfl (by kernel_rfl) Tryz.func3 Jv5
  (of_decide_eq_true (by kernel_rfl)) (by unfold Func.isWrapper; first | (rw[if_pos (by decide +kernel)]; kernel_rfl) | (rw[if_neg (by decide +kernel)]; exact⟨rfl,rfl⟩))
  (fun os started H enc _=>Qgp os started H enc)
end Go.Proofs.YtfkpgpibpnghiaaGreat
