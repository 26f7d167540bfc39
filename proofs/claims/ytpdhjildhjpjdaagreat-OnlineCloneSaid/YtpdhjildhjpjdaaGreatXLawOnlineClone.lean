/- OnlineClone: proved for every input. The plain law, the walk of the law, and the statement. Conditions: none. -/
import Derived.Test.YtpdhjildhjpjdaaGreatRows
import Derived.Test.YtpdhjildhjpjdaaGreatXRuns
import Derived.Test.YtpdhjildhjpjdaaGreatXPlainOnlineClone
import Derived.Test.YtpdhjildhjpjdaaGreatXRm
import Derived.WalkKit
import Derived.ProofKit
import Derived.OpenShut
import Derived.SizedLaws
namespace Gx
open Go Gd Go.Proofs Go.Proofs.YtpdhjildhjpjdaaGreat Go.RowKit Go.WideShapes Go.ChangeShapes
set_option linter.unusedVariables false
theorem Ut:Q7 Tryz.prog 3 (.int .i64):=Qyw (show Tryz.prog.underlying 3=some (.int .i64) by kernel_rfl) (by kernel_rfl)
theorem Qmw:Q7 Tryz.prog 9 .str:=Jg1 (show Tryz.prog.underlying 9=some (.string) by kernel_rfl) (by kernel_rfl)
theorem Jt4:Q7 Tryz.prog 135 Jr:=Vn (show Tryz.prog.underlying 135=some (.struct ⟨[⟨"At",3,0,false, "", "",0⟩,⟨"Kind",3,1,false, "", "",8⟩,⟨"Account",3,2,false, "", "",16⟩,⟨"Sub",3,3,false, "", "",24⟩,⟨"Number",9,4,false, "", "",32⟩,⟨"Name",9,5,false, "", "",48⟩,⟨"Value",3,6,false, "", "",64⟩]⟩) by kernel_rfl) (by kernel_rfl) (.pr Ut rfl rfl rfl (.pr Ut rfl rfl rfl (.pr Ut rfl rfl rfl (.pr Ut rfl rfl rfl (.pr Qmw rfl rfl rfl (.pr Qmw rfl rfl rfl (.last Ut rfl rfl rfl)))))))
theorem Jvz:Q7 Tryz.prog 22 (.sl Jr):=Uf (show Tryz.prog.underlying 22=some (.slice 135) by kernel_rfl) (by kernel_rfl) Jt4 (by decide) (by kernel_rfl)
theorem Jg6:Q7 Tryz.prog 4 .bool:=Jau (show Tryz.prog.underlying 4=some (.bool) by kernel_rfl) (by kernel_rfl)
theorem Ja0:Q7 Tryz.prog 125 (.sl .str):=Uf (show Tryz.prog.underlying 125=some (.slice 9) by kernel_rfl) (by kernel_rfl) Qmw (by decide) (by kernel_rfl)
theorem Jt5:Q7 Tryz.prog 210 Uc:=Vn (show Tryz.prog.underlying 210=some (.struct ⟨[⟨"Name",9,0,false, "", "",0⟩,⟨"Prefixes",125,1,false, "", "",16⟩]⟩) by kernel_rfl) (by kernel_rfl) (.pr Qmw rfl rfl rfl (.last Ja0 rfl rfl rfl))
theorem Jt6:Q7 Tryz.prog 143 (.sl Uc):=Uf (show Tryz.prog.underlying 143=some (.slice 210) by kernel_rfl) (by kernel_rfl) Jt5 (by decide) (by kernel_rfl)
theorem Jt7:Q7 Tryz.prog 221 Zm:=Vn (show Tryz.prog.underlying 221=some (.struct ⟨[⟨"Days",3,0,false, "", "",0⟩,⟨"From",3,1,false, "", "",8⟩,⟨"To",3,2,false, "", "",16⟩]⟩) by kernel_rfl) (by kernel_rfl) (.pr Ut rfl rfl rfl (.pr Ut rfl rfl rfl (.last Ut rfl rfl rfl)))
theorem Jt8:Q7 Tryz.prog 136 (.sl Zm):=Uf (show Tryz.prog.underlying 136=some (.slice 221) by kernel_rfl) (by kernel_rfl) Jt7 (by decide) (by kernel_rfl)
theorem Jt9:Q7 Tryz.prog 138 Uh:=Vn (show Tryz.prog.underlying 138=some (.struct ⟨[⟨"Name",9,0,false, "", "",0⟩,⟨"Slots",136,1,false, "", "",16⟩]⟩) by kernel_rfl) (by kernel_rfl) (.pr Qmw rfl rfl rfl (.last Jt8 rfl rfl rfl))
theorem Jua:Q7 Tryz.prog 139 (.sl Uh):=Uf (show Tryz.prog.underlying 139=some (.slice 138) by kernel_rfl) (by kernel_rfl) Jt9 (by decide) (by kernel_rfl)
theorem Jub:Q7 Tryz.prog 141 Vu:=Vn (show Tryz.prog.underlying 141=some (.struct ⟨[⟨"Upto",3,0,false, "", "",0⟩,⟨"Quantum",3,1,false, "", "",8⟩,⟨"Price",3,2,false, "", "",16⟩]⟩) by kernel_rfl) (by kernel_rfl) (.pr Ut rfl rfl rfl (.pr Ut rfl rfl rfl (.last Ut rfl rfl rfl)))
theorem Jsh:Q7 Tryz.prog 74 (.sl Vu):=Uf (show Tryz.prog.underlying 74=some (.slice 141) by kernel_rfl) (by kernel_rfl) Jub (by decide) (by kernel_rfl)
theorem Jv0:Q7 Tryz.prog 76 Xs:=Vn (show Tryz.prog.underlying 76=some (.struct ⟨[⟨"Kind",3,0,false, "", "",0⟩,⟨"Zone",9,1,false, "", "",8⟩,⟨"Band",9,2,false, "", "",24⟩,⟨"Setup",3,3,false, "", "",40⟩,⟨"Steps",74,4,false, "", "",48⟩]⟩) by kernel_rfl) (by kernel_rfl) (.pr Ut rfl rfl rfl (.pr Qmw rfl rfl rfl (.pr Qmw rfl rfl rfl (.pr Ut rfl rfl rfl (.last Jsh rfl rfl rfl)))))
theorem Juc:Q7 Tryz.prog 142 (.sl Xs):=Uf (show Tryz.prog.underlying 142=some (.slice 76) by kernel_rfl) (by kernel_rfl) Jv0 (by decide) (by kernel_rfl)
theorem Jud:Q7 Tryz.prog 216 Xt:=Qor (Q9c (show Tryz.prog.underlying 216=some (.struct ⟨[⟨"Op",3,0,false, "", "",0⟩,⟨"Num",3,1,false, "", "",8⟩,⟨"Text",9,2,false, "", "",16⟩,⟨"Args",214,3,false, "", "",32⟩]⟩) by kernel_rfl) rfl (by kernel_rfl) (Qnx (show Tryz.prog.underlying 3=some (.int .i64) by kernel_rfl) (by kernel_rfl)) (Qnx (show Tryz.prog.underlying 3=some (.int .i64) by kernel_rfl) (by kernel_rfl)) (Qxf (show Tryz.prog.underlying 9=some (.string) by kernel_rfl) (by kernel_rfl)) (show Tryz.prog.underlying 214=some (.slice 216) by kernel_rfl) (by kernel_rfl) rfl rfl rfl ⟨rfl,rfl⟩ ⟨rfl,rfl⟩ ⟨rfl,rfl⟩ ⟨rfl,rfl⟩) fun _ h=>h
theorem Jue:Q7 Tryz.prog 218 Uq:=Vn (show Tryz.prog.underlying 218=some (.struct ⟨[⟨"Name",9,0,false, "", "",0⟩,⟨"When",216,1,false, "", "",16⟩,⟨"Points",3,5,false, "", "",72⟩]⟩) by kernel_rfl) (by kernel_rfl) (.pr Qmw rfl rfl rfl (.pr Jud rfl rfl rfl (.last Ut rfl rfl rfl)))
theorem Juf:Q7 Tryz.prog 144 (.sl Uq):=Uf (show Tryz.prog.underlying 144=some (.slice 218) by kernel_rfl) (by kernel_rfl) Jue (by decide) (by kernel_rfl)
theorem Jug:Q7 Tryz.prog 146 Yn:=Vn (show Tryz.prog.underlying 146=some (.struct ⟨[⟨"Name",9,0,false, "", "",0⟩,⟨"From",3,1,false, "", "",16⟩,⟨"Split",4,2,false, "", "",24⟩,⟨"Zones",143,3,false, "", "",32⟩,⟨"Bands",139,4,false, "", "",56⟩,⟨"Rates",142,5,false, "", "",80⟩,⟨"Discounts",144,6,false, "", "",104⟩]⟩) by kernel_rfl) (by kernel_rfl) (.pr Qmw rfl rfl rfl (.pr Ut rfl rfl rfl (.pr Jg6 rfl rfl rfl (.pr Jt6 rfl rfl rfl (.pr Jua rfl rfl rfl (.pr Juc rfl rfl rfl (.last Juf rfl rfl rfl)))))))
theorem Jv1:Q7 Tryz.prog 23 (.sl Yn):=Uf (show Tryz.prog.underlying 23=some (.slice 146) by kernel_rfl) (by kernel_rfl) Jug (by decide) (by kernel_rfl)
theorem Juh:Q7 Tryz.prog 160 Zi:=Vn (show Tryz.prog.underlying 160=some (.struct ⟨[⟨"Kind",3,0,false, "", "",0⟩,⟨"Zones",125,1,false, "", "",8⟩,⟨"Units",3,2,false, "", "",32⟩,⟨"Rollover",3,3,false, "", "",40⟩,⟨"Priority",3,4,false, "", "",48⟩,⟨"Shared",4,5,false, "", "",56⟩]⟩) by kernel_rfl) (by kernel_rfl) (.pr Ut rfl rfl rfl (.pr Ja0 rfl rfl rfl (.pr Ut rfl rfl rfl (.pr Ut rfl rfl rfl (.pr Ut rfl rfl rfl (.last Jg6 rfl rfl rfl))))))
theorem Jui:Q7 Tryz.prog 131 (.sl Zi):=Uf (show Tryz.prog.underlying 131=some (.slice 160) by kernel_rfl) (by kernel_rfl) Juh (by decide) (by kernel_rfl)
theorem Juj:Q7 Tryz.prog 133 J8:=Vn (show Tryz.prog.underlying 133=some (.struct ⟨[⟨"Name",9,0,false, "", "",0⟩,⟨"From",3,1,false, "", "",16⟩,⟨"Fee",3,2,false, "", "",24⟩,⟨"Category",9,3,false, "", "",32⟩,⟨"Prorate",4,4,false, "", "",48⟩,⟨"Bundles",131,5,false, "", "",56⟩]⟩) by kernel_rfl) (by kernel_rfl) (.pr Qmw rfl rfl rfl (.pr Ut rfl rfl rfl (.pr Ut rfl rfl rfl (.pr Qmw rfl rfl rfl (.pr Jg6 rfl rfl rfl (.last Jui rfl rfl rfl))))))
theorem Jv2:Q7 Tryz.prog 24 (.sl J8):=Uf (show Tryz.prog.underlying 24=some (.slice 133) by kernel_rfl) (by kernel_rfl) Juj (by decide) (by kernel_rfl)
theorem Juk:Q7 Tryz.prog 150 Fa:=Vn (show Tryz.prog.underlying 150=some (.struct ⟨[⟨"Category",9,0,false, "", "",0⟩,⟨"From",3,1,false, "", "",16⟩,⟨"Points",3,2,false, "", "",24⟩]⟩) by kernel_rfl) (by kernel_rfl) (.pr Qmw rfl rfl rfl (.pr Ut rfl rfl rfl (.last Ut rfl rfl rfl)))
theorem Jv3:Q7 Tryz.prog 25 (.sl Fa):=Uf (show Tryz.prog.underlying 25=some (.slice 150) by kernel_rfl) (by kernel_rfl) Juk (by decide) (by kernel_rfl)
theorem Jv4:Q7 Tryz.prog 26 (.sl (.int .i64)):=Uf (show Tryz.prog.underlying 26=some (.slice 3) by kernel_rfl) (by kernel_rfl) Ut (by decide) (by kernel_rfl)
theorem Jm4:Q7 Tryz.prog 127 J9:=Vn (show Tryz.prog.underlying 127=some (.struct ⟨[⟨"From",3,0,false, "", "",0⟩,⟨"To",3,1,false, "", "",8⟩]⟩) by kernel_rfl) (by kernel_rfl) (.pr Ut rfl rfl rfl (.last Ut rfl rfl rfl))
theorem Jul:Q7 Tryz.prog 156 Vi:=Vn (show Tryz.prog.underlying 156=some (.struct ⟨[⟨"Partner",3,0,false, "", "",0⟩,⟨"Kind",3,1,false, "", "",8⟩,⟨"Inbound",4,2,false, "", "",16⟩,⟨"Valid",127,3,false, "", "",24⟩,⟨"Steps",74,5,false, "", "",40⟩,⟨"Cap",3,6,false, "", "",64⟩]⟩) by kernel_rfl) (by kernel_rfl) (.pr Ut rfl rfl rfl (.pr Ut rfl rfl rfl (.pr Jg6 rfl rfl rfl (.pr Jm4 rfl rfl rfl (.pr Jsh rfl rfl rfl (.last Ut rfl rfl rfl))))))
theorem Jv5:Q7 Tryz.prog 27 (.sl Vi):=Uf (show Tryz.prog.underlying 27=some (.slice 156) by kernel_rfl) (by kernel_rfl) Jul (by decide) (by kernel_rfl)
theorem Jv6:Q7 Tryz.prog 29 Ks:=Vn (show Tryz.prog.underlying 29=some (.struct ⟨[⟨"Events",22,0,false, "", "",0⟩,⟨"Tariffs",23,1,false, "", "",24⟩,⟨"Products",24,2,false, "", "",48⟩,⟨"Taxes",25,3,false, "", "",72⟩,⟨"Holidays",26,4,false, "", "",96⟩,⟨"Agreements",27,5,false, "", "",120⟩]⟩) by kernel_rfl) (by kernel_rfl) (.pr Jvz rfl rfl rfl (.pr Jv1 rfl rfl rfl (.pr Jv2 rfl rfl rfl (.pr Jv3 rfl rfl rfl (.pr Jv4 rfl rfl rfl (.last Jv5 rfl rfl rfl))))))
theorem Jum:Q7 Tryz.prog 129 Q9:=Vn (show Tryz.prog.underlying 129=some (.struct ⟨[⟨"Account",3,0,false, "", "",0⟩,⟨"Sub",3,1,false, "", "",8⟩,⟨"Product",9,2,false, "", "",16⟩,⟨"Index",3,3,false, "", "",32⟩,⟨"Kind",3,4,false, "", "",40⟩,⟨"Zones",125,5,false, "", "",48⟩,⟨"Valid",127,6,false, "", "",72⟩,⟨"Units",3,8,false, "", "",88⟩,⟨"Left",3,9,false, "", "",96⟩,⟨"Priority",3,10,false, "", "",104⟩,⟨"Shared",4,11,false, "", "",112⟩]⟩) by kernel_rfl) (by kernel_rfl) (.pr Ut rfl rfl rfl (.pr Ut rfl rfl rfl (.pr Qmw rfl rfl rfl (.pr Ut rfl rfl rfl (.pr Ut rfl rfl rfl (.pr Ja0 rfl rfl rfl (.pr Jm4 rfl rfl rfl (.pr Ut rfl rfl rfl (.pr Ut rfl rfl rfl (.pr Ut rfl rfl rfl (.last Jg6 rfl rfl rfl)))))))))))
theorem Jv7:Q7 Tryz.prog 30 (.sl Q9):=Uf (show Tryz.prog.underlying 30=some (.slice 129) by kernel_rfl) (by kernel_rfl) Jum (by decide) (by kernel_rfl)
theorem Jun:Q7 Tryz.prog 101 Ya:=Vn (show Tryz.prog.underlying 101=some (.struct ⟨[⟨"Account",3,0,false, "", "",0⟩,⟨"Balance",3,1,false, "", "",8⟩,⟨"Floor",3,2,false, "", "",16⟩,⟨"Held",3,3,false, "", "",24⟩,⟨"Until",3,4,false, "", "",32⟩]⟩) by kernel_rfl) (by kernel_rfl) (.pr Ut rfl rfl rfl (.pr Ut rfl rfl rfl (.pr Ut rfl rfl rfl (.pr Ut rfl rfl rfl (.last Ut rfl rfl rfl)))))
theorem Jv8:Q7 Tryz.prog 31 (.sl Ya):=Uf (show Tryz.prog.underlying 31=some (.slice 101) by kernel_rfl) (by kernel_rfl) Jun (by decide) (by kernel_rfl)
theorem Juo:Q7 Tryz.prog 103 Ur:=Vn (show Tryz.prog.underlying 103=some (.struct ⟨[⟨"Sub",3,0,false, "", "",0⟩,⟨"Kind",3,1,false, "", "",8⟩,⟨"From",3,2,false, "", "",16⟩,⟨"Units",3,3,false, "", "",24⟩,⟨"Spent",3,4,false, "", "",32⟩]⟩) by kernel_rfl) (by kernel_rfl) (.pr Ut rfl rfl rfl (.pr Ut rfl rfl rfl (.pr Ut rfl rfl rfl (.pr Ut rfl rfl rfl (.last Ut rfl rfl rfl)))))
theorem Jv9:Q7 Tryz.prog 32 (.sl Ur):=Uf (show Tryz.prog.underlying 32=some (.slice 103) by kernel_rfl) (by kernel_rfl) Juo (by decide) (by kernel_rfl)
theorem Jwa:Q7 Tryz.prog 34 Yi:=Vn (show Tryz.prog.underlying 34=some (.struct ⟨[⟨"Buckets",30,0,false, "", "",0⟩,⟨"Wallets",31,1,false, "", "",24⟩,⟨"Counters",32,2,false, "", "",48⟩]⟩) by kernel_rfl) (by kernel_rfl) (.pr Jv7 rfl rfl rfl (.pr Jv8 rfl rfl rfl (.last Jv9 rfl rfl rfl)))
theorem Jwb:Q7 Tryz.prog 43 Yz:=Vn (show Tryz.prog.underlying 43=some (.struct ⟨[⟨"Session",3,0,false, "", "",0⟩,⟨"Seq",3,1,false, "", "",8⟩,⟨"Kind",3,2,false, "", "",16⟩,⟨"At",3,3,false, "", "",24⟩,⟨"Sub",3,4,false, "", "",32⟩,⟨"Usage",3,5,false, "", "",40⟩,⟨"B",9,6,false, "", "",48⟩,⟨"Used",3,7,false, "", "",64⟩,⟨"Ask",3,8,false, "", "",72⟩]⟩) by kernel_rfl) (by kernel_rfl) (.pr Ut rfl rfl rfl (.pr Ut rfl rfl rfl (.pr Ut rfl rfl rfl (.pr Ut rfl rfl rfl (.pr Ut rfl rfl rfl (.pr Ut rfl rfl rfl (.pr Qmw rfl rfl rfl (.pr Ut rfl rfl rfl (.last Ut rfl rfl rfl)))))))))
theorem Jwc:Q7 Tryz.prog 45 Vv:=Vn (show Tryz.prog.underlying 45=some (.struct ⟨[⟨"Request",43,0,false, "", "",0⟩,⟨"Expire",4,9,false, "", "",80⟩]⟩) by kernel_rfl) (by kernel_rfl) (.pr Jwb rfl rfl rfl (.last Jg6 rfl rfl rfl))
theorem Jwd:Q7 Tryz.prog 35 (.sl Vv):=Uf (show Tryz.prog.underlying 35=some (.slice 45) by kernel_rfl) (by kernel_rfl) Jwc (by decide) (by kernel_rfl)
theorem Jwe:Q7 Tryz.prog 37 Ui:=Vn (show Tryz.prog.underlying 37=some (.struct ⟨[⟨"Book",29,0,false, "", "",0⟩,⟨"State",34,6,false, "", "",144⟩,⟨"Ops",35,9,false, "", "",216⟩]⟩) by kernel_rfl) (by kernel_rfl) (.pr Jv6 rfl rfl rfl (.pr Jwa rfl rfl rfl (.last Jwd rfl rfl rfl)))
theorem Jwm:Q7 Tryz.prog 5 (.int .u8):=Qyw (show Tryz.prog.underlying 5=some (.int .u8) by kernel_rfl) (by kernel_rfl)
end Gx
namespace Go.Proofs.YtpdhjildhjpjdaaGreat
open Go Gd Gx Go.ChangeShapes Go.WideShapes Go.ChangeAt Go.RowKit
set_option linter.unusedVariables false
set_option maxRecDepth 100000 in
/-- What the walk and the plain law give. -/
theorem Qkw(os:Os)(started:os.Started)(H:Type)(enc:TypeId×Value→H) :
  ReturnsInHanded {} Tryz.checked os 4 .any (Rows.onlineCloneSpec.pre6 enc Tryz.prog Tryz.f4 Rows.onlineCloneRow.domain false) (Rows.onlineCloneSpec.post enc Tryz.prog Tryz.f4 false true false false):=by
 refine returnsInHanded_of_change_sized (C:=Tryz.checked) (by kernel_rfl) started (by kernel_rfl) Tryz.func4
  (ChangeSpec.witness6 (enc:=enc) (C:=Tryz.checked) false ⟨#[],#[.agg #[.slice none 0 0,.slice none 0 0,.slice none 0 0,.slice none 0 0,.slice none 0 0,.slice none 0 0,.slice none 0 0,.slice none 0 0,.slice none 0 0,.slice none 0 0],.int .u8 0],[]⟩ 8 (by kernel_rfl) (by kernel_rfl) (by kernel_rfl) (by kernel_rfl)) ?_
 intro W base args ds gs before hval0 hW hcnd hz _
 have hval:∀(j:Nat) t v,Tryz.f4.params[j]?=some t→args[j]?=some v→Value.okWide Tryz.prog W .any base t v:=hval0
 obtain⟨v0,v1,x0,x1,hargs,hv0,g0,hv1,g1⟩:=Jty (show Tryz.f4.params=#[37,5] by kernel_rfl) hval hW hz Jwe Jwm
 obtain⟨N,hF⟩:=Qqw x0 g0 x1 g1
 subst hargs
 exact Jh4 (tb:=4) (by kernel_rfl) (show Tryz.prog.underlying 4=some .bool by kernel_rfl) rfl (by kernel_rfl) (by kernel_rfl) (fun d hd=>(match d,hd with
   | [d0,d1],_=>rfl)) hW
  (Jfq (c:=(H8 N).1) ((H8 N).2.1 (lt W) W [] (fun _=>0) (fun _=>undef) (x0,x1) true [v0,v1] (fun _ _ h=>h) (fun q hq=>by cases hq) rfl Jfp (Jvd hv0 hv1) hF) rfl)

theorem Aw{a b:Bool}(ha:a=true)(hb:b=true):(a&&b)=true:=by rw[ha,hb]; rfl
theorem jf0:(Rows.onlineCloneRow.wf (OpenSpec.ofChange Rows.onlineCloneSpec))=true:=by kernel_rfl
theorem jf1:(laidOutB Tryz.prog)=true:=by kernel_rfl
theorem jf2:(mapsRowed Tryz.prog)=true:=by kernel_rfl
theorem jf3:(Tryz.f4.params.all (Tryz.prog.readableRec ·))=true:=by kernel_rfl
theorem jf4:(namedTie Tryz.prog Rows.onlineCloneRow.named Rows.onlineCloneSpec.vars)=true:=by kernel_rfl
theorem jf5:((Rows.onlineCloneRow.stops==[]))=true:=by kernel_rfl
theorem jf6:((Tryz.prog.stops==[]))=true:=by kernel_rfl
theorem jf7:((Rows.onlineCloneRow.knobs==[]))=true:=by kernel_rfl
theorem jf8:((Tryz.prog.stopKnobs==[]))=true:=by kernel_rfl
theorem jf9:((Rows.onlineCloneRow.inPlace==Tryz.prog.inPlace 4))=true:=by kernel_rfl
theorem Jwn:((Rows.onlineCloneRow.unfollowed==Tryz.prog.unfollowed 4))=true:=by kernel_rfl
theorem Jwo:((Rows.onlineCloneRow.recurses==Tryz.prog.recurses 4))=true:=by kernel_rfl
theorem Jwp:((Rows.onlineCloneRow.named==Tryz.prog.varsNamed 4))=true:=by kernel_rfl
theorem Jwq:((Rows.onlineCloneRow.maps==(Tryz.f4.params.toList++Rows.onlineCloneSpec.plain.varTypes Tryz.prog).any (Tryz.prog.mapsRec ·)))=true:=by kernel_rfl
theorem Jwr:((Rows.onlineCloneRow.ifaces==(Tryz.f4.params.toList++Rows.onlineCloneSpec.plain.varTypes Tryz.prog).any (Tryz.prog.ifacesRec ·)))=true:=by kernel_rfl
theorem Jws:((Rows.onlineCloneRow.mapsOut==Tryz.prog.mapsAmong Tryz.f4.resultTypes.toList))=true:=by kernel_rfl
theorem Jwt:((Rows.onlineCloneRow.loops==(Tryz.f4.params.toList++Rows.onlineCloneSpec.plain.varTypes Tryz.prog).any (Tryz.prog.loopsFrom ·)))=true:=by kernel_rfl
theorem Jwu:((Rows.onlineCloneRow.wideKeys==(Tryz.f4.params.toList++Rows.onlineCloneSpec.plain.varTypes Tryz.prog++Tryz.f4.resultTypes.toList).any (Tryz.prog.wideKeysFrom ·)))=true:=by kernel_rfl
theorem Jwv:(Rows.onlineCloneSpec.vars.all (Tryz.prog.varReadable ·))=true:=by kernel_rfl
theorem Jww:(Tryz.f4.resultTypes.all (fun t=>Tryz.prog.readableRec t&&decide (t<Tryz.prog.types.size)))=true:=by kernel_rfl
theorem Jwx:((Rows.onlineCloneRow.ifacesOut==Tryz.f4.resultTypes.toList.any (Tryz.prog.ifacesRec ·)))=true:=by kernel_rfl
theorem Jwy:((Rows.onlineCloneRow.loopsOut==Tryz.f4.resultTypes.toList.any (Tryz.prog.loopsFrom ·)))=true:=by kernel_rfl
theorem Jwz:((Rows.onlineCloneRow.plainKeys==Tryz.prog.plainKeys))=true:=by kernel_rfl
theorem Jw0:(Rows.onlineCloneRow.shortTexts.isNone)=true:=by kernel_rfl
theorem Jw1:(Tryz.prog.stopsHeard)=true:=by kernel_rfl
theorem Jw2:(Tryz.prog.mayEnter)=true:=by kernel_rfl
theorem Jw3:((Rows.onlineCloneRow.lifted==Tryz.prog.liftsFinal))=true:=by kernel_rfl
theorem Jw4:((Tryz.prog.make==some Rows.onlineCloneRow.make))=true:=by kernel_rfl
theorem Jw5:((Rows.onlineCloneRow.kinds==(if Rows.onlineCloneRow.domain.isEmpty then []else Tryz.f4.params.toList.map fun t=>match Tryz.prog.underlying t with | some (.int k)=>some k | _=>none)))=true:=by kernel_rfl
theorem Jw6:((Rows.onlineCloneRow.pinned==Rows.onlineCloneRow.pinnedBy))=true:=by kernel_rfl
theorem Jw7:((Rows.onlineCloneRow.veiled==(Tryz.f4.params.toList++Rows.onlineCloneSpec.plain.varTypes Tryz.prog++Tryz.f4.resultTypes.toList).any (Tryz.prog.veiledRec ·)))=true:=by kernel_rfl
theorem Jw8:(Rows.onlineCloneRow.veiledFits Tryz.prog Tryz.f4.params.toList (Tryz.f4.params.toList++Rows.onlineCloneSpec.plain.varTypes Tryz.prog++Tryz.f4.resultTypes.toList))=true:=by kernel_rfl
set_option maxRecDepth 100000 in
theorem Jwf:joinedFacts Tryz.prog 4 Tryz.f4 Rows.onlineCloneSpec Rows.onlineCloneRow=true:=(Aw (Aw (Aw (Aw (Aw (Aw (Aw (Aw (Aw (Aw (Aw (Aw (Aw (Aw (Aw (Aw (Aw (Aw (Aw (Aw (Aw (Aw (Aw (Aw (Aw (Aw (Aw (Aw (Aw (Aw (Aw jf0 jf1) jf2) jf3) jf4) jf5) jf6) jf7) jf8) jf9) Jwn) Jwo) Jwp) Jwq) Jwr) Jws) Jwt) Jwu) Jwv) Jww) Jwx) Jwy) Jwz) Jw0) Jw1) Jw2) Jw3) Jw4) Jw5) Jw6) Jw7) Jw8)
/-- The statement OnlineClone. -/
theorem onlineClone_proved:Rows.OnlineCloneSaid :=
 OpenClaim.holds_of_wide 4 Tryz.f4 rfl rfl rfl rfl rfl rfl rfl ⟨rfl,rfl,rfl,rfl,rfl⟩ rfl rfl rfl rfl rfl (by kernel_rfl) Tryz.func4 Jwf
  (of_decide_eq_true (by kernel_rfl)) (by unfold Func.isWrapper; first | (rw[if_pos (by decide +kernel)]; kernel_rfl) | (rw[if_neg (by decide +kernel)]; exact⟨rfl,rfl⟩))
  (fun os started H enc _=>Qkw os started H enc)
end Go.Proofs.YtpdhjildhjpjdaaGreat
