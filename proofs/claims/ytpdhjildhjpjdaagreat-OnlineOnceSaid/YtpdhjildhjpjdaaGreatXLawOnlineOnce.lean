/- OnlineOnce: proved for every input. The plain law, the walk of the law, and the statement. Conditions: none. -/
import Derived.Test.YtpdhjildhjpjdaaGreatRows
import Derived.Test.YtpdhjildhjpjdaaGreatXRuns
import Derived.Test.YtpdhjildhjpjdaaGreatXPlainOnlineOnce
import Derived.Test.YtpdhjildhjpjdaaGreatXRm
import Derived.WalkKit
import Derived.ProofKit
import Derived.OpenShut
import Derived.SizedLaws
namespace Gx
open Go Gd Go.Proofs Go.Proofs.YtpdhjildhjpjdaaGreat Go.RowKit Go.WideShapes Go.ChangeShapes
set_option linter.unusedVariables false
theorem Ur:Q7 Tryz.prog 3 (.int .i64):=Jgl (show Tryz.prog.underlying 3=some (.int .i64) by kernel_rfl) (by kernel_rfl)
theorem Qmj:Q7 Tryz.prog 9 .str:=Jgm (show Tryz.prog.underlying 9=some (.string) by kernel_rfl) (by kernel_rfl)
theorem Jtf:Q7 Tryz.prog 135 Jr:=Vk (show Tryz.prog.underlying 135=some (.struct ⟨[⟨"At",3,0,false, "", "",0⟩,⟨"Kind",3,1,false, "", "",8⟩,⟨"Account",3,2,false, "", "",16⟩,⟨"Sub",3,3,false, "", "",24⟩,⟨"Number",9,4,false, "", "",32⟩,⟨"Name",9,5,false, "", "",48⟩,⟨"Value",3,6,false, "", "",64⟩]⟩) by kernel_rfl) (by kernel_rfl) (.pr Ur rfl rfl rfl (.pr Ur rfl rfl rfl (.pr Ur rfl rfl rfl (.pr Ur rfl rfl rfl (.pr Qmj rfl rfl rfl (.pr Qmj rfl rfl rfl (.last Ur rfl rfl rfl)))))))
theorem Jva:Q7 Tryz.prog 22 (.sl Jr):=Uf (show Tryz.prog.underlying 22=some (.slice 135) by kernel_rfl) (by kernel_rfl) Jtf (by decide) (by kernel_rfl)
theorem Jgs:Q7 Tryz.prog 4 .bool:=Jag (show Tryz.prog.underlying 4=some (.bool) by kernel_rfl) (by kernel_rfl)
theorem Jal:Q7 Tryz.prog 125 (.sl .str):=Uf (show Tryz.prog.underlying 125=some (.slice 9) by kernel_rfl) (by kernel_rfl) Qmj (by decide) (by kernel_rfl)
theorem Jtg:Q7 Tryz.prog 210 V7:=Vk (show Tryz.prog.underlying 210=some (.struct ⟨[⟨"Name",9,0,false, "", "",0⟩,⟨"Prefixes",125,1,false, "", "",16⟩]⟩) by kernel_rfl) (by kernel_rfl) (.pr Qmj rfl rfl rfl (.last Jal rfl rfl rfl))
theorem Jth:Q7 Tryz.prog 143 (.sl V7):=Uf (show Tryz.prog.underlying 143=some (.slice 210) by kernel_rfl) (by kernel_rfl) Jtg (by decide) (by kernel_rfl)
theorem Jti:Q7 Tryz.prog 221 Zn:=Vk (show Tryz.prog.underlying 221=some (.struct ⟨[⟨"Days",3,0,false, "", "",0⟩,⟨"From",3,1,false, "", "",8⟩,⟨"To",3,2,false, "", "",16⟩]⟩) by kernel_rfl) (by kernel_rfl) (.pr Ur rfl rfl rfl (.pr Ur rfl rfl rfl (.last Ur rfl rfl rfl)))
theorem Jtj:Q7 Tryz.prog 136 (.sl Zn):=Uf (show Tryz.prog.underlying 136=some (.slice 221) by kernel_rfl) (by kernel_rfl) Jti (by decide) (by kernel_rfl)
theorem Jtk:Q7 Tryz.prog 138 Uh:=Vk (show Tryz.prog.underlying 138=some (.struct ⟨[⟨"Name",9,0,false, "", "",0⟩,⟨"Slots",136,1,false, "", "",16⟩]⟩) by kernel_rfl) (by kernel_rfl) (.pr Qmj rfl rfl rfl (.last Jtj rfl rfl rfl))
theorem Jtl:Q7 Tryz.prog 139 (.sl Uh):=Uf (show Tryz.prog.underlying 139=some (.slice 138) by kernel_rfl) (by kernel_rfl) Jtk (by decide) (by kernel_rfl)
theorem Jtm:Q7 Tryz.prog 141 Vq:=Vk (show Tryz.prog.underlying 141=some (.struct ⟨[⟨"Upto",3,0,false, "", "",0⟩,⟨"Quantum",3,1,false, "", "",8⟩,⟨"Price",3,2,false, "", "",16⟩]⟩) by kernel_rfl) (by kernel_rfl) (.pr Ur rfl rfl rfl (.pr Ur rfl rfl rfl (.last Ur rfl rfl rfl)))
theorem Jru:Q7 Tryz.prog 74 (.sl Vq):=Uf (show Tryz.prog.underlying 74=some (.slice 141) by kernel_rfl) (by kernel_rfl) Jtm (by decide) (by kernel_rfl)
theorem Jvb:Q7 Tryz.prog 76 Xs:=Vk (show Tryz.prog.underlying 76=some (.struct ⟨[⟨"Kind",3,0,false, "", "",0⟩,⟨"Zone",9,1,false, "", "",8⟩,⟨"Band",9,2,false, "", "",24⟩,⟨"Setup",3,3,false, "", "",40⟩,⟨"Steps",74,4,false, "", "",48⟩]⟩) by kernel_rfl) (by kernel_rfl) (.pr Ur rfl rfl rfl (.pr Qmj rfl rfl rfl (.pr Qmj rfl rfl rfl (.pr Ur rfl rfl rfl (.last Jru rfl rfl rfl)))))
theorem Jtn:Q7 Tryz.prog 142 (.sl Xs):=Uf (show Tryz.prog.underlying 142=some (.slice 76) by kernel_rfl) (by kernel_rfl) Jvb (by decide) (by kernel_rfl)
theorem Jto:Q7 Tryz.prog 216 Xt:=Qof (Q82 (show Tryz.prog.underlying 216=some (.struct ⟨[⟨"Op",3,0,false, "", "",0⟩,⟨"Num",3,1,false, "", "",8⟩,⟨"Text",9,2,false, "", "",16⟩,⟨"Args",214,3,false, "", "",32⟩]⟩) by kernel_rfl) rfl (by kernel_rfl) (Qnj (show Tryz.prog.underlying 3=some (.int .i64) by kernel_rfl) (by kernel_rfl)) (Qnj (show Tryz.prog.underlying 3=some (.int .i64) by kernel_rfl) (by kernel_rfl)) (Qwz (show Tryz.prog.underlying 9=some (.string) by kernel_rfl) (by kernel_rfl)) (show Tryz.prog.underlying 214=some (.slice 216) by kernel_rfl) (by kernel_rfl) rfl rfl rfl ⟨rfl,rfl⟩ ⟨rfl,rfl⟩ ⟨rfl,rfl⟩ ⟨rfl,rfl⟩) fun _ h=>h
theorem Jtp:Q7 Tryz.prog 218 Up:=Vk (show Tryz.prog.underlying 218=some (.struct ⟨[⟨"Name",9,0,false, "", "",0⟩,⟨"When",216,1,false, "", "",16⟩,⟨"Points",3,5,false, "", "",72⟩]⟩) by kernel_rfl) (by kernel_rfl) (.pr Qmj rfl rfl rfl (.pr Jto rfl rfl rfl (.last Ur rfl rfl rfl)))
theorem Jtq:Q7 Tryz.prog 144 (.sl Up):=Uf (show Tryz.prog.underlying 144=some (.slice 218) by kernel_rfl) (by kernel_rfl) Jtp (by decide) (by kernel_rfl)
theorem Jtr:Q7 Tryz.prog 146 Ym:=Vk (show Tryz.prog.underlying 146=some (.struct ⟨[⟨"Name",9,0,false, "", "",0⟩,⟨"From",3,1,false, "", "",16⟩,⟨"Split",4,2,false, "", "",24⟩,⟨"Zones",143,3,false, "", "",32⟩,⟨"Bands",139,4,false, "", "",56⟩,⟨"Rates",142,5,false, "", "",80⟩,⟨"Discounts",144,6,false, "", "",104⟩]⟩) by kernel_rfl) (by kernel_rfl) (.pr Qmj rfl rfl rfl (.pr Ur rfl rfl rfl (.pr Jgs rfl rfl rfl (.pr Jth rfl rfl rfl (.pr Jtl rfl rfl rfl (.pr Jtn rfl rfl rfl (.last Jtq rfl rfl rfl)))))))
theorem Jvc:Q7 Tryz.prog 23 (.sl Ym):=Uf (show Tryz.prog.underlying 23=some (.slice 146) by kernel_rfl) (by kernel_rfl) Jtr (by decide) (by kernel_rfl)
theorem Jts:Q7 Tryz.prog 160 Zk:=Vk (show Tryz.prog.underlying 160=some (.struct ⟨[⟨"Kind",3,0,false, "", "",0⟩,⟨"Zones",125,1,false, "", "",8⟩,⟨"Units",3,2,false, "", "",32⟩,⟨"Rollover",3,3,false, "", "",40⟩,⟨"Priority",3,4,false, "", "",48⟩,⟨"Shared",4,5,false, "", "",56⟩]⟩) by kernel_rfl) (by kernel_rfl) (.pr Ur rfl rfl rfl (.pr Jal rfl rfl rfl (.pr Ur rfl rfl rfl (.pr Ur rfl rfl rfl (.pr Ur rfl rfl rfl (.last Jgs rfl rfl rfl))))))
theorem Jtt:Q7 Tryz.prog 131 (.sl Zk):=Uf (show Tryz.prog.underlying 131=some (.slice 160) by kernel_rfl) (by kernel_rfl) Jts (by decide) (by kernel_rfl)
theorem Jtu:Q7 Tryz.prog 133 J8:=Vk (show Tryz.prog.underlying 133=some (.struct ⟨[⟨"Name",9,0,false, "", "",0⟩,⟨"From",3,1,false, "", "",16⟩,⟨"Fee",3,2,false, "", "",24⟩,⟨"Category",9,3,false, "", "",32⟩,⟨"Prorate",4,4,false, "", "",48⟩,⟨"Bundles",131,5,false, "", "",56⟩]⟩) by kernel_rfl) (by kernel_rfl) (.pr Qmj rfl rfl rfl (.pr Ur rfl rfl rfl (.pr Ur rfl rfl rfl (.pr Qmj rfl rfl rfl (.pr Jgs rfl rfl rfl (.last Jtt rfl rfl rfl))))))
theorem Jvd:Q7 Tryz.prog 24 (.sl J8):=Uf (show Tryz.prog.underlying 24=some (.slice 133) by kernel_rfl) (by kernel_rfl) Jtu (by decide) (by kernel_rfl)
theorem Jtv:Q7 Tryz.prog 150 Fd:=Vk (show Tryz.prog.underlying 150=some (.struct ⟨[⟨"Category",9,0,false, "", "",0⟩,⟨"From",3,1,false, "", "",16⟩,⟨"Points",3,2,false, "", "",24⟩]⟩) by kernel_rfl) (by kernel_rfl) (.pr Qmj rfl rfl rfl (.pr Ur rfl rfl rfl (.last Ur rfl rfl rfl)))
theorem Jve:Q7 Tryz.prog 25 (.sl Fd):=Uf (show Tryz.prog.underlying 25=some (.slice 150) by kernel_rfl) (by kernel_rfl) Jtv (by decide) (by kernel_rfl)
theorem Jvf:Q7 Tryz.prog 26 (.sl (.int .i64)):=Uf (show Tryz.prog.underlying 26=some (.slice 3) by kernel_rfl) (by kernel_rfl) Ur (by decide) (by kernel_rfl)
theorem Jmd:Q7 Tryz.prog 127 J9:=Vk (show Tryz.prog.underlying 127=some (.struct ⟨[⟨"From",3,0,false, "", "",0⟩,⟨"To",3,1,false, "", "",8⟩]⟩) by kernel_rfl) (by kernel_rfl) (.pr Ur rfl rfl rfl (.last Ur rfl rfl rfl))
theorem Jtw:Q7 Tryz.prog 156 Vh:=Vk (show Tryz.prog.underlying 156=some (.struct ⟨[⟨"Partner",3,0,false, "", "",0⟩,⟨"Kind",3,1,false, "", "",8⟩,⟨"Inbound",4,2,false, "", "",16⟩,⟨"Valid",127,3,false, "", "",24⟩,⟨"Steps",74,5,false, "", "",40⟩,⟨"Cap",3,6,false, "", "",64⟩]⟩) by kernel_rfl) (by kernel_rfl) (.pr Ur rfl rfl rfl (.pr Ur rfl rfl rfl (.pr Jgs rfl rfl rfl (.pr Jmd rfl rfl rfl (.pr Jru rfl rfl rfl (.last Ur rfl rfl rfl))))))
theorem Jvg:Q7 Tryz.prog 27 (.sl Vh):=Uf (show Tryz.prog.underlying 27=some (.slice 156) by kernel_rfl) (by kernel_rfl) Jtw (by decide) (by kernel_rfl)
theorem Jvh:Q7 Tryz.prog 29 Ks:=Vk (show Tryz.prog.underlying 29=some (.struct ⟨[⟨"Events",22,0,false, "", "",0⟩,⟨"Tariffs",23,1,false, "", "",24⟩,⟨"Products",24,2,false, "", "",48⟩,⟨"Taxes",25,3,false, "", "",72⟩,⟨"Holidays",26,4,false, "", "",96⟩,⟨"Agreements",27,5,false, "", "",120⟩]⟩) by kernel_rfl) (by kernel_rfl) (.pr Jva rfl rfl rfl (.pr Jvc rfl rfl rfl (.pr Jvd rfl rfl rfl (.pr Jve rfl rfl rfl (.pr Jvf rfl rfl rfl (.last Jvg rfl rfl rfl))))))
theorem Jtx:Q7 Tryz.prog 129 Ja:=Vk (show Tryz.prog.underlying 129=some (.struct ⟨[⟨"Account",3,0,false, "", "",0⟩,⟨"Sub",3,1,false, "", "",8⟩,⟨"Product",9,2,false, "", "",16⟩,⟨"Index",3,3,false, "", "",32⟩,⟨"Kind",3,4,false, "", "",40⟩,⟨"Zones",125,5,false, "", "",48⟩,⟨"Valid",127,6,false, "", "",72⟩,⟨"Units",3,8,false, "", "",88⟩,⟨"Left",3,9,false, "", "",96⟩,⟨"Priority",3,10,false, "", "",104⟩,⟨"Shared",4,11,false, "", "",112⟩]⟩) by kernel_rfl) (by kernel_rfl) (.pr Ur rfl rfl rfl (.pr Ur rfl rfl rfl (.pr Qmj rfl rfl rfl (.pr Ur rfl rfl rfl (.pr Ur rfl rfl rfl (.pr Jal rfl rfl rfl (.pr Jmd rfl rfl rfl (.pr Ur rfl rfl rfl (.pr Ur rfl rfl rfl (.pr Ur rfl rfl rfl (.last Jgs rfl rfl rfl)))))))))))
theorem Jvi:Q7 Tryz.prog 30 (.sl Ja):=Uf (show Tryz.prog.underlying 30=some (.slice 129) by kernel_rfl) (by kernel_rfl) Jtx (by decide) (by kernel_rfl)
theorem Jty:Q7 Tryz.prog 101 Ya:=Vk (show Tryz.prog.underlying 101=some (.struct ⟨[⟨"Account",3,0,false, "", "",0⟩,⟨"Balance",3,1,false, "", "",8⟩,⟨"Floor",3,2,false, "", "",16⟩,⟨"Held",3,3,false, "", "",24⟩,⟨"Until",3,4,false, "", "",32⟩]⟩) by kernel_rfl) (by kernel_rfl) (.pr Ur rfl rfl rfl (.pr Ur rfl rfl rfl (.pr Ur rfl rfl rfl (.pr Ur rfl rfl rfl (.last Ur rfl rfl rfl)))))
theorem Jvj:Q7 Tryz.prog 31 (.sl Ya):=Uf (show Tryz.prog.underlying 31=some (.slice 101) by kernel_rfl) (by kernel_rfl) Jty (by decide) (by kernel_rfl)
theorem Jtz:Q7 Tryz.prog 103 Uq:=Vk (show Tryz.prog.underlying 103=some (.struct ⟨[⟨"Sub",3,0,false, "", "",0⟩,⟨"Kind",3,1,false, "", "",8⟩,⟨"From",3,2,false, "", "",16⟩,⟨"Units",3,3,false, "", "",24⟩,⟨"Spent",3,4,false, "", "",32⟩]⟩) by kernel_rfl) (by kernel_rfl) (.pr Ur rfl rfl rfl (.pr Ur rfl rfl rfl (.pr Ur rfl rfl rfl (.pr Ur rfl rfl rfl (.last Ur rfl rfl rfl)))))
theorem Jvk:Q7 Tryz.prog 32 (.sl Uq):=Uf (show Tryz.prog.underlying 32=some (.slice 103) by kernel_rfl) (by kernel_rfl) Jtz (by decide) (by kernel_rfl)
theorem Jvl:Q7 Tryz.prog 34 Yh:=Vk (show Tryz.prog.underlying 34=some (.struct ⟨[⟨"Buckets",30,0,false, "", "",0⟩,⟨"Wallets",31,1,false, "", "",24⟩,⟨"Counters",32,2,false, "", "",48⟩]⟩) by kernel_rfl) (by kernel_rfl) (.pr Jvi rfl rfl rfl (.pr Jvj rfl rfl rfl (.last Jvk rfl rfl rfl)))
theorem Jvm:Q7 Tryz.prog 43 Yz:=Vk (show Tryz.prog.underlying 43=some (.struct ⟨[⟨"Session",3,0,false, "", "",0⟩,⟨"Seq",3,1,false, "", "",8⟩,⟨"Kind",3,2,false, "", "",16⟩,⟨"At",3,3,false, "", "",24⟩,⟨"Sub",3,4,false, "", "",32⟩,⟨"Usage",3,5,false, "", "",40⟩,⟨"B",9,6,false, "", "",48⟩,⟨"Used",3,7,false, "", "",64⟩,⟨"Ask",3,8,false, "", "",72⟩]⟩) by kernel_rfl) (by kernel_rfl) (.pr Ur rfl rfl rfl (.pr Ur rfl rfl rfl (.pr Ur rfl rfl rfl (.pr Ur rfl rfl rfl (.pr Ur rfl rfl rfl (.pr Ur rfl rfl rfl (.pr Qmj rfl rfl rfl (.pr Ur rfl rfl rfl (.last Ur rfl rfl rfl)))))))))
theorem Jvn:Q7 Tryz.prog 45 Ui:=Vk (show Tryz.prog.underlying 45=some (.struct ⟨[⟨"Request",43,0,false, "", "",0⟩,⟨"Expire",4,9,false, "", "",80⟩]⟩) by kernel_rfl) (by kernel_rfl) (.pr Jvm rfl rfl rfl (.last Jgs rfl rfl rfl))
theorem Jvo:Q7 Tryz.prog 35 (.sl Ui):=Uf (show Tryz.prog.underlying 35=some (.slice 45) by kernel_rfl) (by kernel_rfl) Jvn (by decide) (by kernel_rfl)
theorem Jvp:Q7 Tryz.prog 37 Zy:=Vk (show Tryz.prog.underlying 37=some (.struct ⟨[⟨"Book",29,0,false, "", "",0⟩,⟨"State",34,6,false, "", "",144⟩,⟨"Ops",35,9,false, "", "",216⟩]⟩) by kernel_rfl) (by kernel_rfl) (.pr Jvh rfl rfl rfl (.pr Jvl rfl rfl rfl (.last Jvo rfl rfl rfl)))
end Gx
namespace Go.Proofs.YtpdhjildhjpjdaaGreat
open Go Gd Gx Go.ChangeShapes Go.WideShapes Go.ChangeAt Go.RowKit
set_option linter.unusedVariables false
set_option maxRecDepth 100000 in
/-- What the walk and the plain law give. -/
theorem Qmk(os:Os)(started:os.Started)(H:Type)(enc:TypeId×Value→H) :
  ReturnsInHanded {} Tryz.checked os 3 .any (Rows.onlineOnceSpec.pre6 enc Tryz.prog Tryz.f3 Rows.onlineOnceRow.domain false) (Rows.onlineOnceSpec.post enc Tryz.prog Tryz.f3 false true false false):=by
 refine returnsInHanded_of_change_sized (C:=Tryz.checked) (by kernel_rfl) started (by kernel_rfl) Tryz.func3
  (ChangeSpec.witness6 (enc:=enc) (C:=Tryz.checked) false ⟨#[],#[.agg #[.slice none 0 0,.slice none 0 0,.slice none 0 0,.slice none 0 0,.slice none 0 0,.slice none 0 0,.slice none 0 0,.slice none 0 0,.slice none 0 0,.slice none 0 0]],[]⟩ 8 (by kernel_rfl) (by kernel_rfl) (by kernel_rfl) (by kernel_rfl)) ?_
 intro W base args ds gs before hval0 hW hcnd hz _
 have hval:∀(j:Nat) t v,Tryz.f3.params[j]?=some t→args[j]?=some v→Value.okWide Tryz.prog W .any base t v:=hval0
 obtain⟨v0,x0,hargs,hv0,g0⟩:=Jtb (show Tryz.f3.params=#[37] by kernel_rfl) hval hW hz Jvp
 obtain⟨N,hF⟩:=Qul x0 g0
 subst hargs
 exact Jhr (tb:=4) (by kernel_rfl) (show Tryz.prog.underlying 4=some .bool by kernel_rfl) rfl (by kernel_rfl) (by kernel_rfl) (fun d hd=>(match d,hd with
   | [d0],_=>rfl)) hW
  (Je9 (c:=(Ez N).1) ((Ez N).2.1 (lt W) W [] (fun _=>0) (fun _=>undef) x0 true [v0] (fun _ _ h=>h) (fun q hq=>by cases hq) rfl Je8 (Juo hv0) hF) rfl)

theorem A4{a b:Bool}(ha:a=true)(hb:b=true):(a&&b)=true:=by rw[ha,hb]; rfl
theorem jf0:(Rows.onlineOnceRow.wf (OpenSpec.ofChange Rows.onlineOnceSpec))=true:=by kernel_rfl
theorem jf1:(laidOutB Tryz.prog)=true:=by kernel_rfl
theorem jf2:(mapsRowed Tryz.prog)=true:=by kernel_rfl
theorem jf3:(Tryz.f3.params.all (Tryz.prog.readableRec ·))=true:=by kernel_rfl
theorem jf4:(namedTie Tryz.prog Rows.onlineOnceRow.named Rows.onlineOnceSpec.vars)=true:=by kernel_rfl
theorem jf5:((Rows.onlineOnceRow.stops==[]))=true:=by kernel_rfl
theorem jf6:((Tryz.prog.stops==[]))=true:=by kernel_rfl
theorem jf7:((Rows.onlineOnceRow.knobs==[]))=true:=by kernel_rfl
theorem jf8:((Tryz.prog.stopKnobs==[]))=true:=by kernel_rfl
theorem jf9:((Rows.onlineOnceRow.inPlace==Tryz.prog.inPlace 3))=true:=by kernel_rfl
theorem Jvy:((Rows.onlineOnceRow.unfollowed==Tryz.prog.unfollowed 3))=true:=by kernel_rfl
theorem Jvz:((Rows.onlineOnceRow.recurses==Tryz.prog.recurses 3))=true:=by kernel_rfl
theorem Jv0:((Rows.onlineOnceRow.named==Tryz.prog.varsNamed 3))=true:=by kernel_rfl
theorem Jv1:((Rows.onlineOnceRow.maps==(Tryz.f3.params.toList++Rows.onlineOnceSpec.plain.varTypes Tryz.prog).any (Tryz.prog.mapsRec ·)))=true:=by kernel_rfl
theorem Jv2:((Rows.onlineOnceRow.ifaces==(Tryz.f3.params.toList++Rows.onlineOnceSpec.plain.varTypes Tryz.prog).any (Tryz.prog.ifacesRec ·)))=true:=by kernel_rfl
theorem Jv3:((Rows.onlineOnceRow.mapsOut==Tryz.prog.mapsAmong Tryz.f3.resultTypes.toList))=true:=by kernel_rfl
theorem Jv4:((Rows.onlineOnceRow.loops==(Tryz.f3.params.toList++Rows.onlineOnceSpec.plain.varTypes Tryz.prog).any (Tryz.prog.loopsFrom ·)))=true:=by kernel_rfl
theorem Jv5:((Rows.onlineOnceRow.wideKeys==(Tryz.f3.params.toList++Rows.onlineOnceSpec.plain.varTypes Tryz.prog++Tryz.f3.resultTypes.toList).any (Tryz.prog.wideKeysFrom ·)))=true:=by kernel_rfl
theorem Jv6:(Rows.onlineOnceSpec.vars.all (Tryz.prog.varReadable ·))=true:=by kernel_rfl
theorem Jv7:(Tryz.f3.resultTypes.all (fun t=>Tryz.prog.readableRec t&&decide (t<Tryz.prog.types.size)))=true:=by kernel_rfl
theorem Jv8:((Rows.onlineOnceRow.ifacesOut==Tryz.f3.resultTypes.toList.any (Tryz.prog.ifacesRec ·)))=true:=by kernel_rfl
theorem Jv9:((Rows.onlineOnceRow.loopsOut==Tryz.f3.resultTypes.toList.any (Tryz.prog.loopsFrom ·)))=true:=by kernel_rfl
theorem Jwa:((Rows.onlineOnceRow.plainKeys==Tryz.prog.plainKeys))=true:=by kernel_rfl
theorem Jwb:(Rows.onlineOnceRow.shortTexts.isNone)=true:=by kernel_rfl
theorem Jwc:(Tryz.prog.stopsHeard)=true:=by kernel_rfl
theorem Jwd:(Tryz.prog.mayEnter)=true:=by kernel_rfl
theorem Jwe:((Rows.onlineOnceRow.lifted==Tryz.prog.liftsFinal))=true:=by kernel_rfl
theorem Jwf:((Tryz.prog.make==some Rows.onlineOnceRow.make))=true:=by kernel_rfl
theorem Jwg:((Rows.onlineOnceRow.kinds==(if Rows.onlineOnceRow.domain.isEmpty then []else Tryz.f3.params.toList.map fun t=>match Tryz.prog.underlying t with | some (.int k)=>some k | _=>none)))=true:=by kernel_rfl
theorem Jwh:((Rows.onlineOnceRow.pinned==Rows.onlineOnceRow.pinnedBy))=true:=by kernel_rfl
theorem Jwi:((Rows.onlineOnceRow.veiled==(Tryz.f3.params.toList++Rows.onlineOnceSpec.plain.varTypes Tryz.prog++Tryz.f3.resultTypes.toList).any (Tryz.prog.veiledRec ·)))=true:=by kernel_rfl
theorem Jwj:(Rows.onlineOnceRow.veiledFits Tryz.prog Tryz.f3.params.toList (Tryz.f3.params.toList++Rows.onlineOnceSpec.plain.varTypes Tryz.prog++Tryz.f3.resultTypes.toList))=true:=by kernel_rfl
set_option maxRecDepth 100000 in
theorem Jvq:joinedFacts Tryz.prog 3 Tryz.f3 Rows.onlineOnceSpec Rows.onlineOnceRow=true:=(A4 (A4 (A4 (A4 (A4 (A4 (A4 (A4 (A4 (A4 (A4 (A4 (A4 (A4 (A4 (A4 (A4 (A4 (A4 (A4 (A4 (A4 (A4 (A4 (A4 (A4 (A4 (A4 (A4 (A4 (A4 jf0 jf1) jf2) jf3) jf4) jf5) jf6) jf7) jf8) jf9) Jvy) Jvz) Jv0) Jv1) Jv2) Jv3) Jv4) Jv5) Jv6) Jv7) Jv8) Jv9) Jwa) Jwb) Jwc) Jwd) Jwe) Jwf) Jwg) Jwh) Jwi) Jwj)
/-- The statement OnlineOnce. -/
theorem onlineOnce_proved:Rows.OnlineOnceSaid :=
 OpenClaim.holds_of_wide 3 Tryz.f3 rfl rfl rfl rfl rfl rfl rfl ⟨rfl,rfl,rfl,rfl,rfl⟩ rfl rfl rfl rfl rfl (by kernel_rfl) Tryz.func3 Jvq
  (of_decide_eq_true (by kernel_rfl)) (by unfold Func.isWrapper; first | (rw[if_pos (by decide +kernel)]; kernel_rfl) | (rw[if_neg (by decide +kernel)]; exact⟨rfl,rfl⟩))
  (fun os started H enc _=>Qmk os started H enc)
end Go.Proofs.YtpdhjildhjpjdaaGreat
