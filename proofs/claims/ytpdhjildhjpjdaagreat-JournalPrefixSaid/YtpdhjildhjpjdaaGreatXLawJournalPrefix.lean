/- JournalPrefix: proved for every input. The plain law, the walk of the law, and the statement. Conditions: none. -/
import Derived.Test.YtpdhjildhjpjdaaGreatRows
import Derived.Test.YtpdhjildhjpjdaaGreatXRuns
import Derived.Test.YtpdhjildhjpjdaaGreatXPlainJournalPrefix
import Derived.Test.YtpdhjildhjpjdaaGreatXRo
import Derived.WalkKit
import Derived.ProofKit
import Derived.OpenShut
import Derived.SizedLaws
namespace Gx
open Go Gd Go.Proofs Go.Proofs.YtpdhjildhjpjdaaGreat Go.RowKit Go.WideShapes Go.ChangeShapes
set_option linter.unusedVariables false
theorem Ue:Q7 Tryz.prog 3 (.int .i64):=Qzc (show Tryz.prog.underlying 3=some (.int .i64) by kernel_rfl) (by kernel_rfl)
theorem Qm4:Q7 Tryz.prog 9 .str:=Jhu (show Tryz.prog.underlying 9=some (.string) by kernel_rfl) (by kernel_rfl)
theorem Jvs:Q7 Tryz.prog 135 Jp:=Vl (show Tryz.prog.underlying 135=some (.struct ⟨[⟨"At",3,0,false, "", "",0⟩,⟨"Kind",3,1,false, "", "",8⟩,⟨"Account",3,2,false, "", "",16⟩,⟨"Sub",3,3,false, "", "",24⟩,⟨"Number",9,4,false, "", "",32⟩,⟨"Name",9,5,false, "", "",48⟩,⟨"Value",3,6,false, "", "",64⟩]⟩) by kernel_rfl) (by kernel_rfl) (.pr Ue rfl rfl rfl (.pr Ue rfl rfl rfl (.pr Ue rfl rfl rfl (.pr Ue rfl rfl rfl (.pr Qm4 rfl rfl rfl (.pr Qm4 rfl rfl rfl (.last Ue rfl rfl rfl)))))))
theorem Jxx:Q7 Tryz.prog 22 (.sl Jp):=V6 (show Tryz.prog.underlying 22=some (.slice 135) by kernel_rfl) (by kernel_rfl) Jvs (by decide) (by kernel_rfl)
theorem Jn7:Q7 Tryz.prog 4 .bool:=Jbg (show Tryz.prog.underlying 4=some (.bool) by kernel_rfl) (by kernel_rfl)
theorem Jbl:Q7 Tryz.prog 125 (.sl .str):=V6 (show Tryz.prog.underlying 125=some (.slice 9) by kernel_rfl) (by kernel_rfl) Qm4 (by decide) (by kernel_rfl)
theorem Jvt:Q7 Tryz.prog 210 V4:=Vl (show Tryz.prog.underlying 210=some (.struct ⟨[⟨"Name",9,0,false, "", "",0⟩,⟨"Prefixes",125,1,false, "", "",16⟩]⟩) by kernel_rfl) (by kernel_rfl) (.pr Qm4 rfl rfl rfl (.last Jbl rfl rfl rfl))
theorem Jvu:Q7 Tryz.prog 143 (.sl V4):=V6 (show Tryz.prog.underlying 143=some (.slice 210) by kernel_rfl) (by kernel_rfl) Jvt (by decide) (by kernel_rfl)
theorem Jvv:Q7 Tryz.prog 221 Zg:=Vl (show Tryz.prog.underlying 221=some (.struct ⟨[⟨"Days",3,0,false, "", "",0⟩,⟨"From",3,1,false, "", "",8⟩,⟨"To",3,2,false, "", "",16⟩]⟩) by kernel_rfl) (by kernel_rfl) (.pr Ue rfl rfl rfl (.pr Ue rfl rfl rfl (.last Ue rfl rfl rfl)))
theorem Jvw:Q7 Tryz.prog 136 (.sl Zg):=V6 (show Tryz.prog.underlying 136=some (.slice 221) by kernel_rfl) (by kernel_rfl) Jvv (by decide) (by kernel_rfl)
theorem Jvx:Q7 Tryz.prog 138 V8:=Vl (show Tryz.prog.underlying 138=some (.struct ⟨[⟨"Name",9,0,false, "", "",0⟩,⟨"Slots",136,1,false, "", "",16⟩]⟩) by kernel_rfl) (by kernel_rfl) (.pr Qm4 rfl rfl rfl (.last Jvw rfl rfl rfl))
theorem Jvy:Q7 Tryz.prog 139 (.sl V8):=V6 (show Tryz.prog.underlying 139=some (.slice 138) by kernel_rfl) (by kernel_rfl) Jvx (by decide) (by kernel_rfl)
theorem Jvz:Q7 Tryz.prog 141 Vh:=Vl (show Tryz.prog.underlying 141=some (.struct ⟨[⟨"Upto",3,0,false, "", "",0⟩,⟨"Quantum",3,1,false, "", "",8⟩,⟨"Price",3,2,false, "", "",16⟩]⟩) by kernel_rfl) (by kernel_rfl) (.pr Ue rfl rfl rfl (.pr Ue rfl rfl rfl (.last Ue rfl rfl rfl)))
theorem Jt3:Q7 Tryz.prog 74 (.sl Vh):=V6 (show Tryz.prog.underlying 74=some (.slice 141) by kernel_rfl) (by kernel_rfl) Jvz (by decide) (by kernel_rfl)
theorem Jxy:Q7 Tryz.prog 76 Xl:=Vl (show Tryz.prog.underlying 76=some (.struct ⟨[⟨"Kind",3,0,false, "", "",0⟩,⟨"Zone",9,1,false, "", "",8⟩,⟨"Band",9,2,false, "", "",24⟩,⟨"Setup",3,3,false, "", "",40⟩,⟨"Steps",74,4,false, "", "",48⟩]⟩) by kernel_rfl) (by kernel_rfl) (.pr Ue rfl rfl rfl (.pr Qm4 rfl rfl rfl (.pr Qm4 rfl rfl rfl (.pr Ue rfl rfl rfl (.last Jt3 rfl rfl rfl)))))
theorem Jv0:Q7 Tryz.prog 142 (.sl Xl):=V6 (show Tryz.prog.underlying 142=some (.slice 76) by kernel_rfl) (by kernel_rfl) Jxy (by decide) (by kernel_rfl)
theorem Jv1:Q7 Tryz.prog 216 Xm:=Qo1 (Q92 (show Tryz.prog.underlying 216=some (.struct ⟨[⟨"Op",3,0,false, "", "",0⟩,⟨"Num",3,1,false, "", "",8⟩,⟨"Text",9,2,false, "", "",16⟩,⟨"Args",214,3,false, "", "",32⟩]⟩) by kernel_rfl) rfl (by kernel_rfl) (Qn4 (show Tryz.prog.underlying 3=some (.int .i64) by kernel_rfl) (by kernel_rfl)) (Qn4 (show Tryz.prog.underlying 3=some (.int .i64) by kernel_rfl) (by kernel_rfl)) (Qxv (show Tryz.prog.underlying 9=some (.string) by kernel_rfl) (by kernel_rfl)) (show Tryz.prog.underlying 214=some (.slice 216) by kernel_rfl) (by kernel_rfl) rfl rfl rfl ⟨rfl,rfl⟩ ⟨rfl,rfl⟩ ⟨rfl,rfl⟩ ⟨rfl,rfl⟩) fun _ h=>h
theorem Jv2:Q7 Tryz.prog 218 Uh:=Vl (show Tryz.prog.underlying 218=some (.struct ⟨[⟨"Name",9,0,false, "", "",0⟩,⟨"When",216,1,false, "", "",16⟩,⟨"Points",3,5,false, "", "",72⟩]⟩) by kernel_rfl) (by kernel_rfl) (.pr Qm4 rfl rfl rfl (.pr Jv1 rfl rfl rfl (.last Ue rfl rfl rfl)))
theorem Jv3:Q7 Tryz.prog 144 (.sl Uh):=V6 (show Tryz.prog.underlying 144=some (.slice 218) by kernel_rfl) (by kernel_rfl) Jv2 (by decide) (by kernel_rfl)
theorem Jv4:Q7 Tryz.prog 146 Yg:=Vl (show Tryz.prog.underlying 146=some (.struct ⟨[⟨"Name",9,0,false, "", "",0⟩,⟨"From",3,1,false, "", "",16⟩,⟨"Split",4,2,false, "", "",24⟩,⟨"Zones",143,3,false, "", "",32⟩,⟨"Bands",139,4,false, "", "",56⟩,⟨"Rates",142,5,false, "", "",80⟩,⟨"Discounts",144,6,false, "", "",104⟩]⟩) by kernel_rfl) (by kernel_rfl) (.pr Qm4 rfl rfl rfl (.pr Ue rfl rfl rfl (.pr Jn7 rfl rfl rfl (.pr Jvu rfl rfl rfl (.pr Jvy rfl rfl rfl (.pr Jv0 rfl rfl rfl (.last Jv3 rfl rfl rfl)))))))
theorem Jxz:Q7 Tryz.prog 23 (.sl Yg):=V6 (show Tryz.prog.underlying 23=some (.slice 146) by kernel_rfl) (by kernel_rfl) Jv4 (by decide) (by kernel_rfl)
theorem Jv5:Q7 Tryz.prog 160 Zd:=Vl (show Tryz.prog.underlying 160=some (.struct ⟨[⟨"Kind",3,0,false, "", "",0⟩,⟨"Zones",125,1,false, "", "",8⟩,⟨"Units",3,2,false, "", "",32⟩,⟨"Rollover",3,3,false, "", "",40⟩,⟨"Priority",3,4,false, "", "",48⟩,⟨"Shared",4,5,false, "", "",56⟩]⟩) by kernel_rfl) (by kernel_rfl) (.pr Ue rfl rfl rfl (.pr Jbl rfl rfl rfl (.pr Ue rfl rfl rfl (.pr Ue rfl rfl rfl (.pr Ue rfl rfl rfl (.last Jn7 rfl rfl rfl))))))
theorem Jv6:Q7 Tryz.prog 131 (.sl Zd):=V6 (show Tryz.prog.underlying 131=some (.slice 160) by kernel_rfl) (by kernel_rfl) Jv5 (by decide) (by kernel_rfl)
theorem Jv7:Q7 Tryz.prog 133 J3:=Vl (show Tryz.prog.underlying 133=some (.struct ⟨[⟨"Name",9,0,false, "", "",0⟩,⟨"From",3,1,false, "", "",16⟩,⟨"Fee",3,2,false, "", "",24⟩,⟨"Category",9,3,false, "", "",32⟩,⟨"Prorate",4,4,false, "", "",48⟩,⟨"Bundles",131,5,false, "", "",56⟩]⟩) by kernel_rfl) (by kernel_rfl) (.pr Qm4 rfl rfl rfl (.pr Ue rfl rfl rfl (.pr Ue rfl rfl rfl (.pr Qm4 rfl rfl rfl (.pr Jn7 rfl rfl rfl (.last Jv6 rfl rfl rfl))))))
theorem Jx0:Q7 Tryz.prog 24 (.sl J3):=V6 (show Tryz.prog.underlying 24=some (.slice 133) by kernel_rfl) (by kernel_rfl) Jv7 (by decide) (by kernel_rfl)
theorem Jv8:Q7 Tryz.prog 150 Hd:=Vl (show Tryz.prog.underlying 150=some (.struct ⟨[⟨"Category",9,0,false, "", "",0⟩,⟨"From",3,1,false, "", "",16⟩,⟨"Points",3,2,false, "", "",24⟩]⟩) by kernel_rfl) (by kernel_rfl) (.pr Qm4 rfl rfl rfl (.pr Ue rfl rfl rfl (.last Ue rfl rfl rfl)))
theorem Jx1:Q7 Tryz.prog 25 (.sl Hd):=V6 (show Tryz.prog.underlying 25=some (.slice 150) by kernel_rfl) (by kernel_rfl) Jv8 (by decide) (by kernel_rfl)
theorem Jx2:Q7 Tryz.prog 26 (.sl (.int .i64)):=V6 (show Tryz.prog.underlying 26=some (.slice 3) by kernel_rfl) (by kernel_rfl) Ue (by decide) (by kernel_rfl)
theorem Jn8:Q7 Tryz.prog 127 J4:=Vl (show Tryz.prog.underlying 127=some (.struct ⟨[⟨"From",3,0,false, "", "",0⟩,⟨"To",3,1,false, "", "",8⟩]⟩) by kernel_rfl) (by kernel_rfl) (.pr Ue rfl rfl rfl (.last Ue rfl rfl rfl))
theorem Jv9:Q7 Tryz.prog 156 Y8:=Vl (show Tryz.prog.underlying 156=some (.struct ⟨[⟨"Partner",3,0,false, "", "",0⟩,⟨"Kind",3,1,false, "", "",8⟩,⟨"Inbound",4,2,false, "", "",16⟩,⟨"Valid",127,3,false, "", "",24⟩,⟨"Steps",74,5,false, "", "",40⟩,⟨"Cap",3,6,false, "", "",64⟩]⟩) by kernel_rfl) (by kernel_rfl) (.pr Ue rfl rfl rfl (.pr Ue rfl rfl rfl (.pr Jn7 rfl rfl rfl (.pr Jn8 rfl rfl rfl (.pr Jt3 rfl rfl rfl (.last Ue rfl rfl rfl))))))
theorem Jx3:Q7 Tryz.prog 27 (.sl Y8):=V6 (show Tryz.prog.underlying 27=some (.slice 156) by kernel_rfl) (by kernel_rfl) Jv9 (by decide) (by kernel_rfl)
theorem Jx4:Q7 Tryz.prog 29 Uq:=Vl (show Tryz.prog.underlying 29=some (.struct ⟨[⟨"Events",22,0,false, "", "",0⟩,⟨"Tariffs",23,1,false, "", "",24⟩,⟨"Products",24,2,false, "", "",48⟩,⟨"Taxes",25,3,false, "", "",72⟩,⟨"Holidays",26,4,false, "", "",96⟩,⟨"Agreements",27,5,false, "", "",120⟩]⟩) by kernel_rfl) (by kernel_rfl) (.pr Jxx rfl rfl rfl (.pr Jxz rfl rfl rfl (.pr Jx0 rfl rfl rfl (.pr Jx1 rfl rfl rfl (.pr Jx2 rfl rfl rfl (.last Jx3 rfl rfl rfl))))))
theorem Jwa:Q7 Tryz.prog 129 Q9:=Vl (show Tryz.prog.underlying 129=some (.struct ⟨[⟨"Account",3,0,false, "", "",0⟩,⟨"Sub",3,1,false, "", "",8⟩,⟨"Product",9,2,false, "", "",16⟩,⟨"Index",3,3,false, "", "",32⟩,⟨"Kind",3,4,false, "", "",40⟩,⟨"Zones",125,5,false, "", "",48⟩,⟨"Valid",127,6,false, "", "",72⟩,⟨"Units",3,8,false, "", "",88⟩,⟨"Left",3,9,false, "", "",96⟩,⟨"Priority",3,10,false, "", "",104⟩,⟨"Shared",4,11,false, "", "",112⟩]⟩) by kernel_rfl) (by kernel_rfl) (.pr Ue rfl rfl rfl (.pr Ue rfl rfl rfl (.pr Qm4 rfl rfl rfl (.pr Ue rfl rfl rfl (.pr Ue rfl rfl rfl (.pr Jbl rfl rfl rfl (.pr Jn8 rfl rfl rfl (.pr Ue rfl rfl rfl (.pr Ue rfl rfl rfl (.pr Ue rfl rfl rfl (.last Jn7 rfl rfl rfl)))))))))))
theorem Jx5:Q7 Tryz.prog 30 (.sl Q9):=V6 (show Tryz.prog.underlying 30=some (.slice 129) by kernel_rfl) (by kernel_rfl) Jwa (by decide) (by kernel_rfl)
theorem Jwb:Q7 Tryz.prog 101 J5:=Vl (show Tryz.prog.underlying 101=some (.struct ⟨[⟨"Account",3,0,false, "", "",0⟩,⟨"Balance",3,1,false, "", "",8⟩,⟨"Floor",3,2,false, "", "",16⟩,⟨"Held",3,3,false, "", "",24⟩,⟨"Until",3,4,false, "", "",32⟩]⟩) by kernel_rfl) (by kernel_rfl) (.pr Ue rfl rfl rfl (.pr Ue rfl rfl rfl (.pr Ue rfl rfl rfl (.pr Ue rfl rfl rfl (.last Ue rfl rfl rfl)))))
theorem Jx6:Q7 Tryz.prog 31 (.sl J5):=V6 (show Tryz.prog.underlying 31=some (.slice 101) by kernel_rfl) (by kernel_rfl) Jwb (by decide) (by kernel_rfl)
theorem Jwc:Q7 Tryz.prog 103 Ui:=Vl (show Tryz.prog.underlying 103=some (.struct ⟨[⟨"Sub",3,0,false, "", "",0⟩,⟨"Kind",3,1,false, "", "",8⟩,⟨"From",3,2,false, "", "",16⟩,⟨"Units",3,3,false, "", "",24⟩,⟨"Spent",3,4,false, "", "",32⟩]⟩) by kernel_rfl) (by kernel_rfl) (.pr Ue rfl rfl rfl (.pr Ue rfl rfl rfl (.pr Ue rfl rfl rfl (.pr Ue rfl rfl rfl (.last Ue rfl rfl rfl)))))
theorem Jx7:Q7 Tryz.prog 32 (.sl Ui):=V6 (show Tryz.prog.underlying 32=some (.slice 103) by kernel_rfl) (by kernel_rfl) Jwc (by decide) (by kernel_rfl)
theorem Jx8:Q7 Tryz.prog 34 J2:=Vl (show Tryz.prog.underlying 34=some (.struct ⟨[⟨"Buckets",30,0,false, "", "",0⟩,⟨"Wallets",31,1,false, "", "",24⟩,⟨"Counters",32,2,false, "", "",48⟩]⟩) by kernel_rfl) (by kernel_rfl) (.pr Jx5 rfl rfl rfl (.pr Jx6 rfl rfl rfl (.last Jx7 rfl rfl rfl)))
theorem Jx9:Q7 Tryz.prog 43 J6:=Vl (show Tryz.prog.underlying 43=some (.struct ⟨[⟨"Session",3,0,false, "", "",0⟩,⟨"Seq",3,1,false, "", "",8⟩,⟨"Kind",3,2,false, "", "",16⟩,⟨"At",3,3,false, "", "",24⟩,⟨"Sub",3,4,false, "", "",32⟩,⟨"Usage",3,5,false, "", "",40⟩,⟨"B",9,6,false, "", "",48⟩,⟨"Used",3,7,false, "", "",64⟩,⟨"Ask",3,8,false, "", "",72⟩]⟩) by kernel_rfl) (by kernel_rfl) (.pr Ue rfl rfl rfl (.pr Ue rfl rfl rfl (.pr Ue rfl rfl rfl (.pr Ue rfl rfl rfl (.pr Ue rfl rfl rfl (.pr Ue rfl rfl rfl (.pr Qm4 rfl rfl rfl (.pr Ue rfl rfl rfl (.last Ue rfl rfl rfl)))))))))
theorem Jya:Q7 Tryz.prog 60 (.sl J6):=V6 (show Tryz.prog.underlying 60=some (.slice 43) by kernel_rfl) (by kernel_rfl) Jx9 (by decide) (by kernel_rfl)
theorem Jyb:Q7 Tryz.prog 62 Vd:=Vl (show Tryz.prog.underlying 62=some (.struct ⟨[⟨"Book",29,0,false, "", "",0⟩,⟨"State",34,6,false, "", "",144⟩,⟨"Requests",60,9,false, "", "",216⟩]⟩) by kernel_rfl) (by kernel_rfl) (.pr Jx4 rfl rfl rfl (.pr Jx8 rfl rfl rfl (.last Jya rfl rfl rfl)))
theorem Jym:Q7 Tryz.prog 5 (.int .u8):=Qzc (show Tryz.prog.underlying 5=some (.int .u8) by kernel_rfl) (by kernel_rfl)
end Gx
namespace Go.Proofs.YtpdhjildhjpjdaaGreat
open Go Gd Gx Go.ChangeShapes Go.WideShapes Go.ChangeAt Go.RowKit
set_option linter.unusedVariables false
set_option maxRecDepth 100000 in
/-- What the walk and the plain law give. -/
theorem Qhh(os:Os)(started:os.Started)(H:Type)(enc:TypeId×Value→H) :
  ReturnsInHanded {} Tryz.checked os 5 .any (Rows.journalPrefixSpec.pre6 enc Tryz.prog Tryz.f5 Rows.journalPrefixRow.domain false) (Rows.journalPrefixSpec.post enc Tryz.prog Tryz.f5 false true false false):=by
 refine returnsInHanded_of_change_sized (C:=Tryz.checked) (by kernel_rfl) started (by kernel_rfl) Tryz.func5
  (ChangeSpec.witness6 (enc:=enc) (C:=Tryz.checked) false ⟨#[],#[.agg #[.slice none 0 0,.slice none 0 0,.slice none 0 0,.slice none 0 0,.slice none 0 0,.slice none 0 0,.slice none 0 0,.slice none 0 0,.slice none 0 0,.slice none 0 0],.int .u8 0,.int .i64 0],[]⟩ 8 (by kernel_rfl) (by kernel_rfl) (by kernel_rfl) (by kernel_rfl)) ?_
 intro W base args ds gs before hval0 hW hcnd hz _
 have hval:∀(j:Nat) t v,Tryz.f5.params[j]?=some t→args[j]?=some v→Value.okWide Tryz.prog W .any base t v:=hval0
 obtain⟨v0,v1,v2,x0,x1,x2,hargs,hv0,g0,hv1,g1,hv2,g2⟩:=Jvn (show Tryz.f5.params=#[62,5,3] by kernel_rfl) hval hW hz Jyb Jym Ue
 obtain⟨N,hF⟩:=Qm3 x0 g0 x1 g1 x2 g2
 subst hargs
 exact Jix (tb:=4) (by kernel_rfl) (show Tryz.prog.underlying 4=some .bool by kernel_rfl) rfl (by kernel_rfl) (by kernel_rfl) (fun d hd=>(match d,hd with
   | [d0,d1,d2],_=>rfl)) hW
  (Jgh (c:=(W8 N).1) ((W8 N).2.1 (lt W) W [] (fun _=>0) (fun _=>undef) (x0,x1,x2) true [v0,v1,v2] (fun _ _ h=>h) (fun q hq=>by cases hq) rfl Jgg (Jw0 hv0 hv1 hv2) hF) rfl)

theorem Aj{a b:Bool}(ha:a=true)(hb:b=true):(a&&b)=true:=by rw[ha,hb]; rfl
theorem jf0:(Rows.journalPrefixRow.wf (OpenSpec.ofChange Rows.journalPrefixSpec))=true:=by kernel_rfl
theorem jf1:(laidOutB Tryz.prog)=true:=by kernel_rfl
theorem jf2:(mapsRowed Tryz.prog)=true:=by kernel_rfl
theorem jf3:(Tryz.f5.params.all (Tryz.prog.readableRec ·))=true:=by kernel_rfl
theorem jf4:(namedTie Tryz.prog Rows.journalPrefixRow.named Rows.journalPrefixSpec.vars)=true:=by kernel_rfl
theorem jf5:((Rows.journalPrefixRow.stops==[]))=true:=by kernel_rfl
theorem jf6:((Tryz.prog.stops==[]))=true:=by kernel_rfl
theorem jf7:((Rows.journalPrefixRow.knobs==[]))=true:=by kernel_rfl
theorem jf8:((Tryz.prog.stopKnobs==[]))=true:=by kernel_rfl
theorem jf9:((Rows.journalPrefixRow.inPlace==Tryz.prog.inPlace 5))=true:=by kernel_rfl
theorem Jyn:((Rows.journalPrefixRow.unfollowed==Tryz.prog.unfollowed 5))=true:=by kernel_rfl
theorem Jyo:((Rows.journalPrefixRow.recurses==Tryz.prog.recurses 5))=true:=by kernel_rfl
theorem Jyp:((Rows.journalPrefixRow.named==Tryz.prog.varsNamed 5))=true:=by kernel_rfl
theorem Jyq:((Rows.journalPrefixRow.maps==(Tryz.f5.params.toList++Rows.journalPrefixSpec.plain.varTypes Tryz.prog).any (Tryz.prog.mapsRec ·)))=true:=by kernel_rfl
theorem Jyr:((Rows.journalPrefixRow.ifaces==(Tryz.f5.params.toList++Rows.journalPrefixSpec.plain.varTypes Tryz.prog).any (Tryz.prog.ifacesRec ·)))=true:=by kernel_rfl
theorem Jys:((Rows.journalPrefixRow.mapsOut==Tryz.prog.mapsAmong Tryz.f5.resultTypes.toList))=true:=by kernel_rfl
theorem Jyt:((Rows.journalPrefixRow.loops==(Tryz.f5.params.toList++Rows.journalPrefixSpec.plain.varTypes Tryz.prog).any (Tryz.prog.loopsFrom ·)))=true:=by kernel_rfl
theorem Jyu:((Rows.journalPrefixRow.wideKeys==(Tryz.f5.params.toList++Rows.journalPrefixSpec.plain.varTypes Tryz.prog++Tryz.f5.resultTypes.toList).any (Tryz.prog.wideKeysFrom ·)))=true:=by kernel_rfl
theorem Jyv:(Rows.journalPrefixSpec.vars.all (Tryz.prog.varReadable ·))=true:=by kernel_rfl
theorem Jyw:(Tryz.f5.resultTypes.all (fun t=>Tryz.prog.readableRec t&&decide (t<Tryz.prog.types.size)))=true:=by kernel_rfl
theorem Jyx:((Rows.journalPrefixRow.ifacesOut==Tryz.f5.resultTypes.toList.any (Tryz.prog.ifacesRec ·)))=true:=by kernel_rfl
theorem Jyy:((Rows.journalPrefixRow.loopsOut==Tryz.f5.resultTypes.toList.any (Tryz.prog.loopsFrom ·)))=true:=by kernel_rfl
theorem Jyz:((Rows.journalPrefixRow.plainKeys==Tryz.prog.plainKeys))=true:=by kernel_rfl
theorem Jy0:(Rows.journalPrefixRow.shortTexts.isNone)=true:=by kernel_rfl
theorem Jy1:(Tryz.prog.stopsHeard)=true:=by kernel_rfl
theorem Jy2:(Tryz.prog.mayEnter)=true:=by kernel_rfl
theorem Jy3:((Rows.journalPrefixRow.lifted==Tryz.prog.liftsFinal))=true:=by kernel_rfl
theorem Jy4:((Tryz.prog.make==some Rows.journalPrefixRow.make))=true:=by kernel_rfl
theorem Jy5:((Rows.journalPrefixRow.kinds==(if Rows.journalPrefixRow.domain.isEmpty then []else Tryz.f5.params.toList.map fun t=>match Tryz.prog.underlying t with | some (.int k)=>some k | _=>none)))=true:=by kernel_rfl
theorem Jy6:((Rows.journalPrefixRow.pinned==Rows.journalPrefixRow.pinnedBy))=true:=by kernel_rfl
theorem Jy7:((Rows.journalPrefixRow.veiled==(Tryz.f5.params.toList++Rows.journalPrefixSpec.plain.varTypes Tryz.prog++Tryz.f5.resultTypes.toList).any (Tryz.prog.veiledRec ·)))=true:=by kernel_rfl
theorem Jy8:(Rows.journalPrefixRow.veiledFits Tryz.prog Tryz.f5.params.toList (Tryz.f5.params.toList++Rows.journalPrefixSpec.plain.varTypes Tryz.prog++Tryz.f5.resultTypes.toList))=true:=by kernel_rfl
set_option maxRecDepth 100000 in
theorem Jyc:joinedFacts Tryz.prog 5 Tryz.f5 Rows.journalPrefixSpec Rows.journalPrefixRow=true:=(Aj (Aj (Aj (Aj (Aj (Aj (Aj (Aj (Aj (Aj (Aj (Aj (Aj (Aj (Aj (Aj (Aj (Aj (Aj (Aj (Aj (Aj (Aj (Aj (Aj (Aj (Aj (Aj (Aj (Aj (Aj jf0 jf1) jf2) jf3) jf4) jf5) jf6) jf7) jf8) jf9) Jyn) Jyo) Jyp) Jyq) Jyr) Jys) Jyt) Jyu) Jyv) Jyw) Jyx) Jyy) Jyz) Jy0) Jy1) Jy2) Jy3) Jy4) Jy5) Jy6) Jy7) Jy8)
/-- The statement JournalPrefix. -/
theorem journalPrefix_proved:Rows.JournalPrefixSaid :=
 OpenClaim.holds_of_wide 5 Tryz.f5 rfl rfl rfl rfl rfl rfl rfl ⟨rfl,rfl,rfl,rfl,rfl⟩ rfl rfl rfl rfl rfl (by kernel_rfl) Tryz.func5 Jyc
  (of_decide_eq_true (by kernel_rfl)) (by unfold Func.isWrapper; first | (rw[if_pos (by decide +kernel)]; kernel_rfl) | (rw[if_neg (by decide +kernel)]; exact⟨rfl,rfl⟩))
  (fun os started H enc _=>Qhh os started H enc)
end Go.Proofs.YtpdhjildhjpjdaaGreat
