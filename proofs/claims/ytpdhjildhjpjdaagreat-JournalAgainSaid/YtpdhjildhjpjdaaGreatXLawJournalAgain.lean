/- JournalAgain: proved for every input. The plain law, the walk of the law, and the statement. Conditions: none. -/
import Derived.Test.YtpdhjildhjpjdaaGreatRows
import Derived.Test.YtpdhjildhjpjdaaGreatXRuns
import Derived.Test.YtpdhjildhjpjdaaGreatXPlainJournalAgain
import Derived.Test.YtpdhjildhjpjdaaGreatXRo
import Derived.WalkKit
import Derived.ProofKit
import Derived.OpenShut
import Derived.SizedLaws
namespace Gx
open Go Gd Go.Proofs Go.Proofs.YtpdhjildhjpjdaaGreat Go.RowKit Go.WideShapes Go.ChangeShapes
set_option linter.unusedVariables false
theorem Uo:Jb Tryz.prog 3 (.int .i64):=Jhy (show Tryz.prog.underlying 3=some (.int .i64) by kernel_rfl) (by kernel_rfl)
theorem Qm6:Jb Tryz.prog 9 .str:=Jhz (show Tryz.prog.underlying 9=some (.string) by kernel_rfl) (by kernel_rfl)
theorem Jvu:Jb Tryz.prog 135 Jp:=Vo (show Tryz.prog.underlying 135=some (.struct ⟨[⟨"At",3,0,false, "", "",0⟩,⟨"Kind",3,1,false, "", "",8⟩,⟨"Account",3,2,false, "", "",16⟩,⟨"Sub",3,3,false, "", "",24⟩,⟨"Number",9,4,false, "", "",32⟩,⟨"Name",9,5,false, "", "",48⟩,⟨"Value",3,6,false, "", "",64⟩]⟩) by kernel_rfl) (by kernel_rfl) (.pr Uo rfl rfl rfl (.pr Uo rfl rfl rfl (.pr Uo rfl rfl rfl (.pr Uo rfl rfl rfl (.pr Qm6 rfl rfl rfl (.pr Qm6 rfl rfl rfl (.last Uo rfl rfl rfl)))))))
theorem Jx0:Jb Tryz.prog 22 (.sl Jp):=V9 (show Tryz.prog.underlying 22=some (.slice 135) by kernel_rfl) (by kernel_rfl) Jvu (by decide) (by kernel_rfl)
theorem Jn9:Jb Tryz.prog 4 .bool:=Jbh (show Tryz.prog.underlying 4=some (.bool) by kernel_rfl) (by kernel_rfl)
theorem Jbm:Jb Tryz.prog 125 (.sl .str):=V9 (show Tryz.prog.underlying 125=some (.slice 9) by kernel_rfl) (by kernel_rfl) Qm6 (by decide) (by kernel_rfl)
theorem Jvv:Jb Tryz.prog 210 V3:=Vo (show Tryz.prog.underlying 210=some (.struct ⟨[⟨"Name",9,0,false, "", "",0⟩,⟨"Prefixes",125,1,false, "", "",16⟩]⟩) by kernel_rfl) (by kernel_rfl) (.pr Qm6 rfl rfl rfl (.last Jbm rfl rfl rfl))
theorem Jvw:Jb Tryz.prog 143 (.sl V3):=V9 (show Tryz.prog.underlying 143=some (.slice 210) by kernel_rfl) (by kernel_rfl) Jvv (by decide) (by kernel_rfl)
theorem Jvx:Jb Tryz.prog 221 Zn:=Vo (show Tryz.prog.underlying 221=some (.struct ⟨[⟨"Days",3,0,false, "", "",0⟩,⟨"From",3,1,false, "", "",8⟩,⟨"To",3,2,false, "", "",16⟩]⟩) by kernel_rfl) (by kernel_rfl) (.pr Uo rfl rfl rfl (.pr Uo rfl rfl rfl (.last Uo rfl rfl rfl)))
theorem Jvy:Jb Tryz.prog 136 (.sl Zn):=V9 (show Tryz.prog.underlying 136=some (.slice 221) by kernel_rfl) (by kernel_rfl) Jvx (by decide) (by kernel_rfl)
theorem Jvz:Jb Tryz.prog 138 Ub:=Vo (show Tryz.prog.underlying 138=some (.struct ⟨[⟨"Name",9,0,false, "", "",0⟩,⟨"Slots",136,1,false, "", "",16⟩]⟩) by kernel_rfl) (by kernel_rfl) (.pr Qm6 rfl rfl rfl (.last Jvy rfl rfl rfl))
theorem Jv0:Jb Tryz.prog 139 (.sl Ub):=V9 (show Tryz.prog.underlying 139=some (.slice 138) by kernel_rfl) (by kernel_rfl) Jvz (by decide) (by kernel_rfl)
theorem Jv1:Jb Tryz.prog 141 Vl:=Vo (show Tryz.prog.underlying 141=some (.struct ⟨[⟨"Upto",3,0,false, "", "",0⟩,⟨"Quantum",3,1,false, "", "",8⟩,⟨"Price",3,2,false, "", "",16⟩]⟩) by kernel_rfl) (by kernel_rfl) (.pr Uo rfl rfl rfl (.pr Uo rfl rfl rfl (.last Uo rfl rfl rfl)))
theorem Jt5:Jb Tryz.prog 74 (.sl Vl):=V9 (show Tryz.prog.underlying 74=some (.slice 141) by kernel_rfl) (by kernel_rfl) Jv1 (by decide) (by kernel_rfl)
theorem Jx1:Jb Tryz.prog 76 Xu:=Vo (show Tryz.prog.underlying 76=some (.struct ⟨[⟨"Kind",3,0,false, "", "",0⟩,⟨"Zone",9,1,false, "", "",8⟩,⟨"Band",9,2,false, "", "",24⟩,⟨"Setup",3,3,false, "", "",40⟩,⟨"Steps",74,4,false, "", "",48⟩]⟩) by kernel_rfl) (by kernel_rfl) (.pr Uo rfl rfl rfl (.pr Qm6 rfl rfl rfl (.pr Qm6 rfl rfl rfl (.pr Uo rfl rfl rfl (.last Jt5 rfl rfl rfl)))))
theorem Jv2:Jb Tryz.prog 142 (.sl Xu):=V9 (show Tryz.prog.underlying 142=some (.slice 76) by kernel_rfl) (by kernel_rfl) Jx1 (by decide) (by kernel_rfl)
theorem Jv3:Jb Tryz.prog 216 Xv:=Qo3 (Q92 (show Tryz.prog.underlying 216=some (.struct ⟨[⟨"Op",3,0,false, "", "",0⟩,⟨"Num",3,1,false, "", "",8⟩,⟨"Text",9,2,false, "", "",16⟩,⟨"Args",214,3,false, "", "",32⟩]⟩) by kernel_rfl) rfl (by kernel_rfl) (Qn7 (show Tryz.prog.underlying 3=some (.int .i64) by kernel_rfl) (by kernel_rfl)) (Qn7 (show Tryz.prog.underlying 3=some (.int .i64) by kernel_rfl) (by kernel_rfl)) (Qxz (show Tryz.prog.underlying 9=some (.string) by kernel_rfl) (by kernel_rfl)) (show Tryz.prog.underlying 214=some (.slice 216) by kernel_rfl) (by kernel_rfl) rfl rfl rfl ⟨rfl,rfl⟩ ⟨rfl,rfl⟩ ⟨rfl,rfl⟩ ⟨rfl,rfl⟩) fun _ h=>h
theorem Jv4:Jb Tryz.prog 218 Ul:=Vo (show Tryz.prog.underlying 218=some (.struct ⟨[⟨"Name",9,0,false, "", "",0⟩,⟨"When",216,1,false, "", "",16⟩,⟨"Points",3,5,false, "", "",72⟩]⟩) by kernel_rfl) (by kernel_rfl) (.pr Qm6 rfl rfl rfl (.pr Jv3 rfl rfl rfl (.last Uo rfl rfl rfl)))
theorem Jv5:Jb Tryz.prog 144 (.sl Ul):=V9 (show Tryz.prog.underlying 144=some (.slice 218) by kernel_rfl) (by kernel_rfl) Jv4 (by decide) (by kernel_rfl)
theorem Jv6:Jb Tryz.prog 146 Yj:=Vo (show Tryz.prog.underlying 146=some (.struct ⟨[⟨"Name",9,0,false, "", "",0⟩,⟨"From",3,1,false, "", "",16⟩,⟨"Split",4,2,false, "", "",24⟩,⟨"Zones",143,3,false, "", "",32⟩,⟨"Bands",139,4,false, "", "",56⟩,⟨"Rates",142,5,false, "", "",80⟩,⟨"Discounts",144,6,false, "", "",104⟩]⟩) by kernel_rfl) (by kernel_rfl) (.pr Qm6 rfl rfl rfl (.pr Uo rfl rfl rfl (.pr Jn9 rfl rfl rfl (.pr Jvw rfl rfl rfl (.pr Jv0 rfl rfl rfl (.pr Jv2 rfl rfl rfl (.last Jv5 rfl rfl rfl)))))))
theorem Jx2:Jb Tryz.prog 23 (.sl Yj):=V9 (show Tryz.prog.underlying 23=some (.slice 146) by kernel_rfl) (by kernel_rfl) Jv6 (by decide) (by kernel_rfl)
theorem Jv7:Jb Tryz.prog 160 Zk:=Vo (show Tryz.prog.underlying 160=some (.struct ⟨[⟨"Kind",3,0,false, "", "",0⟩,⟨"Zones",125,1,false, "", "",8⟩,⟨"Units",3,2,false, "", "",32⟩,⟨"Rollover",3,3,false, "", "",40⟩,⟨"Priority",3,4,false, "", "",48⟩,⟨"Shared",4,5,false, "", "",56⟩]⟩) by kernel_rfl) (by kernel_rfl) (.pr Uo rfl rfl rfl (.pr Jbm rfl rfl rfl (.pr Uo rfl rfl rfl (.pr Uo rfl rfl rfl (.pr Uo rfl rfl rfl (.last Jn9 rfl rfl rfl))))))
theorem Jv8:Jb Tryz.prog 131 (.sl Zk):=V9 (show Tryz.prog.underlying 131=some (.slice 160) by kernel_rfl) (by kernel_rfl) Jv7 (by decide) (by kernel_rfl)
theorem Jv9:Jb Tryz.prog 133 J4:=Vo (show Tryz.prog.underlying 133=some (.struct ⟨[⟨"Name",9,0,false, "", "",0⟩,⟨"From",3,1,false, "", "",16⟩,⟨"Fee",3,2,false, "", "",24⟩,⟨"Category",9,3,false, "", "",32⟩,⟨"Prorate",4,4,false, "", "",48⟩,⟨"Bundles",131,5,false, "", "",56⟩]⟩) by kernel_rfl) (by kernel_rfl) (.pr Qm6 rfl rfl rfl (.pr Uo rfl rfl rfl (.pr Uo rfl rfl rfl (.pr Qm6 rfl rfl rfl (.pr Jn9 rfl rfl rfl (.last Jv8 rfl rfl rfl))))))
theorem Jx3:Jb Tryz.prog 24 (.sl J4):=V9 (show Tryz.prog.underlying 24=some (.slice 133) by kernel_rfl) (by kernel_rfl) Jv9 (by decide) (by kernel_rfl)
theorem Jwa:Jb Tryz.prog 150 Hk:=Vo (show Tryz.prog.underlying 150=some (.struct ⟨[⟨"Category",9,0,false, "", "",0⟩,⟨"From",3,1,false, "", "",16⟩,⟨"Points",3,2,false, "", "",24⟩]⟩) by kernel_rfl) (by kernel_rfl) (.pr Qm6 rfl rfl rfl (.pr Uo rfl rfl rfl (.last Uo rfl rfl rfl)))
theorem Jx4:Jb Tryz.prog 25 (.sl Hk):=V9 (show Tryz.prog.underlying 25=some (.slice 150) by kernel_rfl) (by kernel_rfl) Jwa (by decide) (by kernel_rfl)
theorem Jx5:Jb Tryz.prog 26 (.sl (.int .i64)):=V9 (show Tryz.prog.underlying 26=some (.slice 3) by kernel_rfl) (by kernel_rfl) Uo (by decide) (by kernel_rfl)
theorem Joa:Jb Tryz.prog 127 J5:=Vo (show Tryz.prog.underlying 127=some (.struct ⟨[⟨"From",3,0,false, "", "",0⟩,⟨"To",3,1,false, "", "",8⟩]⟩) by kernel_rfl) (by kernel_rfl) (.pr Uo rfl rfl rfl (.last Uo rfl rfl rfl))
theorem Jwb:Jb Tryz.prog 156 Vd:=Vo (show Tryz.prog.underlying 156=some (.struct ⟨[⟨"Partner",3,0,false, "", "",0⟩,⟨"Kind",3,1,false, "", "",8⟩,⟨"Inbound",4,2,false, "", "",16⟩,⟨"Valid",127,3,false, "", "",24⟩,⟨"Steps",74,5,false, "", "",40⟩,⟨"Cap",3,6,false, "", "",64⟩]⟩) by kernel_rfl) (by kernel_rfl) (.pr Uo rfl rfl rfl (.pr Uo rfl rfl rfl (.pr Jn9 rfl rfl rfl (.pr Joa rfl rfl rfl (.pr Jt5 rfl rfl rfl (.last Uo rfl rfl rfl))))))
theorem Jx6:Jb Tryz.prog 27 (.sl Vd):=V9 (show Tryz.prog.underlying 27=some (.slice 156) by kernel_rfl) (by kernel_rfl) Jwb (by decide) (by kernel_rfl)
theorem Jx7:Jb Tryz.prog 29 Uu:=Vo (show Tryz.prog.underlying 29=some (.struct ⟨[⟨"Events",22,0,false, "", "",0⟩,⟨"Tariffs",23,1,false, "", "",24⟩,⟨"Products",24,2,false, "", "",48⟩,⟨"Taxes",25,3,false, "", "",72⟩,⟨"Holidays",26,4,false, "", "",96⟩,⟨"Agreements",27,5,false, "", "",120⟩]⟩) by kernel_rfl) (by kernel_rfl) (.pr Jx0 rfl rfl rfl (.pr Jx2 rfl rfl rfl (.pr Jx3 rfl rfl rfl (.pr Jx4 rfl rfl rfl (.pr Jx5 rfl rfl rfl (.last Jx6 rfl rfl rfl))))))
theorem Jwc:Jb Tryz.prog 129 Q9:=Vo (show Tryz.prog.underlying 129=some (.struct ⟨[⟨"Account",3,0,false, "", "",0⟩,⟨"Sub",3,1,false, "", "",8⟩,⟨"Product",9,2,false, "", "",16⟩,⟨"Index",3,3,false, "", "",32⟩,⟨"Kind",3,4,false, "", "",40⟩,⟨"Zones",125,5,false, "", "",48⟩,⟨"Valid",127,6,false, "", "",72⟩,⟨"Units",3,8,false, "", "",88⟩,⟨"Left",3,9,false, "", "",96⟩,⟨"Priority",3,10,false, "", "",104⟩,⟨"Shared",4,11,false, "", "",112⟩]⟩) by kernel_rfl) (by kernel_rfl) (.pr Uo rfl rfl rfl (.pr Uo rfl rfl rfl (.pr Qm6 rfl rfl rfl (.pr Uo rfl rfl rfl (.pr Uo rfl rfl rfl (.pr Jbm rfl rfl rfl (.pr Joa rfl rfl rfl (.pr Uo rfl rfl rfl (.pr Uo rfl rfl rfl (.pr Uo rfl rfl rfl (.last Jn9 rfl rfl rfl)))))))))))
theorem Jx8:Jb Tryz.prog 30 (.sl Q9):=V9 (show Tryz.prog.underlying 30=some (.slice 129) by kernel_rfl) (by kernel_rfl) Jwc (by decide) (by kernel_rfl)
theorem Jwd:Jb Tryz.prog 101 J6:=Vo (show Tryz.prog.underlying 101=some (.struct ⟨[⟨"Account",3,0,false, "", "",0⟩,⟨"Balance",3,1,false, "", "",8⟩,⟨"Floor",3,2,false, "", "",16⟩,⟨"Held",3,3,false, "", "",24⟩,⟨"Until",3,4,false, "", "",32⟩]⟩) by kernel_rfl) (by kernel_rfl) (.pr Uo rfl rfl rfl (.pr Uo rfl rfl rfl (.pr Uo rfl rfl rfl (.pr Uo rfl rfl rfl (.last Uo rfl rfl rfl)))))
theorem Jx9:Jb Tryz.prog 31 (.sl J6):=V9 (show Tryz.prog.underlying 31=some (.slice 101) by kernel_rfl) (by kernel_rfl) Jwd (by decide) (by kernel_rfl)
theorem Jwe:Jb Tryz.prog 103 Um:=Vo (show Tryz.prog.underlying 103=some (.struct ⟨[⟨"Sub",3,0,false, "", "",0⟩,⟨"Kind",3,1,false, "", "",8⟩,⟨"From",3,2,false, "", "",16⟩,⟨"Units",3,3,false, "", "",24⟩,⟨"Spent",3,4,false, "", "",32⟩]⟩) by kernel_rfl) (by kernel_rfl) (.pr Uo rfl rfl rfl (.pr Uo rfl rfl rfl (.pr Uo rfl rfl rfl (.pr Uo rfl rfl rfl (.last Uo rfl rfl rfl)))))
theorem Jya:Jb Tryz.prog 32 (.sl Um):=V9 (show Tryz.prog.underlying 32=some (.slice 103) by kernel_rfl) (by kernel_rfl) Jwe (by decide) (by kernel_rfl)
theorem Jyb:Jb Tryz.prog 34 J2:=Vo (show Tryz.prog.underlying 34=some (.struct ⟨[⟨"Buckets",30,0,false, "", "",0⟩,⟨"Wallets",31,1,false, "", "",24⟩,⟨"Counters",32,2,false, "", "",48⟩]⟩) by kernel_rfl) (by kernel_rfl) (.pr Jx8 rfl rfl rfl (.pr Jx9 rfl rfl rfl (.last Jya rfl rfl rfl)))
theorem Jyc:Jb Tryz.prog 43 J7:=Vo (show Tryz.prog.underlying 43=some (.struct ⟨[⟨"Session",3,0,false, "", "",0⟩,⟨"Seq",3,1,false, "", "",8⟩,⟨"Kind",3,2,false, "", "",16⟩,⟨"At",3,3,false, "", "",24⟩,⟨"Sub",3,4,false, "", "",32⟩,⟨"Usage",3,5,false, "", "",40⟩,⟨"B",9,6,false, "", "",48⟩,⟨"Used",3,7,false, "", "",64⟩,⟨"Ask",3,8,false, "", "",72⟩]⟩) by kernel_rfl) (by kernel_rfl) (.pr Uo rfl rfl rfl (.pr Uo rfl rfl rfl (.pr Uo rfl rfl rfl (.pr Uo rfl rfl rfl (.pr Uo rfl rfl rfl (.pr Uo rfl rfl rfl (.pr Qm6 rfl rfl rfl (.pr Uo rfl rfl rfl (.last Uo rfl rfl rfl)))))))))
theorem Jyd:Jb Tryz.prog 60 (.sl J7):=V9 (show Tryz.prog.underlying 60=some (.slice 43) by kernel_rfl) (by kernel_rfl) Jyc (by decide) (by kernel_rfl)
theorem Jye:Jb Tryz.prog 62 Uc:=Vo (show Tryz.prog.underlying 62=some (.struct ⟨[⟨"Book",29,0,false, "", "",0⟩,⟨"State",34,6,false, "", "",144⟩,⟨"Requests",60,9,false, "", "",216⟩]⟩) by kernel_rfl) (by kernel_rfl) (.pr Jx7 rfl rfl rfl (.pr Jyb rfl rfl rfl (.last Jyd rfl rfl rfl)))
end Gx
namespace Go.Proofs.YtpdhjildhjpjdaaGreat
open Go Gd Gx Go.ChangeShapes Go.WideShapes Go.ChangeAt Go.RowKit
set_option linter.unusedVariables false
set_option maxRecDepth 100000 in
/-- What the walk and the plain law give. -/
theorem Qi0(os:Os)(started:os.Started)(H:Type)(enc:TypeId×Value→H) :
  ReturnsInHanded {} Tryz.checked os 6 .any (Rows.journalAgainSpec.pre6 enc Tryz.prog Tryz.f6 Rows.journalAgainRow.domain false) (Rows.journalAgainSpec.post enc Tryz.prog Tryz.f6 false true false false):=by
 refine returnsInHanded_of_change_sized (C:=Tryz.checked) (by kernel_rfl) started (by kernel_rfl) Tryz.func6
  (ChangeSpec.witness6 (enc:=enc) (C:=Tryz.checked) false ⟨#[],#[.agg #[.slice none 0 0,.slice none 0 0,.slice none 0 0,.slice none 0 0,.slice none 0 0,.slice none 0 0,.slice none 0 0,.slice none 0 0,.slice none 0 0,.slice none 0 0]],[]⟩ 8 (by kernel_rfl) (by kernel_rfl) (by kernel_rfl) (by kernel_rfl)) ?_
 intro W base args ds gs before hval0 hW hcnd hz _
 have hval:∀(j:Nat) t v,Tryz.f6.params[j]?=some t→args[j]?=some v→Value.okWide Tryz.prog W .any base t v:=hval0
 obtain⟨v0,x0,hargs,hv0,g0⟩:=Jvp (show Tryz.f6.params=#[62] by kernel_rfl) hval hW hz Jye
 obtain⟨N,hF⟩:=Qo4 x0 g0
 subst hargs
 exact Ji3 (tb:=4) (by kernel_rfl) (show Tryz.prog.underlying 4=some .bool by kernel_rfl) rfl (by kernel_rfl) (by kernel_rfl) (fun d hd=>(match d,hd with
   | [d0],_=>rfl)) hW
  (Jgo (c:=(Hc N).1) ((Hc N).2.1 (lt W) W [] (fun _=>0) (fun _=>undef) x0 true [v0] (fun _ _ h=>h) (fun q hq=>by cases hq) rfl Jgn (Jw2 hv0) hF) rfl)

theorem Ap{a b:Bool}(ha:a=true)(hb:b=true):(a&&b)=true:=by rw[ha,hb]; rfl
theorem jf0:(Rows.journalAgainRow.wf (OpenSpec.ofChange Rows.journalAgainSpec))=true:=by kernel_rfl
theorem jf1:(laidOutB Tryz.prog)=true:=by kernel_rfl
theorem jf2:(mapsRowed Tryz.prog)=true:=by kernel_rfl
theorem jf3:(Tryz.f6.params.all (Tryz.prog.readableRec ·))=true:=by kernel_rfl
theorem jf4:(namedTie Tryz.prog Rows.journalAgainRow.named Rows.journalAgainSpec.vars)=true:=by kernel_rfl
theorem jf5:((Rows.journalAgainRow.stops==[]))=true:=by kernel_rfl
theorem jf6:((Tryz.prog.stops==[]))=true:=by kernel_rfl
theorem jf7:((Rows.journalAgainRow.knobs==[]))=true:=by kernel_rfl
theorem jf8:((Tryz.prog.stopKnobs==[]))=true:=by kernel_rfl
theorem jf9:((Rows.journalAgainRow.inPlace==Tryz.prog.inPlace 6))=true:=by kernel_rfl
theorem Jyp:((Rows.journalAgainRow.unfollowed==Tryz.prog.unfollowed 6))=true:=by kernel_rfl
theorem Jyq:((Rows.journalAgainRow.recurses==Tryz.prog.recurses 6))=true:=by kernel_rfl
theorem Jyr:((Rows.journalAgainRow.named==Tryz.prog.varsNamed 6))=true:=by kernel_rfl
theorem Jys:((Rows.journalAgainRow.maps==(Tryz.f6.params.toList++Rows.journalAgainSpec.plain.varTypes Tryz.prog).any (Tryz.prog.mapsRec ·)))=true:=by kernel_rfl
theorem Jyt:((Rows.journalAgainRow.ifaces==(Tryz.f6.params.toList++Rows.journalAgainSpec.plain.varTypes Tryz.prog).any (Tryz.prog.ifacesRec ·)))=true:=by kernel_rfl
theorem Jyu:((Rows.journalAgainRow.mapsOut==Tryz.prog.mapsAmong Tryz.f6.resultTypes.toList))=true:=by kernel_rfl
theorem Jyv:((Rows.journalAgainRow.loops==(Tryz.f6.params.toList++Rows.journalAgainSpec.plain.varTypes Tryz.prog).any (Tryz.prog.loopsFrom ·)))=true:=by kernel_rfl
theorem Jyw:((Rows.journalAgainRow.wideKeys==(Tryz.f6.params.toList++Rows.journalAgainSpec.plain.varTypes Tryz.prog++Tryz.f6.resultTypes.toList).any (Tryz.prog.wideKeysFrom ·)))=true:=by kernel_rfl
theorem Jyx:(Rows.journalAgainSpec.vars.all (Tryz.prog.varReadable ·))=true:=by kernel_rfl
theorem Jyy:(Tryz.f6.resultTypes.all (fun t=>Tryz.prog.readableRec t&&decide (t<Tryz.prog.types.size)))=true:=by kernel_rfl
theorem Jyz:((Rows.journalAgainRow.ifacesOut==Tryz.f6.resultTypes.toList.any (Tryz.prog.ifacesRec ·)))=true:=by kernel_rfl
theorem Jy0:((Rows.journalAgainRow.loopsOut==Tryz.f6.resultTypes.toList.any (Tryz.prog.loopsFrom ·)))=true:=by kernel_rfl
theorem Jy1:((Rows.journalAgainRow.plainKeys==Tryz.prog.plainKeys))=true:=by kernel_rfl
theorem Jy2:(Rows.journalAgainRow.shortTexts.isNone)=true:=by kernel_rfl
theorem Jy3:(Tryz.prog.stopsHeard)=true:=by kernel_rfl
theorem Jy4:(Tryz.prog.mayEnter)=true:=by kernel_rfl
theorem Jy5:((Rows.journalAgainRow.lifted==Tryz.prog.liftsFinal))=true:=by kernel_rfl
theorem Jy6:((Tryz.prog.make==some Rows.journalAgainRow.make))=true:=by kernel_rfl
theorem Jy7:((Rows.journalAgainRow.kinds==(if Rows.journalAgainRow.domain.isEmpty then []else Tryz.f6.params.toList.map fun t=>match Tryz.prog.underlying t with | some (.int k)=>some k | _=>none)))=true:=by kernel_rfl
theorem Jy8:((Rows.journalAgainRow.pinned==Rows.journalAgainRow.pinnedBy))=true:=by kernel_rfl
theorem Jy9:((Rows.journalAgainRow.veiled==(Tryz.f6.params.toList++Rows.journalAgainSpec.plain.varTypes Tryz.prog++Tryz.f6.resultTypes.toList).any (Tryz.prog.veiledRec ·)))=true:=by kernel_rfl
theorem Jza:(Rows.journalAgainRow.veiledFits Tryz.prog Tryz.f6.params.toList (Tryz.f6.params.toList++Rows.journalAgainSpec.plain.varTypes Tryz.prog++Tryz.f6.resultTypes.toList))=true:=by kernel_rfl
set_option maxRecDepth 100000 in
theorem Jyf:joinedFacts Tryz.prog 6 Tryz.f6 Rows.journalAgainSpec Rows.journalAgainRow=true:=(Ap (Ap (Ap (Ap (Ap (Ap (Ap (Ap (Ap (Ap (Ap (Ap (Ap (Ap (Ap (Ap (Ap (Ap (Ap (Ap (Ap (Ap (Ap (Ap (Ap (Ap (Ap (Ap (Ap (Ap (Ap jf0 jf1) jf2) jf3) jf4) jf5) jf6) jf7) jf8) jf9) Jyp) Jyq) Jyr) Jys) Jyt) Jyu) Jyv) Jyw) Jyx) Jyy) Jyz) Jy0) Jy1) Jy2) Jy3) Jy4) Jy5) Jy6) Jy7) Jy8) Jy9) Jza)
/-- The statement JournalAgain. -/
theorem journalAgain_proved:Rows.JournalAgainSaid :=
 OpenClaim.holds_of_wide 6 Tryz.f6 rfl rfl rfl rfl rfl rfl rfl ⟨rfl,rfl,rfl,rfl,rfl⟩ rfl rfl rfl rfl rfl (by kernel_rfl) Tryz.func6 Jyf
  (of_decide_eq_true (by kernel_rfl)) (by unfold Func.isWrapper; first | (rw[if_pos (by decide +kernel)]; kernel_rfl) | (rw[if_neg (by decide +kernel)]; exact⟨rfl,rfl⟩))
  (fun os started H enc _=>Qi0 os started H enc)
end Go.Proofs.YtpdhjildhjpjdaaGreat
