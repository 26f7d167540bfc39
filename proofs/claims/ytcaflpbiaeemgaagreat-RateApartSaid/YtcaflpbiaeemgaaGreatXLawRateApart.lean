/- RateApart: proved for every input. The plain law, the walk of the law, and the statement. Conditions: none. -/
import Derived.Test.YtcaflpbiaeemgaaGreatRows
import Derived.Test.YtcaflpbiaeemgaaGreatXRuns
import Derived.Test.YtcaflpbiaeemgaaGreatXPlainRateApart
import Derived.Test.YtcaflpbiaeemgaaGreatXRl
import Derived.WalkKit
import Derived.ProofKit
import Derived.OpenShut
set_option linter.unusedVariables false
namespace Gx
open Go Gd Go.Proofs Go.Proofs.YtcaflpbiaeemgaaGreat Go.RowKit Go.WideShapes Go.ChangeShapes
theorem op3:Yb Tryz.prog 3 (.int .i64):=Jqb (show Tryz.prog.underlying 3=some (.int .i64) by kernel_rfl) (by kernel_rfl)
theorem op9:Yb Tryz.prog 9 .str:=Jqc (show Tryz.prog.underlying 9=some (.string) by kernel_rfl) (by kernel_rfl)
theorem J83:Yb Tryz.prog 118 J2:=Kp (show Tryz.prog.underlying 118=some (.struct ⟨[⟨"At",3,0,false, "", "",0⟩,⟨"Kind",3,1,false, "", "",8⟩,⟨"Account",3,2,false, "", "",16⟩,⟨"Sub",3,3,false, "", "",24⟩,⟨"Number",9,4,false, "", "",32⟩,⟨"Name",9,5,false, "", "",48⟩,⟨"Value",3,6,false, "", "",64⟩]⟩) by kernel_rfl) (by kernel_rfl) (.pr op3 rfl rfl rfl (.pr op3 rfl rfl rfl (.pr op3 rfl rfl rfl (.pr op3 rfl rfl rfl (.pr op9 rfl rfl rfl (.pr op9 rfl rfl rfl (.last op3 rfl rfl rfl)))))))
theorem J9s:Yb Tryz.prog 22 (.sl J2):=Ko (show Tryz.prog.underlying 22=some (.slice 118) by kernel_rfl) (by kernel_rfl) J83 (by decide)
theorem op4:Yb Tryz.prog 4 .bool:=Jit (show Tryz.prog.underlying 4=some (.bool) by kernel_rfl) (by kernel_rfl)
theorem J84:Yb Tryz.prog 72 (.sl .str):=Ko (show Tryz.prog.underlying 72=some (.slice 9) by kernel_rfl) (by kernel_rfl) op9 (by decide)
theorem J85:Yb Tryz.prog 109 Zq:=Kp (show Tryz.prog.underlying 109=some (.struct ⟨[⟨"Name",9,0,false, "", "",0⟩,⟨"Prefixes",72,1,false, "", "",16⟩]⟩) by kernel_rfl) (by kernel_rfl) (.pr op9 rfl rfl rfl (.last J84 rfl rfl rfl))
theorem J9t:Yb Tryz.prog 77 (.sl Zq):=Ko (show Tryz.prog.underlying 77=some (.slice 109) by kernel_rfl) (by kernel_rfl) J85 (by decide)
theorem J86:Yb Tryz.prog 280 Ws:=Kp (show Tryz.prog.underlying 280=some (.struct ⟨[⟨"Days",3,0,false, "", "",0⟩,⟨"From",3,1,false, "", "",8⟩,⟨"To",3,2,false, "", "",16⟩]⟩) by kernel_rfl) (by kernel_rfl) (.pr op3 rfl rfl rfl (.pr op3 rfl rfl rfl (.last op3 rfl rfl rfl)))
theorem J87:Yb Tryz.prog 110 (.sl Ws):=Ko (show Tryz.prog.underlying 110=some (.slice 280) by kernel_rfl) (by kernel_rfl) J86 (by decide)
theorem J88:Yb Tryz.prog 112 Uz:=Kp (show Tryz.prog.underlying 112=some (.struct ⟨[⟨"Name",9,0,false, "", "",0⟩,⟨"Slots",110,1,false, "", "",16⟩]⟩) by kernel_rfl) (by kernel_rfl) (.pr op9 rfl rfl rfl (.last J87 rfl rfl rfl))
theorem J9u:Yb Tryz.prog 78 (.sl Uz):=Ko (show Tryz.prog.underlying 78=some (.slice 112) by kernel_rfl) (by kernel_rfl) J88 (by decide)
theorem J89:Yb Tryz.prog 114 Ke:=Kp (show Tryz.prog.underlying 114=some (.struct ⟨[⟨"Upto",3,0,false, "", "",0⟩,⟨"Quantum",3,1,false, "", "",8⟩,⟨"Price",3,2,false, "", "",16⟩]⟩) by kernel_rfl) (by kernel_rfl) (.pr op3 rfl rfl rfl (.pr op3 rfl rfl rfl (.last op3 rfl rfl rfl)))
theorem J9a:Yb Tryz.prog 93 (.sl Ke):=Ko (show Tryz.prog.underlying 93=some (.slice 114) by kernel_rfl) (by kernel_rfl) J89 (by decide)
theorem J9b:Yb Tryz.prog 116 Wt:=Kp (show Tryz.prog.underlying 116=some (.struct ⟨[⟨"Kind",3,0,false, "", "",0⟩,⟨"Zone",9,1,false, "", "",8⟩,⟨"Band",9,2,false, "", "",24⟩,⟨"Setup",3,3,false, "", "",40⟩,⟨"Steps",93,4,false, "", "",48⟩]⟩) by kernel_rfl) (by kernel_rfl) (.pr op3 rfl rfl rfl (.pr op9 rfl rfl rfl (.pr op9 rfl rfl rfl (.pr op3 rfl rfl rfl (.last J9a rfl rfl rfl)))))
theorem J9v:Yb Tryz.prog 79 (.sl Wt):=Ko (show Tryz.prog.underlying 79=some (.slice 116) by kernel_rfl) (by kernel_rfl) J9b (by decide)
theorem J9c:Yb Tryz.prog 155 Wu:=Jiv (show Tryz.prog.underlying 155=some (.struct ⟨[⟨"Op",3,0,false, "", "",0⟩,⟨"Num",3,1,false, "", "",8⟩,⟨"Text",9,2,false, "", "",16⟩,⟨"Args",153,3,false, "", "",32⟩]⟩) by kernel_rfl) rfl (by kernel_rfl) op3 op3 op9 (show Tryz.prog.underlying 153=some (.slice 155) by kernel_rfl) (by kernel_rfl) rfl rfl rfl ⟨rfl,rfl⟩ ⟨rfl,rfl⟩ ⟨rfl,rfl⟩ ⟨rfl,rfl⟩
theorem J9d:Yb Tryz.prog 157 V8:=Kp (show Tryz.prog.underlying 157=some (.struct ⟨[⟨"Name",9,0,false, "", "",0⟩,⟨"When",155,1,false, "", "",16⟩,⟨"Points",3,5,false, "", "",72⟩]⟩) by kernel_rfl) (by kernel_rfl) (.pr op9 rfl rfl rfl (.pr J9c rfl rfl rfl (.last op3 rfl rfl rfl)))
theorem J9w:Yb Tryz.prog 80 (.sl V8):=Ko (show Tryz.prog.underlying 80=some (.slice 157) by kernel_rfl) (by kernel_rfl) J9d (by decide)
theorem J9x:Yb Tryz.prog 82 J9:=Kp (show Tryz.prog.underlying 82=some (.struct ⟨[⟨"Name",9,0,false, "", "",0⟩,⟨"From",3,1,false, "", "",16⟩,⟨"Split",4,2,false, "", "",24⟩,⟨"Zones",77,3,false, "", "",32⟩,⟨"Bands",78,4,false, "", "",56⟩,⟨"Rates",79,5,false, "", "",80⟩,⟨"Discounts",80,6,false, "", "",104⟩]⟩) by kernel_rfl) (by kernel_rfl) (.pr op9 rfl rfl rfl (.pr op3 rfl rfl rfl (.pr op4 rfl rfl rfl (.pr J9t rfl rfl rfl (.pr J9u rfl rfl rfl (.pr J9v rfl rfl rfl (.last J9w rfl rfl rfl)))))))
theorem J9y:Yb Tryz.prog 23 (.sl J9):=Ko (show Tryz.prog.underlying 23=some (.slice 82) by kernel_rfl) (by kernel_rfl) J9x (by decide)
theorem J9z:Yb Tryz.prog 92 Xk:=Kp (show Tryz.prog.underlying 92=some (.struct ⟨[⟨"Kind",3,0,false, "", "",0⟩,⟨"Zones",72,1,false, "", "",8⟩,⟨"Units",3,2,false, "", "",32⟩,⟨"Rollover",3,3,false, "", "",40⟩,⟨"Priority",3,4,false, "", "",48⟩,⟨"Shared",4,5,false, "", "",56⟩]⟩) by kernel_rfl) (by kernel_rfl) (.pr op3 rfl rfl rfl (.pr J84 rfl rfl rfl (.pr op3 rfl rfl rfl (.pr op3 rfl rfl rfl (.pr op3 rfl rfl rfl (.last op4 rfl rfl rfl))))))
theorem J90:Yb Tryz.prog 88 (.sl Xk):=Ko (show Tryz.prog.underlying 88=some (.slice 92) by kernel_rfl) (by kernel_rfl) J9z (by decide)
theorem J91:Yb Tryz.prog 90 Ye:=Kp (show Tryz.prog.underlying 90=some (.struct ⟨[⟨"Name",9,0,false, "", "",0⟩,⟨"From",3,1,false, "", "",16⟩,⟨"Fee",3,2,false, "", "",24⟩,⟨"Category",9,3,false, "", "",32⟩,⟨"Prorate",4,4,false, "", "",48⟩,⟨"Bundles",88,5,false, "", "",56⟩]⟩) by kernel_rfl) (by kernel_rfl) (.pr op9 rfl rfl rfl (.pr op3 rfl rfl rfl (.pr op3 rfl rfl rfl (.pr op9 rfl rfl rfl (.pr op4 rfl rfl rfl (.last J90 rfl rfl rfl))))))
theorem J92:Yb Tryz.prog 24 (.sl Ye):=Ko (show Tryz.prog.underlying 24=some (.slice 90) by kernel_rfl) (by kernel_rfl) J91 (by decide)
theorem J9e:Yb Tryz.prog 172 Ph:=Kp (show Tryz.prog.underlying 172=some (.struct ⟨[⟨"Category",9,0,false, "", "",0⟩,⟨"From",3,1,false, "", "",16⟩,⟨"Points",3,2,false, "", "",24⟩]⟩) by kernel_rfl) (by kernel_rfl) (.pr op9 rfl rfl rfl (.pr op3 rfl rfl rfl (.last op3 rfl rfl rfl)))
theorem J93:Yb Tryz.prog 25 (.sl Ph):=Ko (show Tryz.prog.underlying 25=some (.slice 172) by kernel_rfl) (by kernel_rfl) J9e (by decide)
theorem J94:Yb Tryz.prog 26 (.sl (.int .i64)):=Ko (show Tryz.prog.underlying 26=some (.slice 3) by kernel_rfl) (by kernel_rfl) op3 (by decide)
theorem J95:Yb Tryz.prog 71 Je:=Kp (show Tryz.prog.underlying 71=some (.struct ⟨[⟨"From",3,0,false, "", "",0⟩,⟨"To",3,1,false, "", "",8⟩]⟩) by kernel_rfl) (by kernel_rfl) (.pr op3 rfl rfl rfl (.last op3 rfl rfl rfl))
theorem J96:Yb Tryz.prog 95 Zk:=Kp (show Tryz.prog.underlying 95=some (.struct ⟨[⟨"Partner",3,0,false, "", "",0⟩,⟨"Kind",3,1,false, "", "",8⟩,⟨"Inbound",4,2,false, "", "",16⟩,⟨"Valid",71,3,false, "", "",24⟩,⟨"Steps",93,5,false, "", "",40⟩,⟨"Cap",3,6,false, "", "",64⟩]⟩) by kernel_rfl) (by kernel_rfl) (.pr op3 rfl rfl rfl (.pr op3 rfl rfl rfl (.pr op4 rfl rfl rfl (.pr J95 rfl rfl rfl (.pr J9a rfl rfl rfl (.last op3 rfl rfl rfl))))))
theorem J97:Yb Tryz.prog 27 (.sl Zk):=Ko (show Tryz.prog.underlying 27=some (.slice 95) by kernel_rfl) (by kernel_rfl) J96 (by decide)
theorem J98:Yb Tryz.prog 29 Xd:=Kp (show Tryz.prog.underlying 29=some (.struct ⟨[⟨"Events",22,0,false, "", "",0⟩,⟨"Tariffs",23,1,false, "", "",24⟩,⟨"Products",24,2,false, "", "",48⟩,⟨"Taxes",25,3,false, "", "",72⟩,⟨"Holidays",26,4,false, "", "",96⟩,⟨"Agreements",27,5,false, "", "",120⟩]⟩) by kernel_rfl) (by kernel_rfl) (.pr J9s rfl rfl rfl (.pr J9y rfl rfl rfl (.pr J92 rfl rfl rfl (.pr J93 rfl rfl rfl (.pr J94 rfl rfl rfl (.last J97 rfl rfl rfl))))))
theorem J99:Yb Tryz.prog 40 J3:=Kp (show Tryz.prog.underlying 40=some (.struct ⟨[⟨"Id",3,0,false, "", "",0⟩,⟨"Kind",3,1,false, "", "",8⟩,⟨"Account",3,2,false, "", "",16⟩,⟨"Sub",3,3,false, "", "",24⟩,⟨"A",9,4,false, "", "",32⟩,⟨"B",9,5,false, "", "",48⟩,⟨"Start",3,6,false, "", "",64⟩,⟨"Units",3,7,false, "", "",72⟩,⟨"Trunk",3,8,false, "", "",80⟩,⟨"Inbound",4,9,false, "", "",88⟩,⟨"Source",3,10,false, "", "",96⟩,⟨"Serial",3,11,false, "", "",104⟩]⟩) by kernel_rfl) (by kernel_rfl) (.pr op3 rfl rfl rfl (.pr op3 rfl rfl rfl (.pr op3 rfl rfl rfl (.pr op3 rfl rfl rfl (.pr op9 rfl rfl rfl (.pr op9 rfl rfl rfl (.pr op3 rfl rfl rfl (.pr op3 rfl rfl rfl (.pr op3 rfl rfl rfl (.pr op4 rfl rfl rfl (.pr op3 rfl rfl rfl (.last op3 rfl rfl rfl))))))))))))
theorem Yaa:Yb Tryz.prog 30 (.sl J3):=Ko (show Tryz.prog.underlying 30=some (.slice 40) by kernel_rfl) (by kernel_rfl) J99 (by decide)
end Gx
namespace Go.Proofs.YtcaflpbiaeemgaaGreat
open Go Gd Gx Go.ChangeShapes Go.WideShapes Go.ChangeAt Go.RowKit
set_option maxRecDepth 100000 in
/-- What the walk and the plain law give. -/
theorem Qts(os:Os)(started:os.Started)(H:Type)(enc:TypeId×Value→H) :
  ReturnsInHanded {} Tryz.checked os 5 .any (Rows.rateApartSpec.pre6 enc Tryz.prog Tryz.f5 Rows.rateApartRow.domain false) (Rows.rateApartSpec.post enc Tryz.prog Tryz.f5 false true false false):=by
 refine returnsInHanded_of_change (C:=Tryz.checked) (by kernel_rfl) started (by kernel_rfl) Tryz.func5
  (ChangeSpec.witness6 (enc:=enc) (C:=Tryz.checked) false ⟨#[],#[.agg #[.slice none 0 0,.slice none 0 0,.slice none 0 0,.slice none 0 0,.slice none 0 0,.slice none 0 0],.slice none 0 0],[]⟩ 8 (by kernel_rfl) (by kernel_rfl) (by kernel_rfl) (by kernel_rfl)) ?_
 intro W base args ds gs before hval0 hW hcnd _;have hval:∀(j:Nat) t v,Tryz.f5.params[j]?=some t→args[j]?=some v→Value.okWide Tryz.prog W .any base t v:=hval0;obtain⟨v0,v1,x0,x1,hargs,hv0,g0,hv1,g1⟩:=J7n (show Tryz.f5.params=#[29,30] by kernel_rfl) hval hW J98 Yaa;obtain⟨N,hF⟩:=Q2u x0 g0 x1 g1;subst hargs
 exact Js9 (tb:=4) (by kernel_rfl) (show Tryz.prog.underlying 4=some .bool by kernel_rfl) rfl (by kernel_rfl) (by kernel_rfl) (fun d hd=>(match d,hd with
   | [d0,d1],_=>rfl)) hW
  (Jqf (c:=(B5 N).1) ((B5 N).2.1 (lt W) W [] (fun _=>0) (fun _=>undef) (x0,x1) true [v0,v1] (fun _ _ h=>h) (fun q hq=>by cases hq) rfl Jqe (J8a hv0 hv1) hF) rfl)

theorem Dj{a b:Bool}(ha:a=true)(hb:b=true):(a&&b)=true:=by rw[ha,hb]; rfl
theorem jf0:(Rows.rateApartRow.wf (OpenSpec.ofChange Rows.rateApartSpec))=true:=by kernel_rfl
theorem jf1:(laidOutB Tryz.prog)=true:=by kernel_rfl
theorem jf2:(mapsRowed Tryz.prog)=true:=by kernel_rfl
theorem jf3:(Tryz.f5.params.all (Tryz.prog.readableRec ·))=true:=by kernel_rfl
theorem jf4:(namedTie Tryz.prog Rows.rateApartRow.named Rows.rateApartSpec.vars)=true:=by kernel_rfl
theorem jf5:((Rows.rateApartRow.stops==[]))=true:=by kernel_rfl
theorem jf6:((Tryz.prog.stops==[]))=true:=by kernel_rfl
theorem jf7:((Rows.rateApartRow.knobs==[]))=true:=by kernel_rfl
theorem jf8:((Tryz.prog.stopKnobs==[]))=true:=by kernel_rfl
theorem jf9:((Rows.rateApartRow.inPlace==Tryz.prog.inPlace 5))=true:=by kernel_rfl
theorem Yab:((Rows.rateApartRow.unfollowed==Tryz.prog.unfollowed 5))=true:=by kernel_rfl
theorem Yac:((Rows.rateApartRow.recurses==Tryz.prog.recurses 5))=true:=by kernel_rfl
theorem Yad:((Rows.rateApartRow.named==Tryz.prog.varsNamed 5))=true:=by kernel_rfl
theorem Yae:((Rows.rateApartRow.maps==(Tryz.f5.params.toList++Rows.rateApartSpec.plain.varTypes Tryz.prog).any (Tryz.prog.mapsRec ·)))=true:=by kernel_rfl
theorem Yaf:((Rows.rateApartRow.ifaces==(Tryz.f5.params.toList++Rows.rateApartSpec.plain.varTypes Tryz.prog).any (Tryz.prog.ifacesRec ·)))=true:=by kernel_rfl
theorem Yag:((Rows.rateApartRow.mapsOut==Tryz.prog.mapsAmong Tryz.f5.resultTypes.toList))=true:=by kernel_rfl
theorem Yah:((Rows.rateApartRow.loops==(Tryz.f5.params.toList++Rows.rateApartSpec.plain.varTypes Tryz.prog).any (Tryz.prog.loopsFrom ·)))=true:=by kernel_rfl
theorem Yai:((Rows.rateApartRow.wideKeys==(Tryz.f5.params.toList++Rows.rateApartSpec.plain.varTypes Tryz.prog++Tryz.f5.resultTypes.toList).any (Tryz.prog.wideKeysFrom ·)))=true:=by kernel_rfl
theorem Yaj:(Rows.rateApartSpec.vars.all (Tryz.prog.varReadable ·))=true:=by kernel_rfl
theorem Yak:(Tryz.f5.resultTypes.all (fun t=>Tryz.prog.readableRec t&&decide (t<Tryz.prog.types.size)))=true:=by kernel_rfl
theorem Yal:((Rows.rateApartRow.ifacesOut==Tryz.f5.resultTypes.toList.any (Tryz.prog.ifacesRec ·)))=true:=by kernel_rfl
theorem Yam:((Rows.rateApartRow.loopsOut==Tryz.f5.resultTypes.toList.any (Tryz.prog.loopsFrom ·)))=true:=by kernel_rfl
theorem Yan:((Rows.rateApartRow.plainKeys==Tryz.prog.plainKeys))=true:=by kernel_rfl
theorem Yao:(Rows.rateApartRow.shortTexts.isNone)=true:=by kernel_rfl
theorem Yap:(Tryz.prog.stopsHeard)=true:=by kernel_rfl
theorem Yaq:(Tryz.prog.mayEnter)=true:=by kernel_rfl
theorem Yar:((Rows.rateApartRow.lifted==Tryz.prog.liftsFinal))=true:=by kernel_rfl
theorem Yas:((Tryz.prog.make==some Rows.rateApartRow.make))=true:=by kernel_rfl
theorem Yat:((Rows.rateApartRow.kinds==(if Rows.rateApartRow.domain.isEmpty then []else Tryz.f5.params.toList.map fun t=>match Tryz.prog.underlying t with | some (.int k)=>some k | _=>none)))=true:=by kernel_rfl
theorem Yau:((Rows.rateApartRow.pinned==Rows.rateApartRow.pinnedBy))=true:=by kernel_rfl
theorem Yav:((Rows.rateApartRow.veiled==(Tryz.f5.params.toList++Rows.rateApartSpec.plain.varTypes Tryz.prog++Tryz.f5.resultTypes.toList).any (Tryz.prog.veiledRec ·)))=true:=by kernel_rfl
theorem Yaw:(Rows.rateApartRow.veiledFits Tryz.prog Tryz.f5.params.toList (Tryz.f5.params.toList++Rows.rateApartSpec.plain.varTypes Tryz.prog++Tryz.f5.resultTypes.toList))=true:=by kernel_rfl
set_option maxRecDepth 100000 in
theorem J9f:joinedFacts Tryz.prog 5 Tryz.f5 Rows.rateApartSpec Rows.rateApartRow=true:=(Dj (Dj (Dj (Dj (Dj (Dj (Dj (Dj (Dj (Dj (Dj (Dj (Dj (Dj (Dj (Dj (Dj (Dj (Dj (Dj (Dj (Dj (Dj (Dj (Dj (Dj (Dj (Dj (Dj (Dj (Dj jf0 jf1) jf2) jf3) jf4) jf5) jf6) jf7) jf8) jf9) Yab) Yac) Yad) Yae) Yaf) Yag) Yah) Yai) Yaj) Yak) Yal) Yam) Yan) Yao) Yap) Yaq) Yar) Yas) Yat) Yau) Yav) Yaw)
/-- The statement RateApart. -/
theorem rateApart_proved:Rows.RateApartSaid :=
 OpenClaim.holds_of_wide 5 Tryz.f5 rfl rfl rfl rfl rfl rfl rfl ⟨rfl,rfl,rfl,rfl,rfl⟩ rfl rfl rfl rfl rfl (by kernel_rfl) Tryz.func5 J9f
  (of_decide_eq_true (by kernel_rfl)) (by unfold Func.isWrapper; first | (rw[if_pos (by decide +kernel)]; kernel_rfl) | (rw[if_neg (by decide +kernel)]; exact⟨rfl,rfl⟩))
  (fun os started H enc _=>Qts os started H enc)
end Go.Proofs.YtcaflpbiaeemgaaGreat
