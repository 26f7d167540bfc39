/- SessionChecks: proved for every input. The plain law, the walk of the law, and the statement. Conditions: none. -/
import Derived.Test.YtgnpojenbefoiaaGreatRows
import Derived.Test.YtgnpojenbefoiaaGreatXRuns
import Derived.Test.YtgnpojenbefoiaaGreatXPlainSessionChecks
import Derived.Test.YtgnpojenbefoiaaGreatXRl
import Derived.WalkKit
import Derived.ProofKit
import Derived.OpenShut
import Derived.SizedLaws
namespace Gx
open Go Gd Go.Proofs Go.Proofs.YtgnpojenbefoiaaGreat Go.RowKit Go.WideShapes Go.ChangeShapes
set_option linter.unusedVariables false
theorem Uz:Ym Tryz.prog 3 (.int .i64):=Qc6 (show Tryz.prog.underlying 3=some (.int .i64) by kernel_rfl) (by kernel_rfl)
theorem Qmm:Ym Tryz.prog 9 .str:=Qq0 (show Tryz.prog.underlying 9=some (.string) by kernel_rfl) (by kernel_rfl)
theorem Q92:Ym Tryz.prog 136 (.sl .str):=Es (show Tryz.prog.underlying 136=some (.slice 9) by kernel_rfl) (by kernel_rfl) Qmm (by decide) (by kernel_rfl)
theorem Q93:Ym Tryz.prog 140 Yc:=Kz (show Tryz.prog.underlying 140=some (.struct ⟨[⟨"From",3,0,false, "", "",0⟩,⟨"To",3,1,false, "", "",8⟩]⟩) by kernel_rfl) (by kernel_rfl) (.pr Uz rfl rfl rfl (.last Uz rfl rfl rfl))
theorem Jcm:Ym Tryz.prog 4 .bool:=Qmh (show Tryz.prog.underlying 4=some (.bool) by kernel_rfl) (by kernel_rfl)
theorem Q94:Ym Tryz.prog 145 Qg:=Kz (show Tryz.prog.underlying 145=some (.struct ⟨[⟨"Account",3,0,false, "", "",0⟩,⟨"Sub",3,1,false, "", "",8⟩,⟨"Product",9,2,false, "", "",16⟩,⟨"Index",3,3,false, "", "",32⟩,⟨"Kind",3,4,false, "", "",40⟩,⟨"Zones",136,5,false, "", "",48⟩,⟨"Valid",140,6,false, "", "",72⟩,⟨"Units",3,8,false, "", "",88⟩,⟨"Left",3,9,false, "", "",96⟩,⟨"Priority",3,10,false, "", "",104⟩,⟨"Shared",4,11,false, "", "",112⟩]⟩) by kernel_rfl) (by kernel_rfl) (.pr Uz rfl rfl rfl (.pr Uz rfl rfl rfl (.pr Qmm rfl rfl rfl (.pr Uz rfl rfl rfl (.pr Uz rfl rfl rfl (.pr Q92 rfl rfl rfl (.pr Q93 rfl rfl rfl (.pr Uz rfl rfl rfl (.pr Uz rfl rfl rfl (.pr Uz rfl rfl rfl (.last Jcm rfl rfl rfl)))))))))))
theorem Jcn:Ym Tryz.prog 22 (.sl Qg):=Es (show Tryz.prog.underlying 22=some (.slice 145) by kernel_rfl) (by kernel_rfl) Q94 (by decide) (by kernel_rfl)
theorem Jco:Ym Tryz.prog 87 Ql:=Kz (show Tryz.prog.underlying 87=some (.struct ⟨[⟨"Account",3,0,false, "", "",0⟩,⟨"Balance",3,1,false, "", "",8⟩,⟨"Floor",3,2,false, "", "",16⟩,⟨"Held",3,3,false, "", "",24⟩,⟨"Until",3,4,false, "", "",32⟩]⟩) by kernel_rfl) (by kernel_rfl) (.pr Uz rfl rfl rfl (.pr Uz rfl rfl rfl (.pr Uz rfl rfl rfl (.pr Uz rfl rfl rfl (.last Uz rfl rfl rfl)))))
theorem Jcp:Ym Tryz.prog 23 (.sl Ql):=Es (show Tryz.prog.underlying 23=some (.slice 87) by kernel_rfl) (by kernel_rfl) Jco (by decide) (by kernel_rfl)
theorem Q95:Ym Tryz.prog 105 Qp:=Kz (show Tryz.prog.underlying 105=some (.struct ⟨[⟨"Sub",3,0,false, "", "",0⟩,⟨"Kind",3,1,false, "", "",8⟩,⟨"From",3,2,false, "", "",16⟩,⟨"Units",3,3,false, "", "",24⟩,⟨"Spent",3,4,false, "", "",32⟩]⟩) by kernel_rfl) (by kernel_rfl) (.pr Uz rfl rfl rfl (.pr Uz rfl rfl rfl (.pr Uz rfl rfl rfl (.pr Uz rfl rfl rfl (.last Uz rfl rfl rfl)))))
theorem Jcq:Ym Tryz.prog 24 (.sl Qp):=Es (show Tryz.prog.underlying 24=some (.slice 105) by kernel_rfl) (by kernel_rfl) Q95 (by decide) (by kernel_rfl)
theorem Jcr:Ym Tryz.prog 26 Ye:=Kz (show Tryz.prog.underlying 26=some (.struct ⟨[⟨"Buckets",22,0,false, "", "",0⟩,⟨"Wallets",23,1,false, "", "",24⟩,⟨"Counters",24,2,false, "", "",48⟩]⟩) by kernel_rfl) (by kernel_rfl) (.pr Jcn rfl rfl rfl (.pr Jcp rfl rfl rfl (.last Jcq rfl rfl rfl)))
theorem Q96:Ym Tryz.prog 153 Yp:=Kz (show Tryz.prog.underlying 153=some (.struct ⟨[⟨"Upto",3,0,false, "", "",0⟩,⟨"Quantum",3,1,false, "", "",8⟩,⟨"Price",3,2,false, "", "",16⟩]⟩) by kernel_rfl) (by kernel_rfl) (.pr Uz rfl rfl rfl (.pr Uz rfl rfl rfl (.last Uz rfl rfl rfl)))
theorem Jcs:Ym Tryz.prog 29 (.sl Yp):=Es (show Tryz.prog.underlying 29=some (.slice 153) by kernel_rfl) (by kernel_rfl) Q96 (by decide) (by kernel_rfl)
theorem Jct:Ym Tryz.prog 31 Zv:=Kz (show Tryz.prog.underlying 31=some (.struct ⟨[⟨"Kind",3,0,false, "", "",0⟩,⟨"Zone",9,1,false, "", "",8⟩,⟨"Band",9,2,false, "", "",24⟩,⟨"Setup",3,3,false, "", "",40⟩,⟨"Steps",29,4,false, "", "",48⟩]⟩) by kernel_rfl) (by kernel_rfl) (.pr Uz rfl rfl rfl (.pr Qmm rfl rfl rfl (.pr Qmm rfl rfl rfl (.pr Uz rfl rfl rfl (.last Jcs rfl rfl rfl)))))
theorem Jcu:Ym Tryz.prog 33 Yf:=Kz (show Tryz.prog.underlying 33=some (.struct ⟨[⟨"Account",3,0,false, "", "",0⟩,⟨"Sub",3,1,false, "", "",8⟩,⟨"Kind",3,2,false, "", "",16⟩,⟨"Zone",9,3,false, "", "",24⟩,⟨"Plan",9,4,false, "", "",40⟩,⟨"Version",3,5,false, "", "",56⟩,⟨"Rate",31,6,false, "", "",64⟩,⟨"Free",3,11,false, "", "",136⟩,⟨"Paid",3,12,false, "", "",144⟩]⟩) by kernel_rfl) (by kernel_rfl) (.pr Uz rfl rfl rfl (.pr Uz rfl rfl rfl (.pr Uz rfl rfl rfl (.pr Qmm rfl rfl rfl (.pr Qmm rfl rfl rfl (.pr Uz rfl rfl rfl (.pr Jct rfl rfl rfl (.pr Uz rfl rfl rfl (.last Uz rfl rfl rfl)))))))))
theorem Jcv:Ym Tryz.prog 91 Jr:=Kz (show Tryz.prog.underlying 91=some (.struct ⟨[⟨"Sub",3,0,false, "", "",0⟩,⟨"Product",9,1,false, "", "",8⟩,⟨"Index",3,2,false, "", "",24⟩,⟨"From",3,3,false, "", "",32⟩,⟨"Units",3,4,false, "", "",40⟩]⟩) by kernel_rfl) (by kernel_rfl) (.pr Uz rfl rfl rfl (.pr Qmm rfl rfl rfl (.pr Uz rfl rfl rfl (.pr Uz rfl rfl rfl (.last Uz rfl rfl rfl)))))
theorem Jcw:Ym Tryz.prog 34 (.sl Jr):=Es (show Tryz.prog.underlying 34=some (.slice 91) by kernel_rfl) (by kernel_rfl) Jcv (by decide) (by kernel_rfl)
theorem Jcx:Ym Tryz.prog 35 (.int .i64):=Qc6 (show Tryz.prog.underlying 35=some (.int .i64) by kernel_rfl) (by kernel_rfl)
theorem Jcy:Ym Tryz.prog 37 Jh:=Kz (show Tryz.prog.underlying 37=some (.struct ⟨[⟨"Session",3,0,false, "", "",0⟩,⟨"Seq",3,1,false, "", "",8⟩,⟨"Granted",3,2,false, "", "",16⟩,⟨"Until",3,3,false, "", "",24⟩,⟨"Err",35,4,false, "", "",32⟩]⟩) by kernel_rfl) (by kernel_rfl) (.pr Uz rfl rfl rfl (.pr Uz rfl rfl rfl (.pr Uz rfl rfl rfl (.pr Uz rfl rfl rfl (.last Jcx rfl rfl rfl)))))
theorem Jcz:Ym Tryz.prog 39 Qz:=Kz (show Tryz.prog.underlying 39=some (.struct ⟨[⟨"Id",3,0,false, "", "",0⟩,⟨"Seq",3,1,false, "", "",8⟩,⟨"Start",3,2,false, "", "",16⟩,⟨"Until",3,3,false, "", "",24⟩,⟨"Meter",33,4,false, "", "",32⟩,⟨"Granted",3,17,false, "", "",184⟩,⟨"Takes",34,18,false, "", "",192⟩,⟨"Held",3,19,false, "", "",216⟩,⟨"Spent",3,20,false, "", "",224⟩,⟨"Closed",4,21,false, "", "",232⟩,⟨"Last",37,22,false, "", "",240⟩]⟩) by kernel_rfl) (by kernel_rfl) (.pr Uz rfl rfl rfl (.pr Uz rfl rfl rfl (.pr Uz rfl rfl rfl (.pr Uz rfl rfl rfl (.pr Jcu rfl rfl rfl (.pr Uz rfl rfl rfl (.pr Jcw rfl rfl rfl (.pr Uz rfl rfl rfl (.pr Uz rfl rfl rfl (.pr Jcm rfl rfl rfl (.last Jcy rfl rfl rfl)))))))))))
theorem Jc0:Ym Tryz.prog 27 (.sl Qz):=Es (show Tryz.prog.underlying 27=some (.slice 39) by kernel_rfl) (by kernel_rfl) Jcz (by decide) (by kernel_rfl)
end Gx
namespace Go.Proofs.YtgnpojenbefoiaaGreat
open Go Gd Gx Go.ChangeShapes Go.WideShapes Go.ChangeAt Go.RowKit
set_option linter.unusedVariables false
set_option maxRecDepth 100000 in
/-- What the walk and the plain law give. -/
theorem If (os:Os) (started:os.Started) (H:Type) (enc:TypeId×Value→H) :
  ReturnsInHanded {} Tryz.checked os 3 .any (Rows.sessionChecksSpec.pre6 enc Tryz.prog Tryz.f3 Rows.sessionChecksRow.domain false) (Rows.sessionChecksSpec.post enc Tryz.prog Tryz.f3 false true false false):=by
 refine returnsInHanded_of_change_sized (C:=Tryz.checked) (by kernel_rfl) started (by kernel_rfl) Tryz.func3
  (ChangeSpec.witness6 (enc:=enc) (C:=Tryz.checked) false ⟨#[],#[.agg #[.slice none 0 0,.slice none 0 0,.slice none 0 0],.slice none 0 0],[]⟩ 8 (by kernel_rfl) (by kernel_rfl) (by kernel_rfl) (by kernel_rfl)) ?_
 intro W base args ds gs before hval0 hW hcnd hz _
 have hval:∀(j:Nat) t v,Tryz.f3.params[j]?=some t→args[j]?=some v→Value.okWide Tryz.prog W .any base t v:=hval0
 obtain ⟨v0,v1,x0,x1,hargs,hv0,g0,hv1,g1⟩:=Q9u (show Tryz.f3.params=#[26,27] by kernel_rfl) hval hW hz Jcr Jc0
 obtain ⟨N,hF⟩:=Ni x0 g0 x1 g1
 subst hargs
 exact Qri (tb:=4) (by kernel_rfl) (show Tryz.prog.underlying 4=some .bool by kernel_rfl) rfl (by kernel_rfl) (by kernel_rfl) (fun d hd=>(match d,hd with
   | [d0,d1],_=>rfl)) hW
  (Qql (c:=Zw N) (G4 N (lt W) W [] (fun _=>0) (fun _=>undef) (x0,x1) true [v0,v1] (fun _ _ h=>h) (fun q hq=>by cases hq) rfl Qqk (Jax hv0 hv1) hF) rfl)

theorem Xt {a b:Bool} (ha:a=true) (hb:b=true):(a&&b)=true:=by rw [ha,hb]; rfl
theorem jf0:(Rows.sessionChecksRow.wf (OpenSpec.ofChange Rows.sessionChecksSpec))=true:=by kernel_rfl
theorem jf1:(laidOutB Tryz.prog)=true:=by kernel_rfl
theorem jf2:(mapsRowed Tryz.prog)=true:=by kernel_rfl
theorem jf3:(Tryz.f3.params.all (Tryz.prog.readableRec ·))=true:=by kernel_rfl
theorem jf4:(namedTie Tryz.prog Rows.sessionChecksRow.named Rows.sessionChecksSpec.vars)=true:=by kernel_rfl
theorem jf5:((Rows.sessionChecksRow.stops==[]))=true:=by kernel_rfl
theorem jf6:((Tryz.prog.stops==[]))=true:=by kernel_rfl
theorem jf7:((Rows.sessionChecksRow.knobs==[]))=true:=by kernel_rfl
theorem jf8:((Tryz.prog.stopKnobs==[]))=true:=by kernel_rfl
theorem jf9:((Rows.sessionChecksRow.inPlace==Tryz.prog.inPlace 3))=true:=by kernel_rfl
theorem Jc5:((Rows.sessionChecksRow.unfollowed==Tryz.prog.unfollowed 3))=true:=by kernel_rfl
theorem Jc6:((Rows.sessionChecksRow.recurses==Tryz.prog.recurses 3))=true:=by kernel_rfl
theorem Jc7:((Rows.sessionChecksRow.named==Tryz.prog.varsNamed 3))=true:=by kernel_rfl
theorem Jc8:((Rows.sessionChecksRow.maps==(Tryz.f3.params.toList++Rows.sessionChecksSpec.plain.varTypes Tryz.prog).any (Tryz.prog.mapsRec ·)))=true:=by kernel_rfl
theorem Jc9:((Rows.sessionChecksRow.ifaces==(Tryz.f3.params.toList++Rows.sessionChecksSpec.plain.varTypes Tryz.prog).any (Tryz.prog.ifacesRec ·)))=true:=by kernel_rfl
theorem Jda:((Rows.sessionChecksRow.mapsOut==Tryz.prog.mapsAmong Tryz.f3.resultTypes.toList))=true:=by kernel_rfl
theorem Jdb:((Rows.sessionChecksRow.loops==(Tryz.f3.params.toList++Rows.sessionChecksSpec.plain.varTypes Tryz.prog).any (Tryz.prog.loopsFrom ·)))=true:=by kernel_rfl
theorem Jdc:((Rows.sessionChecksRow.wideKeys==(Tryz.f3.params.toList++Rows.sessionChecksSpec.plain.varTypes Tryz.prog++Tryz.f3.resultTypes.toList).any (Tryz.prog.wideKeysFrom ·)))=true:=by kernel_rfl
theorem Jdd:(Rows.sessionChecksSpec.vars.all (Tryz.prog.varReadable ·))=true:=by kernel_rfl
theorem Jde:(Tryz.f3.resultTypes.all (fun t=>Tryz.prog.readableRec t&&decide (t<Tryz.prog.types.size)))=true:=by kernel_rfl
theorem Jdf:((Rows.sessionChecksRow.ifacesOut==Tryz.f3.resultTypes.toList.any (Tryz.prog.ifacesRec ·)))=true:=by kernel_rfl
theorem Jdg:((Rows.sessionChecksRow.loopsOut==Tryz.f3.resultTypes.toList.any (Tryz.prog.loopsFrom ·)))=true:=by kernel_rfl
theorem Jdh:((Rows.sessionChecksRow.plainKeys==Tryz.prog.plainKeys))=true:=by kernel_rfl
theorem Jdi:(Rows.sessionChecksRow.shortTexts.isNone)=true:=by kernel_rfl
theorem Jdj:(Tryz.prog.stopsHeard)=true:=by kernel_rfl
theorem Jdk:(Tryz.prog.mayEnter)=true:=by kernel_rfl
theorem Jdl:((Rows.sessionChecksRow.lifted==Tryz.prog.liftsFinal))=true:=by kernel_rfl
theorem Jdm:((Tryz.prog.make==some Rows.sessionChecksRow.make))=true:=by kernel_rfl
theorem Jdn:((Rows.sessionChecksRow.kinds==(if Rows.sessionChecksRow.domain.isEmpty then [] else Tryz.f3.params.toList.map fun t=>match Tryz.prog.underlying t with | some (.int k)=>some k | _=>none)))=true:=by kernel_rfl
theorem Jdo:((Rows.sessionChecksRow.pinned==Rows.sessionChecksRow.pinnedBy))=true:=by kernel_rfl
theorem Jdp:((Rows.sessionChecksRow.veiled==(Tryz.f3.params.toList++Rows.sessionChecksSpec.plain.varTypes Tryz.prog++Tryz.f3.resultTypes.toList).any (Tryz.prog.veiledRec ·)))=true:=by kernel_rfl
theorem Jdq:(Rows.sessionChecksRow.veiledFits Tryz.prog Tryz.f3.params.toList (Tryz.f3.params.toList++Rows.sessionChecksSpec.plain.varTypes Tryz.prog++Tryz.f3.resultTypes.toList))=true:=by kernel_rfl
set_option maxRecDepth 100000 in
theorem Jc1:joinedFacts Tryz.prog 3 Tryz.f3 Rows.sessionChecksSpec Rows.sessionChecksRow=true:=(Xt (Xt (Xt (Xt (Xt (Xt (Xt (Xt (Xt (Xt (Xt (Xt (Xt (Xt (Xt (Xt (Xt (Xt (Xt (Xt (Xt (Xt (Xt (Xt (Xt (Xt (Xt (Xt (Xt (Xt (Xt jf0 jf1) jf2) jf3) jf4) jf5) jf6) jf7) jf8) jf9) Jc5) Jc6) Jc7) Jc8) Jc9) Jda) Jdb) Jdc) Jdd) Jde) Jdf) Jdg) Jdh) Jdi) Jdj) Jdk) Jdl) Jdm) Jdn) Jdo) Jdp) Jdq)
/-- The statement SessionChecks. -/
theorem sessionChecks_proved:Rows.SessionChecksSaid :=
 OpenClaim.holds_of_wide 3 Tryz.f3 rfl rfl rfl rfl rfl rfl rfl ⟨rfl,rfl,rfl,rfl,rfl⟩ rfl rfl rfl rfl rfl (by kernel_rfl) Tryz.func3 Jc1
  (of_decide_eq_true (by kernel_rfl)) (by unfold Func.isWrapper; first | (rw [if_pos (by decide +kernel)]; kernel_rfl) | (rw [if_neg (by decide +kernel)]; exact ⟨rfl,rfl⟩))
  (fun os started H enc _=>If os started H enc)
end Go.Proofs.YtgnpojenbefoiaaGreat
