/- OnlineNobody: proved for every input. The plain law, the walk of the law, and the statement. Conditions: none. -/
import Derived.Test.YtgnpojenbefoiaaGreatRows
import Derived.Test.YtgnpojenbefoiaaGreatXRuns
import Derived.Test.YtgnpojenbefoiaaGreatXPlainOnlineNobody
import Derived.Test.YtgnpojenbefoiaaGreatXRl
import Derived.WalkKit
import Derived.ProofKit
import Derived.OpenShut
namespace Gx
open Go Gd Go.Proofs Go.Proofs.YtgnpojenbefoiaaGreat Go.RowKit Go.WideShapes Go.ChangeShapes
set_option linter.unusedVariables false
theorem op3:Cg Tryz.prog 3 (.int .i64):=Ql1 (show Tryz.prog.underlying 3=some (.int .i64) by kernel_rfl) (by kernel_rfl)
theorem op9:Cg Tryz.prog 9 .str:=Ql2 (show Tryz.prog.underlying 9=some (.string) by kernel_rfl) (by kernel_rfl)
theorem Jbv:Cg Tryz.prog 42 J5:=Qqj (show Tryz.prog.underlying 42=some (.struct ⟨[⟨"Session",3,0,false, "", "",0⟩,⟨"Seq",3,1,false, "", "",8⟩,⟨"Kind",3,2,false, "", "",16⟩,⟨"At",3,3,false, "", "",24⟩,⟨"Sub",3,4,false, "", "",32⟩,⟨"Usage",3,5,false, "", "",40⟩,⟨"B",9,6,false, "", "",48⟩,⟨"Used",3,7,false, "", "",64⟩,⟨"Ask",3,8,false, "", "",72⟩]⟩) by kernel_rfl) (by kernel_rfl) (.pr op3 rfl rfl rfl (.pr op3 rfl rfl rfl (.pr op3 rfl rfl rfl (.pr op3 rfl rfl rfl (.pr op3 rfl rfl rfl (.pr op3 rfl rfl rfl (.pr op9 rfl rfl rfl (.pr op3 rfl rfl rfl (.last op3 rfl rfl rfl)))))))))
end Gx
namespace Go.Proofs.YtgnpojenbefoiaaGreat
open Go Gd Gx Go.ChangeShapes Go.WideShapes Go.ChangeAt Go.RowKit
set_option linter.unusedVariables false
set_option maxRecDepth 100000 in
/-- What the walk and the plain law give. -/
theorem C4 (os:Os) (started:os.Started) (H:Type) (enc:TypeId×Value→H) :
  ReturnsInHanded {} Tryz.checked os 4 .any (Rows.onlineNobodySpec.pre6 enc Tryz.prog Tryz.f4 Rows.onlineNobodyRow.domain false) (Rows.onlineNobodySpec.post enc Tryz.prog Tryz.f4 false true false false):=by
 refine returnsInHanded_of_change (C:=Tryz.checked) (by kernel_rfl) started (by kernel_rfl) Tryz.func4
  (ChangeSpec.witness6 (enc:=enc) (C:=Tryz.checked) false ⟨#[],#[.agg #[.int .i64 0,.int .i64 0,.int .i64 0,.int .i64 0,.int .i64 0,.int .i64 0,.string ⟨#[]⟩,.int .i64 0,.int .i64 0],.int .i64 0],[]⟩ 8 (by kernel_rfl) (by kernel_rfl) (by kernel_rfl) (by kernel_rfl)) ?_
 intro W base args ds gs before hval0 hW hcnd _
 have hval:∀(j:Nat) t v,Tryz.f4.params[j]?=some t→args[j]?=some v→Value.okWide Tryz.prog W .any base t v:=hval0
 obtain ⟨v0,v1,x0,x1,hargs,hv0,g0,hv1,g1⟩:=Q9a (show Tryz.f4.params=#[42,3] by kernel_rfl) hval hW Jbv op3
 obtain ⟨N,hF⟩:=L7 x0 g0 x1 g1
 subst hargs
 exact Qok (tb:=4) (by kernel_rfl) (show Tryz.prog.underlying 4=some .bool by kernel_rfl) rfl (by kernel_rfl) (by kernel_rfl) (fun d hd=>(match d,hd with
   | [d0,d1],_=>rfl)) hW
  (Ql5 (c:=Qs4 N) (Jbq N (lt W) W [] (fun _=>0) (fun _=>undef) (x0,x1) true [v0,v1] (fun _ _ h=>h) (fun q hq=>by cases hq) rfl Ql4 (Q9y hv0 hv1) hF) rfl)

theorem Xv {a b:Bool} (ha:a=true) (hb:b=true):(a&&b)=true:=by rw [ha,hb]; rfl
theorem jf0:(Rows.onlineNobodyRow.wf (OpenSpec.ofChange Rows.onlineNobodySpec))=true:=by kernel_rfl
theorem jf1:(laidOutB Tryz.prog)=true:=by kernel_rfl
theorem jf2:(mapsRowed Tryz.prog)=true:=by kernel_rfl
theorem jf3:(Tryz.f4.params.all (Tryz.prog.readableRec ·))=true:=by kernel_rfl
theorem jf4:(namedTie Tryz.prog Rows.onlineNobodyRow.named Rows.onlineNobodySpec.vars)=true:=by kernel_rfl
theorem jf5:((Rows.onlineNobodyRow.stops==[]))=true:=by kernel_rfl
theorem jf6:((Tryz.prog.stops==[]))=true:=by kernel_rfl
theorem jf7:((Rows.onlineNobodyRow.knobs==[]))=true:=by kernel_rfl
theorem jf8:((Tryz.prog.stopKnobs==[]))=true:=by kernel_rfl
theorem jf9:((Rows.onlineNobodyRow.inPlace==Tryz.prog.inPlace 4))=true:=by kernel_rfl
theorem Jbw:((Rows.onlineNobodyRow.unfollowed==Tryz.prog.unfollowed 4))=true:=by kernel_rfl
theorem Jbx:((Rows.onlineNobodyRow.recurses==Tryz.prog.recurses 4))=true:=by kernel_rfl
theorem Jby:((Rows.onlineNobodyRow.named==Tryz.prog.varsNamed 4))=true:=by kernel_rfl
theorem Jbz:((Rows.onlineNobodyRow.maps==(Tryz.f4.params.toList++Rows.onlineNobodySpec.plain.varTypes Tryz.prog).any (Tryz.prog.mapsRec ·)))=true:=by kernel_rfl
theorem Jb0:((Rows.onlineNobodyRow.ifaces==(Tryz.f4.params.toList++Rows.onlineNobodySpec.plain.varTypes Tryz.prog).any (Tryz.prog.ifacesRec ·)))=true:=by kernel_rfl
theorem Jb1:((Rows.onlineNobodyRow.mapsOut==Tryz.prog.mapsAmong Tryz.f4.resultTypes.toList))=true:=by kernel_rfl
theorem Jb2:((Rows.onlineNobodyRow.loops==(Tryz.f4.params.toList++Rows.onlineNobodySpec.plain.varTypes Tryz.prog).any (Tryz.prog.loopsFrom ·)))=true:=by kernel_rfl
theorem Jb3:((Rows.onlineNobodyRow.wideKeys==(Tryz.f4.params.toList++Rows.onlineNobodySpec.plain.varTypes Tryz.prog++Tryz.f4.resultTypes.toList).any (Tryz.prog.wideKeysFrom ·)))=true:=by kernel_rfl
theorem Jb4:(Rows.onlineNobodySpec.vars.all (Tryz.prog.varReadable ·))=true:=by kernel_rfl
theorem Jb5:(Tryz.f4.resultTypes.all (fun t=>Tryz.prog.readableRec t&&decide (t<Tryz.prog.types.size)))=true:=by kernel_rfl
theorem Jb6:((Rows.onlineNobodyRow.ifacesOut==Tryz.f4.resultTypes.toList.any (Tryz.prog.ifacesRec ·)))=true:=by kernel_rfl
theorem Jb7:((Rows.onlineNobodyRow.loopsOut==Tryz.f4.resultTypes.toList.any (Tryz.prog.loopsFrom ·)))=true:=by kernel_rfl
theorem Jb8:((Rows.onlineNobodyRow.plainKeys==Tryz.prog.plainKeys))=true:=by kernel_rfl
theorem Jb9:(Rows.onlineNobodyRow.shortTexts.isNone)=true:=by kernel_rfl
theorem Jca:(Tryz.prog.stopsHeard)=true:=by kernel_rfl
theorem Jcb:(Tryz.prog.mayEnter)=true:=by kernel_rfl
theorem Jcc:((Rows.onlineNobodyRow.lifted==Tryz.prog.liftsFinal))=true:=by kernel_rfl
theorem Jcd:((Tryz.prog.make==some Rows.onlineNobodyRow.make))=true:=by kernel_rfl
theorem Jce:((Rows.onlineNobodyRow.kinds==(if Rows.onlineNobodyRow.domain.isEmpty then [] else Tryz.f4.params.toList.map fun t=>match Tryz.prog.underlying t with | some (.int k)=>some k | _=>none)))=true:=by kernel_rfl
theorem Jcf:((Rows.onlineNobodyRow.pinned==Rows.onlineNobodyRow.pinnedBy))=true:=by kernel_rfl
theorem Jcg:((Rows.onlineNobodyRow.veiled==(Tryz.f4.params.toList++Rows.onlineNobodySpec.plain.varTypes Tryz.prog++Tryz.f4.resultTypes.toList).any (Tryz.prog.veiledRec ·)))=true:=by kernel_rfl
theorem Jch:(Rows.onlineNobodyRow.veiledFits Tryz.prog Tryz.f4.params.toList (Tryz.f4.params.toList++Rows.onlineNobodySpec.plain.varTypes Tryz.prog++Tryz.f4.resultTypes.toList))=true:=by kernel_rfl
set_option maxRecDepth 100000 in
theorem Jbr:joinedFacts Tryz.prog 4 Tryz.f4 Rows.onlineNobodySpec Rows.onlineNobodyRow=true:=(Xv (Xv (Xv (Xv (Xv (Xv (Xv (Xv (Xv (Xv (Xv (Xv (Xv (Xv (Xv (Xv (Xv (Xv (Xv (Xv (Xv (Xv (Xv (Xv (Xv (Xv (Xv (Xv (Xv (Xv (Xv jf0 jf1) jf2) jf3) jf4) jf5) jf6) jf7) jf8) jf9) Jbw) Jbx) Jby) Jbz) Jb0) Jb1) Jb2) Jb3) Jb4) Jb5) Jb6) Jb7) Jb8) Jb9) Jca) Jcb) Jcc) Jcd) Jce) Jcf) Jcg) Jch)
/-- The statement OnlineNobody. -/
theorem onlineNobody_proved:Rows.OnlineNobodySaid :=
 OpenClaim.holds_of_wide 4 Tryz.f4 rfl rfl rfl rfl rfl rfl rfl ⟨rfl,rfl,rfl,rfl,rfl⟩ rfl rfl rfl rfl rfl (by kernel_rfl) Tryz.func4 Jbr
  (of_decide_eq_true (by kernel_rfl)) (by unfold Func.isWrapper; first | (rw [if_pos (by decide +kernel)]; kernel_rfl) | (rw [if_neg (by decide +kernel)]; exact ⟨rfl,rfl⟩))
  (fun os started H enc _=>C4 os started H enc)
end Go.Proofs.YtgnpojenbefoiaaGreat
