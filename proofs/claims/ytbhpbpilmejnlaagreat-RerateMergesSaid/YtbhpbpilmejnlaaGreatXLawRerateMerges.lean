/- RerateMerges: proved for every input. The plain law, the walk of the law, and the statement. Conditions: none. -/
import Derived.Test.YtbhpbpilmejnlaaGreatRows
import Derived.Test.YtbhpbpilmejnlaaGreatXRuns
import Derived.Test.YtbhpbpilmejnlaaGreatXPlainRerateMerges
import Derived.Test.YtbhpbpilmejnlaaGreatXRl
import Derived.WalkKit
import Derived.ProofKit
import Derived.OpenShut
namespace Gx
open Go Gd Go.Proofs Go.Proofs.YtbhpbpilmejnlaaGreat Go.RowKit Go.WideShapes Go.ChangeShapes
set_option linter.unusedVariables false
theorem op3:Bm Tryz.prog 3 (.int .i64):=Qqk (show Tryz.prog.underlying 3=some (.int .i64) by kernel_rfl) (by kernel_rfl)
theorem Jmf:Bm Tryz.prog 51 Ql:=Qt2 (show Tryz.prog.underlying 51=some (.struct ⟨[⟨"Usage",3,0,false, "", "",0⟩,⟨"Account",3,1,false, "", "",8⟩,⟨"Sub",3,2,false, "", "",16⟩,⟨"Kind",3,3,false, "", "",24⟩,⟨"Start",3,4,false, "", "",32⟩,⟨"Paid",3,5,false, "", "",40⟩,⟨"Owed",3,6,false, "", "",48⟩]⟩) by kernel_rfl) (by kernel_rfl) (.pr op3 rfl rfl rfl (.pr op3 rfl rfl rfl (.pr op3 rfl rfl rfl (.pr op3 rfl rfl rfl (.pr op3 rfl rfl rfl (.pr op3 rfl rfl rfl (.last op3 rfl rfl rfl)))))))
theorem Jma:Bm Tryz.prog 44 (.sl Ql):=Qt1 (show Tryz.prog.underlying 44=some (.slice 51) by kernel_rfl) (by kernel_rfl) Jmf (by decide)
end Gx
namespace Go.Proofs.YtbhpbpilmejnlaaGreat
open Go Gd Gx Go.ChangeShapes Go.WideShapes Go.ChangeAt Go.RowKit
set_option linter.unusedVariables false
set_option maxRecDepth 100000 in
/-- What the walk and the plain law give. -/
theorem Is (os:Os) (started:os.Started) (H:Type) (enc:TypeId×Value→H) :
  ReturnsInHanded {} Tryz.checked os 7 .any (Rows.rerateMergesSpec.pre6 enc Tryz.prog Tryz.f7 Rows.rerateMergesRow.domain false) (Rows.rerateMergesSpec.post enc Tryz.prog Tryz.f7 false true false false):=by
 refine returnsInHanded_of_change (C:=Tryz.checked) (by kernel_rfl) started (by kernel_rfl) Tryz.func7
  (ChangeSpec.witness6 (enc:=enc) (C:=Tryz.checked) false ⟨#[],#[.slice none 0 0,.slice none 0 0],[]⟩ 8 (by kernel_rfl) (by kernel_rfl) (by kernel_rfl) (by kernel_rfl)) ?_
 intro W base args ds gs before hval0 hW hcnd _
 have hval:∀(j:Nat) t v,Tryz.f7.params[j]?=some t→args[j]?=some v→Value.okWide Tryz.prog W .any base t v:=hval0
 obtain ⟨v0,v1,x0,x1,hargs,hv0,g0,hv1,g1⟩:=Jji (show Tryz.f7.params=#[44,44] by kernel_rfl) hval hW Jma Jma
 obtain ⟨N,hF⟩:=O8 x0 g0 x1 g1
 subst hargs
 exact Qr2 (tb:=4) (by kernel_rfl) (show Tryz.prog.underlying 4=some .bool by kernel_rfl) rfl (by kernel_rfl) (by kernel_rfl) (fun d hd=>(match d,hd with
   | [d0,d1],_=>rfl)) hW
  (Qqn (c:=Kf N) (Hc N (lt W) W [] (fun _=>0) (fun _=>undef) (x0,x1) true [v0,v1] (fun _ _ h=>h) (fun q hq=>by cases hq) rfl Qqm (Jj6 hv0 hv1) hF) rfl)

theorem Xx {a b:Bool} (ha:a=true) (hb:b=true):(a&&b)=true:=by rw [ha,hb]; rfl
theorem jf0:(Rows.rerateMergesRow.wf (OpenSpec.ofChange Rows.rerateMergesSpec))=true:=by kernel_rfl
theorem jf1:(laidOutB Tryz.prog)=true:=by kernel_rfl
theorem jf2:(mapsRowed Tryz.prog)=true:=by kernel_rfl
theorem jf3:(Tryz.f7.params.all (Tryz.prog.readableRec ·))=true:=by kernel_rfl
theorem jf4:(namedTie Tryz.prog Rows.rerateMergesRow.named Rows.rerateMergesSpec.vars)=true:=by kernel_rfl
theorem jf5:((Rows.rerateMergesRow.stops==[]))=true:=by kernel_rfl
theorem jf6:((Tryz.prog.stops==[]))=true:=by kernel_rfl
theorem jf7:((Rows.rerateMergesRow.knobs==[]))=true:=by kernel_rfl
theorem jf8:((Tryz.prog.stopKnobs==[]))=true:=by kernel_rfl
theorem jf9:((Rows.rerateMergesRow.inPlace==Tryz.prog.inPlace 7))=true:=by kernel_rfl
theorem Jmg:((Rows.rerateMergesRow.unfollowed==Tryz.prog.unfollowed 7))=true:=by kernel_rfl
theorem Jmh:((Rows.rerateMergesRow.recurses==Tryz.prog.recurses 7))=true:=by kernel_rfl
theorem Jmi:((Rows.rerateMergesRow.named==Tryz.prog.varsNamed 7))=true:=by kernel_rfl
theorem Jmj:((Rows.rerateMergesRow.maps==(Tryz.f7.params.toList++Rows.rerateMergesSpec.plain.varTypes Tryz.prog).any (Tryz.prog.mapsRec ·)))=true:=by kernel_rfl
theorem Jmk:((Rows.rerateMergesRow.ifaces==(Tryz.f7.params.toList++Rows.rerateMergesSpec.plain.varTypes Tryz.prog).any (Tryz.prog.ifacesRec ·)))=true:=by kernel_rfl
theorem Jml:((Rows.rerateMergesRow.mapsOut==Tryz.prog.mapsAmong Tryz.f7.resultTypes.toList))=true:=by kernel_rfl
theorem Jmm:((Rows.rerateMergesRow.loops==(Tryz.f7.params.toList++Rows.rerateMergesSpec.plain.varTypes Tryz.prog).any (Tryz.prog.loopsFrom ·)))=true:=by kernel_rfl
theorem Jmn:((Rows.rerateMergesRow.wideKeys==(Tryz.f7.params.toList++Rows.rerateMergesSpec.plain.varTypes Tryz.prog++Tryz.f7.resultTypes.toList).any (Tryz.prog.wideKeysFrom ·)))=true:=by kernel_rfl
theorem Jmo:(Rows.rerateMergesSpec.vars.all (Tryz.prog.varReadable ·))=true:=by kernel_rfl
theorem Jmp:(Tryz.f7.resultTypes.all (fun t=>Tryz.prog.readableRec t&&decide (t<Tryz.prog.types.size)))=true:=by kernel_rfl
theorem Jmq:((Rows.rerateMergesRow.ifacesOut==Tryz.f7.resultTypes.toList.any (Tryz.prog.ifacesRec ·)))=true:=by kernel_rfl
theorem Jmr:((Rows.rerateMergesRow.loopsOut==Tryz.f7.resultTypes.toList.any (Tryz.prog.loopsFrom ·)))=true:=by kernel_rfl
theorem Jms:((Rows.rerateMergesRow.plainKeys==Tryz.prog.plainKeys))=true:=by kernel_rfl
theorem Jmt:(Rows.rerateMergesRow.shortTexts.isNone)=true:=by kernel_rfl
theorem Jmu:(Tryz.prog.stopsHeard)=true:=by kernel_rfl
theorem Jmv:(Tryz.prog.mayEnter)=true:=by kernel_rfl
theorem Jmw:((Rows.rerateMergesRow.lifted==Tryz.prog.liftsFinal))=true:=by kernel_rfl
theorem Jmx:((Tryz.prog.make==some Rows.rerateMergesRow.make))=true:=by kernel_rfl
theorem Jmy:((Rows.rerateMergesRow.kinds==(if Rows.rerateMergesRow.domain.isEmpty then [] else Tryz.f7.params.toList.map fun t=>match Tryz.prog.underlying t with | some (.int k)=>some k | _=>none)))=true:=by kernel_rfl
theorem Jmz:((Rows.rerateMergesRow.pinned==Rows.rerateMergesRow.pinnedBy))=true:=by kernel_rfl
theorem Jm0:((Rows.rerateMergesRow.veiled==(Tryz.f7.params.toList++Rows.rerateMergesSpec.plain.varTypes Tryz.prog++Tryz.f7.resultTypes.toList).any (Tryz.prog.veiledRec ·)))=true:=by kernel_rfl
theorem Jm1:(Rows.rerateMergesRow.veiledFits Tryz.prog Tryz.f7.params.toList (Tryz.f7.params.toList++Rows.rerateMergesSpec.plain.varTypes Tryz.prog++Tryz.f7.resultTypes.toList))=true:=by kernel_rfl
set_option maxRecDepth 100000 in
theorem Jmb:joinedFacts Tryz.prog 7 Tryz.f7 Rows.rerateMergesSpec Rows.rerateMergesRow=true:=(Xx (Xx (Xx (Xx (Xx (Xx (Xx (Xx (Xx (Xx (Xx (Xx (Xx (Xx (Xx (Xx (Xx (Xx (Xx (Xx (Xx (Xx (Xx (Xx (Xx (Xx (Xx (Xx (Xx (Xx (Xx jf0 jf1) jf2) jf3) jf4) jf5) jf6) jf7) jf8) jf9) Jmg) Jmh) Jmi) Jmj) Jmk) Jml) Jmm) Jmn) Jmo) Jmp) Jmq) Jmr) Jms) Jmt) Jmu) Jmv) Jmw) Jmx) Jmy) Jmz) Jm0) Jm1)
/-- The statement RerateMerges. -/
theorem rerateMerges_proved:Rows.RerateMergesSaid :=
 OpenClaim.holds_of_wide 7 Tryz.f7 rfl rfl rfl rfl rfl rfl rfl ⟨rfl,rfl,rfl,rfl,rfl⟩ rfl rfl rfl rfl rfl (by kernel_rfl) Tryz.func7 Jmb
  (of_decide_eq_true (by kernel_rfl)) (by unfold Func.isWrapper; first | (rw [if_pos (by decide +kernel)]; kernel_rfl) | (rw [if_neg (by decide +kernel)]; exact ⟨rfl,rfl⟩))
  (fun os started H enc _=>Is os started H enc)
end Go.Proofs.YtbhpbpilmejnlaaGreat
