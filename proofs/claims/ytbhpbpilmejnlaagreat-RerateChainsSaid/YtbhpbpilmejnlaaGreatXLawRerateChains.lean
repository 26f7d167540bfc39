/- RerateChains: proved for every input. The plain law, the walk of the law, and the statement. Conditions: none. -/
import Derived.Test.YtbhpbpilmejnlaaGreatRows
import Derived.Test.YtbhpbpilmejnlaaGreatXRuns
import Derived.Test.YtbhpbpilmejnlaaGreatXPlainRerateChains
import Derived.Test.YtbhpbpilmejnlaaGreatXRl
import Derived.WalkKit
import Derived.ProofKit
import Derived.OpenShut
namespace Gx
open Go Gd Go.Proofs Go.Proofs.YtbhpbpilmejnlaaGreat Go.RowKit Go.WideShapes Go.ChangeShapes
set_option linter.unusedVariables false
theorem op3:Zp Tryz.prog 3 (.int .i64):=Qdc (show Tryz.prog.underlying 3=some (.int .i64) by kernel_rfl) (by kernel_rfl)
theorem op9:Zp Tryz.prog 9 .str:=Qrc (show Tryz.prog.underlying 9=some (.string) by kernel_rfl) (by kernel_rfl)
theorem op4:Zp Tryz.prog 4 .bool:=Qkz (show Tryz.prog.underlying 4=some (.bool) by kernel_rfl) (by kernel_rfl)
theorem Jm8:Zp Tryz.prog 23 Qk:=D0 (show Tryz.prog.underlying 23=some (.struct ⟨[⟨"Id",3,0,false, "", "",0⟩,⟨"Kind",3,1,false, "", "",8⟩,⟨"Account",3,2,false, "", "",16⟩,⟨"Sub",3,3,false, "", "",24⟩,⟨"A",9,4,false, "", "",32⟩,⟨"B",9,5,false, "", "",48⟩,⟨"Start",3,6,false, "", "",64⟩,⟨"Units",3,7,false, "", "",72⟩,⟨"Trunk",3,8,false, "", "",80⟩,⟨"Inbound",4,9,false, "", "",88⟩,⟨"Source",3,10,false, "", "",96⟩,⟨"Serial",3,11,false, "", "",104⟩]⟩) by kernel_rfl) (by kernel_rfl) (.pr op3 rfl rfl rfl (.pr op3 rfl rfl rfl (.pr op3 rfl rfl rfl (.pr op3 rfl rfl rfl (.pr op9 rfl rfl rfl (.pr op9 rfl rfl rfl (.pr op3 rfl rfl rfl (.pr op3 rfl rfl rfl (.pr op3 rfl rfl rfl (.pr op4 rfl rfl rfl (.pr op3 rfl rfl rfl (.last op3 rfl rfl rfl))))))))))))
theorem Jm9:Zp Tryz.prog 24 (.int .i64):=Qdc (show Tryz.prog.underlying 24=some (.int .i64) by kernel_rfl) (by kernel_rfl)
theorem Jna:Zp Tryz.prog 33 Jy:=D0 (show Tryz.prog.underlying 33=some (.struct ⟨[⟨"Sub",3,0,false, "", "",0⟩,⟨"Product",9,1,false, "", "",8⟩,⟨"Index",3,2,false, "", "",24⟩,⟨"From",3,3,false, "", "",32⟩,⟨"Units",3,4,false, "", "",40⟩]⟩) by kernel_rfl) (by kernel_rfl) (.pr op3 rfl rfl rfl (.pr op9 rfl rfl rfl (.pr op3 rfl rfl rfl (.pr op3 rfl rfl rfl (.last op3 rfl rfl rfl)))))
theorem Jnb:Zp Tryz.prog 25 (.sl Jy):=Nq (show Tryz.prog.underlying 25=some (.slice 33) by kernel_rfl) (by kernel_rfl) Jna (by decide)
theorem Jnc:Zp Tryz.prog 35 Q8:=D0 (show Tryz.prog.underlying 35=some (.struct ⟨[⟨"Band",9,0,false, "", "",0⟩,⟨"Start",3,1,false, "", "",16⟩,⟨"Units",3,2,false, "", "",24⟩,⟨"Amount",3,3,false, "", "",32⟩]⟩) by kernel_rfl) (by kernel_rfl) (.pr op9 rfl rfl rfl (.pr op3 rfl rfl rfl (.pr op3 rfl rfl rfl (.last op3 rfl rfl rfl))))
theorem Jnd:Zp Tryz.prog 26 (.sl Q8):=Nq (show Tryz.prog.underlying 26=some (.slice 35) by kernel_rfl) (by kernel_rfl) Jnc (by decide)
theorem Jne:Zp Tryz.prog 76 Ju:=D0 (show Tryz.prog.underlying 76=some (.struct ⟨[⟨"Name",9,0,false, "", "",0⟩,⟨"Amount",3,1,false, "", "",16⟩]⟩) by kernel_rfl) (by kernel_rfl) (.pr op9 rfl rfl rfl (.last op3 rfl rfl rfl))
theorem Jnf:Zp Tryz.prog 27 (.sl Ju):=Nq (show Tryz.prog.underlying 27=some (.slice 76) by kernel_rfl) (by kernel_rfl) Jne (by decide)
theorem Jng:Zp Tryz.prog 29 Jm:=D0 (show Tryz.prog.underlying 29=some (.struct ⟨[⟨"Usage",23,0,false, "", "",0⟩,⟨"Err",24,12,false, "", "",112⟩,⟨"Plan",9,13,false, "", "",120⟩,⟨"Version",3,14,false, "", "",136⟩,⟨"Zone",9,15,false, "", "",144⟩,⟨"Takes",25,16,false, "", "",160⟩,⟨"Segments",26,17,false, "", "",184⟩,⟨"Setup",3,18,false, "", "",208⟩,⟨"Gross",3,19,false, "", "",216⟩,⟨"Net",3,20,false, "", "",224⟩,⟨"Given",27,21,false, "", "",232⟩,⟨"Paid",3,22,false, "", "",256⟩,⟨"Owed",3,23,false, "", "",264⟩]⟩) by kernel_rfl) (by kernel_rfl) (.pr Jm8 rfl rfl rfl (.pr Jm9 rfl rfl rfl (.pr op9 rfl rfl rfl (.pr op3 rfl rfl rfl (.pr op9 rfl rfl rfl (.pr Jnb rfl rfl rfl (.pr Jnd rfl rfl rfl (.pr op3 rfl rfl rfl (.pr op3 rfl rfl rfl (.pr op3 rfl rfl rfl (.pr Jnf rfl rfl rfl (.pr op3 rfl rfl rfl (.last op3 rfl rfl rfl)))))))))))))
theorem Jkb:Zp Tryz.prog 38 (.sl Jm):=Nq (show Tryz.prog.underlying 38=some (.slice 29) by kernel_rfl) (by kernel_rfl) Jng (by decide)
end Gx
namespace Go.Proofs.YtbhpbpilmejnlaaGreat
open Go Gd Gx Go.ChangeShapes Go.WideShapes Go.ChangeAt Go.RowKit
set_option linter.unusedVariables false
set_option maxRecDepth 100000 in
/-- What the walk and the plain law give. -/
theorem Ld (os:Os) (started:os.Started) (H:Type) (enc:TypeId×Value→H) :
  ReturnsInHanded {} Tryz.checked os 8 .any (Rows.rerateChainsSpec.pre6 enc Tryz.prog Tryz.f8 Rows.rerateChainsRow.domain false) (Rows.rerateChainsSpec.post enc Tryz.prog Tryz.f8 false true false false):=by
 refine returnsInHanded_of_change (C:=Tryz.checked) (by kernel_rfl) started (by kernel_rfl) Tryz.func8
  (ChangeSpec.witness6 (enc:=enc) (C:=Tryz.checked) false ⟨#[],#[.slice none 0 0,.slice none 0 0,.slice none 0 0],[]⟩ 8 (by kernel_rfl) (by kernel_rfl) (by kernel_rfl) (by kernel_rfl)) ?_
 intro W base args ds gs before hval0 hW hcnd _
 have hval:∀(j:Nat) t v,Tryz.f8.params[j]?=some t→args[j]?=some v→Value.okWide Tryz.prog W .any base t v:=hval0
 obtain ⟨v0,v1,v2,x0,x1,x2,hargs,hv0,g0,hv1,g1,hv2,g2⟩:=Jke (show Tryz.f8.params=#[38,38,38] by kernel_rfl) hval hW Jkb Jkb Jkb
 obtain ⟨N,hF⟩:=Pq x0 g0 x1 g1 x2 g2
 subst hargs
 exact Qsv (tb:=4) (by kernel_rfl) (show Tryz.prog.underlying 4=some .bool by kernel_rfl) rfl (by kernel_rfl) (by kernel_rfl) (fun d hd=>(match d,hd with
   | [d0,d1,d2],_=>rfl)) hW
  (Qrf (c:=Kf N) (Hj N (lt W) W [] (fun _=>0) (fun _=>undef) (x0,x1,x2) true [v0,v1,v2] (fun _ _ h=>h) (fun q hq=>by cases hq) rfl Qre (Jk2 hv0 hv1 hv2) hF) rfl)

theorem Xz {a b:Bool} (ha:a=true) (hb:b=true):(a&&b)=true:=by rw [ha,hb]; rfl
theorem jf0:(Rows.rerateChainsRow.wf (OpenSpec.ofChange Rows.rerateChainsSpec))=true:=by kernel_rfl
theorem jf1:(laidOutB Tryz.prog)=true:=by kernel_rfl
theorem jf2:(mapsRowed Tryz.prog)=true:=by kernel_rfl
theorem jf3:(Tryz.f8.params.all (Tryz.prog.readableRec ·))=true:=by kernel_rfl
theorem jf4:(namedTie Tryz.prog Rows.rerateChainsRow.named Rows.rerateChainsSpec.vars)=true:=by kernel_rfl
theorem jf5:((Rows.rerateChainsRow.stops==[]))=true:=by kernel_rfl
theorem jf6:((Tryz.prog.stops==[]))=true:=by kernel_rfl
theorem jf7:((Rows.rerateChainsRow.knobs==[]))=true:=by kernel_rfl
theorem jf8:((Tryz.prog.stopKnobs==[]))=true:=by kernel_rfl
theorem jf9:((Rows.rerateChainsRow.inPlace==Tryz.prog.inPlace 8))=true:=by kernel_rfl
theorem Jnh:((Rows.rerateChainsRow.unfollowed==Tryz.prog.unfollowed 8))=true:=by kernel_rfl
theorem Jni:((Rows.rerateChainsRow.recurses==Tryz.prog.recurses 8))=true:=by kernel_rfl
theorem Jnj:((Rows.rerateChainsRow.named==Tryz.prog.varsNamed 8))=true:=by kernel_rfl
theorem Jnk:((Rows.rerateChainsRow.maps==(Tryz.f8.params.toList++Rows.rerateChainsSpec.plain.varTypes Tryz.prog).any (Tryz.prog.mapsRec ·)))=true:=by kernel_rfl
theorem Jnl:((Rows.rerateChainsRow.ifaces==(Tryz.f8.params.toList++Rows.rerateChainsSpec.plain.varTypes Tryz.prog).any (Tryz.prog.ifacesRec ·)))=true:=by kernel_rfl
theorem Jnm:((Rows.rerateChainsRow.mapsOut==Tryz.prog.mapsAmong Tryz.f8.resultTypes.toList))=true:=by kernel_rfl
theorem Jnn:((Rows.rerateChainsRow.loops==(Tryz.f8.params.toList++Rows.rerateChainsSpec.plain.varTypes Tryz.prog).any (Tryz.prog.loopsFrom ·)))=true:=by kernel_rfl
theorem Jno:((Rows.rerateChainsRow.wideKeys==(Tryz.f8.params.toList++Rows.rerateChainsSpec.plain.varTypes Tryz.prog++Tryz.f8.resultTypes.toList).any (Tryz.prog.wideKeysFrom ·)))=true:=by kernel_rfl
theorem Jnp:(Rows.rerateChainsSpec.vars.all (Tryz.prog.varReadable ·))=true:=by kernel_rfl
theorem Jnq:(Tryz.f8.resultTypes.all (fun t=>Tryz.prog.readableRec t&&decide (t<Tryz.prog.types.size)))=true:=by kernel_rfl
theorem Jnr:((Rows.rerateChainsRow.ifacesOut==Tryz.f8.resultTypes.toList.any (Tryz.prog.ifacesRec ·)))=true:=by kernel_rfl
theorem Jns:((Rows.rerateChainsRow.loopsOut==Tryz.f8.resultTypes.toList.any (Tryz.prog.loopsFrom ·)))=true:=by kernel_rfl
theorem Jnt:((Rows.rerateChainsRow.plainKeys==Tryz.prog.plainKeys))=true:=by kernel_rfl
theorem Jnu:(Rows.rerateChainsRow.shortTexts.isNone)=true:=by kernel_rfl
theorem Jnv:(Tryz.prog.stopsHeard)=true:=by kernel_rfl
theorem Jnw:(Tryz.prog.mayEnter)=true:=by kernel_rfl
theorem Jnx:((Rows.rerateChainsRow.lifted==Tryz.prog.liftsFinal))=true:=by kernel_rfl
theorem Jny:((Tryz.prog.make==some Rows.rerateChainsRow.make))=true:=by kernel_rfl
theorem Jnz:((Rows.rerateChainsRow.kinds==(if Rows.rerateChainsRow.domain.isEmpty then [] else Tryz.f8.params.toList.map fun t=>match Tryz.prog.underlying t with | some (.int k)=>some k | _=>none)))=true:=by kernel_rfl
theorem Jn0:((Rows.rerateChainsRow.pinned==Rows.rerateChainsRow.pinnedBy))=true:=by kernel_rfl
theorem Jn1:((Rows.rerateChainsRow.veiled==(Tryz.f8.params.toList++Rows.rerateChainsSpec.plain.varTypes Tryz.prog++Tryz.f8.resultTypes.toList).any (Tryz.prog.veiledRec ·)))=true:=by kernel_rfl
theorem Jn2:(Rows.rerateChainsRow.veiledFits Tryz.prog Tryz.f8.params.toList (Tryz.f8.params.toList++Rows.rerateChainsSpec.plain.varTypes Tryz.prog++Tryz.f8.resultTypes.toList))=true:=by kernel_rfl
set_option maxRecDepth 100000 in
theorem Jm2:joinedFacts Tryz.prog 8 Tryz.f8 Rows.rerateChainsSpec Rows.rerateChainsRow=true:=(Xz (Xz (Xz (Xz (Xz (Xz (Xz (Xz (Xz (Xz (Xz (Xz (Xz (Xz (Xz (Xz (Xz (Xz (Xz (Xz (Xz (Xz (Xz (Xz (Xz (Xz (Xz (Xz (Xz (Xz (Xz jf0 jf1) jf2) jf3) jf4) jf5) jf6) jf7) jf8) jf9) Jnh) Jni) Jnj) Jnk) Jnl) Jnm) Jnn) Jno) Jnp) Jnq) Jnr) Jns) Jnt) Jnu) Jnv) Jnw) Jnx) Jny) Jnz) Jn0) Jn1) Jn2)
/-- The statement RerateChains. -/
theorem rerateChains_proved:Rows.RerateChainsSaid :=
 OpenClaim.holds_of_wide 8 Tryz.f8 rfl rfl rfl rfl rfl rfl rfl ⟨rfl,rfl,rfl,rfl,rfl⟩ rfl rfl rfl rfl rfl (by kernel_rfl) Tryz.func8 Jm2
  (of_decide_eq_true (by kernel_rfl)) (by unfold Func.isWrapper; first | (rw [if_pos (by decide +kernel)]; kernel_rfl) | (rw [if_neg (by decide +kernel)]; exact ⟨rfl,rfl⟩))
  (fun os started H enc _=>Ld os started H enc)
end Go.Proofs.YtbhpbpilmejnlaaGreat
