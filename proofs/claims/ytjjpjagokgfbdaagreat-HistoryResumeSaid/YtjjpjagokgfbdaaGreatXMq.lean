/- Ranges over maps: the rounds. -/
import Derived.Test.YtjjpjagokgfbdaaGreatXRd
import Derived.Test.YtjjpjagokgfbdaaGreatXO
import Derived.Scope
import Derived.RangeFuncRecord
import Derived.TacticsIn
import Derived.RangeFuncOwn
import Derived.RangeFuncIn
namespace Gx
open Go Go.RowKit Gd
set_option linter.unusedVariables false
set_option linter.unusedSimpArgs false
section
section
variable {P:Program} {Y:TX} {X:Cx} {S:XS} {β β':Nat→Nat} {ρ ρ':Nat→Value} {a a':Act} {w w':World} {n N:Nat} {K:List Con}
variable {Q:Exit→Act→World→Prop} {R:Type} {r:R}
def Ex.exit:Ex→Exit
 | .n=>.normal
 | .x i=>.exit i
 | .r=>.ret
theorem Ex.beq_ok{a b:Ex}(h:Ex.beq a b=true):a=b:=by
 cases a<;>cases b<;>simp[Ex.beq]at h<;>first | rfl | (rw[h])
def COk(Q:Exit→Act→World→Prop)(X:Cx)(S0:XS)(β:Nat→Nat)(ρ:Nat→Value){R:Type}(k:Ex→XS→Option R)(r:R):Prop :=
 ∀(e:Ex) (β':Nat→Nat) (ρ':Nat→Value) (S':XS) (a':Act) (w':World),k e S'=some r→Y6 S0 S' β β' ρ ρ'→Rel X β' ρ' S'.flat a' w'→Q e.exit a' w'
theorem COk.after{k:Ex→XS→Option R}(h:COk Q X S β ρ k r){S1:XS}{β1:Nat→Nat}{ρ1:Nat→Value}(hk:Y6 S S1 β β1 ρ ρ1):COk Q X S1 β1 ρ1 k r :=
 fun e β' ρ' S' a' w' h1 h2 h3=>h e β' ρ' S' a' w' h1 (hk.trans h2) h3
theorem Qgt{k:Ex→XS→Option R}(ks ms:List Nat):∀{l:Exs} {e:Ex} {S':XS} {x:Qb4 l},inj l e S'=some x→Q0s S ks ms k l x=some r →
  S'.fix=(S.ent ks ms).fix∧S'.fixM=(S.ent ks ms).fixM∧S'.prot=(S.ent ks ms).prot→Rel X β ρ S'.flat a w →
  ∃β' ρ' S1,k e (S.out ks ms S1)=some r∧agP S.prot β β' ρ ρ'∧Rel X β' ρ' (S.out ks ms S1).flat a w
 | [q],e,S',x,hi,ho,hk,h=>by
  simp only[inj]at hi
  obtain⟨hb,hd⟩:=bvT hi
  have:=Ex.beq_ok hb
  subst this
  obtain⟨β',ρ',h1,h2⟩:=If (S0:=S.ent ks ms) h hk hd
  rw[←Qcw]at h2
  exact⟨β',ρ',enc q.2 x,ho,h1,h2⟩
 | q::q2::l,e,S',x,hi,ho,hk,h=>by
  simp only[inj]at hi
  cases hb:Ex.beq q.1 e with
  | true =>
   rw[hb]at hi
   have:=Ex.beq_ok hb
   subst this
   simp only[cond_true]at hi
   split at hi
   ·rename_i y hd
    injection hi with hi; subst hi
    obtain⟨β',ρ',h1,h2⟩:=If (S0:=S.ent ks ms) h hk hd
    rw[←Qcw]at h2
    exact⟨β',ρ',enc q.2 y,ho,h1,h2⟩
   ·cases hi
  | false =>
   rw[hb]at hi
   simp only[cond_false]at hi
   split at hi
   ·rename_i y hd
    injection hi with hi; subst hi
    exact Qgt ks ms hd ho hk h
   ·cases hi
end
variable {P:Program} {Y:TX} {X:Cx} {n N:Nat} {K:List Con} {β:Nat→Nat} {ρ:Nat→Value} {a:Act} {w:World} {Q:Exit→Act→World→Prop} {R:Type} {r:R} {k:Ex→XS→Option R} {S1:XS}
theorem Qmj:∀{l m:List (Nat×Ob)},Vg l=true→Vg m=true→Vg (l++m)=true
 | [],m,_,h=>h
 | (i,o)::l,m,h1,h2=>by
  have h3:Vg l=true:=by cases o<;>first | exact h1 | cases h1
  have ih:=Qmj h3 h2
  cases o<;>first | exact ih | cases h1
theorem Qq7:∀{l:List (Nat×SkO)} {vs:List DV},Qot l=true→Vg (U3 l vs)=true
 | [],_,_=>rfl
 | (t,o)::l,vs,h=>by
  have h2:Qot l=true:=by cases o<;>first | exact h | cases h
  simp only[U3]
  cases he:Ib o vs with
  | none=>rfl
  | some q =>
   obtain⟨x,r⟩:=q
   have ih:=Qq7 (vs:=r) h2
   cases o with
   | tail e t=>cases h
   | mapC kk u =>
    cases vs with
    | nil=>simp[Ib]at he
    | cons v vs =>
     simp only[Ib]at he
     split at he
     ·simp only[Option.some.injEq,Prod.mk.injEq]at he
      obtain⟨rfl,rfl⟩:=he
      exact ih
     ·cases he
   | var tid c =>
    simp only[Ib,Option.some.injEq,Prod.mk.injEq]at he
    obtain⟨rfl,rfl⟩:=he
    exact ih
   | row e t =>
    cases vs with
    | nil=>simp[Ib]at he
    | cons v vs =>
     simp only[Ib]at he
     split at he
     ·simp only[Option.some.injEq,Prod.mk.injEq]at he
      obtain⟨rfl,rfl⟩:=he
      exact ih
     ·cases he
   | map kk u =>
    cases vs with
    | nil=>simp[Ib]at he
    | cons v vs =>
     simp only[Ib]at he
     split at he
     ·simp only[Option.some.injEq,Prod.mk.injEq]at he
      obtain⟨rfl,rfl⟩:=he
      exact ih
     ·cases he
theorem Q1x{t:Nat}{v:Value}(h:rd a t=some v)(hb:Nat.blt t 100000=true):a.eval (.tmp t)=v:=by
 rw[L0 hb]at h
 simp[Act.eval,h]
theorem Qev{ops:Array Oper}{o:Oper}{d:Nat}{v:Value}{w':World}(hg:o.guard=none)(hd:o.dst=some d)(hr:(execOp a.eval o).run P w=.ok (.value v) w'){rest:List Oper}(h:wpList P ops Q rest (a.put (some d) v) w'):wpList P ops Q (o::rest) a w :=
 Jl (K6 hg _) (Yo hr (by rw[hd]; exact h))
theorem isVal{t:Ty}{ok:Ok}{x:t.De}{v:Value}(h:isV (rt t) ok w x v):∃c,v=(AV.d t x).val c∧cr β ρ ok w false (.d t x) c:=by
 obtain⟨cs,h1,h2⟩:=Rn h
 exact⟨cs,h2,h1⟩
theorem Q1y{d:Nat}:∀{l:List En},Nw d l=true→Js l d=l
 | [],_=>rfl
 | e::l,h=>by
  have h1:(Nat.beq e.t d||Rq d e.cs)=false∧Nw d l=true:=by simpa only[Nw,QQ,XF]using h
  simp only[Js,h1.1,cond_false]
  rw[Q1y h1.2]
theorem Jq1(hT:Q4 P Y.T)(hK:KsX P Y X K)(hX:X.n=n)(hr:X.res=[])(kz:X.pin=none){m it nx mo pr mt t:Nat}{ks ms:List Nat}{Γ:Shp}{exs:Exs}{out nxt:Nat}{kk vv:Ty}{xs:List (kk.De×vv.De)}{tk:TE}
  {body:XS→(Ex→XS→Option (Γ.De⊕Qb4 exs))→Option (Γ.De⊕Qb4 exs)} {ops:Array Oper} {ty1 ty2 ty3 ty4:TypeId} {p1 p2 p3 p4:String} {f1 f2 f3 f4:Array Edge} {ops3:List Oper} {c:Code} {i1 i2:Nat}
  (h:Rel X β ρ S1.flat a w) (hm:S1.ev [] (.tmp mt)=some (.m m)) (yu:Qh Y.T t=some tk) (hl:Qe (mpE S1 ks ms m).fixM m=some (.map kk vv xs))
  (hs:Jf0 n S1 m it nx mo pr ks ms Γ exs out nxt kk vv xs tk body k=some r) (H:COk Q X S1 β ρ k r)
  (hb:∀(X1:Cx) (β:Nat→Nat) (ρ:Nat→Value) (a:Act) (w:World) (S3:XS) (k1:Ex→XS→Option (Γ.De⊕Qb4 exs)) (r1:Γ.De⊕Qb4 exs) (Q1:Exit→Act→World→Prop),X1.n=n→X1.res=[]→X1.pin=none→KsX P Y X1 K→Rel X1 β ρ S3.flat a w→body S3 k1=some r1→COk Q1 X1 S3 β ρ k1 r1 →
   wpList P ⟨⟨some pr,.entry (.tmp it),ty4,p4,f4,none⟩::ops3⟩ (Exit.then (c.wp P Q1) Q1) ops3 a w) :
  wpList P ops (Exit.then ((Code.block out (.loop (.seq (.region i1 ⟨[⟨some nx,.next (.tmp it) false,ty2,p2,f2,none⟩,⟨some mo,.extract (.tmp nx) 0,ty3,p3,f3,none⟩]⟩ false) (.seq (.cond (.tmp mo) .skip (.exit out)) (.block nxt (.seq (.region i2 ⟨⟨some pr,.entry (.tmp it),ty4,p4,f4,none⟩::ops3⟩ false) c)))))).wp P Q) Q)
   [⟨some it,.range t (.tmp mt),ty1,p1,f1,none⟩] a w:=by
 unfold Jf0 at hs
 split at hs
 case h_2=>cases hs
 rename_i s0 z6
 obtain⟨kj,hs⟩:=bvT hs
 unfold Jqs at kj
 simp only[QQ,XF]at kj
 obtain⟨⟨⟨⟨⟨⟨⟨uw,hW,hoE⟩,hIE,hIF⟩,⟨hfE,hfM⟩,hfp⟩,⟨hWn,hWm⟩,hWp⟩,hNK⟩,hNB⟩,k8⟩:=kj
 have k8:mo≠nx:=fun e=>by rw[e,JY]at k8; cases k8
 obtain⟨E,hE⟩:∃E,E=mpE S1 ks ms m:=⟨_,rfl⟩
 rw[←hE]at hs z6 hl hW hIF hfM hfp hWn hWm hWp hNB
 obtain⟨B0,hB0⟩:∃B0,B0=mpB E it m:=⟨_,rfl⟩
 rw[←hB0]at hs hNB hWn hWm hWp
 have hEf:E.fix=Qnf S1.env ks++S1.fix:=by rw[hE]; rfl
 have hEM:E.fixM=(Jn S1.mem ms).2++S1.fixM:=by rw[hE]; rfl
 have hEp:E.prot=m::S1.prot:=by rw[hE]; rfl
 have hB0p:B0.prot=it::m::S1.prot:=by rw[hB0,←hEp]; rfl
 have hB0f:B0.fix=⟨it,[],.p it []⟩::E.fix:=by rw[hB0]; rfl
 have hB0M:B0.fixM=Jv E.fixM m:=by rw[hB0]; rfl
 obtain⟨hd,yc⟩:=Yy hW hX hr
 obtain⟨kt,et,kr⟩:∃kt et,tk.d=.map kt et:=by
  cases vh:tk.d<;>rw[vh]at uw<;>first | (cases uw; done) | exact⟨_,_,rfl⟩
 have hu:=(Jm hT yu).2
 rw[kr]at hu
 have hmne:m≠it:=(X6 hfM _ (Rz hl)).1
 obtain⟨cs,yx,zr⟩:=h.ev (Qc a) hm
 have zr:cs=[.map (some (β m))]:=zr
 subst zr
 have yx:a.eval (.tmp mt)=.map (some (β m)):=yx
 have hE1:Rel X β ρ E.flat a w:=by
  rw[hE]
  exact Rel.ent (S:=⟨S1.env,S1.fix,S1.mem,S1.fixM,m::S1.prot⟩) h ks ms
 obtain⟨β0,ρ0,pz,hR⟩:=If (S0:=E) hE1 ⟨rfl,rfl,rfl⟩ z6
 rw[hEp]at pz
 obtain⟨x0,nt⟩:∃x0,x0=enc Γ s0:=⟨_,rfl⟩
 rw[←nt]at hR hoE hIE hfE
 have hR:Rel X β0 ρ0 ⟨x0.env++E.fix,x0.mem++E.fixM⟩ a w:=hR
 obtain⟨β1,hβ1⟩:∃β1,β1=upd β0 it w.heap.size:=⟨_,rfl⟩
 have hβm:β1 m=β m:=by rw[hβ1,Zq β0 _ hmne]; exact(pz m (.head _)).1
 have hβi:β1 it=w.heap.size:=by rw[hβ1]; exact Jd β0 it _
 have hoffB:Qfx it β0 β1 ρ0 ρ0:=fun i hi=>⟨by rw[hβ1]; exact Zq β0 _ hi,rfl⟩
 have iz:Jt it (x0.mem++E.fixM)=true:=by
  have key:∀{l k:List (Nat×Ob)},Jt it l=true→Jt it k=true→Jt it (l++k)=true:=fun {l k} h1 h2=>by
   have:=Ge (S:=⟨[],[],l,k,[]⟩) (d:=it) (by simp[okB,h1,h2,Qcr,Yb])
   exact this.1
  exact key hfE hfM
 have h1:Rel X β1 ρ0 ⟨x0.env++E.fix,x0.mem++E.fixM⟩ a w:=Rel.off hR hoffB iz fun e he=>by
  refine⟨he,?_⟩
  rcases QW.1 he with he | he
  ·exact Ry hIE e he
  ·exact Ry hIF e he
 have h2:=h1.put0 hd (x:=.p it []) (c:=[.pointer (some ⟨β1 it,0,none⟩)]) rfl
 have h3:Rel X β1 ρ0 ⟨x0.env++B0.fix,x0.mem++E.fixM⟩ (a.put (some it) (.pointer (some ⟨β1 it,0,none⟩))) w:=Rel.less (S:=St.put ⟨x0.env++E.fix,x0.mem++E.fixM⟩ it [] (.p it [])) h2 fun e he=>by
  have hrem:Js (x0.env++E.fix) it=x0.env++E.fix:=by rw[K3 yc,Q1y hoE]
  show e∈_::Js (x0.env++E.fix) it
  rw[hrem]
  rcases QW.1 he with he | he
  ·exact .tail _ (QZ _ he)
  ·rw[hB0f]at he
   rcases QX.1 he with rfl | he
   ·exact .head _
   ·exact .tail _ (QV _ he)
 have xw:(x0.mem++E.fixM).Perm ((m,.map kk vv xs)::(x0.mem++B0.fixM)):=by
  rw[hB0M]
  exact((Ej hl).append_left x0.mem).trans XK
 obtain⟨es,clock,q1,q2,q3,q4,q5,q6⟩:=Jb4 (h3.permM xw) hr
 have hlen:=Q1v q5
 have ka:(execOp a.eval ⟨some it,.range t (.tmp mt),ty1,p1,f1,none⟩).run P w=.ok (.value (.pointer (some ⟨β1 it,0,none⟩))) (w.alloc (.mapIter (some (β1 m)) clock #[] clock)):=by
  unfold execOp
  simp only[yx]
  have:=run_range_map (P:=P) w t kt et (β m) es clock hu (by rw[←hβm]; exact q1)
  rw[hβi,hβm]
  simp[this,Result.andThen]
 refine Qev rfl rfl ka ?_
 show(Code.block out _).wp P Q _ _
 refine wp_block ?_
 obtain⟨z,hz,lf⟩:=Yk hs
 have jx:=Q1s hz
 obtain⟨f,hf⟩:∃f,f=Qou nxt body B0 nx mo pr kk vv:=⟨_,rfl⟩
 rw[←hf]at jx
 have hblt:Nat.blt it 100000=true:=Rj hd
 have hsel:⟨it,[],.p it []⟩∈B0.fix:=by rw[hB0f]; exact .head _
 obtain⟨dn,on⟩:=Yy hWn hX hr
 obtain⟨dm,om⟩:=Yy hWm hX hr
 obtain⟨dp,op⟩:=Yy hWp hX hr
 have hNMs:∀s:Γ.De,Vg ((B0.re (enc Γ s)).flat.mem)=true:=fun s=>Qmj (Qq7 hNK) hNB
 have hI0:Da X β1 ρ0 (B0.re (enc Γ s0)).flat [Qfz xs es.toList] [Yt (β1 m) (.map es clock),Yt w.heap.size (.mapIter (some (β1 m)) clock #[] clock)] (a.put (some it) (.pointer (some ⟨β1 it,0,none⟩))) (w.alloc (.mapIter (some (β1 m)) clock #[] clock)):=by
  have:=q6 (.mapIter (some (β1 m)) clock #[] clock)
  rw[nt]at this
  exact this
 have back:∀(β':Nat→Nat) (ρ':Nat→Value) (S':St) (env2:List En) (a':Act) (w':World) (o:Obj),β' m=β1 m→Da X β' ρ' ⟨env2,S'.mem++B0.fixM⟩ [Qfz xs es.toList] [Yt (β1 m) (.map es clock),Yt w.heap.size o] a' w' →
   (∀e∈Js (Js S'.env nx) mo,e∈env2)→(∀e∈E.fix,e∈env2)→Rel X β' ρ' (Qxe S1 ks ms nx mo S').flat a' w':=by
  intro β' ρ' S' env2 a' w' o e3 hF vg hin2
  rw[←e3]at hF
  have u1:=hF.unpin q2 q3 q4
  have u2:Rel X β' ρ' ⟨(Qxe S1 ks ms nx mo S').flat.env,(m,.map kk vv xs)::(S'.mem++B0.fixM)⟩ a' w':=Rel.less (S:=⟨env2,(m,.map kk vv xs)::(S'.mem++B0.fixM)⟩) u1 fun e he=>by
   have he:e∈(Js (Js S'.env nx) mo++Qnf S1.env ks)++S1.fix:=he
   rw[QH]at he
   rcases QW.1 he with he | he
   ·exact vg e he
   ·exact hin2 e (by rw[hEf]; exact he)
  refine u2.permM ?_
  show List.Perm _ ((S'.mem++(Jn S1.mem ms).2)++S1.fixM)
  rw[QH,←hEM,hB0M]
  exact(XK.symm).trans ((Ej hl).symm.append_left S'.mem)
 refine To (fun fuel a' w'=>∃(s:Γ.De) (β':Nat→Nat) (ρ':Nat→Value) (seen:Array Nat) (c0:Nat),agP (it::m::S1.prot) β1 β' ρ0 ρ' ∧
   Da X β' ρ' (B0.re (enc Γ s)).flat [Qfz xs es.toList] [Yt (β1 m) (.map es clock),Yt w.heap.size (.mapIter (some (β1 m)) clock seen c0)] a' w'∧clock≤c0∧fuel=(leftOf es seen).size ∧
   ∀ys:List (kk.De×vv.De),ys.Perm (Fi es.toList xs seen)→Rw f ys s=some z) (leftOf es #[]).size ⟨s0,β1,ρ0,#[],clock,agP.refl _ _ _,hI0,QD _,rfl,fun ys zp=>jx ys (by rw[Qmi hlen]at zp; exact zp)⟩ ?_
 rintro fuel a1 w1 ⟨s,β',ρ',seen,c0,xg,hF,uj,rfl,xx⟩
 have hβ'i:β' it=w.heap.size:=by rw[(xg it (.head _)).1,hβi]
 have hβ'm:β' m=β1 m:=(xg m (.tail _ (.head _))).1
 have ah:∀i∈S1.prot,i≠it:=fun i hi e=>by
  rw[hEp]at hfp
  rw[e]at hi
  rw[Zg.2 (KI m hi)]at hfp; cases hfp
 have hags:∀{β4:Nat→Nat} {ρ4:Nat→Value},agP (it::m::S1.prot) β1 β4 ρ0 ρ4→agP S1.prot β β4 ρ ρ4:=fun hg i hi=>by
  obtain⟨g1,g2⟩:=hg i (.tail _ (.tail _ hi))
  obtain⟨g3,g4⟩:=pz i (.tail _ hi)
  exact⟨by rw[g1,hβ1,Zq β0 _ (ah i hi),g3],by rw[g2,g4]⟩
 have hFs:Sb (fun _=>0) X [] _ [] (Qg β' ρ' (B0.re (enc Γ s)).flat.mem++[Yt (β1 m) (.map es clock),Yt w.heap.size (.mapIter (some (β1 m)) clock seen c0)]) a1 w1:=hF
 have hhm:w1.heap[β1 m]?=some (.map es clock):=(hFs.own (Yt (β1 m) (.map es clock)) (by simp)).1
 have hhr:w1.heap[w.heap.size]?=some (.mapIter (some (β1 m)) clock seen c0):=(hFs.own (Yt w.heap.size (.mapIter (some (β1 m)) clock seen c0)) (by simp)).1
 have e9:a1.eval (.tmp it)=.pointer (some ⟨w.heap.size,0,none⟩):=by
  obtain⟨cs,g1,g2⟩:=(hF.en (e:=⟨it,[],.p it []⟩) (QV _ hsel)).1 (Qc _)
  have g2:cs=[.pointer (some ⟨β' it,0,none⟩)]:=g2
  subst g2
  rw[←hβ'i]
  exact Q1x g1 hblt
 have xk:∀{d:Nat} {l:List En},Nw d B0.fix=true→Js (l++B0.fix) d=Js l d++B0.fix:=fun h=>K3 h
 refine wp_seq (wp_region_list ?_)
 have hnext:=run_next_at (P:=P) w1 ty2 w.heap.size (β1 m) clock c0 seen es clock hhr hhm q4 uj
 rcases hnext with⟨yb,hnx⟩ | ⟨e,he,w2,hw2,hnx⟩
 ·
  have hr1:(execOp a1.eval ⟨some nx,.next (.tmp it) false,ty2,p2,f2,none⟩).run P w1=.ok (.value (.tuple #[.bool false])) w1:=by
   unfold execOp
   simp only[e9]
   simp[hnx,Result.andThen]
  refine Qev rfl rfl hr1 ?_
  have ev1:(a1.put (some nx) (.tuple #[.bool false])).eval (.tmp nx)=.tuple #[.bool false]:=by
   simp[Act.eval,Act.put,hF.sz,Tn dn]
  have hr2:(execOp (a1.put (some nx) (.tuple #[.bool false])).eval ⟨some mo,.extract (.tmp nx) 0,ty3,p3,f3,none⟩).run P w1=.ok (.value (.bool false)) w1:=by
   unfold execOp
   simp only[ev1]
   simp[Instr.extract,Result.andThen]
  refine Qev rfl rfl hr2 ?_
  have hD:=(hF.del hr (d:=nx) (.tuple #[.bool false])).del hr (d:=mo) (.bool false)
  have ev2:((a1.put (some nx) (.tuple #[.bool false])).put (some mo) (.bool false)).eval (.tmp mo)=.bool false:=by
   simp[Act.eval,Act.put,hF.sz,Tn dm]
  show(Code.seq _ _).wp P _ _ _
  refine wp_seq (wp_cond_split ev2 (fun hh=>by cases hh) fun _=>wp_exit ?_)
  show Exit.inBlock out Q (.exit out) _ _
  simp only[Exit.inBlock,if_true]
  have th:some (.inl s)=some z:=by
   have:=xx [] (by rw[Qq6 (Q1t yb)])
   exact this
  injection th with th; subst th
  refine H .n β' ρ' _ _ _ lf ⟨rfl,rfl,rfl,hags xg⟩ ?_
  refine back β' ρ' (enc Γ s) _ _ _ _ hβ'm hD (fun e he=>?_) fun e he=>?_
  ·show e∈Js (Js ((enc Γ s).env++B0.fix) nx) mo
   rw[xk on,xk om]
   exact QZ _ he
  ·show e∈Js (Js ((enc Γ s).env++B0.fix) nx) mo
   rw[xk on,xk om,hB0f]
   exact QV _ (.tail _ he)
 ·
  obtain⟨bw,tw⟩:=Qq5 he
  obtain⟨x,hzip,sj⟩:=Qq4 hlen q3 bw tw
  have hF1:=hF.setI (o':=.mapIter (some (β1 m)) clock (seen.push e.born) clock) hw2
  obtain⟨W,hW'⟩:∃W,W=Go.ChangeMaps.setBlock w2 w.heap.size (.mapIter (some (β1 m)) clock (seen.push e.born) clock):=⟨_,rfl⟩
  rw[←hW']at hF1 hnx
  have hr1:(execOp a1.eval ⟨some nx,.next (.tmp it) false,ty2,p2,f2,none⟩).run P w1=.ok (.value (.tuple #[.bool true,e.key,e.val])) W:=by
   unfold execOp
   simp only[e9]
   simp[hnx,Result.andThen]
  refine Qev rfl rfl hr1 ?_
  have ev1:(a1.put (some nx) (.tuple #[.bool true,e.key,e.val])).eval (.tmp nx)=.tuple #[.bool true,e.key,e.val]:=by
   simp[Act.eval,Act.put,hF.sz,Tn dn]
  have hr2:(execOp (a1.put (some nx) (.tuple #[.bool true,e.key,e.val])).eval ⟨some mo,.extract (.tmp nx) 0,ty3,p3,f3,none⟩).run P W=.ok (.value (.bool true)) W:=by
   unfold execOp
   simp only[ev1]
   simp[Instr.extract,Result.andThen]
  refine Qev rfl rfl hr2 ?_
  have hD:=(hF1.del hr (d:=nx) (.tuple #[.bool true,e.key,e.val])).del hr (d:=mo) (.bool true)
  obtain⟨a2,ha2⟩:∃a2,a2=(a1.put (some nx) (.tuple #[.bool true,e.key,e.val])).put (some mo) (.bool true):=⟨_,rfl⟩
  have ev2:a2.eval (.tmp mo)=.bool true:=by
   rw[ha2]; simp[Act.eval,Act.put,hF.sz,Tn dm]
  rw[←ha2]at hD ⊢
  show(Code.seq _ _).wp P _ _ _
  refine wp_seq (wp_cond_split ev2 (fun _=>wp_skip ?_) fun hh=>by cases hh)
  show(Code.block nxt _).wp P _ _ _
  refine wp_block (wp_seq (wp_region_list ?_))
  have hDs:Sb (fun _=>0) X [] _ [] (Qg β' ρ' (B0.re (enc Γ s)).flat.mem++[Yt (β1 m) (.map es clock),Yt w.heap.size (.mapIter (some (β1 m)) clock (seen.push e.born) clock)]) a2 W:=hD
  have hhm2:W.heap[β1 m]?=some (.map es clock):=(hDs.own (Yt (β1 m) (.map es clock)) (by simp)).1
  have hhr2:W.heap[w.heap.size]?=some (.mapIter (some (β1 m)) clock (seen.push e.born) clock):=(hDs.own (Yt w.heap.size (.mapIter (some (β1 m)) clock (seen.push e.born) clock)) (by simp)).1
  have uv:Xq (rt kk) (rt vv) (okF X β' ρ' (B0.re (enc Γ s)).flat.mem [Yt (β1 m) (.map es clock),Yt w.heap.size (.mapIter (some (β1 m)) clock (seen.push e.born) clock)] W) W xs es.toList:=Jg.1 hDs.dat (Qfz xs es.toList) (.head _)
  have hit2:a2.eval (.tmp it)=.pointer (some ⟨w.heap.size,0,none⟩):=by
   obtain⟨cs,g1,g2⟩:=(hD.en (e:=⟨it,[],.p it []⟩) (by
    show _∈Js (Js ((enc Γ s).env++B0.fix) nx) mo
    rw[xk on,xk om]
    exact QV _ hsel)).1 (Qc _)
   have g2:cs=[.pointer (some ⟨β' it,0,none⟩)]:=g2
   subst g2
   rw[←hβ'i]
   exact Q1x g1 hblt
  have hr3:(execOp a2.eval ⟨some pr,.entry (.tmp it),ty4,p4,f4,none⟩).run P W=.ok (.value (.tuple #[e.key,e.val])) W:=by
   have:=run_entry_at (P:=P) W w.heap.size (β1 m) clock seen es clock e hhr2 hhm2 bw q3
   unfold execOp
   simp only[hit2]
   simp[this,Result.andThen]
  refine Qev rfl rfl hr3 ?_
  obtain⟨v1,v2⟩:=Q1w uv _ hzip
  obtain⟨c1,g1,g2⟩:=isVal (β:=β') (ρ:=ρ') v1
  obtain⟨c2,g3,g4⟩:=isVal (β:=β') (ρ:=ρ') v2
  have hP:=hD.put0 hr dp (x:=.tp (.cons (.d kk x.1) (.cons (.d vv x.2) .nil))) (c:=[.tuple #[e.key,e.val]]) ⟨[e.key,e.val],rfl,c1,[e.val],by rw[g1],g2,c2,[],by rw[g3],g4,rfl⟩
  obtain⟨S3,hS3⟩:∃S3,S3=Jpc (B0.re (enc Γ s)) nx mo pr (.tp (.cons (.d kk x.1) (.cons (.d vv x.2) .nil))):=⟨_,rfl⟩
  have hP:Da X β' ρ' S3.flat [Qfz xs es.toList] [Yt (β1 m) (.map es clock),Yt w.heap.size (.mapIter (some (β1 m)) clock (seen.push e.born) clock)] (a2.put (some pr) (.tuple #[e.key,e.val])) W:=by
   have e2:S3.flat=⟨⟨pr,[],.tp (.cons (.d kk x.1) (.cons (.d vv x.2) .nil))⟩::Js (Js (Js (B0.re (enc Γ s)).flat.env nx) mo) pr,(B0.re (enc Γ s)).flat.mem⟩:=by
    rw[hS3]
    simp only[XS.flat,Jpc,XS.re]
    rw[xk on,xk om,xk op]
    rfl
   rw[e2]; exact hP
  have hmem3:S3.flat.mem=(B0.re (enc Γ s)).flat.mem:=by rw[hS3]; rfl
  obtain⟨X1,y1,y2,y3,y4,y5,y6⟩:=Q6e hK.2 hr kz hP (by rw[hmem3]; exact hNMs s)
  have qi:Rw f (x::Fi es.toList xs (seen.push e.born)) s=some z:=xx _ sj.symm
  have wo:f x s=Qou nxt body B0 nx mo pr kk vv x s:=by rw[hf]
  cases hq:f x s with
  | none=>simp[Rw,hq]at qi
  | some q =>
   rw[hq]at wo
   unfold Qou at wo
   rw[←hS3]at wo
   have hBf:S3.fix=B0.fix∧S3.fixM=B0.fixM∧S3.prot=B0.prot:=by rw[hS3]; exact⟨rfl,rfl,rfl⟩
   refine hb X1 β' ρ' _ W S3 _ q _ (y1.trans hX) y2 y3 ⟨hK.1,y4⟩ y5 wo.symm fun ex β3 ρ3 S' a' w' yy hkp yj=>?_
   have ba:S'.fix=B0.fix∧S'.fixM=B0.fixM∧S'.prot=B0.prot:=⟨hkp.fix.trans hBf.1,hkp.fixM.trans hBf.2.1,hkp.prot.trans hBf.2.2⟩
   have hag3:agP (it::m::S1.prot) β' β3 ρ' ρ3:=by have:=hkp.ag; rw[hBf.2.2,hB0p]at this; exact this
   have again:∀s':Γ.De,S'.dec Γ=some s'→q=.inl s'→∃k,k<(leftOf es seen).size∧∃(s:Γ.De) (β':Nat→Nat) (ρ':Nat→Value) (seen:Array Nat) (c0:Nat),agP (it::m::S1.prot) β1 β' ρ0 ρ' ∧
     Da X β' ρ' (B0.re (enc Γ s)).flat [Qfz xs es.toList] [Yt (β1 m) (.map es clock),Yt w.heap.size (.mapIter (some (β1 m)) clock seen c0)] a' w'∧clock≤c0∧k=(leftOf es seen).size ∧
     ∀ys:List (kk.De×vv.De),ys.Perm (Fi es.toList xs seen)→Rw f ys s=some z:=by
    intro s' ui hqs
    obtain⟨β4,ρ4,lq,z1⟩:=If (S0:=B0) yj ba ui
    rw[hB0p]at lq
    refine⟨(leftOf es (seen.push e.born)).size,Q1u he,s',β4,ρ4,seen.push e.born,clock,(xg.trans hag3).trans lq,y6 _ _ _ _ _ z1,QD _,rfl,fun ys zp=>?_⟩
    have:=xx (x::ys) ((zp.cons x).trans sj.symm)
    simp only[Rw,hq,hqs]at this
    exact this
   have leave:∀(e2:Ex) (y:Qb4 exs),inj exs e2 S'=some y→q=.inr y→Q (Qim out e2).exit a' w':=by
    intro e2 y hy hqy
    have hzy:z=.inr y:=by
     simp only[Rw,hq,hqy]at qi
     injection qi with qi; exact qi.symm
    subst hzy
    obtain⟨β4,ρ4,S9,w1',w2',w3'⟩:=Qgt (S:=B0) [] [] hy lf ⟨ba.1,ba.2.1,ba.2.2⟩ yj
    rw[hB0p]at w2'
    have hF9:=y6 _ _ _ _ _ w3'
    have hagA:=(xg.trans hag3).trans w2'
    refine H (Qim out e2) β4 ρ4 _ a' w' w1' ⟨rfl,rfl,rfl,hags hagA⟩ (back β4 ρ4 _ _ _ _ _ (hagA m (.tail _ (.head _))).1 hF9 (fun e he=>?_) fun e he=>?_)
    ·exact QZ _ (Fx (Fx he).1).1
    ·refine QV _ ?_
     show e∈B0.fix
     rw[hB0f]; exact .tail _ he
   cases ex with
   | n =>
    simp only[Qim]at yy
    split at yy
    ·rename_i s' ui
     injection yy with yy
     exact again s' ui yy.symm
    ·cases yy
   | r =>
    simp only[Qim]at yy
    split at yy
    ·rename_i y hy
     injection yy with yy
     exact leave .r y hy yy.symm
    ·cases yy
   | x i =>
    show Exit.inBlock nxt _ (.exit i) a' w'
    simp only[Exit.inBlock]
    cases vp:Nat.beq i nxt with
    | true =>
     rw[if_pos (QJ vp)]
     simp only[Qim,vp,cond_true]at yy
     split at yy
     ·rename_i s' ui
      injection yy with yy
      exact again s' ui yy.symm
     ·cases yy
    | false =>
     rw[if_neg fun e=>by rw[e,JY]at vp; cases vp]
     simp only[Qim,vp,cond_false]at yy
     split at yy
     ·rename_i y hy
      injection yy with yy
      have:=leave (.x i) y hy yy.symm
      show Exit.inBlock out Q (.exit i) a' w'
      simp only[Exit.inBlock]
      simp only[Qim]at this
      cases kn:Nat.beq i out with
      | true =>
       rw[kn]at this
       rw[if_pos (QJ kn)]
       exact this
      | false =>
       rw[kn]at this
       rw[if_neg fun e=>by rw[e,JY]at kn; cases kn]
       exact this
     ·cases yy
theorem Jb6{ops:List Oper}{o1 o2 o3:Oper}{mo t mt it nx pr:Nat}(h:Q5z ops o1 o2 o3 mo=some (t,mt,it,nx,pr)) :
  (∃ty p f,ops.getLast?=some ⟨some it,.range t (.tmp mt),ty,p,f,none⟩)∧(∃ty p f,o1=⟨some nx,.next (.tmp it) false,ty,p,f,none⟩)∧(∃ty p f,o2=⟨some mo,.extract (.tmp nx) 0,ty,p,f,none⟩)∧∃ty p f,o3=⟨some pr,.entry (.tmp it),ty,p,f,none⟩:=by
 unfold Q5z at h
 split at h
 ·rename_i hl
  obtain⟨hb,h⟩:=bvT h
  simp only[QQ]at hb
  obtain⟨⟨⟨b1,b2⟩,b3⟩,b4⟩:=hb
  have b1:=QJ b1
  have b2:=QJ b2
  have b3:=QJ b3
  have b4:=QJ b4
  simp only[Option.some.injEq,Prod.mk.injEq]at h
  obtain⟨rfl,rfl,rfl,rfl,rfl⟩:=h
  subst b1; subst b2; subst b3; subst b4
  exact⟨⟨_,_,_,hl⟩,⟨_,_,_,rfl⟩,⟨_,_,_,rfl⟩,_,_,_,rfl⟩
 ·cases h
end
end Gx

/- Control. -/
namespace Gx
open Go Go.RowKit Gd
set_option linter.unusedVariables false
set_option linter.unusedSimpArgs false
section
variable {P:Program} {Y:TX} {X:Cx} {S:XS} {β β':Nat→Nat} {ρ ρ':Nat→Value} {a a':Act} {w w':World} {n N:Nat} {K:List Con}
variable {Q:Exit→Act→World→Prop} {R:Type} {r:R}
theorem Z0(hT:Q4 P Y.T)(ze:P.follows .mixedOrders=true):∀{X:Cx} (hK:KsX P Y X K) (hX:X.n=n) (hr:X.res=[]) (kz:X.pin=none) {R:Type} {r:R} (an:An) {c:Code} {S:XS} {β:Nat→Nat} {ρ:Nat→Value} {a:Act} {w:World} {k:Ex→XS→Option R} {Q:Exit→Act→World→Prop},
  Rel X β ρ S.flat a w→Zl Y K n N an c S k=some r→COk Q X S β ρ k r→c.wp P Q a w
 | X,hK,hX,hr,kz,R,r,.nil,c,S,β,ρ,a,w,k,Q,h,hs,H=>by
  cases c<;>simp only[Zl]at hs<;>first | (cases hs; done) | skip
  ·exact wp_skip (H .n β ρ S a w hs (Y6.refl _ _ _) h)
  ·rename_i id; exact wp_exit (H (.x id) β ρ S a w hs (Y6.refl _ _ _) h)
  ·exact wp_label (H .n β ρ S a w hs (Y6.refl _ _ _) h)
  ·exact wp_ret (H .r β ρ S a w hs (Y6.refl _ _ _) h)
 | X,hK,hX,hr,kz,R,r,.reg hn,c,S,β,ρ,a,w,k,Q,h,hs,H=>by
  cases c with
  | region id ops draw =>
   obtain⟨ops⟩:=ops
   cases draw with
   | true=>simp[Zl]at hs
   | false =>
    simp only[Zl]at hs
    refine wp_region_list ?_
    have:=Y5 hT hK hX hr (Q:=Q) hn (l:=ops) (rest:=[]) h hs fun β' ρ' S' a' w' h1 h2 h3=>H .n β' ρ' S' a' w' h1 h2 h3
    simpa using this
  | _=>simp[Zl]at hs
 | X,hK,hX,hr,kz,R,r,.dr m g1 g2,c,S,β,ρ,a,w,k,Q,h,hs,H=>by
  cases c with
  | region id ops draw =>
   obtain⟨ops⟩:=ops
   cases draw with
   | false=>simp[Zl]at hs
   | true =>
    simp only[Zl]at hs
    obtain⟨hb,hs⟩:=bvT hs
    have hm:P.follows .mixedOrders=true:=ze
    unfold Jfx at hb
    have tail:∀(β':Nat→Nat) (ρ':Nat→Value) (S':XS) (a':Act),Yx Y K n ops g2 (ops.drop m) S' (k .n)=some r→Y6 S S' β β' ρ ρ'→Rel X β' ρ' S'.flat a' { w with drawn:=w.drawn+1 }→wpList P ⟨ops⟩ Q (ops.drop m) a' { w with drawn:=w.drawn+1 }:=by
     intro β' ρ' S' a' h1 h2 h3
     have:=Y5 hT hK hX hr (Q:=Q) g2 (l:=ops.drop m) (rest:=[]) h3 h1 fun β2 ρ2 S2 a2 w2 q1 q2 q3=>H .n β2 ρ2 S2 a2 w2 q1 (h2.trans q2) q3
     simpa using this
    cases hlt:Nat.blt m ops.length with
    | true =>
     rw[hlt]at hb
     refine wp_region_still_tail m hm hb ?_
     have:=T7 hT hX hr (w:={ w with drawn:=w.drawn+1 }) (Qs:=fun a'=>wpList P ⟨ops⟩ Q (ops.drop m) a' { w with drawn:=w.drawn+1 }) g1 (l:=ops.take m) (rest:=[]) h.drew hs fun β' ρ' S' a' h1 h2 h3=>tail β' ρ' S' a' h1 h2 h3
     simpa using this
    | false =>
     rw[hlt]at hb
     simp only[cond_false,QQ]at hb
     have uk:=QJ hb.1
     refine wp_region_still_lit hm hb.2 ?_
     have:=T7 hT hX hr (w:={ w with drawn:=w.drawn+1 }) (Qs:=fun a'=>wpList P ⟨ops⟩ Q (ops.drop m) a' { w with drawn:=w.drawn+1 }) g1 (l:=ops.take m) (rest:=[]) h.drew hs fun β' ρ' S' a' h1 h2 h3=>tail β' ρ' S' a' h1 h2 h3
     rw[uk]at this
     simp only[VF,QR,ZS]at this
     exact this
  | _=>simp[Zl]at hs
 | X,hK,hX,hr,kz,R,r,.dc p ds zs zf ht,c,S,β,ρ,a,w,k,Q,h,hs,H=>by
  cases c with
  | region id ops draw =>
   obtain⟨ops⟩:=ops
   cases draw with
   | false=>simp[Zl]at hs
   | true =>
    simp only[Zl]at hs
    obtain⟨hb,hs⟩:=bvT hs
    simp only[QQ]at hb
    refine Q6d hT ze hK hX hr kz h hb.1 hb.2 hs fun β' ρ' S' a' w' h' h1 h2 h3=>?_
    have:=Y5 hT hK hX hr (Q:=Q) h' (l:=ops.drop p) (rest:=[]) h3 h1 fun β2 ρ2 S2 a2 w2 q1 q2 q3=>H .n β2 ρ2 S2 a2 w2 q1 (h2.trans q2) q3
    simpa using this
  | _=>simp[Zl]at hs
 | X,hK,hX,hr,kz,R,r,.ch t i x y,c,S,β,ρ,a,w,k,Q,h,hs,H=>by
  simp only[Zl]at hs
  cases hb:Jfy S t i with
  | true=>rw[hb]at hs; exact Z0 hT ze hK hX hr kz x h hs H
  | false=>rw[hb]at hs; exact Z0 hT ze hK hX hr kz y h hs H
 | X,hK,hX,hr,kz,R,r,.cn t x y,c,S,β,ρ,a,w,k,Q,h,hs,H=>by
  simp only[Zl]at hs
  cases hb:Jfz S t with
  | true=>rw[hb]at hs; exact Z0 hT ze hK hX hr kz x h hs H
  | false=>rw[hb]at hs; exact Z0 hT ze hK hX hr kz y h hs H
 | X,hK,hX,hr,kz,R,r,.gh g x,c,S,β,ρ,a,w,k,Q,h,hs,H=>by
  simp only[Zl]at hs
  obtain⟨S1,β1,ρ1,q1,q2,q3⟩:=T6 g h hs
  exact Z0 hT ze hK hX hr kz x q3 q1 (H.after q2)
 | X,hK,hX,hr,kz,R,r,.two x y,c,S,β,ρ,a,w,k,Q,h,hs,H=>by
  cases c<;>simp only[Zl]at hs<;>first | (cases hs; done) | skip
  ·rename_i c1 c2
   refine wp_seq (Z0 hT ze hK hX hr kz x h hs fun e β' ρ' S' a' w' h1 h2 h3=>?_)
   cases e with
   | n=>exact Z0 hT ze hK hX hr kz y h3 h1 (H.after h2)
   | x i=>exact H (.x i) β' ρ' S' a' w' h1 h2 h3
   | r=>exact H .r β' ρ' S' a' w' h1 h2 h3
  ·rename_i co c1 c2
   split at hs
   ·rename_i v hv
    obtain⟨cs,h1,h2⟩:=h.ev (Qc a) hv
    have zj:cs=_:=h2
    subst zj
    have k5:a.eval co=.bool v:=h1
    refine wp_cond_split k5 (fun hv=>?_) (fun hv=>?_)
    ·rw[if_pos hv]at hs
     exact Z0 hT ze hK hX hr kz x h hs H
    ·rw[if_neg (by rw[hv]; simp)]at hs
     exact Z0 hT ze hK hX hr kz y h hs H
   ·cases hs
 | X,hK,hX,hr,kz,R,r,.un x,c,S,β,ρ,a,w,k,Q,h,hs,H=>by
  cases c<;>simp only[Zl]at hs<;>first | (cases hs; done) | skip
  ·rename_i id c1
   refine wp_block (Z0 hT ze hK hX hr kz x h hs fun e β' ρ' S' a' w' h1 h2 h3=>?_)
   cases e with
   | n=>exact H .n β' ρ' S' a' w' h1 h2 h3
   | x i =>
    simp only at h1
    show if i=id then Q .normal a' w' else Q (.exit i) a' w'
    cases hb:Nat.beq i id with
    | true =>
     rw[hb]at h1
     rw[if_pos (QJ hb)]
     exact H .n β' ρ' S' a' w' h1 h2 h3
    | false =>
     rw[hb]at h1
     rw[if_neg (fun e=>by rw[e,JY]at hb; cases hb)]
     exact H (.x i) β' ρ' S' a' w' h1 h2 h3
   | r=>exact H .r β' ρ' S' a' w' h1 h2 h3
  ·refine wp_scope_straight (Z0 hT ze hK hX hr kz x h hs fun e β' ρ' S' a' w' h1 h2 h3=>?_)
   cases e with
   | n=>exact H .n β' ρ' S' a' w' h1 h2 h3
   | x i=>exact H (.x i) β' ρ' S' a' w' h1 h2 h3
   | r=>exact H .r β' ρ' S' a' w' h1 h2 h3
 | X,hK,hX,hr,kz,R,r,.jn ks ms exs x,c,S,β,ρ,a,w,k,Q,h,hs,H=>by
  simp only[Zl]at hs
  obtain⟨z,hz,ho⟩:=Yk hs
  refine Z0 hT ze hK hX hr kz x (h.ent ks ms) hz fun e β' ρ' S' a' w' h1 h2 h3=>?_
  obtain⟨β2,ρ2,S1,h4,h5,h6⟩:=Qgt ks ms h1 ho ⟨h2.fix,h2.fixM,h2.prot⟩ h3
  refine H e β2 ρ2 _ a' w' h4 ⟨rfl,rfl,rfl,?_⟩ h6
  exact agP.trans h2.ag h5
 | X,hK,hX,hr,kz,R,r,.mp g ks ms Γ exs g3 x,c,S,β,ρ,a,w,k,Q,h,hs,H=>by
  unfold Zl at hs
  split at hs<;>first | (simp only[reduceCtorEq]at *; done) | skip
  rename_i id2 ops out id1 o1 o2 mo out' nxt id0 o3 ops3 c1 heq
  cases heq
  split at hs
  ·rename_i t mt it nx pr hh
   obtain⟨hout0,yw⟩:=bvT hs
   clear hs
   have ub:=QJ hout0
   subst ub
   obtain⟨⟨ty1,p1,f1,hlast⟩,⟨ty2,p2,f2,rfl⟩,⟨ty3,p3,f3,rfl⟩,ty4,p4,f4,rfl⟩:=Jb6 hh
   have hops:ops=ops.dropLast++[⟨some it,.range t (.tmp mt),ty1,p1,f1,none⟩]:=by
    obtain⟨ys,zp⟩:=List.getLast?_eq_some_iff.1 hlast
    rw[zp,List.dropLast_concat]
   refine wp_seq (wp_region_list ?_)
   show wpList P ⟨ops⟩ _ ops a w
   refine Eq.mpr (congrArg (fun l=>wpList P ⟨ops⟩ _ l a w) hops) ?_
   exact Y5 hT hK hX hr (ops:=ops) g (l:=ops.dropLast) (rest:=[⟨some it,.range t (.tmp mt),ty1,p1,f1,none⟩]) h yw fun β' ρ' S' a' w' h1 h2 h3=>by
    split at h1
    ·rename_i m tk hm yu
     split at h1
     ·rename_i kk vv xs hl
      exact Jq1 hT hK hX hr kz h3 hm yu hl h1 (H.after h2) fun X1 β ρ a w S3 k1 r1 Q1 e1 e2 e3 e4 e5 e6 e7=>by
       have:=Y5 hT e4 e1 e2 (Q:=Exit.then (c1.wp P Q1) Q1) g3 (l:=ops3) (rest:=[]) e5 e6 fun β' ρ' S' a' w' g1 g2 g3=>Z0 hT ze e4 e1 e2 e3 x g3 g1 (e7.after g2)
       simpa using this
     ·cases h1
    ·cases h1
  ·cases hs
 | X,hK,hX,hr,kz,R,r,.lp ks ms Γ exs x,c,S,β,ρ,a,w,k,Q,h,hs,H=>by
  cases c<;>simp only[Zl]at hs<;>first | (cases hs; done) | skip
  rename_i c1
  split at hs
  ·rename_i s0 z6
   obtain⟨z,hz,ho⟩:=Yk hs
   obtain⟨β1,ρ1,h1,h2⟩:=If (S0:=S.ent ks ms) (h.ent ks ms) ⟨rfl,rfl,rfl⟩ z6
   refine To (fun m a w=>∃s β' ρ',agP S.prot β β' ρ ρ'∧Rel X β' ρ' ((S.ent ks ms).re (enc Γ s)).flat a w∧Qf _ m s=some z) N ⟨s0,β1,ρ1,h1,h2,hz⟩ ?_
   rintro m a1 w1 ⟨s,β',ρ',h3,h4,h5⟩
   cases m with
   | zero=>simp[Qf]at h5
   | succ m =>
    simp only[Qf]at h5
    obtain⟨q,hq,h5⟩:=Yk h5
    refine Z0 hT ze hK hX hr kz x h4 hq fun e β2 ρ2 S' a' w' h6 h7 h8=>?_
    cases e with
    | n =>
     simp only at h6
     split at h6
     ·rename_i s' hd
      injection h6 with h6; subst h6
      obtain⟨β3,ρ3,h9,p7⟩:=If (S0:=S.ent ks ms) h8 ⟨h7.fix,h7.fixM,h7.prot⟩ hd
      exact⟨m,VH m,s',β3,ρ3,(h3.trans h7.ag).trans h9,p7,h5⟩
     ·cases h6
    | x i =>
     simp only at h6
     split at h6
     ·rename_i s' hd
      injection h6 with h6; subst h6
      injection h5 with h5; subst h5
      obtain⟨β3,ρ3,S1,h9,p7,fu⟩:=Qgt ks ms hd ho ⟨h7.fix,h7.fixM,h7.prot⟩ h8
      exact H (.x i) β3 ρ3 _ a' w' h9 ⟨rfl,rfl,rfl,(h3.trans h7.ag).trans p7⟩ fu
     ·cases h6
    | r =>
     simp only at h6
     split at h6
     ·rename_i s' hd
      injection h6 with h6; subst h6
      injection h5 with h5; subst h5
      obtain⟨β3,ρ3,S1,h9,p7,fu⟩:=Qgt ks ms hd ho ⟨h7.fix,h7.fixM,h7.prot⟩ h8
      exact H .r β3 ρ3 _ a' w' h9 ⟨rfl,rfl,rfl,(h3.trans h7.ag).trans p7⟩ fu
     ·cases h6
  ·cases hs
theorem Q1z(p:Addr):(asAddr (.pointer (some p)):Sem Addr)=pure p:=rfl
theorem Qxs(hT:Q4 P Y.T)(h:Rel X β ρ S.flat a w):∀{rs:List ResultVar} {i:Nat} {es:List En} (pre:List Value),pre.length=i→Q50 Y S rs i=some es →
  ∃vs:List Value,vs.length=rs.length∧es.length=rs.length∧Sem.run P (rs.mapM fun r=>match r with | .tmp t=>(pure (a.tmps.getD t undef):Sem Value) | .cell ad t=>do loadVar t (←asAddr (a.tmps.getD ad undef))) w=.ok vs w ∧
   ∀e∈es,(enD β ρ ⟨(pre++vs).toArray,[]⟩ e).p (okR X β ρ S.flat.mem w) w
 | [],i,es,pre,_,he=>by simp[Q50]at he; subst he; exact⟨[],rfl,rfl,rfl,by simp⟩
 | .tmp t::rs,i,es,pre,hi,he=>by
  simp only[Q50]at he
  split at he
  ·rename_i v r hv hr
   obtain⟨vp,he⟩:=bvT he
   simp at he; subst he
   obtain⟨cs,h1,h2⟩:=h.ev (Qc a) hv
   obtain⟨vs,h3,h4,h5,h6⟩:=Qxs hT h (rs:=rs) (i:=i+1) (pre++[a.tmps.getD t undef]) (by simp[hi]) hr
   refine⟨a.tmps.getD t undef::vs,by simp[h3],by simp[h4],?_,fun e hm=>?_⟩
   ·rw[VR]
    simp only[pure_bind,Sem.run_bind,h5]
    rfl
   ·exact resCons hi vp (h1▸rfl) h2 h6 e hm
  ·cases he
 | .cell ad t::rs,i,es,pre,hi,he=>by
  simp only[Q50]at he
  split at he
  ·rename_i v r hv hr
   obtain⟨vp,he⟩:=bvT he
   simp at he; subst he
   obtain⟨cs,h1,h2⟩:=Qie (P:=P) (o:=⟨none,.load t (.tmp ad),0, "",#[],none⟩) hT h.toW (Qc a) hv
   obtain⟨vs,h3,h4,h5,h6⟩:=Qxs hT h (rs:=rs) (i:=i+1) (pre++[v.val cs]) (by simp[hi]) hr
   have hp:∃p,a.tmps.getD ad undef=.pointer (some p):=by
    simp only[Qic]at hv
    split at hv
    ·rename_i id path um hx
     obtain⟨cs1,q1,q2⟩:=h.ev (Qc a) hx
     have q2':cs1=_:=q2
     subst q2'
     exact⟨_,q1⟩
    ·rename_i t' y um hx
     obtain⟨cs1,q1,v0,q2,b,o,_,q3,_⟩:=h.ev (Qc a) hx
     subst q2; subst q3
     exact⟨_,q1⟩
    ·cases hv
   obtain⟨p,hp⟩:=hp
   have hl:(loadVar t p).run P w=.ok (v.val cs) w:=by
    have k5:=h1
    unfold execOp at k5
    have xm:a.eval (.tmp ad)=.pointer (some p):=hp
    simp only[xm,Instr.loadAt,Instr.sureAddr,Sem.run_bind,Sem.run_pure,Result.andThen_ok]at k5
    cases hr:(loadVar t p).run P w with
    | ok v1 w1 =>
     rw[hr]at k5
     simp at k5
     rw[k5.1,k5.2]
    | _=>rw[hr]at k5; simp[Result.andThen]at k5
   refine⟨v.val cs::vs,by simp[h3],by simp[h4],?_,fun e hm=>?_⟩
   ·rw[VR]
    simp only[hp,Q1z,pure_bind,Sem.run_bind,hl,Result.andThen_ok,h5]
    rfl
   ·exact resCons hi vp rfl h2 h6 e hm
  ·cases he
where
 resCons {i:Nat} {pre vs:List Value} {v0:Value} {v:AV} {cs:List Value} {r:List En} (hi:pre.length=i) (vp:Nat.blt i 100000=true) (hv:v0=v.val cs) (h2:cr β ρ (okR X β ρ S.flat.mem w) w false v cs)
   (h6:∀e∈r,(enD β ρ ⟨(pre++[v0]++vs).toArray,[]⟩ e).p (okR X β ρ S.flat.mem w) w):∀e∈(⟨i,[],v⟩::r:List En),(enD β ρ ⟨(pre++v0::vs).toArray,[]⟩ e).p (okR X β ρ S.flat.mem w) w:=by
  intro e hm
  have hl:pre++[v0]++vs=pre++(v0::vs):=by simp
  rw[hl]at h6
  rcases QX.1 hm with rfl | hm
  ·refine⟨fun _=>⟨cs,?_,h2⟩,.inl (Qc _)⟩
   rw[L0 vp]
   simp only[ZK]
   rw[JE (by omega),←hi]
   simp only[Nat.sub_self,VE]
   exact congrArg some hv
  ·exact h6 e hm
theorem Qkr:∀{l:List (Nat×Sk)} {i:Nat} {vs:List DV},Ie l i=true→∀(j:Nat) e,(Ic l vs).1[j]?=some e→e.t=i+j∧e.cs=[]
 | [],i,vs,_,j,e,h=>by simp[Ic]at h
 | (t,s)::l,i,vs,hk,j,e,h=>by
  simp only[Ie,QQ]at hk
  simp only[Ic]at h
  cases j with
  | zero =>
   simp at h; subst h
   exact⟨QJ hk.1,rfl⟩
  | succ j =>
   obtain⟨h1,h2⟩:=Qkr hk.2 j e (by simpa using h)
   exact⟨by omega,h2⟩
theorem Me:∀{l:List (Nat×Sk)} {vs:List DV},(Ic l vs).1.length=l.length
 | [],vs=>rfl
 | (t,s)::l,vs=>by simp only[Ic,JI,Me]
theorem Q10{gl:List (Nat×Σ t:Ty,t.De)}{ok ok':Ok}{w:World}{β:Nat→Nat}{ρ:Nat→Value}{a:Act}(h:Vs gl ok w)(hk:∀b o,ok b o→ok' b o):∀e∈Qin gl,(enD β ρ a e).p ok' w:=by
 intro e he
 obtain⟨q,hq,rfl⟩:=QY.1 he
 refine⟨fun _=>⟨[.pointer (some ⟨q.1,0,none⟩)],Q5p a q.1,_,rfl,(h q hq).1.weak hk⟩,.inl (Qc a)⟩
theorem F4{P:Program}{gl:List (Nat×Σ t:Ty,t.De)}{c:Con}(h:∀x,c.fn x=none):Qfy P gl c:=fun ok w L β ρ x y vs _ _ _ _ _ hy=>by rw[h]at hy; cases hy
def S00(Y:TX)(c:Con)(x:c.Γ.De):XS:=⟨(enc c.Γ x).env,Qin Y.gl,wrM c.ro (enc c.Γ x).mem,rdM c.ro (enc c.Γ x).mem,c.Γ.mem.map Prod.fst⟩
theorem Jmo{ro:List Nat}:∀(M:List (Nat×Ob)),M.Perm (wrM ro M++rdM ro M)
 | []=>.nil
 | q::l=>by
  have ih:=Jmo (ro:=ro) l
  unfold wrM rdM at *
  cases hm:Yb ro q.1 with
  | true =>
   simp only[XV,hm,VG,XQ,if_false,if_true]
   exact(List.Perm.cons q ih).trans XK.symm
  | false =>
   simp only[XV,hm,Bool.not_false,XQ,if_false,if_true]
   exact List.Perm.cons q ih
def Jr8(Y:TX)(fn:Func)(c:Con):Ex→XS→Option (Qb5 c.Δ):=fun e S=>match e with
 | .x _=>none
 | .n=>fin Y fn c.Δ S
 | .r=>fin Y fn c.Δ S
theorem Q8v{fn:Func}{c:Con}(hku:Ie c.Γ.env 0=true)(jv:Nat.blt c.Γ.env.length 100000=true){ok:Ok}{w:World}{L:List Nat}{β:Nat→Nat}{ρ:Nat→Value}{x:c.Γ.De}{vs:List Value}{a:Act}(kj:∀b o,ok b o→b<w.heap.size)(hG:Vs Y.gl ok w)(hL:Ql2 (Qg β ρ (enc c.Γ x).mem) L ok w)
  (zx:∀e∈(enc c.Γ x).env,∃cs,vs[e.t]?=some (e.av.val cs)∧cr β ρ ok w false e.av cs) (h0:Sb (fun _=>0) (cxL L fn.ntmps ok w) (Qz0 vs 0) [] [] (Qg β ρ (enc c.Γ x).mem) a w):Rel (cxL L fn.ntmps ok w) β ρ (S00 Y c x).flat a w:=by
 have hp:=(Jmo (ro:=c.ro) (enc c.Γ x).mem).map fun q=>Qx β ρ q.1 q.2
 have ql:∀b o,ok b o→okR (cxL L fn.ntmps ok w) β ρ (wrM c.ro (enc c.Γ x).mem++rdM c.ro (enc c.Γ x).mem) w b o:=fun b o kn=>⟨.inl (.inl kn),kj b o kn,by simp,fun t ht hc=>(hL.1 t (hp.mem_iff.2 ht)).2.2 b o (t.cb hc) kn⟩
 have hR:Rel (cxL L fn.ntmps ok w) β ρ (XS.flat (S00 Y c x)) a w:=by
  have e:XS.flat (S00 Y c x)=⟨(enc c.Γ x).env++Qin Y.gl,wrM c.ro (enc c.Γ x).mem++rdM c.ro (enc c.Γ x).mem⟩:=rfl
  rw[e]
  replace h0:=Sb.perm h0 hp
  refine Rel.ofSb h0 rfl fun e he=>?_
  rcases QW.1 he with he | he
  case inr=>exact Q10 hG ql e he
  obtain⟨cs,h1,h2⟩:=zx e he
  have zr:e.cs=[]:=by
   unfold enc at he
   split at he
   rename_i es r xe
   exact Qkp (Γe:=c.Γ.env) e (by rw[xe]; exact he)
  refine⟨fun _=>⟨cs,?_,Wg h2 ql⟩,.inl (by rw[zr]; exact Qc a)⟩
  have hz:∀{us:List Value} {i j:Nat} {v:Value},us[j]?=some v→(i+j,Gd.AV.v v)∈Qz0 us i:=by
   intro us
   induction us with
   | nil=>intro i j v h; simp at h
   | cons u us ih =>
    intro i j v h
    cases j with
    | zero=>simp at h; subst h; exact .head _
    | succ j =>
     have:=ih (i:=i+1) (j:=j) (v:=v) (by simpa using h)
     rw[show i+(j+1)=i+1+j by omega]
     exact .tail _ this
  have td:Nat.blt e.t 100000=true:=by
   obtain⟨j,hj⟩:=XC he
   have jr:e.t=0+j:=by
    unfold enc at hj
    split at hj
    rename_i es0 r0 wu
    exact(Qkr (vs:=toL c.Γ.tys x) hku j e (by rw[wu]; exact hj)).1
   have sy:j<c.Γ.env.length:=by
    have h4:=(QK.1 hj).1
    unfold enc at h4
    have h5:=Me (l:=c.Γ.env) (vs:=toL c.Γ.tys x)
    split at h4
    rename_i es0 r0 wu
    rw[wu]at h5
    simp only at h4 h5
    omega
   have:=QF jv
   rw[jr]
   exact XT (by omega)
  have:=h0.tm _ (hz (i:=0) h1)
  rw[L0 td]
  simpa[Is]using this
 exact hR
theorem Q8w{es:List En}{S:XS}:∀{l:List Shp} {y:Qb5 l},Jf1 es S l=some y→∃s x,Ie s.env 0=true∧es.length=s.env.length∧S.dec s=some x∧Qcq l y=enc s x
 | [s],y,h=>by
  simp only[Jf1]at h
  obtain⟨hb,h⟩:=bvT h
  simp only[QQ]at hb
  exact⟨s,y,hb.1,QJ hb.2,h,rfl⟩
 | s::r::l,y,h=>by
  simp only[Jf1]at h
  split at h
  ·rename_i x hx
   injection h with h
   subst h
   obtain⟨hb,hx⟩:=bvT hx
   simp only[QQ]at hb
   exact⟨s,x,hb.1,QJ hb.2,hx,rfl⟩
  ·split at h
   ·rename_i y0 hy
    injection h with h
    subst h
    obtain⟨s0,x0,h1,h2,h3,h4⟩:=Q8w hy
    exact⟨s0,x0,h1,h2,h3,h4⟩
   ·cases h
theorem Q8x(hT:Q4 P Y.T){fn:Func}{c:Con}{ok:Ok}{w:World}{L:List Nat}{β:Nat→Nat}{ρ:Nat→Value}{x:c.Γ.De}{y:Qb5 c.Δ}{β':Nat→Nat}{ρ':Nat→Value}{S':XS}{a':Act}{w':World}
  (h2:Y6 (S00 Y c x) S' β β' ρ ρ') (h3:Rel (cxL L fn.ntmps ok w) β' ρ' S'.flat a' w'):fin Y fn c.Δ S'=some y→bodyPost P fn (Qws L w (Q1d c β ρ ok L w x y)) .ret a' w':=by
 intro yn
 unfold fin at yn
 split at yn
 ·rename_i es xe
  obtain⟨hkb,hd⟩:=bvT yn
  have hksm:=QF hkb
  obtain⟨s,x1,hku,bw,hd,u3⟩:=Q8w hd
  obtain⟨rv,r1,r2,r3,r4⟩:=Qxs hT h3 [] rfl xe
  simp only[QC]at r4
  have hRes:Rel { cxL L fn.ntmps ok w with n:=rv.length } β' ρ' (XS.flat ⟨es,[],S'.mem,S'.fixM,S'.prot⟩) ⟨rv.toArray,[]⟩ w':=by
   have e:XS.flat ⟨es,[],S'.mem,S'.fixM,S'.prot⟩=⟨es,S'.flat.mem⟩:=by simp[XS.flat]
   rw[e]
   have hSb:Sb (fun _=>0) { cxL L fn.ntmps ok w with n:=rv.length } [] [] [] (Qg β' ρ' S'.flat.mem) ⟨rv.toArray,[]⟩ w' :=
    { sz:=by simp,df:=rfl,fr:=by simp,pn:=by simp,tm:=by simp,bel:=h3.bel,dat:=trivial,obj:=by simp,own:=h3.own,dHH:=by simp,dHO:=by simp,dOO:=h3.dOO }
   exact Rel.ofSb hSb rfl fun e he=>r4 e he
  obtain⟨β2,ρ2,h4,h5⟩:=XS.dec_ok hRes hd
  have bc:S'.fixM=roM c x:=h2.fixM
  have ah:S'.prot=c.Γ.mem.map Prod.fst:=h2.prot
  rw[bc]at h5
  have p8:∀(j:Nat) e,(enc s x1).env[j]?=some e→∃cs,rv[j]?=some (e.av.val cs)∧cr β2 ρ2 (Jf (okL L ok) w.heap.size (fun _=>0) [] (Qg β2 ρ2 ((enc s x1).mem++roM c x)) w') w' false e.av cs:=by
   intro j e he
   have jr:e.t=0+j∧e.cs=[]:=by
    unfold enc at he
    split at he
    rename_i es0 r0 wu
    exact Qkr (vs:=toL s.tys x1) hku j e (by rw[wu]; exact he)
   have hen:=h5.en (QZ _ (JM he))
   obtain⟨cs,q1,q2⟩:=hen.1 (by rw[jr.2]; exact Qc _)
   rw[jr.1,QE]at q1
   have sy:j<s.env.length:=by
    have h4:=(QK.1 he).1
    unfold enc at h4
    have h5:=Me (l:=s.env) (vs:=toL s.tys x1)
    split at h4
    rename_i es0 r0 wu
    rw[wu]at h5
    simp only at h4 h5
    omega
   rw[L0 (XT (by omega))]at q1
   exact⟨cs,by simpa using q1,q2⟩
  have p9:(enc s x1).env.length=rv.length:=by
   have:(enc s x1).env.length=s.env.length:=by
    unfold enc
    have:=Me (l:=s.env) (vs:=toL s.tys x1)
    split
    rename_i es0 r0 wu
    rw[wu]at this
    exact this
   omega
  have vb:(results fn a'.tmps).run P w'=.ok (if h:rv.toArray.size=1 then rv.toArray[0]else .tuple rv.toArray) w':=by
   unfold results
   rw[VX]
   simp only[Sem.run_bind,Sem.run_map,bind_pure_comp]
   exact congrArg (fun z:Result (List Value)=>(z.andThen fun a w'=>Result.ok a.toArray w').andThen fun a w'=>Result.ok (if h:a.size=1 then a[0]else Value.tuple a) w') r3
  refine⟨h3.df,_,vb,_,rfl,?_,h3.bel⟩
  unfold Q1d
  rw[u3]
  refine⟨β2,ρ2,?_,?_,?_,?_⟩
  ·exact agP.trans h2.ag (by rw[←ah]; exact h4)
  ·by_cases fe:rv.length=1
   ·obtain⟨e0,qg⟩:=VD.1 (p9.trans fe)
    obtain⟨cs,q1,q2⟩:=p8 0 e0 (by rw[qg]; rfl)
    have hra:Rv (enc s x1).env=e0.av:=by rw[qg]; rfl
    rw[hra]
    refine⟨cs,?_,q2⟩
    rw[dif_pos (by simpa using fe)]
    have hlt:0<rv.length:=by omega
    rw[QU hlt]at q1
    exact Option.some.inj q1
   ·have hra:Rv (enc s x1).env=.tp (Qt9 (enc s x1).env):=by
     unfold Rv
     split
     ·rename_i e0 qg
      exact absurd (by rw[←p9,qg]; rfl) fe
     ·rfl
    rw[hra]
    refine⟨[.tuple rv.toArray],?_,rv,rfl,?_⟩
    ·rw[dif_neg (by simpa using fe)]; rfl
    ·exact Q1k (i:=0) p8 p9.symm
  ·exact fun t ht=>h5.own t ht
  ·exact h5.dOO
 ·cases yn
theorem Jk3(hT:Q4 P Y.T){f:FuncId}{fn:Func}(hf:P.funcs[f]?=some fn){c:Con}(lj:c.f=f){code:Code}(hb:fn.body=some code)(hble:Nat.ble c.Γ.env.length fn.ntmps=true)(hku:Ie c.Γ.env 0=true)(jv:Nat.blt c.Γ.env.length 100000=true)
  (hway:∀(x:c.Γ.De) (y:Qb5 c.Δ) (X:Cx) (β:Nat→Nat) (ρ:Nat→Value) (a:Act) (w:World) (Q:Exit→Act→World→Prop),c.fn x=some y→Vs Y.gl (okN X) X.w→X.n=fn.ntmps→X.res=[]→X.pin=none→Rel X β ρ (S00 Y c x).flat a w→COk Q X (S00 Y c x) β ρ (Jr8 Y fn c) y→code.wp P Q a w):Qfy P Y.gl c:=by
 intro ok w L β ρ x y vs kj hG hlen hL zx hy
 rw[lj]
 refine Ja0 (n:=fn.ntmps) (L:=L) (O:=Qg β ρ (enc c.Γ x).mem) (D:=[]) kj hf hb rfl (by rw[hlen]; exact hble) trivial hL fun a h0=>?_
 have hR:=Q8v (Y:=Y) (fn:=fn) hku jv kj hG hL zx h0
 refine hway x y _ β ρ a w _ hy (hG.weak fun b o kn=>⟨.inl kn,fun xy=>hL.2.2 b xy |>.elim fun t ht=>(hL.1 t ht.1).2.2 b o ht.2 kn,kj b o kn⟩) rfl rfl rfl hR fun e β' ρ' S' a' w' h1 h2 h3=>?_
 have key:=Q8x (y:=y) hT h2 h3
 cases e with
 | n=>exact key h1
 | x i=>cases h1
 | r=>exact key h1
theorem Jk4(hT:Q4 P Y.T)(ze:P.follows .mixedOrders=true)(hK:Q1l P Y.gl K){f:FuncId}{fn:Func}(hf:P.funcs[f]?=some fn){an:An}{c:Con}(lj:c.f=f)(ka:∀x,c.fn x=Jf2 Y K N fn an c.ro c.Γ c.Δ x):Qfy P Y.gl c:=by
 cases hb:fn.body with
 | none =>
  refine F4 fun x=>?_
  rw[ka]
  unfold Jf2
  rw[hb]
 | some code =>
  by_cases hc:(Nat.ble c.Γ.env.length fn.ntmps&&(Ie c.Γ.env 0&&Nat.blt c.Γ.env.length 100000))=true
  ·have yp:=hc
   simp only[QQ]at yp
   refine Jk3 hT hf lj hb yp.1 yp.2.1 yp.2.2 fun x y X β ρ a w Q hy hG hX hr hp hR H=>?_
   rw[ka]at hy
   unfold Jf2 at hy
   rw[hb,hc]at hy
   exact Z0 hT ze ⟨hK,hG⟩ hX hr hp an hR hy H
  ·refine F4 fun x=>?_
   rw[ka]
   unfold Jf2
   rw[hb]
   simp only
   rw[show(Nat.ble c.Γ.env.length fn.ntmps&&(Ie c.Γ.env 0&&Nat.blt c.Γ.env.length 100000))=false from Bool.eq_false_iff.2 hc]
   rfl
end
end Gx
namespace Gx
open Go
theorem Jq2{P:Program}{gl:List (Nat×Σ t:Ty,t.De)}:Q1l P gl []:=fun _ h=>by cases h
theorem Jpm{P:Program}{c:Con}{gl:List (Nat×Σ t:Ty,t.De)}{K:List Con}(h:Qfy P gl c)(hr:Gd.Runs P c.f)(hk:Q1l P gl K):Q1l P gl (c::K):=fun d hd=>by
 rcases QX.1 hd with rfl | hd
 ·exact⟨h,hr⟩
 ·exact hk d hd
end Gx

/- The rest of the state set aside; objects that are no cells; pieces of code in a round. -/
namespace Gx
open Go Go.RowKit Gd
set_option linter.unusedVariables false
set_option linter.unusedSimpArgs false
section
variable {P:Program} {Y:TX} {X:Cx} {β β':Nat→Nat} {ρ ρ':Nat→Value} {S S':St} {a a':Act} {w w':World}
noncomputable def reX(X:Cx)(β:Nat→Nat)(ρ:Nat→Value)(M:List (Nat×Ob))(w:World):Cx :=
 { cxL (Xt w.heap.size (Qg β ρ M)) X.n (okR X β ρ M w) w with dfs:=X.dfs }
theorem Zr{n:Nat}{O:List TL}{g:Nat}:g∈Xt n O↔g<n∧∃t∈O,t.blks g:=by
 unfold Xt
 rw[JJ,JT]
 simp only[decide_eq_true_eq]
theorem Jpn{M:List (Nat×Ob)}(hV:Vg M=true):∀t∈Qg β ρ M,∀b o,t.blks b→t.cov b o:=fun t ht b o hb=>by
 obtain⟨q,hq,rfl⟩:=QY.1 ht
 exact T8 hV hq hb
theorem Qxt{gl:List (Nat×Σ t:Ty,t.De)}(hG:Vs gl (okN X) X.w)(h:Rel X β ρ S a w)(hV:Vg S.mem=true) :
    Rel (reX X β ρ S.mem w) β ρ S a w∧Vs gl (okN (reX X β ρ S.mem w)) (reX X β ρ S.mem w).w:=by
  have hL1:∀t∈Qg β ρ S.mem,∀g,t.blks g→g∈Xt w.heap.size (Qg β ρ S.mem):=fun t ht g hg=>Zr.2 ⟨h.olt ht hg,t,ht,hg⟩
  have hk:∀b f,Jf X.ok X.w.heap.size (fun _=>0) [] (Qg β ρ S.mem) w b f→Jf (okL (Xt w.heap.size (Qg β ρ S.mem)) (Jf X.ok X.w.heap.size (fun _=>0) [] (Qg β ρ S.mem) w)) w.heap.size (fun _=>0) [] (Qg β ρ S.mem) w b f :=
    fun b f kn=>⟨.inl (.inl kn),kn.2.1,by simp,fun t ht hc=>kn.2.2.2 t ht hc⟩
  refine⟨?_,?_⟩
  · exact { sz:=h.sz,df:=h.df,fr:=by simp[reX],pn:=by simp[reX],tm:=by simp,bel:=Ud.refl _ _ _,obj:=by simp,dHH:=by simp,dHO:=by simp,
            dat:=Jg.2 fun x hx=>by
              obtain⟨e,he,rfl⟩:=QY.1 hx
              exact(enD β ρ a e).weak (Jg.1 h.dat _ (QY.2 ⟨e,he,rfl⟩)) hk,
            own:=fun t ht=>⟨t.weak (h.own t ht).1 hk,fun g hg=>.inr (hL1 t ht g hg)⟩,
            dOO:=h.dOO }
  · exact(Lt h hG).weak fun b f kn=>⟨.inl kn,fun xy=>by
      obtain⟨_,t,ht,hg⟩:=Zr.1 xy
      exact kn.2.2.2 t ht (Jpn hV t ht b f hg),kn.2.1⟩
theorem Qxu(h:Rel X β ρ S a w)(hV:Vg S.mem=true)(hr:X.res=[])(hp:X.pin=none)(hR:Rel (reX X β ρ S.mem w) β' ρ' S' a' w'):Rel X β' ρ' S' a' w':=by
 have hL2:∀g∈Xt w.heap.size (Qg β ρ S.mem),∃t∈Qg β ρ S.mem,t.blks g:=fun g hg=>(Zr.1 hg).2
 have hS:Sb (fun _=>0) X [] (S.env.map (enD β ρ a)) [] (Qg β ρ S.mem++[]) a w:=by rw[QR]; exact h
 have eo:Jf X.ok X.w.heap.size (fun _=>0) [] (Qg β ρ S.mem++[]) w=Jf X.ok X.w.heap.size (fun _=>0) [] (Qg β ρ S.mem) w:=by rw[QR]
 have hC:=Sb.callO (O1':=Qg β' ρ' S'.mem) (w':=w') (L:=Xt w.heap.size (Qg β ρ S.mem)) hS hR.bel hL2 (Jpn hV) (fun t ht=>⟨by rw[eo]; exact(hR.own t ht).1,fun g hg=>(hR.own t ht).2 g hg⟩) hR.dOO
 rw[QR]at hC
 have hC3:Sb (fun _=>0) X [] [] [] (Qg β' ρ' S'.mem) a' w' :=
  { sz:=hR.sz,df:=hR.df,fr:=by rw[hr]; simp,pn:=by rw[hp]; simp,tm:=by simp,bel:=hC.bel,dat:=trivial,obj:=by simp,own:=hC.own,dHH:=by simp,dHO:=by simp,dOO:=hC.dOO }
 refine Rel.ofSb hC3 rfl fun e he=>?_
 have h1:=Jg.1 hR.dat _ (QY.2 ⟨e,he,rfl⟩)
 refine(enD β' ρ' a' e).weak h1 fun b f hbf=>?_
 have h2:=Rx (O1':=Qg β' ρ' S'.mem) hS hR.bel.size hL2 b f (by rw[eo]; exact hbf)
 rw[QR]at h2
 exact h2
theorem Qxv{e sz:Nat}{v:Value}{n:Nat}{xs:List Value}(h:w.ownsRowS 0 e sz v n xs){g:Nat}(hg:v.ownBlock=some g):∃o:Obj,w.heap[g]?=some o∧(o.isCells=true∨∃es c,o=.map es c):=by
 rcases h.2 with⟨rfl,_⟩ | ⟨g',cap,cur,fz,rfl,_,hh,_⟩
 ·cases hg
 ·have hg:some g'=some g:=hg
  injection hg with hg; subst hg
  exact⟨_,hh,.inl rfl⟩
theorem Qu0{κ:Type}{c:CK}{hole:Option κ}{hv:Value}{ok:Ok}:∀{xs:List (κ×c.ty.De)} {ys:List (κ×Value)} {vs:List Value},B8 c hole hv ok w xs ys vs→∀v∈vs,∀g,Ke v=some g→∃o:Obj,w.heap[g]?=some o∧(o.isCells=true∨∃es c,o=.map es c)
 | [],[],[],h=>by simp
 | x::xs,y0::ys,v::vs,⟨h1,h3,h4⟩=>by
  intro y hy g hg
  rcases QX.1 hy with rfl | hy
  ·rcases h3 with⟨_,rfl,_⟩ | ⟨_,_,h3⟩
   ·cases hg
   ·cases c with
    | sl e u =>
     obtain⟨_,cs,h3,_⟩:=h3
     exact Qxv h3 ((Qcl h3).2 hg)
    | mp k v =>
     obtain⟨g',rfl,es,c,h1,_⟩:=h3
     injection hg with hg
     subst hg
     exact⟨_,h1,.inr ⟨_,_,rfl⟩⟩
  ·exact Qu0 h4 y hy g hg
 | [],[],_::_,h=>h.elim
 | [],_::_,_,h=>h.elim
 | _::_,[],_,h=>h.elim
 | _::_,_::_,[],h=>h.elim
theorem Jgs{ok:Ok}{id:Nat}{o:Ob}(h:(Qx β ρ id o).p ok w){g:Nat}(hg:(Qx β ρ id o).blks g):∃o:Obj,w.heap[g]?=some o∧(o.isCells=true∨∃es c,o=.map es c):=by
 cases o with
 | var tid c =>
  obtain⟨cs,h1,_⟩:=h
  have hg:g=β id:=hg
  subst hg
  exact⟨_,h1,.inl rfl⟩
 | row e t xs =>
  obtain⟨_,cs,h1,_⟩:=h
  exact Qxv h1 hg
 | tail e t xs =>
  obtain⟨_,ys,h1⟩:=h
  exact Qxv h1 hg
 | map k v xs =>
  obtain⟨es,c,h1,_⟩:=h
  have hg:g=β id:=hg
  subst hg
  exact⟨_,h1,.inr ⟨_,_,rfl⟩⟩
 | mapC k v xs hole =>
  obtain⟨ys,⟨es,c,h1,_⟩,h2,_⟩:=h
  rcases hg with hg | ⟨v,hv,hg⟩
  ·subst hg; exact⟨_,h1,.inr ⟨_,_,rfl⟩⟩
  ·exact Qu0 h2 v hv g hg
 | mapE k v xs key j =>
  obtain⟨es,c,h1,_⟩:=h
  have hg:g=β id:=hg
  subst hg
  exact⟨_,h1,.inr ⟨_,_,rfl⟩⟩
theorem Rel.notOwn(h:Rel X β ρ S a w){g:Nat}{o:Obj}(ho:w.heap[g]?=some o)(hc:o.isCells=false)(hm:∀es c,o≠.map es c):∀t∈Qg β ρ S.mem,¬ t.blks g:=fun t ht hg=>by
 obtain⟨q,hq,rfl⟩:=QY.1 ht
 obtain⟨o',h1,h2⟩:=Jgs (h.own _ ht).1 hg
 rw[ho]at h1
 injection h1 with h1; subst h1
 rcases h2 with h2 | ⟨es,c,h2⟩
 ·rw[hc]at h2; cases h2
 ·exact hm _ _ h2
theorem Qu1{g o:Nat}{ob:Obj}(h:w.heap[g]?=some ob)(hc:ob.isCells=false):w.cell? ⟨g,o,none⟩=none:=by
 unfold World.cell?
 cases ob<;>simp_all [Obj.isCells]
theorem Rel.turn(h:Rel X β ρ S a w){g:Nat}{o o':Obj}(hB:X.w.heap.size≤g)(ho:w.heap[g]?=some o)(hc:o.isCells=false)(hm:∀es c,o≠.map es c)(yp:o'.isCells=false):Rel X β ρ S a (w.putObj g o'):=by
  have hn:=h.notOwn ho hc hm
  have zn:∀b,b≠g→(w.putObj g o').heap[b]?=w.heap[b]?:=fun b hb=>World.putObj_heap_other hb
  have hlt:=(ZN.1 ho).1
  have kq:Evo (Jf X.ok X.w.heap.size (fun _=>0) [] (Qg β ρ S.mem) w) w (w.putObj g o') :=
    ⟨by simp,fun b f _=>by
      by_cases e:b=g
      · subst e
        rw[Qu1 ho hc,Qu1 (World.putObj_heap_same hlt) yp]
      · exact World.cell?_of_block (w:=w) (zn b e),fun b es c _ hb=>by
      have k8:b≠g:=fun e=>by subst e; rw[ho]at hb; injection hb with hb; exact hm _ _ hb
      rw[zn b k8]; exact hb⟩
  have kj:∀b f,Jf X.ok X.w.heap.size (fun _=>0) [] (Qg β ρ S.mem) w b f→Jf X.ok X.w.heap.size (fun _=>0) [] (Qg β ρ S.mem) (w.putObj g o') b f:=fun b f ⟨h1,h2,h3,h4⟩=>⟨h1,by simpa using h2,h3,h4⟩
  exact { sz:=h.sz,df:=h.df,fr:=h.fr,pn:=h.pn,tm:=h.tm,bel:=h.bel.trans ⟨rfl,rfl,rfl,by simp,fun k hk _=>zn k (by omega)⟩,dat:=(h.dat.evo kq).weak kj,obj:=by simp,
          own:=fun t ht=>⟨t.weak (t.keep (h.own t ht).1 (fun b hb=>zn b fun e=>hn t ht (e▸hb)) kq) kj,(h.own t ht).2⟩,dHH:=by simp,dHO:=by simp,dOO:=h.dOO }
theorem Rel.withD(h:Rel X β ρ S a w)(ds:List Deferred):Rel { X with dfs:=ds } β ρ S { a with defers:=ds } w :=
 { sz:=h.sz,df:=rfl,fr:=h.fr,pn:=h.pn,tm:=h.tm,bel:=h.bel,dat:=h.dat,obj:=h.obj,own:=h.own,dHH:=h.dHH,dHO:=h.dHO,dOO:=h.dOO }
end
def Ig(ds:List Nat)(a a':Act):Prop:=∀t,t∉ds→a'.tmps[t]?=a.tmps[t]?
theorem Ig.put{ds:List Nat}{a0 a:Act}(h:Ig ds a0 a){o:Option Nat}(ho:∀d,o=some d→d∈ds)(v:Value):Ig ds a0 (a.put o v):=fun t ht=>by
 cases o with
 | none=>exact h t ht
 | some d=>rw[Y7 (fun e=>ht (by subst e; exact ho _ rfl))]; exact h t ht
abbrev Qf0(ro:Option Nat):Fence:={ Fence.wide with round:=ro }
def QL(ds:List Nat)(a0:Act)(Z:Act→World→Prop)(Q:Exit→Act→World→Prop):Exit→Act→World→Prop
 | .normal,a',w'=>Ig ds a0 a'→Z a' w'
 | e,a',w'=>Q e a' w'
def QS(ds:List Nat)(a0:Act)(Q:Exit→Act→World→Prop):Exit→Act→World→Prop:=QL ds a0 (Q .normal) Q
def T9:List Oper→Bool
 | []=>true
 | o::l=>(match o.op with
  | .defer _=>false
  | _=>true)&&T9 l
def K7:List Oper→List Nat
 | []=>[]
 | o::l=>match o.dst with
  | some d=>d::K7 l
  | none=>K7 l
theorem Qxw{P:Program}{row:String}{args:Array Value}{w:World}{R:Value→World→Prop}(ro:Option Nat)(m:Nat)(h:Rows P row args w R):RowsIn (Qf0 ro) m P row args w R :=
 fun c cs _=>let⟨v,w',r,s⟩:=h c cs; ⟨v,w',r,(stepsIn_wide.2 s:StepsIn (Machine.fenced P Fence.wide) P _ _)⟩
theorem Qs3{P:Program}{f:FuncId}{args:Array Value}{w:World}{R:Ending→World→Prop}(ro:Option Nat)(m:Nat)(h:Calls P f args w R):CallsIn (Qf0 ro) m P f args w R:=(callsIn_wide.2 h:CallsIn Fence.wide m P f args w R)
theorem Qks{P:Program}{ops:Array Oper}{Q:Exit→Act→World→Prop}{ro:Option Nat}{m:Nat}{ds:List Nat}{a0:Act}{Z:Act→World→Prop}{tl:List Oper}(hQ:¬ LetsOut Q)(hZ:∀a w,Z a w→wpListIn (Qf0 ro) m P ops Q tl a w):∀(os:List Oper),T9 os=true→(∀d∈K7 os,d∈ds)→∀(a:Act) (w:World),Ig ds a0 a→wpList P ops (QL ds a0 Z Q) os a w→wpListIn (Qf0 ro) m P ops Q (os++tl) a w
 | [],_,_,a,w,hs,h=>hZ a w (h hs)
 | o::os,hn,hd,a,w,hs,h=>by
  simp only[T9,QQ]at hn
  have fo:∀d,o.dst=some d→d∈ds:=fun d e=>hd d (by simp[K7,e])
  have mw:∀d∈K7 os,d∈ds:=fun d hm=>hd d (by unfold K7; split<;>first | exact .tail _ hm | exact hm)
  have ih:∀(a:Act) (w:World),Ig ds a0 a→wpList P ops (QL ds a0 Z Q) os a w→wpListIn (Qf0 ro) m P ops Q (os++tl) a w:=fun a w=>Qks hQ hZ os hn.2 mw a w
  unfold wpList at h
  rw[QA]
  unfold wpListIn
  split at h
  ·rename_i hw
   rw[if_pos hw]
   refine⟨fun _ _=>trivial,?_⟩
   have ye:∀c,o.op≠.defer c:=fun c hc=>by
    have:=hn.1
    rw[hc]at this; cases this
   have ug:Oper.semAt (Qf0 ro).round a.eval o=execOp a.eval o:=by
    cases ro with
    | none=>exact Oper.semAt_none _ _
    | some l=>exact Oper.semAt_some l _ o ye
   rw[ug]
   rcases h with h | ⟨_,h⟩
   ·unfold Oper.wp at h
    cases hr:(execOp a.eval o).run P w with
    | ok nx w' =>
     rw[hr]at h
     cases nx with
     | value v=>exact ih _ _ (hs.put fo v) h
     | skip=>exact ih _ _ (hs.put fo undef) h
     | defer d=>exact ih _ _ (Ig.put (a:={ a with defers:=d::a.defers }) hs fo undef) h
     | enter f args =>
      refine⟨fun hd=>(by have h0:(Qf0 ro).depth.isSome=false:=rfl; rw[h0]at hd; cases hd),?_⟩
      refine Qs3 ro _ (Calls.mono h fun e w' he=>?_)
      cases e with
      | returned v=>exact ih _ _ (hs.put fo v) he
      | panicked c=>exact he
      | outgrown=>exact he
     | row rw' args =>
      exact⟨fun hd=>(by have h0:(Qf0 ro).depth.isSome=false:=rfl; rw[h0]at hd; cases hd),Qxw ro _ (Rows.mono h fun v w' hv=>ih _ _ (hs.put fo v) hv)⟩
     | _=>exact h.elim
    | halt hl w' =>
     rw[hr]at h
     cases hl with
     | panic v=>exact h
     | _=>exact h.elim
   ·exact absurd (show LetsOut Q from h) hQ
  ·rename_i hw
   rw[if_neg hw]
   exact⟨fun _ _=>trivial,ih _ _ (hs.put fo undef) h⟩
theorem Qu2{P:Program}{ops:Array Oper}{Q:Exit→Act→World→Prop}{ro:Option Nat}{m:Nat}{ds:List Nat}{a0:Act}(hQ:¬ LetsOut Q)(os:List Oper)(hn:T9 os=true)(hd:∀d∈K7 os,d∈ds)(a:Act)(w:World)(hs:Ig ds a0 a)(h:wpList P ops (QS ds a0 Q) os a w):wpListIn (Qf0 ro) m P ops Q os a w:=by
 have:=Qks (ro:=ro) (m:=m) (Z:=Q .normal) (tl:=[]) hQ (fun a w hz=>hz) os hn hd a w hs h
 rwa[QR]at this
def rb:An→Code→Bool
 | .nil,.skip=>true
 | .reg _,.region _ ⟨ops⟩ false=>T9 ops
 | .two a b,.seq x y=>rb a x&&rb b y
 | .two a b,.cond _ x y=>rb a x&&rb b y
 | .un a,.block _ c=>rb a c
 | .gh _ a,c=>rb a c
 | _,_=>false
def Zm:Code→List Nat
 | .region _ ⟨ops⟩ _=>K7 ops
 | .seq x y=>Zm x++Zm y
 | .cond _ x y=>Zm x++Zm y
 | .block _ c=>Zm c
 | _=>[]
section
variable {P:Program} {Y:TX} {X:Cx} {n N:Nat} {K:List Con}
theorem Oa(hT:Q4 P Y.T)(ze:P.follows .mixedOrders=true)(hK:KsX P Y X K)(hX:X.n=n)(hr:X.res=[])(kz:X.pin=none){ro:Option Nat}{m:Nat}{ds:List Nat}{a0:Act}:∀{R:Type} {r:R} (an:An) {c:Code} {S:XS} {β:Nat→Nat} {ρ:Nat→Value} {a:Act} {w:World} {k:Ex→XS→Option R} {Q:Exit→Act→World→Prop},
  rb an c=true→¬ LetsOut Q→(∀d∈Zm c,d∈ds)→Ig ds a0 a→Rel X β ρ S.flat a w→Zl Y K n N an c S k=some r →
  (∀(e:Ex) (β':Nat→Nat) (ρ':Nat→Value) (S':XS) (a':Act) (w':World),k e S'=some r→Y6 S S' β β' ρ ρ'→Rel X β' ρ' S'.flat a' w'→Ig ds a0 a'→Q e.exit a' w')→c.wpIn (Qf0 ro) m P Q a w
 | R,r,.nil,c,S,β,ρ,a,w,k,Q,hb,hQ,hd,ha,h,hs,H=>by
  cases c<;>first | (cases hb; done) | skip
  simp only[Zl]at hs
  exact wpIn_skip (H .n β ρ S a w hs (Y6.refl _ _ _) h ha)
 | R,r,.reg hn,c,S,β,ρ,a,w,k,Q,hb,hQ,hd,ha,h,hs,H=>by
  cases c with
  | region id ops draw =>
   obtain⟨ops⟩:=ops
   cases draw with
   | true=>cases hb
   | false =>
    simp only[Zl]at hs
    refine wpIn_region_list ?_
    have:=Y5 hT hK hX hr (Q:=QS ds a0 Q) hn (l:=ops) (rest:=[]) h hs fun β' ρ' S' a' w' h1 h2 h3=>fun zn=>H .n β' ρ' S' a' w' h1 h2 h3 zn
    rw[QR]at this
    exact Qu2 hQ ops hb hd a w ha this
  | _=>cases hb
 | R,r,.two x y,c,S,β,ρ,a,w,k,Q,hb,hQ,hd,ha,h,hs,H=>by
  cases c<;>first | (cases hb; done) | skip
  ·rename_i c1 c2
   simp only[Zl]at hs
   simp only[rb,QQ]at hb
   refine wpIn_seq (Oa hT ze hK hX hr kz x hb.1 hQ (fun d hm=>hd d (QZ _ hm)) ha h hs fun e β' ρ' S' a' w' h1 h2 h3 h4=>?_)
   cases e with
   | n=>exact Oa hT ze hK hX hr kz y hb.2 hQ (fun d hm=>hd d (QV _ hm)) h4 h3 h1 fun e β2 ρ2 S2 a2 w2 q1 q2 q3 q4=>H e β2 ρ2 S2 a2 w2 q1 (h2.trans q2) q3 q4
   | x i=>exact H (.x i) β' ρ' S' a' w' h1 h2 h3 h4
   | r=>exact H .r β' ρ' S' a' w' h1 h2 h3 h4
  ·rename_i co c1 c2
   simp only[Zl]at hs
   simp only[rb,QQ]at hb
   split at hs
   ·rename_i v hv
    obtain⟨cs,h1,h2⟩:=h.ev (Qc a) hv
    have zj:cs=_:=h2
    subst zj
    have k5:a.eval co=.bool v:=h1
    refine wpIn_cond k5 ?_
    cases v with
    | true =>
     rw[if_pos rfl]at hs ⊢
     exact Oa hT ze hK hX hr kz x hb.1 hQ (fun d hm=>hd d (QZ _ hm)) ha h hs H
    | false =>
     rw[if_neg (by simp)]at hs ⊢
     exact Oa hT ze hK hX hr kz y hb.2 hQ (fun d hm=>hd d (QV _ hm)) ha h hs H
   ·cases hs
 | R,r,.un x,c,S,β,ρ,a,w,k,Q,hb,hQ,hd,ha,h,hs,H=>by
  cases c<;>first | (cases hb; done) | skip
  rename_i id c1
  simp only[Zl]at hs
  have hQ2:¬ LetsOut (Exit.inBlock id Q):=hQ
  refine wpIn_block (Oa hT ze hK hX hr kz x hb hQ2 hd ha h hs fun e β' ρ' S' a' w' h1 h2 h3 h4=>?_)
  cases e with
  | n=>exact H .n β' ρ' S' a' w' h1 h2 h3 h4
  | x i =>
   simp only at h1
   show if i=id then Q .normal a' w' else Q (.exit i) a' w'
   cases hb:Nat.beq i id with
   | true =>
    rw[hb]at h1
    rw[if_pos (QJ hb)]
    exact H .n β' ρ' S' a' w' h1 h2 h3 h4
   | false =>
    rw[hb]at h1
    rw[if_neg (fun e=>by rw[e,JY]at hb; cases hb)]
    exact H (.x i) β' ρ' S' a' w' h1 h2 h3 h4
  | r=>exact H .r β' ρ' S' a' w' h1 h2 h3 h4
 | R,r,.gh g x,c,S,β,ρ,a,w,k,Q,hb,hQ,hd,ha,h,hs,H=>by
  simp only[Zl]at hs
  obtain⟨S1,β1,ρ1,q1,q2,q3⟩:=T6 g h hs
  have yo:rb x c=true:=by cases c<;>exact hb
  exact Oa hT ze hK hX hr kz x yo hQ hd ha q3 q1 fun e β2 ρ2 S2 a2 w2 p1 p2 p3 p4=>H e β2 ρ2 S2 a2 w2 p1 (q2.trans p2) p3 p4
 | R,r,.dr _ _ _,c,S,β,ρ,a,w,k,Q,hb,hQ,hd,ha,h,hs,H=>by cases c<;>cases hb
 | R,r,.dc _ _ _ _ _,c,S,β,ρ,a,w,k,Q,hb,hQ,hd,ha,h,hs,H=>by cases c<;>cases hb
 | R,r,.cn _ _ _,c,S,β,ρ,a,w,k,Q,hb,hQ,hd,ha,h,hs,H=>by cases c<;>cases hb
 | R,r,.ch _ _ _ _,c,S,β,ρ,a,w,k,Q,hb,hQ,hd,ha,h,hs,H=>by cases c<;>cases hb
 | R,r,.lp _ _ _ _ _,c,S,β,ρ,a,w,k,Q,hb,hQ,hd,ha,h,hs,H=>by cases c<;>cases hb
 | R,r,.jn _ _ _ _,c,S,β,ρ,a,w,k,Q,hb,hQ,hd,ha,h,hs,H=>by cases c<;>cases hb
end
end Gx

/- A range over a function. -/
namespace Gx
open Go Go.RowKit Gd
set_option linter.unusedVariables false
set_option linter.unusedSimpArgs false
structure It where
 f:FuncId
 cs:List Ty
 u:Ty
 fn:Tup cs→Option (List u.De)
def Jb7(ok:Ok)(w:World):List DV→List Nat→Prop
 | [],[]=>True
 | v::l,b::bs=>(∃tid cs,w.heap[b]?=some (.cells cs.toArray tid (0,0))∧(rt v.1).rep ok w v.2 cs)∧Jb7 ok w l bs
 | _,_=>False
def Qxx(b:Nat):Value:=.pointer (some ⟨b,0,none⟩)
def okC(ok:Ok)(w A:World)(O:Nat→Prop)(bs:List Nat):Ok:=fun b o=>(ok b o∨w.heap.size≤b∨b∈bs)∧b<A.heap.size∧¬ O b
def Jb8(P:Program)(gl:List (Nat×Σ t:Ty,t.De))(it:It):Prop :=
 ∀(ok:Ok) (w:World) (bs:List Nat) (x:Tup it.cs) (es:List it.u.De),(∀b o,ok b o→b<w.heap.size)→Vs gl ok w→it.fn x=some es→Jb7 ok w (toL it.cs x) bs→bs.Nodup→(∀b∈bs,∀o,¬ ok b o) →
   ∀(l:Nat) (J:Nat→(Nat→Prop)→World→Prop) (W:World) (O0:Nat→Prop),Below w.heap.size w W→(∀k O A B,J k O A→Below A.heap.size A B→J k O B)→(∀k O A,J k O A→∀b,O b→b<A.heap.size∧(∀o,¬ ok b o)∧b∉bs) →
    (∀k O A e v,J k O A→es[k]?=some e→isV (rt it.u) (okC ok w A O bs) A e v→∀m,YieldAt Fence.wide m P l #[v] A fun r B=>r=.returned (.bool true) ∧
     ∃O',J (k+1) O' B∧(∀b,O' b→O b∨A.heap.size≤b)∧A.heap.size≤B.heap.size∧∀b,b<A.heap.size→¬ O b→B.heap[b]?=A.heap[b]?)→J 0 O0 W →
    ∀m,CallsIn Fence.wide m P it.f (#[.func (.yield l) #[] #[]]++(bs.map Qxx).toArray) W fun e B=>(∃v,e=.returned v)∧∃O,J es.length O B
def Qxy(M:List (Nat×Ob)):AV→Option (List (Nat×DV))
 | .nil=>some []
 | .cons (.p id []) r=>match Qe M id,Qxy M r with
  | some (.var _ (.d t x)),some l=>some ((id,⟨t,x⟩)::l)
  | _,_=>none
 | _=>none
def Qmk{σ α:Type}(f:σ→α→Option σ):List α→σ→Option σ
 | [],s=>some s
 | x::l,s=>(f s x).bind fun s'=>Qmk f l s'
inductive AnR where
 | pre (a:An) (r:AnR)
 | inn (r:AnR) (b:An)
 | un (r:AnR)
 | rf (it:Nat) (ks ms:List Nat) (Γ:Shp) (a b:An)
def Qml(ids:List Nat)(M:List (Nat×Ob)):List (Nat×Ob):=M.filter fun q=>!Yb ids q.1
section
variable (Y:TX) (K:List Con) (n N:Nat)
noncomputable def rdR(Γ:Shp){u:Ty}(S1:XS)(p:Nat)(aA aB:An)(A B:Code)(s:Γ.De)(e:u.De):Option Γ.De :=
 bif Vg (S1.re (enc Γ s)).flat.mem then
  Zl Y K n N aA A ((S1.re (enc Γ s)).put p [] (.d u e)) fun ex S2=>match ex with
   | .n=>bif Vg S2.flat.mem then(Zl Y K n N aB B S2 fun ex2 S3=>match ex2 with
    | .n=>S3.dec Γ
    | _=>none)else none
   | _=>none
 else none
def rfS(S:XS)(ids ks ms:List Nat):XS:=XS.ent { S with mem:=Qml ids S.mem } ks ms
noncomputable def Qgu{R:Type}(its:List It):AnR→Code→XS→(Ex→XS→Option R)→Option R
 | .pre a r,.seq x y,S,k=>Zl Y K n N a x S fun e S'=>match e with
  | .n=>Qgu its r y S' k
  | _=>none
 | .inn r b,.seq x y,S,k=>Qgu its r x S fun e S'=>match e with
  | .n=>bif Vg S'.flat.mem then Zl Y K n N b y S' k else none
  | _=>none
 | .un r,.block _ c,S,k=>Qgu its r c S fun e S'=>match e with
  | .n=>k .n S'
  | _=>none
 | .rf i ks ms Γ aA aB,.rangeFunc (.tmp g) ⟨[p]⟩ A B,S,k=>match its[i]?,S.ev [] (.tmp g)with
  | some it,some (.f gf caps)=>match Qxy S.mem caps with
   | some bl=>match ofL it.cs (bl.map Prod.snd)with
    | some x=>bif Nat.beq it.f gf&&(rb aA A&&rb aB B)&&((p::(Zm A++Zm B)).all fun d=>Nw d (rfS S (bl.map Prod.fst) ks ms).fix)&&Jfw Γ.env&&okW n (rfS S (bl.map Prod.fst) ks ms) p&&L7 (bl.map Prod.fst) &&
       Vg (rfS S (bl.map Prod.fst) ks ms).flat.mem then
      (it.fn x).bind fun es=>match (rfS S (bl.map Prod.fst) ks ms).dec Γ with
       | some s0=>(Qmk (rdR Y K n N Γ (u:=it.u) (rfS S (bl.map Prod.fst) ks ms) p aA aB A B) es s0).bind fun s=>k .n (XS.out { S with mem:=Qml (bl.map Prod.fst) S.mem } ks ms (enc Γ s))
       | none=>none else none
    | none=>none
   | none=>none
  | _,_=>none
 | _,_,_,_=>none
end
theorem Q6f{α:Type}{R:α→α→Prop}(hs:∀a b,R a b→R b a):∀{l:List α},l.Pairwise R→∀x∈l,∀y∈l,x=y∨R x y
 | [],_,x,hx,_,_=>by cases hx
 | z::l,h,x,hx,y,hy=>by
  have h':=QG.1 h
  rcases QX.1 hx with h1 | h1
  ·rcases QX.1 hy with h2 | h2
   ·exact .inl (h1.trans h2.symm)
   ·exact .inr (h1▸h'.1 y h2)
  ·rcases QX.1 hy with h2 | h2
   ·exact .inr (hs _ _ (h2▸h'.1 x h1))
   ·exact Q6f hs h'.2 x h1 y h2
theorem R7:∀{l:List (Nat×Ob)} {t:Nat} {o:Ob},Qe l t=some o→(t,o)∈l
 | q::l,t,o,h=>by
  simp only[Qe]at h
  cases hb:Nat.beq q.1 t with
  | true =>
   rw[hb]at h
   simp at h
   have:=QJ hb
   subst h; subst this
   exact .head _
  | false =>
   rw[hb]at h
   exact .tail _ (R7 h)
section
variable {P:Program} {Y:TX} {X:Cx} {n N:Nat} {K:List Con} {β β':Nat→Nat} {ρ ρ':Nat→Value} {a a':Act} {w w':World} {S:XS}
theorem Rel.filterM{env:List En}{M F:List (Nat×Ob)}{ids:List Nat}(h:Rel X β ρ ⟨env,M++F⟩ a w):Rel X β ρ ⟨env,Qml ids M++F⟩ a w:=by
 have uf:(Qg β ρ (Qml ids M++F)).Sublist (Qg β ρ (M++F)):=List.Sublist.map _ (List.Sublist.append_right List.filter_sublist _)
 exact Sb.remake h (fun t' zb=>.inl ⟨t',uf.subset zb,fun _ hg=>hg,fun _ _ hc=>hc,(h.own t' (uf.subset zb)).1⟩) (h.dOO.sublist uf)
theorem Qu3{ok:Ok}{M:List (Nat×Ob)}:∀{caps:AV} {vs:List Value} {bl:List (Nat×DV)},cr β ρ ok w true caps vs→Qxy M caps=some bl→vs=(bl.map fun q=>β q.1).map Qxx
 | .nil,vs,bl,h,hb=>by
  simp only[Qxy,Option.some.injEq]at hb
  subst hb
  exact h
 | .cons x r,vs,bl,h,hb=>by
  obtain⟨c1,us,rfl,h1,h2⟩:=h
  unfold Qxy at hb
  split at hb
  ·rename_i e; cases e
  ·rename_i id r' e
   injection e with e1 e2
   subst e1; subst e2
   split at hb
   ·rename_i tid t x l q1 q2
    simp only[Option.some.injEq]at hb
    subst hb
    have k5:c1=_:=h1
    subst k5
    rw[Qu3 h2 q2]
    rfl
   ·cases hb
  ·cases hb
 | .d _ _,_,_,_,hb=>by cases hb
 | .p _ _,_,_,_,hb=>by cases hb
 | .e _ _,_,_,_,hb=>by cases hb
 | .s _,_,_,_,hb=>by cases hb
 | .m _,_,_,_,hb=>by cases hb
 | .b _,_,_,_,hb=>by cases hb
 | .w _ _ _,_,_,_,hb=>by cases hb
 | .a _ _,_,_,_,hb=>by cases hb
 | .z,_,_,_,hb=>by cases hb
 | .ns,_,_,_,hb=>by cases hb
 | .np,_,_,_,hb=>by cases hb
 | .nm,_,_,_,hb=>by cases hb
 | .nf,_,_,_,hb=>by cases hb
 | .f _ _,_,_,_,hb=>by cases hb
 | .ag _,_,_,_,hb=>by cases hb
 | .tp _,_,_,_,hb=>by cases hb
theorem Qu4{M:List (Nat×Ob)}:∀{caps:AV} {bl:List (Nat×DV)},Qxy M caps=some bl→∀q∈bl,∃tid,Qe M q.1=some (.var tid (.d q.2.1 q.2.2))
 | .nil,bl,hb=>by
  simp only[Qxy,Option.some.injEq]at hb
  subst hb; simp
 | .cons x r,bl,hb=>by
  unfold Qxy at hb
  split at hb
  ·rename_i e; cases e
  ·rename_i id r' e
   injection e with e1 e2
   subst e1; subst e2
   split at hb
   ·rename_i tid t x l q1 q2
    simp only[Option.some.injEq]at hb
    subst hb
    intro q hq
    rcases QX.1 hq with rfl | hq
    ·exact⟨tid,q1⟩
    ·exact Qu4 q2 q hq
   ·cases hb
  ·cases hb
 | .d _ _,_,hb=>by cases hb
 | .p _ _,_,hb=>by cases hb
 | .e _ _,_,hb=>by cases hb
 | .s _,_,hb=>by cases hb
 | .m _,_,hb=>by cases hb
 | .b _,_,hb=>by cases hb
 | .w _ _ _,_,hb=>by cases hb
 | .a _ _,_,hb=>by cases hb
 | .z,_,hb=>by cases hb
 | .ns,_,hb=>by cases hb
 | .np,_,hb=>by cases hb
 | .nm,_,hb=>by cases hb
 | .nf,_,hb=>by cases hb
 | .f _ _,_,hb=>by cases hb
 | .ag _,_,hb=>by cases hb
 | .tp _,_,hb=>by cases hb
theorem Q8y{ok:Ok}:∀{bl:List (Nat×DV)},(∀q∈bl,∃tid cs,w.heap[β q.1]?=some (.cells cs.toArray tid (0,0))∧(rt q.2.1).rep ok w q.2.2 cs)→Jb7 ok w (bl.map Prod.snd) (bl.map fun q=>β q.1)
 | [],_=>trivial
 | q::bl,h=>⟨h q (.head _),Q8y fun x hx=>h x (.tail _ hx)⟩
theorem Jq3(hT:Q4 P Y.T)(ze:P.follows .mixedOrders=true)(hK:KsX P Y X K)(hX:X.n=n)(hr:X.res=[])(kz:X.pin=none)(lr:X.dfs=[]){it:It}(e9:Jb8 P Y.gl it)(ka:Runs P it.f)
  {g p m:Nat} {A B:Code} {ks ms:List Nat} {Γ:Shp} {aA aB:An} {caps:AV} {bl:List (Nat×DV)} {x:Tup it.cs} {es:List it.u.De} {s0 sE:Γ.De} {Q:Exit→Act→World→Prop}
  (h:Rel X β ρ S.flat a w) (hg:S.ev [] (.tmp g)=some (.f it.f caps)) (xy:Qxy S.mem caps=some bl) (hx:ofL it.cs (bl.map Prod.snd)=some x) (hbA:rb aA A=true) (hbB:rb aB B=true)
  (yc:∀d∈p::(Zm A++Zm B),Nw d (rfS S (bl.map Prod.fst) ks ms).fix=true) (hΓ:Γ.env=[]) (hp:okW n (rfS S (bl.map Prod.fst) ks ms) p=true) (hV:Vg (rfS S (bl.map Prod.fst) ks ms).flat.mem=true) (fp:L7 (bl.map Prod.fst)=true)
  (xe:it.fn x=some es) (z6:(rfS S (bl.map Prod.fst) ks ms).dec Γ=some s0) (xx:Qmk (rdR Y K n N Γ (u:=it.u) (rfS S (bl.map Prod.fst) ks ms) p aA aB A B) es s0=some sE)
  (H:∀(β':Nat→Nat) (ρ':Nat→Value) (w':World) (D:Nat),agP S.prot β β' ρ ρ'→Rel { X with dfs:=[⟨.collected D,#[]⟩] } β' ρ' (XS.out { S with mem:=Qml (bl.map Prod.fst) S.mem } ks ms (enc Γ sE)).flat { a with defers:=[⟨.collected D,#[]⟩] } w' →
   w'.heap[D]?=some (.deferred (some []))→X.w.heap.size≤D→Q .normal { a with defers:=[⟨.collected D,#[]⟩] } w') :
  (Code.rangeFunc (.tmp g) ⟨[p]⟩ A B).wpIn Fence.wide m P Q a w:=by
 obtain⟨S1,hS1⟩:∃S1,S1=rfS S (bl.map Prod.fst) ks ms:=⟨_,rfl⟩
 rw[←hS1]at yc hp hV z6 xx
 have fw:Rel X β ρ (XS.flat { S with mem:=Qml (bl.map Prod.fst) S.mem }) a w:=Rel.filterM (M:=S.mem) (F:=S.fixM) h
 have h1:Rel X β ρ S1.flat a w:=by rw[hS1]; exact fw.ent ks ms
 have sj:S1.flat.mem.Perm (Qml (bl.map Prod.fst) S.mem++S.fixM):=by
  rw[hS1]
  simp only[XS.flat,rfS,XS.ent]
  rw[←QH]
  exact(XA.trans (Zz ms _)).append_right _
 have hprot:S1.prot=S.prot:=by rw[hS1]; rfl
 have nd:∀q∈S1.flat.mem,q∈S.flat.mem∧(q∈Qml (bl.map Prod.fst) S.mem∨q∈S.fixM):=fun q hq=>by
  rcases QW.1 (sj.subset hq)with hq | hq
  ·exact⟨QZ _ (JJ.1 hq).1,.inl hq⟩
  ·exact⟨QV _ hq,.inr hq⟩
 obtain⟨cs,yx,us,qw,hcaps⟩:=h.ev (Qc a) hg
 have hev':a.eval (.tmp g)=.func (.func it.f) #[] us.toArray:=by rw[yx,qw]; rfl
 have husv:=Qu3 hcaps xy
 have vy:=Qu4 xy
 have hokW:∀b o,okR X β ρ S.flat.mem w b o→okR X β ρ S1.flat.mem w b o:=fun b o ⟨q1,q2,q3,q4⟩=>⟨q1,q2,q3,fun t ht=>by
  obtain⟨q,hq,rfl⟩:=QY.1 ht
  exact q4 _ (QY.2 ⟨q,(nd q hq).1,rfl⟩)⟩
 have ng:Jb7 (okR X β ρ S.flat.mem w) w (bl.map Prod.snd) (bl.map fun q=>β q.1):=Q8y fun q hq=>by
  obtain⟨tid,hl⟩:=vy q hq
  obtain⟨⟨cs,c1,c2⟩,_⟩:=h.ob (Q0 hl:Qe S.flat.mem q.1=_)
  exact⟨tid,cs,c1,c2⟩
 have lg:∀b∈bl.map (fun q=>β q.1),b<w.heap.size∧b∉Xt w.heap.size (Qg β ρ S1.flat.mem):=fun b hb=>by
  obtain⟨q,hq,rfl⟩:=QY.1 hb
  obtain⟨tid,hl⟩:=vy q hq
  obtain⟨⟨cs,c1,c2⟩,_⟩:=h.ob (Q0 hl:Qe S.flat.mem q.1=_)
  refine⟨Yi c1,fun hbl2=>?_⟩
  obtain⟨_,t,ht,vu⟩:=Zr.1 hbl2
  obtain⟨z,hz,rfl⟩:=QY.1 ht
  obtain⟨hz1,mc⟩:=nd z hz
  have xc:S.flat.mem.Pairwise fun s t=>∀g,(Qx β ρ s.1 s.2).blks g→¬ (Qx β ρ t.1 t.2).blks g:=XO.1 h.dOO
  have hm:=R7 hl
  rcases Q6f (fun a b rh g hg zt=>rh g zt hg) xc z hz1 (q.1,.var tid (.d q.2.1 q.2.2)) (QZ _ hm)with e | e
  ·subst e
   rcases mc with mc | mc
   ·have:=(JJ.1 mc).2
    rw[show Yb (bl.map Prod.fst) q.1=true from Qeu (QY.2 ⟨q,hq,rfl⟩)]at this
    cases this
   ·
    have rp:=QM.1 xc
    exact rp.2.2 _ hm _ mc (β q.1) rfl rfl
  ·exact e (β q.1) vu rfl
 have hoklt:∀b o,okR X β ρ S.flat.mem w b o→b<w.heap.size:=fun b o kn=>kn.2.1
 have xn:=Qxg hx
 have hpw0:S.flat.mem.Pairwise fun s t=>∀g,(Qx β ρ s.1 s.2).blks g→¬ (Qx β ρ t.1 t.2).blks g:=XO.1 h.dOO
 have ye:(bl.map fun q=>β q.1).Nodup:=by
  have key:∀(l:List (Nat×DV)),(∀q∈l,q∈bl)→L7 (l.map Prod.fst)=true→(l.map fun q=>β q.1).Nodup:=by
   intro l
   induction l with
   | nil=>intro _ _; exact List.Pairwise.nil
   | cons q l ih =>
    intro hs hn
    simp only[JW,L7,QQ,XF]at hn
    refine QG.2 ⟨fun b hb e=>?_,ih (fun z hz=>hs z (.tail _ hz)) hn.2⟩
    obtain⟨z,hz,hzb⟩:=QY.1 hb
    obtain⟨t1,l1⟩:=vy q (hs q (.head _))
    obtain⟨t2,l2⟩:=vy z (hs z (.tail _ hz))
    rcases Q6f (fun a b rh g hg zt=>rh g zt hg) hpw0 _ (QZ _ (R7 l1)) _ (QZ _ (R7 l2))with e2 | e2
    ·have e3:q.1=z.1:=by injection e2
     have:Yb (l.map Prod.fst) q.1=true:=Qeu (QY.2 ⟨z,hz,e3.symm⟩)
     rw[hn.1]at this; cases this
    ·exact e2 (β q.1) rfl (e.trans hzb.symm)
  exact key bl (fun _ hq=>hq) fp
 have hbno:∀b∈bl.map (fun q=>β q.1),∀o,¬ okR X β ρ S.flat.mem w b o:=fun b hb o kn=>by
  obtain⟨q,hq,rfl⟩:=QY.1 hb
  obtain⟨tid,hl⟩:=vy q hq
  exact kn.2.2.2 _ (QY.2 ⟨_,QZ _ (R7 hl),rfl⟩) rfl
 have hbok:∀b∈bl.map (fun q=>β q.1),∀o,okR X β ρ S1.flat.mem w b o:=fun b hb o=>by
  have yo:=hb
  obtain⟨q,hq,rfl⟩:=QY.1 hb
  obtain⟨tid,hl⟩:=vy q hq
  obtain⟨_,zd⟩:=h.ob (Q0 hl:Qe S.flat.mem q.1=_)
  exact⟨X.mine_ok (zd _ rfl) o,(lg _ yo).1,by simp,fun t ht hc=>(lg _ yo).2 (Zr.2 ⟨(lg _ yo).1,t,ht,t.cb hc⟩)⟩
 have hGw:Vs Y.gl (okR X β ρ S.flat.mem w) w:=Lt h hK.2
 have xd:=e9 _ w _ x es hoklt hGw xe (by rw[xn]; exact ng) ye hbno
 obtain⟨hR',hG'⟩:=Qxt hK.2 h1 hV
 obtain⟨X',hX'⟩:∃X',X'=reX X β ρ S1.flat.mem w:=⟨_,rfl⟩
 rw[←hX']at hR' hG'
 have hXn:X'.n=n:=by rw[hX']; exact hX
 have hXr:X'.res=[]:=by rw[hX']; rfl
 have hXp:X'.pin=none:=by rw[hX']; rfl
 have hXd:X'.dfs=[]:=by rw[hX']; exact lr
 have hXw:X'.w=w:=by rw[hX']; rfl
 have hXl:X'.lent=Xt w.heap.size (Qg β ρ S1.flat.mem):=by rw[hX']; rfl
 have hK':KsX P Y X' K:=⟨hK.1,hG'⟩
 obtain⟨β0,ρ0,pz,hR0⟩:=If (S0:=S1) hR' ⟨rfl,rfl,rfl⟩ z6
 obtain⟨f,hf⟩:∃f,f=rdR Y K n N Γ (u:=it.u) S1 p aA aB A B:=⟨_,rfl⟩
 rw[←hf]at xx
 have ed:a.defers=[]:=h.df.trans lr
 refine wpIn_rangeFunc fun fn hfn=>?_
 obtain⟨rec,tc⟩:∃rec:LoopState→Option Code→Loop,rec=fun st pe=>{ state:=st,pending:=pe,fn,tmps:=a.tmps,params:=⟨[p]⟩,assign:=A,body:=B,defers:=w.heap.size }:=⟨_,rfl⟩
 obtain⟨W1,hW1⟩:∃W1,(w.alloc (.deferred (some []))).alloc (.loop (rec .ready none))=W1:=⟨_,rfl⟩
 have hL1:W1.heap[w.heap.size+1]?=some (.loop (rec .ready none)):=by
  rw[←hW1]; have:=World.alloc_heap_new (w.alloc (.deferred (some []))) (.loop (rec .ready none)); rwa[World.size_alloc]at this
 have hD1:W1.heap[w.heap.size]?=some (.deferred (some [])):=by
  rw[←hW1]; exact(Below.heap_alloc _ _ _ (by simp)).trans (World.alloc_heap_new w _)
 have fi:Below w.heap.size w W1:=by
  rw[←hW1]; exact(((Below.refl _ w).alloc (QD _) _).alloc (by simp) _)
 obtain⟨J,hJ⟩:∃J:Nat→(Nat→Prop)→World→Prop,J=fun k O W=>∃s β' ρ',Qmk f (es.drop k) s=some sE∧agP S1.prot β β' ρ ρ'∧Rel X' β' ρ' (S1.re (enc Γ s)).flat a W ∧
  W.heap[w.heap.size+1]?=some (.loop (rec .ready none))∧W.heap[w.heap.size]?=some (.deferred (some []))∧O=fun b=>∃t∈Qg β' ρ' (S1.re (enc Γ s)).flat.mem,t.blks b:=⟨_,rfl⟩
 refine⟨w.heap.size+1,[{ target:=.collected w.heap.size,args:=#[] }],W1,{ target:=.fn (.func it.f) us.toArray,args:=#[.func (.yield (w.heap.size+1)) #[] #[]] },W1,it.f,
  #[.func (.yield (w.heap.size+1)) #[] #[]]++us.toArray,W1,?_,?_,fun _ _=>trivial,?_,(fun h=>by cases h),?_⟩
 ·rw[←hW1,tc]; exact run_enterLoop_outer _ _ _ _ _
 ·simp only[resolve,hev']
  simp[go_sem]
 ·simp[invoke,go_sem,Qh1 ka]
 have kb:∀k O A,J k O A→∀b,O b→b<A.heap.size∧(∀o,¬ okR X β ρ S.flat.mem w b o)∧b∉bl.map (fun q=>β q.1):=fun k O A hJk b hOb=>by
  rw[hJ]at hJk
  obtain⟨s,β',ρ',_,_,hRk,_,_,rfl⟩:=hJk
  obtain⟨t,ht,vu⟩:=hOb
  have hm:=(hRk.own t ht).2 b vu
  refine⟨hRk.olt ht vu,fun o kn=>?_,fun hb=>?_⟩
  ·rcases hm with q | q
   ·rw[hXw]at q; have:=kn.2.1; omega
   ·rw[hXl]at q
    obtain⟨_,t2,bd,nh⟩:=Zr.1 q
    obtain⟨z,hz,rfl⟩:=QY.1 bd
    have y7:=Jpn hV _ bd b o nh
    exact kn.2.2.2 _ (QY.2 ⟨z,(nd z hz).1,rfl⟩) y7
  ·rcases hm with q | q
   ·rw[hXw]at q; have:=(lg b hb).1; omega
   ·rw[hXl]at q; exact(lg b hb).2 q
 have ef:=xd (w.heap.size+1) J W1 (fun b=>∃t∈Qg β0 ρ0 (S1.re (enc Γ s0)).flat.mem,t.blks b) fi (fun k O A' B' hA hAB=>by
  rw[hJ]at hA ⊢
  obtain⟨s,β',ρ',j1,j2,j3,j4,j5,j6⟩:=hA
  exact⟨s,β',ρ',j1,j2,Sb.below j3 hAB,(hAB.block _ (Yi j4)).trans j4,(hAB.block _ (Yi j5)).trans j5,j6⟩) kb ?round (by
  rw[hJ]
  exact⟨s0,β0,ρ0,xx,pz,Sb.below hR0 fi,hL1,hD1,rfl⟩) (m - 1)
 case round =>
  intro k O W e v hJk he hv m1
  rw[hJ]at hJk
  obtain⟨s,β',ρ',j1,j2,j3,j4,j5,hO⟩:=hJk
  have ez:k<es.length:=(QK.1 he).1
  rw[XY ez]at j1
  have fh:es[k]=e:=by rw[QU ez]at he; exact Option.some.inj he
  rw[fh]at j1
  obtain⟨s',ui,j1'⟩:=Yk j1
  have hs'0:=ui
  rw[hf]at ui
  unfold rdR at ui
  obtain⟨hV1,ui⟩:=bvT ui
  have hy:=run_yield (P:=P) (args:=#[v]) j4 (by rw[tc]; rfl)
  rw[tc]at hy
  refine⟨fn,_,A,B,hy,roundIn_of_wpIn hfn ?_⟩
  have hact:({ tmps:=((⟨[p]⟩:Array Tmp).zip #[v]).foldl (fun tmps (t,a)=>tmps.setIfInBounds t a) a.tmps,defers:=[] }:Act)=a.put (some p) v:=by
   simp[Act.put,←ed]
  rw[hact]
  obtain⟨hpd,iw⟩:=Yy (S:=S1.re (enc Γ s)) hp hXn hXr
  have ym:isV (rt it.u) (okR X' β' ρ' (S1.re (enc Γ s)).flat.mem W) W e v:=by
   refine hv.weak fun b o kn=>?_
   refine⟨?_,kn.2.1,by simp,fun t ht hc=>kn.2.2 (by rw[hO]; exact⟨t,ht,t.cb hc⟩)⟩
   rcases kn.1 with q | q | q
   ·exact .inl (by rw[hX']; exact .inl (hokW b o q))
   ·exact .inr (by rw[hXw]; exact q)
   ·exact .inl (by rw[hX']; exact .inl (hbok b q o))
  obtain⟨c,mf,mg⟩:=Rn ym
  have rm:Rel X' β' ρ' ((S1.re (enc Γ s)).put p [] (.d it.u e)).flat (a.put (some p) v) W:=by
   rw[Xs iw,mg]
   exact j3.put0 hpd mf
  have hVp:Vg ((S1.re (enc Γ s)).put p [] (.d it.u e)).flat.mem=true:=hV1
  obtain⟨hR2,hG2⟩:=Qxt hG' rm hVp
  have hl4:W.heap.size>w.heap.size+1:=Yi j4
  have lu:∀{X0:Cx} {β1:Nat→Nat} {ρ1:Nat→Value} {S2:St} {a2:Act} {W2:World},Rel X0 β1 ρ1 S2 a2 W2→(∀r,W2.heap[w.heap.size+1]?=some (.loop r)→w.heap.size+1∉Xt W2.heap.size (Qg β1 ρ1 S2.mem))∧(∀r,W2.heap[w.heap.size]?=some (.deferred r)→w.heap.size∉Xt W2.heap.size (Qg β1 ρ1 S2.mem)):=by
   intro X0 β1 ρ1 S2 a2 W2 hR
   refine⟨fun r hl hm=>?_,fun r hl hm=>?_⟩
   ·obtain⟨_,t,ht,vu⟩:=Zr.1 hm
    exact hR.notOwn hl rfl (fun _ _=>by simp) t ht vu
   ·obtain⟨_,t,ht,vu⟩:=Zr.1 hm
    exact hR.notOwn hl rfl (fun _ _=>by simp) t ht vu
  have eh:Ig (p::(Zm A++Zm B)) a (a.put (some p) v):=Ig.put (fun t _=>rfl) (fun d hd=>by injection hd with hd; subst hd; exact .head _) v
  refine Oa (X:=reX X' β' ρ' ((S1.re (enc Γ s)).put p [] (.d it.u e)).flat.mem W) (ds:=p::(Zm A++Zm B)) (a0:=a) hT ze ⟨hK.1,hG2⟩ hXn rfl rfl aA hbA (by rintro⟨_,_,hh⟩; exact hh) (fun d hd=>.tail _ (QZ _ hd)) eh hR2 ui fun ex β2 ρ2 S2 a2 W2 q1 q2 q3 q4=>?_
  cases ex with
  | x i=>cases q1
  | r=>cases q1
  | n =>
   simp only at q1
   obtain⟨hV2,q1⟩:=bvT q1
   have fg:W2.heap[w.heap.size+1]?=some (.loop (rec .ready none)):=(q3.bel.block _ hl4 ((lu rm).1 _ j4)).trans j4
   have mw:W2.heap[w.heap.size]?=some (.deferred (some [])):=(q3.bel.block _ (by show w.heap.size<W.heap.size; omega) ((lu rm).2 _ j5)).trans j5
   have q3':=Qxu rm hVp hXr hXp q3
   refine⟨_,run_beginRound fg (by rw[tc]),?_⟩
   have q5:Rel X' β2 ρ2 S2.flat a2 (W2.putObj (w.heap.size+1) (.loop { rec .ready none with state:=.busy })):=q3'.turn (by rw[hXw]; omega) fg rfl (fun _ _=>by simp) rfl
   have hl3:(W2.putObj (w.heap.size+1) (.loop { rec .ready none with state:=.busy })).heap[w.heap.size+1]?=some (.loop { rec .ready none with state:=.busy }):=World.putObj_heap_same (Yi fg)
   have hd3:(W2.putObj (w.heap.size+1) (.loop { rec .ready none with state:=.busy })).heap[w.heap.size]?=some (.deferred (some [])):=(World.putObj_heap_other (by omega)).trans mw
   obtain⟨W3,hW3⟩:∃W3,W3=W2.putObj (w.heap.size+1) (.loop { rec .ready none with state:=.busy }):=⟨_,rfl⟩
   rw[←hW3]at q5 hl3 hd3 ⊢
   obtain⟨hR3,hG3⟩:=Qxt hG' q5 hV2
   refine Oa (X:=reX X' β2 ρ2 S2.flat.mem W3) (ds:=p::(Zm A++Zm B)) (a0:=a) hT ze ⟨hK.1,hG3⟩ hXn rfl rfl aB hbB (by rintro⟨_,_,hh⟩; exact hh) (fun d hd=>.tail _ (QV _ hd)) q4 hR3 q1 fun ex β3 ρ3 S3 a3 W4 r1 r2 r3 r4=>?_
   cases ex with
   | x i=>cases r1
   | r=>cases r1
   | n =>
    simp only at r1
    have lx:W4.heap[w.heap.size+1]?=some (.loop { rec .ready none with state:=.busy }):=(r3.bel.block _ (Yi hl3) ((lu q5).1 _ hl3)).trans hl3
    have hd4:W4.heap[w.heap.size]?=some (.deferred (some [])):=(r3.bel.block _ (Yi hd3) ((lu q5).2 _ hd3)).trans hd3
    have ba:S3.fix=S1.fix∧S3.fixM=S1.fixM∧S3.prot=S1.prot:=⟨r2.fix.trans q2.fix,r2.fixM.trans q2.fixM,r2.prot.trans q2.prot⟩
    obtain⟨β4,ρ4,lq,hR40⟩:=If (S0:=S1) r3 ba r1
    have hR4:=Qxu q5 hV2 hXr hXp hR40
    have hR5:Rel X' β4 ρ4 (S1.re (enc Γ s')).flat a W4:=by
     have henv:(S1.re (enc Γ s')).flat.env=S1.fix:=by
      have:(enc Γ s').env=[]:=by
       have h0:=Me (l:=Γ.env) (vs:=toL Γ.tys s')
       rw[hΓ]at h0
       unfold enc
       rw[hΓ]
       rfl
      simp only[XS.flat,XS.re,this,QC]
     have ko:a.tmps.size=a3.tmps.size:=j3.sz.trans hR4.sz.symm
     refine Rel.act (S:=(S1.re (enc Γ s')).flat) (env':=(S1.re (enc Γ s')).flat.env) hR4 ko (by rw[ed,hR4.df,hXd]) (by rw[hXr]; simp) fun e0 qg=>?_
     have hen:=hR4.en qg
     rw[henv]at qg
     have td:∀t,t∉p::(Zm A++Zm B)→a.tmps[t]?=a3.tmps[t]?:=fun t ht=>(r4 t ht).symm
     have ni:e0.t∉p::(Zm A++Zm B)∧∀c∈e0.cs,c.1∉p::(Zm A++Zm B):=⟨fun hm=>(Qct (yc _ hm) e0 qg).1 rfl,fun c hc hm=>(Qct (yc _ hm) e0 qg).2 c hc rfl⟩
     have yg:Ju a e0.cs↔Ju a3 e0.cs:=⟨fun hc c hm=>by rw[←td _ (ni.2 c hm)]; exact hc c hm,fun hc c hm=>by rw[td _ (ni.2 c hm)]; exact hc c hm⟩
     have l9:rd a e0.t=rd a3 e0.t:=by unfold rd; rw[td _ ni.1]
     refine⟨fun hc=>?_,?_⟩
     ·obtain⟨cs,z1,z2⟩:=hen.1 (yg.1 hc)
      exact⟨cs,by rw[l9]; exact z1,z2⟩
     ·rw[yg,l9]; exact hen.2
    refine⟨_,_,run_endRound none lx,rfl,?_⟩
    have hre:({ ({ rec .ready none with state:=.busy }:Loop)with state:=if(none:Option Code).isNone then .ready else .done,pending:=none }:Loop)=rec .ready none:=by rw[tc]; rfl
    rw[hre]
    have ag2:agP S1.prot β' β2 ρ' ρ2:=q2.ag
    have ag3:agP S1.prot β2 β3 ρ2 ρ3:=by have:=r2.ag; rw[show S2.prot=S1.prot from q2.prot]at this; exact this
    have own2:∀b,b∈Xt W3.heap.size (Qg β2 ρ2 S2.flat.mem)→O b∨W.heap.size≤b:=fun b hb=>by
     obtain⟨_,t,ht,vu⟩:=Zr.1 hb
     rcases(q3.own t ht).2 b vu with z | z
     ·exact .inr z
     ·obtain⟨_,t2,bd,nh⟩:=Zr.1 z
      exact .inl (by rw[hO]; exact⟨t2,bd,nh⟩)
    have hsz2:W.heap.size≤W2.heap.size:=q3.bel.size
    have hsz3:W.heap.size≤W3.heap.size:=by rw[hW3,World.putObj_size]; exact hsz2
    have keep:∀b,b<W.heap.size→¬ O b→b≠w.heap.size+1→W4.heap[b]?=W.heap[b]?:=fun b hb hOb xy=>by
     have e1:W4.heap[b]?=W3.heap[b]?:=r3.bel.block b (show b<W3.heap.size by omega) fun hm=>by
      rcases own2 b hm with z | z
      ·exact hOb z
      ·omega
     have e2:W3.heap[b]?=W2.heap[b]?:=by rw[hW3]; exact World.putObj_heap_other xy
     have e3:W2.heap[b]?=W.heap[b]?:=q3.bel.block b hb fun hm=>by
      obtain⟨_,t2,bd,nh⟩:=Zr.1 hm
      exact hOb (by rw[hO]; exact⟨t2,bd,nh⟩)
     rw[e1,e2,e3]
    refine⟨fun b=>∃t∈Qg β4 ρ4 (S1.re (enc Γ s')).flat.mem,t.blks b,by
     rw[hJ]
     exact⟨s',β4,ρ4,j1',((j2.trans ag2).trans ag3).trans lq,hR5.turn (by rw[hXw]; omega) lx rfl (fun _ _=>by simp) rfl,World.putObj_heap_same (Yi lx),(World.putObj_heap_other (by omega)).trans hd4,rfl⟩,fun b hb=>?_,?_,fun b hb hOb=>?_⟩
    ·obtain⟨t,ht,vu⟩:=hb
     rcases(hR40.own t ht).2 b vu with z | z
     ·exact .inr (QN hsz3 z)
     ·exact own2 b z
    ·have:=r3.bel.size
     simp only[World.putObj_size]
     exact QN hsz3 this
    ·by_cases xy:b=w.heap.size+1
     ·subst xy
      rw[World.putObj_heap_same (Yi lx),j4]
     ·rw[World.putObj_heap_other xy]
      exact keep b hb hOb xy
 rw[husv]
 refine ef.mono ?_
 rintro e W2 ⟨⟨v,rfl⟩,O,hJe⟩
 rw[hJ]at hJe
 obtain⟨s,β',ρ',j1,j2,j3,j4,j5,_⟩:=hJe
 rw[ZS]at j1
 have hsE:s=sE:=Option.some.inj j1
 subst hsE
 refine⟨none,_,by have:=run_endLoop (P:=P) j4 (by rw[tc]; simp); rw[tc]at this; exact this,?_⟩
 have j6:=j3.turn (o':=.loop { rec .ready none with state:=.exhausted }) (by rw[hXw]; omega) j4 rfl (fun _ _=>by simp) rfl
 rw[hX']at j6
 have j7:=Qxu h1 hV hr kz j6
 have j8:=j7.withD [⟨.collected w.heap.size,#[]⟩]
 have e1:([{ target:=.collected w.heap.size,args:=#[] }]++a.defers:List Deferred)=[⟨.collected w.heap.size,#[]⟩]:=by rw[ed]; rfl
 rw[e1]
 rw[tc]at j8
 refine H β' ρ' _ w.heap.size (by rw[←hprot]; exact j2) ?_ ((World.putObj_heap_other (by omega)).trans j5) h.bel.size
 rw[Qcw]
 rw[hS1]at j8
 exact j8
end
end Gx
