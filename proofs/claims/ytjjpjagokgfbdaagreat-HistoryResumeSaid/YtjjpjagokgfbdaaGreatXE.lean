/- The quiet operations are what the model does. -/
import Derived.Test.YtjjpjagokgfbdaaGreatXMa
namespace Gx
open Go Go.RowKit Gd
set_option linter.unusedVariables false
set_option linter.unusedSimpArgs false
theorem N5:∀(p q:List PS),J8 (p++q)=J8 p+J8 q
 | [],q=>by simp[J8]
 | x::p,q=>by simp[J8,N5 p q]; omega
def Cb(β:Nat→Nat)(ρ:Nat→Value)(ok:Ok)(S:St)(a:Act)(w:World):Prop :=
 (∀e∈S.env,(enD β ρ a e).p ok w)∧∀id o,Qe S.mem id=some o→(Qx β ρ id o).p ok w
theorem Rel.toW{X:Cx}{β:Nat→Nat}{ρ:Nat→Value}{S:St}{a:Act}{w:World}(h:Rel X β ρ S a w):Cb β ρ (okR X β ρ S.mem w) S a w:=⟨fun _ he=>h.en he,fun _ _ ho=>(h.ob ho).1⟩
theorem Cb.ev{β:Nat→Nat}{ρ:Nat→Value}{ok:Ok}{S:St}{a:Act}{w:World}(h:Cb β ρ ok S a w){cur:Va}(hc:Ju a cur){x:Operand}{v:AV}(hx:ev S cur x=some v) :
  ∃cs,a.eval x=v.val cs∧cr β ρ ok w false v cs:=by
 cases x with
 | tmp t =>
  simp only[Gx.ev]at hx
  split at hx
  ·rename_i e he
   cases hb:Qwx e.cs cur with
   | false=>rw[hb]at hx; cases hx
   | true =>
    rw[hb]at hx
    simp at hx; subst hx
    have hr:=Q0c he a
    obtain⟨hm,rfl⟩:=U2 he
    obtain⟨cs,h1,h2⟩:=(h.1 _ hm).1 (Qen hb hc)
    rw[hr]at h1
    exact⟨cs,by simp[Act.eval,h1],h2⟩
  ·cases hx
 | const v =>
  obtain⟨cs,h1,h2⟩:=Qpv (β:=β) (ρ:=ρ) (ok:=ok) (w:=w) hx
  exact⟨cs,h1,h2⟩
 | func f =>
  simp[Gx.ev]at hx; subst hx
  exact⟨[.func (.func f) #[] #[]],rfl,[],rfl,rfl⟩
 | global g =>
  simp only[Gx.ev]at hx
  split at hx
  ·rename_i e he
   cases hb:Qwx e.cs cur with
   | false=>rw[hb]at hx; cases hx
   | true =>
    rw[hb]at hx
    simp at hx; subst hx
    obtain⟨hm,ht⟩:=Qj5 he
    obtain⟨cs,h1,h2⟩:=(h.1 _ hm).1 (Qen hb hc)
    rw[ht,Q5p]at h1
    exact⟨cs,Option.some.inj h1,h2⟩
  ·cases hx
section
variable {P:Program} {Y:TX} {X:Cx} {β:Nat→Nat} {ρ:Nat→Value} {S:St} {a:Act} {w:World} {cur:Va} {ok:Ok}
theorem Cb.evs(h:Cb β ρ ok S a w)(hc:Ju a cur):∀{xs:List Operand} {l:AV},evs S cur xs=some l→cr β ρ (ok) w true l (xs.map a.eval)
 | [],l,hl=>by simp[Gx.evs]at hl; subst hl; rfl
 | x::xs,l,hl=>by
  simp only[Gx.evs]at hl
  split at hl
  ·rename_i v r hv hr
   simp at hl; subst hl
   obtain⟨cs,h1,h2⟩:=h.ev hc hv
   exact⟨cs,xs.map a.eval,by rw[JW,h1],h2,h.evs hc hr⟩
  ·cases hl
theorem Cb.evParts(h:Cb β ρ ok S a w)(hc:Ju a cur):∀{xs:List (Nat×Operand)} {l:List (Nat×AV)},Y8 S cur xs=some l →
  Ja7 (fun(p:Nat×AV) (q:Nat×Value)=>p.1=q.1∧∃c,q.2=p.2.val c∧cr β ρ (ok) w false p.2 c) l (xs.map fun p=>(p.1,a.eval p.2))
 | [],l,hl=>by simp[Y8]at hl; subst hl; exact .nil
 | (i,x)::xs,l,hl=>by
  simp only[Y8]at hl
  split at hl
  ·rename_i v r hv hr
   simp at hl; subst hl
   obtain⟨cs,h1,h2⟩:=h.ev hc hv
   exact .cons ⟨rfl,cs,h1,h2⟩ (h.evParts hc hr)
  ·cases hl
theorem bvT{α:Type}{b:Bool}{x:Option α}{y:α}(h:(bif b then x else none)=some y):b=true∧x=some y:=by
 cases b with
 | true=>exact⟨rfl,h⟩
 | false=>cases h
theorem bEq{a b:Bool}(h:(a==b)=true):a=b:=by simpa using h
theorem Cb.mm(h:Cb β ρ ok S a w):∀id o,Qe S.mem id=some o→(Qx β ρ id o).p (ok) w:=h.2
theorem Cb.asD(h:Cb β ρ ok S a w)(hc:Ju a cur){x:Operand}{v:AV}{t:Ty}{y:t.De}(hx:Gx.ev S cur x=some v)(hd:Gx.asD S.mem v t=some y)(ht:t.agg=v.isAgg) :
  isV (rt t) (ok) w y (a.eval x):=by
 obtain⟨cs,h1,h2⟩:=h.ev hc hx
 refine⟨cs,Z6 h.mm hd h2,?_⟩
 rw[h1,AV.val,RT.val,B7,ht]
 cases v.isAgg<;>rfl
theorem Cb.asLs(h:Cb β ρ ok S a w)(hc:Ju a cur){u:Ty}:∀{ps:List (Nat×Operand)} {vs:List (Nat×AV)} {xs:List u.De} {j:Nat},Y8 S cur ps=some vs→Gx.asLs S.mem u vs j=some xs →
  ∃us:List Value,ps.map (fun p=>(p.1,a.eval p.2))=(List.range' j us.length).zip us∧Qs0 (rt u) ok w xs us∧us.length=xs.length
 | [],vs,xs,j,he,hx=>by
  simp[Y8]at he; subst he
  simp[Gx.asLs]at hx; subst hx
  exact⟨[],rfl,trivial,rfl⟩
 | (i,x)::ps,vs,xs,j,he,hx=>by
  simp only[Y8]at he
  split at he
  ·rename_i v l hv hl
   simp at he; subst he
   simp only[Gx.asLs]at hx
   obtain⟨hb,hx⟩:=bvT hx
   simp only[QQ]at hb
   have:=QJ hb.1
   subst this
   split at hx
   ·rename_i y ys hy zp
    simp at hx; subst hx
    obtain⟨us,q1,q2,q3⟩:=Cb.asLs h hc (u:=u) (ps:=ps) hl zp
    have nz:=h.asD hc hv hy (bEq hb.2)
    refine⟨a.eval x::us,?_,⟨nz,q2⟩,by simp[q3]⟩
    simp only[JW,JI,KB,ZI,q1]
   ·cases hx
  ·cases he
theorem Qkc{τ:Type}{r:RT τ}{ok:Ok}{w:World}:∀{xs:List τ} {us:List Value},Qs0 r ok w xs us→∀v∈us,(Qu v).length=r.size
 | [],[],_,v,hv=>by cases hv
 | x::xs,y::us,h,v,hv=>by
  rcases QX.1 hv with rfl | hv
  ·rw[r.len (B6 h.1)]
  ·exact Qkc h.2 v hv
 | [],_::_,h,_,_=>h.elim
 | _::_,[],h,_,_=>h.elim
theorem Qpz{τ:Type}{r:RT τ}{ok:Ok}{w:World}:∀{xs:List τ} {us:List Value},Qs0 r ok w xs us→Kc r ok w xs (us.flatMap Qu)
 | [],[],_=>rfl
 | x::xs,y::us,h=>⟨Qu y,us.flatMap Qu,by simp,B6 h.1,Qpz h.2⟩
 | [],_::_,h=>h.elim
 | _::_,[],h=>h.elim
theorem Q0n{s:Nat}:∀(vs:List Value) (j:Nat) (cs:List Value),(∀v∈vs,(Qu v).length=s)→(j+vs.length)*s≤cs.length →
  N0 (Qch s) cs ((List.range' j vs.length).zip vs)=some (cs.take (j*s)++vs.flatMap Qu++cs.drop ((j+vs.length)*s))
 | [],j,cs,_,_=>by simp[N0]
 | v::vs,j,cs,hv,hl=>by
  have h1:=hv v (.head _)
  simp only[JI]at hl ⊢
  have e0:(j+(vs.length+1))*s=j*s+s+vs.length*s:=by rw[QP,QP]; omega
  rw[e0]at hl
  simp only[KB,ZI,N0,Qch,h1]
  have hb:(Nat.beq s s&&Nat.ble (j*s+s) cs.length)=true:=by
   simp only[QQ]
   exact⟨JY _,XT (by omega)⟩
  simp only[hb,cond_true]
  have hlay:(Qzy cs (j*s) (Qu v)).length=cs.length:=by simp[Qzy,h1]; omega
  have e1:(j+1+vs.length)*s=j*s+s+vs.length*s:=by rw[QP,QP]; omega
  have e2:(j+1)*s=j*s+s:=by rw[QP]; omega
  have:=Q0n vs (j+1) (Qzy cs (j*s) (Qu v)) (fun u hu=>hv u (.tail _ hu)) (by rw[hlay,e1]; omega)
  rw[this,e1,e2,e0]
  simp only[Qzy,XE]
  have hA:(cs.take (j*s)++Qu v).length=j*s+s:=by simp[h1]; omega
  congr 1
  rw[ZC (by rw[hA]; omega),JP (by rw[hA]; omega)]
  rw[List.drop_append,hA,XN (by rw[hA]; omega),QC,h1,XL]
  simp only[QH]
  congr 4
  omega
theorem Ql8{a:Act}{cur:Va}(hc:Ju a cur){c:Operand}{b:Bool}(hb:a.eval c=.bool b):Ju a (Q79 cur c b):=by
 unfold Q79
 split
 ·rename_i t
  intro x hx
  rcases QX.1 hx with rfl | hx
  ·simp only[Act.eval]at hb
   simp only
   rw[JC]at hb
   cases hg:a.tmps[t]? with
   | none=>rw[hg]at hb; simp[undef]at hb
   | some v=>rw[hg]at hb; simp at hb; rw[hb]
  ·exact hc x hx
 ·exact hc
theorem Jfk{c:Bool}{x y:Option AV}{v:AV}{β:Nat→Nat}{ρ:Nat→Value}{ok:Ok}{w:World}{u1 u2:Value}
  (hx:c=true→∀v,x=some v→∃cs,u1=v.val cs∧cr β ρ ok w false v cs) (hy:c=false→∀v,y=some v→∃cs,u2=v.val cs∧cr β ρ ok w false v cs)
  (h:Jfi c x y=some v):∃cs,(if c=true then u1 else u2)=v.val cs∧cr β ρ ok w false v cs:=by
 unfold Jfi at h
 split at h
 ·simp at h; subst h
  cases c with
  | true=>obtain⟨cs,h1,h2⟩:=hx rfl _ rfl; exact⟨cs,h1,h2⟩
  | false=>obtain⟨cs,h1,h2⟩:=hy rfl _ rfl; exact⟨cs,by simpa using h1,h2⟩
 ·rename_i k p k' q
  cases hk:Rk k k' with
  | false=>rw[hk]at h; cases h
  | true =>
   rw[hk]at h
   have:=C4 hk
   subst this
   simp at h; subst h
   cases c with
   | true=>obtain⟨cs,h1,h2⟩:=hx rfl _ rfl; exact⟨cs,h1,h2⟩
   | false=>obtain⟨cs,h1,h2⟩:=hy rfl _ rfl; exact⟨cs,by simpa using h1,h2⟩
 ·cases c with
  | true=>obtain⟨cs,h1,h2⟩:=hx rfl _ (by simpa using h); exact⟨cs,by simpa using h1,h2⟩
  | false=>obtain⟨cs,h1,h2⟩:=hy rfl _ (by simpa using h); exact⟨cs,by simpa using h1,h2⟩
theorem Fz(hT:Q4 P Y.T){t:TypeId}{e:TE}(he:Qh Y.T t=some e){b o:Nat}{y:AV}{cs:List Value}(hs:e.size=cs.length)(ha:X9 e.d=y.isAgg)(h1:y.isAgg=false→cs.length=1)
  (hc:∀(j:Nat) u,cs[j]?=some u→w.cell? ⟨b,o+j,none⟩=some u):(Instr.loadAt t (.pointer (some ⟨b,o,none⟩))).run P w=.ok (y.val cs) w:=by
 have:=Qhz hT w he b o cs hs.symm (fun h=>h1 (by rw[←ha,h])) hc
 simp only[Instr.loadAt,Instr.sureAddr,Sem.run_bind,Sem.run_pure,Result.andThen_ok,this,AV.val,ha]
 cases y.isAgg<;>rfl
theorem Qid{ok:Ok}{w:World}:∀{t:Ty} {x:t.De} {vs cs:List Value},N4 t x=some vs→(rt t).rep ok w x cs→cs=vs
 | .int k,x,vs,cs,h,hc=>by simp[N4]at h; subst h; exact hc
 | .bool,x,vs,cs,h,hc=>by simp[N4]at h; subst h; exact hc
 | .str,x,vs,cs,h,hc=>by simp[N4]at h; subst h; exact hc
 | .unit,x,vs,cs,h,hc=>by simp[N4]at h; subst h; exact hc
 | .pr f r,x,vs,cs,h,hc=>by
  obtain⟨c1,c2,rfl,h1,h2⟩:=hc
  simp only[N4]at h
  split at h
  ·rename_i p q hp hq
   simp at h; subst h
   rw[Qid hp h1,Qid hq h2]
  ·cases h
 | .st fs,x,vs,cs,h,hc=>Qid (t:=fs) h hc
 | .sl e,x,vs,cs,h,hc=>by simp[N4]at h
 | .arr n e,x,vs,cs,h,hc=>by simp[N4]at h
 | .ref,x,vs,cs,h,hc=>by simp[N4]at h
 | .rose fs,x,vs,cs,h,hc=>by simp[N4]at h
theorem Rs:∀{x:AV} {vs cs:List Value},Zj x=some vs→cr β ρ ok w false x cs→cs=vs
 | .d t x,vs,cs,h,hc=>Qid h hc
 | .ag l,vs,cs,h,hc=>Rs (x:=l) h hc
 | .nil,vs,cs,h,hc=>by simp[Zj]at h; subst h; exact hc
 | .cons x r,vs,cs,h,hc=>by
  obtain⟨c1,c2,rfl,h1,h2⟩:=hc
  simp only[Zj]at h
  split at h
  ·rename_i p q hp hq
   simp at h; subst h
   rw[Rs hp h1,Rs hq h2]
  ·cases h
 | .p ..,vs,cs,h,hc=>by simp[Zj]at h
 | .e ..,vs,cs,h,hc=>by simp[Zj]at h
 | .s ..,vs,cs,h,hc=>by simp[Zj]at h
 | .m ..,vs,cs,h,hc=>by simp[Zj]at h
 | .b ..,vs,cs,h,hc=>by simp[Zj]at h
 | .w ..,vs,cs,h,hc=>by simp[Zj]at h
 | .a ..,vs,cs,h,hc=>by simp[Zj]at h
 | .z,vs,cs,h,hc=>by simp[Zj]at h
 | .ns,vs,cs,h,hc=>by simp[Zj]at h
 | .np,vs,cs,h,hc=>by simp[Zj]at h
 | .nm,vs,cs,h,hc=>by simp[Zj]at h
 | .nf,vs,cs,h,hc=>by simp[Zj]at h
 | .f ..,vs,cs,h,hc=>by simp[Zj]at h
 | .tp ..,vs,cs,h,hc=>by simp[Zj]at h
theorem Jfl{T:Tab}(hT:Q4 P T){op:BinOp}{t:TypeId}{x y:Operand}{yt:TypeId}{neg:Bool}{us vs:List Value}{fs:List Field}{t1:TypeId}{z1:Value}{s1 b1:Nat}
  (wc:Ja6 op=some neg) (ht:Qh T t=some ⟨t1,.struct ⟨fs⟩,z1,s1,b1⟩) (xy:O5 fs=true) {r:Bool} (hr:Qpn T fs us vs=some r) {a:Act}
  (hx:a.eval x=.agg us.toArray) (hy:a.eval y=.agg vs.toArray):(execOp a.eval ⟨none,.binOp op t x y yt,0, "",#[],none⟩).run P w=.ok (.value (.bool (bif neg then !r else r))) w:=by
 have hu:=(Jm hT ht).2
 obtain⟨zg,heg⟩:=Qzx hT ht
 have hf:P.fieldsOf t=⟨fs⟩:=by simp[Program.fieldsOf,hu]
 have heq:(Op.equal t (.agg ⟨us⟩) (.agg ⟨vs⟩)).run P w=.ok r w:=by
  have:=run_equalIn_struct (P:=P) w 9999 t ⟨us⟩ ⟨vs⟩ (by rw[hf,hu]) zg
  rw[hf]at this
  show(Op.equalIn 10000 t _ _).run P w=_
  rw[this]
  exact Qwv hT 9998 xy hr
 unfold Ja6 at wc
 split at wc
 ·simp at wc; subst wc
  unfold execOp
  simp[hx,hy,eqGuard,heg,binOp,heq]
 ·simp at wc; subst wc
  unfold execOp
  simp[hx,hy,eqGuard,heg,binOp,heq]
 ·cases wc
theorem Q8a{M:List (Nat×Ob)}(hM:∀id o,Qe M id=some o→(Qx β ρ id o).p ok w){id:Nat}{k v:Ty}{xs:List (k.De×v.De)}(h:Jkg (Qe M id)=some ⟨k,v,xs⟩) :
  ∃es clock,w.heap[β id]?=some (.map es clock)∧Xq (rt k) (rt v) ok w xs es.toList:=by
 unfold Jkg at h
 split at h
 ·rename_i k' v' xs' ho
  simp at h
  obtain⟨rfl,h⟩:=h
  have h:=eq_of_heq h
  injection h with h1 h2
  subst h1
  have h2:=eq_of_heq h2
  subst h2
  obtain⟨es,clock,q1,q2,_⟩:=hM _ _ ho
  exact⟨es,clock,q1,q2⟩
 ·cases h
theorem Jki{op:BinOp}{neg:Bool}(h:Ja6 op=some neg):op=bif neg then .neq else .eql:=by
 cases op<;>simp[Ja6]at h<;>subst h<;>rfl
theorem Jkj{t el:TypeId}{q:Option Addr}(hu:(underlying t).run P w=.ok (.pointer el) w):(Op.equal t (.pointer q) (.pointer none)).run P w=.ok q.isNone w:=by
 show(Op.equalIn (9999+1) t _ _).run P w=_
 rw[Op.equalIn]
 cases q<;>simp[Sem.run_bind,hu]
theorem Jkk{t k el:TypeId}{q:Option Nat}(hu:(underlying t).run P w=.ok (.map k el) w):(Op.equal t (.map q) (.map none)).run P w=.ok q.isNone w:=by
 show(Op.equalIn (9999+1) t _ _).run P w=_
 rw[Op.equalIn]
 cases q<;>simp[Sem.run_bind,hu]
theorem Q8b{t:TypeId}{p r:Array TypeId}{v:Bool}(hu:(underlying t).run P w=.ok (.func p r v) w){x:Value}{b:Bool}(hx:(x=.nilFunc∧b=true)∨(∃f c s,x=.func f c s)∧b=false):(Op.equal t x .nilFunc).run P w=.ok b w:=by
 show(Op.equalIn (9999+1) t _ _).run P w=_
 rw[Op.equalIn]
 rcases hx with⟨rfl,rfl⟩ | ⟨⟨f,c,s,rfl⟩,rfl⟩<;>simp[Sem.run_bind,hu]
theorem Jkl(hT:Q4 P Y.T){op:BinOp}{t yt:TypeId}{X1 Y1:Operand}{x y:AV}{b:Bool}{c1 c2:List Value}(h:Jo5 Y.T op t x y=some b)(hx:cr β ρ ok w false x c1)(hy:cr β ρ ok w false y c2)
  (h1:a.eval X1=x.val c1) (h2:a.eval Y1=y.val c2) :
  (execOp a.eval ⟨none,.binOp op t X1 Y1 yt,0, "",#[],none⟩).run P w=.ok (.value (.bool b)) w:=by
 unfold Jo5 at h
 split at h
 ·rename_i neg te wc ku
  have kg:=Jki wc
  have hu:=Jx hT w ku
  split at h
  ·rename_i el hd
   obtain⟨hb,h⟩:=bvT h
   have ae:y=.np:=by cases y<;>simp[Jqo]at hb; rfl
   subst ae
   have qv:c2=[.pointer none]:=hy
   subst qv
   have zj:a.eval Y1=.pointer none:=h2
   split at h
   ·rename_i bb ud
    injection h with h; subst h
    have key:∃q,a.eval X1=.pointer q∧bb=q.isNone:=by
     cases x<;>simp[Jql]at ud<;>subst ud
     ·have wz:c1=_:=hx
      subst wz; exact⟨_,h1,rfl⟩
     ·obtain⟨g,_,wz⟩:=hx
      subst wz; exact⟨_,h1,rfl⟩
     ·obtain⟨v,wz,hv⟩:=hx
      obtain⟨b0,o0,c0,rfl,_⟩:=hv
      subst wz; exact⟨_,h1,rfl⟩
     ·have wz:c1=_:=hx
      subst wz; exact⟨_,h1,rfl⟩
    obtain⟨q,hq,hbq⟩:=key
    subst hbq
    rw[hd]at hu
    have hr:=Jkj (P:=P) (w:=w) (q:=q) hu
    unfold execOp
    cases neg<;>subst kg<;>simp[hq,zj,eqGuard,binOp,hr]
   ·cases h
  ·rename_i kt et hd
   obtain⟨hb,h⟩:=bvT h
   have ae:y=.nm:=by cases y<;>simp[Jqp]at hb; rfl
   subst ae
   have qv:c2=[.map none]:=hy
   subst qv
   have zj:a.eval Y1=.map none:=h2
   split at h
   ·rename_i bb ud
    injection h with h; subst h
    have key:∃q,a.eval X1=.map q∧bb=q.isNone:=by
     cases x<;>simp[Jqm]at ud<;>subst ud
     ·have wz:c1=_:=hx
      subst wz; exact⟨_,h1,rfl⟩
     ·have wz:c1=_:=hx
      subst wz; exact⟨_,h1,rfl⟩
    obtain⟨q,hq,hbq⟩:=key
    subst hbq
    rw[hd]at hu
    have hr:=Jkk (P:=P) (w:=w) (q:=q) hu
    unfold execOp
    cases neg<;>subst kg<;>simp[hq,zj,eqGuard,binOp,hr]
   ·cases h
  ·rename_i p1 p2 p3 hd
   obtain⟨hb,h⟩:=bvT h
   have ae:y=.nf:=by cases y<;>simp[Jqq]at hb; rfl
   subst ae
   have qv:c2=[.nilFunc]:=hy
   subst qv
   have zj:a.eval Y1=.nilFunc:=h2
   split at h
   ·rename_i bb ud
    injection h with h; subst h
    rw[hd]at hu
    cases x<;>simp[Jqn]at ud<;>subst ud
    ·have wz:c1=_:=hx
     subst wz
     have k5:a.eval X1=.nilFunc:=h1
     have hr:=Q8b (P:=P) (w:=w) hu (.inl ⟨rfl,rfl⟩)
     unfold execOp
     cases neg<;>subst kg<;>simp[k5,zj,eqGuard,binOp,hr]
    ·rename_i f0 cp0
     obtain⟨vs,wz,_⟩:=hx
     subst wz
     have k5:a.eval X1=.func (.func f0) #[] vs.toArray:=h1
     have hr:=Q8b (P:=P) (w:=w) hu (x:=.func (.func f0) #[] vs.toArray) (b:=false) (.inr ⟨⟨_,_,_,rfl⟩,rfl⟩)
     unfold execOp
     cases neg<;>subst kg<;>simp[k5,zj,eqGuard,binOp,hr]
   ·cases h
  ·cases h
 ·cases h
theorem Qie(hT:Q4 P Y.T)(h:Cb β ρ ok S a w)(hc:Ju a cur){o:Oper}{x:AV}(hv:Qic Y S cur o.op=some x) :
  ∃cs,(execOp a.eval o).run P w=.ok (.value (x.val cs)) w∧cr β ρ (ok) w false x cs:=by
 have hM:∀id o,Qe S.mem id=some o→(Qx β ρ id o).p (ok) w:=h.2
 unfold execOp
 generalize o.op=op at hv
 unfold Qic at hv
 split at hv
 ·
  obtain⟨cs,h1,h2⟩:=h.ev hc hv
  exact⟨cs,by dsimp only; rw[h1]; rfl,h2⟩
 ·obtain⟨cs,h1,h2⟩:=h.ev hc hv
  exact⟨cs,by dsimp only; rw[h1]; rfl,h2⟩
 ·
  rename_i c p q
  split at hv
  ·rename_i v y7
   obtain⟨cs0,h1,h2⟩:=h.ev hc y7
   have zj:cs0=[.bool v]:=h2
   subst zj
   have hb:a.eval c=.bool v:=h1
   obtain⟨cs,h3,h4⟩:=Jfk (u1:=a.eval p) (u2:=a.eval q)
    (fun e u hu=>h.ev (Ql8 hc (hb.trans (by rw[e]))) hu) (fun e u hu=>h.ev (Ql8 hc (hb.trans (by rw[e]))) hu) hv
   refine⟨cs,?_,h4⟩
   simp only[hb]
   rw[←h3]
   cases v<;>simp[asBool]
  ·cases hv
 ·
  split at hv
  ·rename_i x1 x2 vj mh
   split at hv
   ·rename_i u v hu hw
    split at hv
    ·rename_i r hr
     obtain⟨c1,h1,h2⟩:=h.ev hc vj
     obtain⟨c2,h3,h4⟩:=h.ev hc mh
     rw[Q5r hu h2]at h1
     rw[Q5r hw h4]at h3
     obtain⟨cs,h5,h6⟩:=Q0k (β:=β) (ρ:=ρ) (ok:=ok) (w:=w) hv
     refine⟨cs,?_,h6⟩
     simp only[h1,h3]
     rw[←h5]
     simp[Qwr hr,Jav hT hr]
    ·cases hv
   ·split at hv
    ·rename_i b hb
     simp at hv; subst hv
     obtain⟨c1,h1,h2⟩:=h.ev hc vj
     obtain⟨c2,h3,h4⟩:=h.ev hc mh
     exact⟨[.bool b],Jkl (yt:=0) hT hb h2 h4 h1 h3,rfl⟩
    split at hv
    ·rename_i neg t1 fs z1 s1 b1 us vs wc ht qw sc
     cases hb:(O5 fs&&x1.isAgg&&x2.isAgg)with
     | false=>rw[hb]at hv; cases hv
     | true =>
     rw[hb]at hv
     simp only[cond_true]at hv
     simp only[QQ]at hb
     split at hv
     ·rename_i r hr
      simp at hv; subst hv
      obtain⟨c1,h1,h2⟩:=h.ev hc vj
      obtain⟨c2,h3,h4⟩:=h.ev hc mh
      have e1:=Rs qw h2
      have e2:=Rs sc h4
      subst e1; subst e2
      have f1:x1.val c1=.agg c1.toArray:=by simp[AV.val,hb.1.2]
      have f2:x2.val c2=.agg c2.toArray:=by simp[AV.val,hb.2]
      rw[f1]at h1; rw[f2]at h3
      exact⟨[.bool (bif neg then !r else r)],Jfl hT (yt:=0) wc ht hb.1.1 hr h1 h3,rfl⟩
     ·cases hv
    ·cases hv
  ·cases hv
 ·
  split at hv
  ·rename_i x1 vj
   split at hv
   ·rename_i u hu
    split at hv
    ·rename_i r hr
     obtain⟨c1,h1,h2⟩:=h.ev hc vj
     rw[Q5r hu h2]at h1
     obtain⟨cs,h5,h6⟩:=Q0k (β:=β) (ρ:=ρ) (ok:=ok) (w:=w) hv
     refine⟨cs,?_,h6⟩
     simp only[h1]
     rw[←h5]
     simp[Je4 hr]
    ·cases hv
   ·cases hv
  ·cases hv
 ·
  split at hv
  ·rename_i _ _ _ _ k _ _ _ _ n hs ht hx
   simp at hv; subst hv
   obtain⟨c1,h1,h2⟩:=h.ev hc hx
   have zj:c1=_:=h2
   subst zj
   refine⟨[.int k (k.wrap n)],?_,rfl⟩
   have k5:a.eval _=.int _ n:=h1
   simp[convert,Jx hT w hs,Jx hT w ht,k5,Conv.intToInt,AV.val,AV.isAgg,Ty.agg]
  ·cases hv
 ·
  rename_i sT xo fI
  split at hv
  ·rename_i fs _ _ _ x1 hs hx
   split at hv
   ·rename_i fd hf
    split at hv
    ·rename_i y e hn he
     cases hb:(Nat.beq e.size y.size&&(X9 e.d==y.isAgg)&&x1.isAgg&&y.isVal&&(y.isAgg||Nat.beq y.size 1))with
     | false=>rw[hb]at hv; cases hv
     | true =>
      rw[hb]at hv
      simp at hv; subst hv
      simp only[QQ]at hb
      obtain⟨⟨⟨⟨b1,b2⟩,b3⟩,b4⟩,b5⟩:=hb
      have b1:=QJ b1
      have b2:=bEq b2
      obtain⟨c1,h1,h2⟩:=h.ev hc hx
      obtain⟨h3,h4⟩:=Qgi hn h2
      have yc:∀k,J8 [PS.f k fd.offset]=fd.offset:=fun k=>by simp[J8,PS.off]
      rw[yc]at h3 h4
      refine⟨_,?_,h3⟩
      have k5:a.eval xo=.agg c1.toArray:=by rw[h1]; simp[AV.val,b3]
      simp only[k5]
      have vq:(part fd.type c1.toArray fd.offset).run P w=.ok (y.val ((c1.drop fd.offset).take y.size)) w:=by
       refine Qph hT w he c1 fd.offset ?_
       rw[b2,b1]
       cases ha:y.isAgg with
       | true=>simp[AV.val,ha]
       | false =>
        rw[ha]at b5
        have h5:y.size=1:=QJ (by simpa using b5)
        rw[h5]at h4 ⊢
        have hlt:fd.offset<c1.length:=by omega
        have e1:(c1.drop fd.offset).take 1=[c1[fd.offset]]:=by rw[XY hlt]; rfl
        rw[e1]
        simp[AV.val,ha,QU hlt]
      simp[Instr.field,Jx hT w hs,hf,asAgg,vq]
    ·cases hv
   ·cases hv
  ·cases hv
 ·
  rename_i sT xo fI
  split at hv
  ·rename_i fs _ _ _ x1 hs hx
   split at hv
   ·rename_i off hfo
    obtain⟨fd,l7,rfl,e,he,k8⟩:=Qzz hfo
    obtain⟨c1,h1,h2⟩:=h.ev hc hx
    have key:∀b o,a.eval xo=.pointer (some ⟨b,o,none⟩)→(Instr.fieldAt sT (a.eval xo) fI).run P w=.ok (.pointer (some ⟨b,o+fd.offset,none⟩)) w:=fun b o um=>by
     rw[um]
     simp[Instr.fieldAt,Jx hT w hs,l7,Instr.sureAddr,fieldPlace,Addr.add_lit,J6 hT w he,k8]
    split at hv
    ·rename_i id path
     simp at hv; subst hv
     have zj:c1=_:=h2
     subst zj
     refine⟨[.pointer (some ⟨β id,J8 path+fd.offset,none⟩)],?_,?_⟩
     ·dsimp only
      simp only[Sem.run_bind]
      rw[key _ _ h1]
      rfl
     ·show [_]=[_]
      rw[N5]
      simp[J8,PS.off]
    ·rename_i id path
     simp at hv; subst hv
     obtain⟨g,hg,rfl⟩:=h2
     refine⟨[.pointer (some ⟨g,J8 path+fd.offset,none⟩)],?_,g,hg,?_⟩
     ·dsimp only
      simp only[Sem.run_bind]
      rw[key _ _ h1]
      rfl
     ·rw[N5]
      simp[J8,PS.off]
    ·rename_i t y
     split at hv
     ·rename_i u z hn
      simp at hv; subst hv
      obtain⟨v,rfl,b,o',cs,rfl,hr,xl⟩:=h2
      obtain⟨h3,h4⟩:=Qgi (β:=β) (ρ:=ρ) hn hr
      have yc:∀k,J8 [PS.f k fd.offset]=fd.offset:=fun k=>by simp[J8,PS.off]
      rw[yc]at h3 h4
      refine⟨[.pointer (some ⟨b,o'+fd.offset,none⟩)],?_,_,rfl,b,_,_,rfl,h3,?_⟩
      ·dsimp only
       simp only[Sem.run_bind]
       rw[key _ _ h1]
       rfl
      ·intro j q hj
       have sy:j<(AV.d u z).size:=by
        have:=(QK.1 hj).1
        simp at this; omega
       rw[JQ sy,JZ]at hj
       have:=xl _ _ hj
       rw[←ZG]at this
       exact this
     ·cases hv
    ·cases hv
   ·cases hv
  ·cases hv
 ·
  split at hv
  ·rename_i e id path he hx
   split at hv
   ·rename_i tid c ho
    split at hv
    ·rename_i y hn
     cases hb:(Nat.beq e.size y.size&&(X9 e.d==y.isAgg)&&y.isVal&&(y.isAgg||Nat.beq y.size 1))with
     | false=>rw[hb]at hv; cases hv
     | true =>
      rw[hb]at hv
      simp at hv; subst hv
      simp only[QQ]at hb
      obtain⟨⟨⟨b1,b2⟩,b3⟩,b4⟩:=hb
      have b1:=QJ b1
      have b2:=bEq b2
      obtain⟨c1,h1,h2⟩:=h.ev hc hx
      have zj:c1=_:=h2
      subst zj
      obtain⟨cs,hh,rq⟩:=hM _ _ ho
      obtain⟨h3,h4⟩:=Qgi hn rq
      have hlen:=U1 h3
      refine⟨_,?_,h3⟩
      have k5:a.eval _=.pointer (some ⟨β id,J8 path,none⟩):=h1
      simp only[k5,Sem.run_bind]
      rw[Fz hT he (y:=y) (cs:=(cs.drop (J8 path)).take y.size) (by rw[hlen]; exact b1) b2 (fun ha=>by
       rw[ha]at b4
       rw[hlen]; exact QJ (by simpa using b4)) (fun j u hu=>by
        have sy:j<y.size:=by
         have:=(QK.1 hu).1
         omega
        rw[JQ sy,JZ]at hu
        simp only[World.cell?,hh]
        simpa using hu)]
      rfl
    ·cases hv
   ·cases hv
  ·rename_i e t y he hx
   cases hb:(Nat.beq e.size t.size&&(X9 e.d==t.agg))with
   | false=>rw[hb]at hv; cases hv
   | true =>
    rw[hb]at hv
    simp at hv; subst hv
    simp only[QQ]at hb
    have b1:=QJ hb.1
    have b2:=bEq hb.2
    obtain⟨c1,h1,h2⟩:=h.ev hc hx
    obtain⟨v,rfl,b,o',cs,rfl,hr,xl⟩:=h2
    have hlen:cs.length=t.size:=by rw[(rt t).len hr,Ji]
    refine⟨cs,?_,hr⟩
    have k5:a.eval _=.pointer (some ⟨b,o',none⟩):=h1
    simp only[k5,Sem.run_bind]
    rw[Fz hT he (y:=.d t y) (cs:=cs) (by rw[hlen,b1]) b2 (fun ha=>by rw[hlen]; exact Jfc ha) (fun j u hu=>(xl j u hu).2)]
    rfl
  ·cases hv
 ·
  split at hv
  ·rename_i l hx
   obtain⟨c1,h1,vs,rfl,hl⟩:=h.ev hc hx
   obtain⟨cs,h3,h4⟩:=Jfj hv hl
   refine⟨cs,?_,h4⟩
   have k5:a.eval _=.tuple vs.toArray:=h1
   simp[k5,Instr.extract,h3]
  ·cases hv
 ·
  split at hv
  ·rename_i e x1 he hx
   obtain⟨c1,h1,h2⟩:=h.ev hc hx
   split at hv
   ·rename_i hd
    split at hv
    ·cases hv
    ·rename_i hns
     split at hv
     ·rename_i n hn
      simp at hv; subst hv
      obtain⟨A,c,ym⟩:=Jkh hM hn hns h2
      refine⟨[.int .i64 n],?_,rfl⟩
      rw[ym]at h1
      simp[resolve,invoke,builtin,Builtin.len_,Jx hT w he,hd,h1,goInt,AV.val,AV.isAgg,Ty.agg]
     ·cases hv
   ·rename_i hd
    split at hv
    ·rename_i l
     simp at hv; subst hv
     have zj:c1=_:=h2
     subst zj
     refine⟨[.int .i64 l.length],?_,rfl⟩
     have k5:a.eval _=Ye l:=h1
     simp[resolve,invoke,builtin,Builtin.len_,Jx hT w he,hd,k5,goInt,AV.val,AV.isAgg,Ty.agg,Ye,Je5]
    ·cases hv
   ·rename_i kt et hd
    split at hv
    ·rename_i id
     split at hv
     ·rename_i k v xs hm
      simp at hv; subst hv
      obtain⟨es,clock,q1,q2⟩:=Q8a hM hm
      have zj:c1=_:=h2
      subst zj
      have k5:a.eval _=.map (some (β id)):=h1
      have hlen:es.size=xs.length:=by
       have:∀{xs:List (k.De×v.De)} {es:List MapEntry},Xq (rt k) (rt v) ok w xs es→es.length=xs.length:=by
        intro xs
        induction xs with
        | nil=>intro es h; rw[show es=[]from h]; rfl
        | cons x xs ih=>rintro es ⟨e,es',rfl,_,_,h⟩; simp[ih h]
       rw[←this q2]; simp
      refine⟨[.int .i64 xs.length],?_,rfl⟩
      simp[resolve,invoke,builtin,Builtin.len_,Jx hT w he,hd,k5,goInt,AV.val,AV.isAgg,Ty.agg,MapKept.run_getObj_map q1,hlen]
     ·cases hv
    ·simp at hv; subst hv
     have zj:c1=_:=h2
     subst zj
     have k5:a.eval _=.map none:=h1
     refine⟨[.int .i64 0],?_,rfl⟩
     simp[resolve,invoke,builtin,Builtin.len_,Jx hT w he,hd,k5,goInt,AV.val,AV.isAgg,Ty.agg]
    ·cases hv
   ·cases hv
  ·cases hv
 ·
  split at hv
  ·rename_i x1 x2 vj mh
   split at hv
   ·rename_i k p _ q ig ij
    simp at hv; subst hv
    have e1:=C6 ig
    have e2:=C6 ij
    subst e1; subst e2
    obtain⟨c1,h1,h2⟩:=h.ev hc vj
    obtain⟨c2,h3,h4⟩:=h.ev hc mh
    have zj:c1=_:=h2
    have mi:c2=_:=h4
    subst zj; subst mi
    refine⟨[.int k (if q>p then q else p)],?_,rfl⟩
    have k5:a.eval _=.int k p:=h1
    have ru:a.eval _=.int _ q:=h3
    simp[resolve,invoke,builtin,Builtin.max_,Builtin.max2,k5,ru,AV.val,AV.isAgg,Ty.agg]
   ·cases hv
  ·cases hv
 ·
  split at hv
  ·rename_i x1 x2 vj mh
   split at hv
   ·rename_i k p _ q ig ij
    simp at hv; subst hv
    have e1:=C6 ig
    have e2:=C6 ij
    subst e1; subst e2
    obtain⟨c1,h1,h2⟩:=h.ev hc vj
    obtain⟨c2,h3,h4⟩:=h.ev hc mh
    have zj:c1=_:=h2
    have mi:c2=_:=h4
    subst zj; subst mi
    refine⟨[.int k (if q<p then q else p)],?_,rfl⟩
    have k5:a.eval _=.int k p:=h1
    have ru:a.eval _=.int _ q:=h3
    simp[resolve,invoke,builtin,Builtin.min_,Builtin.min2,k5,ru,AV.val,AV.isAgg,Ty.agg]
   ·cases hv
  ·cases hv
 ·
  split at hv
  ·rename_i x1 x2 x3 vj mh hx3
   split at hv
   ·rename_i k p _ q _ r ig ij hi3
    simp at hv; subst hv
    have e1:=C6 ig
    have e2:=C6 ij
    have e3:=C6 hi3
    subst e1; subst e2; subst e3
    obtain⟨c1,h1,h2⟩:=h.ev hc vj
    obtain⟨c2,h3,h4⟩:=h.ev hc mh
    obtain⟨c3,h5,h6⟩:=h.ev hc hx3
    have zj:c1=_:=h2
    have mi:c2=_:=h4
    have h6':c3=_:=h6
    subst zj; subst mi; subst h6'
    refine⟨[.int k (if r<(if q<p then q else p)then r else(if q<p then q else p))],?_,rfl⟩
    have k5:a.eval _=.int k p:=h1
    have ru:a.eval _=.int _ q:=h3
    have h5':a.eval _=.int _ r:=h5
    simp[resolve,invoke,builtin,Builtin.min_,Builtin.min2,k5,ru,h5',AV.val,AV.isAgg,Ty.agg]
   ·cases hv
  ·cases hv
 ·
  rename_i tT parts
  split at hv
  ·rename_i _ fs z _ _ ty hs hty
   split at hv
   ·rename_i l ps vs hz hp sc
    split at hv
    ·rename_i l' qn
     simp at hv; subst hv
     have ik:=Qpk hT hp
     have ah:=run_places (P:=P) w fs ps ik
     obtain⟨cs',h5,h6⟩:=Q0m ps qn (Ca (x:=.ag l) hz) (h.evParts hc sc)
     have hf:=Rl _ h5
     refine⟨cs',?_,h6⟩
     simp only[Instr.build,Sem.run_bind,Vc hT w hs,Jx hT w hs,Result.andThen_ok]
     simp only[VX,Sem.run_map,bind_pure_comp,ah,Result.andThen_ok]
     have hf':Instr.fill (fun x=>ps.toArray[x]?) z.cells (parts.map fun p=>(p.1,a.eval p.2))=some cs'.toArray:=by
      rw[Vp]at hf
      simpa using hf
     have hm:((Array.mk parts).map fun(x:Nat×Operand)=>(x.1,a.eval x.2)).toList=parts.map fun p=>(p.1,a.eval p.2):=by simp
     rw[hm,hf']
     simp[AV.val,AV.isAgg]
    ·cases hv
   ·cases hv
  ·rename_i _ _ e z _ _ m u hs hty
   split at hv
   ·split at hv
    ·rename_i ee x he hz
     obtain⟨hb,hv⟩:=bvT hv
     simp at hv; subst hv
     refine⟨Qu z,?_,Ca hz⟩
     simp only[Instr.build,Sem.run_bind,Vc hT w hs,Jx hT w hs,J6 hT w he,Result.andThen_ok]
     simp[Instr.fill,AV.val,hb,Vp]
    ·cases hv
   ·rename_i p0 ps0
    generalize p0::ps0=parts at *
    split at hv
    ·rename_i ee vs he sc
     split at hv
     ·rename_i xs wt
      obtain⟨hb,hv⟩:=bvT hv
      simp only[QQ]at hb
      simp at hv; subst hv
      have ko:=QJ hb.1.1
      have xn:=QJ hb.1.2
      have xi:=QJ hb.2
      obtain⟨us,q1,q2,q3⟩:=h.asLs hc sc wt
      have xl:=Qkc q2
      rw[Ji]at xl
      have z7:=Q0n us 0 (Qu z) xl (by rw[xi,QE,q3,xn]; exact QD _)
      rw[←q1]at z7
      simp only[XB,ZA,QC,QE]at z7
      rw[XN (by rw[xi,q3,xn]; exact QD _),QR]at z7
      have hf:=Rl _ z7
      rw[←ko,Vp]at hf
      refine⟨us.flatMap Qu,?_,xn,Qpz q2⟩
      have hm:((Array.mk parts).map fun(x:Nat×Operand)=>(x.1,a.eval x.2)).toList=parts.map fun p=>(p.1,a.eval p.2):=by simp
      simp only[Instr.build,Sem.run_bind,Vc hT w hs,Jx hT w hs,J6 hT w he,Result.andThen_ok]
      have hf':Instr.fill (fun i=>some (i*ee.size,ee.size)) z.cells (parts.map fun p=>(p.1,a.eval p.2))=some (us.flatMap Qu).toArray:=by
       have:(parts.map fun p=>(p.1,a.eval p.2))=List.map (fun p=>(p.fst,a.eval p.snd)) parts:=rfl
       show Instr.fill (Qch ee.size) z.cells _=_
       simpa using hf
      rw[hm,hf']
      simp[AV.val,AV.isAgg,Ty.agg]
     ·cases hv
    ·cases hv
  ·cases hv
 ·
  rename_i x
  split at hv
  ·rename_i id path hx
   simp at hv; subst hv
   obtain⟨c1,h1,h2⟩:=h.ev hc hx
   refine⟨c1,?_,h2⟩
   have zj:c1=_:=h2
   subst zj
   have k5:a.eval x=.pointer (some ⟨β id,J8 path,none⟩):=h1
   simp[k5,AV.val,AV.isAgg]
  ·rename_i id path hx
   simp at hv; subst hv
   obtain⟨c1,h1,g,h2,h3⟩:=h.ev hc hx
   refine⟨c1,?_,g,h2,h3⟩
   subst h3
   have k5:a.eval x=.pointer (some ⟨g,J8 path,none⟩):=h1
   simp[k5,AV.val,AV.isAgg]
  ·rename_i t y hx
   simp at hv; subst hv
   obtain⟨c1,h1,v1,h2,h3⟩:=h.ev hc hx
   refine⟨c1,?_,v1,h2,h3⟩
   obtain⟨b,o,c,rfl,_⟩:=h3
   subst h2
   have k5:a.eval x=.pointer (some ⟨b,o,none⟩):=h1
   simp[k5,AV.val,AV.isAgg]
  ·rename_i fn caps hx
   simp at hv; subst hv
   obtain⟨c1,h1,vs,h2,h3⟩:=h.ev hc hx
   refine⟨c1,?_,vs,h2,h3⟩
   subst h2
   have k5:a.eval x=.func (.func fn) #[] vs.toArray:=h1
   simp[k5,AV.val,AV.isAgg]
  ·cases hv
 ·
  rename_i f caps
  split at hv
  ·rename_i l hl
   simp at hv; subst hv
   refine⟨[.func (.func f) #[] (caps.map a.eval).toArray],?_,_,rfl,h.evs hc hl⟩
   simp[Instr.makeFunc,AV.val,AV.isAgg]
  ·cases hv
 ·
  rename_i t x ix c
  split at hv
  ·rename_i te id iv ku hx hix
   split at hv
   ·rename_i kt et k v xs kr xt
    split at hv
    ·rename_i tk tz key yu mj yf
     split at hv
     ·rename_i za qx
      split at hv
      ·rename_i z hz
       cases hb:(Yu Y.T k tk.d&&(k.agg==iv.isAgg)&&(v.agg==Qgj tz.z))with
       | false=>rw[hb]at hv; cases hv
       | true =>
       rw[hb]at hv
       simp only[cond_true,Option.some.injEq]at hv
       simp only[QQ]at hb
       obtain⟨c1,h1,h2⟩:=h.ev hc hx
       have zj:c1=[.map (some (β id))]:=h2
       subst zj
       have k5:a.eval x=.map (some (β id)):=h1
       obtain⟨c3,h3,h4⟩:=h.ev hc hix
       have mn:isV (rt k) ok w key (a.eval ix):=by
        refine⟨c3,Z6 (M:=[]) (β:=β) (ρ:=ρ) (by simp[Qe]) yf h4,?_⟩
        rw[h3]; simp only[AV.val,RT.val,B7,bEq hb.1.2]; cases iv.isAgg<;>rfl
       obtain⟨es,clock,hg,hp⟩:=Q8a hM xt
       have l6:isV (rt v) ok w z tz.z:=⟨Qu tz.z,Z6 (M:=[]) (β:=β) (ρ:=ρ) (by simp[Qe]) hz (Ca qx),(Qkb (bEq hb.2)).symm⟩
       obtain⟨u,ka,hu,_⟩:=Qpx hT ku kr yu mj hb.1.1 hg hp key l6 c
       rw[←Ga (Jy hb.1.1) mn]at ka
       obtain⟨cu,hu1,ai⟩:=hu
       have hvu:(AV.d v ((Qr key xs).getD z)).val cu=u:=by rw[ai]; simp only[AV.val,RT.val,B7,AV.isAgg]; cases v.agg<;>rfl
       cases c with
       | true =>
        simp only at hv; subst hv
        refine⟨[.tuple #[u,.bool (Qr key xs).isSome]],?_,[u,.bool (Qr key xs).isSome],rfl,cu,[.bool (Qr key xs).isSome],by rw[hvu],hu1,[.bool (Qr key xs).isSome],[],rfl,rfl,rfl⟩
        simp only[k5]
        simp only[if_true]at ka
        simp[ka,AV.val,AV.isAgg]
       | false =>
        simp only at hv; subst hv
        refine⟨cu,?_,hu1⟩
        rw[hvu]
        simp only[k5]
        simp only[XQ,if_false]at ka
        simp[ka]
      ·cases hv
     ·cases hv
    ·cases hv
   ·cases hv
  ·cases hv
 ·cases hv
end
end Gx

/- Maps whose values are objects of their own: what lies in them. -/
namespace Gx
open Go Go.RowKit Gd
set_option linter.unusedVariables false
set_option linter.unusedSimpArgs false
section
variable {k v:Ty}
theorem Qkd(hk:Tt k=true){key:k.De}:∀{xs:List (k.De×v.De)},key∉xs.map Prod.fst→Qr key xs=none
 | [],_=>rfl
 | x::xs,h=>by
  simp only[JW,QX,not_or]at h
  simp only[Qr]
  cases he:eqK k key x.1 with
  | true=>exact absurd ((Zf hk).1 he) h.1
  | false=>exact Qkd hk h.2
theorem Qt3(hk:Tt k=true){key:k.De}:∀{xs:List (k.De×v.De)},Qr key xs=none→key∉xs.map Prod.fst
 | [],_=>by simp
 | x::xs,h=>by
  simp only[Qr]at h
  cases he:eqK k key x.1 with
  | true=>rw[he]at h; cases h
  | false =>
   rw[he]at h
   simp only[JW,QX,not_or]
   exact⟨fun e'=>(by rw[e',(Zf hk).2 rfl]at he; cases he),Qt3 hk h⟩
end
section
variable {k:Ty} {c:CK} {ok:Ok} {w:World} {hv:Value}
theorem Q0o{κ:Type}{h2:Option κ}{ux:Value}:∀{xs:List (κ×c.ty.De)} {ys:List (κ×Value)} {vs:List Value},B8 c none hv ok w xs ys vs→(∀x∈xs,h2≠some x.1)→B8 c h2 ux ok w xs ys vs
 | [],[],[],h,_=>h
 | x::xs,y::ys,s::vs,⟨h1,h3,h4⟩,hn=>⟨h1,.inr ⟨hn x (.head _),by
   rcases h3 with⟨q,_⟩ | ⟨_,q⟩
   ·cases q
   ·exact q⟩,Q0o h4 fun y hy=>hn y (.tail _ hy)⟩
 | [],[],_::_,h,_=>h.elim
 | [],_::_,_,h,_=>h.elim
 | _::_,[],_,h,_=>h.elim
 | _::_,_::_,[],h,_=>h.elim
theorem Qke{κ:Type}{hole:Option κ}{ux:Value}:∀{xs:List (κ×c.ty.De)} {ys:List (κ×Value)} {vs:List Value},B8 c hole hv ok w xs ys vs→(∀kh,hole=some kh→kh∉xs.map Prod.fst)→B8 c none ux ok w xs ys vs
 | [],[],[],h,_=>h
 | x::xs,y::ys,s::vs,⟨h1,h3,h4⟩,hn=>⟨h1,.inr ⟨by simp,by
   rcases h3 with⟨q,_⟩ | ⟨_,q⟩
   ·exact absurd (by simp) (hn _ q)
   ·exact q⟩,Qke h4 fun kh e hm=>hn kh e (by simp only[JW,QX]; exact .inr hm)⟩
 | [],[],_::_,h,_=>h.elim
 | [],_::_,_,h,_=>h.elim
 | _::_,[],_,h,_=>h.elim
 | _::_,_::_,[],h,_=>h.elim
theorem Qkf(key:k.De){hole:Option k.De}:∀{xs:List (k.De×c.ty.De)} {ys:List (k.De×Value)} {vs:List Value},B8 c hole hv ok w xs ys vs →
  (Qr key xs=none∧Qr key ys=none)∨∃x y,Qr key xs=some x∧Qr key ys=some y∧(∃k1,eqK k key k1=true∧k1∈xs.map Prod.fst∧(hole=some k1→zal y hv))
 | [],[],[],_=>.inl ⟨rfl,rfl⟩
 | x::xs,y::ys,s::vs,⟨h1,h3,h4⟩=>by
  simp only[Qr,←h1]
  cases he:eqK k key x.1 with
  | true =>
   refine .inr ⟨x.2,y.2,rfl,rfl,x.1,he,by simp,fun hh=>?_⟩
   rcases h3 with⟨_,_,q⟩ | ⟨q,_⟩
   ·exact q
   ·exact absurd hh q
  | false =>
   rcases Qkf key h4 with q | ⟨x',y',q1,q2,k1,q3,q4,q5⟩
   ·exact .inl q
   ·exact .inr ⟨x',y',q1,q2,k1,q3,by simp only[JW,QX]; exact .inr q4,q5⟩
 | [],[],_::_,h=>h.elim
 | [],_::_,_,h=>h.elim
 | _::_,[],_,h=>h.elim
 | _::_,_::_,[],h=>h.elim
theorem Qkg(hk:Tt k=true){key:k.De} :
  ∀{xs:List (k.De×c.ty.De)} {ys:List (k.De×Value)} {vs:List Value},B8 c none hv ok w xs ys vs→(xs.map Prod.fst).Nodup→Qh5 vs →
  (Qr key xs=none∧∀sv,B8 c (some key) sv ok w xs ys vs) ∨
  ∃vs' sv x,Qr key xs=some x∧B8 c (some key) sv ok w xs ys vs'∧sv∈vs∧(∀s∈vs',s=undef∨s∈vs)∧Qh5 vs'∧(∀s∈vs',∀g,Ke s=some g→Ke sv≠some g)∧(Qb3 c sv x).p ok w
 | [],[],[],h,_,_=>.inl ⟨rfl,fun _=>trivial⟩
 | x::xs,y::ys,s::vs,⟨h1,h3,h4⟩,ye,sd=>by
  have uy:=JA.1 (by simpa using ye:(x.1::xs.map Prod.fst).Nodup)
  have we:=QG.1 sd
  obtain⟨q1,q2,q3⟩:none≠some x.1∧zal y.2 s∧(Qb3 c s x.2).p ok w:=by
   rcases h3 with⟨q,_⟩ | q
   ·cases q
   ·exact q
  simp only[Qr]
  cases he:eqK k key x.1 with
  | true =>
   have aj:=(Zf hk).1 he
   subst aj
   refine .inr ⟨undef::vs,s,x.2,rfl,⟨h1,.inl ⟨rfl,rfl,q2⟩,Q0o h4 fun y hy e'=>?_⟩,.head _,?_,?_,?_,q3⟩
   ·injection e' with e'
    exact uy.1 (QY.2 ⟨y,hy,e'.symm⟩)
   ·intro t ht
    rcases QX.1 ht with rfl | ht
    ·exact .inl rfl
    ·exact .inr (.tail _ ht)
   ·exact QG.2 ⟨fun b hb g hg=>(by cases hg),we.2⟩
   ·intro t ht g hg zt
    rcases QX.1 ht with rfl | ht
    ·cases hg
    ·exact we.1 t ht g zt hg
  | false =>
   have k8:some key≠some x.1:=fun e'=>by injection e' with e'; rw[e',(Zf hk).2 rfl]at he; cases he
   rcases Qkg hk h4 uy.2 we.2 with⟨r1,r2⟩ | ⟨vs',sv,x',r1,r2,r3,r4,r5,r6,r7⟩
   ·exact .inl ⟨r1,fun sv=>⟨h1,.inr ⟨k8,q2,q3⟩,r2 sv⟩⟩
   ·refine .inr ⟨s::vs',sv,x',r1,⟨h1,.inr ⟨k8,q2,q3⟩,r2⟩,.tail _ r3,?_,?_,?_,r7⟩
    ·intro t ht
     rcases QX.1 ht with rfl | ht
     ·exact .inr (.head _)
     ·exact(r4 t ht).imp id (.tail _)
    ·refine QG.2 ⟨fun b hb g hg=>?_,r5⟩
     rcases r4 b hb with rfl | hb
     ·intro e'; cases e'
     ·exact we.1 b hb g hg
    ·intro t ht g hg zt
     rcases QX.1 ht with rfl | ht
     ·exact we.1 sv r3 g hg zt
     ·exact r6 t ht g hg zt
 | [],[],_::_,h,_,_=>h.elim
 | [],_::_,_,h,_,_=>h.elim
 | _::_,[],_,h,_,_=>h.elim
 | _::_,_::_,[],h,_,_=>h.elim
theorem Q0p(hk:Tt k=true){key:k.De}{x0:c.ty.De}{nv sv:Value}(hz:zal nv sv)(hp:(Qb3 c sv x0).p ok w){hole:Option k.De}(hh:∀kh,hole=some kh→kh=key) :
  ∀{xs:List (k.De×c.ty.De)} {ys:List (k.De×Value)} {vs:List Value},B8 c hole hv ok w xs ys vs→(xs.map Prod.fst).Nodup→Qh5 vs→(∀s∈vs,∀g,Ke s=some g→Ke sv≠some g) →
  ∃vs',B8 c none undef ok w (Ya key x0 xs) (Ya key nv ys) vs'∧Qh5 vs'∧∀s∈vs',s=sv∨s∈vs
 | [],[],[],h,_,_,_=>⟨[sv],⟨rfl,.inr ⟨by simp,hz,hp⟩,trivial⟩,QG.2 ⟨by simp,.nil⟩,by simp⟩
 | x::xs,y::ys,s::vs,⟨h1,h3,h4⟩,ye,sd,mq=>by
  have uy:=JA.1 (by simpa using ye:(x.1::xs.map Prod.fst).Nodup)
  have we:=QG.1 sd
  simp only[Ya,←h1]
  cases he:eqK k key x.1 with
  | true =>
   have aj:=(Zf hk).1 he
   refine⟨sv::vs,⟨rfl,.inr ⟨by simp,hz,hp⟩,Qke h4 fun kh e hm=>?_⟩,QG.2 ⟨fun b hb g hg zt=>mq b (.tail _ hb) g zt hg,we.2⟩,fun t ht=>?_⟩
   ·rw[hh kh e,aj]at hm; exact uy.1 hm
   ·rcases QX.1 ht with rfl | ht
    ·exact .inl rfl
    ·exact .inr (.tail _ ht)
  | false =>
   have ru:zal y.2 s∧(Qb3 c s x.2).p ok w:=by
    rcases h3 with⟨q,_⟩ | ⟨_,q⟩
    ·have:=hh _ q; rw[this,(Zf hk).2 rfl]at he; cases he
    ·exact q
   obtain⟨vs',r1,r2,r3⟩:=Q0p hk hz hp hh h4 uy.2 we.2 (fun t ht=>mq t (.tail _ ht))
   refine⟨s::vs',⟨h1,.inr ⟨by simp,ru⟩,r1⟩,QG.2 ⟨fun b hb g hg=>?_,r2⟩,fun t ht=>?_⟩
   ·rcases r3 b hb with rfl | hb
    ·exact mq s (.head _) g hg
    ·exact we.1 b hb g hg
   ·rcases QX.1 ht with rfl | ht
    ·exact .inr (.head _)
    ·exact(r3 t ht).imp id (.tail _)
 | [],[],_::_,h,_,_,_=>h.elim
 | [],_::_,_,h,_,_,_=>h.elim
 | _::_,[],_,h,_,_,_=>h.elim
 | _::_,_::_,[],h,_,_,_=>h.elim
theorem Qp0(hk:Tt k=true){key:k.De}{x0:c.ty.De}(hp:(Qb3 c hv x0).p ok w) :
  ∀{xs:List (k.De×c.ty.De)} {ys:List (k.De×Value)} {vs:List Value},B8 c (some key) hv ok w xs ys vs→key∈xs.map Prod.fst→(xs.map Prod.fst).Nodup→Qh5 vs→(∀s∈vs,∀g,Ke s=some g→Ke hv≠some g) →
  ∃vs',B8 c none undef ok w (Ya key x0 xs) ys vs'∧Qh5 vs'∧∀s∈vs',s=hv∨s∈vs
 | [],[],[],_,hi,_,_,_=>by cases hi
 | x::xs,y::ys,s::vs,⟨h1,h3,h4⟩,hi,ye,sd,mq=>by
  have uy:=JA.1 (by simpa using ye:(x.1::xs.map Prod.fst).Nodup)
  have we:=QG.1 sd
  simp only[Ya]
  cases he:eqK k key x.1 with
  | true =>
   have aj:=(Zf hk).1 he
   subst aj
   have hz:zal y.2 hv:=by
    rcases h3 with⟨_,_,q⟩ | ⟨q,_⟩
    ·exact q
    ·exact absurd rfl q
   refine⟨hv::vs,⟨h1,.inr ⟨by simp,hz,hp⟩,Qke h4 fun kh e hm=>?_⟩,QG.2 ⟨fun b hb g hg zt=>mq b (.tail _ hb) g zt hg,we.2⟩,fun t ht=>?_⟩
   ·injection e with e; subst e; exact uy.1 hm
   ·rcases QX.1 ht with rfl | ht
    ·exact .inl rfl
    ·exact .inr (.tail _ ht)
  | false =>
   have k8:key≠x.1:=fun e=>by rw[e,(Zf hk).2 rfl]at he; cases he
   have mr:key∈xs.map Prod.fst:=by
    rcases QX.1 (by simpa using hi:key∈x.1::xs.map Prod.fst)with e | hi
    ·exact absurd e k8
    ·exact hi
   have ru:zal y.2 s∧(Qb3 c s x.2).p ok w:=by
    rcases h3 with⟨q,_⟩ | ⟨_,q⟩
    ·injection q with q; exact absurd q k8
    ·exact q
   obtain⟨vs',r1,r2,r3⟩:=Qp0 hk hp h4 mr uy.2 we.2 (fun t ht=>mq t (.tail _ ht))
   refine⟨s::vs',⟨h1,.inr ⟨by simp,ru⟩,r1⟩,QG.2 ⟨fun b hb g hg=>?_,r2⟩,fun t ht=>?_⟩
   ·rcases r3 b hb with rfl | hb
    ·exact mq s (.head _) g hg
    ·exact we.1 b hb g hg
   ·rcases QX.1 ht with rfl | ht
    ·exact .inr (.head _)
    ·exact(r3 t ht).imp id (.tail _)
 | [],[],_::_,h,_,_,_,_=>h.elim
 | [],_::_,_,h,_,_,_,_=>h.elim
 | _::_,[],_,h,_,_,_,_=>h.elim
 | _::_,_::_,[],h,_,_,_,_=>h.elim
end
end Gx

/- Operations that may fail, without a change of memory. -/
namespace Gx
open Go Go.RowKit Gd
set_option linter.unusedVariables false
set_option linter.unusedSimpArgs false
def Qw3:Operand→Bool
 | .const _=>true
 | _=>false
def Q5s:BinOp→Operand→Nat
 | .quo,y=>bif Qw3 y then 0 else 1
 | .rem,y=>bif Qw3 y then 0 else 2
 | .shl,_=>3
 | .shr,_=>4
 | .add,_=>5
 | _,_=>0
def Qgk:AV→Option Str
 | .d .str l=>some l
 | _=>none
def Jfm(M:List (Nat×Ob)):AV→Option (Σ t:Ty,List t.De)
 | .d (.sl e) xs=>some ⟨e,xs⟩
 | .s id=>match Qe M id with
  | some (.tail _ t xs)=>some ⟨t,xs⟩
  | _=>none
 | _=>none
def bnd(S:St)(cur:Va)(dflt:Int):Option Operand→Option Int
 | none=>some dflt
 | some x=>match ev S cur x with
  | some v=>match Xr v with
   | some (_,n)=>some n
   | none=>none
  | none=>none
def chk(b:Bool):Option Unit:=bif b then some ()else none
section
variable {R:Type} (Y:TX) (S:St) (cur:Va)
def tot(op:Op)(k:AV→Option R):Option R:=match Qic Y S cur op with
 | some av=>k av
 | none=>none
def Ja8:Int→Option Nat
 | .ofNat n=>some n
 | .negSucc _=>none
theorem Qw4{i:Int}{n:Nat}(h:Ja8 i=some n):i=(n:Int):=by
 cases i with
 | ofNat m=>simp only[Ja8,Option.some.injEq]at h; subst h; rfl
 | negSucc m=>cases h
def Qkh(op:Op)(k:AV→Option R):Option R :=
 match op with
 | .binOp b t x y yt=>match Q5s b y with
  | 0=>tot Y S cur (.binOp b t x y yt) k
  | 5=>match ev S cur x,ev S cur y with
   | some u,some v=>match Qgk u,Qgk v with
    | some p,some q=>(Jj4 p q).bind fun s=>k (.d .str s)
    | _,_=>tot Y S cur (.binOp b t x y yt) k
   | _,_=>none
  | n=>match ev S cur x,ev S cur y with
   | some u,some v=>match Xr u,Xr v with
    | some (kk,p),some (k2,q)=>match n with
     | 1=>bif Rk kk k2 then(Qj3 kk p q).bind fun z=>k (.d (.int kk) z)else none
     | 2=>bif Rk kk k2 then(Qww p q).bind fun z=>k (.d (.int kk) z)else none
     | 3=>(Jax kk p q).bind fun z=>k (.d (.int kk) z)
     | 4=>(Jaw kk p q).bind fun z=>k (.d (.int kk) z)
     | _=>none
    | _,_=>none
   | _,_=>none
 | .indexAddr t x i=>match Qh Y.T t,ev S cur x,ev S cur i with
  | some te,some v,some iv=>match Xr iv,Y0 te.d with
   | some (_,j),some e=>match Qh Y.T e with
    | some ee=>match v with
     | .d (.sl u) xs=>bif Nat.beq ee.size u.size then(idx xs j).bind fun y=>k (.a u y)else none
     | .s id=>match Qe S.mem id with
      | some (.row _ u xs)=>bif Nat.beq ee.size u.size&&Nat.ble 1 u.size then(idx xs j).bind fun _=>k (.e id [.i j u.size])else none
      | some (.tail _ u xs)=>bif Nat.beq ee.size u.size then(idx xs j).bind fun y=>k (.a u y)else none
      | _=>none
     | .w id j0 n=>match Ja8 j,Ja8 j0,Ja8 n with
      | some a,some a0,some nn=>bif Nat.beq ee.size 1&&Nat.blt a nn then k (.p id [.f (a0+a) (a0+a)])else none
      | _,_,_=>none
     | _=>none
    | none=>none
   | _,_=>none
  | _,_,_=>none
 | .index t x i=>match Qh Y.T t,ev S cur x,ev S cur i with
  | some te,some v,some iv=>match Xr iv,Qgk v,te.d with
   | some (_,j),some l,.string=>(B5 l j).bind fun c=>k (.d (.int .u8) c)
   | some (_,j),none,.array m e=>match v,Qh Y.T e with
    | .d (.arr m' u) xs,some ee=>bif Nat.beq m m'&&Nat.beq ee.size u.size&&(X9 ee.d==u.agg)then(idx xs j).bind fun y=>k (.d u y)else none
    | _,_=>none
   | _,_,_=>none
  | _,_,_=>none
 | .load t x=>match Qh Y.T t,ev S cur x with
  | some e,some (.e id (.i j sz::ps))=>match Qe S.mem id with
   | some (.row _ u xs)=>bif Nat.beq sz u.size&&Nat.ble 1 u.size then(idx xs j).bind fun y=>match nav ps (.d u y)with
     | some zv=>bif Nat.beq e.size zv.size&&(X9 e.d==zv.isAgg)&&zv.isVal&&(zv.isAgg||Nat.beq zv.size 1)then k zv else none
     | none=>none
    else none
   | _=>none
  | _,_=>tot Y S cur (.load t x) k
 | .slice t x lo hi none=>match Qh Y.T t,ev S cur x with
  | some te,some v=>match te.d with
   | .string=>match Qgk v with
    | some l=>match bnd S cur 0 lo,bnd S cur l.length hi with
     | some a,some b=>(slc l a b).bind fun s=>k (.d .str s)
     | _,_=>none
    | none=>none
   | .slice e=>match Qh Y.T e,Jfm S.mem v with
    | some ee,some ⟨u,xs⟩=>bif Nat.beq ee.size u.size then match bnd S cur 0 lo,bnd S cur xs.length hi with
      | some a,some b=>(slc xs a b).bind fun ys=>k (.d (.sl u) ys)
      | _,_=>none
     else none
    | _,_=>none
   | _=>none
  | _,_=>none
 | .slice t x lo (some hi) (some mx)=>match Qh Y.T t,ev S cur x,ev S cur hi,ev S cur mx with
  | some te,some v,some hv,some mv=>match Y0 te.d,Xr hv,Xr mv with
   | some e,some (_,b),some (_,m)=>match Qh Y.T e,Jfm S.mem v,bnd S cur 0 lo with
    | some ee,some ⟨u,xs⟩,some a=>bif Nat.beq ee.size u.size then(chk (decide (b≤m)&&decide (m≤(xs.length:Int)))).bind fun _=>(slc xs a b).bind fun ys=>k (.d (.sl u) ys)else none
    | _,_,_=>none
   | _,_,_=>none
  | _,_,_,_=>none
 | .convert s t x=>match Qh Y.T s,Qh Y.T t with
  | some se,some te=>match Y0 se.d,te.d with
   | some e,.string=>match Qh Y.T e,ev S cur x with
    | some ⟨_,.int .u8,_,_,_⟩,some v=>match asD S.mem v (.sl (.int .u8))with
     | some xs=>k (.d .str (Qs1 xs))
     | none=>none
    | _,_=>none
   | _,_=>tot Y S cur (.convert s t x) k
  | _,_=>none
 | op=>tot Y S cur op k
end
section
variable {P:Program} {X:Cx} {β:Nat→Nat} {ρ:Nat→Value} {S:St} {a:Act} {w:World} {cur:Va} {ok:Ok}
theorem Ja9{x:AV}{l:Str}(h:Qgk x=some l):x=.d .str l:=by
 unfold Qgk at h
 split at h
 ·simp at h; subst h; rfl
 ·cases h
theorem Rt{b:BinOp}{y:Operand}{n:Nat}(h:Q5s b y=n):n=0∨(n=1∧b=.quo)∨(n=2∧b=.rem)∨(n=3∧b=.shl)∨(n=4∧b=.shr)∨(n=5∧b=.add):=by
 subst h
 cases b<;>simp only[Q5s]<;>first | (simp; done) | (cases Qw3 y<;>simp)
theorem Cb.int(h:Cb β ρ ok S a w)(hc:Ju a cur){x:Operand}{v:AV}{k:IntKind}{n:Int}(hx:Gx.ev S cur x=some v)(hi:Xr v=some (k,n)):a.eval x=.int k n:=by
 have:=C6 hi
 subst this
 obtain⟨cs,h1,h2⟩:=h.ev hc hx
 have zj:cs=_:=h2
 subst zj
 exact h1
theorem Cb.str(h:Cb β ρ ok S a w)(hc:Ju a cur){x:Operand}{v:AV}{l:Str}(hx:Gx.ev S cur x=some v)(hi:Qgk v=some l):a.eval x=Ye l:=by
 have:=Ja9 hi
 subst this
 obtain⟨cs,h1,h2⟩:=h.ev hc hx
 have zj:cs=_:=h2
 subst zj
 exact h1
theorem Qoq(h:Cb β ρ ok S a w)(hc:Ju a cur){x:Operand}{v:AV}{u:Ty}{xs:List u.De}(hx:ev S cur x=some v)(hi:Jfm S.mem v=some ⟨u,xs⟩) :
  isV (rSl (rt u)) (ok) w xs (a.eval x):=by
 unfold Jfm at hi
 obtain⟨cs,h1,h2⟩:=h.ev hc hx
 split at hi
 ·simp at hi; obtain⟨rfl,hi⟩:=hi
  obtain rfl:=eq_of_heq hi
  have:=Ja4 h2
  rw[←h1]at this
  exact this
 ·rename_i id
  split at hi
  ·rename_i e t ys ho
   simp at hi; obtain⟨rfl,hi⟩:=hi
   obtain rfl:=eq_of_heq hi
   obtain⟨⟨v0,rfl,yb⟩,_⟩:=h2
   have k5:a.eval x=v0:=h1
   rw[k5]
   exact Qw2 yb (h.mm _ _ ho).1
  ·cases hi
 ·cases hi
theorem Cb.bnd(h:Cb β ρ ok S a w)(hc:Ju a cur){dflt n:Int}{x:Option Operand}(hb:Gx.bnd S cur dflt x=some n):(x=none∧n=dflt)∨∃y k,x=some y∧a.eval y=.int k n:=by
 unfold Gx.bnd at hb
 split at hb
 ·simp at hb; exact .inl ⟨rfl,hb.symm⟩
 ·rename_i y
  split at hb
  ·rename_i v hv
   split at hb
   ·rename_i k m hi
    simp at hb; subst hb
    exact .inr ⟨y,k,rfl,h.int hc hv hi⟩
   ·cases hb
  ·cases hb
theorem Ql9{lo:Option Operand}{hi mx:Operand}{k1 k2:IntKind}{l h' m:Int}{len cap:Nat}(il:(lo=none∧l=0)∨∃y k,lo=some y∧a.eval y=.int k l)(qy:a.eval hi=.int k1 h')(ra:a.eval mx=.int k2 m)
  (h0:0≤l) (h1:l≤h') (h2:h'≤m) (h3:m≤cap) :
  (Instr.sliceBounds true len cap (lo.map a.eval) ((some hi).map a.eval) ((some mx).map a.eval)).run P w=.ok (l.toNat,h'.toNat,m.toNat) w:=by
 unfold Instr.sliceBounds
 have s1:∀{k:IntKind} {i:Int} {y:Nat} {code:BoundsCode},0≤i→i≤y→(Instr.sliceBound (.int k i) y code).run P w=.ok i.toNat w:=fun h0 h1=>Qbc h0 h1
 rcases il with⟨rfl,rfl⟩ | ⟨yl,kl,rfl,hl⟩
 ·simp only[XG,KN,qy,ra,Sem.run_bind,if_true]
  rw[s1 (by omega) h3]
  simp only[Result.andThen_ok]
  rw[s1 (by omega) (by omega)]
  simp
 ·simp only[XG,qy,ra,hl,Sem.run_bind,if_true]
  rw[s1 (by omega) h3]
  simp only[Result.andThen_ok]
  rw[s1 (by omega) (by omega)]
  simp only[Result.andThen_ok]
  rw[s1 h0 (by omega)]
  simp
theorem N6{isS:Bool}{lo hi:Option Operand}{l h':Int}{len cap:Nat}(il:(lo=none∧l=0)∨∃y k,lo=some y∧a.eval y=.int k l)(qy:(hi=none∧h'=len)∨∃y k,hi=some y∧a.eval y=.int k h')
  (h0:0≤l) (h1:l≤h') (h2:h'≤len) (h3:len≤cap) :
  (Instr.sliceBounds isS len cap (lo.map a.eval) (hi.map a.eval) none).run P w=.ok (l.toNat,h'.toNat,cap) w:=by
 unfold Instr.sliceBounds
 have s1:∀{k:IntKind} {i:Int} {y:Nat} {code:BoundsCode},0≤i→i≤y→(Instr.sliceBound (.int k i) y code).run P w=.ok i.toNat w:=fun h0 h1=>Qbc h0 h1
 rcases qy with⟨rfl,rfl⟩ | ⟨yh,kh,rfl,hh⟩
 ·rcases il with⟨rfl,rfl⟩ | ⟨yl,kl,rfl,hl⟩
  ·simp
  ·simp only[KN,XG,hl,Sem.run_bind,Sem.run_pure,Result.andThen_ok]
   rw[s1 h0 (by omega)]
   simp
 ·have e1:∀c:BoundsCode,(Instr.sliceBound (.int kh h') cap c).run P w=.ok h'.toNat w:=fun c=>s1 (by omega) (by omega)
  rcases il with⟨rfl,rfl⟩ | ⟨yl,kl,rfl,hl⟩
  ·simp only[KN,XG,hh,Sem.run_bind,Sem.run_pure,Result.andThen_ok,e1]
   simp
  ·simp only[XG,hh,hl,Sem.run_bind,Sem.run_pure,Result.andThen_ok,e1]
   rw[s1 h0 (by omega)]
   simp
theorem Jkm{Y:Tab}(hT:Q4 P Y){s t e:TypeId}{te ee se:TE}(ht:Qh Y t=some te)(kr:te.d=.string)(zk:Qh Y s=some se)(wy:se.d=.slice e)(he:Qh Y e=some ee)(hed:ee.d=.int .u8)
  {xs:List Int} {v:Value} (hD:isV (rSl (Tk .u8)) ok w xs v):(convert s t v).run P w=.ok (Ye (Qs1 xs)) w:=by
 obtain⟨A,m,c,rfl,hl,hc,hn⟩:=Z5.1 hD
 have qw:=(Jm hT zk).2; rw[wy]at qw
 have l8:=(Jm hT ht).2; rw[kr]at l8
 have im:=(Jm hT he).2; rw[hed]at im
 have wk:=run_convert_bytes_string (P:=P) w s t e A m c qw im l8
 have ka:(Conv.bytesToString (.slice A m c)).run P w=.ok (Ye (Qs1 xs)) w:=by
  cases A with
  | none =>
   have hm0:m=0:=by
    rcases XJ m with h0 | h0
    ·exact h0
    ·obtain⟨b,o,hA,_⟩:=hn h0; cases hA
   have:xs=[]:=JX (by omega)
   subst this
   simp[Conv.bytesToString,Qs1,Ye]; rfl
  | some ad =>
   have qz:(loadCells ad m).run P w=.ok (xs.map (Value.int .u8)).toArray w:=by
    have:=run_loadCells_list (P:=P) w ad (xs.map (Value.int .u8)) (fun j v hj=>by
     rw[VW]at hj
     obtain⟨y,hy,rfl⟩:=KZ.1 hj
     have n0:=(QK.1 hy).1
     obtain⟨b,o,hA,zr⟩:=hn (by omega)
     injection hA with hA
     subst hA
     obtain⟨cs,hr,ha⟩:=zr j y hy
     have bj:cs=[.int .u8 y]:=hr
     subst bj
     have:=(ha 0 _ rfl).2
     rw[Hy]
     simpa[Tk]using this)
    simpa[hl]using this
   rw[run_bytesToString w ad m c xs qz]
   have:=Qpl xs []
   simp only[QC]at this
   show Result.ok (Value.string (xs.foldl _ (ByteArray.mk ([]:List UInt8).toArray))) w=_
   rw[this]; rfl
 simp[wk,ka]
def Qp1(P:Program)(S:St)(cur:Va)(o:Oper)(av:AV):Prop :=
 ∀{β:Nat→Nat} {ρ:Nat→Value} {ok:Ok} {a:Act} {w:World},Cb β ρ ok S a w→Ju a cur →
  ∃cs,(execOp a.eval o).run P w=.ok (.value (av.val cs)) w∧cr β ρ (ok) w false av cs
theorem Qp2{Y:TX}(hT:Q4 P Y.T){R:Type}{o:Oper}{op:Op}(kg:o.op=op){k:AV→Option R}{r:R}(hv:tot Y S cur op k=some r):∃av,k av=some r∧Qp1 P S cur o av:=by
 unfold tot at hv
 split at hv
 ·rename_i av iq
  exact⟨av,hv,fun {β ρ ok a w} h hc=>Qie hT h hc (by rw[kg]; exact iq)⟩
 ·cases hv
theorem Jba{Y:TX}(hT:Q4 P Y.T){R:Type}{o:Oper}{op:Op}(kg:o.op=op){k:AV→Option R}{r:R}(hv:Qkh Y S cur op k=some r):∃av,k av=some r∧Qp1 P S cur o av:=by
 unfold Qkh at hv
 split at hv
 ·
  rename_i b t x y yt
  split at hv
  ·exact Qp2 hT kg hv
  ·rename_i hk
   split at hv
   ·rename_i u v hu mu
    split at hv
    ·rename_i p q hp hq
     obtain⟨s,hs,wg⟩:=Yk hv
     refine⟨_,wg,fun {β ρ ok a w} h hc=>⟨[Ye s],?_,rfl⟩⟩
     have h1:=h.str hc hu hp
     have h2:=h.str hc mu hq
     have hb:b=.add:=by
      have:=Rt hk
      simpa using this
     subst hb
     unfold Jj4 at hs
     split at hs
     ·rename_i hle
      have hq:=(Option.some.inj hs).symm
      subst hq
      have hr:(Op.stringOp .add (ByteArray.mk p.toArray) (ByteArray.mk q.toArray)).run P w=.ok (.string (ByteArray.mk (p++q).toArray)) w:=by
       rw[run_string_add_sum _ _ _ (by exact hle)]
       congr 2
      unfold execOp
      rw[kg]
      simp only[h1,h2,Ye]
      simp[eqGuard_add,binOp_string_add,hr,AV.val,AV.isAgg,Ty.agg,Ye]
     ·cases hs
    ·exact Qp2 hT kg hv
   ·cases hv
  ·rename_i n qm hn5
   split at hv
   ·rename_i u v hu mu
    split at hv
    ·rename_i kk p k2 q hp hq
     have hb:b≠.eql∧b≠.neq:=by
      constructor<;>(rintro rfl; exact qm (by rfl))
     have fin:∀z,(∀w:World,(binOp b t (.int kk p) (.int k2 q)).run P w=.ok (.int kk z) w)→Qp1 P S cur o (.d (.int kk) z):=by
      intro z hz β ρ ok a w h hc
      have h1:=h.int hc hu hp
      have h2:=h.int hc mu hq
      refine⟨[.int kk z],?_,rfl⟩
      unfold execOp
      rw[kg]
      simp only[h1,h2]
      have hg:eqGuard b t x y (.int kk p) (.int k2 q)=pure ():=by
       unfold eqGuard
       cases b<;>simp_all
      simp[hg,hz,AV.val,AV.isAgg,Ty.agg]
     split at hv
     ·rename_i yy
      obtain⟨hs,ux⟩:=bvT hv
      have:=C4 hs
      subst this
      obtain⟨z,hz,wg⟩:=Yk ux
      have hb:b=.quo:=by
       have:=Rt yy
       simpa using this
      subst hb
      exact⟨_,wg,fin z fun w=>Jj7 hz w⟩
     ·rename_i yy
      obtain⟨hs,ux⟩:=bvT hv
      have:=C4 hs
      subst this
      obtain⟨z,hz,wg⟩:=Yk ux
      have hb:b=.rem:=by
       have:=Rt yy
       simpa using this
      subst hb
      exact⟨_,wg,fin z fun w=>Jj8 hz w⟩
     ·rename_i yy
      obtain⟨z,hz,wg⟩:=Yk hv
      have hb:b=.shl:=by
       have:=Rt yy
       simpa using this
      subst hb
      exact⟨_,wg,fin z fun w=>Jka hz w⟩
     ·rename_i yy
      obtain⟨z,hz,wg⟩:=Yk hv
      have hb:b=.shr:=by
       have:=Rt yy
       simpa using this
      subst hb
      exact⟨_,wg,fin z fun w=>Jj9 hz w⟩
     ·cases hv
    ·cases hv
   ·cases hv
 ·
  rename_i t x i
  split at hv
  ·rename_i te v iv ku hx hi
   split at hv
   ·rename_i ki j e ue zk
    have kr:te.d=.slice e:=by
     unfold Y0 at zk
     split at zk
     ·rename_i hd; simp at zk; subst zk; assumption
     ·cases zk
    split at hv
    ·rename_i ee he
     have run:∀{β:Nat→Nat} {ρ:Nat→Value} {ok:Ok} {a:Act} {w:World},Cb β ρ ok S a w→Ju a cur→∀{b of m c:Nat},a.eval x=.slice (some ⟨b,of,none⟩) m c→0≤j→j<(m:Int) →
       (execOp a.eval o).run P w=.ok (.value (.pointer (some ⟨b,of+j.toNat*ee.size,none⟩))) w:=by
      intro β ρ ok a w h hc b of m c hv h0 h1
      have wq:(underlying t).run P w=.ok (.slice e) w:=by rw[Jx hT w ku,kr]
      have mr:=h.int hc hi ue
      unfold execOp
      rw[kg]
      simp only[hv,mr]
      simp[Instr.indexAt,asIntOf,wq,h0,h1,J6 hT w he,Addr.add_lit]
     have data:∀{u:Ty} {xs:List u.De} {y:u.De},ee.size=u.size→idx xs j=some y→(∀{β:Nat→Nat} {ρ:Nat→Value} {ok:Ok} {a:Act} {w:World},Cb β ρ ok S a w→Ju a cur→isV (rSl (rt u)) (ok) w xs (a.eval x)) →
       Qp1 P S cur o (.a u y):=by
      intro u xs y ko hy vr β ρ ok a w h hc
      have h0:=(W8 hy).1
      obtain⟨A,c,yx,hsl'⟩:=Qjz (vr h hc)
      obtain⟨b,of,rfl,hlt,hat⟩:=Je6 (Z5.1 hsl') (W8 hy).2
      refine⟨[.pointer (some ⟨b,of+j.toNat*u.size,none⟩)],?_,_,rfl,by rw[←Ji]; exact hat⟩
      rw[←ko]
      exact run h hc yx h0 (by omega)
     split at hv
     ·rename_i u xs
      obtain⟨hb,hv⟩:=bvT hv
      obtain⟨y,hy,wg⟩:=Yk hv
      refine⟨_,wg,data (QJ hb) hy fun {β ρ ok a w} h hc=>Qoq h hc hx rfl⟩
     ·rename_i id
      split at hv
      ·rename_i e' u xs ho
       obtain⟨hb,hv⟩:=bvT hv
       simp only[QQ]at hb
       obtain⟨y,hy,wg⟩:=Yk hv
       refine⟨_,wg,fun {β ρ ok a w} h hc=>?_⟩
       obtain⟨cs,h1,⟨v0,rfl,yb⟩,A,m,c,hρ⟩:=h.ev hc hx
       have hml:=(h.mm _ _ ho)
       obtain⟨hl,cs2,kb,hr⟩:=hml
       have yx:a.eval x=ρ id:=by
        rcases yb with rfl | ⟨vz,_⟩
        ·exact h1
        ·rw[vz]at hl
         have hlt:=(QK.1 (W8 hy).2).1
         simp only[Zv]at hl
         omega
       rw[hρ]at hl kb yx
       simp only[Zv]at hl kb
       have h0:=(W8 hy).1
       have hlt:=(QK.1 (W8 hy).2).1
       rcases kb.2 with⟨hv,hm⟩ | ⟨g,cap,cu,fz,hv,_⟩
       ·omega
       ·injection hv with e1 e2 e3
        subst e1
        refine⟨[.pointer (some ⟨g,0+j.toNat*ee.size,none⟩)],run h hc yx h0 (by omega),g,by rw[hρ]; rfl,?_⟩
        have ko:=QJ hb.1
        simp[J8,PS.off,ko]
      ·rename_i e' u xs ho
       obtain⟨hb,hv⟩:=bvT hv
       obtain⟨y,hy,wg⟩:=Yk hv
       refine⟨_,wg,data (QJ hb) hy fun {β ρ ok a w} h hc=>Qoq h hc hx (by simp[Jfm,ho])⟩
      ·cases hv
     ·rename_i id j0 nn0
      split at hv
      ·rename_i ia a0 nn hla vi ej
       obtain⟨hb,hv⟩:=bvT hv
       simp only[QQ]at hb
       have e1:=Qw4 hla; have e2:=Qw4 vi; have e3:=Qw4 ej
       have hlt:=QF hb.2
       refine⟨_,hv,fun {β ρ ok a w} h hc=>?_⟩
       obtain⟨cs,h1,A,c,rfl,hA⟩:=h.ev hc hx
       have hA':=hA (by rw[e3]; simp only[VY]; omega)
       subst hA'
       have yx:a.eval x=.slice (some ⟨β id,j0.toNat,none⟩) nn0.toNat c:=h1
       refine⟨[.pointer (some ⟨β id,j0.toNat+j.toNat*ee.size,none⟩)],run h hc yx (by omega) (by rw[e1,e3]; simp only[VY]; omega),?_⟩
       have ua:=QJ hb.1
       show [_]=[_]
       rw[ua,e1,e2]
       simp[J8,PS.off]
      ·cases hv
     ·cases hv
    ·cases hv
   ·cases hv
  ·cases hv
 ·
  rename_i t x i
  split at hv
  ·rename_i te v iv ku hx hi
   split at hv
   ·rename_i ki j l ue hl hd
    obtain⟨c,yp,wg⟩:=Yk hv
    refine⟨_,wg,fun {β ρ ok a w} h hc=>⟨[.int .u8 c],?_,rfl⟩⟩
    have h1:=h.str hc hx hl
    have h2:=h.int hc hi ue
    obtain⟨h0,b,hb,rfl⟩:=Jj3 yp
    have wq:(underlying t).run P w=.ok .string w:=by rw[Jx hT w ku,hd]
    have ud:(if 0≤j then(ByteArray.mk l.toArray)[j.toNat]? else none)=some b:=by
     rw[if_pos h0]
     have hlen:j.toNat<l.length:=(QK.1 hb).1
     have h1:j.toNat<(ByteArray.mk l.toArray).size:=hlen
     rw[getElem?_pos (ByteArray.mk l.toArray) j.toNat h1]
     have:=(QK.1 hb).2
     rw[←this]
     rfl
    unfold execOp
    rw[kg]
    simp only[h1,h2]
    simp only[Instr.index,asIntOf,Sem.run_bind,Sem.run_pure,Result.andThen_ok,wq,Ye,ud]
    rfl
   ·rename_i ki j m e ue _ hd
    split at hv
    ·rename_i m' u xs ee he _
     obtain⟨hb,hv⟩:=bvT hv
     obtain⟨y,hy,wg⟩:=Yk hv
     simp only[QQ]at hb
     have e1:=QJ hb.1.1
     subst e1
     have ko:=QJ hb.1.2
     have xg:=bEq hb.2
     refine⟨_,wg,fun {β ρ ok a w} h hc=>?_⟩
     have h2:=h.int hc hi ue
     obtain⟨c1,h1,hl,hr⟩:=h.ev hc hx
     have k5:a.eval x=.agg c1.toArray:=h1
     have hr:Kc (rt u) ok w xs c1:=hr
     obtain⟨h0,hyj⟩:=W8 hy
     have zy:=Fw hr hyj
     rw[Ji]at zy
     have hlt:j.toNat<xs.length:=(QK.1 hyj).1
     refine⟨(c1.drop (j.toNat*u.size)).take u.size,?_,zy⟩
     have vq:(part e c1.toArray (j.toNat*ee.size)).run P w=.ok ((AV.d u y).val ((c1.drop (j.toNat*u.size)).take u.size)) w:=by
      refine Qph hT w he c1 _ ?_
      rw[xg,ko]
      simp only[AV.val,AV.isAgg]
      cases hua:u.agg with
      | true=>simp
      | false =>
       have h1s:=Jfc hua
       have xl:=(rt u).len zy
       rw[Ji,h1s]at xl
       rw[h1s]
       simp only[XQ,if_false,cond_false]
       cases hq:c1[j.toNat*1]? with
       | none =>
        have:=List.getElem?_eq_none_iff.1 hq
        simp only[QO,JV]at xl
        omega
       | some q =>
        have ir:=(QK.1 hq).1
        rw[XY ir,(QK.1 hq).2]
        simp
     have wq:(underlying t).run P w=.ok (.array m e) w:=by rw[Jx hT w ku,hd]
     have hso:(Go.sizeOf e).run P w=.ok ee.size w:=J6 hT w he
     have ak:0≤j∧j<(m:Int):=⟨h0,by omega⟩
     unfold execOp
     rw[kg]
     simp only[k5,h2]
     simp only[Instr.index,asIntOf,Sem.run_bind,Sem.run_pure,Result.andThen_ok,wq]
     rw[if_pos ak]
     simp only[Sem.run_bind,hso,Result.andThen_ok,vq]
    ·cases hv
   ·cases hv
  ·cases hv
 ·
  rename_i t x
  split at hv
  ·rename_i e id j sz ps he hx
   split at hv
   ·rename_i e' u xs ho
    obtain⟨hb,hv⟩:=bvT hv
    simp only[QQ]at hb
    obtain⟨y,hy,hv⟩:=Yk hv
    split at hv
    ·rename_i z0 hz
     obtain⟨yd,wg⟩:=bvT hv
     simp only[QQ]at yd
     obtain⟨⟨⟨b1,b2⟩,b3⟩,b4⟩:=yd
     have b1:=QJ b1
     have b2:=bEq b2
     refine⟨_,wg,fun {β ρ ok a w} h hc=>?_⟩
     obtain⟨cs,h1,g',yi,rfl⟩:=h.ev hc hx
     obtain⟨hl,cs2,kb,hr⟩:=h.2 _ _ ho
     have h0:=(W8 hy).1
     have hlt:=(QK.1 (W8 hy).2).1
     rcases kb.2 with⟨hv,hm⟩ | ⟨g,cap,cu,fz,hv,_,hh,yk,hle,xh,zr,yu⟩
     ·rw[hv]at hl; simp only[Zv]at hl; omega
     ·have bf:g'=g:=by rw[hv]at yi; simp[Value.ownBlock]at yi; omega
      subst bf
      have ko:=QJ hb.1
      have ao:=Ji u
      have zy:=Fw hr (W8 hy).2
      rw[ao]at zy
      obtain⟨h3,h4⟩:=Qgi (β:=β) (ρ:=ρ) (x:=.d u y) hz zy
      have hlen:=U1 h3
      refine⟨_,?_,h3⟩
      have k5:a.eval x=.pointer (some ⟨g',J8 (PS.i j sz::ps),none⟩):=h1
      have hL:((cs2.drop (j.toNat*u.size)).take u.size).length=u.size:=U1 (x:=.d u y) (show cr β ρ _ w false (.d u y) _ from zy)
      unfold execOp
      rw[kg]
      simp only[k5,Sem.run_bind]
      rw[Fz hT he (y:=z0) (cs:=(List.drop (J8 ps) (List.take u.size (List.drop (j.toNat*u.size) cs2))).take z0.size) (by rw[hlen]; exact b1) b2 (fun ha=>by
       rw[ha]at b4
       rw[hlen]; exact QJ (by simpa using b4)) (fun q v hq=>by
        have sy:q<z0.size:=by
         have:=(QK.1 hq).1
         omega
        rw[JQ sy,JZ]at hq
        have ek:J8 ps+q<u.size:=by omega
        rw[JQ ek,JZ,←yu,JD]at hq
        split at hq
        ·have e:J8 (PS.i j sz::ps)+q=j.toNat*u.size+(J8 ps+q):=by simp only[J8,PS.off,ko]; omega
         rw[e]
         simp only[World.cell?,hh]
         simpa using hq
        ·cases hq)]
      rfl
    ·cases hv
   ·cases hv
  ·exact Qp2 hT kg hv
 ·
  rename_i t x lo hi
  split at hv
  ·rename_i te v ku hx
   split at hv
   ·rename_i hd
    split at hv
    ·rename_i l hl
     split at hv
     ·rename_i p q hp hq
      obtain⟨s,hs,wg⟩:=Yk hv
      refine⟨_,wg,fun {β ρ ok a w} h hc=>⟨[Ye s],?_,rfl⟩⟩
      have h1:=h.str hc hx hl
      obtain⟨h0,k5,h2,zp,vk⟩:=slc_ok hs
      have wq:(underlying t).run P w=.ok .string w:=by rw[Jx hT w ku,hd]
      have hb:=N6 (P:=P) (w:=w) (isS:=false) (cap:=l.length) (len:=l.length) (h.bnd hc hp) (h.bnd hc hq) h0 k5 (by omega) (QD _)
      have hex:(ByteArray.mk l.toArray).extract p.toNat q.toNat=ByteArray.mk s.toArray:=by
       rw[ByteArray.extract_mk,zp]; congr 2; congr 1; omega
      unfold execOp
      rw[kg]
      simp only[h1]
      have ko:(ByteArray.mk l.toArray).size=l.length:=rfl
      simp only[Instr.sliceAt,Sem.run_bind,wq,Result.andThen_ok,Instr.slice,Ye,KN,Option.isSome_none,XQ,if_false,Sem.run_pure,ko,hb,hex]
      rfl
     ·cases hv
    ·cases hv
   ·rename_i e hd
    split at hv
    ·rename_i ee u xs he vr
     obtain⟨ib,hv⟩:=bvT hv
     have ko:=QJ ib
     split at hv
     ·rename_i p q hp hq
      obtain⟨ys,zp,wg⟩:=Yk hv
      refine⟨_,wg,fun {β ρ ok a w} h hc=>?_⟩
      have hD:=Qoq h hc hx vr
      obtain⟨A,m,c,hv,hl,yg,hn⟩:=Z5.1 hD
      obtain⟨h0,h1,h2,pc,vk⟩:=slc_ok zp
      have wq:(underlying t).run P w=.ok (.slice e) w:=by rw[Jx hT w ku,hd]
      have hb:=N6 (P:=P) (w:=w) (isS:=true) (len:=m) (cap:=c) (h.bnd hc hp) (by rw[←hl]; exact h.bnd hc hq) h0 h1 (by omega) yg
      refine⟨[.slice (if c=p.toNat then A else A.map (·.add (p.toNat*u.size))) ys.length (c - p.toNat)],?_,?_⟩
      ·unfold execOp
       rw[kg]
       have hlen:q.toNat - p.toNat=ys.length:=by omega
       simp only[hv]
       simp[Instr.sliceAt,wq,Instr.slice,hb,J6 hT w he,ko,hlen,AV.val,AV.isAgg,Ty.agg]
      ·refine⟨_,rfl,⟨_,_,_,rfl,rfl,by omega,fun zq=>?_⟩⟩
       obtain⟨b,of,rfl,wz⟩:=hn (by omega)
       have k8:¬ c=p.toNat:=by omega
       rw[if_neg k8]
       refine⟨b,of+p.toNat*u.size,by simp[Addr.add_lit],fun i y hy=>?_⟩
       have hi:i<(q - p).toNat:=by have:=(QK.1 hy).1; omega
       rw[pc,JQ hi,JZ]at hy
       obtain⟨cs,hr,ha⟩:=wz _ y hy
       refine⟨cs,hr,?_⟩
       rw[Ji]at ha ⊢
       have e4:of+(p.toNat+i)*u.size=of+p.toNat*u.size+i*u.size:=by rw[QP]; omega
       rw[←e4]
       exact ha
     ·cases hv
    ·cases hv
   ·cases hv
  ·cases hv
 ·
  rename_i t x lo hi mx
  split at hv
  ·rename_i te v nz mv ku hx qy ra
   split at hv
   ·rename_i e k1 b k2 mm hd hib nw
    split at hv
    ·rename_i ee u xs p he vr hp
     obtain⟨ib,hv⟩:=bvT hv
     have ko:=QJ ib
     obtain⟨_,uz,hv⟩:=Yk hv
     obtain⟨uz,_⟩:=bvT uz
     simp only[QQ,decide_eq_true_eq]at uz
     obtain⟨ys,zp,wg⟩:=Yk hv
     refine⟨_,wg,fun {β ρ ok a w} h hc=>?_⟩
     have hD:=Qoq h hc hx vr
     obtain⟨A,m,c,hv,hl,yg,hn⟩:=Z5.1 hD
     obtain⟨h0,h1,h2,pc,vk⟩:=slc_ok zp
     have wy:te.d=.slice e:=by
      cases wy:te.d<;>rw[wy]at hd<;>simp[Y0]at hd
      subst hd; rfl
     have wq:(underlying t).run P w=.ok (.slice e) w:=by rw[Jx hT w ku,wy]
     have hb:=Ql9 (P:=P) (w:=w) (len:=m) (cap:=c) (h.bnd hc hp) (h.int hc qy hib) (h.int hc ra nw) h0 h1 uz.1 (by omega)
     refine⟨[.slice (if mm.toNat=p.toNat then A else A.map (·.add (p.toNat*u.size))) ys.length (mm.toNat - p.toNat)],?_,?_⟩
     ·unfold execOp
      rw[kg]
      have hlen:b.toNat - p.toNat=ys.length:=by omega
      simp only[hv]
      simp only[XG]at hb
      simp[Instr.sliceAt,wq,Instr.slice,hb,J6 hT w he,ko,hlen,AV.val,AV.isAgg,Ty.agg]
     ·refine⟨_,rfl,⟨_,_,_,rfl,rfl,by omega,fun zq=>?_⟩⟩
      obtain⟨bb,of,rfl,wz⟩:=hn (by omega)
      have k8:¬ mm.toNat=p.toNat:=by omega
      rw[if_neg k8]
      refine⟨bb,of+p.toNat*u.size,by simp[Addr.add_lit],fun i y hy=>?_⟩
      have hi:i<(b - p).toNat:=by have:=(QK.1 hy).1; omega
      rw[pc,JQ hi,JZ]at hy
      obtain⟨cs,hr,ha⟩:=wz _ y hy
      refine⟨cs,hr,?_⟩
      rw[Ji]at ha ⊢
      have e4:of+(p.toNat+i)*u.size=of+p.toNat*u.size+i*u.size:=by rw[QP]; omega
      rw[←e4]
      exact ha
    ·cases hv
   ·cases hv
  ·cases hv
 ·
  rename_i s t x
  split at hv
  ·rename_i se te zk ku
   split at hv
   ·rename_i e hd mw
    have wy:se.d=.slice e:=by
     cases wy:se.d<;>rw[wy]at hd<;>simp[Y0]at hd
     subst hd; rfl
    split at hv
    ·rename_i _ z0 _ _ v he hx
     split at hv
     ·rename_i xs wt
      refine⟨_,hv,fun {β ρ ok a w} h hc=>⟨[Ye (Qs1 xs)],?_,rfl⟩⟩
      have xg:(Ty.sl (.int .u8)).agg=v.isAgg:=by
       cases v with
       | d t' y'=>obtain⟨rfl,_⟩:=Ty.cast_ok (by simpa only[asD]using wt); rfl
       | ag l=>simp[asD]at wt
       | _=>rfl
      have hD:=h.asD hc hx wt xg
      have:=Jkm hT ku mw zk wy he rfl hD
      unfold execOp
      rw[kg]
      simp only[Sem.run_bind,this]
      rfl
     ·cases hv
    ·cases hv
   ·exact Qp2 hT kg hv
  ·cases hv
 ·exact Qp2 hT kg hv
end
section
variable {X:Cx} {β:Nat→Nat} {ρ:Nat→Value} {S:St} {a:Act} {w:World} {cur:Va}
theorem Rel.int(h:Rel X β ρ S a w)(hc:Ju a cur){x:Operand}{v:AV}{k:IntKind}{n:Int}(hx:Gx.ev S cur x=some v)(hi:Xr v=some (k,n)):a.eval x=.int k n:=h.toW.int hc hx hi
theorem Rel.mm(h:Rel X β ρ S a w):∀id o,Qe S.mem id=some o→(Qx β ρ id o).p (okR X β ρ S.mem w) w:=fun _ _ ho=>(h.ob ho).1
theorem Rel.asD(h:Rel X β ρ S a w)(hc:Ju a cur){x:Operand}{v:AV}{t:Ty}{y:t.De}(hx:Gx.ev S cur x=some v)(hd:Gx.asD S.mem v t=some y)(ht:t.agg=v.isAgg) :
  isV (rt t) (okR X β ρ S.mem w) w y (a.eval x):=h.toW.asD hc hx hd ht
end
end Gx

/- Elements of arrays that lie in variables; parts of such arrays as strings. -/
namespace Gx
open Go Go.RowKit Gd
set_option linter.unusedVariables false
set_option linter.unusedSimpArgs false
set_option linter.constructorNameAsVariable false
def Jo6:List PS→Bool
 | []=>false
 | .f _ _::l=>Jo6 l
 | .i _ _::_=>true
section
variable {R:Type}
def Qp3:List PS→AV→(AV→Option R)→Option R
 | [],x,k=>k x
 | .f i off::ps,x,k=>match nav [.f i off] x with
  | some y=>Qp3 ps y k
  | none=>none
 | .i j sz::ps,x,k=>match x with
  | .d (.arr _ u) xs=>bif Nat.beq sz u.size then(idx xs j).bind fun y=>Qp3 ps (.d u y) k else none
  | _=>none
def Qne(M:List (Nat×Ob)):List PS→AV→AV→(AV→Option R)→Option R
 | [],x,v,k=>bif Qib x v then k v else none
 | .f i off::ps,x,v,k=>match nav [.f i off] x with
  | some y=>Qne M ps y v fun z=>match Qnd [.f i off] x z with
   | some x'=>k x'
   | none=>none
  | none=>none
 | .i j sz::ps,x,v,k=>match x with
  | .d (.arr n u) xs=>bif Nat.beq sz u.size then(idx xs j).bind fun y=>Qne M ps (.d u y) v fun z=>match asD M z u with
   | some y'=>k (.d (.arr n u) (xs.set j.toNat y'))
   | none=>none else none
  | _=>none
end
theorem Q8c{α:Type}{cs:List α}{o n p m:Nat}(h:p+m≤n):(((cs.drop o).take n).drop p).take m=(cs.drop (o+p)).take m:=by
 rw[KG,XL,ZP,ZY (by omega)]
theorem Jfn{α:Type}{cs ds:List α}{o n p:Nat}(h:p+ds.length≤n) :
  cs.take o++(((cs.drop o).take n).take p++ds++((cs.drop o).take n).drop (p+ds.length))++cs.drop (o+n)=cs.take (o+p)++ds++cs.drop (o+p+ds.length):=by
 have e1:cs.take (o+p)=cs.take o++((cs.drop o).take n).take p:=by rw[List.take_add,ZP,ZY (by omega)]
 have e2:cs.drop (o+p+ds.length)=((cs.drop o).take n).drop (p+ds.length)++cs.drop (o+n):=by
  have e3:cs.drop (o+n)=(cs.drop (o+(p+ds.length))).drop (n - (p+ds.length)):=by rw[XL]; congr 1; omega
  rw[KG,XL,e3,JH,ZG]
 rw[e1,e2]
 simp only[QH]
theorem Qw5{u:Ty}{n:Nat}{xs:List u.De}{ok:Ok}{w:World}{cs:List Value}(h:(rt (.arr n u)).rep ok w xs cs){j:Int}{y:u.De}(hy:idx xs j=some y) :
  (rt u).rep ok w y ((cs.drop (j.toNat*u.size)).take u.size)∧j.toNat*u.size+u.size≤cs.length∧0≤j∧j.toNat<n:=by
 obtain⟨hn,ha⟩:=h
 have h0:=(W8 hy).1
 have hlt:=(QK.1 (W8 hy).2).1
 have hl:=Qzu ha
 have hr:=Fw ha (W8 hy).2
 rw[Ji]at hr hl
 refine⟨hr,?_,h0,by omega⟩
 rw[hl]
 have:=JG u.size (show j.toNat+1≤xs.length by omega)
 rw[QP]at this
 omega
theorem Qor{R:Type}{r:R}:∀{ps:List PS} {x:AV} {k:AV→Option R},Qp3 ps x k=some r →
  ∃y,k y=some r∧∀{β:Nat→Nat} {ρ:Nat→Value} {ok:Ok} {w:World} {cs:List Value},cr β ρ ok w false x cs→cr β ρ ok w false y ((cs.drop (J8 ps)).take y.size)∧J8 ps+y.size≤cs.length
 | [],x,k,h=>by
  refine⟨x,h,fun {β ρ ok w cs} hc=>?_⟩
  have:=U1 hc
  simp only[J8,KY]
  rw[JP (by omega)]
  exact⟨hc,by omega⟩
 | .f i off::ps,x,k,h=>by
  simp only[Qp3]at h
  split at h
  ·rename_i y hy
   obtain⟨z,hz,hk⟩:=Qor h
   refine⟨z,hz,fun {β ρ ok w cs} hc=>?_⟩
   obtain⟨h1,h2⟩:=Qgi hy hc
   obtain⟨h3,h4⟩:=hk h1
   have hl:=U1 h1
   rw[hl]at h4
   have e:J8 (PS.f i off::ps)=J8 [PS.f i off]+J8 ps:=by simp[J8]
   rw[Q8c h4]at h3
   rw[e]
   exact⟨h3,by omega⟩
  ·cases h
 | .i j sz::ps,x,k,h=>by
  simp only[Qp3]at h
  split at h
  ·rename_i n u xs
   obtain⟨hb,h1⟩:=bvT h
   have ko:=QJ hb
   subst ko
   obtain⟨y,hy,h2⟩:=Yk h1
   obtain⟨z,hz,hk⟩:=Qor h2
   refine⟨z,hz,fun {β ρ ok w cs} hc=>?_⟩
   obtain⟨h1,h2,_⟩:=Qw5 hc hy
   have k5:cr β ρ ok w false (.d u y) ((cs.drop (j.toNat*u.size)).take u.size):=h1
   obtain⟨h3,h4⟩:=hk k5
   have hl:((cs.drop (j.toNat*u.size)).take u.size).length=u.size:=U1 k5
   rw[hl]at h4
   rw[Q8c h4]at h3
   exact⟨h3,by simp only[J8,PS.off]; omega⟩
  ·cases h
theorem Qw6{R:Type}{r:R}{M:List (Nat×Ob)}{v:AV}:∀{ps:List PS} {x:AV} {k:AV→Option R},Qne M ps x v k=some r →
  ∃x',k x'=some r∧∀{β:Nat→Nat} {ρ:Nat→Value} {ok:Ok} {w:World} {cs ds:List Value},(∀id o,Qe M id=some o→(Qx β ρ id o).p ok w)→cr β ρ ok w false v ds→cr β ρ ok w false x cs →
   cr β ρ ok w false x' (cs.take (J8 ps)++ds++cs.drop (J8 ps+ds.length))∧J8 ps+ds.length≤cs.length
 | [],x,k,h=>by
  simp only[Qne]at h
  obtain⟨hb,h⟩:=bvT h
  refine⟨v,h,fun {β ρ ok w cs ds} _ hv hc=>?_⟩
  have:Qnd [] x v=some v:=by simp only[Qnd,hb,cond_true]
  exact Tw hv this hc
 | .f i off::ps,x,k,h=>by
  simp only[Qne]at h
  split at h
  ·rename_i y hy
   obtain⟨z,hz,hk⟩:=Qw6 h
   split at hz
   ·rename_i x' wz
    refine⟨x',hz,fun {β ρ ok w cs ds} hM hv hc=>?_⟩
    obtain⟨h1,h2⟩:=Qgi hy hc
    have hl:=U1 h1
    obtain⟨h3,h4⟩:=hk hM hv h1
    rw[hl]at h4
    obtain⟨h5,h6⟩:=Tw h3 wz hc
    have hlen:(((cs.drop (J8 [PS.f i off])).take y.size).take (J8 ps)++ds++((cs.drop (J8 [PS.f i off])).take y.size).drop (J8 ps+ds.length)).length=y.size:=by
     simp only[QI,QO,JV]
     simp only[QO,JV]at hl
     omega
    rw[hlen,Jfn h4]at h5
    have e:J8 (PS.f i off::ps)=J8 [PS.f i off]+J8 ps:=by simp[J8]
    rw[e]
    exact⟨h5,by omega⟩
   ·cases hz
  ·cases h
 | .i j sz::ps,x,k,h=>by
  simp only[Qne]at h
  split at h
  ·rename_i n u xs
   obtain⟨hb,h1⟩:=bvT h
   have ko:=QJ hb
   subst ko
   obtain⟨y,hy,h2⟩:=Yk h1
   obtain⟨z,hz,hk⟩:=Qw6 h2
   split at hz
   ·rename_i y' qv
    refine⟨_,hz,fun {β ρ ok w cs ds} hM hv hc=>?_⟩
    obtain⟨h1,h2,h0,hjn⟩:=Qw5 hc hy
    have k5:cr β ρ ok w false (.d u y) ((cs.drop (j.toNat*u.size)).take u.size):=h1
    have hl:((cs.drop (j.toNat*u.size)).take u.size).length=u.size:=U1 k5
    obtain⟨h3,h4⟩:=hk hM hv k5
    rw[hl]at h4
    have h5:=Z6 hM qv h3
    obtain⟨hn,ha⟩:=(show xs.length=n∧Kc (rt u) ok w xs cs from hc)
    have h6:=Qpp ha (i:=j.toNat) (by omega) h5
    have hlen:(((cs.drop (j.toNat*u.size)).take u.size).take (J8 ps)++ds++((cs.drop (j.toNat*u.size)).take u.size).drop (J8 ps+ds.length)).length=u.size:=by
     simp only[QI,QO,JV]
     simp only[QO,JV]at hl
     omega
    rw[hlen,Ji,Jfn h4]at h6
    exact⟨⟨by simpa using hn,h6⟩,by simp only[J8,PS.off]; omega⟩
   ·cases hz
  ·cases h
def Qki:TypeDesc→Option (Nat×TypeId)
 | .array n e=>some (n,e)
 | _=>none
theorem Qt4{d:TypeDesc}{n:Nat}{e:TypeId}(h:Qki d=some (n,e)):d=.array n e:=by
 unfold Qki at h
 split at h
 ·simp at h; obtain⟨rfl,rfl⟩:=h; rfl
 ·cases h
section
variable {R:Type} (Y:TX) (S:St) (cur:Va)
def Jkn:Op→Nat
 | .indexAddr t _ _=>match Qh Y.T t with
  | some te=>bif isSomeA (Qki te.d)then 1 else 0
  | none=>0
 | .load _ x=>match ev S cur x with
  | some (.p _ path)=>bif Jo6 path then 2 else 0
  | _=>0
 | .slice t _ _ _ none=>match Qh Y.T t with
  | some te=>bif isSomeA (Qki te.d)then 3 else 0
  | none=>0
 | .convert _ _ x=>match ev S cur x with
  | some (.w _ _ _)=>4
  | _=>0
 | _=>0
where isSomeA {α:Type}:Option α→Bool
 | some _=>true
 | none=>false
def Qt5(op:Op)(k:AV→Option R):Option R:=match op with
 | .indexAddr t x i=>match Qh Y.T t,ev S cur x,ev S cur i with
  | some te,some v,some iv=>match Xr iv,Qki te.d with
   | some (_,j),some (n,e)=>match Qh Y.T e,v with
    | some ee,.a (.arr m u) xs=>bif Nat.beq m n&&Nat.beq ee.size u.size then(idx xs j).bind fun y=>k (.a u y)else none
    | some ee,.p id path=>match Qe S.mem id with
     | some (.var _ c)=>Qp3 path c fun y=>match y with
      | .d (.arr m u) xs=>bif Nat.beq m n&&Nat.beq ee.size u.size then(idx xs j).bind fun _=>k (.p id (path++[.i j u.size]))else none
      | _=>none
     | _=>none
    | _,_=>none
   | _,_=>none
  | _,_,_=>none
 | .load t x=>match Qh Y.T t,ev S cur x with
  | some e,some (.p id path)=>match Qe S.mem id with
   | some (.var _ c)=>Qp3 path c fun y=>bif Nat.beq e.size y.size&&(X9 e.d==y.isAgg)&&y.isVal&&(y.isAgg||Nat.beq y.size 1)then k y else none
   | _=>none
  | _,_=>none
 | .slice t x lo hi none=>match Qh Y.T t,ev S cur x with
  | some te,some (.p id [])=>match Qki te.d,Qe S.mem id with
   | some (n,e),some (.var _ (.d (.arr m (.int .u8)) xs))=>match Qh Y.T e,bnd S cur 0 lo,bnd S cur n hi with
    | some ee,some a,some b=>bif Nat.beq m n&&Nat.beq ee.size 1 then(slc xs a b).bind fun _=>k (.w id a (b - a))else none
    | _,_,_=>none
   | _,_=>none
  | _,_=>none
 | .convert s t x=>match Qh Y.T s,Qh Y.T t,ev S cur x with
  | some se,some te,some (.w id a n)=>match Y0 se.d,te.d,Qe S.mem id with
   | some e,.string,some (.var _ (.d (.arr m (.int .u8)) xs))=>match Qh Y.T e with
    | some ⟨_,.int .u8,_,_,_⟩=>(slc xs a (a+n)).bind fun ys=>k (.d .str (Qs1 ys))
    | _=>none
   | _,_,_=>none
  | _,_,_=>none
 | _=>none
def Qif(op:Op)(k:AV→Option R):Option R:=match Jkn Y S cur op with
 | 0=>Qkh Y S cur op k
 | _+1=>Qt5 Y S cur op k
end
section
variable {P:Program} {X:Cx} {β:Nat→Nat} {ρ:Nat→Value} {S:St} {a:Act} {w:World} {cur:Va} {ok:Ok}
theorem cell?_of_heap{b o:Nat}{cs:List Value}{t:TypeId}(h:w.heap[b]?=some (.cells cs.toArray t (0,0))):w.cell? ⟨b,o,none⟩=cs[o]?:=by simp[World.cell?,h]
theorem Jko{u:Ty}{n:Nat}{xs:List u.De}{v:Value}(h:Qpf (rt (.arr n u)) ok w xs v){j:Int}{y:u.De}(hy:idx xs j=some y) :
  ∃b of,v=.pointer (some ⟨b,of,none⟩)∧Qpf (rt u) ok w y (.pointer (some ⟨b,of+j.toNat*u.size,none⟩))∧0≤j∧j<(n:Int):=by
 obtain⟨b,of,cs,rfl,hr,hc⟩:=h
 obtain⟨h1,h2,h3,h4⟩:=Qw5 hr hy
 refine⟨b,of,rfl,⟨b,_,_,rfl,h1,fun i z hz=>?_⟩,h3,by omega⟩
 have hi:=(QK.1 hz).1
 simp only[QO,JV]at hi
 rw[JQ (by omega),JZ]at hz
 have:=hc _ z hz
 rw[ZG]
 exact this
theorem Jfo{Y:TX}(hT:Q4 P Y.T){R:Type}{o:Oper}{op:Op}(kg:o.op=op){k:AV→Option R}{r:R}(hv:Qt5 Y S cur op k=some r):∃av,k av=some r∧Qp1 P S cur o av:=by
 unfold Qt5 at hv
 split at hv
 ·
  rename_i t x i
  split at hv
  ·rename_i te v iv ku hx hi
   split at hv
   ·rename_i ki j n e ue zk
    have kr:=Qt4 zk
    have run:∀{β:Nat→Nat} {ρ:Nat→Value} {ok:Ok} {a:Act} {w:World},Cb β ρ ok S a w→Ju a cur→∀{ee:TE} {b of:Nat},Qh Y.T e=some ee→a.eval x=.pointer (some ⟨b,of,none⟩)→0≤j→j<(n:Int) →
      (execOp a.eval o).run P w=.ok (.value (.pointer (some ⟨b,of+j.toNat*ee.size,none⟩))) w:=by
     intro β ρ ok a w h hc ee b of he hv h0 h1
     have wq:(underlying t).run P w=.ok (.array n e) w:=by rw[Jx hT w ku,kr]
     have mr:=h.int hc hi ue
     unfold execOp
     rw[kg]
     simp only[hv,mr]
     simp[Instr.indexAt,asIntOf,wq,Instr.sureAddr,h0,h1,J6 hT w he,Addr.add_lit]
    split at hv
    ·rename_i ee m u xs he
     obtain⟨hb,my⟩:=bvT hv
     simp only[QQ]at hb
     have hm:=QJ hb.1
     have ko:=QJ hb.2
     obtain⟨y,hy,hk⟩:=Yk my
     refine⟨_,hk,fun {β ρ ok a w} h hc=>?_⟩
     obtain⟨cs,h1,v0,rfl,hat⟩:=h.ev hc hx
     obtain⟨b,of,rfl,h2,h3,h4⟩:=Jko hat hy
     refine⟨[.pointer (some ⟨b,of+j.toNat*u.size,none⟩)],?_,_,rfl,h2⟩
     rw[←ko]
     exact run h hc he h1 h3 (by omega)
    ·rename_i ee id path he
     split at hv
     ·rename_i tid c ho
      obtain⟨y,hy,iu⟩:=Qor hv
      split at hy
      ·rename_i m u xs
       obtain⟨hb,my⟩:=bvT hy
       simp only[QQ]at hb
       have hm:=QJ hb.1
       have ko:=QJ hb.2
       obtain⟨y,qv,hk⟩:=Yk my
       refine⟨_,hk,fun {β ρ ok a w} h hc=>?_⟩
       obtain⟨cs,h1,h2⟩:=h.ev hc hx
       have zj:cs=_:=h2
       subst zj
       obtain⟨cs0,hh,rq⟩:=h.2 _ _ ho
       obtain⟨q1,q2⟩:=iu rq
       obtain⟨_,_,h3,h4⟩:=Qw5 (show(rt (.arr m u)).rep ok w xs _ from q1) qv
       refine⟨[.pointer (some ⟨β id,J8 (path++[PS.i j u.size]),none⟩)],?_,rfl⟩
       have:=run h hc he h1 h3 (by omega)
       rw[this,ko,N5]
       simp[J8,PS.off,AV.val,AV.isAgg]
      ·cases hy
     ·cases hv
    ·cases hv
   ·cases hv
  ·cases hv
 ·
  rename_i t x
  split at hv
  ·rename_i e id path he hx
   split at hv
   ·rename_i tid c ho
    obtain⟨y,hy,iu⟩:=Qor hv
    obtain⟨hb,hk⟩:=bvT hy
    simp only[QQ]at hb
    obtain⟨⟨⟨b1,b2⟩,b3⟩,b4⟩:=hb
    have b1:=QJ b1
    have b2:=bEq b2
    refine⟨_,hk,fun {β ρ ok a w} h hc=>?_⟩
    obtain⟨cs,h1,h2⟩:=h.ev hc hx
    have zj:cs=_:=h2
    subst zj
    obtain⟨cs0,hh,rq⟩:=h.2 _ _ ho
    obtain⟨q1,q2⟩:=iu rq
    refine⟨_,?_,q1⟩
    have k5:a.eval x=.pointer (some ⟨β id,J8 path,none⟩):=h1
    have hl:=U1 q1
    unfold execOp
    rw[kg]
    simp only[k5,Sem.run_bind]
    have:=Fz (w:=w) hT he (b:=β id) (o:=J8 path) (y:=y) (cs:=(cs0.drop (J8 path)).take y.size) (by rw[hl]; exact b1) b2 (fun hf=>by
     rw[hl]
     rw[hf]at b4
     simp only[KC]at b4
     exact QJ b4) (fun i z hz=>by
     have hi:=(QK.1 hz).1
     rw[hl]at hi
     rw[JQ hi,JZ]at hz
     rw[cell?_of_heap hh]
     simpa using hz)
    rw[this]
    rfl
   ·cases hv
  ·cases hv
 ·
  rename_i t x lo hi
  split at hv
  ·rename_i te id ku hx
   split at hv
   ·rename_i n e tid m xs zk ho
    have kr:=Qt4 zk
    split at hv
    ·rename_i ee na nb he il qy
     obtain⟨hb,my⟩:=bvT hv
     simp only[QQ]at hb
     have hm:=QJ hb.1
     have ko:=QJ hb.2
     obtain⟨ys,zp,hk⟩:=Yk my
     refine⟨_,hk,fun {β ρ ok a w} h hc=>?_⟩
     obtain⟨cs,h1,h2⟩:=h.ev hc hx
     have zj:cs=_:=h2
     subst zj
     obtain⟨cs0,hh,rq⟩:=h.2 _ _ ho
     have wt:xs.length=m:=(show xs.length=m∧_ from rq).1
     obtain⟨s1,s2,s3,s4,s5⟩:=Gd.slc_ok zp
     have hbd:=N6 (P:=P) (w:=w) (isS:=false) (len:=n) (cap:=n) (h.bnd hc il) (h.bnd hc qy) s1 s2 (by omega) (QD _)
     have wq:(underlying t).run P w=.ok (.array n e) w:=by rw[Jx hT w ku,kr]
     have k5:a.eval x=.pointer (some ⟨β id,0,none⟩):=h1
     refine⟨[.slice (some (if n=na.toNat then⟨β id,0,none⟩else⟨β id,na.toNat,none⟩)) (nb - na).toNat (n - na.toNat)],?_,_,_,rfl,fun zq=>?_⟩
     ·unfold execOp
      rw[kg]
      simp only[k5]
      simp[Instr.sliceAt,wq,Instr.sureAddr,hbd,J6 hT w he,ko,Addr.add_lit,AV.val,AV.isAgg]
      omega
     ·rw[if_neg (by omega)]
    ·cases hv
   ·cases hv
  ·cases hv
 ·
  rename_i s t x
  split at hv
  ·rename_i se te id na n zk ku hx
   split at hv
   ·rename_i e tid m xs wy kr ho
    split at hv
    ·rename_i _ _ _ _ he
     obtain⟨ys,zp,hk⟩:=Yk hv
     refine⟨_,hk,fun {β ρ ok a w} h hc=>⟨[Ye (Qs1 ys)],?_,rfl⟩⟩
     obtain⟨cs,h1,A,c,rfl,hA⟩:=h.ev hc hx
     obtain⟨cs0,hh,rq⟩:=h.2 _ _ ho
     obtain⟨wt,zy⟩:=(show xs.length=m∧Kc (Tk .u8) ok w xs cs0 from rq)
     obtain⟨s1,s2,s3,s4,s5⟩:=Gd.slc_ok zp
     have hsd':se.d=.slice e:=by
      unfold Y0 at wy
      split at wy
      ·rename_i hd; simp at wy; subst wy; assumption
      ·cases wy
     have k5:a.eval x=.slice (some A) n.toNat c:=h1
     have qw:=(Jm hT zk).2; rw[hsd']at qw
     have l8:=(Jm hT ku).2; rw[kr]at l8
     have im:=(Jm hT he).2
     have wk:=run_convert_bytes_string (P:=P) w s t e (some A) n.toNat c qw im l8
     have qz:(loadCells A n.toNat).run P w=.ok (ys.map (Value.int .u8)).toArray w:=by
      have vk:ys.length=n.toNat:=by rw[s5]; congr 1; omega
      have:=run_loadCells_list (P:=P) w A (ys.map (Value.int .u8)) (fun i v hi=>by
       rw[VW]at hi
       obtain⟨y,hy,rfl⟩:=KZ.1 hi
       have mr:=(QK.1 hy).1
       rw[hA (by omega),Hy]
       rw[s4,JQ (by omega),JZ]at hy
       have hr:=Fw zy hy
       have hr':(cs0.drop ((na.toNat+i)*1)).take 1=[.int .u8 y]:=hr
       rw[KD]at hr'
       rw[cell?_of_heap hh]
       have:=congrArg (fun l=>l[0]?) hr'
       simp only[VE]at this
       rw[JQ (by omega),JZ]at this
       simpa using this)
      simpa[vk]using this
     have ka:=run_bytesToString w A n.toNat c ys qz
     have hf:=Qpl ys []
     simp only[QC]at hf
     unfold execOp
     rw[kg]
     simp only[k5]
     simp only[Sem.run_bind,wk,ka]
     show Result.andThen (.ok (Value.string (ys.foldl _ (ByteArray.mk ([]:List UInt8).toArray))) w) _=_
     rw[hf]; rfl
    ·cases hv
   ·cases hv
  ·cases hv
 ·cases hv
theorem Q0q{Y:TX}(hT:Q4 P Y.T){R:Type}{o:Oper}{op:Op}(kg:o.op=op){k:AV→Option R}{r:R}(hv:Qif Y S cur op k=some r):∃av,k av=some r∧Qp1 P S cur o av:=by
 unfold Qif at hv
 split at hv
 ·exact Jba hT kg hv
 ·exact Jfo hT kg hv
end
end Gx
