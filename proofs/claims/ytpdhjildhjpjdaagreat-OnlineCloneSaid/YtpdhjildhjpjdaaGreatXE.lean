/- The quiet operations are what the model does. -/
import Derived.Test.YtpdhjildhjpjdaaGreatXMa
namespace Gx
open Go Go.RowKit Gd
set_option linter.unusedVariables false
set_option linter.unusedSimpArgs false
theorem Sg:∀(p q:List PS),Yt (p++q)=Yt p+Yt q
 | [],q=>by simp[Yt]
 | x::p,q=>by simp[Yt,Sg p q]; omega
def Dn(β:Nat→Nat)(ρ:Nat→Value)(ok:Ok)(S:St)(a:Act)(w:World):Prop :=
 (∀e∈S.env,(enD β ρ a e).p ok w)∧∀id o,Qh S.mem id=some o→(Qv β ρ id o).p ok w
theorem Rel.toW{X:Cx}{β:Nat→Nat}{ρ:Nat→Value}{S:St}{a:Act}{w:World}(h:Rel X β ρ S a w):Dn β ρ (okR X β ρ S.mem w) S a w:=⟨fun _ he=>h.en he,fun _ _ ho=>(h.ob ho).1⟩
theorem Dn.ev{β:Nat→Nat}{ρ:Nat→Value}{ok:Ok}{S:St}{a:Act}{w:World}(h:Dn β ρ ok S a w){cur:Vz}(hc:J3 a cur){x:Operand}{v:AV}(hx:ev S cur x=some v) :
  ∃cs,a.eval x=v.val cs∧cr β ρ ok w false v cs:=by
 cases x with
 | tmp t =>
  simp only[Gx.ev]at hx
  split at hx
  ·rename_i e he
   cases hb:Qy7 e.cs cur with
   | false=>rw[hb]at hx; cases hx
   | true =>
    rw[hb]at hx
    simp at hx; subst hx
    have hr:=Q2y he a
    obtain⟨hm,rfl⟩:=Zt he
    obtain⟨cs,h1,h2⟩:=(h.1 _ hm).1 (Qhk hb hc)
    rw[hr]at h1
    exact⟨cs,by simp[Act.eval,h1],h2⟩
  ·cases hx
 | const v =>
  obtain⟨cs,h1,h2⟩:=Qry (β:=β) (ρ:=ρ) (ok:=ok) (w:=w) hx
  exact⟨cs,h1,h2⟩
 | func f =>
  simp[Gx.ev]at hx; subst hx
  exact⟨[.func (.func f) #[] #[]],rfl,[],rfl,rfl⟩
 | global g =>
  simp only[Gx.ev]at hx
  split at hx
  ·rename_i e he
   cases hb:Qy7 e.cs cur with
   | false=>rw[hb]at hx; cases hx
   | true =>
    rw[hb]at hx
    simp at hx; subst hx
    obtain⟨hm,ht⟩:=Qm5 he
    obtain⟨cs,h1,h2⟩:=(h.1 _ hm).1 (Qhk hb hc)
    rw[ht,Q8j]at h1
    exact⟨cs,Option.some.inj h1,h2⟩
  ·cases hx
section
variable {P:Program} {Y:TX} {X:Cx} {β:Nat→Nat} {ρ:Nat→Value} {S:St} {a:Act} {w:World} {cur:Vz} {ok:Ok}
theorem Dn.evs(h:Dn β ρ ok S a w)(hc:J3 a cur):∀{xs:List Operand} {l:AV},evs S cur xs=some l→cr β ρ (ok) w true l (xs.map a.eval)
 | [],l,hl=>by simp[Gx.evs]at hl; subst hl; rfl
 | x::xs,l,hl=>by
  simp only[Gx.evs]at hl
  split at hl
  ·rename_i v r hv hr
   simp at hl; subst hl
   obtain⟨cs,h1,h2⟩:=h.ev hc hv
   exact⟨cs,xs.map a.eval,by rw[QT,h1],h2,h.evs hc hr⟩
  ·cases hl
theorem Dn.evParts(h:Dn β ρ ok S a w)(hc:J3 a cur):∀{xs:List (Nat×Operand)} {l:List (Nat×AV)},Vt S cur xs=some l →
  Jek (fun(p:Nat×AV) (q:Nat×Value)=>p.1=q.1∧∃c,q.2=p.2.val c∧cr β ρ (ok) w false p.2 c) l (xs.map fun p=>(p.1,a.eval p.2))
 | [],l,hl=>by simp[Vt]at hl; subst hl; exact .nil
 | (i,x)::xs,l,hl=>by
  simp only[Vt]at hl
  split at hl
  ·rename_i v r hv hr
   simp at hl; subst hl
   obtain⟨cs,h1,h2⟩:=h.ev hc hv
   exact .cons ⟨rfl,cs,h1,h2⟩ (h.evParts hc hr)
  ·cases hl
theorem bvT{α:Type}{b:Bool}{x:Option α}{y:α}(h:(bif b then x else none)=some y):b=true∧x=some y:=by
 grind
theorem bEq{a b:Bool}(h:(a==b)=true):a=b:=by simpa using h
theorem Dn.mm(h:Dn β ρ ok S a w):∀id o,Qh S.mem id=some o→(Qv β ρ id o).p (ok) w:=h.2
theorem Dn.asD(h:Dn β ρ ok S a w)(hc:J3 a cur){x:Operand}{v:AV}{t:Ty}{y:t.De}(hx:Gx.ev S cur x=some v)(hd:Gx.asD S.mem v t=some y)(ht:t.agg=v.isAgg) :
  isV (rt t) (ok) w y (a.eval x):=by
 obtain⟨cs,h1,h2⟩:=h.ev hc hx
 refine⟨cs,K8 h.mm hd h2,?_⟩
 rw[h1,AV.val,RT.val,Dj,ht]
 cases v.isAgg<;>rfl
theorem Dn.asLs(h:Dn β ρ ok S a w)(hc:J3 a cur){u:Ty}:∀{ps:List (Nat×Operand)} {vs:List (Nat×AV)} {xs:List u.De} {j:Nat},Vt S cur ps=some vs→Gx.asLs S.mem u vs j=some xs →
  ∃us:List Value,ps.map (fun p=>(p.1,a.eval p.2))=(List.range' j us.length).zip us∧Qvd (rt u) ok w xs us∧us.length=xs.length
 | [],vs,xs,j,he,hx=>by
  simp[Vt]at he; subst he
  simp[Gx.asLs]at hx; subst hx
  exact⟨[],rfl,trivial,rfl⟩
 | (i,x)::ps,vs,xs,j,he,hx=>by
  simp only[Vt]at he
  split at he
  ·rename_i v l hv hl
   simp at he; subst he
   simp only[Gx.asLs]at hx
   obtain⟨hb,hx⟩:=bvT hx
   simp only[QQ]at hb
   have:=Nat.eq_of_beq_eq_true hb.1
   subst this
   split at hx
   ·rename_i y ys hy hys
    simp at hx; subst hx
    obtain⟨us,q1,q2,q3⟩:=Dn.asLs h hc (u:=u) (ps:=ps) hl hys
    have hiv:=h.asD hc hv hy (bEq hb.2)
    refine⟨a.eval x::us,?_,⟨hiv,q2⟩,by simp[q3]⟩
    grind [List.length_cons,List.range'_succ,List.zip_cons_cons]
   ·cases hx
  ·cases he
theorem Qnf{τ:Type}{r:RT τ}{ok:Ok}{w:World}:∀{xs:List τ} {us:List Value},Qvd r ok w xs us→∀v∈us,(Qu v).length=r.size
 | [],[],_,v,hv=>by cases hv
 | x::xs,y::us,h,v,hv=>by
  rcases QJ.1 hv with rfl | hv
  ·rw[r.len (Di h.1)]
  ·exact Qnf h.2 v hv
 | [],_::_,h,_,_=>h.elim
 | _::_,[],h,_,_=>h.elim
theorem Qr2{τ:Type}{r:RT τ}{ok:Ok}{w:World}:∀{xs:List τ} {us:List Value},Qvd r ok w xs us→Wb r ok w xs (us.flatMap Qu)
 | [],[],_=>rfl
 | x::xs,y::us,h=>⟨Qu y,us.flatMap Qu,by simp,Di h.1,Qr2 h.2⟩
 | [],_::_,h=>h.elim
 | _::_,[],h=>h.elim
theorem Q3a{s:Nat}:∀(vs:List Value) (j:Nat) (cs:List Value),(∀v∈vs,(Qu v).length=s)→(j+vs.length)*s≤cs.length →
  Sa (Qe9 s) cs ((List.range' j vs.length).zip vs)=some (cs.take (j*s)++vs.flatMap Qu++cs.drop ((j+vs.length)*s))
 | [],j,cs,_,_=>by simp[Sa]
 | v::vs,j,cs,hv,hl=>by
  have h1:=hv v (.head _)
  simp only[List.length_cons]at hl ⊢
  have e0:(j+(vs.length+1))*s=j*s+s+vs.length*s:=by rw[Nat.add_mul,Nat.add_mul]; omega
  rw[e0]at hl
  simp only[List.range'_succ,List.zip_cons_cons,Sa,Qe9,h1]
  have hb:(Nat.beq s s&&Nat.ble (j*s+s) cs.length)=true:=by
   simp only[QQ]
   grind [Nat.beq_refl,Nat.ble_eq_true_of_le]
  simp only[hb,cond_true]
  have hlay:(Q2i cs (j*s) (Qu v)).length=cs.length:=by grind [Q2i]
  have e1:(j+1+vs.length)*s=j*s+s+vs.length*s:=by rw[Nat.add_mul,Nat.add_mul]; omega
  have e2:(j+1)*s=j*s+s:=by rw[Nat.add_mul]; omega
  have:=Q3a vs (j+1) (Q2i cs (j*s) (Qu v)) (fun u hu=>hv u (.tail _ hu)) (by rw[hlay,e1]; omega)
  rw[this,e1,e2,e0]
  simp only[Q2i,JI]
  have hA:(cs.take (j*s)++Qu v).length=j*s+s:=by grind
  congr 1
  rw[XX (by rw[hA]; omega),List.take_of_length_le (by rw[hA]; omega)]
  rw[List.drop_append,hA,XZ (by rw[hA]; omega),QF,h1,List.drop_drop]
  simp_all
theorem Qox{a:Act}{cur:Vz}(hc:J3 a cur){c:Operand}{b:Bool}(hb:a.eval c=.bool b):J3 a (Jba cur c b):=by
 unfold Jba
 split
 ·rename_i t
  intro x hx
  rcases QJ.1 hx with rfl | hx
  ·simp only[Act.eval]at hb
   simp only
   rw[QM]at hb
   grind [undef]
  ·exact hc x hx
 ·exact hc
theorem Jid{c:Bool}{x y:Option AV}{v:AV}{β:Nat→Nat}{ρ:Nat→Value}{ok:Ok}{w:World}{u1 u2:Value}
  (hx:c=true→∀v,x=some v→∃cs,u1=v.val cs∧cr β ρ ok w false v cs) (hy:c=false→∀v,y=some v→∃cs,u2=v.val cs∧cr β ρ ok w false v cs)
  (h:Jib c x y=some v):∃cs,(if c=true then u1 else u2)=v.val cs∧cr β ρ ok w false v cs:=by
 unfold Jib at h
 split at h
 ·grind
 ·rename_i k p k' q
  cases hk:Qax k k' with
  | false=>rw[hk]at h; cases h
  | true =>
   rw[hk]at h
   have:=Io hk
   grind
 grind
theorem Bk(hT:Q0 P Y.T){t:TypeId}{e:TE}(he:Qk Y.T t=some e){b o:Nat}{y:AV}{cs:List Value}(hs:e.size=cs.length)(ha:Gn e.d=y.isAgg)(h1:y.isAgg=false→cs.length=1)
  (hc:∀(j:Nat) u,cs[j]?=some u→w.cell? ⟨b,o+j,none⟩=some u):(Instr.loadAt t (.pointer (some ⟨b,o,none⟩))).run P w=.ok (y.val cs) w:=by
 have:=Qkz hT w he b o cs hs.symm (fun h=>h1 (by rw[←ha,h])) hc
 grind [Instr.loadAt,Instr.sureAddr,Sem.run_bind,Sem.run_pure,Result.andThen_ok,AV.val]
theorem Qlf{ok:Ok}{w:World}:∀{t:Ty} {x:t.De} {vs cs:List Value},Sf t x=some vs→(rt t).rep ok w x cs→cs=vs
 | .int k,x,vs,cs,h,hc=>by simp[Sf]at h; subst h; exact hc
 | .bool,x,vs,cs,h,hc=>by simp[Sf]at h; subst h; exact hc
 | .str,x,vs,cs,h,hc=>by simp[Sf]at h; subst h; exact hc
 | .unit,x,vs,cs,h,hc=>by simp[Sf]at h; subst h; exact hc
 | .pr f r,x,vs,cs,h,hc=>by
  obtain⟨c1,c2,rfl,h1,h2⟩:=hc
  simp only[Sf]at h
  split at h
  ·rename_i p q hp hq
   simp at h; subst h
   rw[Qlf hp h1,Qlf hq h2]
  ·cases h
 | .st fs,x,vs,cs,h,hc=>Qlf (t:=fs) h hc
 | .sl e,x,vs,cs,h,hc=>by simp[Sf]at h
 | .arr n e,x,vs,cs,h,hc=>by simp[Sf]at h
 | .ref,x,vs,cs,h,hc=>by simp[Sf]at h
 | .rose fs,x,vs,cs,h,hc=>by simp[Sf]at h
theorem Qa3:∀{x:AV} {vs cs:List Value},Kj x=some vs→cr β ρ ok w false x cs→cs=vs
 | .d t x,vs,cs,h,hc=>Qlf h hc
 | .ag l,vs,cs,h,hc=>Qa3 (x:=l) h hc
 | .nil,vs,cs,h,hc=>by simp[Kj]at h; subst h; exact hc
 | .cons x r,vs,cs,h,hc=>by
  obtain⟨c1,c2,rfl,h1,h2⟩:=hc
  simp only[Kj]at h
  split at h
  ·rename_i p q hp hq
   simp at h; subst h
   rw[Qa3 hp h1,Qa3 hq h2]
  ·cases h
 | .p ..,vs,cs,h,hc=>by simp[Kj]at h
 | .e ..,vs,cs,h,hc=>by simp[Kj]at h
 | .s ..,vs,cs,h,hc=>by simp[Kj]at h
 | .m ..,vs,cs,h,hc=>by simp[Kj]at h
 | .b ..,vs,cs,h,hc=>by simp[Kj]at h
 | .w ..,vs,cs,h,hc=>by simp[Kj]at h
 | .a ..,vs,cs,h,hc=>by simp[Kj]at h
 | .z,vs,cs,h,hc=>by simp[Kj]at h
 | .ns,vs,cs,h,hc=>by simp[Kj]at h
 | .np,vs,cs,h,hc=>by simp[Kj]at h
 | .nm,vs,cs,h,hc=>by simp[Kj]at h
 | .nf,vs,cs,h,hc=>by simp[Kj]at h
 | .f ..,vs,cs,h,hc=>by simp[Kj]at h
 | .tp ..,vs,cs,h,hc=>by simp[Kj]at h
theorem Jie{T:Tab}(hT:Q0 P T){op:BinOp}{t:TypeId}{x y:Operand}{yt:TypeId}{neg:Bool}{us vs:List Value}{fs:List Field}{t1:TypeId}{z1:Value}{s1 b1:Nat}
  (hneg:Jej op=some neg) (ht:Qk T t=some ⟨t1,.struct ⟨fs⟩,z1,s1,b1⟩) (hbl:Tl fs=true) {r:Bool} (hr:Qrr T fs us vs=some r) {a:Act}
  (hx:a.eval x=.agg us.toArray) (hy:a.eval y=.agg vs.toArray):(execOp a.eval ⟨none,.binOp op t x y yt,0, "",#[],none⟩).run P w=.ok (.value (.bool (bif neg then !r else r))) w:=by
 have hu:=(Jo hT ht).2
 obtain⟨hst,heg⟩:=Q2h hT ht
 have hf:P.fieldsOf t=⟨fs⟩:=by simp[Program.fieldsOf,hu]
 have heq:(Op.equal t (.agg ⟨us⟩) (.agg ⟨vs⟩)).run P w=.ok r w:=by
  have:=run_equalIn_struct (P:=P) w 9999 t ⟨us⟩ ⟨vs⟩ (by rw[hf,hu]) hst
  rw[hf]at this
  show(Op.equalIn 10000 t _ _).run P w=_
  rw[this]
  grind [Qy6]
 unfold Jej at hneg
 split at hneg
 ·simp_all [execOp,eqGuard,binOp]
 ·simp_all [execOp,eqGuard,binOp]
 ·cases hneg
theorem Jbb{M:List (Nat×Ob)}(hM:∀id o,Qh M id=some o→(Qv β ρ id o).p ok w){id:Nat}{k v:Ty}{xs:List (k.De×v.De)}(h:Jnu (Qh M id)=some ⟨k,v,xs⟩) :
  ∃es clock ys,w.heap[β id]?=some (.map es clock)∧ys.Perm xs∧(xs.map Prod.fst).Nodup∧W8 (rt k) (rt v) ok w ys es.toList:=by
 unfold Jnu at h
 split at h
 ·rename_i k' v' xs' ho
  simp at h
  obtain⟨rfl,h⟩:=h
  have h:=eq_of_heq h
  injection h with h1 h2
  subst h1
  have h2:=eq_of_heq h2
  subst h2
  obtain⟨es,clock,ys,q1,q0,q2,q3,_⟩:=hM _ _ ho
  exact⟨es,clock,ys,q1,q0,q3,q2⟩
 ·cases h
theorem Jnw{op:BinOp}{neg:Bool}(h:Jej op=some neg):op=bif neg then .neq else .eql:=by
 cases op<;>simp[Jej]at h<;>subst h<;>rfl
theorem Jnx{t el:TypeId}{q:Option Addr}(hu:(underlying t).run P w=.ok (.pointer el) w):(Op.equal t (.pointer q) (.pointer none)).run P w=.ok q.isNone w:=by
 show(Op.equalIn (9999+1) t _ _).run P w=_
 rw[Op.equalIn]
 cases q<;>simp[Sem.run_bind,hu]
theorem Jny{t k el:TypeId}{q:Option Nat}(hu:(underlying t).run P w=.ok (.map k el) w):(Op.equal t (.map q) (.map none)).run P w=.ok q.isNone w:=by
 show(Op.equalIn (9999+1) t _ _).run P w=_
 rw[Op.equalIn]
 cases q<;>simp[Sem.run_bind,hu]
theorem Jbc{t:TypeId}{p r:Array TypeId}{v:Bool}(hu:(underlying t).run P w=.ok (.func p r v) w){x:Value}{b:Bool}(hx:(x=.nilFunc∧b=true)∨(∃f c s,x=.func f c s)∧b=false):(Op.equal t x .nilFunc).run P w=.ok b w:=by
 show(Op.equalIn (9999+1) t _ _).run P w=_
 rw[Op.equalIn]
 rcases hx with⟨rfl,rfl⟩ | ⟨⟨f,c,s,rfl⟩,rfl⟩<;>simp[Sem.run_bind,hu]
theorem Jnz(hT:Q0 P Y.T){op:BinOp}{t yt:TypeId}{X1 Y1:Operand}{x y:AV}{b:Bool}{c1 c2:List Value}(h:Jso Y.T op t x y=some b)(hx:cr β ρ ok w false x c1)(hy:cr β ρ ok w false y c2)
  (h1:a.eval X1=x.val c1) (h2:a.eval Y1=y.val c2) :
  (execOp a.eval ⟨none,.binOp op t X1 Y1 yt,0, "",#[],none⟩).run P w=.ok (.value (.bool b)) w:=by
 unfold Jso at h
 split at h
 ·rename_i neg te hneg hte
  have hop:=Jnw hneg
  have hu:=J2 hT w hte
  split at h
  ·rename_i el hd
   obtain⟨hb,h⟩:=bvT h
   have hyn:y=.np:=by cases y<;>simp[Juw]at hb; rfl
   subst hyn
   have hy':c2=[.pointer none]:=hy
   subst hy'
   have h2':a.eval Y1=.pointer none:=h2
   split at h
   ·rename_i bb hbb
    injection h with h; subst h
    have key:∃q,a.eval X1=.pointer q∧bb=q.isNone:=by
     cases x<;>simp[Jut]at hbb<;>subst hbb
     ·have hx':c1=_:=hx
      subst hx'; exact⟨_,h1,rfl⟩
     ·obtain⟨g,_,hx'⟩:=hx
      subst hx'; exact⟨_,h1,rfl⟩
     ·obtain⟨v,hx',hv⟩:=hx
      obtain⟨b0,o0,c0,rfl,_⟩:=hv
      subst hx'; exact⟨_,h1,rfl⟩
     ·have hx':c1=_:=hx
      grind
    obtain⟨q,hq,hbq⟩:=key
    subst hbq
    rw[hd]at hu
    have hr:=Jnx (P:=P) (w:=w) (q:=q) hu
    unfold execOp
    cases neg<;>subst hop<;>simp[hq,h2',eqGuard,binOp,hr]
   ·cases h
  ·rename_i kt et hd
   obtain⟨hb,h⟩:=bvT h
   have hyn:y=.nm:=by cases y<;>simp[Jux]at hb; rfl
   subst hyn
   have hy':c2=[.map none]:=hy
   subst hy'
   have h2':a.eval Y1=.map none:=h2
   split at h
   ·rename_i bb hbb
    injection h with h; subst h
    have key:∃q,a.eval X1=.map q∧bb=q.isNone:=by
     cases x<;>simp[Juu]at hbb<;>subst hbb
     ·have hx':c1=_:=hx
      subst hx'; exact⟨_,h1,rfl⟩
     ·have hx':c1=_:=hx
      grind
    obtain⟨q,hq,hbq⟩:=key
    subst hbq
    rw[hd]at hu
    have hr:=Jny (P:=P) (w:=w) (q:=q) hu
    unfold execOp
    cases neg<;>subst hop<;>simp[hq,h2',eqGuard,binOp,hr]
   ·cases h
  ·rename_i p1 p2 p3 hd
   obtain⟨hb,h⟩:=bvT h
   have hyn:y=.nf:=by cases y<;>simp[Juy]at hb; rfl
   subst hyn
   have hy':c2=[.nilFunc]:=hy
   subst hy'
   have h2':a.eval Y1=.nilFunc:=h2
   split at h
   ·rename_i bb hbb
    injection h with h; subst h
    rw[hd]at hu
    cases x<;>simp[Juv]at hbb<;>subst hbb
    ·have hx':c1=_:=hx
     subst hx'
     have h1':a.eval X1=.nilFunc:=h1
     have hr:=Jbc (P:=P) (w:=w) hu (.inl ⟨rfl,rfl⟩)
     unfold execOp
     cases neg<;>subst hop<;>simp[h1',h2',eqGuard,binOp,hr]
    ·rename_i f0 cp0
     obtain⟨vs,hx',_⟩:=hx
     subst hx'
     have h1':a.eval X1=.func (.func f0) #[] vs.toArray:=h1
     have hr:=Jbc (P:=P) (w:=w) hu (x:=.func (.func f0) #[] vs.toArray) (b:=false) (.inr ⟨⟨_,_,_,rfl⟩,rfl⟩)
     unfold execOp
     cases neg<;>subst hop<;>simp[h1',h2',eqGuard,binOp,hr]
   ·cases h
  ·cases h
 ·cases h
theorem Qlg(hT:Q0 P Y.T)(h:Dn β ρ ok S a w)(hc:J3 a cur){o:Oper}{x:AV}(hv:Qle Y S cur o.op=some x) :
  ∃cs,(execOp a.eval o).run P w=.ok (.value (x.val cs)) w∧cr β ρ (ok) w false x cs:=by
 have hM:∀id o,Qh S.mem id=some o→(Qv β ρ id o).p (ok) w:=h.2
 unfold execOp
 generalize o.op=op at hv
 unfold Qle at hv
 split at hv
 ·
  obtain⟨cs,h1,h2⟩:=h.ev hc hv
  exact⟨cs,by simp_all,h2⟩
 ·obtain⟨cs,h1,h2⟩:=h.ev hc hv
  exact⟨cs,by simp_all,h2⟩
 ·
  rename_i c p q
  split at hv
  ·rename_i v hcv
   obtain⟨cs0,h1,h2⟩:=h.ev hc hcv
   have h2':cs0=[.bool v]:=h2
   subst h2'
   have hb:a.eval c=.bool v:=h1
   obtain⟨cs,h3,h4⟩:=Jid (u1:=a.eval p) (u2:=a.eval q)
    (fun e u hu=>h.ev (Qox hc (hb.trans (by rw[e]))) hu) (fun e u hu=>h.ev (Qox hc (hb.trans (by rw[e]))) hu) hv
   refine⟨cs,?_,h4⟩
   simp only[hb]
   rw[←h3]
   cases v<;>simp[asBool]
  ·cases hv
 ·
  split at hv
  ·rename_i x1 x2 hx1 hx2
   split at hv
   ·rename_i u v hu hw
    split at hv
    ·rename_i r hr
     obtain⟨c1,h1,h2⟩:=h.ev hc hx1
     obtain⟨c2,h3,h4⟩:=h.ev hc hx2
     rw[Q8l hu h2]at h1
     rw[Q8l hw h4]at h3
     obtain⟨cs,h5,h6⟩:=Q27 (β:=β) (ρ:=ρ) (ok:=ok) (w:=w) hv
     refine⟨cs,?_,h6⟩
     simp only[h1,h3]
     rw[←h5]
     simp[Qy2 hr,Jd7 hT hr]
    ·cases hv
   ·split at hv
    ·rename_i b hb
     simp at hv; subst hv
     obtain⟨c1,h1,h2⟩:=h.ev hc hx1
     obtain⟨c2,h3,h4⟩:=h.ev hc hx2
     exact⟨[.bool b],Jnz (yt:=0) hT hb h2 h4 h1 h3,rfl⟩
    split at hv
    ·rename_i neg t1 fs z1 s1 b1 us vs hneg ht hus hvs
     cases hb:(Tl fs&&x1.isAgg&&x2.isAgg)with
     | false=>rw[hb]at hv; cases hv
     | true =>
     rw[hb]at hv
     simp only[cond_true]at hv
     simp only[QQ]at hb
     split at hv
     ·rename_i r hr
      simp at hv; subst hv
      obtain⟨c1,h1,h2⟩:=h.ev hc hx1
      obtain⟨c2,h3,h4⟩:=h.ev hc hx2
      have e1:=Qa3 hus h2
      have e2:=Qa3 hvs h4
      subst e1; subst e2
      have f1:x1.val c1=.agg c1.toArray:=by grind [AV.val]
      have f2:x2.val c2=.agg c2.toArray:=by grind [AV.val]
      rw[f1]at h1; rw[f2]at h3
      exact⟨[.bool (bif neg then !r else r)],Jie hT (yt:=0) hneg ht hb.1.1 hr h1 h3,rfl⟩
     ·cases hv
    ·cases hv
  ·cases hv
 ·
  split at hv
  ·rename_i x1 hx1
   split at hv
   ·rename_i u hu
    split at hv
    ·rename_i r hr
     obtain⟨c1,h1,h2⟩:=h.ev hc hx1
     rw[Q8l hu h2]at h1
     simp_all [Q27,Jhy]
    ·cases hv
   ·cases hv
  ·cases hv
 ·
  split at hv
  ·rename_i _ _ _ _ k _ _ _ _ n hs ht hx
   simp at hv; subst hv
   obtain⟨c1,h1,h2⟩:=h.ev hc hx
   have h2':c1=_:=h2
   subst h2'
   refine⟨[.int k (k.wrap n)],?_,rfl⟩
   have h1':a.eval _=.int _ n:=h1
   simp[convert,J2 hT w hs,J2 hT w ht,h1',Conv.intToInt,AV.val,AV.isAgg,Ty.agg]
  ·cases hv
 ·
  rename_i sT xo fI
  split at hv
  ·rename_i fs _ _ _ x1 hs hx
   split at hv
   ·rename_i fd hf
    split at hv
    ·rename_i y e hn he
     cases hb:(Nat.beq e.size y.size&&(Gn e.d==y.isAgg)&&x1.isAgg&&y.isVal&&(y.isAgg||Nat.beq y.size 1))with
     | false=>rw[hb]at hv; cases hv
     | true =>
      rw[hb]at hv
      simp at hv; subst hv
      simp only[QQ]at hb
      obtain⟨⟨⟨⟨b1,b2⟩,b3⟩,b4⟩,b5⟩:=hb
      have b1:=Nat.eq_of_beq_eq_true b1
      have b2:=bEq b2
      obtain⟨c1,h1,h2⟩:=h.ev hc hx
      obtain⟨h3,h4⟩:=Qjq hn h2
      have hoff:∀k,Yt [PS.f k fd.offset]=fd.offset:=fun k=>by simp[Yt,PS.off]
      rw[hoff]at h3 h4
      refine⟨_,?_,h3⟩
      have h1':a.eval xo=.agg c1.toArray:=by rw[h1]; simp[AV.val,b3]
      simp only[h1']
      have hpart:(part fd.type c1.toArray fd.offset).run P w=.ok (y.val ((c1.drop fd.offset).take y.size)) w:=by
       grind [Qrl,AV.val,Nat.eq_of_beq_eq_true,List.drop_eq_getElem_cons,List.getElem?_eq_getElem]
      simp[Instr.field,J2 hT w hs,hf,asAgg,hpart]
    ·cases hv
   ·cases hv
  ·cases hv
 ·
  rename_i sT xo fI
  split at hv
  ·rename_i fs _ _ _ x1 hs hx
   split at hv
   ·rename_i off hfo
    obtain⟨fd,hfd,rfl,e,he,hne⟩:=Q2j hfo
    obtain⟨c1,h1,h2⟩:=h.ev hc hx
    have key:∀b o,a.eval xo=.pointer (some ⟨b,o,none⟩)→(Instr.fieldAt sT (a.eval xo) fI).run P w=.ok (.pointer (some ⟨b,o+fd.offset,none⟩)) w:=fun b o he'=>by
     rw[he']
     simp[Instr.fieldAt,J2 hT w hs,hfd,Instr.sureAddr,fieldPlace,Addr.add_lit,Yg hT w he,hne]
    split at hv
    ·rename_i id path
     simp at hv; subst hv
     have h2':c1=_:=h2
     subst h2'
     refine⟨[.pointer (some ⟨β id,Yt path+fd.offset,none⟩)],?_,?_⟩
     ·dsimp only
      simp only[Sem.run_bind]
      rw[key _ _ h1]
      rfl
     ·show [_]=[_]
      rw[Sg]
      simp[Yt,PS.off]
    ·rename_i id path
     simp at hv; subst hv
     obtain⟨g,hg,rfl⟩:=h2
     refine⟨[.pointer (some ⟨g,Yt path+fd.offset,none⟩)],?_,g,hg,?_⟩
     ·dsimp only
      simp only[Sem.run_bind]
      rw[key _ _ h1]
      rfl
     simp[Sg,Yt,PS.off]
    ·rename_i t y
     split at hv
     ·rename_i u z hn
      simp at hv; subst hv
      obtain⟨v,rfl,b,o',cs,rfl,hr,hcl⟩:=h2
      obtain⟨h3,h4⟩:=Qjq (β:=β) (ρ:=ρ) hn hr
      have hoff:∀k,Yt [PS.f k fd.offset]=fd.offset:=fun k=>by simp[Yt,PS.off]
      rw[hoff]at h3 h4
      refine⟨[.pointer (some ⟨b,o'+fd.offset,none⟩)],?_,_,rfl,b,_,_,rfl,h3,?_⟩
      ·dsimp only
       simp only[Sem.run_bind]
       rw[key _ _ h1]
       rfl
      ·intro j q hj
       have hjl:j<(AV.d u z).size:=by
        have:=(List.getElem?_eq_some_iff.1 hj).1
        grind
       rw[List.getElem?_take_of_lt hjl,JK]at hj
       have:=hcl _ _ hj
       rw[←Nat.add_assoc]at this
       exact this
     ·cases hv
    ·cases hv
   ·cases hv
  ·cases hv
 ·
  split at hv
  ·rename_i e id path he hx
   split at hv
   ·rename_i tid c ho
    split at hv
    ·rename_i y hn
     cases hb:(Nat.beq e.size y.size&&(Gn e.d==y.isAgg)&&y.isVal&&(y.isAgg||Nat.beq y.size 1))with
     | false=>rw[hb]at hv; cases hv
     | true =>
      rw[hb]at hv
      simp at hv; subst hv
      simp only[QQ]at hb
      obtain⟨⟨⟨b1,b2⟩,b3⟩,b4⟩:=hb
      have b1:=Nat.eq_of_beq_eq_true b1
      have b2:=bEq b2
      obtain⟨c1,h1,h2⟩:=h.ev hc hx
      have h2':c1=_:=h2
      subst h2'
      obtain⟨cs,hh,hcr⟩:=hM _ _ ho
      obtain⟨h3,h4⟩:=Qjq hn hcr
      have hlen:=Zr h3
      refine⟨_,?_,h3⟩
      have h1':a.eval _=.pointer (some ⟨β id,Yt path,none⟩):=h1
      simp only[h1',Sem.run_bind]
      rw[Bk hT he (y:=y) (cs:=(cs.drop (Yt path)).take y.size) (by rw[hlen]; exact b1) b2 (fun ha=>by
       rw[ha]at b4
       rw[hlen]; grind [Nat.eq_of_beq_eq_true]) (fun j u hu=>by
        grind [List.getElem?_eq_some_iff,List.getElem?_take_of_lt,World.cell?])]
      rfl
    ·cases hv
   ·cases hv
  ·rename_i e t y he hx
   cases hb:(Nat.beq e.size t.size&&(Gn e.d==t.agg))with
   | false=>rw[hb]at hv; cases hv
   | true =>
    rw[hb]at hv
    simp at hv; subst hv
    simp only[QQ]at hb
    have b1:=Nat.eq_of_beq_eq_true hb.1
    have b2:=bEq hb.2
    obtain⟨c1,h1,h2⟩:=h.ev hc hx
    obtain⟨v,rfl,b,o',cs,rfl,hr,hcl⟩:=h2
    have hlen:cs.length=t.size:=by rw[(rt t).len hr,Jm]
    refine⟨cs,?_,hr⟩
    have h1':a.eval _=.pointer (some ⟨b,o',none⟩):=h1
    simp only[h1',Sem.run_bind]
    rw[Bk hT he (y:=.d t y) (cs:=cs) (by rw[hlen,b1]) b2 (fun ha=>by rw[hlen]; exact Jh5 ha) (fun j u hu=>(hcl j u hu).2)]
    rfl
  ·cases hv
 ·
  split at hv
  ·rename_i l hx
   obtain⟨c1,h1,vs,rfl,hl⟩:=h.ev hc hx
   obtain⟨cs,h3,h4⟩:=Jic hv hl
   refine⟨cs,?_,h4⟩
   have h1':a.eval _=.tuple vs.toArray:=h1
   simp[h1',Instr.extract,h3]
  ·cases hv
 ·
  split at hv
  ·rename_i e x1 he hx
   obtain⟨c1,h1,h2⟩:=h.ev hc hx
   split at hv
   ·rename_i hd
    split at hv
    ·cases hv
    ·rename_i hns
     split at hv
     ·rename_i n hn
      simp at hv; subst hv
      obtain⟨A,c,hval⟩:=Jnv hM hn hns h2
      refine⟨[.int .i64 n],?_,rfl⟩
      rw[hval]at h1
      simp[resolve,invoke,builtin,Builtin.len_,J2 hT w he,hd,h1,goInt,AV.val,AV.isAgg,Ty.agg]
     ·cases hv
   ·rename_i hd
    split at hv
    ·rename_i l
     simp at hv; subst hv
     have h2':c1=_:=h2
     subst h2'
     refine⟨[.int .i64 l.length],?_,rfl⟩
     have h1':a.eval _=Yp l:=h1
     simp[resolve,invoke,builtin,Builtin.len_,J2 hT w he,hd,h1',goInt,AV.val,AV.isAgg,Ty.agg,Yp,Jhz]
    ·cases hv
   ·rename_i kt et hd
    split at hv
    ·rename_i id
     split at hv
     ·rename_i k v xs hm
      simp at hv; subst hv
      obtain⟨es,clock,ys,q1,q0,_,q2⟩:=Jbb hM hm
      have h2':c1=_:=h2
      subst h2'
      have h1':a.eval _=.map (some (β id)):=h1
      have hlen:es.size=xs.length:=by
       have:∀{xs:List (k.De×v.De)} {es:List MapEntry},W8 (rt k) (rt v) ok w xs es→es.length=xs.length:=by
        intro xs
        induction xs with
        | nil=>intro es h; rw[show es=[]from h]; rfl
        | cons x xs ih=>rintro es ⟨e,es',rfl,_,_,h⟩; simp[ih h]
       rw[←q0.length_eq,←this q2]; simp
      refine⟨[.int .i64 xs.length],?_,rfl⟩
      simp[resolve,invoke,builtin,Builtin.len_,J2 hT w he,hd,h1',goInt,AV.val,AV.isAgg,Ty.agg,MapKept.run_getObj_map q1,hlen]
     ·cases hv
    ·simp at hv; subst hv
     have h2':c1=_:=h2
     subst h2'
     have h1':a.eval _=.map none:=h1
     refine⟨[.int .i64 0],?_,rfl⟩
     simp[resolve,invoke,builtin,Builtin.len_,J2 hT w he,hd,h1',goInt,AV.val,AV.isAgg,Ty.agg]
    ·cases hv
   ·cases hv
  ·cases hv
 ·
  split at hv
  ·rename_i x1 x2 hx1 hx2
   split at hv
   ·rename_i k p _ q hi1 hi2
    simp at hv; subst hv
    have e1:=Is hi1
    have e2:=Is hi2
    subst e1; subst e2
    obtain⟨c1,h1,h2⟩:=h.ev hc hx1
    obtain⟨c2,h3,h4⟩:=h.ev hc hx2
    have h2':c1=_:=h2
    have h4':c2=_:=h4
    subst h2'; subst h4'
    refine⟨[.int k (if q>p then q else p)],?_,rfl⟩
    have h1':a.eval _=.int k p:=h1
    have h3':a.eval _=.int _ q:=h3
    simp[resolve,invoke,builtin,Builtin.max_,Builtin.max2,h1',h3',AV.val,AV.isAgg,Ty.agg]
   ·cases hv
  ·cases hv
 ·
  split at hv
  ·rename_i x1 x2 hx1 hx2
   split at hv
   ·rename_i k p _ q hi1 hi2
    simp at hv; subst hv
    have e1:=Is hi1
    have e2:=Is hi2
    subst e1; subst e2
    obtain⟨c1,h1,h2⟩:=h.ev hc hx1
    obtain⟨c2,h3,h4⟩:=h.ev hc hx2
    have h2':c1=_:=h2
    have h4':c2=_:=h4
    subst h2'; subst h4'
    refine⟨[.int k (if q<p then q else p)],?_,rfl⟩
    have h1':a.eval _=.int k p:=h1
    have h3':a.eval _=.int _ q:=h3
    simp[resolve,invoke,builtin,Builtin.min_,Builtin.min2,h1',h3',AV.val,AV.isAgg,Ty.agg]
   ·cases hv
  ·cases hv
 ·
  split at hv
  ·rename_i x1 x2 x3 hx1 hx2 hx3
   split at hv
   ·rename_i k p _ q _ r hi1 hi2 hi3
    simp at hv; subst hv
    have e1:=Is hi1
    have e2:=Is hi2
    have e3:=Is hi3
    subst e1; subst e2; subst e3
    obtain⟨c1,h1,h2⟩:=h.ev hc hx1
    obtain⟨c2,h3,h4⟩:=h.ev hc hx2
    obtain⟨c3,h5,h6⟩:=h.ev hc hx3
    have h2':c1=_:=h2
    have h4':c2=_:=h4
    have h6':c3=_:=h6
    subst h2'; subst h4'; subst h6'
    refine⟨[.int k (if r<(if q<p then q else p)then r else(if q<p then q else p))],?_,rfl⟩
    have h1':a.eval _=.int k p:=h1
    have h3':a.eval _=.int _ q:=h3
    have h5':a.eval _=.int _ r:=h5
    simp[resolve,invoke,builtin,Builtin.min_,Builtin.min2,h1',h3',h5',AV.val,AV.isAgg,Ty.agg]
   ·cases hv
  ·cases hv
 ·
  rename_i tT parts
  split at hv
  ·rename_i _ fs z _ _ ty hs hty
   split at hv
   ·rename_i l ps vs hz hp hvs
    split at hv
    ·rename_i l' hl'
     simp at hv; subst hv
     have hpl:=Qro hT hp
     have hpr:=run_places (P:=P) w fs ps hpl
     obtain⟨cs',h5,h6⟩:=Q29 ps hl' (Dm (x:=.ag l) hz) (h.evParts hc hvs)
     have hf:=Qay _ h5
     refine⟨cs',?_,h6⟩
     simp only[Instr.build,Sem.run_bind,V1 hT w hs,J2 hT w hs,Result.andThen_ok]
     simp only[XP,Sem.run_map,bind_pure_comp,hpr,Result.andThen_ok]
     simp_all [Instr.fill,Ua,Nat,Operand,AV.val,AV.isAgg]
    ·cases hv
   ·cases hv
  ·rename_i _ _ e z _ _ m u hs hty
   split at hv
   ·split at hv
    ·rename_i ee x he hz
     obtain⟨hb,hv⟩:=bvT hv
     simp at hv; subst hv
     refine⟨Qu z,?_,Dm hz⟩
     simp only[Instr.build,Sem.run_bind,V1 hT w hs,J2 hT w hs,Yg hT w he,Result.andThen_ok]
     simp[Instr.fill,AV.val,hb,Ua]
    ·cases hv
   ·rename_i p0 ps0
    generalize p0::ps0=parts at *
    split at hv
    ·rename_i ee vs he hvs
     split at hv
     ·rename_i xs hxs
      obtain⟨hb,hv⟩:=bvT hv
      simp only[QQ]at hb
      simp at hv; subst hv
      have hsz:=Nat.eq_of_beq_eq_true hb.1.1
      have hxl:=Nat.eq_of_beq_eq_true hb.1.2
      have hzl:=Nat.eq_of_beq_eq_true hb.2
      obtain⟨us,q1,q2,q3⟩:=h.asLs hc hvs hxs
      have hcl:=Qnf q2
      rw[Jm]at hcl
      have hfill:=Q3a us 0 (Qu z) hcl (by rw[hzl,QV,q3,hxl]; grind)
      rw[←q1]at hfill
      simp only[XL,XN,QF,QV]at hfill
      rw[XZ (by rw[hzl,q3,hxl]; grind),QH]at hfill
      have hf:=Qay _ hfill
      rw[←hsz,Ua]at hf
      refine⟨us.flatMap Qu,?_,hxl,Qr2 q2⟩
      have hm:((Array.mk parts).map fun(x:Nat×Operand)=>(x.1,a.eval x.2)).toList=parts.map fun p=>(p.1,a.eval p.2):=by simp
      simp only[Instr.build,Sem.run_bind,V1 hT w hs,J2 hT w hs,Yg hT w he,Result.andThen_ok]
      have hf':Instr.fill (fun i=>some (i*ee.size,ee.size)) z.cells (parts.map fun p=>(p.1,a.eval p.2))=some (us.flatMap Qu).toArray:=by
       have:(parts.map fun p=>(p.1,a.eval p.2))=List.map (fun p=>(p.fst,a.eval p.snd)) parts:=rfl
       show Instr.fill (Qe9 ee.size) z.cells _=_
       simpa using hf
      rw[hm,hf']
      simp[AV.val,AV.isAgg,Ty.agg]
     ·cases hv
    ·cases hv
  ·cases hv
 ·
  rename_i x
  split at hv
  ·rename_i id path hx
   simp at hv; subst hv
   obtain⟨c1,h1,h2⟩:=h.ev hc hx
   refine⟨c1,?_,h2⟩
   have h2':c1=_:=h2
   subst h2'
   have h1':a.eval x=.pointer (some ⟨β id,Yt path,none⟩):=h1
   simp[h1',AV.val,AV.isAgg]
  ·rename_i id path hx
   simp at hv; subst hv
   obtain⟨c1,h1,g,h2,h3⟩:=h.ev hc hx
   refine⟨c1,?_,g,h2,h3⟩
   simp_all [Yt,AV.val,AV.isAgg]
  ·rename_i t y hx
   simp at hv; subst hv
   obtain⟨c1,h1,v1,h2,h3⟩:=h.ev hc hx
   refine⟨c1,?_,v1,h2,h3⟩
   obtain⟨b,o,c,rfl,_⟩:=h3
   simp_all [AV.val,AV.isAgg]
  ·rename_i fn caps hx
   simp at hv; subst hv
   obtain⟨c1,h1,vs,h2,h3⟩:=h.ev hc hx
   refine⟨c1,?_,vs,h2,h3⟩
   simp_all [AV.val,AV.isAgg]
  ·cases hv
 ·
  rename_i f caps
  split at hv
  ·rename_i l hl
   simp at hv; subst hv
   refine⟨[.func (.func f) #[] (caps.map a.eval).toArray],?_,_,rfl,h.evs hc hl⟩
   simp[Instr.makeFunc,AV.val,AV.isAgg]
  ·cases hv
 ·
  rename_i t x ix c
  split at hv
  ·rename_i te id iv hte hx hix
   split at hv
   ·rename_i kt et k v xs htd hmo
    split at hv
    ·rename_i tk tz key htk htz hkey
     split at hv
     ·rename_i za hza
      split at hv
      ·rename_i z hz
       cases hb:(Y6 Y.T k tk.d&&(k.agg==iv.isAgg)&&(v.agg==Qjr tz.z))with
       | false=>rw[hb]at hv; cases hv
       | true =>
       rw[hb]at hv
       simp only[cond_true,Option.some.injEq]at hv
       simp only[QQ]at hb
       obtain⟨c1,h1,h2⟩:=h.ev hc hx
       have h2':c1=[.map (some (β id))]:=h2
       subst h2'
       have h1':a.eval x=.map (some (β id)):=h1
       obtain⟨c3,h3,h4⟩:=h.ev hc hix
       have hkr:isV (rt k) ok w key (a.eval ix):=by
        refine⟨c3,K8 (M:=[]) (β:=β) (ρ:=ρ) (by simp[Qh]) hkey h4,?_⟩
        rw[h3]; simp only[AV.val,RT.val,Dj,bEq hb.1.2]; cases iv.isAgg<;>rfl
       obtain⟨es,clock,ys,hg,hq,hnd,hp⟩:=Jbb hM hmo
       have hzv:isV (rt v) ok w z tz.z:=⟨Qu tz.z,K8 (M:=[]) (β:=β) (ρ:=ρ) (by simp[Qh]) hz (Dm hza),(Qne (bEq hb.2)).symm⟩
       obtain⟨u,hrun,hu,_⟩:=Qr0 hT hte htd htk htz hb.1.1 hg hp key hzv c
       rw[Qcm (Jf hb.1.1) hq hnd]at hrun hu
       rw[←Hg (Jf hb.1.1) hkr]at hrun
       obtain⟨cu,hu1,hu2⟩:=hu
       have hvu:(AV.d v ((Qg key xs).getD z)).val cu=u:=by rw[hu2]; grind [AV.val,RT.val,Dj,AV.isAgg]
       cases c with
       | true =>
        simp only at hv; subst hv
        refine⟨[.tuple #[u,.bool (Qg key xs).isSome]],?_,[u,.bool (Qg key xs).isSome],rfl,cu,[.bool (Qg key xs).isSome],by rw[hvu],hu1,[.bool (Qg key xs).isSome],[],rfl,rfl,rfl⟩
        simp_all [if_true,AV.val,AV.isAgg]
       | false =>
        simp only at hv; subst hv
        refine⟨cu,?_,hu1⟩
        rw[hvu]
        simp only[h1']
        simp only[JG,if_false]at hrun
        simp[hrun]
      ·cases hv
     ·cases hv
    ·cases hv
   ·cases hv
  ·cases hv
 ·cases hv
end
end Gx

/- Maps whose values are objects of their own: what lies in them. -/
namespace Gx
open Go Go.RowKit Gd
set_option linter.unusedVariables false
set_option linter.unusedSimpArgs false
section
variable {k v:Ty}
theorem Qng(hk:Ir k=true){key:k.De}:∀{xs:List (k.De×v.De)},key∉xs.map Prod.fst→Qg key xs=none
 | [],_=>rfl
 | x::xs,h=>by
  simp only[QT,QJ,not_or]at h
  simp only[Qg]
  cases he:eqK k key x.1 with
  | true=>grind [absurd,Vo]
  | false=>exact Qng hk h.2
theorem Qwc(hk:Ir k=true){key:k.De}:∀{xs:List (k.De×v.De)},Qg key xs=none→key∉xs.map Prod.fst
 | [],_=>by simp
 | x::xs,h=>by
  simp only[Qg]at h
  cases he:eqK k key x.1 with
  | true=>rw[he]at h; cases h
  | false =>
   rw[he]at h
   simp only[QT,QJ,not_or]
   exact⟨fun e'=>(by rw[e',(Vo hk).2 rfl]at he; cases he),Qwc hk h⟩
end
section
variable {k:Ty} {c:CK} {ok:Ok} {w:World} {hv:Value}
theorem Q3b{κ:Type}{h2:Option κ}{hv2:Value}:∀{xs:List (κ×c.ty.De)} {ys:List (κ×Value)} {vs:List Value},Dk c none hv ok w xs ys vs→(∀x∈xs,h2≠some x.1)→Dk c h2 hv2 ok w xs ys vs
 | [],[],[],h,_=>h
 | x::xs,y::ys,s::vs,⟨h1,h3,h4⟩,hn=>⟨h1,.inr ⟨hn x (.head _),by
   grind⟩,Q3b h4 fun y hy=>hn y (.tail _ hy)⟩
 | [],[],_::_,h,_=>h.elim
 | [],_::_,_,h,_=>h.elim
 | _::_,[],_,h,_=>h.elim
 | _::_,_::_,[],h,_=>h.elim
theorem Qnh{κ:Type}{hole:Option κ}{hv2:Value}:∀{xs:List (κ×c.ty.De)} {ys:List (κ×Value)} {vs:List Value},Dk c hole hv ok w xs ys vs→(∀kh,hole=some kh→kh∉xs.map Prod.fst)→Dk c none hv2 ok w xs ys vs
 | [],[],[],h,_=>h
 | x::xs,y::ys,s::vs,⟨h1,h3,h4⟩,hn=>⟨h1,.inr ⟨by simp,by
   grind⟩,Qnh h4 fun kh e hm=>hn kh e (by grind)⟩
 | [],[],_::_,h,_=>h.elim
 | [],_::_,_,h,_=>h.elim
 | _::_,[],_,h,_=>h.elim
 | _::_,_::_,[],h,_=>h.elim
theorem Qni(key:k.De){hole:Option k.De}:∀{xs:List (k.De×c.ty.De)} {ys:List (k.De×Value)} {vs:List Value},Dk c hole hv ok w xs ys vs →
  (Qg key xs=none∧Qg key ys=none)∨∃x y,Qg key xs=some x∧Qg key ys=some y∧(∃k1,eqK k key k1=true∧k1∈xs.map Prod.fst∧(hole=some k1→zal y hv))
 | [],[],[],_=>.inl ⟨rfl,rfl⟩
 | x::xs,y::ys,s::vs,⟨h1,h3,h4⟩=>by
  simp only[Qg,←h1]
  cases he:eqK k key x.1 with
  | true =>
   grind
  | false =>
   rcases Qni key h4 with q | ⟨x',y',q1,q2,k1,q3,q4,q5⟩
   ·exact .inl q
   grind
 | [],[],_::_,h=>h.elim
 | [],_::_,_,h=>h.elim
 | _::_,[],_,h=>h.elim
 | _::_,_::_,[],h=>h.elim
theorem Qnj(hk:Ir k=true){key:k.De} :
  ∀{xs:List (k.De×c.ty.De)} {ys:List (k.De×Value)} {vs:List Value},Dk c none hv ok w xs ys vs→(xs.map Prod.fst).Nodup→Qk7 vs →
  (Qg key xs=none∧∀sv,Dk c (some key) sv ok w xs ys vs) ∨
  ∃vs' sv x,Qg key xs=some x∧Dk c (some key) sv ok w xs ys vs'∧sv∈vs∧(∀s∈vs',s=undef∨s∈vs)∧Qk7 vs'∧(∀s∈vs',∀g,Xi s=some g→Xi sv≠some g)∧(Qes c sv x).p ok w
 | [],[],[],h,_,_=>.inl ⟨rfl,fun _=>trivial⟩
 | x::xs,y::ys,s::vs,⟨h1,h3,h4⟩,hnd,hdp=>by
  have hnd':=QN.1 (by simpa using hnd:(x.1::xs.map Prod.fst).Nodup)
  have hdp':=List.pairwise_cons.1 hdp
  obtain⟨q1,q2,q3⟩:none≠some x.1∧zal y.2 s∧(Qes c s x.2).p ok w:=by
   grind
  simp only[Qg]
  cases he:eqK k key x.1 with
  | true =>
   have hkx:=(Vo hk).1 he
   subst hkx
   refine .inr ⟨undef::vs,s,x.2,rfl,⟨h1,.inl ⟨rfl,rfl,q2⟩,Q3b h4 fun y hy e'=>?_⟩,.head _,?_,?_,?_,q3⟩
   ·grind
   ·grind
   ·exact List.pairwise_cons.2 ⟨fun b hb g hg=>(by cases hg),hdp'.2⟩
   ·intro t ht g hg hg2
    rcases QJ.1 ht with rfl | ht
    ·cases hg
    grind
  | false =>
   have hne:some key≠some x.1:=fun e'=>by injection e' with e'; rw[e',(Vo hk).2 rfl]at he; cases he
   rcases Qnj hk h4 hnd'.2 hdp'.2 with⟨r1,r2⟩ | ⟨vs',sv,x',r1,r2,r3,r4,r5,r6,r7⟩
   ·exact .inl ⟨r1,fun sv=>⟨h1,.inr ⟨hne,q2,q3⟩,r2 sv⟩⟩
   ·refine .inr ⟨s::vs',sv,x',r1,⟨h1,.inr ⟨hne,q2,q3⟩,r2⟩,.tail _ r3,?_,?_,?_,r7⟩
    ·grind
    ·refine List.pairwise_cons.2 ⟨fun b hb g hg=>?_,r5⟩
     rcases r4 b hb with rfl | hb
     ·intro e'; cases e'
     grind
    grind
 | [],[],_::_,h,_,_=>h.elim
 | [],_::_,_,h,_,_=>h.elim
 | _::_,[],_,h,_,_=>h.elim
 | _::_,_::_,[],h,_,_=>h.elim
theorem Q3c(hk:Ir k=true){key:k.De}{x0:c.ty.De}{nv sv:Value}(hz:zal nv sv)(hp:(Qes c sv x0).p ok w){hole:Option k.De}(hh:∀kh,hole=some kh→kh=key) :
  ∀{xs:List (k.De×c.ty.De)} {ys:List (k.De×Value)} {vs:List Value},Dk c hole hv ok w xs ys vs→(xs.map Prod.fst).Nodup→Qk7 vs→(∀s∈vs,∀g,Xi s=some g→Xi sv≠some g) →
  ∃vs',Dk c none undef ok w (Yu key x0 xs) (Yu key nv ys) vs'∧Qk7 vs'∧∀s∈vs',s=sv∨s∈vs
 | [],[],[],h,_,_,_=>⟨[sv],⟨rfl,.inr ⟨by simp,hz,hp⟩,trivial⟩,List.pairwise_cons.2 ⟨by simp,.nil⟩,by simp⟩
 | x::xs,y::ys,s::vs,⟨h1,h3,h4⟩,hnd,hdp,hds=>by
  have hnd':=QN.1 (by simpa using hnd:(x.1::xs.map Prod.fst).Nodup)
  have hdp':=List.pairwise_cons.1 hdp
  simp only[Yu,←h1]
  cases he:eqK k key x.1 with
  | true =>
   have hkx:=(Vo hk).1 he
   refine⟨sv::vs,⟨rfl,.inr ⟨by simp,hz,hp⟩,Qnh h4 fun kh e hm=>?_⟩,List.pairwise_cons.2 ⟨fun b hb g hg hg2=>hds b (.tail _ hb) g hg2 hg,hdp'.2⟩,fun t ht=>?_⟩
   ·rw[hh kh e,hkx]at hm; exact hnd'.1 hm
   grind
  | false =>
   have h3':zal y.2 s∧(Qes c s x.2).p ok w:=by
    rcases h3 with⟨q,_⟩ | ⟨_,q⟩
    ·have:=hh _ q; rw[this,(Vo hk).2 rfl]at he; cases he
    ·exact q
   obtain⟨vs',r1,r2,r3⟩:=Q3c hk hz hp hh h4 hnd'.2 hdp'.2 (fun t ht=>hds t (.tail _ ht))
   refine⟨s::vs',⟨h1,.inr ⟨by simp,h3'⟩,r1⟩,List.pairwise_cons.2 ⟨fun b hb g hg=>?_,r2⟩,fun t ht=>?_⟩
   ·grind
   grind
 | [],[],_::_,h,_,_,_=>h.elim
 | [],_::_,_,h,_,_,_=>h.elim
 | _::_,[],_,h,_,_,_=>h.elim
 | _::_,_::_,[],h,_,_,_=>h.elim
theorem Qr3(hk:Ir k=true){key:k.De}{x0:c.ty.De}(hp:(Qes c hv x0).p ok w) :
  ∀{xs:List (k.De×c.ty.De)} {ys:List (k.De×Value)} {vs:List Value},Dk c (some key) hv ok w xs ys vs→key∈xs.map Prod.fst→(xs.map Prod.fst).Nodup→Qk7 vs→(∀s∈vs,∀g,Xi s=some g→Xi hv≠some g) →
  ∃vs',Dk c none undef ok w (Yu key x0 xs) ys vs'∧Qk7 vs'∧∀s∈vs',s=hv∨s∈vs
 | [],[],[],_,hi,_,_,_=>by cases hi
 | x::xs,y::ys,s::vs,⟨h1,h3,h4⟩,hi,hnd,hdp,hds=>by
  have hnd':=QN.1 (by simpa using hnd:(x.1::xs.map Prod.fst).Nodup)
  have hdp':=List.pairwise_cons.1 hdp
  simp only[Yu]
  cases he:eqK k key x.1 with
  | true =>
   have hkx:=(Vo hk).1 he
   subst hkx
   have hz:zal y.2 hv:=by
    grind
   refine⟨hv::vs,⟨h1,.inr ⟨by simp,hz,hp⟩,Qnh h4 fun kh e hm=>?_⟩,List.pairwise_cons.2 ⟨fun b hb g hg hg2=>hds b (.tail _ hb) g hg2 hg,hdp'.2⟩,fun t ht=>?_⟩
   ·grind
   grind
  | false =>
   have hne:key≠x.1:=fun e=>by rw[e,(Vo hk).2 rfl]at he; cases he
   have hi':key∈xs.map Prod.fst:=by
    grind
   have h3':zal y.2 s∧(Qes c s x.2).p ok w:=by
    grind
   obtain⟨vs',r1,r2,r3⟩:=Qr3 hk hp h4 hi' hnd'.2 hdp'.2 (fun t ht=>hds t (.tail _ ht))
   refine⟨s::vs',⟨h1,.inr ⟨by simp,h3'⟩,r1⟩,List.pairwise_cons.2 ⟨fun b hb g hg=>?_,r2⟩,fun t ht=>?_⟩
   ·grind
   grind
 | [],[],_::_,h,_,_,_,_=>h.elim
 | [],_::_,_,h,_,_,_,_=>h.elim
 | _::_,[],_,h,_,_,_,_=>h.elim
 | _::_,_::_,[],h,_,_,_,_=>h.elim
end
end Gx

/- Operations that may fail, without a change of memory. -/
namespace Gx
open Go Go.RowKit Gd
set_option linter.unusedVariables false
set_option linter.unusedSimpArgs false
def Jbd:Operand→Bool
 | .const _=>true
 | _=>false
def Q8m:BinOp→Operand→Nat
 | .quo,y=>bif Jbd y then 0 else 1
 | .rem,y=>bif Jbd y then 0 else 2
 | .shl,_=>3
 | .shr,_=>4
 | .add,_=>5
 | _,_=>0
def Qjs:AV→Option Str
 | .d .str l=>some l
 | _=>none
def Jif(M:List (Nat×Ob)):AV→Option (Σ t:Ty,List t.De)
 | .d (.sl e) xs=>some ⟨e,xs⟩
 | .s id=>match Qh M id with
  | some (.tail _ t xs)=>some ⟨t,xs⟩
  | _=>none
 | _=>none
def bnd(S:St)(cur:Vz)(dflt:Int):Option Operand→Option Int
 | none=>some dflt
 | some x=>match ev S cur x with
  | some v=>match W9 v with
   | some (_,n)=>some n
   | none=>none
  | none=>none
def chk(b:Bool):Option Unit:=bif b then some ()else none
section
variable {R:Type} (Y:TX) (S:St) (cur:Vz)
def tot(op:Op)(k:AV→Option R):Option R:=match Qle Y S cur op with
 | some av=>k av
 | none=>none
def Jel:Int→Option Nat
 | .ofNat n=>some n
 | .negSucc _=>none
theorem Qzd{i:Int}{n:Nat}(h:Jel i=some n):i=(n:Int):=by
 cases i with
 | ofNat m=>grind [Jel,Option.some.injEq]
 | negSucc m=>cases h
def Qnk(op:Op)(k:AV→Option R):Option R :=
 match op with
 | .binOp b t x y yt=>match Q8m b y with
  | 0=>tot Y S cur (.binOp b t x y yt) k
  | 5=>match ev S cur x,ev S cur y with
   | some u,some v=>match Qjs u,Qjs v with
    | some p,some q=>(Jni p q).bind fun s=>k (.d .str s)
    | _,_=>tot Y S cur (.binOp b t x y yt) k
   | _,_=>none
  | n=>match ev S cur x,ev S cur y with
   | some u,some v=>match W9 u,W9 v with
    | some (kk,p),some (k2,q)=>match n with
     | 1=>bif Qax kk k2 then(Q8h kk p q).bind fun z=>k (.d (.int kk) z)else none
     | 2=>bif Qax kk k2 then(Q2q p q).bind fun z=>k (.d (.int kk) z)else none
     | 3=>(Jd8 kk p q).bind fun z=>k (.d (.int kk) z)
     | 4=>(Jh1 kk p q).bind fun z=>k (.d (.int kk) z)
     | _=>none
    | _,_=>none
   | _,_=>none
 | .indexAddr t x i=>match Qk Y.T t,ev S cur x,ev S cur i with
  | some te,some v,some iv=>match W9 iv,Yy te.d with
   | some (_,j),some e=>match Qk Y.T e with
    | some ee=>match v with
     | .d (.sl u) xs=>bif Nat.beq ee.size u.size then(idx xs j).bind fun y=>k (.a u y)else none
     | .s id=>match Qh S.mem id with
      | some (.row _ u xs)=>bif Nat.beq ee.size u.size&&Nat.ble 1 u.size then(idx xs j).bind fun _=>k (.e id [.i j u.size])else none
      | some (.tail _ u xs)=>bif Nat.beq ee.size u.size then(idx xs j).bind fun y=>k (.a u y)else none
      | _=>none
     | .w id j0 n=>match Jel j,Jel j0,Jel n with
      | some a,some a0,some nn=>bif Nat.beq ee.size 1&&Nat.blt a nn then k (.p id [.f (a0+a) (a0+a)])else none
      | _,_,_=>none
     | _=>none
    | none=>none
   | _,_=>none
  | _,_,_=>none
 | .index t x i=>match Qk Y.T t,ev S cur x,ev S cur i with
  | some te,some v,some iv=>match W9 iv,Qjs v,te.d with
   | some (_,j),some l,.string=>(Be l j).bind fun c=>k (.d (.int .u8) c)
   | some (_,j),none,.array m e=>match v,Qk Y.T e with
    | .d (.arr m' u) xs,some ee=>bif Nat.beq m m'&&Nat.beq ee.size u.size&&(Gn ee.d==u.agg)then(idx xs j).bind fun y=>k (.d u y)else none
    | _,_=>none
   | _,_,_=>none
  | _,_,_=>none
 | .load t x=>match Qk Y.T t,ev S cur x with
  | some e,some (.e id (.i j sz::ps))=>match Qh S.mem id with
   | some (.row _ u xs)=>bif Nat.beq sz u.size&&Nat.ble 1 u.size then(idx xs j).bind fun y=>match nav ps (.d u y)with
     | some zv=>bif Nat.beq e.size zv.size&&(Gn e.d==zv.isAgg)&&zv.isVal&&(zv.isAgg||Nat.beq zv.size 1)then k zv else none
     | none=>none
    else none
   | _=>none
  | _,_=>tot Y S cur (.load t x) k
 | .slice t x lo hi none=>match Qk Y.T t,ev S cur x with
  | some te,some v=>match te.d with
   | .string=>match Qjs v with
    | some l=>match bnd S cur 0 lo,bnd S cur l.length hi with
     | some a,some b=>(slc l a b).bind fun s=>k (.d .str s)
     | _,_=>none
    | none=>none
   | .slice e=>match Qk Y.T e,Jif S.mem v with
    | some ee,some ⟨u,xs⟩=>bif Nat.beq ee.size u.size then match bnd S cur 0 lo,bnd S cur xs.length hi with
      | some a,some b=>(slc xs a b).bind fun ys=>k (.d (.sl u) ys)
      | _,_=>none
     else none
    | _,_=>none
   | _=>none
  | _,_=>none
 | .slice t x lo (some hi) (some mx)=>match Qk Y.T t,ev S cur x,ev S cur hi,ev S cur mx with
  | some te,some v,some hv,some mv=>match Yy te.d,W9 hv,W9 mv with
   | some e,some (_,b),some (_,m)=>match Qk Y.T e,Jif S.mem v,bnd S cur 0 lo with
    | some ee,some ⟨u,xs⟩,some a=>bif Nat.beq ee.size u.size then(chk (decide (b≤m)&&decide (m≤(xs.length:Int)))).bind fun _=>(slc xs a b).bind fun ys=>k (.d (.sl u) ys)else none
    | _,_,_=>none
   | _,_,_=>none
  | _,_,_,_=>none
 | .convert s t x=>match Qk Y.T s,Qk Y.T t with
  | some se,some te=>match Yy se.d,te.d with
   | some e,.string=>match Qk Y.T e,ev S cur x with
    | some ⟨_,.int .u8,_,_,_⟩,some v=>match asD S.mem v (.sl (.int .u8))with
     | some xs=>k (.d .str (Qve xs))
     | none=>none
    | _,_=>none
   | _,_=>tot Y S cur (.convert s t x) k
  | _,_=>none
 | op=>tot Y S cur op k
end
section
variable {P:Program} {X:Cx} {β:Nat→Nat} {ρ:Nat→Value} {S:St} {a:Act} {w:World} {cur:Vz} {ok:Ok}
theorem Jem{x:AV}{l:Str}(h:Qjs x=some l):x=.d .str l:=by
 unfold Qjs at h
 grind
theorem Qa4{b:BinOp}{y:Operand}{n:Nat}(h:Q8m b y=n):n=0∨(n=1∧b=.quo)∨(n=2∧b=.rem)∨(n=3∧b=.shl)∨(n=4∧b=.shr)∨(n=5∧b=.add):=by
 subst h
 cases b<;>simp only[Q8m]<;>first | (simp; done) | grind
theorem Dn.int(h:Dn β ρ ok S a w)(hc:J3 a cur){x:Operand}{v:AV}{k:IntKind}{n:Int}(hx:Gx.ev S cur x=some v)(hi:W9 v=some (k,n)):a.eval x=.int k n:=by
 have:=Is hi
 subst this
 obtain⟨cs,h1,h2⟩:=h.ev hc hx
 have h2':cs=_:=h2
 subst h2'
 exact h1
theorem Dn.str(h:Dn β ρ ok S a w)(hc:J3 a cur){x:Operand}{v:AV}{l:Str}(hx:Gx.ev S cur x=some v)(hi:Qjs v=some l):a.eval x=Yp l:=by
 have:=Jem hi
 subst this
 obtain⟨cs,h1,h2⟩:=h.ev hc hx
 have h2':cs=_:=h2
 subst h2'
 exact h1
theorem Qqy(h:Dn β ρ ok S a w)(hc:J3 a cur){x:Operand}{v:AV}{u:Ty}{xs:List u.De}(hx:ev S cur x=some v)(hi:Jif S.mem v=some ⟨u,xs⟩) :
  isV (rSl (rt u)) (ok) w xs (a.eval x):=by
 unfold Jif at hi
 obtain⟨cs,h1,h2⟩:=h.ev hc hx
 split at hi
 ·simp at hi; obtain⟨rfl,hi⟩:=hi
  obtain rfl:=eq_of_heq hi
  have:=Jeh h2
  rw[←h1]at this
  exact this
 ·rename_i id
  split at hi
  ·rename_i e t ys ho
   simp at hi; obtain⟨rfl,hi⟩:=hi
   obtain rfl:=eq_of_heq hi
   obtain⟨⟨v0,rfl,hz0⟩,_⟩:=h2
   have h1':a.eval x=v0:=h1
   rw[h1']
   exact Qzc hz0 (h.mm _ _ ho).1
  ·cases hi
 ·cases hi
theorem Dn.bnd(h:Dn β ρ ok S a w)(hc:J3 a cur){dflt n:Int}{x:Option Operand}(hb:Gx.bnd S cur dflt x=some n):(x=none∧n=dflt)∨∃y k,x=some y∧a.eval y=.int k n:=by
 unfold Gx.bnd at hb
 split at hb
 ·grind
 ·rename_i y
  split at hb
  ·rename_i v hv
   split at hb
   ·rename_i k m hi
    simp at hb; subst hb
    exact .inr ⟨y,k,rfl,h.int hc hv hi⟩
   ·cases hb
  ·cases hb
theorem Qoy{lo:Option Operand}{hi mx:Operand}{k1 k2:IntKind}{l h' m:Int}{len cap:Nat}(hlo:(lo=none∧l=0)∨∃y k,lo=some y∧a.eval y=.int k l)(hhi:a.eval hi=.int k1 h')(hmx:a.eval mx=.int k2 m)
  (h0:0≤l) (h1:l≤h') (h2:h'≤m) (h3:m≤cap) :
  (Instr.sliceBounds true len cap (lo.map a.eval) ((some hi).map a.eval) ((some mx).map a.eval)).run P w=.ok (l.toNat,h'.toNat,m.toNat) w:=by
 unfold Instr.sliceBounds
 have s1:∀{k:IntKind} {i:Int} {y:Nat} {code:BoundsCode},0≤i→i≤y→(Instr.sliceBound (.int k i) y code).run P w=.ok i.toNat w:=fun h0 h1=>Qd4 h0 h1
 rcases hlo with⟨rfl,rfl⟩ | ⟨yl,kl,rfl,hl⟩
 ·simp only[XY,Option.map_none,hhi,hmx,Sem.run_bind,if_true]
  rw[s1 (by omega) h3]
  simp only[Result.andThen_ok]
  rw[s1 (by omega) (by omega)]
  simp
 ·simp only[XY,hhi,hmx,hl,Sem.run_bind,if_true]
  rw[s1 (by omega) h3]
  simp only[Result.andThen_ok]
  rw[s1 (by omega) (by omega)]
  simp only[Result.andThen_ok]
  rw[s1 h0 (by omega)]
  simp
theorem Si{isS:Bool}{lo hi:Option Operand}{l h':Int}{len cap:Nat}(hlo:(lo=none∧l=0)∨∃y k,lo=some y∧a.eval y=.int k l)(hhi:(hi=none∧h'=len)∨∃y k,hi=some y∧a.eval y=.int k h')
  (h0:0≤l) (h1:l≤h') (h2:h'≤len) (h3:len≤cap) :
  (Instr.sliceBounds isS len cap (lo.map a.eval) (hi.map a.eval) none).run P w=.ok (l.toNat,h'.toNat,cap) w:=by
 unfold Instr.sliceBounds
 have s1:∀{k:IntKind} {i:Int} {y:Nat} {code:BoundsCode},0≤i→i≤y→(Instr.sliceBound (.int k i) y code).run P w=.ok i.toNat w:=fun h0 h1=>Qd4 h0 h1
 rcases hhi with⟨rfl,rfl⟩ | ⟨yh,kh,rfl,hh⟩
 ·rcases hlo with⟨rfl,rfl⟩ | ⟨yl,kl,rfl,hl⟩
  ·simp
  simp_all
 ·have e1:∀c:BoundsCode,(Instr.sliceBound (.int kh h') cap c).run P w=.ok h'.toNat w:=fun c=>s1 (by omega) (by omega)
  rcases hlo with⟨rfl,rfl⟩ | ⟨yl,kl,rfl,hl⟩
  ·simp_all
  ·simp only[XY,hh,hl,Sem.run_bind,Sem.run_pure,Result.andThen_ok,e1]
   rw[s1 h0 (by omega)]
   simp
theorem Jn0{Y:Tab}(hT:Q0 P Y){s t e:TypeId}{te ee se:TE}(ht:Qk Y t=some te)(htd:te.d=.string)(hse:Qk Y s=some se)(hsd:se.d=.slice e)(he:Qk Y e=some ee)(hed:ee.d=.int .u8)
  {xs:List Int} {v:Value} (hD:isV (rSl (Tk .u8)) ok w xs v):(convert s t v).run P w=.ok (Yp (Qve xs)) w:=by
 obtain⟨A,m,c,rfl,hl,hc,hn⟩:=U9.1 hD
 have hus:=(Jo hT hse).2; rw[hsd]at hus
 have hut:=(Jo hT ht).2; rw[htd]at hut
 have hue:=(Jo hT he).2; rw[hed]at hue
 have hconv:=run_convert_bytes_string (P:=P) w s t e A m c hus hue hut
 have hrun:(Conv.bytesToString (.slice A m c)).run P w=.ok (Yp (Qve xs)) w:=by
  cases A with
  | none =>
   have hm0:m=0:=by
    grind
   have:xs=[]:=QE (by omega)
   subst this
   simp[Conv.bytesToString,Qve,Yp]; rfl
  | some ad =>
   have hload:(loadCells ad m).run P w=.ok (xs.map (Value.int .u8)).toArray w:=by
    have:=run_loadCells_list (P:=P) w ad (xs.map (Value.int .u8)) (fun j v hj=>by
     rw[JS]at hj
     obtain⟨y,hy,rfl⟩:=XG.1 hj
     have hj':=(List.getElem?_eq_some_iff.1 hy).1
     obtain⟨b,o,hA,hcs⟩:=hn (by omega)
     injection hA with hA
     subst hA
     obtain⟨cs,hr,ha⟩:=hcs j y hy
     have hcs':cs=[.int .u8 y]:=hr
     subst hcs'
     have:=(ha 0 _ rfl).2
     rw[E8]
     grind [Tk])
    grind
   rw[run_bytesToString w ad m c xs hload]
   have:=Qrp xs []
   simp only[QF]at this
   show Result.ok (Value.string (xs.foldl _ (ByteArray.mk ([]:List UInt8).toArray))) w=_
   rw[this]; rfl
 grind
def Qr4(P:Program)(S:St)(cur:Vz)(o:Oper)(av:AV):Prop :=
 ∀{β:Nat→Nat} {ρ:Nat→Value} {ok:Ok} {a:Act} {w:World},Dn β ρ ok S a w→J3 a cur →
  ∃cs,(execOp a.eval o).run P w=.ok (.value (av.val cs)) w∧cr β ρ (ok) w false av cs
theorem Qr5{Y:TX}(hT:Q0 P Y.T){R:Type}{o:Oper}{op:Op}(hop:o.op=op){k:AV→Option R}{r:R}(hv:tot Y S cur op k=some r):∃av,k av=some r∧Qr4 P S cur o av:=by
 unfold tot at hv
 split at hv
 ·rename_i av hav
  exact⟨av,hv,fun {β ρ ok a w} h hc=>Qlg hT h hc (by rw[hop]; exact hav)⟩
 ·cases hv
theorem Jen{Y:TX}(hT:Q0 P Y.T){R:Type}{o:Oper}{op:Op}(hop:o.op=op){k:AV→Option R}{r:R}(hv:Qnk Y S cur op k=some r):∃av,k av=some r∧Qr4 P S cur o av:=by
 unfold Qnk at hv
 split at hv
 ·
  rename_i b t x y yt
  split at hv
  ·grind [Qr5]
  ·rename_i hk
   split at hv
   ·rename_i u v hu hv'
    split at hv
    ·rename_i p q hp hq
     obtain⟨s,hs,hk'⟩:=Yq hv
     refine⟨_,hk',fun {β ρ ok a w} h hc=>⟨[Yp s],?_,rfl⟩⟩
     have h1:=h.str hc hu hp
     have h2:=h.str hc hv' hq
     have hb:b=.add:=by
      have:=Qa4 hk
      grind
     subst hb
     unfold Jni at hs
     split at hs
     ·rename_i hle
      have hq:=(Option.some.inj hs).symm
      subst hq
      have hr:(Op.stringOp .add (ByteArray.mk p.toArray) (ByteArray.mk q.toArray)).run P w=.ok (.string (ByteArray.mk (p++q).toArray)) w:=by
       rw[run_string_add_sum _ _ _ (by exact hle)]
       congr 2
      unfold execOp
      rw[hop]
      simp_all [Yp,eqGuard_add,binOp_string_add,AV.val,AV.isAgg,Ty.agg]
     ·cases hs
    grind [Qr5]
   ·cases hv
  ·rename_i n hn0 hn5
   split at hv
   ·rename_i u v hu hv'
    split at hv
    ·rename_i kk p k2 q hp hq
     have hb:b≠.eql∧b≠.neq:=by
      constructor<;>(rintro rfl; exact hn0 (by rfl))
     have fin:∀z,(∀w:World,(binOp b t (.int kk p) (.int k2 q)).run P w=.ok (.int kk z) w)→Qr4 P S cur o (.d (.int kk) z):=by
      intro z hz β ρ ok a w h hc
      have h1:=h.int hc hu hp
      have h2:=h.int hc hv' hq
      refine⟨[.int kk z],?_,rfl⟩
      simp_all [execOp,eqGuard,AV.val,AV.isAgg,Ty.agg]
     split at hv
     ·rename_i hk1
      obtain⟨hs,hv2⟩:=bvT hv
      have:=Io hs
      subst this
      obtain⟨z,hz,hk'⟩:=Yq hv2
      have hb:b=.quo:=by
       have:=Qa4 hk1
       grind
      grind [Jnl]
     ·rename_i hk1
      obtain⟨hs,hv2⟩:=bvT hv
      have:=Io hs
      subst this
      obtain⟨z,hz,hk'⟩:=Yq hv2
      have hb:b=.rem:=by
       have:=Qa4 hk1
       grind
      grind [Jnm]
     ·rename_i hk1
      obtain⟨z,hz,hk'⟩:=Yq hv
      have hb:b=.shl:=by
       have:=Qa4 hk1
       grind
      grind [Jno]
     ·rename_i hk1
      obtain⟨z,hz,hk'⟩:=Yq hv
      have hb:b=.shr:=by
       have:=Qa4 hk1
       grind
      grind [Jnn]
     ·cases hv
    ·cases hv
   ·cases hv
 ·
  rename_i t x i
  split at hv
  ·rename_i te v iv hte hx hi
   split at hv
   ·rename_i ki j e hij hse
    have htd:te.d=.slice e:=by
     unfold Yy at hse
     grind
    split at hv
    ·rename_i ee he
     have run:∀{β:Nat→Nat} {ρ:Nat→Value} {ok:Ok} {a:Act} {w:World},Dn β ρ ok S a w→J3 a cur→∀{b of m c:Nat},a.eval x=.slice (some ⟨b,of,none⟩) m c→0≤j→j<(m:Int) →
       (execOp a.eval o).run P w=.ok (.value (.pointer (some ⟨b,of+j.toNat*ee.size,none⟩))) w:=by
      intro β ρ ok a w h hc b of m c hv h0 h1
      have hun:(underlying t).run P w=.ok (.slice e) w:=by rw[J2 hT w hte,htd]
      have hi':=h.int hc hi hij
      unfold execOp
      rw[hop]
      simp only[hv,hi']
      simp[Instr.indexAt,asIntOf,hun,h0,h1,Yg hT w he,Addr.add_lit]
     have data:∀{u:Ty} {xs:List u.De} {y:u.De},ee.size=u.size→idx xs j=some y→(∀{β:Nat→Nat} {ρ:Nat→Value} {ok:Ok} {a:Act} {w:World},Dn β ρ ok S a w→J3 a cur→isV (rSl (rt u)) (ok) w xs (a.eval x)) →
       Qr4 P S cur o (.a u y):=by
      intro u xs y hsz hy hsl β ρ ok a w h hc
      have h0:=(He hy).1
      obtain⟨A,c,hev,hsl'⟩:=Qm0 (hsl h hc)
      obtain⟨b,of,rfl,hlt,hat⟩:=Jh0 (U9.1 hsl') (He hy).2
      refine⟨[.pointer (some ⟨b,of+j.toNat*u.size,none⟩)],?_,_,rfl,by rw[←Jm]; exact hat⟩
      rw[←hsz]
      exact run h hc hev h0 (by omega)
     split at hv
     ·rename_i u xs
      obtain⟨hb,hv⟩:=bvT hv
      obtain⟨y,hy,hk'⟩:=Yq hv
      refine⟨_,hk',data (Nat.eq_of_beq_eq_true hb) hy fun {β ρ ok a w} h hc=>Qqy h hc hx rfl⟩
     ·rename_i id
      split at hv
      ·rename_i e' u xs ho
       obtain⟨hb,hv⟩:=bvT hv
       simp only[QQ]at hb
       obtain⟨y,hy,hk'⟩:=Yq hv
       refine⟨_,hk',fun {β ρ ok a w} h hc=>?_⟩
       obtain⟨cs,h1,⟨v0,rfl,hz0⟩,A,m,c,hρ⟩:=h.ev hc hx
       have hml:=(h.mm _ _ ho)
       obtain⟨hl,cs2,hown,hr⟩:=hml
       have hev:a.eval x=ρ id:=by
        rcases hz0 with rfl | ⟨h00,_⟩
        ·exact h1
        ·rw[h00]at hl
         have hlt:=(List.getElem?_eq_some_iff.1 (He hy).2).1
         grind [Wk]
       rw[hρ]at hl hown hev
       simp only[Wk]at hl hown
       have h0:=(He hy).1
       have hlt:=(List.getElem?_eq_some_iff.1 (He hy).2).1
       rcases hown.2 with⟨hv,hm⟩ | ⟨g,cap,cu,fz,hv,_⟩
       ·omega
       ·injection hv with e1 e2 e3
        subst e1
        refine⟨[.pointer (some ⟨g,0+j.toNat*ee.size,none⟩)],run h hc hev h0 (by omega),g,by rw[hρ]; rfl,?_⟩
        have hsz:=Nat.eq_of_beq_eq_true hb.1
        simp[Yt,PS.off,hsz]
      ·rename_i e' u xs ho
       obtain⟨hb,hv⟩:=bvT hv
       obtain⟨y,hy,hk'⟩:=Yq hv
       grind [Nat.eq_of_beq_eq_true,Qqy,Jif]
      ·cases hv
     ·rename_i id j0 nn0
      split at hv
      ·rename_i ia a0 nn hla hl0 hln
       obtain⟨hb,hv⟩:=bvT hv
       simp only[QQ]at hb
       have e1:=Qzd hla; have e2:=Qzd hl0; have e3:=Qzd hln
       have hlt:=QK hb.2
       refine⟨_,hv,fun {β ρ ok a w} h hc=>?_⟩
       obtain⟨cs,h1,A,c,rfl,hA⟩:=h.ev hc hx
       have hA':=hA (by rw[e3]; grind)
       subst hA'
       have hev:a.eval x=.slice (some ⟨β id,j0.toNat,none⟩) nn0.toNat c:=h1
       refine⟨[.pointer (some ⟨β id,j0.toNat+j.toNat*ee.size,none⟩)],run h hc hev (by omega) (by rw[e1,e3]; grind),?_⟩
       have hs1:=Nat.eq_of_beq_eq_true hb.1
       show [_]=[_]
       rw[hs1,e1,e2]
       simp[Yt,PS.off]
      ·cases hv
     ·cases hv
    ·cases hv
   ·cases hv
  ·cases hv
 ·
  rename_i t x i
  split at hv
  ·rename_i te v iv hte hx hi
   split at hv
   ·rename_i ki j l hij hl hd
    obtain⟨c,hc',hk'⟩:=Yq hv
    refine⟨_,hk',fun {β ρ ok a w} h hc=>⟨[.int .u8 c],?_,rfl⟩⟩
    have h1:=h.str hc hx hl
    have h2:=h.int hc hi hij
    obtain⟨h0,b,hb,rfl⟩:=Jnh hc'
    have hun:(underlying t).run P w=.ok .string w:=by rw[J2 hT w hte,hd]
    have hbb:(if 0≤j then(ByteArray.mk l.toArray)[j.toNat]? else none)=some b:=by
     rw[if_pos h0]
     have hlen:j.toNat<l.length:=(List.getElem?_eq_some_iff.1 hb).1
     have h1:j.toNat<(ByteArray.mk l.toArray).size:=hlen
     rw[getElem?_pos (ByteArray.mk l.toArray) j.toNat h1]
     have:=(List.getElem?_eq_some_iff.1 hb).2
     rw[←this]
     rfl
    unfold execOp
    rw[hop]
    simp only[h1,h2]
    simp only[Instr.index,asIntOf,Sem.run_bind,Sem.run_pure,Result.andThen_ok,hun,Yp,hbb]
    rfl
   ·rename_i ki j m e hij _ hd
    split at hv
    ·rename_i m' u xs ee he _
     obtain⟨hb,hv⟩:=bvT hv
     obtain⟨y,hy,hk'⟩:=Yq hv
     simp only[QQ]at hb
     have e1:=Nat.eq_of_beq_eq_true hb.1.1
     subst e1
     have hsz:=Nat.eq_of_beq_eq_true hb.1.2
     have hag:=bEq hb.2
     refine⟨_,hk',fun {β ρ ok a w} h hc=>?_⟩
     have h2:=h.int hc hi hij
     obtain⟨c1,h1,hl,hr⟩:=h.ev hc hx
     have h1':a.eval x=.agg c1.toArray:=h1
     have hr:Wb (rt u) ok w xs c1:=hr
     obtain⟨h0,hyj⟩:=He hy
     have hrep:=Bi hr hyj
     rw[Jm]at hrep
     have hlt:j.toNat<xs.length:=(List.getElem?_eq_some_iff.1 hyj).1
     refine⟨(c1.drop (j.toNat*u.size)).take u.size,?_,hrep⟩
     have hpart:(part e c1.toArray (j.toNat*ee.size)).run P w=.ok ((AV.d u y).val ((c1.drop (j.toNat*u.size)).take u.size)) w:=by
      refine Qrl hT w he c1 _ ?_
      rw[hag,hsz]
      simp only[AV.val,AV.isAgg]
      cases hua:u.agg with
      | true=>simp
      | false =>
       have h1s:=Jh5 hua
       have hcl:=(rt u).len hrep
       rw[Jm,h1s]at hcl
       rw[h1s]
       simp only[JG,if_false,cond_false]
       grind [List.getElem?_eq_none_iff,List.length_take,List.length_drop,List.getElem?_eq_some_iff,List.drop_eq_getElem_cons]
     have hun:(underlying t).run P w=.ok (.array m e) w:=by rw[J2 hT w hte,hd]
     have hso:(Go.sizeOf e).run P w=.ok ee.size w:=Yg hT w he
     have hcond:0≤j∧j<(m:Int):=⟨h0,by omega⟩
     unfold execOp
     rw[hop]
     simp only[h1',h2]
     simp only[Instr.index,asIntOf,Sem.run_bind,Sem.run_pure,Result.andThen_ok,hun]
     rw[if_pos hcond]
     simp_all
    ·cases hv
   ·cases hv
  ·cases hv
 ·
  rename_i t x
  split at hv
  ·rename_i e id j sz ps he hx
   split at hv
   ·rename_i e' u xs ho
    obtain⟨hb,hv⟩:=bvT hv
    simp only[QQ]at hb
    obtain⟨y,hy,hv⟩:=Yq hv
    split at hv
    ·rename_i z0 hz
     obtain⟨hb2,hk'⟩:=bvT hv
     simp only[QQ]at hb2
     obtain⟨⟨⟨b1,b2⟩,b3⟩,b4⟩:=hb2
     have b1:=Nat.eq_of_beq_eq_true b1
     have b2:=bEq b2
     refine⟨_,hk',fun {β ρ ok a w} h hc=>?_⟩
     obtain⟨cs,h1,g',hg',rfl⟩:=h.ev hc hx
     obtain⟨hl,cs2,hown,hr⟩:=h.2 _ _ ho
     have h0:=(He hy).1
     have hlt:=(List.getElem?_eq_some_iff.1 (He hy).2).1
     rcases hown.2 with⟨hv,hm⟩ | ⟨g,cap,cu,fz,hv,_,hh,hfz,hle,hcm,hcs,htk⟩
     ·rw[hv]at hl; grind
     ·have hgg:g'=g:=by rw[hv]at hg'; grind [Value.ownBlock]
      subst hgg
      have hsz:=Nat.eq_of_beq_eq_true hb.1
      have hrs:=Jm u
      have hrep:=Bi hr (He hy).2
      rw[hrs]at hrep
      obtain⟨h3,h4⟩:=Qjq (β:=β) (ρ:=ρ) (x:=.d u y) hz hrep
      have hlen:=Zr h3
      refine⟨_,?_,h3⟩
      have h1':a.eval x=.pointer (some ⟨g',Yt (PS.i j sz::ps),none⟩):=h1
      have hL:((cs2.drop (j.toNat*u.size)).take u.size).length=u.size:=Zr (x:=.d u y) (show cr β ρ _ w false (.d u y) _ from hrep)
      unfold execOp
      rw[hop]
      simp only[h1',Sem.run_bind]
      rw[Bk hT he (y:=z0) (cs:=(List.drop (Yt ps) (List.take u.size (List.drop (j.toNat*u.size) cs2))).take z0.size) (by rw[hlen]; exact b1) b2 (fun ha=>by
       rw[ha]at b4
       rw[hlen]; grind [Nat.eq_of_beq_eq_true]) (fun q v hq=>by
        have hjl:q<z0.size:=by
         have:=(List.getElem?_eq_some_iff.1 hq).1
         omega
        rw[List.getElem?_take_of_lt hjl,JK]at hq
        grind [Yt,List.getElem?_take_of_lt,PS.off,World.cell?])]
      rfl
    ·cases hv
   ·cases hv
  grind [Qr5]
 ·
  rename_i t x lo hi
  split at hv
  ·rename_i te v hte hx
   split at hv
   ·rename_i hd
    split at hv
    ·rename_i l hl
     split at hv
     ·rename_i p q hp hq
      obtain⟨s,hs,hk'⟩:=Yq hv
      refine⟨_,hk',fun {β ρ ok a w} h hc=>⟨[Yp s],?_,rfl⟩⟩
      have h1:=h.str hc hx hl
      obtain⟨h0,h1',h2,hys,hyl⟩:=slc_ok hs
      have hun:(underlying t).run P w=.ok .string w:=by rw[J2 hT w hte,hd]
      have hb:=Si (P:=P) (w:=w) (isS:=false) (cap:=l.length) (len:=l.length) (h.bnd hc hp) (h.bnd hc hq) h0 h1' (by omega) (QY _)
      have hex:(ByteArray.mk l.toArray).extract p.toNat q.toNat=ByteArray.mk s.toArray:=by
       rw[ByteArray.extract_mk,hys]; grind
      unfold execOp
      rw[hop]
      simp only[h1]
      have hsz:(ByteArray.mk l.toArray).size=l.length:=rfl
      simp only[Instr.sliceAt,Sem.run_bind,hun,Result.andThen_ok,Instr.slice,Yp,Option.map_none,Option.isSome_none,JG,if_false,Sem.run_pure,hsz,hb,hex]
      rfl
     ·cases hv
    ·cases hv
   ·rename_i e hd
    split at hv
    ·rename_i ee u xs he hsl
     obtain⟨hb0,hv⟩:=bvT hv
     have hsz:=Nat.eq_of_beq_eq_true hb0
     split at hv
     ·rename_i p q hp hq
      obtain⟨ys,hys,hk'⟩:=Yq hv
      refine⟨_,hk',fun {β ρ ok a w} h hc=>?_⟩
      have hD:=Qqy h hc hx hsl
      obtain⟨A,m,c,hv,hl,hcc,hn⟩:=U9.1 hD
      obtain⟨h0,h1,h2,hys',hyl⟩:=slc_ok hys
      have hun:(underlying t).run P w=.ok (.slice e) w:=by rw[J2 hT w hte,hd]
      have hb:=Si (P:=P) (w:=w) (isS:=true) (len:=m) (cap:=c) (h.bnd hc hp) (by rw[←hl]; exact h.bnd hc hq) h0 h1 (by omega) hcc
      refine⟨[.slice (if c=p.toNat then A else A.map (·.add (p.toNat*u.size))) ys.length (c - p.toNat)],?_,?_⟩
      ·unfold execOp
       rw[hop]
       have hlen:q.toNat - p.toNat=ys.length:=by omega
       simp only[hv]
       simp[Instr.sliceAt,hun,Instr.slice,hb,Yg hT w he,hsz,hlen,AV.val,AV.isAgg,Ty.agg]
      ·refine⟨_,rfl,⟨_,_,_,rfl,rfl,by omega,fun hpos=>?_⟩⟩
       obtain⟨b,of,rfl,hx'⟩:=hn (by omega)
       have hne:¬ c=p.toNat:=by omega
       rw[if_neg hne]
       grind [Addr.add_lit,List.getElem?_eq_some_iff,List.getElem?_take_of_lt,Jm,Nat.add_mul]
     ·cases hv
    ·cases hv
   ·cases hv
  ·cases hv
 ·
  rename_i t x lo hi mx
  split at hv
  ·rename_i te v hiv mv hte hx hhi hmx
   split at hv
   ·rename_i e k1 b k2 mm hd hib him
    split at hv
    ·rename_i ee u xs p he hsl hp
     obtain⟨hb0,hv⟩:=bvT hv
     have hsz:=Nat.eq_of_beq_eq_true hb0
     obtain⟨_,hck,hv⟩:=Yq hv
     obtain⟨hck,_⟩:=bvT hck
     simp only[QQ,decide_eq_true_eq]at hck
     obtain⟨ys,hys,hk'⟩:=Yq hv
     refine⟨_,hk',fun {β ρ ok a w} h hc=>?_⟩
     have hD:=Qqy h hc hx hsl
     obtain⟨A,m,c,hv,hl,hcc,hn⟩:=U9.1 hD
     obtain⟨h0,h1,h2,hys',hyl⟩:=slc_ok hys
     have hsd:te.d=.slice e:=by
      cases hsd:te.d<;>rw[hsd]at hd<;>simp[Yy]at hd
      subst hd; rfl
     have hun:(underlying t).run P w=.ok (.slice e) w:=by rw[J2 hT w hte,hsd]
     have hb:=Qoy (P:=P) (w:=w) (len:=m) (cap:=c) (h.bnd hc hp) (h.int hc hhi hib) (h.int hc hmx him) h0 h1 hck.1 (by omega)
     refine⟨[.slice (if mm.toNat=p.toNat then A else A.map (·.add (p.toNat*u.size))) ys.length (mm.toNat - p.toNat)],?_,?_⟩
     ·unfold execOp
      rw[hop]
      have hlen:b.toNat - p.toNat=ys.length:=by omega
      simp only[hv]
      simp only[XY]at hb
      simp[Instr.sliceAt,hun,Instr.slice,hb,Yg hT w he,hsz,hlen,AV.val,AV.isAgg,Ty.agg]
     ·refine⟨_,rfl,⟨_,_,_,rfl,rfl,by omega,fun hpos=>?_⟩⟩
      obtain⟨bb,of,rfl,hx'⟩:=hn (by omega)
      have hne:¬ mm.toNat=p.toNat:=by omega
      rw[if_neg hne]
      grind [Addr.add_lit,List.getElem?_eq_some_iff,List.getElem?_take_of_lt,Jm,Nat.add_mul]
    ·cases hv
   ·cases hv
  ·cases hv
 ·
  rename_i s t x
  split at hv
  ·rename_i se te hse hte
   split at hv
   ·rename_i e hd hd2
    have hsd:se.d=.slice e:=by
     cases hsd:se.d<;>rw[hsd]at hd<;>simp[Yy]at hd
     subst hd; rfl
    split at hv
    ·rename_i _ z0 _ _ v he hx
     split at hv
     ·rename_i xs hxs
      refine⟨_,hv,fun {β ρ ok a w} h hc=>⟨[Yp (Qve xs)],?_,rfl⟩⟩
      have hag:(Ty.sl (.int .u8)).agg=v.isAgg:=by
       cases v with
       | d t' y'=>obtain⟨rfl,_⟩:=Ty.cast_ok (by simpa only[asD]using hxs); rfl
       | ag l=>grind [asD]
       | _=>rfl
      have hD:=h.asD hc hx hxs hag
      have:=Jn0 hT hte hd2 hse hsd he rfl hD
      unfold execOp
      rw[hop]
      simp only[Sem.run_bind,this]
      rfl
     ·cases hv
    ·cases hv
   grind [Qr5]
  ·cases hv
 grind [Qr5]
end
section
variable {X:Cx} {β:Nat→Nat} {ρ:Nat→Value} {S:St} {a:Act} {w:World} {cur:Vz}
theorem Rel.int(h:Rel X β ρ S a w)(hc:J3 a cur){x:Operand}{v:AV}{k:IntKind}{n:Int}(hx:Gx.ev S cur x=some v)(hi:W9 v=some (k,n)):a.eval x=.int k n:=h.toW.int hc hx hi
theorem Rel.mm(h:Rel X β ρ S a w):∀id o,Qh S.mem id=some o→(Qv β ρ id o).p (okR X β ρ S.mem w) w:=fun _ _ ho=>(h.ob ho).1
theorem Rel.asD(h:Rel X β ρ S a w)(hc:J3 a cur){x:Operand}{v:AV}{t:Ty}{y:t.De}(hx:Gx.ev S cur x=some v)(hd:Gx.asD S.mem v t=some y)(ht:t.agg=v.isAgg) :
  isV (rt t) (okR X β ρ S.mem w) w y (a.eval x):=h.toW.asD hc hx hd ht
end
end Gx

/- Elements of arrays that lie in variables; parts of such arrays as strings. -/
namespace Gx
open Go Go.RowKit Gd
set_option linter.unusedVariables false
set_option linter.unusedSimpArgs false
set_option linter.constructorNameAsVariable false
def Jsp:List PS→Bool
 | []=>false
 | .f _ _::l=>Jsp l
 | .i _ _::_=>true
section
variable {R:Type}
def Qr6:List PS→AV→(AV→Option R)→Option R
 | [],x,k=>k x
 | .f i off::ps,x,k=>match nav [.f i off] x with
  | some y=>Qr6 ps y k
  | none=>none
 | .i j sz::ps,x,k=>match x with
  | .d (.arr _ u) xs=>bif Nat.beq sz u.size then(idx xs j).bind fun y=>Qr6 ps (.d u y) k else none
  | _=>none
def Qpw(M:List (Nat×Ob)):List PS→AV→AV→(AV→Option R)→Option R
 | [],x,v,k=>bif Qld x v then k v else none
 | .f i off::ps,x,v,k=>match nav [.f i off] x with
  | some y=>Qpw M ps y v fun z=>match Qpv [.f i off] x z with
   | some x'=>k x'
   | none=>none
  | none=>none
 | .i j sz::ps,x,v,k=>match x with
  | .d (.arr n u) xs=>bif Nat.beq sz u.size then(idx xs j).bind fun y=>Qpw M ps (.d u y) v fun z=>match asD M z u with
   | some y'=>k (.d (.arr n u) (xs.set j.toNat y'))
   | none=>none else none
  | _=>none
end
theorem Jbe{α:Type}{cs:List α}{o n p m:Nat}(h:p+m≤n):(((cs.drop o).take n).drop p).take m=(cs.drop (o+p)).take m:=by
 rw[List.drop_take,List.drop_drop,XM,Nat.min_eq_left (by omega)]
theorem Jig{α:Type}{cs ds:List α}{o n p:Nat}(h:p+ds.length≤n) :
  cs.take o++(((cs.drop o).take n).take p++ds++((cs.drop o).take n).drop (p+ds.length))++cs.drop (o+n)=cs.take (o+p)++ds++cs.drop (o+p+ds.length):=by
 have e1:cs.take (o+p)=cs.take o++((cs.drop o).take n).take p:=by rw[List.take_add,XM,Nat.min_eq_left (by omega)]
 have e2:cs.drop (o+p+ds.length)=((cs.drop o).take n).drop (p+ds.length)++cs.drop (o+n):=by
  have e3:cs.drop (o+n)=(cs.drop (o+(p+ds.length))).drop (n - (p+ds.length)):=by rw[List.drop_drop]; congr 1; omega
  rw[List.drop_take,List.drop_drop,e3,List.take_append_drop,Nat.add_assoc]
 rw[e1,e2]
 grind
theorem Qze{u:Ty}{n:Nat}{xs:List u.De}{ok:Ok}{w:World}{cs:List Value}(h:(rt (.arr n u)).rep ok w xs cs){j:Int}{y:u.De}(hy:idx xs j=some y) :
  (rt u).rep ok w y ((cs.drop (j.toNat*u.size)).take u.size)∧j.toNat*u.size+u.size≤cs.length∧0≤j∧j.toNat<n:=by
 obtain⟨hn,ha⟩:=h
 have h0:=(He hy).1
 have hlt:=(List.getElem?_eq_some_iff.1 (He hy).2).1
 have hl:=Q2e ha
 have hr:=Bi ha (He hy).2
 rw[Jm]at hr hl
 refine⟨hr,?_,h0,by omega⟩
 rw[hl]
 have:=QI u.size (show j.toNat+1≤xs.length by omega)
 rw[Nat.add_mul]at this
 omega
theorem Qqz{R:Type}{r:R}:∀{ps:List PS} {x:AV} {k:AV→Option R},Qr6 ps x k=some r →
  ∃y,k y=some r∧∀{β:Nat→Nat} {ρ:Nat→Value} {ok:Ok} {w:World} {cs:List Value},cr β ρ ok w false x cs→cr β ρ ok w false y ((cs.drop (Yt ps)).take y.size)∧Yt ps+y.size≤cs.length
 | [],x,k,h=>by
  refine⟨x,h,fun {β ρ ok w cs} hc=>?_⟩
  have:=Zr hc
  grind [Yt,List.take_of_length_le]
 | .f i off::ps,x,k,h=>by
  simp only[Qr6]at h
  split at h
  ·rename_i y hy
   obtain⟨z,hz,hk⟩:=Qqz h
   refine⟨z,hz,fun {β ρ ok w cs} hc=>?_⟩
   obtain⟨h1,h2⟩:=Qjq hy hc
   grind [Zr,Yt,Jbe]
  ·cases h
 | .i j sz::ps,x,k,h=>by
  simp only[Qr6]at h
  split at h
  ·rename_i n u xs
   obtain⟨hb,h1⟩:=bvT h
   have hsz:=Nat.eq_of_beq_eq_true hb
   subst hsz
   obtain⟨y,hy,h2⟩:=Yq h1
   obtain⟨z,hz,hk⟩:=Qqz h2
   refine⟨z,hz,fun {β ρ ok w cs} hc=>?_⟩
   obtain⟨h1,h2,_⟩:=Qze hc hy
   have h1':cr β ρ ok w false (.d u y) ((cs.drop (j.toNat*u.size)).take u.size):=h1
   grind [Zr,Jbe,Yt,PS.off]
  ·cases h
theorem Qzf{R:Type}{r:R}{M:List (Nat×Ob)}{v:AV}:∀{ps:List PS} {x:AV} {k:AV→Option R},Qpw M ps x v k=some r →
  ∃x',k x'=some r∧∀{β:Nat→Nat} {ρ:Nat→Value} {ok:Ok} {w:World} {cs ds:List Value},(∀id o,Qh M id=some o→(Qv β ρ id o).p ok w)→cr β ρ ok w false v ds→cr β ρ ok w false x cs →
   cr β ρ ok w false x' (cs.take (Yt ps)++ds++cs.drop (Yt ps+ds.length))∧Yt ps+ds.length≤cs.length
 | [],x,k,h=>by
  simp only[Qpw]at h
  obtain⟨hb,h⟩:=bvT h
  refine⟨v,h,fun {β ρ ok w cs ds} _ hv hc=>?_⟩
  have:Qpv [] x v=some v:=by simp only[Qpv,hb,cond_true]
  grind [Qco]
 | .f i off::ps,x,k,h=>by
  simp only[Qpw]at h
  split at h
  ·rename_i y hy
   obtain⟨z,hz,hk⟩:=Qzf h
   split at hz
   ·rename_i x' hx'
    refine⟨x',hz,fun {β ρ ok w cs ds} hM hv hc=>?_⟩
    obtain⟨h1,h2⟩:=Qjq hy hc
    have hl:=Zr h1
    obtain⟨h3,h4⟩:=hk hM hv h1
    rw[hl]at h4
    obtain⟨h5,h6⟩:=Qco h3 hx' hc
    have hlen:(((cs.drop (Yt [PS.f i off])).take y.size).take (Yt ps)++ds++((cs.drop (Yt [PS.f i off])).take y.size).drop (Yt ps+ds.length)).length=y.size:=by
     grind
    rw[hlen,Jig h4]at h5
    have e:Yt (PS.f i off::ps)=Yt [PS.f i off]+Yt ps:=by simp[Yt]
    rw[e]
    grind
   ·cases hz
  ·cases h
 | .i j sz::ps,x,k,h=>by
  simp only[Qpw]at h
  split at h
  ·rename_i n u xs
   obtain⟨hb,h1⟩:=bvT h
   have hsz:=Nat.eq_of_beq_eq_true hb
   subst hsz
   obtain⟨y,hy,h2⟩:=Yq h1
   obtain⟨z,hz,hk⟩:=Qzf h2
   split at hz
   ·rename_i y' hy'
    refine⟨_,hz,fun {β ρ ok w cs ds} hM hv hc=>?_⟩
    obtain⟨h1,h2,h0,hjn⟩:=Qze hc hy
    have h1':cr β ρ ok w false (.d u y) ((cs.drop (j.toNat*u.size)).take u.size):=h1
    have hl:((cs.drop (j.toNat*u.size)).take u.size).length=u.size:=Zr h1'
    obtain⟨h3,h4⟩:=hk hM hv h1'
    rw[hl]at h4
    have h5:=K8 hM hy' h3
    obtain⟨hn,ha⟩:=(show xs.length=n∧Wb (rt u) ok w xs cs from hc)
    have h6:=Qrt ha (i:=j.toNat) (by omega) h5
    have hlen:(((cs.drop (j.toNat*u.size)).take u.size).take (Yt ps)++ds++((cs.drop (j.toNat*u.size)).take u.size).drop (Yt ps+ds.length)).length=u.size:=by
     grind
    rw[hlen,Jm,Jig h4]at h6
    exact⟨⟨by simpa using hn,h6⟩,by grind [Yt,PS.off]⟩
   ·cases hz
  ·cases h
def Qnl:TypeDesc→Option (Nat×TypeId)
 | .array n e=>some (n,e)
 | _=>none
theorem Qwd{d:TypeDesc}{n:Nat}{e:TypeId}(h:Qnl d=some (n,e)):d=.array n e:=by
 unfold Qnl at h
 grind
section
variable {R:Type} (Y:TX) (S:St) (cur:Vz)
def Jn1:Op→Nat
 | .indexAddr t _ _=>match Qk Y.T t with
  | some te=>bif isSomeA (Qnl te.d)then 1 else 0
  | none=>0
 | .load _ x=>match ev S cur x with
  | some (.p _ path)=>bif Jsp path then 2 else 0
  | _=>0
 | .slice t _ _ _ none=>match Qk Y.T t with
  | some te=>bif isSomeA (Qnl te.d)then 3 else 0
  | none=>0
 | .convert _ _ x=>match ev S cur x with
  | some (.w _ _ _)=>4
  | _=>0
 | _=>0
where isSomeA {α:Type}:Option α→Bool
 | some _=>true
 | none=>false
def Qwe(op:Op)(k:AV→Option R):Option R:=match op with
 | .indexAddr t x i=>match Qk Y.T t,ev S cur x,ev S cur i with
  | some te,some v,some iv=>match W9 iv,Qnl te.d with
   | some (_,j),some (n,e)=>match Qk Y.T e,v with
    | some ee,.a (.arr m u) xs=>bif Nat.beq m n&&Nat.beq ee.size u.size then(idx xs j).bind fun y=>k (.a u y)else none
    | some ee,.p id path=>match Qh S.mem id with
     | some (.var _ c)=>Qr6 path c fun y=>match y with
      | .d (.arr m u) xs=>bif Nat.beq m n&&Nat.beq ee.size u.size then(idx xs j).bind fun _=>k (.p id (path++[.i j u.size]))else none
      | _=>none
     | _=>none
    | _,_=>none
   | _,_=>none
  | _,_,_=>none
 | .load t x=>match Qk Y.T t,ev S cur x with
  | some e,some (.p id path)=>match Qh S.mem id with
   | some (.var _ c)=>Qr6 path c fun y=>bif Nat.beq e.size y.size&&(Gn e.d==y.isAgg)&&y.isVal&&(y.isAgg||Nat.beq y.size 1)then k y else none
   | _=>none
  | _,_=>none
 | .slice t x lo hi none=>match Qk Y.T t,ev S cur x with
  | some te,some (.p id [])=>match Qnl te.d,Qh S.mem id with
   | some (n,e),some (.var _ (.d (.arr m (.int .u8)) xs))=>match Qk Y.T e,bnd S cur 0 lo,bnd S cur n hi with
    | some ee,some a,some b=>bif Nat.beq m n&&Nat.beq ee.size 1 then(slc xs a b).bind fun _=>k (.w id a (b - a))else none
    | _,_,_=>none
   | _,_=>none
  | _,_=>none
 | .convert s t x=>match Qk Y.T s,Qk Y.T t,ev S cur x with
  | some se,some te,some (.w id a n)=>match Yy se.d,te.d,Qh S.mem id with
   | some e,.string,some (.var _ (.d (.arr m (.int .u8)) xs))=>match Qk Y.T e with
    | some ⟨_,.int .u8,_,_,_⟩=>(slc xs a (a+n)).bind fun ys=>k (.d .str (Qve ys))
    | _=>none
   | _,_,_=>none
  | _,_,_=>none
 | _=>none
def Qlh(op:Op)(k:AV→Option R):Option R:=match Jn1 Y S cur op with
 | 0=>Qnk Y S cur op k
 | _+1=>Qwe Y S cur op k
end
section
variable {P:Program} {X:Cx} {β:Nat→Nat} {ρ:Nat→Value} {S:St} {a:Act} {w:World} {cur:Vz} {ok:Ok}
theorem cell?_of_heap{b o:Nat}{cs:List Value}{t:TypeId}(h:w.heap[b]?=some (.cells cs.toArray t (0,0))):w.cell? ⟨b,o,none⟩=cs[o]?:=by simp[World.cell?,h]
theorem Jn2{u:Ty}{n:Nat}{xs:List u.De}{v:Value}(h:Qrj (rt (.arr n u)) ok w xs v){j:Int}{y:u.De}(hy:idx xs j=some y) :
  ∃b of,v=.pointer (some ⟨b,of,none⟩)∧Qrj (rt u) ok w y (.pointer (some ⟨b,of+j.toNat*u.size,none⟩))∧0≤j∧j<(n:Int):=by
 obtain⟨b,of,cs,rfl,hr,hc⟩:=h
 obtain⟨h1,h2,h3,h4⟩:=Qze hr hy
 refine⟨b,of,rfl,⟨b,_,_,rfl,h1,fun i z hz=>?_⟩,h3,by omega⟩
 have hi:=(List.getElem?_eq_some_iff.1 hz).1
 simp only[List.length_take,List.length_drop]at hi
 rw[List.getElem?_take_of_lt (by omega),JK]at hz
 have:=hc _ z hz
 rw[Nat.add_assoc]
 exact this
theorem Jih{Y:TX}(hT:Q0 P Y.T){R:Type}{o:Oper}{op:Op}(hop:o.op=op){k:AV→Option R}{r:R}(hv:Qwe Y S cur op k=some r):∃av,k av=some r∧Qr4 P S cur o av:=by
 unfold Qwe at hv
 split at hv
 ·
  rename_i t x i
  split at hv
  ·rename_i te v iv hte hx hi
   split at hv
   ·rename_i ki j n e hij hse
    have htd:=Qwd hse
    have run:∀{β:Nat→Nat} {ρ:Nat→Value} {ok:Ok} {a:Act} {w:World},Dn β ρ ok S a w→J3 a cur→∀{ee:TE} {b of:Nat},Qk Y.T e=some ee→a.eval x=.pointer (some ⟨b,of,none⟩)→0≤j→j<(n:Int) →
      (execOp a.eval o).run P w=.ok (.value (.pointer (some ⟨b,of+j.toNat*ee.size,none⟩))) w:=by
     intro β ρ ok a w h hc ee b of he hv h0 h1
     have hun:(underlying t).run P w=.ok (.array n e) w:=by rw[J2 hT w hte,htd]
     have hi':=h.int hc hi hij
     unfold execOp
     rw[hop]
     simp only[hv,hi']
     simp[Instr.indexAt,asIntOf,hun,Instr.sureAddr,h0,h1,Yg hT w he,Addr.add_lit]
    split at hv
    ·rename_i ee m u xs he
     obtain⟨hb,hv1⟩:=bvT hv
     simp only[QQ]at hb
     have hm:=Nat.eq_of_beq_eq_true hb.1
     have hsz:=Nat.eq_of_beq_eq_true hb.2
     obtain⟨y,hy,hk⟩:=Yq hv1
     refine⟨_,hk,fun {β ρ ok a w} h hc=>?_⟩
     obtain⟨cs,h1,v0,rfl,hat⟩:=h.ev hc hx
     obtain⟨b,of,rfl,h2,h3,h4⟩:=Jn2 hat hy
     refine⟨[.pointer (some ⟨b,of+j.toNat*u.size,none⟩)],?_,_,rfl,h2⟩
     rw[←hsz]
     exact run h hc he h1 h3 (by omega)
    ·rename_i ee id path he
     split at hv
     ·rename_i tid c ho
      obtain⟨y,hy,hnav⟩:=Qqz hv
      split at hy
      ·rename_i m u xs
       obtain⟨hb,hv1⟩:=bvT hy
       simp only[QQ]at hb
       have hm:=Nat.eq_of_beq_eq_true hb.1
       have hsz:=Nat.eq_of_beq_eq_true hb.2
       obtain⟨y,hy',hk⟩:=Yq hv1
       refine⟨_,hk,fun {β ρ ok a w} h hc=>?_⟩
       obtain⟨cs,h1,h2⟩:=h.ev hc hx
       have h2':cs=_:=h2
       subst h2'
       obtain⟨cs0,hh,hcr⟩:=h.2 _ _ ho
       obtain⟨q1,q2⟩:=hnav hcr
       obtain⟨_,_,h3,h4⟩:=Qze (show(rt (.arr m u)).rep ok w xs _ from q1) hy'
       refine⟨[.pointer (some ⟨β id,Yt (path++[PS.i j u.size]),none⟩)],?_,rfl⟩
       have:=run h hc he h1 h3 (by omega)
       rw[this,hsz,Sg]
       simp[Yt,PS.off,AV.val,AV.isAgg]
      ·cases hy
     ·cases hv
    ·cases hv
   ·cases hv
  ·cases hv
 ·
  rename_i t x
  split at hv
  ·rename_i e id path he hx
   split at hv
   ·rename_i tid c ho
    obtain⟨y,hy,hnav⟩:=Qqz hv
    obtain⟨hb,hk⟩:=bvT hy
    simp only[QQ]at hb
    obtain⟨⟨⟨b1,b2⟩,b3⟩,b4⟩:=hb
    have b1:=Nat.eq_of_beq_eq_true b1
    have b2:=bEq b2
    refine⟨_,hk,fun {β ρ ok a w} h hc=>?_⟩
    obtain⟨cs,h1,h2⟩:=h.ev hc hx
    have h2':cs=_:=h2
    subst h2'
    obtain⟨cs0,hh,hcr⟩:=h.2 _ _ ho
    obtain⟨q1,q2⟩:=hnav hcr
    refine⟨_,?_,q1⟩
    have h1':a.eval x=.pointer (some ⟨β id,Yt path,none⟩):=h1
    have hl:=Zr q1
    unfold execOp
    rw[hop]
    simp only[h1',Sem.run_bind]
    have:=Bk (w:=w) hT he (b:=β id) (o:=Yt path) (y:=y) (cs:=(cs0.drop (Yt path)).take y.size) (by rw[hl]; exact b1) b2 (fun hf=>by
     rw[hl]
     rw[hf]at b4
     simp only[ZR]at b4
     exact Nat.eq_of_beq_eq_true b4) (fun i z hz=>by
     have hi:=(List.getElem?_eq_some_iff.1 hz).1
     rw[hl]at hi
     rw[List.getElem?_take_of_lt hi,JK]at hz
     rw[cell?_of_heap hh]
     simpa using hz)
    rw[this]
    rfl
   ·cases hv
  ·cases hv
 ·
  rename_i t x lo hi
  split at hv
  ·rename_i te id hte hx
   split at hv
   ·rename_i n e tid m xs hse ho
    have htd:=Qwd hse
    split at hv
    ·rename_i ee na nb he hlo hhi
     obtain⟨hb,hv1⟩:=bvT hv
     simp only[QQ]at hb
     have hm:=Nat.eq_of_beq_eq_true hb.1
     have hsz:=Nat.eq_of_beq_eq_true hb.2
     obtain⟨ys,hys,hk⟩:=Yq hv1
     refine⟨_,hk,fun {β ρ ok a w} h hc=>?_⟩
     obtain⟨cs,h1,h2⟩:=h.ev hc hx
     have h2':cs=_:=h2
     subst h2'
     obtain⟨cs0,hh,hcr⟩:=h.2 _ _ ho
     have hxs:xs.length=m:=(show xs.length=m∧_ from hcr).1
     obtain⟨s1,s2,s3,s4,s5⟩:=Gd.slc_ok hys
     have hbd:=Si (P:=P) (w:=w) (isS:=false) (len:=n) (cap:=n) (h.bnd hc hlo) (h.bnd hc hhi) s1 s2 (by omega) (QY _)
     have hun:(underlying t).run P w=.ok (.array n e) w:=by rw[J2 hT w hte,htd]
     have h1':a.eval x=.pointer (some ⟨β id,0,none⟩):=h1
     refine⟨[.slice (some (if n=na.toNat then⟨β id,0,none⟩else⟨β id,na.toNat,none⟩)) (nb - na).toNat (n - na.toNat)],?_,_,_,rfl,fun hpos=>?_⟩
     ·unfold execOp
      rw[hop]
      simp only[h1']
      simp[Instr.sliceAt,hun,Instr.sureAddr,hbd,Yg hT w he,hsz,Addr.add_lit,AV.val,AV.isAgg]
      omega
     grind
    ·cases hv
   ·cases hv
  ·cases hv
 ·
  rename_i s t x
  split at hv
  ·rename_i se te id na n hse hte hx
   split at hv
   ·rename_i e tid m xs hsd htd ho
    split at hv
    ·rename_i _ _ _ _ he
     obtain⟨ys,hys,hk⟩:=Yq hv
     refine⟨_,hk,fun {β ρ ok a w} h hc=>⟨[Yp (Qve ys)],?_,rfl⟩⟩
     obtain⟨cs,h1,A,c,rfl,hA⟩:=h.ev hc hx
     obtain⟨cs0,hh,hcr⟩:=h.2 _ _ ho
     obtain⟨hxs,hrep⟩:=(show xs.length=m∧Wb (Tk .u8) ok w xs cs0 from hcr)
     obtain⟨s1,s2,s3,s4,s5⟩:=Gd.slc_ok hys
     have hsd':se.d=.slice e:=by
      unfold Yy at hsd
      grind
     have h1':a.eval x=.slice (some A) n.toNat c:=h1
     have hus:=(Jo hT hse).2; rw[hsd']at hus
     have hut:=(Jo hT hte).2; rw[htd]at hut
     have hue:=(Jo hT he).2
     have hconv:=run_convert_bytes_string (P:=P) w s t e (some A) n.toNat c hus hue hut
     have hload:(loadCells A n.toNat).run P w=.ok (ys.map (Value.int .u8)).toArray w:=by
      have hyl:ys.length=n.toNat:=by rw[s5]; congr 1; omega
      have:=run_loadCells_list (P:=P) w A (ys.map (Value.int .u8)) (fun i v hi=>by
       rw[JS]at hi
       obtain⟨y,hy,rfl⟩:=XG.1 hi
       have hi':=(List.getElem?_eq_some_iff.1 hy).1
       rw[hA (by omega),E8]
       rw[s4,List.getElem?_take_of_lt (by omega),JK]at hy
       have hr:=Bi hrep hy
       have hr':(cs0.drop ((na.toNat+i)*1)).take 1=[.int .u8 y]:=hr
       rw[XB]at hr'
       rw[cell?_of_heap hh]
       have:=congrArg (fun l=>l[0]?) hr'
       grind)
      grind
     have hrun:=run_bytesToString w A n.toNat c ys hload
     have hf:=Qrp ys []
     simp only[QF]at hf
     unfold execOp
     rw[hop]
     simp only[h1']
     simp only[Sem.run_bind,hconv,hrun]
     show Result.andThen (.ok (Value.string (ys.foldl _ (ByteArray.mk ([]:List UInt8).toArray))) w) _=_
     rw[hf]; rfl
    ·cases hv
   ·cases hv
  ·cases hv
 ·cases hv
theorem Q3d{Y:TX}(hT:Q0 P Y.T){R:Type}{o:Oper}{op:Op}(hop:o.op=op){k:AV→Option R}{r:R}(hv:Qlh Y S cur op k=some r):∃av,k av=some r∧Qr4 P S cur o av:=by
 grind [Qlh,Jen,Jih]
end
end Gx
