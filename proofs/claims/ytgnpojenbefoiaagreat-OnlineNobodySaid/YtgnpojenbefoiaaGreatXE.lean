/- The quiet operations are what the model does. -/
import Derived.Test.YtgnpojenbefoiaaGreatXB
namespace Gx
open Go Go.RowKit Gd
set_option linter.unusedVariables false
set_option linter.unusedSimpArgs false
theorem Ep:∀(p q:List PS),Jp (p++q)=Jp p+Jp q
 | [],q=>by simp [Jp]
 | x::p,q=>by simp [Jp,Ep p q]; omega
def Xc (β:Nat→Nat) (ρ:Nat→Value) (ok:Ok) (S:St) (a:Act) (w:World):Prop :=
 (∀e∈S.env,(enD β ρ a e).p ok w)∧∀id o,Qb S.mem id=some o→(Qp β ρ id o).p ok w
theorem Rel.toW {X:Cx} {β:Nat→Nat} {ρ:Nat→Value} {S:St} {a:Act} {w:World} (h:Rel X β ρ S a w):Xc β ρ (okR X β ρ S.mem w) S a w:=⟨fun _ he=>h.en he,fun _ _ ho=>(h.ob ho).1⟩
theorem Xc.ev {β:Nat→Nat} {ρ:Nat→Value} {ok:Ok} {S:St} {a:Act} {w:World} (h:Xc β ρ ok S a w) {cur:Vr} (hc:Jw a cur) {x:Operand} {v:AV} (hx:ev S cur x=some v) :
  ∃cs,a.eval x=v.val cs∧cr β ρ ok w false v cs:=by
 cases x with
 | tmp t =>
  simp only [Gx.ev] at hx
  split at hx
  ·rename_i e he
   cases hb:Qai e.cs cur with
   | false=>rw [hb] at hx; cases hx
   | true =>
    rw [hb] at hx
    simp at hx; subst hx
    have hr:=Oh he a
    obtain ⟨hm,rfl⟩:=V6 he
    obtain ⟨cs,h1,h2⟩:=(h.1 _ hm).1 (Af hb hc)
    rw [hr] at h1
    exact ⟨cs,by simp [Act.eval,h1],h2⟩
  ·cases hx
 | const v =>
  obtain ⟨cs,h1,h2⟩:=Oj (β:=β) (ρ:=ρ) (ok:=ok) (w:=w) hx
  exact ⟨cs,h1,h2⟩
 | func f =>
  simp [Gx.ev] at hx; subst hx
  exact ⟨[.func (.func f) #[] #[]],rfl,[],rfl,rfl⟩
 | global g =>
  simp only [Gx.ev] at hx
  split at hx
  ·rename_i e he
   cases hb:Qai e.cs cur with
   | false=>rw [hb] at hx; cases hx
   | true =>
    rw [hb] at hx
    simp at hx; subst hx
    obtain ⟨hm,ht⟩:=Ld he
    obtain ⟨cs,h1,h2⟩:=(h.1 _ hm).1 (Af hb hc)
    rw [ht,Qf0] at h1
    exact ⟨cs,Option.some.inj h1,h2⟩
  ·cases hx
section
variable {P:Program} {Y:TX} {X:Cx} {β:Nat→Nat} {ρ:Nat→Value} {S:St} {a:Act} {w:World} {cur:Vr} {ok:Ok}
theorem Xc.evs (h:Xc β ρ ok S a w) (hc:Jw a cur):∀{xs:List Operand} {l:AV},evs S cur xs=some l→cr β ρ (ok) w true l (xs.map a.eval)
 | [],l,hl=>by simp [Gx.evs] at hl; subst hl; rfl
 | x::xs,l,hl=>by
  simp only [Gx.evs] at hl
  split at hl
  ·rename_i v r hv hr
   simp at hl; subst hl
   obtain ⟨cs,h1,h2⟩:=h.ev hc hv
   exact ⟨cs,xs.map a.eval,by rw [List.map_cons,h1],h2,h.evs hc hr⟩
  ·cases hl
theorem Xc.evParts (h:Xc β ρ ok S a w) (hc:Jw a cur):∀{xs:List (Nat×Operand)} {l:List (Nat×AV)},Yy S cur xs=some l →
  Qkq (fun (p:Nat×AV) (q:Nat×Value)=>p.1=q.1∧∃c,q.2=p.2.val c∧cr β ρ (ok) w false p.2 c) l (xs.map fun p=>(p.1,a.eval p.2))
 | [],l,hl=>by simp [Yy] at hl; subst hl; exact .nil
 | (i,x)::xs,l,hl=>by
  simp only [Yy] at hl
  split at hl
  ·rename_i v r hv hr
   simp at hl; subst hl
   obtain ⟨cs,h1,h2⟩:=h.ev hc hv
   exact .cons ⟨rfl,cs,h1,h2⟩ (h.evParts hc hr)
  ·cases hl
theorem bvT {α:Type} {b:Bool} {x:Option α} {y:α} (h:(bif b then x else none)=some y):b=true∧x=some y:=by
 cases b with
 | true=>exact ⟨rfl,h⟩
 | false=>cases h
theorem bEq {a b:Bool} (h:(a==b)=true):a=b:=by simpa using h
theorem Xc.mm (h:Xc β ρ ok S a w):∀id o,Qb S.mem id=some o→(Qp β ρ id o).p (ok) w:=h.2
theorem Xc.asD (h:Xc β ρ ok S a w) (hc:Jw a cur) {x:Operand} {v:AV} {t:Ty} {y:t.De} (hx:Gx.ev S cur x=some v) (hd:Gx.asD S.mem v t=some y) (ht:t.agg=v.isAgg) :
  isV (rt t) (ok) w y (a.eval x):=by
 obtain ⟨cs,h1,h2⟩:=h.ev hc hx
 refine ⟨cs,V8 h.mm hd h2,?_⟩
 rw [h1,AV.val,RT.val,Xn,ht]
 cases v.isAgg<;>rfl
theorem Xc.asLs (h:Xc β ρ ok S a w) (hc:Jw a cur) {u:Ty}:∀{ps:List (Nat×Operand)} {vs:List (Nat×AV)} {xs:List u.De} {j:Nat},Yy S cur ps=some vs→Gx.asLs S.mem u vs j=some xs →
  ∃us:List Value,ps.map (fun p=>(p.1,a.eval p.2))=(List.range' j us.length).zip us∧M7 (rt u) ok w xs us∧us.length=xs.length
 | [],vs,xs,j,he,hx=>by
  simp [Yy] at he; subst he
  simp [Gx.asLs] at hx; subst hx
  exact ⟨[],rfl,trivial,rfl⟩
 | (i,x)::ps,vs,xs,j,he,hx=>by
  simp only [Yy] at he
  split at he
  ·rename_i v l hv hl
   simp at he; subst he
   simp only [Gx.asLs] at hx
   obtain ⟨hb,hx⟩:=bvT hx
   simp only [Bool.and_eq_true] at hb
   have:=Nat.eq_of_beq_eq_true hb.1
   subst this
   split at hx
   ·rename_i y ys hy hys
    simp at hx; subst hx
    obtain ⟨us,q1,q2,q3⟩:=Xc.asLs h hc (u:=u) (ps:=ps) hl hys
    have hiv:=h.asD hc hv hy (bEq hb.2)
    refine ⟨a.eval x::us,?_,⟨hiv,q2⟩,by simp [q3]⟩
    simp only [List.map_cons,List.length_cons,List.range'_succ,List.zip_cons_cons,q1]
   ·cases hx
  ·cases he
theorem Li {τ:Type} {r:RT τ} {ok:Ok} {w:World}:∀{xs:List τ} {us:List Value},M7 r ok w xs us→∀v∈us,(Qh v).length=r.size
 | [],[],_,v,hv=>by cases hv
 | x::xs,y::us,h,v,hv=>by
  rcases List.mem_cons.1 hv with rfl | hv
  ·rw [r.len (Xm h.1)]
  ·exact Li h.2 v hv
 | [],_::_,h,_,_=>h.elim
 | _::_,[],h,_,_=>h.elim
theorem Om {τ:Type} {r:RT τ} {ok:Ok} {w:World}:∀{xs:List τ} {us:List Value},M7 r ok w xs us→Zz r ok w xs (us.flatMap Qh)
 | [],[],_=>rfl
 | x::xs,y::us,h=>⟨Qh y,us.flatMap Qh,by simp,Xm h.1,Om h.2⟩
 | [],_::_,h=>h.elim
 | _::_,[],h=>h.elim
theorem Sr {s:Nat}:∀(vs:List Value) (j:Nat) (cs:List Value),(∀v∈vs,(Qh v).length=s)→(j+vs.length)*s≤cs.length →
  G1 (Ab s) cs ((List.range' j vs.length).zip vs)=some (cs.take (j*s)++vs.flatMap Qh++cs.drop ((j+vs.length)*s))
 | [],j,cs,_,_=>by simp [G1]
 | v::vs,j,cs,hv,hl=>by
  have h1:=hv v (.head _)
  simp only [List.length_cons] at hl ⊢
  have e0:(j+(vs.length+1))*s=j*s+s+vs.length*s:=by rw [Nat.add_mul,Nat.add_mul]; omega
  rw [e0] at hl
  simp only [List.range'_succ,List.zip_cons_cons,G1,Ab,h1]
  have hb:(Nat.beq s s&&Nat.ble (j*s+s) cs.length)=true:=by
   simp only [Bool.and_eq_true]
   exact ⟨Nat.beq_refl _,Nat.ble_eq_true_of_le (by omega)⟩
  simp only [hb,cond_true]
  have hlay:(Qbw cs (j*s) (Qh v)).length=cs.length:=by simp [Qbw,h1]; omega
  have e1:(j+1+vs.length)*s=j*s+s+vs.length*s:=by rw [Nat.add_mul,Nat.add_mul]; omega
  have e2:(j+1)*s=j*s+s:=by rw [Nat.add_mul]; omega
  have:=Sr vs (j+1) (Qbw cs (j*s) (Qh v)) (fun u hu=>hv u (.tail _ hu)) (by rw [hlay,e1]; omega)
  rw [this,e1,e2,e0]
  simp only [Qbw,List.flatMap_cons]
  have hA:(cs.take (j*s)++Qh v).length=j*s+s:=by simp [h1]; omega
  congr 1
  rw [List.take_append_of_le_length (by rw [hA]; omega),List.take_of_length_le (by rw [hA]; omega)]
  rw [List.drop_append,hA,List.drop_of_length_le (by rw [hA]; omega),List.nil_append,h1,List.drop_drop]
  simp only [List.append_assoc]
  congr 4
  omega
theorem Mg {a:Act} {cur:Vr} (hc:Jw a cur) {c:Operand} {b:Bool} (hb:a.eval c=.bool b):Jw a (Qid cur c b):=by
 unfold Qid
 split
 ·rename_i t
  intro x hx
  rcases List.mem_cons.1 hx with rfl | hx
  ·simp only [Act.eval] at hb
   simp only
   rw [Array.getD_eq_getD_getElem?] at hb
   cases hg:a.tmps[t]? with
   | none=>rw [hg] at hb; simp [undef] at hb
   | some v=>rw [hg] at hb; simp at hb; rw [hb]
  ·exact hc x hx
 ·exact hc
theorem Qou {c:Bool} {x y:Option AV} {v:AV} {β:Nat→Nat} {ρ:Nat→Value} {ok:Ok} {w:World} {u1 u2:Value}
  (hx:c=true→∀v,x=some v→∃cs,u1=v.val cs∧cr β ρ ok w false v cs) (hy:c=false→∀v,y=some v→∃cs,u2=v.val cs∧cr β ρ ok w false v cs)
  (h:Qos c x y=some v):∃cs,(if c=true then u1 else u2)=v.val cs∧cr β ρ ok w false v cs:=by
 unfold Qos at h
 split at h
 ·simp at h; subst h
  cases c with
  | true=>obtain ⟨cs,h1,h2⟩:=hx rfl _ rfl; exact ⟨cs,h1,h2⟩
  | false=>obtain ⟨cs,h1,h2⟩:=hy rfl _ rfl; exact ⟨cs,by simpa using h1,h2⟩
 ·rename_i k p k' q
  cases hk:Fn k k' with
  | false=>rw [hk] at h; cases h
  | true =>
   rw [hk] at h
   have:=Gb hk
   subst this
   simp at h; subst h
   cases c with
   | true=>obtain ⟨cs,h1,h2⟩:=hx rfl _ rfl; exact ⟨cs,h1,h2⟩
   | false=>obtain ⟨cs,h1,h2⟩:=hy rfl _ rfl; exact ⟨cs,by simpa using h1,h2⟩
 ·cases c with
  | true=>obtain ⟨cs,h1,h2⟩:=hx rfl _ (by simpa using h); exact ⟨cs,by simpa using h1,h2⟩
  | false=>obtain ⟨cs,h1,h2⟩:=hy rfl _ (by simpa using h); exact ⟨cs,by simpa using h1,h2⟩
theorem Wb (hT:Qy P Y.T) {t:TypeId} {e:TE} (he:Qe Y.T t=some e) {b o:Nat} {y:AV} {cs:List Value} (hs:e.size=cs.length) (ha:Uw e.d=y.isAgg) (h1:y.isAgg=false→cs.length=1)
  (hc:∀(j:Nat) u,cs[j]?=some u→w.cell? ⟨b,o+j,none⟩=some u):(Instr.loadAt t (.pointer (some ⟨b,o,none⟩))).run P w=.ok (y.val cs) w:=by
 have:=Ek hT w he b o cs hs.symm (fun h=>h1 (by rw [←ha,h])) hc
 simp only [Instr.loadAt,Instr.sureAddr,Sem.run_bind,Sem.run_pure,Result.andThen_ok,this,AV.val,ha]
 cases y.isAgg<;>rfl
theorem In {ok:Ok} {w:World}:∀{t:Ty} {x:t.De} {vs cs:List Value},Eo t x=some vs→(rt t).rep ok w x cs→cs=vs
 | .int k,x,vs,cs,h,hc=>by simp [Eo] at h; subst h; exact hc
 | .bool,x,vs,cs,h,hc=>by simp [Eo] at h; subst h; exact hc
 | .str,x,vs,cs,h,hc=>by simp [Eo] at h; subst h; exact hc
 | .unit,x,vs,cs,h,hc=>by simp [Eo] at h; subst h; exact hc
 | .pr f r,x,vs,cs,h,hc=>by
  obtain ⟨c1,c2,rfl,h1,h2⟩:=hc
  simp only [Eo] at h
  split at h
  ·rename_i p q hp hq
   simp at h; subst h
   rw [In hp h1,In hq h2]
  ·cases h
 | .st fs,x,vs,cs,h,hc=>In (t:=fs) h hc
 | .sl e,x,vs,cs,h,hc=>by simp [Eo] at h
 | .arr n e,x,vs,cs,h,hc=>by simp [Eo] at h
 | .ref,x,vs,cs,h,hc=>by simp [Eo] at h
 | .rose fs,x,vs,cs,h,hc=>by simp [Eo] at h
theorem Fr:∀{x:AV} {vs cs:List Value},U4 x=some vs→cr β ρ ok w false x cs→cs=vs
 | .d t x,vs,cs,h,hc=>In h hc
 | .ag l,vs,cs,h,hc=>Fr (x:=l) h hc
 | .nil,vs,cs,h,hc=>by simp [U4] at h; subst h; exact hc
 | .cons x r,vs,cs,h,hc=>by
  obtain ⟨c1,c2,rfl,h1,h2⟩:=hc
  simp only [U4] at h
  split at h
  ·rename_i p q hp hq
   simp at h; subst h
   rw [Fr hp h1,Fr hq h2]
  ·cases h
 | .p ..,vs,cs,h,hc=>by simp [U4] at h
 | .e ..,vs,cs,h,hc=>by simp [U4] at h
 | .s ..,vs,cs,h,hc=>by simp [U4] at h
 | .m ..,vs,cs,h,hc=>by simp [U4] at h
 | .b ..,vs,cs,h,hc=>by simp [U4] at h
 | .w ..,vs,cs,h,hc=>by simp [U4] at h
 | .a ..,vs,cs,h,hc=>by simp [U4] at h
 | .z,vs,cs,h,hc=>by simp [U4] at h
 | .ns,vs,cs,h,hc=>by simp [U4] at h
 | .np,vs,cs,h,hc=>by simp [U4] at h
 | .nm,vs,cs,h,hc=>by simp [U4] at h
 | .nf,vs,cs,h,hc=>by simp [U4] at h
 | .f ..,vs,cs,h,hc=>by simp [U4] at h
 | .tp ..,vs,cs,h,hc=>by simp [U4] at h
theorem Qov {T:Tab} (hT:Qy P T) {op:BinOp} {t:TypeId} {x y:Operand} {yt:TypeId} {neg:Bool} {us vs:List Value} {fs:List Field} {t1:TypeId} {z1:Value} {s1 b1:Nat}
  (hneg:Qkp op=some neg) (ht:Qe T t=some ⟨t1,.struct ⟨fs⟩,z1,s1,b1⟩) (hbl:E4 fs=true) {r:Bool} (hr:N9 T fs us vs=some r) {a:Act}
  (hx:a.eval x=.agg us.toArray) (hy:a.eval y=.agg vs.toArray):(execOp a.eval ⟨none,.binOp op t x y yt,0, "",#[],none⟩).run P w=.ok (.value (.bool (bif neg then !r else r))) w:=by
 have hu:=(Js hT ht).2
 obtain ⟨hst,heg⟩:=Qbv hT ht
 have hf:P.fieldsOf t=⟨fs⟩:=by simp [Program.fieldsOf,hu]
 have heq:(Op.equal t (.agg ⟨us⟩) (.agg ⟨vs⟩)).run P w=.ok r w:=by
  have:=run_equalIn_struct (P:=P) w 9999 t ⟨us⟩ ⟨vs⟩ (by rw [hf,hu]) hst
  rw [hf] at this
  show (Op.equalIn 10000 t _ _).run P w=_
  rw [this]
  exact Qah hT 9998 hbl hr
 unfold Qkp at hneg
 split at hneg
 ·simp at hneg; subst hneg
  unfold execOp
  simp [hx,hy,eqGuard,heg,binOp,heq]
 ·simp at hneg; subst hneg
  unfold execOp
  simp [hx,hy,eqGuard,heg,binOp,heq]
 ·cases hneg
theorem Do {k v u:Ty} {e off:Nat} {f:v.De→List u.De} {hv:Value} {hole:Option k.De}:∀{xs:List (k.De×v.De)} {es:List MapEntry} {vs:List Value},G5 (rt k) (rt v) (rt u) e off f hole hv ok w xs es vs→Kn (rt k) (rt v) ok w xs es
 | [],[],[],_=>rfl
 | x::xs,en::es,s::vs,⟨h1,h2,h3,h4⟩=>⟨en,es,rfl,h1,h2,Do h4⟩
 | [],[],_::_,h=>h.elim
 | [],_::_,_,h=>h.elim
 | _::_,[],_,h=>h.elim
 | _::_,_::_,[],h=>h.elim
theorem Qie {M:List (Nat×Ob)} (hM:∀id o,Qb M id=some o→(Qp β ρ id o).p ok w) {id:Nat} {k v:Ty} {xs:List (k.De×v.De)} (h:Qtj (Qb M id)=some ⟨k,v,xs⟩) :
  ∃es clock,w.heap[β id]?=some (.map es clock)∧Kn (rt k) (rt v) ok w xs es.toList:=by
 unfold Qtj at h
 split at h
 ·rename_i k' v' xs' ho
  simp at h
  obtain ⟨rfl,h⟩:=h
  have h:=eq_of_heq h
  injection h with h1 h2
  subst h1
  have h2:=eq_of_heq h2
  subst h2
  obtain ⟨es,clock,q1,q2,_⟩:=hM _ _ ho
  exact ⟨es,clock,q1,q2⟩
 ·rename_i k' v' p' e' u' xs' ho
  simp at h
  obtain ⟨rfl,h⟩:=h
  have h:=eq_of_heq h
  injection h with h1 h2
  subst h1
  have h2:=eq_of_heq h2
  subst h2
  obtain ⟨f,_,es,clock,q1,q2,_⟩:=hM _ _ ho
  exact ⟨es,clock,q1,Do q2⟩
 ·cases h
theorem Qtl {op:BinOp} {neg:Bool} (h:Qkp op=some neg):op=bif neg then .neq else .eql:=by
 cases op<;>simp [Qkp] at h<;>subst h<;>rfl
theorem Qtm {t el:TypeId} {q:Option Addr} (hu:(underlying t).run P w=.ok (.pointer el) w):(Op.equal t (.pointer q) (.pointer none)).run P w=.ok q.isNone w:=by
 show (Op.equalIn (9999+1) t _ _).run P w=_
 rw [Op.equalIn]
 cases q<;>simp [Sem.run_bind,hu]
theorem Qtn {t k el:TypeId} {q:Option Nat} (hu:(underlying t).run P w=.ok (.map k el) w):(Op.equal t (.map q) (.map none)).run P w=.ok q.isNone w:=by
 show (Op.equalIn (9999+1) t _ _).run P w=_
 rw [Op.equalIn]
 cases q<;>simp [Sem.run_bind,hu]
theorem Qif {t:TypeId} {p r:Array TypeId} {v:Bool} (hu:(underlying t).run P w=.ok (.func p r v) w) {x:Value} {b:Bool} (hx:(x=.nilFunc∧b=true)∨(∃f c s,x=.func f c s)∧b=false):(Op.equal t x .nilFunc).run P w=.ok b w:=by
 show (Op.equalIn (9999+1) t _ _).run P w=_
 rw [Op.equalIn]
 rcases hx with ⟨rfl,rfl⟩ | ⟨⟨f,c,s,rfl⟩,rfl⟩<;>simp [Sem.run_bind,hu]
theorem Qto (hT:Qy P Y.T) {op:BinOp} {t yt:TypeId} {X1 Y1:Operand} {x y:AV} {b:Bool} {c1 c2:List Value} (h:Q4w Y.T op t x y=some b) (hx:cr β ρ ok w false x c1) (hy:cr β ρ ok w false y c2)
  (h1:a.eval X1=x.val c1) (h2:a.eval Y1=y.val c2) :
  (execOp a.eval ⟨none,.binOp op t X1 Y1 yt,0, "",#[],none⟩).run P w=.ok (.value (.bool b)) w:=by
 unfold Q4w at h
 split at h
 ·rename_i neg te hneg hte
  have hop:=Qtl hneg
  have hu:=Ji hT w hte
  split at h
  ·rename_i el hd
   obtain ⟨hb,h⟩:=bvT h
   have hyn:y=.np:=by cases y<;>simp [Q9i] at hb; rfl
   subst hyn
   have hy':c2=[.pointer none]:=hy
   subst hy'
   have h2':a.eval Y1=.pointer none:=h2
   split at h
   ·rename_i bb hbb
    injection h with h; subst h
    have key:∃q,a.eval X1=.pointer q∧bb=q.isNone:=by
     cases x<;>simp [Q9f] at hbb<;>subst hbb
     ·have hx':c1=_:=hx
      subst hx'; exact ⟨_,h1,rfl⟩
     ·obtain ⟨g,_,hx'⟩:=hx
      subst hx'; exact ⟨_,h1,rfl⟩
     ·obtain ⟨v,hx',hv⟩:=hx
      obtain ⟨b0,o0,c0,rfl,_⟩:=hv
      subst hx'; exact ⟨_,h1,rfl⟩
     ·have hx':c1=_:=hx
      subst hx'; exact ⟨_,h1,rfl⟩
    obtain ⟨q,hq,hbq⟩:=key
    subst hbq
    rw [hd] at hu
    have hr:=Qtm (P:=P) (w:=w) (q:=q) hu
    unfold execOp
    cases neg<;>subst hop<;>simp [hq,h2',eqGuard,binOp,hr]
   ·cases h
  ·rename_i kt et hd
   obtain ⟨hb,h⟩:=bvT h
   have hyn:y=.nm:=by cases y<;>simp [Q9j] at hb; rfl
   subst hyn
   have hy':c2=[.map none]:=hy
   subst hy'
   have h2':a.eval Y1=.map none:=h2
   split at h
   ·rename_i bb hbb
    injection h with h; subst h
    have key:∃q,a.eval X1=.map q∧bb=q.isNone:=by
     cases x<;>simp [Q9g] at hbb<;>subst hbb
     ·have hx':c1=_:=hx
      subst hx'; exact ⟨_,h1,rfl⟩
     ·have hx':c1=_:=hx
      subst hx'; exact ⟨_,h1,rfl⟩
    obtain ⟨q,hq,hbq⟩:=key
    subst hbq
    rw [hd] at hu
    have hr:=Qtn (P:=P) (w:=w) (q:=q) hu
    unfold execOp
    cases neg<;>subst hop<;>simp [hq,h2',eqGuard,binOp,hr]
   ·cases h
  ·rename_i p1 p2 p3 hd
   obtain ⟨hb,h⟩:=bvT h
   have hyn:y=.nf:=by cases y<;>simp [Q9k] at hb; rfl
   subst hyn
   have hy':c2=[.nilFunc]:=hy
   subst hy'
   have h2':a.eval Y1=.nilFunc:=h2
   split at h
   ·rename_i bb hbb
    injection h with h; subst h
    rw [hd] at hu
    cases x<;>simp [Q9h] at hbb<;>subst hbb
    ·have hx':c1=_:=hx
     subst hx'
     have h1':a.eval X1=.nilFunc:=h1
     have hr:=Qif (P:=P) (w:=w) hu (.inl ⟨rfl,rfl⟩)
     unfold execOp
     cases neg<;>subst hop<;>simp [h1',h2',eqGuard,binOp,hr]
    ·rename_i f0 cp0
     obtain ⟨vs,hx',_⟩:=hx
     subst hx'
     have h1':a.eval X1=.func (.func f0) #[] vs.toArray:=h1
     have hr:=Qif (P:=P) (w:=w) hu (x:=.func (.func f0) #[] vs.toArray) (b:=false) (.inr ⟨⟨_,_,_,rfl⟩,rfl⟩)
     unfold execOp
     cases neg<;>subst hop<;>simp [h1',h2',eqGuard,binOp,hr]
   ·cases h
  ·cases h
 ·cases h
theorem Io (hT:Qy P Y.T) (h:Xc β ρ ok S a w) (hc:Jw a cur) {o:Oper} {x:AV} (hv:Im Y S cur o.op=some x) :
  ∃cs,(execOp a.eval o).run P w=.ok (.value (x.val cs)) w∧cr β ρ (ok) w false x cs:=by
 have hM:∀id o,Qb S.mem id=some o→(Qp β ρ id o).p (ok) w:=h.2
 unfold execOp
 generalize o.op=op at hv
 unfold Im at hv
 split at hv
 ·
  obtain ⟨cs,h1,h2⟩:=h.ev hc hv
  exact ⟨cs,by dsimp only; rw [h1]; rfl,h2⟩
 ·obtain ⟨cs,h1,h2⟩:=h.ev hc hv
  exact ⟨cs,by dsimp only; rw [h1]; rfl,h2⟩
 ·
  rename_i c p q
  split at hv
  ·rename_i v hcv
   obtain ⟨cs0,h1,h2⟩:=h.ev hc hcv
   have h2':cs0=[.bool v]:=h2
   subst h2'
   have hb:a.eval c=.bool v:=h1
   obtain ⟨cs,h3,h4⟩:=Qou (u1:=a.eval p) (u2:=a.eval q)
    (fun e u hu=>h.ev (Mg hc (hb.trans (by rw [e]))) hu) (fun e u hu=>h.ev (Mg hc (hb.trans (by rw [e]))) hu) hv
   refine ⟨cs,?_,h4⟩
   simp only [hb]
   rw [←h3]
   cases v<;>simp [asBool]
  ·cases hv
 ·
  split at hv
  ·rename_i x1 x2 hx1 hx2
   split at hv
   ·rename_i u v hu hw
    split at hv
    ·rename_i r hr
     obtain ⟨c1,h1,h2⟩:=h.ev hc hx1
     obtain ⟨c2,h3,h4⟩:=h.ev hc hx2
     rw [Qf2 hu h2] at h1
     rw [Qf2 hw h4] at h3
     obtain ⟨cs,h5,h6⟩:=Qce (β:=β) (ρ:=ρ) (ok:=ok) (w:=w) hv
     refine ⟨cs,?_,h6⟩
     simp only [h1,h3]
     rw [←h5]
     simp [Ib hr,Sj hT hr]
    ·cases hv
   ·split at hv
    ·rename_i b hb
     simp at hv; subst hv
     obtain ⟨c1,h1,h2⟩:=h.ev hc hx1
     obtain ⟨c2,h3,h4⟩:=h.ev hc hx2
     exact ⟨[.bool b],Qto (yt:=0) hT hb h2 h4 h1 h3,rfl⟩
    split at hv
    ·rename_i neg t1 fs z1 s1 b1 us vs hneg ht hus hvs
     cases hb:(E4 fs&&x1.isAgg&&x2.isAgg) with
     | false=>rw [hb] at hv; cases hv
     | true =>
     rw [hb] at hv
     simp only [cond_true] at hv
     simp only [Bool.and_eq_true] at hb
     split at hv
     ·rename_i r hr
      simp at hv; subst hv
      obtain ⟨c1,h1,h2⟩:=h.ev hc hx1
      obtain ⟨c2,h3,h4⟩:=h.ev hc hx2
      have e1:=Fr hus h2
      have e2:=Fr hvs h4
      subst e1; subst e2
      have f1:x1.val c1=.agg c1.toArray:=by simp [AV.val,hb.1.2]
      have f2:x2.val c2=.agg c2.toArray:=by simp [AV.val,hb.2]
      rw [f1] at h1; rw [f2] at h3
      exact ⟨[.bool (bif neg then !r else r)],Qov hT (yt:=0) hneg ht hb.1.1 hr h1 h3,rfl⟩
     ·cases hv
    ·cases hv
  ·cases hv
 ·
  split at hv
  ·rename_i x1 hx1
   split at hv
   ·rename_i u hu
    split at hv
    ·rename_i r hr
     obtain ⟨c1,h1,h2⟩:=h.ev hc hx1
     rw [Qf2 hu h2] at h1
     obtain ⟨cs,h5,h6⟩:=Qce (β:=β) (ρ:=ρ) (ok:=ok) (w:=w) hv
     refine ⟨cs,?_,h6⟩
     simp only [h1]
     rw [←h5]
     simp [Qbx hr]
    ·cases hv
   ·cases hv
  ·cases hv
 ·
  split at hv
  ·rename_i _ _ _ _ k _ _ _ _ n hs ht hx
   simp at hv; subst hv
   obtain ⟨c1,h1,h2⟩:=h.ev hc hx
   have h2':c1=_:=h2
   subst h2'
   refine ⟨[.int k (k.wrap n)],?_,rfl⟩
   have h1':a.eval _=.int _ n:=h1
   simp [convert,Ji hT w hs,Ji hT w ht,h1',Conv.intToInt,AV.val,AV.isAgg,Ty.agg]
  ·cases hv
 ·
  rename_i sT xo fI
  split at hv
  ·rename_i fs _ _ _ x1 hs hx
   split at hv
   ·rename_i fd hf
    split at hv
    ·rename_i y e hn he
     cases hb:(Nat.beq e.size y.size&&(Uw e.d==y.isAgg)&&x1.isAgg&&y.isVal&&(y.isAgg||Nat.beq y.size 1)) with
     | false=>rw [hb] at hv; cases hv
     | true =>
      rw [hb] at hv
      simp at hv; subst hv
      simp only [Bool.and_eq_true] at hb
      obtain ⟨⟨⟨⟨b1,b2⟩,b3⟩,b4⟩,b5⟩:=hb
      have b1:=Nat.eq_of_beq_eq_true b1
      have b2:=bEq b2
      obtain ⟨c1,h1,h2⟩:=h.ev hc hx
      obtain ⟨h3,h4⟩:=Bw hn h2
      have hoff:∀k,Jp [PS.f k fd.offset]=fd.offset:=fun k=>by simp [Jp,PS.off]
      rw [hoff] at h3 h4
      refine ⟨_,?_,h3⟩
      have h1':a.eval xo=.agg c1.toArray:=by rw [h1]; simp [AV.val,b3]
      simp only [h1']
      have hpart:(part fd.type c1.toArray fd.offset).run P w=.ok (y.val ((c1.drop fd.offset).take y.size)) w:=by
       refine D9 hT w he c1 fd.offset ?_
       rw [b2,b1]
       cases ha:y.isAgg with
       | true=>simp [AV.val,ha]
       | false =>
        rw [ha] at b5
        have h5:y.size=1:=Nat.eq_of_beq_eq_true (by simpa using b5)
        rw [h5] at h4 ⊢
        have hlt:fd.offset<c1.length:=by omega
        have e1:(c1.drop fd.offset).take 1=[c1[fd.offset]]:=by rw [List.drop_eq_getElem_cons hlt]; rfl
        rw [e1]
        simp [AV.val,ha,List.getElem?_eq_getElem hlt]
      simp [Instr.field,Ji hT w hs,hf,asAgg,hpart]
    ·cases hv
   ·cases hv
  ·cases hv
 ·
  rename_i sT xo fI
  split at hv
  ·rename_i fs _ _ _ x1 hs hx
   split at hv
   ·rename_i off hfo
    obtain ⟨fd,hfd,rfl,e,he,hne⟩:=L8 hfo
    obtain ⟨c1,h1,h2⟩:=h.ev hc hx
    have key:∀b o,a.eval xo=.pointer (some ⟨b,o,none⟩)→(Instr.fieldAt sT (a.eval xo) fI).run P w=.ok (.pointer (some ⟨b,o+fd.offset,none⟩)) w:=fun b o he'=>by
     rw [he']
     simp [Instr.fieldAt,Ji hT w hs,hfd,Instr.sureAddr,fieldPlace,Addr.add_lit,Jy hT w he,hne]
    split at hv
    ·rename_i id path
     simp at hv; subst hv
     have h2':c1=_:=h2
     subst h2'
     refine ⟨[.pointer (some ⟨β id,Jp path+fd.offset,none⟩)],?_,?_⟩
     ·dsimp only
      simp only [Sem.run_bind]
      rw [key _ _ h1]
      rfl
     ·show [_]=[_]
      rw [Ep]
      simp [Jp,PS.off]
    ·rename_i id path
     simp at hv; subst hv
     obtain ⟨g,hg,rfl⟩:=h2
     refine ⟨[.pointer (some ⟨g,Jp path+fd.offset,none⟩)],?_,g,hg,?_⟩
     ·dsimp only
      simp only [Sem.run_bind]
      rw [key _ _ h1]
      rfl
     ·rw [Ep]
      simp [Jp,PS.off]
    ·rename_i t y
     split at hv
     ·rename_i u z hn
      simp at hv; subst hv
      obtain ⟨v,rfl,b,o',cs,rfl,hr,hcl⟩:=h2
      obtain ⟨h3,h4⟩:=Bw (β:=β) (ρ:=ρ) hn hr
      have hoff:∀k,Jp [PS.f k fd.offset]=fd.offset:=fun k=>by simp [Jp,PS.off]
      rw [hoff] at h3 h4
      refine ⟨[.pointer (some ⟨b,o'+fd.offset,none⟩)],?_,_,rfl,b,_,_,rfl,h3,?_⟩
      ·dsimp only
       simp only [Sem.run_bind]
       rw [key _ _ h1]
       rfl
      ·intro j q hj
       have hjl:j<(AV.d u z).size:=by
        have:=(List.getElem?_eq_some_iff.1 hj).1
        simp at this; omega
       rw [List.getElem?_take_of_lt hjl,List.getElem?_drop] at hj
       have:=hcl _ _ hj
       rw [←Nat.add_assoc] at this
       exact this
     ·cases hv
    ·cases hv
   ·cases hv
  ·cases hv
 ·
  split at hv
  ·rename_i e id path he hx
   split at hv
   ·rename_i tid c ho
    split at hv
    ·rename_i y hn
     cases hb:(Nat.beq e.size y.size&&(Uw e.d==y.isAgg)&&y.isVal&&(y.isAgg||Nat.beq y.size 1)) with
     | false=>rw [hb] at hv; cases hv
     | true =>
      rw [hb] at hv
      simp at hv; subst hv
      simp only [Bool.and_eq_true] at hb
      obtain ⟨⟨⟨b1,b2⟩,b3⟩,b4⟩:=hb
      have b1:=Nat.eq_of_beq_eq_true b1
      have b2:=bEq b2
      obtain ⟨c1,h1,h2⟩:=h.ev hc hx
      have h2':c1=_:=h2
      subst h2'
      obtain ⟨cs,hh,hcr⟩:=hM _ _ ho
      obtain ⟨h3,h4⟩:=Bw hn hcr
      have hlen:=Ur h3
      refine ⟨_,?_,h3⟩
      have h1':a.eval _=.pointer (some ⟨β id,Jp path,none⟩):=h1
      simp only [h1',Sem.run_bind]
      rw [Wb hT he (y:=y) (cs:=(cs.drop (Jp path)).take y.size) (by rw [hlen]; exact b1) b2 (fun ha=>by
       rw [ha] at b4
       rw [hlen]; exact Nat.eq_of_beq_eq_true (by simpa using b4)) (fun j u hu=>by
        have hjl:j<y.size:=by
         have:=(List.getElem?_eq_some_iff.1 hu).1
         omega
        rw [List.getElem?_take_of_lt hjl,List.getElem?_drop] at hu
        simp only [World.cell?,hh]
        simpa using hu)]
      rfl
    ·cases hv
   ·cases hv
  ·rename_i e t y he hx
   cases hb:(Nat.beq e.size t.size&&(Uw e.d==t.agg)) with
   | false=>rw [hb] at hv; cases hv
   | true =>
    rw [hb] at hv
    simp at hv; subst hv
    simp only [Bool.and_eq_true] at hb
    have b1:=Nat.eq_of_beq_eq_true hb.1
    have b2:=bEq hb.2
    obtain ⟨c1,h1,h2⟩:=h.ev hc hx
    obtain ⟨v,rfl,b,o',cs,rfl,hr,hcl⟩:=h2
    have hlen:cs.length=t.size:=by rw [(rt t).len hr,Jh]
    refine ⟨cs,?_,hr⟩
    have h1':a.eval _=.pointer (some ⟨b,o',none⟩):=h1
    simp only [h1',Sem.run_bind]
    rw [Wb hT he (y:=.d t y) (cs:=cs) (by rw [hlen,b1]) b2 (fun ha=>by rw [hlen]; exact Qom ha) (fun j u hu=>(hcl j u hu).2)]
    rfl
  ·cases hv
 ·
  split at hv
  ·rename_i l hx
   obtain ⟨c1,h1,vs,rfl,hl⟩:=h.ev hc hx
   obtain ⟨cs,h3,h4⟩:=Qot hv hl
   refine ⟨cs,?_,h4⟩
   have h1':a.eval _=.tuple vs.toArray:=h1
   simp [h1',Instr.extract,h3]
  ·cases hv
 ·
  split at hv
  ·rename_i e x1 he hx
   obtain ⟨c1,h1,h2⟩:=h.ev hc hx
   split at hv
   ·rename_i hd
    split at hv
    ·cases hv
    ·rename_i hns
     split at hv
     ·rename_i n hn
      simp at hv; subst hv
      obtain ⟨A,c,hval⟩:=Qtk hM hn hns h2
      refine ⟨[.int .i64 n],?_,rfl⟩
      rw [hval] at h1
      simp [resolve,invoke,builtin,Builtin.len_,Ji hT w he,hd,h1,goInt,AV.val,AV.isAgg,Ty.agg]
     ·cases hv
   ·rename_i hd
    split at hv
    ·rename_i l
     simp at hv; subst hv
     have h2':c1=_:=h2
     subst h2'
     refine ⟨[.int .i64 l.length],?_,rfl⟩
     have h1':a.eval _=Yu l:=h1
     simp [resolve,invoke,builtin,Builtin.len_,Ji hT w he,hd,h1',goInt,AV.val,AV.isAgg,Ty.agg,Yu,Qby]
    ·cases hv
   ·rename_i kt et hd
    split at hv
    ·rename_i id
     split at hv
     ·rename_i k v xs hm
      simp at hv; subst hv
      obtain ⟨es,clock,q1,q2⟩:=Qie hM hm
      have h2':c1=_:=h2
      subst h2'
      have h1':a.eval _=.map (some (β id)):=h1
      have hlen:es.size=xs.length:=by
       have:∀{xs:List (k.De×v.De)} {es:List MapEntry},Kn (rt k) (rt v) ok w xs es→es.length=xs.length:=by
        intro xs
        induction xs with
        | nil=>intro es h; rw [show es=[] from h]; rfl
        | cons x xs ih=>rintro es ⟨e,es',rfl,_,_,h⟩; simp [ih h]
       rw [←this q2]; simp
      refine ⟨[.int .i64 xs.length],?_,rfl⟩
      simp [resolve,invoke,builtin,Builtin.len_,Ji hT w he,hd,h1',goInt,AV.val,AV.isAgg,Ty.agg,MapKept.run_getObj_map q1,hlen]
     ·cases hv
    ·simp at hv; subst hv
     have h2':c1=_:=h2
     subst h2'
     have h1':a.eval _=.map none:=h1
     refine ⟨[.int .i64 0],?_,rfl⟩
     simp [resolve,invoke,builtin,Builtin.len_,Ji hT w he,hd,h1',goInt,AV.val,AV.isAgg,Ty.agg]
    ·cases hv
   ·cases hv
  ·cases hv
 ·
  split at hv
  ·rename_i x1 x2 hx1 hx2
   split at hv
   ·rename_i k p _ q hi1 hi2
    simp at hv; subst hv
    have e1:=Gf hi1
    have e2:=Gf hi2
    subst e1; subst e2
    obtain ⟨c1,h1,h2⟩:=h.ev hc hx1
    obtain ⟨c2,h3,h4⟩:=h.ev hc hx2
    have h2':c1=_:=h2
    have h4':c2=_:=h4
    subst h2'; subst h4'
    refine ⟨[.int k (if q>p then q else p)],?_,rfl⟩
    have h1':a.eval _=.int k p:=h1
    have h3':a.eval _=.int _ q:=h3
    simp [resolve,invoke,builtin,Builtin.max_,Builtin.max2,h1',h3',AV.val,AV.isAgg,Ty.agg]
   ·cases hv
  ·cases hv
 ·
  split at hv
  ·rename_i x1 x2 hx1 hx2
   split at hv
   ·rename_i k p _ q hi1 hi2
    simp at hv; subst hv
    have e1:=Gf hi1
    have e2:=Gf hi2
    subst e1; subst e2
    obtain ⟨c1,h1,h2⟩:=h.ev hc hx1
    obtain ⟨c2,h3,h4⟩:=h.ev hc hx2
    have h2':c1=_:=h2
    have h4':c2=_:=h4
    subst h2'; subst h4'
    refine ⟨[.int k (if q<p then q else p)],?_,rfl⟩
    have h1':a.eval _=.int k p:=h1
    have h3':a.eval _=.int _ q:=h3
    simp [resolve,invoke,builtin,Builtin.min_,Builtin.min2,h1',h3',AV.val,AV.isAgg,Ty.agg]
   ·cases hv
  ·cases hv
 ·
  split at hv
  ·rename_i x1 x2 x3 hx1 hx2 hx3
   split at hv
   ·rename_i k p _ q _ r hi1 hi2 hi3
    simp at hv; subst hv
    have e1:=Gf hi1
    have e2:=Gf hi2
    have e3:=Gf hi3
    subst e1; subst e2; subst e3
    obtain ⟨c1,h1,h2⟩:=h.ev hc hx1
    obtain ⟨c2,h3,h4⟩:=h.ev hc hx2
    obtain ⟨c3,h5,h6⟩:=h.ev hc hx3
    have h2':c1=_:=h2
    have h4':c2=_:=h4
    have h6':c3=_:=h6
    subst h2'; subst h4'; subst h6'
    refine ⟨[.int k (if r<(if q<p then q else p) then r else (if q<p then q else p))],?_,rfl⟩
    have h1':a.eval _=.int k p:=h1
    have h3':a.eval _=.int _ q:=h3
    have h5':a.eval _=.int _ r:=h5
    simp [resolve,invoke,builtin,Builtin.min_,Builtin.min2,h1',h3',h5',AV.val,AV.isAgg,Ty.agg]
   ·cases hv
  ·cases hv
 ·
  rename_i tT parts
  split at hv
  ·rename_i _ fs z _ _ ty hs hty
   split at hv
   ·rename_i l ps vs hz hp hvs
    split at hv
    ·rename_i l' hl'
     simp at hv; subst hv
     have hpl:=Dh hT hp
     have hpr:=run_places (P:=P) w fs ps hpl
     obtain ⟨cs',h5,h6⟩:=Qcg ps hl' (K2 (x:=.ag l) hz) (h.evParts hc hvs)
     have hf:=Hq _ h5
     refine ⟨cs',?_,h6⟩
     simp only [Instr.build,Sem.run_bind,Y9 hT w hs,Ji hT w hs,Result.andThen_ok]
     simp only [Array.mapM_eq_mapM_toList,Sem.run_map,bind_pure_comp,hpr,Result.andThen_ok]
     have hf':Instr.fill (fun x=>ps.toArray[x]?) z.cells (parts.map fun p=>(p.1,a.eval p.2))=some cs'.toArray:=by
      rw [Yq] at hf
      simpa using hf
     have hm:((Array.mk parts).map fun (x:Nat×Operand)=>(x.1,a.eval x.2)).toList=parts.map fun p=>(p.1,a.eval p.2):=by simp
     rw [hm,hf']
     simp [AV.val,AV.isAgg]
    ·cases hv
   ·cases hv
  ·rename_i _ _ e z _ _ m u hs hty
   split at hv
   ·rename_i ee vs he hvs
    split at hv
    ·rename_i xs hxs
     obtain ⟨hb,hv⟩:=bvT hv
     simp only [Bool.and_eq_true] at hb
     simp at hv; subst hv
     have hsz:=Nat.eq_of_beq_eq_true hb.1.1
     have hxl:=Nat.eq_of_beq_eq_true hb.1.2
     have hzl:=Nat.eq_of_beq_eq_true hb.2
     obtain ⟨us,q1,q2,q3⟩:=h.asLs hc hvs hxs
     have hcl:=Li q2
     rw [Jh] at hcl
     have hfill:=Sr us 0 (Qh z) hcl (by rw [hzl,Nat.zero_add,q3,hxl]; exact Nat.le_refl _)
     rw [←q1] at hfill
     simp only [Nat.zero_mul,List.take_zero,List.nil_append,Nat.zero_add] at hfill
     rw [List.drop_of_length_le (by rw [hzl,q3,hxl]; exact Nat.le_refl _),List.append_nil] at hfill
     have hf:=Hq _ hfill
     rw [←hsz,Yq] at hf
     refine ⟨us.flatMap Qh,?_,hxl,Om q2⟩
     have hm:((Array.mk parts).map fun (x:Nat×Operand)=>(x.1,a.eval x.2)).toList=parts.map fun p=>(p.1,a.eval p.2):=by simp
     simp only [Instr.build,Sem.run_bind,Y9 hT w hs,Ji hT w hs,Jy hT w he,Result.andThen_ok]
     have hf':Instr.fill (fun i=>some (i*ee.size,ee.size)) z.cells (parts.map fun p=>(p.1,a.eval p.2))=some (us.flatMap Qh).toArray:=by
      have:(parts.map fun p=>(p.1,a.eval p.2))=List.map (fun p=>(p.fst,a.eval p.snd)) parts:=rfl
      show Instr.fill (Ab ee.size) z.cells _=_
      simpa using hf
     rw [hm,hf']
     simp [AV.val,AV.isAgg,Ty.agg]
    ·cases hv
   ·cases hv
  ·cases hv
 ·
  rename_i x
  split at hv
  ·rename_i id path hx
   simp at hv; subst hv
   obtain ⟨c1,h1,h2⟩:=h.ev hc hx
   refine ⟨c1,?_,h2⟩
   have h2':c1=_:=h2
   subst h2'
   have h1':a.eval x=.pointer (some ⟨β id,Jp path,none⟩):=h1
   simp [h1',AV.val,AV.isAgg]
  ·rename_i id path hx
   simp at hv; subst hv
   obtain ⟨c1,h1,g,h2,h3⟩:=h.ev hc hx
   refine ⟨c1,?_,g,h2,h3⟩
   subst h3
   have h1':a.eval x=.pointer (some ⟨g,Jp path,none⟩):=h1
   simp [h1',AV.val,AV.isAgg]
  ·rename_i t y hx
   simp at hv; subst hv
   obtain ⟨c1,h1,v1,h2,h3⟩:=h.ev hc hx
   refine ⟨c1,?_,v1,h2,h3⟩
   obtain ⟨b,o,c,rfl,_⟩:=h3
   subst h2
   have h1':a.eval x=.pointer (some ⟨b,o,none⟩):=h1
   simp [h1',AV.val,AV.isAgg]
  ·rename_i fn caps hx
   simp at hv; subst hv
   obtain ⟨c1,h1,vs,h2,h3⟩:=h.ev hc hx
   refine ⟨c1,?_,vs,h2,h3⟩
   subst h2
   have h1':a.eval x=.func (.func fn) #[] vs.toArray:=h1
   simp [h1',AV.val,AV.isAgg]
  ·cases hv
 ·
  rename_i f caps
  split at hv
  ·rename_i l hl
   simp at hv; subst hv
   refine ⟨[.func (.func f) #[] (caps.map a.eval).toArray],?_,_,rfl,h.evs hc hl⟩
   simp [Instr.makeFunc,AV.val,AV.isAgg]
  ·cases hv
 ·
  rename_i t x ix c
  split at hv
  ·rename_i te id iv hte hx hix
   split at hv
   ·rename_i kt et k v xs htd hmo
    split at hv
    ·rename_i tk tz key htk htz hkey
     split at hv
     ·rename_i za hza
      split at hv
      ·rename_i z hz
       cases hb:(Ys Y.T k tk.d&&(k.agg==iv.isAgg)&&(v.agg==By tz.z)) with
       | false=>rw [hb] at hv; cases hv
       | true =>
       rw [hb] at hv
       simp only [cond_true,Option.some.injEq] at hv
       simp only [Bool.and_eq_true] at hb
       obtain ⟨c1,h1,h2⟩:=h.ev hc hx
       have h2':c1=[.map (some (β id))]:=h2
       subst h2'
       have h1':a.eval x=.map (some (β id)):=h1
       obtain ⟨c3,h3,h4⟩:=h.ev hc hix
       have hkr:isV (rt k) ok w key (a.eval ix):=by
        refine ⟨c3,V8 (M:=[]) (β:=β) (ρ:=ρ) (by simp [Qb]) hkey h4,?_⟩
        rw [h3]; simp only [AV.val,RT.val,Xn,bEq hb.1.2]; cases iv.isAgg<;>rfl
       obtain ⟨es,clock,hg,hp⟩:=Qie hM hmo
       have hzv:isV (rt v) ok w z tz.z:=⟨Qh tz.z,V8 (M:=[]) (β:=β) (ρ:=ρ) (by simp [Qb]) hz (K2 hza),(Cm (bEq hb.2)).symm⟩
       obtain ⟨u,hrun,hu,_⟩:=Dm hT hte htd htk htz hb.1.1 hg hp key hzv c
       rw [←Up (Q9 hb.1.1) hkr] at hrun
       obtain ⟨cu,hu1,hu2⟩:=hu
       have hvu:(AV.d v ((Qx key xs).getD z)).val cu=u:=by rw [hu2]; simp only [AV.val,RT.val,Xn,AV.isAgg]; cases v.agg<;>rfl
       cases c with
       | true =>
        simp only at hv; subst hv
        refine ⟨[.tuple #[u,.bool (Qx key xs).isSome]],?_,[u,.bool (Qx key xs).isSome],rfl,cu,[.bool (Qx key xs).isSome],by rw [hvu],hu1,[.bool (Qx key xs).isSome],[],rfl,rfl,rfl⟩
        simp only [h1']
        simp only [if_true] at hrun
        simp [hrun,AV.val,AV.isAgg]
       | false =>
        simp only at hv; subst hv
        refine ⟨cu,?_,hu1⟩
        rw [hvu]
        simp only [h1']
        simp only [Bool.false_eq_true,if_false] at hrun
        simp [hrun]
      ·cases hv
     ·cases hv
    ·cases hv
   ·cases hv
  ·cases hv
 ·cases hv
end
end Gx

/- Maps whose values hold a slice that may be appended to: their entries. -/
namespace Gx
open Go Go.RowKit Gd
set_option linter.unusedVariables false
set_option linter.unusedSimpArgs false
section
variable {β:Nat→Nat} {ρ ρ':Nat→Value} {ok:Ok} {w:World}
theorem Qig:∀{fs:Ty} {k:Nat} {t:Ty} {g:fs.De→t.De} {o:Nat} {x:fs.De} {cs:List Value},slF fs k=some ⟨t,g,o⟩→(rt fs).rep ok w x cs →
  ∃c1 c2 c3,cs=c1++c2++c3∧c1.length=o∧(rt t).rep ok w (g x) c2
 | .pr f r,0,t,g,o,x,cs,h,⟨c1,c2,e,h1,h2⟩=>by
  simp [slF] at h
  obtain ⟨rfl,h⟩:=h
  have h:=eq_of_heq h
  injection h with hg ho
  subst hg; subst ho
  exact ⟨[],c1,c2,by simpa using e,rfl,h1⟩
 | .pr f r,k+1,t,g,o,x,cs,h,⟨c1,c2,e,h1,h2⟩=>by
  simp only [slF] at h
  split at h
  ·rename_i t' g' o' hk
   simp at h
   obtain ⟨rfl,h⟩:=h
   have h:=eq_of_heq h
   injection h with hg ho
   subst hg; subst ho
   obtain ⟨d1,d2,d3,q1,q2,q3⟩:=Qig hk h2
   refine ⟨c1++d1,d2,d3,by rw [e,q1]; simp,?_,q3⟩
   rw [List.length_append,q2,(rt f).len h1,Jh]
  ·cases h
 | .int _,0,t,g,o,x,cs,h,hr=>by
  simp [slF] at h; obtain ⟨rfl,h⟩:=h; have h:=eq_of_heq h; injection h with hg ho; subst hg; subst ho
  exact ⟨[],cs,[],by simp,rfl,hr⟩
 | .bool,0,t,g,o,x,cs,h,hr=>by
  simp [slF] at h; obtain ⟨rfl,h⟩:=h; have h:=eq_of_heq h; injection h with hg ho; subst hg; subst ho
  exact ⟨[],cs,[],by simp,rfl,hr⟩
 | .str,0,t,g,o,x,cs,h,hr=>by
  simp [slF] at h; obtain ⟨rfl,h⟩:=h; have h:=eq_of_heq h; injection h with hg ho; subst hg; subst ho
  exact ⟨[],cs,[],by simp,rfl,hr⟩
 | .sl _,0,t,g,o,x,cs,h,hr=>by
  simp [slF] at h; obtain ⟨rfl,h⟩:=h; have h:=eq_of_heq h; injection h with hg ho; subst hg; subst ho
  exact ⟨[],cs,[],by simp,rfl,hr⟩
 | .arr _ _,0,t,g,o,x,cs,h,hr=>by
  simp [slF] at h; obtain ⟨rfl,h⟩:=h; have h:=eq_of_heq h; injection h with hg ho; subst hg; subst ho
  exact ⟨[],cs,[],by simp,rfl,hr⟩
 | .st _,0,t,g,o,x,cs,h,hr=>by
  simp [slF] at h; obtain ⟨rfl,h⟩:=h; have h:=eq_of_heq h; injection h with hg ho; subst hg; subst ho
  exact ⟨[],cs,[],by simp,rfl,hr⟩
 | .int _,_+1,_,_,_,_,_,h,_=>by simp [slF] at h
 | .bool,_+1,_,_,_,_,_,h,_=>by simp [slF] at h
 | .str,_+1,_,_,_,_,_,h,_=>by simp [slF] at h
 | .sl _,_+1,_,_,_,_,_,h,_=>by simp [slF] at h
 | .arr _ _,_+1,_,_,_,_,_,h,_=>by simp [slF] at h
 | .st _,_+1,_,_,_,_,_,h,_=>by simp [slF] at h
 | .unit,_,_,_,_,_,_,h,_=>by simp [slF] at h
theorem On:∀{path:List PS} {v u:Ty} {f:v.De→List u.De} {y:v.De} {cs:List Value},M8 v path=some ⟨u,f⟩→(rt v).rep ok w y cs →
  ∃s,cs[Jp path]?=some s∧isV (rSl (rt u)) ok w (f y) s
 | [],v,u,f,y,cs,h,hr=>by
  cases v<;>simp [M8] at h
  obtain ⟨rfl,h⟩:=h
  have h:=eq_of_heq h
  subst h
  obtain ⟨s,hs,h1⟩:=hr
  refine ⟨s,by rw [hs]; rfl,?_⟩
  exact Uh.2 h1
 | .f k off::ps,v,u,f,y,cs,h,hr=>by
  cases v<;>simp only [M8] at h<;>first | (cases h; done) | skip
  rename_i fs
  split at h
  ·rename_i t g o hk
   cases hb:Nat.beq o off with
   | false=>rw [hb] at h; cases h
   | true =>
    rw [hb] at h
    simp only [cond_true] at h
    have hbo:=Nat.eq_of_beq_eq_true hb
    subst hbo
    split at h
    ·rename_i u' f' hf
     simp at h
     obtain ⟨rfl,h⟩:=h
     have h:=eq_of_heq h
     subst h
     obtain ⟨c1,c2,c3,e1,e2,e3⟩:=Qig hk (show (rt fs).rep ok w y cs from hr)
     obtain ⟨s,e4,e5⟩:=On hf e3
     refine ⟨s,?_,e5⟩
     have hlt:Jp ps<c2.length:=by
      rcases Nat.lt_or_ge (Jp ps) c2.length with q | q
      ·exact q
      ·rw [List.getElem?_eq_none q] at e4; cases e4
     rw [e1]
     simp only [Jp,PS.off]
     rw [List.append_assoc,List.getElem?_append_right (by omega),e2,Nat.add_sub_cancel_left,List.getElem?_append_left hlt]
     exact e4
    ·cases h
  ·cases h
 | .i _ _::_,v,_,_,_,_,h,_=>by cases v<;>simp [M8] at h
theorem Ss {t:Ty} {x:t.De} {v:Value} (h:isV (rt t) ok w x v):(rt t).rep ok w x (Qh v):=by
 obtain ⟨cs,h1,h2⟩:=He (β:=fun _=>0) (ρ:=fun _=>undef) h
 have:=Z3 h1 rfl rfl
 rw [h2,this]; exact h1
end
section
variable {k v u:Ty} {e off:Nat} {f:v.De→List u.De} {ok:Ok} {w:World} {hv:Value}
abbrev Oo (vs:List Value):Prop:=vs.Pairwise fun a b=>∀g,a.ownBlock=some g→b.ownBlock≠some g
theorem Oq {hole:Option k.De} (hno:hole=none) {h2:Option k.De} {hv2:Value}:∀{xs:List (k.De×v.De)} {es:List MapEntry} {vs:List Value},G5 (rt k) (rt v) (rt u) e off f hole hv ok w xs es vs→(∀x∈xs,h2≠some x.1)→G5 (rt k) (rt v) (rt u) e off f h2 hv2 ok w xs es vs
 | [],[],[],h,_=>h
 | x::xs,en::es,s::vs,⟨h1,h2',h3,h4⟩,hn=>⟨h1,h2',.inr ⟨hn x (.head _),by
   rcases h3 with ⟨q,_⟩ | ⟨_,q⟩
   ·rw [hno] at q; cases q
   ·exact q⟩,Oq hno h4 fun y hy=>hn y (.tail _ hy)⟩
 | [],[],_::_,h,_=>h.elim
 | [],_::_,_,h,_=>h.elim
 | _::_,[],_,h,_=>h.elim
 | _::_,_::_,[],h,_=>h.elim
theorem Su {kh:k.De}:∀{xs:List (k.De×v.De)} {es:List MapEntry} {vs:List Value},G5 (rt k) (rt v) (rt u) e off f (some kh) hv ok w xs es vs→kh∉xs.map Prod.fst→G5 (rt k) (rt v) (rt u) e off f none hv ok w xs es vs
 | [],[],[],h,_=>h
 | x::xs,en::es,s::vs,⟨h1,h2',h3,h4⟩,hn=>⟨h1,h2',.inr ⟨by simp,by
   rcases h3 with ⟨q,_⟩ | ⟨_,q⟩
   ·injection q with q; exact absurd (by simp [q]) hn
   ·exact q⟩,Su h4 fun hm=>hn (by simp only [List.map_cons,List.mem_cons]; exact .inr hm)⟩
 | [],[],_::_,h,_=>h.elim
 | [],_::_,_,h,_=>h.elim
 | _::_,[],_,h,_=>h.elim
 | _::_,_::_,[],h,_=>h.elim
theorem Sv (hk:Ah k=true) {key:k.De}:∀{xs:List (k.De×v.De)},key∉xs.map Prod.fst→Qx key xs=none
 | [],_=>rfl
 | x::xs,h=>by
  simp only [List.map_cons,List.mem_cons,not_or] at h
  simp only [Qx]
  cases he:eqK k key x.1 with
  | true=>exact absurd ((V3 hk).1 he) h.1
  | false=>exact Sv hk h.2
theorem Sw (hk:Ah k=true) {key:k.De}:∀{xs:List (k.De×v.De)},Qx key xs=none→key∉xs.map Prod.fst
 | [],_=>by simp
 | x::xs,h=>by
  simp only [Qx] at h
  cases he:eqK k key x.1 with
  | true=>rw [he] at h; cases h
  | false =>
   rw [he] at h
   simp only [List.map_cons,List.mem_cons,not_or]
   exact ⟨fun e'=>(by rw [e',(V3 hk).2 rfl] at he; cases he),Sw hk h⟩
theorem Sx (hk:Ah k=true) {key:k.De} (hs:∀{y:v.De} {cs:List Value},(rt v).rep ok w y cs→∃s,cs[off]?=some s∧isV (rSl (rt u)) ok w (f y) s) :
  ∀{xs:List (k.De×v.De)} {es:List MapEntry} {vs:List Value},G5 (rt k) (rt v) (rt u) e off f none hv ok w xs es vs→(xs.map Prod.fst).Nodup→Oo vs →
  (Qx key xs=none∧∀sv,G5 (rt k) (rt v) (rt u) e off f (some key) sv ok w xs es vs) ∨
  ∃vs' sv y,Qx key xs=some y∧G5 (rt k) (rt v) (rt u) e off f (some key) sv ok w xs es vs'∧sv∈vs∧(∀s∈vs',s=undef∨s∈vs)∧Oo vs'∧(∀s∈vs',∀g,s.ownBlock=some g→sv.ownBlock≠some g) ∧
   isV (rSl (rt u)) ok w (f y) sv∧∃ys,w.ownsRowS 0 e (rt u).size sv (Uq sv) ys
 | [],[],[],h,_,_=>.inl ⟨rfl,fun _=>trivial⟩
 | x::xs,en::es,s::vs,⟨h1,h2,h3,h4⟩,hnd,hdp=>by
  have hnd':=List.nodup_cons.1 (by simpa using hnd:(x.1::xs.map Prod.fst).Nodup)
  have hdp':=List.pairwise_cons.1 hdp
  obtain ⟨q1,q2,q3⟩:none≠some x.1∧(∃c,(Qh en.val)[off]?=some c∧zal c s)∧∃ys,w.ownsRowS 0 e (rt u).size s (Uq s) ys:=by
   rcases h3 with ⟨q,_⟩ | q
   ·cases q
   ·exact q
  simp only [Qx]
  cases he:eqK k key x.1 with
  | true =>
   have hkx:=(V3 hk).1 he
   subst hkx
   obtain ⟨s',e1,e2⟩:=hs (Ss h2)
   have e2:isV (rSl (rt u)) ok w (f x.2) s:=by
    obtain ⟨c,qc,qz⟩:=q2
    rw [qc] at e1; injection e1 with e1; subst e1
    exact Qor qz e2
   refine .inr ⟨undef::vs,s,x.2,rfl,⟨h1,h2,.inl ⟨rfl,rfl,q2⟩,Oq rfl h4 fun y hy e'=>?_⟩,.head _,?_,?_,?_,e2,q3⟩
   ·injection e' with e'
    exact hnd'.1 (List.mem_map.2 ⟨y,hy,e'.symm⟩)
   ·intro t ht
    rcases List.mem_cons.1 ht with rfl | ht
    ·exact .inl rfl
    ·exact .inr (.tail _ ht)
   ·exact List.pairwise_cons.2 ⟨fun b hb g hg=>(by cases hg),hdp'.2⟩
   ·intro t ht g hg hg2
    rcases List.mem_cons.1 ht with rfl | ht
    ·cases hg
    ·exact hdp'.1 t ht g hg2 hg
  | false =>
   have hne:some key≠some x.1:=fun e'=>by injection e' with e'; rw [e',(V3 hk).2 rfl] at he; cases he
   rcases Sx hk hs h4 hnd'.2 hdp'.2 with ⟨r1,r2⟩ | ⟨vs',sv,y,r1,r2,r3,r4,r5,r6,r7⟩
   ·exact .inl ⟨r1,fun sv=>⟨h1,h2,.inr ⟨hne,q2,q3⟩,r2 sv⟩⟩
   ·refine .inr ⟨s::vs',sv,y,r1,⟨h1,h2,.inr ⟨hne,q2,q3⟩,r2⟩,.tail _ r3,?_,?_,?_,r7⟩
    ·intro t ht
     rcases List.mem_cons.1 ht with rfl | ht
     ·exact .inr (.head _)
     ·exact (r4 t ht).imp id (.tail _)
    ·refine List.pairwise_cons.2 ⟨fun b hb g hg=>?_,r5⟩
     rcases r4 b hb with rfl | hb
     ·intro e'; cases e'
     ·exact hdp'.1 b hb g hg
    ·intro t ht g hg hg2
     rcases List.mem_cons.1 ht with rfl | ht
     ·exact hdp'.1 sv r3 g hg hg2
     ·exact r6 t ht g hg hg2
 | [],[],_::_,h,_,_=>h.elim
 | [],_::_,_,h,_,_=>h.elim
 | _::_,[],_,h,_,_=>h.elim
 | _::_,_::_,[],h,_,_=>h.elim
theorem Or (hk:Ah k=true) {kh:k.De} {y:v.De} {nv sv:Value} (hnv:isV (rt v) ok w y nv) (hc:∃c,(Qh nv)[off]?=some c∧zal c sv) (ho:∃ys,w.ownsRowS 0 e (rt u).size sv (Uq sv) ys) :
  ∀{xs:List (k.De×v.De)} {es:List MapEntry} {vs:List Value},G5 (rt k) (rt v) (rt u) e off f (some kh) hv ok w xs es vs→(xs.map Prod.fst).Nodup→Oo vs→(∀s∈vs,∀g,s.ownBlock=some g→sv.ownBlock≠some g) →
  (Qx kh xs=none∧Oo (vs++[sv])∧∀c,G5 (rt k) (rt v) (rt u) e off f none hv ok w (Yx kh y xs) (es++[⟨Ye k kh,nv,c⟩]) (vs++[sv])) ∨
  ∃(j:Nat) (en:MapEntry) (vs':List Value),es[j]?=some en∧en.key=Ye k kh∧(∃y',Qx kh xs=some y')∧(∀i,i<j→∀x,xs[i]?=some x→eqK k kh x.1=false)∧(∃x,xs[j]?=some x∧eqK k kh x.1=true)∧Oo vs'∧(∀s∈vs',s=sv∨s∈vs) ∧
   G5 (rt k) (rt v) (rt u) e off f none hv ok w (Yx kh y xs) (es.modify j fun e=>{ e with key:=Ye k kh,val:=nv }) vs'
 | [],[],[],h,_,_,_=>.inl ⟨rfl,by simp,fun c=>⟨Ih hk kh,hnv,.inr ⟨by simp,hc,ho⟩,trivial⟩⟩
 | x::xs,en::es,s::vs,⟨h1,h2,h3,h4⟩,hnd,hdp,hds=>by
  have hnd':=List.nodup_cons.1 (by simpa using hnd:(x.1::xs.map Prod.fst).Nodup)
  have hdp':=List.pairwise_cons.1 hdp
  simp only [Qx,Yx]
  cases he:eqK k kh x.1 with
  | true =>
   have hkx:=(V3 hk).1 he
   refine .inr ⟨0,en,sv::vs,rfl,by rw [hkx]; exact Up hk h1,⟨_,rfl⟩,fun i hi=>by omega,⟨x,rfl,he⟩,?_,?_,⟨Ih hk kh,hnv,.inr ⟨by simp,hc,ho⟩,Su h4 (by rw [hkx]; exact hnd'.1)⟩⟩
   ·exact List.pairwise_cons.2 ⟨fun b hb g hg hg2=>hds b (.tail _ hb) g hg2 hg,hdp'.2⟩
   ·intro t ht
    rcases List.mem_cons.1 ht with rfl | ht
    ·exact .inl rfl
    ·exact .inr (.tail _ ht)
  | false =>
   have hne:some kh≠some x.1:=fun e'=>by injection e' with e'; rw [e',(V3 hk).2 rfl] at he; cases he
   have h3':(∃c,(Qh en.val)[off]?=some c∧zal c s)∧∃ys,w.ownsRowS 0 e (rt u).size s (Uq s) ys:=by
    rcases h3 with ⟨q,_⟩ | ⟨_,q⟩
    ·exact absurd q hne
    ·exact q
   rcases Or hk hnv hc ho h4 hnd'.2 hdp'.2 (fun t ht=>hds t (.tail _ ht)) with ⟨r1,r2,r3⟩ | ⟨j,en',vs',r1,r2,r3,r4,r5,r6,r7,r8⟩
   ·refine .inl ⟨r1,?_,fun c=>⟨h1,h2,.inr ⟨by simp,h3'⟩,r3 c⟩⟩
    refine List.pairwise_cons.2 ⟨fun b hb g hg=>?_,r2⟩
    rcases List.mem_append.1 hb with hb | hb
    ·exact hdp'.1 b hb g hg
    ·simp at hb; subst hb; exact hds s (.head _) g hg
   ·refine .inr ⟨j+1,en',s::vs',by simpa using r1,r2,r3,?_,by simpa using r5,?_,?_,⟨h1,h2,.inr ⟨by simp,h3'⟩,r8⟩⟩
    ·intro i hi x' hx'
     cases i with
     | zero=>simp at hx'; subst hx'; exact he
     | succ i=>exact r4 i (by omega) x' (by simpa using hx')
    ·refine List.pairwise_cons.2 ⟨fun b hb g hg=>?_,r6⟩
     rcases r7 b hb with rfl | hb
     ·exact hds s (.head _) g hg
     ·exact hdp'.1 b hb g hg
    ·intro t ht
     rcases List.mem_cons.1 ht with rfl | ht
     ·exact .inr (.head _)
     ·exact (r7 t ht).imp id (.tail _)
 | [],[],_::_,h,_,_,_=>h.elim
 | [],_::_,_,h,_,_,_=>h.elim
 | _::_,[],_,h,_,_,_=>h.elim
 | _::_,_::_,[],h,_,_,_=>h.elim
end
section
variable {P:Program} {Y:TX} {w:World}
theorem Qih (hT:Qy P Y.T) {kt:TypeId} {te:TE} (ht:Qe Y.T kt=some te) {t:Ty} (h:Ys Y.T t te.d=true) {x y:t.De} (w0:World) (he:Ye t x=Ye t y):x=y:=by
 have h1:=Xo hT ht h x y w0
 have h2:=Xo hT ht h y y w0
 rw [he,h2] at h1
 injection h1 with h1
 exact (V3 (Q9 h)).1 (h1▸(V3 (Q9 h)).2 rfl)
theorem Qii {κ ν:Type} {rk:RT κ} {s:RT ν} {ok:Ok} {w:World}:∀{xs:List (κ×ν)} {es:List MapEntry} {j:Nat} {e:MapEntry},Kn rk s ok w xs es→es[j]?=some e→∃x,xs[j]?=some x∧isV rk ok w x.1 e.key
 | [],es,j,e,h,he=>by
  have:es=[]:=h
  subst this; simp at he
 | x::xs,es,j,e,⟨e0,es',h0,h1,h2,h3⟩,he=>by
  subst h0
  cases j with
  | zero=>simp at he; subst he; exact ⟨x,rfl,h1⟩
  | succ j=>obtain ⟨y,q1,q2⟩:=Qii h3 (by simpa using he); exact ⟨y,by simpa using q1,q2⟩
theorem Qij {k v u:Ty} {e off:Nat} {f:v.De→List u.De} {ok:Ok} {w:World} {hole:Option k.De} {hv:Value}:∀{xs:List (k.De×v.De)} {es:List MapEntry} {vs:List Value} {j:Nat} {en:MapEntry},G5 (rt k) (rt v) (rt u) e off f hole hv ok w xs es vs→es[j]?=some en →
  ∃x,xs[j]?=some x∧isV (rt k) ok w x.1 en.key∧isV (rt v) ok w x.2 en.val∧(hole=some x.1→∃c,(Qh en.val)[off]?=some c∧zal c hv)
 | [],[],[],j,en,h,he=>by simp at he
 | x::xs,en::es,s::vs,j,en',⟨h1,h2,h3,h4⟩,he=>by
  cases j with
  | zero =>
   simp at he; subst he
   refine ⟨x,rfl,h1,h2,fun hh=>?_⟩
   rcases h3 with ⟨_,_,q⟩ | ⟨q,_⟩
   ·exact q
   ·exact absurd hh q
  | succ j=>obtain ⟨y,q1,q2⟩:=Qij h4 (by simpa using he); exact ⟨y,by simpa using q1,q2⟩
 | [],[],_::_,_,_,h,_=>h.elim
 | [],_::_,_,_,_,h,_=>h.elim
 | _::_,[],_,_,_,h,_=>h.elim
 | _::_,_::_,[],_,_,h,_=>h.elim
def Qik (cs:List Value) (o:Nat):Bool:=match cs[o]? with
 | some (.slice none 0 0)=>true
 | _=>false
theorem Qow {cs:List Value} {o:Nat} (h:Qik cs o=true):cs[o]?=some (.slice none 0 0):=by
 unfold Qik at h
 split at h
 ·assumption
 ·cases h
theorem Qkr (hT:Qy P Y.T) {t kt et:TypeId} {te tk tz:TE} (hte:Qe Y.T t=some te) (htd:te.d=.map kt et) (htk:Qe Y.T kt=some tk) (htz:Qe Y.T et=some tz) {k v u:Ty} (hd:Ys Y.T k tk.d=true)
  {β:Nat→Nat} {ρ:Nat→Value} {ok:Ok} {id h:Nat} {path:List PS} {e:TypeId} {xs:List (k.De×v.De)} {kh:k.De} (hp:(Qp β ρ id (.mapT k v path e u xs (some (kh,h)))).p ok w)
  {z0:v.De} (hzv:isV (rt v) ok w z0 tz.z) (hnil:Qik (Qh tz.z) (Jp path)=true) {av:AV} (hav:Be path (.d v ((Qx kh xs).getD z0)) (.s h)=some av) (hag:v.agg=av.isAgg) (c:Bool) :
  ∃cs,(Instr.lookup t (.map (some (β id))) (Ye k kh) c).run P w=.ok (if c=true then .tuple #[av.val cs,.bool (Qx kh xs).isSome] else av.val cs) w∧cr β ρ ok w false av cs:=by
 obtain ⟨f,hf,es,clock,hg,hq,hnd,hst,hdp,hvg,habs⟩:=hp
 obtain ⟨v0,hrun,hv0,hcase⟩:=Dm hT hte htd htk htz hd hg (Do hq) kh hzv c
 have hcell:∃c0,(Qh v0)[Jp path]?=some c0∧zal c0 (ρ h):=by
  rcases hcase with ⟨q1,rfl⟩ | ⟨j,en,q1,q2,rfl⟩
  ·have:ρ h=.slice none 0 0:=habs kh rfl (Sw (Q9 hd) q1)
   rw [this]; exact ⟨_,Qow hnil,.inl rfl⟩
  ·obtain ⟨x,r1,r2,r3,r4⟩:=Qij hq q1
   have r5:=Up (Q9 hd) r2
   rw [q2] at r5
   have r6:=Qih hT htk hd w r5
   exact r4 (by show some kh=_; rw [r6])
 obtain ⟨c0,hcell,hz0⟩:=hcell
 have hrep:=Ss hv0
 obtain ⟨s,s1,s2⟩:=On hf hrep
 rw [hcell] at s1; injection s1 with s1; subst s1
 have hsl:cr β ρ ok w false (.s h) [c0]:=⟨⟨_,rfl,hz0⟩,by
  rcases hz0 with rfl | ⟨h0,_⟩
  ·obtain ⟨A,n,c,h1,_⟩:=Uh.1 s2; exact ⟨A,n,c,h1⟩
  ·exact ⟨_,_,_,h0⟩⟩
 obtain ⟨p1,p2⟩:=Wa hsl hav (show cr β ρ ok w false (.d v ((Qx kh xs).getD z0)) (Qh v0) from hrep)
 have hlt:Jp path<(Qh v0).length:=(List.getElem?_eq_some_iff.1 hcell).1
 have hsame:(Qh v0).take (Jp path)++[c0]++(Qh v0).drop (Jp path+[c0].length)=Qh v0:=by
  have hget:(Qh v0)[Jp path]=c0:=(List.getElem?_eq_some_iff.1 hcell).2
  rw [←hget]
  simp
 rw [hsame] at p1
 refine ⟨Qh v0,?_,p1⟩
 have hval:av.val (Qh v0)=v0:=by
  obtain ⟨cs,h1,h2⟩:=He (β:=β) (ρ:=ρ) hv0
  have h3:=Z3 h1 rfl rfl
  rw [h2,h3]
  have:(AV.d v ((Qx kh xs).getD z0)).isAgg=av.isAgg:=hag
  simp only [AV.val,this]
 rw [hval]; exact hrun
end
end Gx

/- Operations that may fail, without a change of memory. -/
namespace Gx
open Go Go.RowKit Gd
set_option linter.unusedVariables false
set_option linter.unusedSimpArgs false
def Qam:Operand→Bool
 | .const _=>true
 | _=>false
def Qf3:BinOp→Operand→Nat
 | .quo,y=>bif Qam y then 0 else 1
 | .rem,y=>bif Qam y then 0 else 2
 | .shl,_=>3
 | .shr,_=>4
 | .add,_=>5
 | _,_=>0
def Dp:AV→Option Str
 | .d .str l=>some l
 | _=>none
def Qox (M:List (Nat×Ob)):AV→Option (Σ t:Ty,List t.De)
 | .d (.sl e) xs=>some ⟨e,xs⟩
 | .s id=>match Qb M id with
  | some (.tail _ t xs)=>some ⟨t,xs⟩
  | _=>none
 | _=>none
def bnd (S:St) (cur:Vr) (dflt:Int):Option Operand→Option Int
 | none=>some dflt
 | some x=>match ev S cur x with
  | some v=>match Za v with
   | some (_,n)=>some n
   | none=>none
  | none=>none
def chk (b:Bool):Option Unit:=bif b then some () else none
section
variable {R:Type} (Y:TX) (S:St) (cur:Vr)
def tot (op:Op) (k:AV→Option R):Option R:=match Im Y S cur op with
 | some av=>k av
 | none=>none
def Qks:Int→Option Nat
 | .ofNat n=>some n
 | .negSucc _=>none
theorem Qan {i:Int} {n:Nat} (h:Qks i=some n):i=(n:Int):=by
 cases i with
 | ofNat m=>simp only [Qks,Option.some.injEq] at h; subst h; rfl
 | negSucc m=>cases h
def Lj (op:Op) (k:AV→Option R):Option R :=
 match op with
 | .binOp b t x y yt=>match Qf3 b y with
  | 0=>tot Y S cur (.binOp b t x y yt) k
  | 5=>match ev S cur x,ev S cur y with
   | some u,some v=>match Dp u,Dp v with
    | some p,some q=>(Q88 p q).bind fun s=>k (.d .str s)
    | _,_=>tot Y S cur (.binOp b t x y yt) k
   | _,_=>none
  | n=>match ev S cur x,ev S cur y with
   | some u,some v=>match Za u,Za v with
    | some (kk,p),some (k2,q)=>match n with
     | 1=>bif Fn kk k2 then (Qog kk p q).bind fun z=>k (.d (.int kk) z) else none
     | 2=>bif Fn kk k2 then (Q4q p q).bind fun z=>k (.d (.int kk) z) else none
     | 3=>(Qta kk p q).bind fun z=>k (.d (.int kk) z)
     | 4=>(Q4r kk p q).bind fun z=>k (.d (.int kk) z)
     | _=>none
    | _,_=>none
   | _,_=>none
 | .indexAddr t x i=>match Qe Y.T t,ev S cur x,ev S cur i with
  | some te,some v,some iv=>match Za iv,Yi te.d with
   | some (_,j),some e=>match Qe Y.T e with
    | some ee=>match v with
     | .d (.sl u) xs=>bif Nat.beq ee.size u.size then (idx xs j).bind fun y=>k (.a u y) else none
     | .s id=>match Qb S.mem id with
      | some (.row _ u xs)=>bif Nat.beq ee.size u.size&&Nat.ble 1 u.size then (idx xs j).bind fun _=>k (.e id [.i j u.size]) else none
      | some (.tail _ u xs)=>bif Nat.beq ee.size u.size then (idx xs j).bind fun y=>k (.a u y) else none
      | _=>none
     | .w id j0 n=>match Qks j,Qks j0,Qks n with
      | some a,some a0,some nn=>bif Nat.beq ee.size 1&&Nat.blt a nn then k (.p id [.f (a0+a) (a0+a)]) else none
      | _,_,_=>none
     | _=>none
    | none=>none
   | _,_=>none
  | _,_,_=>none
 | .index t x i=>match Qe Y.T t,ev S cur x,ev S cur i with
  | some te,some v,some iv=>match Za iv,Dp v,te.d with
   | some (_,j),some l,.string=>(Qoe l j).bind fun c=>k (.d (.int .u8) c)
   | some (_,j),none,.array m e=>match v,Qe Y.T e with
    | .d (.arr m' u) xs,some ee=>bif Nat.beq m m'&&Nat.beq ee.size u.size&&(Uw ee.d==u.agg) then (idx xs j).bind fun y=>k (.d u y) else none
    | _,_=>none
   | _,_,_=>none
  | _,_,_=>none
 | .load t x=>match Qe Y.T t,ev S cur x with
  | some e,some (.e id (.i j sz::ps))=>match Qb S.mem id with
   | some (.row _ u xs)=>bif Nat.beq sz u.size&&Nat.ble 1 u.size then (idx xs j).bind fun y=>match nav ps (.d u y) with
     | some zv=>bif Nat.beq e.size zv.size&&(Uw e.d==zv.isAgg)&&zv.isVal&&(zv.isAgg||Nat.beq zv.size 1) then k zv else none
     | none=>none
    else none
   | _=>none
  | _,_=>tot Y S cur (.load t x) k
 | .slice t x lo hi none=>match Qe Y.T t,ev S cur x with
  | some te,some v=>match te.d with
   | .string=>match Dp v with
    | some l=>match bnd S cur 0 lo,bnd S cur l.length hi with
     | some a,some b=>(slc l a b).bind fun s=>k (.d .str s)
     | _,_=>none
    | none=>none
   | .slice e=>match Qe Y.T e,Qox S.mem v with
    | some ee,some ⟨u,xs⟩=>bif Nat.beq ee.size u.size then match bnd S cur 0 lo,bnd S cur xs.length hi with
      | some a,some b=>(slc xs a b).bind fun ys=>k (.d (.sl u) ys)
      | _,_=>none
     else none
    | _,_=>none
   | _=>none
  | _,_=>none
 | .slice t x lo (some hi) (some mx)=>match Qe Y.T t,ev S cur x,ev S cur hi,ev S cur mx with
  | some te,some v,some hv,some mv=>match Yi te.d,Za hv,Za mv with
   | some e,some (_,b),some (_,m)=>match Qe Y.T e,Qox S.mem v,bnd S cur 0 lo with
    | some ee,some ⟨u,xs⟩,some a=>bif Nat.beq ee.size u.size then (chk (decide (b≤m)&&decide (m≤(xs.length:Int)))).bind fun _=>(slc xs a b).bind fun ys=>k (.d (.sl u) ys) else none
    | _,_,_=>none
   | _,_,_=>none
  | _,_,_,_=>none
 | .convert s t x=>match Qe Y.T s,Qe Y.T t with
  | some se,some te=>match Yi se.d,te.d with
   | some e,.string=>match Qe Y.T e,ev S cur x with
    | some ⟨_,.int .u8,_,_,_⟩,some v=>match asD S.mem v (.sl (.int .u8)) with
     | some xs=>k (.d .str (R7 xs))
     | none=>none
    | _,_=>none
   | _,_=>tot Y S cur (.convert s t x) k
  | _,_=>none
 | .lookup t x ix c=>match ev S cur x with
  | some (.m id)=>match Qb S.mem id with
   | some (.mapT kk v path _ _ xs (some (kh,h)))=>match Qe Y.T t,ev S cur ix with
    | some te,some iv=>match te.d with
     | .map kt et=>match Qe Y.T kt,Qe Y.T et,asD [] iv kk with
      | some tk,some tz,some key=>match Xr v tz.z with
       | some za=>match asD [] za v with
        | some z0=>match Be path (.d v ((Qx kh xs).getD z0)) (.s h) with
         | some av=>bif Ys Y.T kk tk.d&&(kk.agg==iv.isAgg)&&(v.agg==By tz.z)&&Qik (Qh tz.z) (Jp path)&&(v.agg==av.isAgg) then
           (chk (eqK kk key kh)).bind fun _=>k (match c with
            | true=>.tp (.cons av (.cons (.d .bool (Qx kh xs).isSome) .nil))
            | false=>av) else none
         | none=>none
        | none=>none
       | none=>none
      | _,_,_=>none
     | _=>none
    | _,_=>none
   | _=>tot Y S cur (.lookup t x ix c) k
  | _=>tot Y S cur (.lookup t x ix c) k
 | op=>tot Y S cur op k
end
section
variable {P:Program} {X:Cx} {β:Nat→Nat} {ρ:Nat→Value} {S:St} {a:Act} {w:World} {cur:Vr} {ok:Ok}
theorem Qkt {x:AV} {l:Str} (h:Dp x=some l):x=.d .str l:=by
 unfold Dp at h
 split at h
 ·simp at h; subst h; rfl
 ·cases h
theorem Fs {b:BinOp} {y:Operand} {n:Nat} (h:Qf3 b y=n):n=0∨(n=1∧b=.quo)∨(n=2∧b=.rem)∨(n=3∧b=.shl)∨(n=4∧b=.shr)∨(n=5∧b=.add):=by
 subst h
 cases b<;>simp only [Qf3]<;>first | (simp; done) | (cases Qam y<;>simp)
theorem Xc.int (h:Xc β ρ ok S a w) (hc:Jw a cur) {x:Operand} {v:AV} {k:IntKind} {n:Int} (hx:Gx.ev S cur x=some v) (hi:Za v=some (k,n)):a.eval x=.int k n:=by
 have:=Gf hi
 subst this
 obtain ⟨cs,h1,h2⟩:=h.ev hc hx
 have h2':cs=_:=h2
 subst h2'
 exact h1
theorem Xc.str (h:Xc β ρ ok S a w) (hc:Jw a cur) {x:Operand} {v:AV} {l:Str} (hx:Gx.ev S cur x=some v) (hi:Dp v=some l):a.eval x=Yu l:=by
 have:=Qkt hi
 subst this
 obtain ⟨cs,h1,h2⟩:=h.ev hc hx
 have h2':cs=_:=h2
 subst h2'
 exact h1
theorem Nk (h:Xc β ρ ok S a w) (hc:Jw a cur) {x:Operand} {v:AV} {u:Ty} {xs:List u.De} (hx:ev S cur x=some v) (hi:Qox S.mem v=some ⟨u,xs⟩) :
  isV (rSl (rt u)) (ok) w xs (a.eval x):=by
 unfold Qox at hi
 obtain ⟨cs,h1,h2⟩:=h.ev hc hx
 split at hi
 ·simp at hi; obtain ⟨rfl,hi⟩:=hi
  obtain rfl:=eq_of_heq hi
  have:=Qkm h2
  rw [←h1] at this
  exact this
 ·rename_i id
  split at hi
  ·rename_i e t ys ho
   simp at hi; obtain ⟨rfl,hi⟩:=hi
   obtain rfl:=eq_of_heq hi
   obtain ⟨⟨v0,rfl,hz0⟩,_⟩:=h2
   have h1':a.eval x=v0:=h1
   rw [h1']
   exact Qal hz0 (h.mm _ _ ho).1
  ·cases hi
 ·cases hi
theorem Xc.bnd (h:Xc β ρ ok S a w) (hc:Jw a cur) {dflt n:Int} {x:Option Operand} (hb:Gx.bnd S cur dflt x=some n):(x=none∧n=dflt)∨∃y k,x=some y∧a.eval y=.int k n:=by
 unfold Gx.bnd at hb
 split at hb
 ·simp at hb; exact .inl ⟨rfl,hb.symm⟩
 ·rename_i y
  split at hb
  ·rename_i v hv
   split at hb
   ·rename_i k m hi
    simp at hb; subst hb
    exact .inr ⟨y,k,rfl,h.int hc hv hi⟩
   ·cases hb
  ·cases hb
theorem Mh {lo:Option Operand} {hi mx:Operand} {k1 k2:IntKind} {l h' m:Int} {len cap:Nat} (hlo:(lo=none∧l=0)∨∃y k,lo=some y∧a.eval y=.int k l) (hhi:a.eval hi=.int k1 h') (hmx:a.eval mx=.int k2 m)
  (h0:0≤l) (h1:l≤h') (h2:h'≤m) (h3:m≤cap) :
  (Instr.sliceBounds true len cap (lo.map a.eval) ((some hi).map a.eval) ((some mx).map a.eval)).run P w=.ok (l.toNat,h'.toNat,m.toNat) w:=by
 unfold Instr.sliceBounds
 have s1:∀{k:IntKind} {i:Int} {y:Nat} {code:BoundsCode},0≤i→i≤y→(Instr.sliceBound (.int k i) y code).run P w=.ok i.toNat w:=fun h0 h1=>A4 h0 h1
 rcases hlo with ⟨rfl,rfl⟩ | ⟨yl,kl,rfl,hl⟩
 ·simp only [Option.map_some,Option.map_none,hhi,hmx,Sem.run_bind,if_true]
  rw [s1 (by omega) h3]
  simp only [Result.andThen_ok]
  rw [s1 (by omega) (by omega)]
  simp
 ·simp only [Option.map_some,hhi,hmx,hl,Sem.run_bind,if_true]
  rw [s1 (by omega) h3]
  simp only [Result.andThen_ok]
  rw [s1 (by omega) (by omega)]
  simp only [Result.andThen_ok]
  rw [s1 h0 (by omega)]
  simp
theorem Er {isS:Bool} {lo hi:Option Operand} {l h':Int} {len cap:Nat} (hlo:(lo=none∧l=0)∨∃y k,lo=some y∧a.eval y=.int k l) (hhi:(hi=none∧h'=len)∨∃y k,hi=some y∧a.eval y=.int k h')
  (h0:0≤l) (h1:l≤h') (h2:h'≤len) (h3:len≤cap) :
  (Instr.sliceBounds isS len cap (lo.map a.eval) (hi.map a.eval) none).run P w=.ok (l.toNat,h'.toNat,cap) w:=by
 unfold Instr.sliceBounds
 have s1:∀{k:IntKind} {i:Int} {y:Nat} {code:BoundsCode},0≤i→i≤y→(Instr.sliceBound (.int k i) y code).run P w=.ok i.toNat w:=fun h0 h1=>A4 h0 h1
 rcases hhi with ⟨rfl,rfl⟩ | ⟨yh,kh,rfl,hh⟩
 ·rcases hlo with ⟨rfl,rfl⟩ | ⟨yl,kl,rfl,hl⟩
  ·simp
  ·simp only [Option.map_none,Option.map_some,hl,Sem.run_bind,Sem.run_pure,Result.andThen_ok]
   rw [s1 h0 (by omega)]
   simp
 ·have e1:∀c:BoundsCode,(Instr.sliceBound (.int kh h') cap c).run P w=.ok h'.toNat w:=fun c=>s1 (by omega) (by omega)
  rcases hlo with ⟨rfl,rfl⟩ | ⟨yl,kl,rfl,hl⟩
  ·simp only [Option.map_none,Option.map_some,hh,Sem.run_bind,Sem.run_pure,Result.andThen_ok,e1]
   simp
  ·simp only [Option.map_some,hh,hl,Sem.run_bind,Sem.run_pure,Result.andThen_ok,e1]
   rw [s1 h0 (by omega)]
   simp
theorem Qtp {Y:Tab} (hT:Qy P Y) {s t e:TypeId} {te ee se:TE} (ht:Qe Y t=some te) (htd:te.d=.string) (hse:Qe Y s=some se) (hsd:se.d=.slice e) (he:Qe Y e=some ee) (hed:ee.d=.int .u8)
  {xs:List Int} {v:Value} (hD:isV (rSl (E2 .u8)) ok w xs v):(convert s t v).run P w=.ok (Yu (R7 xs)) w:=by
 obtain ⟨A,m,c,rfl,hl,hc,hn⟩:=Uh.1 hD
 have hus:=(Js hT hse).2; rw [hsd] at hus
 have hut:=(Js hT ht).2; rw [htd] at hut
 have hue:=(Js hT he).2; rw [hed] at hue
 have hconv:=run_convert_bytes_string (P:=P) w s t e A m c hus hue hut
 have hrun:(Conv.bytesToString (.slice A m c)).run P w=.ok (Yu (R7 xs)) w:=by
  cases A with
  | none =>
   have hm0:m=0:=by
    rcases Nat.eq_zero_or_pos m with h0 | h0
    ·exact h0
    ·obtain ⟨b,o,hA,_⟩:=hn h0; cases hA
   have:xs=[]:=List.eq_nil_of_length_eq_zero (by omega)
   subst this
   simp [Conv.bytesToString,R7,Yu]; rfl
  | some ad =>
   have hload:(loadCells ad m).run P w=.ok (xs.map (Value.int .u8)).toArray w:=by
    have:=run_loadCells_list (P:=P) w ad (xs.map (Value.int .u8)) (fun j v hj=>by
     rw [List.getElem?_map] at hj
     obtain ⟨y,hy,rfl⟩:=Option.map_eq_some_iff.1 hj
     have hj':=(List.getElem?_eq_some_iff.1 hy).1
     obtain ⟨b,o,hA,hcs⟩:=hn (by omega)
     injection hA with hA
     subst hA
     obtain ⟨cs,hr,ha⟩:=hcs j y hy
     have hcs':cs=[.int .u8 y]:=hr
     subst hcs'
     have:=(ha 0 _ rfl).2
     rw [Xe]
     simpa [E2] using this)
    simpa [hl] using this
   rw [run_bytesToString w ad m c xs hload]
   have:=N5 xs []
   simp only [List.nil_append] at this
   show Result.ok (Value.string (xs.foldl _ (ByteArray.mk ([]:List UInt8).toArray))) w=_
   rw [this]; rfl
 simp [hconv,hrun]
def Mi (P:Program) (S:St) (cur:Vr) (o:Oper) (av:AV):Prop :=
 ∀{β:Nat→Nat} {ρ:Nat→Value} {ok:Ok} {a:Act} {w:World},Xc β ρ ok S a w→Jw a cur →
  ∃cs,(execOp a.eval o).run P w=.ok (.value (av.val cs)) w∧cr β ρ (ok) w false av cs
theorem Dq {Y:TX} (hT:Qy P Y.T) {R:Type} {o:Oper} {op:Op} (hop:o.op=op) {k:AV→Option R} {r:R} (hv:tot Y S cur op k=some r):∃av,k av=some r∧Mi P S cur o av:=by
 unfold tot at hv
 split at hv
 ·rename_i av hav
  exact ⟨av,hv,fun {β ρ ok a w} h hc=>Io hT h hc (by rw [hop]; exact hav)⟩
 ·cases hv
theorem Qku {Y:TX} (hT:Qy P Y.T) {R:Type} {o:Oper} {op:Op} (hop:o.op=op) {k:AV→Option R} {r:R} (hv:Lj Y S cur op k=some r):∃av,k av=some r∧Mi P S cur o av:=by
 unfold Lj at hv
 split at hv
 ·
  rename_i b t x y yt
  split at hv
  ·exact Dq hT hop hv
  ·rename_i hk
   split at hv
   ·rename_i u v hu hv'
    split at hv
    ·rename_i p q hp hq
     obtain ⟨s,hs,hk'⟩:=Yh hv
     refine ⟨_,hk',fun {β ρ ok a w} h hc=>⟨[Yu s],?_,rfl⟩⟩
     have h1:=h.str hc hu hp
     have h2:=h.str hc hv' hq
     have hb:b=.add:=by
      have:=Fs hk
      simpa using this
     subst hb
     unfold Q88 at hs
     split at hs
     ·rename_i hle
      have hq:=(Option.some.inj hs).symm
      subst hq
      have hr:(Op.stringOp .add (ByteArray.mk p.toArray) (ByteArray.mk q.toArray)).run P w=.ok (.string (ByteArray.mk (p++q).toArray)) w:=by
       rw [run_string_add_sum _ _ _ (by exact hle)]
       congr 2
      unfold execOp
      rw [hop]
      simp only [h1,h2,Yu]
      simp [eqGuard_add,binOp_string_add,hr,AV.val,AV.isAgg,Ty.agg,Yu]
     ·cases hs
    ·exact Dq hT hop hv
   ·cases hv
  ·rename_i n hn0 hn5
   split at hv
   ·rename_i u v hu hv'
    split at hv
    ·rename_i kk p k2 q hp hq
     have hb:b≠.eql∧b≠.neq:=by
      constructor<;>(rintro rfl; exact hn0 (by rfl))
     have fin:∀z,(∀w:World,(binOp b t (.int kk p) (.int k2 q)).run P w=.ok (.int kk z) w)→Mi P S cur o (.d (.int kk) z):=by
      intro z hz β ρ ok a w h hc
      have h1:=h.int hc hu hp
      have h2:=h.int hc hv' hq
      refine ⟨[.int kk z],?_,rfl⟩
      unfold execOp
      rw [hop]
      simp only [h1,h2]
      have hg:eqGuard b t x y (.int kk p) (.int k2 q)=pure ():=by
       unfold eqGuard
       cases b<;>simp_all
      simp [hg,hz,AV.val,AV.isAgg,Ty.agg]
     split at hv
     ·rename_i hk1
      obtain ⟨hs,hv2⟩:=bvT hv
      have:=Gb hs
      subst this
      obtain ⟨z,hz,hk'⟩:=Yh hv2
      have hb:b=.quo:=by
       have:=Fs hk1
       simpa using this
      subst hb
      exact ⟨_,hk',fin z fun w=>Qtb hz w⟩
     ·rename_i hk1
      obtain ⟨hs,hv2⟩:=bvT hv
      have:=Gb hs
      subst this
      obtain ⟨z,hz,hk'⟩:=Yh hv2
      have hb:b=.rem:=by
       have:=Fs hk1
       simpa using this
      subst hb
      exact ⟨_,hk',fin z fun w=>Qtc hz w⟩
     ·rename_i hk1
      obtain ⟨z,hz,hk'⟩:=Yh hv
      have hb:b=.shl:=by
       have:=Fs hk1
       simpa using this
      subst hb
      exact ⟨_,hk',fin z fun w=>Qte hz w⟩
     ·rename_i hk1
      obtain ⟨z,hz,hk'⟩:=Yh hv
      have hb:b=.shr:=by
       have:=Fs hk1
       simpa using this
      subst hb
      exact ⟨_,hk',fin z fun w=>Qtd hz w⟩
     ·cases hv
    ·cases hv
   ·cases hv
 ·
  rename_i t x i
  split at hv
  ·rename_i te v iv hte hx hi
   split at hv
   ·rename_i ki j e hij hse
    have htd:te.d=.slice e:=by
     unfold Yi at hse
     split at hse
     ·rename_i hd; simp at hse; subst hse; assumption
     ·cases hse
    split at hv
    ·rename_i ee he
     have run:∀{β:Nat→Nat} {ρ:Nat→Value} {ok:Ok} {a:Act} {w:World},Xc β ρ ok S a w→Jw a cur→∀{b of m c:Nat},a.eval x=.slice (some ⟨b,of,none⟩) m c→0≤j→j<(m:Int) →
       (execOp a.eval o).run P w=.ok (.value (.pointer (some ⟨b,of+j.toNat*ee.size,none⟩))) w:=by
      intro β ρ ok a w h hc b of m c hv h0 h1
      have hun:(underlying t).run P w=.ok (.slice e) w:=by rw [Ji hT w hte,htd]
      have hi':=h.int hc hi hij
      unfold execOp
      rw [hop]
      simp only [hv,hi']
      simp [Instr.indexAt,asIntOf,hun,h0,h1,Jy hT w he,Addr.add_lit]
     have data:∀{u:Ty} {xs:List u.De} {y:u.De},ee.size=u.size→idx xs j=some y→(∀{β:Nat→Nat} {ρ:Nat→Value} {ok:Ok} {a:Act} {w:World},Xc β ρ ok S a w→Jw a cur→isV (rSl (rt u)) (ok) w xs (a.eval x)) →
       Mi P S cur o (.a u y):=by
      intro u xs y hsz hy hsl β ρ ok a w h hc
      have h0:=(Km hy).1
      obtain ⟨A,c,hev,hsl'⟩:=E3 (hsl h hc)
      obtain ⟨b,of,rfl,hlt,hat⟩:=Qod (Uh.1 hsl') (Km hy).2
      refine ⟨[.pointer (some ⟨b,of+j.toNat*u.size,none⟩)],?_,_,rfl,by rw [←Jh]; exact hat⟩
      rw [←hsz]
      exact run h hc hev h0 (by omega)
     split at hv
     ·rename_i u xs
      obtain ⟨hb,hv⟩:=bvT hv
      obtain ⟨y,hy,hk'⟩:=Yh hv
      refine ⟨_,hk',data (Nat.eq_of_beq_eq_true hb) hy fun {β ρ ok a w} h hc=>Nk h hc hx rfl⟩
     ·rename_i id
      split at hv
      ·rename_i e' u xs ho
       obtain ⟨hb,hv⟩:=bvT hv
       simp only [Bool.and_eq_true] at hb
       obtain ⟨y,hy,hk'⟩:=Yh hv
       refine ⟨_,hk',fun {β ρ ok a w} h hc=>?_⟩
       obtain ⟨cs,h1,⟨v0,rfl,hz0⟩,A,m,c,hρ⟩:=h.ev hc hx
       have hml:=(h.mm _ _ ho)
       obtain ⟨hl,cs2,hown,hr⟩:=hml
       have hev:a.eval x=ρ id:=by
        rcases hz0 with rfl | ⟨h00,_⟩
        ·exact h1
        ·rw [h00] at hl
         have hlt:=(List.getElem?_eq_some_iff.1 (Km hy).2).1
         simp only [Uq] at hl
         omega
       rw [hρ] at hl hown hev
       simp only [Uq] at hl hown
       have h0:=(Km hy).1
       have hlt:=(List.getElem?_eq_some_iff.1 (Km hy).2).1
       rcases hown.2 with ⟨hv,hm⟩ | ⟨g,cap,cu,fz,hv,_⟩
       ·omega
       ·injection hv with e1 e2 e3
        subst e1
        refine ⟨[.pointer (some ⟨g,0+j.toNat*ee.size,none⟩)],run h hc hev h0 (by omega),g,by rw [hρ]; rfl,?_⟩
        have hsz:=Nat.eq_of_beq_eq_true hb.1
        simp [Jp,PS.off,hsz]
      ·rename_i e' u xs ho
       obtain ⟨hb,hv⟩:=bvT hv
       obtain ⟨y,hy,hk'⟩:=Yh hv
       refine ⟨_,hk',data (Nat.eq_of_beq_eq_true hb) hy fun {β ρ ok a w} h hc=>Nk h hc hx (by simp [Qox,ho])⟩
      ·cases hv
     ·rename_i id j0 nn0
      split at hv
      ·rename_i ia a0 nn hla hl0 hln
       obtain ⟨hb,hv⟩:=bvT hv
       simp only [Bool.and_eq_true] at hb
       have e1:=Qan hla; have e2:=Qan hl0; have e3:=Qan hln
       have hlt:=Nat.le_of_ble_eq_true hb.2
       refine ⟨_,hv,fun {β ρ ok a w} h hc=>?_⟩
       obtain ⟨cs,h1,A,c,rfl,hA⟩:=h.ev hc hx
       have hA':=hA (by rw [e3]; simp only [Int.toNat_natCast]; omega)
       subst hA'
       have hev:a.eval x=.slice (some ⟨β id,j0.toNat,none⟩) nn0.toNat c:=h1
       refine ⟨[.pointer (some ⟨β id,j0.toNat+j.toNat*ee.size,none⟩)],run h hc hev (by omega) (by rw [e1,e3]; simp only [Int.toNat_natCast]; omega),?_⟩
       have hs1:=Nat.eq_of_beq_eq_true hb.1
       show [_]=[_]
       rw [hs1,e1,e2]
       simp [Jp,PS.off]
      ·cases hv
     ·cases hv
    ·cases hv
   ·cases hv
  ·cases hv
 ·
  rename_i t x i
  split at hv
  ·rename_i te v iv hte hx hi
   split at hv
   ·rename_i ki j l hij hl hd
    obtain ⟨c,hc',hk'⟩:=Yh hv
    refine ⟨_,hk',fun {β ρ ok a w} h hc=>⟨[.int .u8 c],?_,rfl⟩⟩
    have h1:=h.str hc hx hl
    have h2:=h.int hc hi hij
    obtain ⟨h0,b,hb,rfl⟩:=Qs7 hc'
    have hun:(underlying t).run P w=.ok .string w:=by rw [Ji hT w hte,hd]
    have hbb:(if 0≤j then (ByteArray.mk l.toArray)[j.toNat]? else none)=some b:=by
     rw [if_pos h0]
     have hlen:j.toNat<l.length:=(List.getElem?_eq_some_iff.1 hb).1
     have h1:j.toNat<(ByteArray.mk l.toArray).size:=hlen
     rw [getElem?_pos (ByteArray.mk l.toArray) j.toNat h1]
     have:=(List.getElem?_eq_some_iff.1 hb).2
     rw [←this]
     rfl
    unfold execOp
    rw [hop]
    simp only [h1,h2]
    simp only [Instr.index,asIntOf,Sem.run_bind,Sem.run_pure,Result.andThen_ok,hun,Yu,hbb]
    rfl
   ·rename_i ki j m e hij _ hd
    split at hv
    ·rename_i m' u xs ee he _
     obtain ⟨hb,hv⟩:=bvT hv
     obtain ⟨y,hy,hk'⟩:=Yh hv
     simp only [Bool.and_eq_true] at hb
     have e1:=Nat.eq_of_beq_eq_true hb.1.1
     subst e1
     have hsz:=Nat.eq_of_beq_eq_true hb.1.2
     have hag:=bEq hb.2
     refine ⟨_,hk',fun {β ρ ok a w} h hc=>?_⟩
     have h2:=h.int hc hi hij
     obtain ⟨c1,h1,hl,hr⟩:=h.ev hc hx
     have h1':a.eval x=.agg c1.toArray:=h1
     have hr:Zz (rt u) ok w xs c1:=hr
     obtain ⟨h0,hyj⟩:=Km hy
     have hrep:=X7 hr hyj
     rw [Jh] at hrep
     have hlt:j.toNat<xs.length:=(List.getElem?_eq_some_iff.1 hyj).1
     refine ⟨(c1.drop (j.toNat*u.size)).take u.size,?_,hrep⟩
     have hpart:(part e c1.toArray (j.toNat*ee.size)).run P w=.ok ((AV.d u y).val ((c1.drop (j.toNat*u.size)).take u.size)) w:=by
      refine D9 hT w he c1 _ ?_
      rw [hag,hsz]
      simp only [AV.val,AV.isAgg]
      cases hua:u.agg with
      | true=>simp
      | false =>
       have h1s:=Qom hua
       have hcl:=(rt u).len hrep
       rw [Jh,h1s] at hcl
       rw [h1s]
       simp only [Bool.false_eq_true,if_false,cond_false]
       cases hq:c1[j.toNat*1]? with
       | none =>
        have:=List.getElem?_eq_none_iff.1 hq
        simp only [List.length_take,List.length_drop] at hcl
        omega
       | some q =>
        have hlt2:=(List.getElem?_eq_some_iff.1 hq).1
        rw [List.drop_eq_getElem_cons hlt2,(List.getElem?_eq_some_iff.1 hq).2]
        simp
     have hun:(underlying t).run P w=.ok (.array m e) w:=by rw [Ji hT w hte,hd]
     have hso:(Go.sizeOf e).run P w=.ok ee.size w:=Jy hT w he
     have hcond:0≤j∧j<(m:Int):=⟨h0,by omega⟩
     unfold execOp
     rw [hop]
     simp only [h1',h2]
     simp only [Instr.index,asIntOf,Sem.run_bind,Sem.run_pure,Result.andThen_ok,hun]
     rw [if_pos hcond]
     simp only [Sem.run_bind,hso,Result.andThen_ok,hpart]
    ·cases hv
   ·cases hv
  ·cases hv
 ·
  rename_i t x
  split at hv
  ·rename_i e id j sz ps he hx
   split at hv
   ·rename_i e' u xs ho
    obtain ⟨hb,hv⟩:=bvT hv
    simp only [Bool.and_eq_true] at hb
    obtain ⟨y,hy,hv⟩:=Yh hv
    split at hv
    ·rename_i z0 hz
     obtain ⟨hb2,hk'⟩:=bvT hv
     simp only [Bool.and_eq_true] at hb2
     obtain ⟨⟨⟨b1,b2⟩,b3⟩,b4⟩:=hb2
     have b1:=Nat.eq_of_beq_eq_true b1
     have b2:=bEq b2
     refine ⟨_,hk',fun {β ρ ok a w} h hc=>?_⟩
     obtain ⟨cs,h1,g',hg',rfl⟩:=h.ev hc hx
     obtain ⟨hl,cs2,hown,hr⟩:=h.2 _ _ ho
     have h0:=(Km hy).1
     have hlt:=(List.getElem?_eq_some_iff.1 (Km hy).2).1
     rcases hown.2 with ⟨hv,hm⟩ | ⟨g,cap,cu,fz,hv,_,hh,hfz,hle,hcm,hcs,htk⟩
     ·rw [hv] at hl; simp only [Uq] at hl; omega
     ·have hgg:g'=g:=by rw [hv] at hg'; simp [Value.ownBlock] at hg'; omega
      subst hgg
      have hsz:=Nat.eq_of_beq_eq_true hb.1
      have hrs:=Jh u
      have hrep:=X7 hr (Km hy).2
      rw [hrs] at hrep
      obtain ⟨h3,h4⟩:=Bw (β:=β) (ρ:=ρ) (x:=.d u y) hz hrep
      have hlen:=Ur h3
      refine ⟨_,?_,h3⟩
      have h1':a.eval x=.pointer (some ⟨g',Jp (PS.i j sz::ps),none⟩):=h1
      have hL:((cs2.drop (j.toNat*u.size)).take u.size).length=u.size:=Ur (x:=.d u y) (show cr β ρ _ w false (.d u y) _ from hrep)
      unfold execOp
      rw [hop]
      simp only [h1',Sem.run_bind]
      rw [Wb hT he (y:=z0) (cs:=(List.drop (Jp ps) (List.take u.size (List.drop (j.toNat*u.size) cs2))).take z0.size) (by rw [hlen]; exact b1) b2 (fun ha=>by
       rw [ha] at b4
       rw [hlen]; exact Nat.eq_of_beq_eq_true (by simpa using b4)) (fun q v hq=>by
        have hjl:q<z0.size:=by
         have:=(List.getElem?_eq_some_iff.1 hq).1
         omega
        rw [List.getElem?_take_of_lt hjl,List.getElem?_drop] at hq
        have hq2:Jp ps+q<u.size:=by omega
        rw [List.getElem?_take_of_lt hq2,List.getElem?_drop,←htk,List.getElem?_take] at hq
        split at hq
        ·have e:Jp (PS.i j sz::ps)+q=j.toNat*u.size+(Jp ps+q):=by simp only [Jp,PS.off,hsz]; omega
         rw [e]
         simp only [World.cell?,hh]
         simpa using hq
        ·cases hq)]
      rfl
    ·cases hv
   ·cases hv
  ·exact Dq hT hop hv
 ·
  rename_i t x lo hi
  split at hv
  ·rename_i te v hte hx
   split at hv
   ·rename_i hd
    split at hv
    ·rename_i l hl
     split at hv
     ·rename_i p q hp hq
      obtain ⟨s,hs,hk'⟩:=Yh hv
      refine ⟨_,hk',fun {β ρ ok a w} h hc=>⟨[Yu s],?_,rfl⟩⟩
      have h1:=h.str hc hx hl
      obtain ⟨h0,h1',h2,hys,hyl⟩:=slc_ok hs
      have hun:(underlying t).run P w=.ok .string w:=by rw [Ji hT w hte,hd]
      have hb:=Er (P:=P) (w:=w) (isS:=false) (cap:=l.length) (len:=l.length) (h.bnd hc hp) (h.bnd hc hq) h0 h1' (by omega) (Nat.le_refl _)
      have hex:(ByteArray.mk l.toArray).extract p.toNat q.toNat=ByteArray.mk s.toArray:=by
       rw [ByteArray.extract_mk,hys]; congr 2; congr 1; omega
      unfold execOp
      rw [hop]
      simp only [h1]
      have hsz:(ByteArray.mk l.toArray).size=l.length:=rfl
      simp only [Instr.sliceAt,Sem.run_bind,hun,Result.andThen_ok,Instr.slice,Yu,Option.map_none,Option.isSome_none,Bool.false_eq_true,if_false,Sem.run_pure,hsz,hb,hex]
      rfl
     ·cases hv
    ·cases hv
   ·rename_i e hd
    split at hv
    ·rename_i ee u xs he hsl
     obtain ⟨hb0,hv⟩:=bvT hv
     have hsz:=Nat.eq_of_beq_eq_true hb0
     split at hv
     ·rename_i p q hp hq
      obtain ⟨ys,hys,hk'⟩:=Yh hv
      refine ⟨_,hk',fun {β ρ ok a w} h hc=>?_⟩
      have hD:=Nk h hc hx hsl
      obtain ⟨A,m,c,hv,hl,hcc,hn⟩:=Uh.1 hD
      obtain ⟨h0,h1,h2,hys',hyl⟩:=slc_ok hys
      have hun:(underlying t).run P w=.ok (.slice e) w:=by rw [Ji hT w hte,hd]
      have hb:=Er (P:=P) (w:=w) (isS:=true) (len:=m) (cap:=c) (h.bnd hc hp) (by rw [←hl]; exact h.bnd hc hq) h0 h1 (by omega) hcc
      refine ⟨[.slice (if c=p.toNat then A else A.map (·.add (p.toNat*u.size))) ys.length (c - p.toNat)],?_,?_⟩
      ·unfold execOp
       rw [hop]
       have hlen:q.toNat - p.toNat=ys.length:=by omega
       simp only [hv]
       simp [Instr.sliceAt,hun,Instr.slice,hb,Jy hT w he,hsz,hlen,AV.val,AV.isAgg,Ty.agg]
      ·refine ⟨_,rfl,⟨_,_,_,rfl,rfl,by omega,fun hpos=>?_⟩⟩
       obtain ⟨b,of,rfl,hx'⟩:=hn (by omega)
       have hne:¬ c=p.toNat:=by omega
       rw [if_neg hne]
       refine ⟨b,of+p.toNat*u.size,by simp [Addr.add_lit],fun i y hy=>?_⟩
       have hi:i<(q - p).toNat:=by have:=(List.getElem?_eq_some_iff.1 hy).1; omega
       rw [hys',List.getElem?_take_of_lt hi,List.getElem?_drop] at hy
       obtain ⟨cs,hr,ha⟩:=hx' _ y hy
       refine ⟨cs,hr,?_⟩
       rw [Jh] at ha ⊢
       have e4:of+(p.toNat+i)*u.size=of+p.toNat*u.size+i*u.size:=by rw [Nat.add_mul]; omega
       rw [←e4]
       exact ha
     ·cases hv
    ·cases hv
   ·cases hv
  ·cases hv
 ·
  rename_i t x lo hi mx
  split at hv
  ·rename_i te v hiv mv hte hx hhi hmx
   split at hv
   ·rename_i e k1 b k2 mm hd hib him
    split at hv
    ·rename_i ee u xs p he hsl hp
     obtain ⟨hb0,hv⟩:=bvT hv
     have hsz:=Nat.eq_of_beq_eq_true hb0
     obtain ⟨_,hck,hv⟩:=Yh hv
     obtain ⟨hck,_⟩:=bvT hck
     simp only [Bool.and_eq_true,decide_eq_true_eq] at hck
     obtain ⟨ys,hys,hk'⟩:=Yh hv
     refine ⟨_,hk',fun {β ρ ok a w} h hc=>?_⟩
     have hD:=Nk h hc hx hsl
     obtain ⟨A,m,c,hv,hl,hcc,hn⟩:=Uh.1 hD
     obtain ⟨h0,h1,h2,hys',hyl⟩:=slc_ok hys
     have hsd:te.d=.slice e:=by
      cases hsd:te.d<;>rw [hsd] at hd<;>simp [Yi] at hd
      subst hd; rfl
     have hun:(underlying t).run P w=.ok (.slice e) w:=by rw [Ji hT w hte,hsd]
     have hb:=Mh (P:=P) (w:=w) (len:=m) (cap:=c) (h.bnd hc hp) (h.int hc hhi hib) (h.int hc hmx him) h0 h1 hck.1 (by omega)
     refine ⟨[.slice (if mm.toNat=p.toNat then A else A.map (·.add (p.toNat*u.size))) ys.length (mm.toNat - p.toNat)],?_,?_⟩
     ·unfold execOp
      rw [hop]
      have hlen:b.toNat - p.toNat=ys.length:=by omega
      simp only [hv]
      simp only [Option.map_some] at hb
      simp [Instr.sliceAt,hun,Instr.slice,hb,Jy hT w he,hsz,hlen,AV.val,AV.isAgg,Ty.agg]
     ·refine ⟨_,rfl,⟨_,_,_,rfl,rfl,by omega,fun hpos=>?_⟩⟩
      obtain ⟨bb,of,rfl,hx'⟩:=hn (by omega)
      have hne:¬ mm.toNat=p.toNat:=by omega
      rw [if_neg hne]
      refine ⟨bb,of+p.toNat*u.size,by simp [Addr.add_lit],fun i y hy=>?_⟩
      have hi:i<(b - p).toNat:=by have:=(List.getElem?_eq_some_iff.1 hy).1; omega
      rw [hys',List.getElem?_take_of_lt hi,List.getElem?_drop] at hy
      obtain ⟨cs,hr,ha⟩:=hx' _ y hy
      refine ⟨cs,hr,?_⟩
      rw [Jh] at ha ⊢
      have e4:of+(p.toNat+i)*u.size=of+p.toNat*u.size+i*u.size:=by rw [Nat.add_mul]; omega
      rw [←e4]
      exact ha
    ·cases hv
   ·cases hv
  ·cases hv
 ·
  rename_i s t x
  split at hv
  ·rename_i se te hse hte
   split at hv
   ·rename_i e hd hd2
    have hsd:se.d=.slice e:=by
     cases hsd:se.d<;>rw [hsd] at hd<;>simp [Yi] at hd
     subst hd; rfl
    split at hv
    ·rename_i _ z0 _ _ v he hx
     split at hv
     ·rename_i xs hxs
      refine ⟨_,hv,fun {β ρ ok a w} h hc=>⟨[Yu (R7 xs)],?_,rfl⟩⟩
      have hag:(Ty.sl (.int .u8)).agg=v.isAgg:=by
       cases v with
       | d t' y'=>obtain ⟨rfl,_⟩:=Ty.cast_ok (by simpa only [asD] using hxs); rfl
       | ag l=>simp [asD] at hxs
       | _=>rfl
      have hD:=h.asD hc hx hxs hag
      have:=Qtp hT hte hd2 hse hsd he rfl hD
      unfold execOp
      rw [hop]
      simp only [Sem.run_bind,this]
      rfl
     ·cases hv
    ·cases hv
   ·exact Dq hT hop hv
  ·cases hv
 ·
  rename_i t x ix c
  split at hv
  ·rename_i id hx
   split at hv
   ·rename_i kk v path e u xs kh h0 hmo
    split at hv
    ·rename_i te iv hte hix
     split at hv
     ·rename_i kt et htd
      split at hv
      ·rename_i tk tz key htk htz hkey
       split at hv
       ·rename_i za hza
        split at hv
        ·rename_i z0 hz
         split at hv
         ·rename_i av hav
          obtain ⟨hb,hv⟩:=bvT hv
          simp only [Bool.and_eq_true] at hb
          obtain ⟨⟨⟨⟨b1,b2⟩,b3⟩,b4⟩,b5⟩:=hb
          obtain ⟨_,hch,hv⟩:=Yh hv
          have hkk:key=kh:=by
           unfold chk at hch
           exact (V3 (Q9 b1)).1 (bvT hch).1
          subst hkk
          refine ⟨_,hv,fun {β ρ ok a w} h hc=>?_⟩
          obtain ⟨c1,h1,h2⟩:=h.ev hc hx
          have h2':c1=[.map (some (β id))]:=h2
          subst h2'
          have h1':a.eval x=.map (some (β id)):=h1
          obtain ⟨c3,h3,h4⟩:=h.ev hc hix
          have hkr:isV (rt kk) ok w key (a.eval ix):=by
           refine ⟨c3,V8 (M:=[]) (β:=β) (ρ:=ρ) (by simp [Qb]) hkey h4,?_⟩
           rw [h3]; simp only [AV.val,RT.val,Xn,bEq b2]; cases iv.isAgg<;>rfl
          have hzv:isV (rt v) ok w z0 tz.z:=⟨Qh tz.z,V8 (M:=[]) (β:=β) (ρ:=ρ) (by simp [Qb]) hz (K2 hza),(Cm (bEq b3)).symm⟩
          obtain ⟨cs,hrun,hcr⟩:=Qkr hT hte htd htk htz b1 (h.mm _ _ hmo) hzv b4 hav (bEq b5) c
          rw [←Up (Q9 b1) hkr] at hrun
          unfold execOp
          rw [hop]
          cases c with
          | true =>
           refine ⟨[.tuple #[av.val cs,.bool (Qx key xs).isSome]],?_,[av.val cs,.bool (Qx key xs).isSome],rfl,cs,[.bool (Qx key xs).isSome],rfl,hcr,[.bool (Qx key xs).isSome],[],rfl,rfl,rfl⟩
           simp only [h1']
           simp only [if_true] at hrun
           simp [hrun,AV.val,AV.isAgg]
          | false =>
           refine ⟨cs,?_,hcr⟩
           simp only [h1']
           simp only [Bool.false_eq_true,if_false] at hrun
           simp [hrun]
         ·cases hv
        ·cases hv
       ·cases hv
      ·cases hv
     ·cases hv
    ·cases hv
   ·exact Dq hT hop hv
  ·exact Dq hT hop hv
 ·exact Dq hT hop hv
end
section
variable {X:Cx} {β:Nat→Nat} {ρ:Nat→Value} {S:St} {a:Act} {w:World} {cur:Vr}
theorem Rel.int (h:Rel X β ρ S a w) (hc:Jw a cur) {x:Operand} {v:AV} {k:IntKind} {n:Int} (hx:Gx.ev S cur x=some v) (hi:Za v=some (k,n)):a.eval x=.int k n:=h.toW.int hc hx hi
theorem Rel.mm (h:Rel X β ρ S a w):∀id o,Qb S.mem id=some o→(Qp β ρ id o).p (okR X β ρ S.mem w) w:=fun _ _ ho=>(h.ob ho).1
theorem Rel.asD (h:Rel X β ρ S a w) (hc:Jw a cur) {x:Operand} {v:AV} {t:Ty} {y:t.De} (hx:Gx.ev S cur x=some v) (hd:Gx.asD S.mem v t=some y) (ht:t.agg=v.isAgg) :
  isV (rt t) (okR X β ρ S.mem w) w y (a.eval x):=h.toW.asD hc hx hd ht
end
end Gx
