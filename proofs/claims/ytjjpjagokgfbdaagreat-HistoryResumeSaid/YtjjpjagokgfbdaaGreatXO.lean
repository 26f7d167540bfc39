/- Calls. -/
import Derived.Test.YtjjpjagokgfbdaaGreatXN
import Derived.StillTail
namespace Gx
open Go Go.RowKit Gd
set_option linter.unusedVariables false
set_option linter.unusedSimpArgs false
def Q1d(c:Con)(β:Nat→Nat)(ρ:Nat→Value)(ok:Ok)(L:List Nat)(w:World)(x:c.Γ.De)(y:Qb5 c.Δ)(v:Value)(w':World):Prop :=
 ∃(β':Nat→Nat) (ρ':Nat→Value),agP (c.Γ.mem.map Prod.fst) β β' ρ ρ' ∧
  (∃cs,v=(Rv (Qcq c.Δ y).env).val cs∧cr β' ρ' (Jf (okL L ok) w.heap.size (fun _=>0) [] (Qg β' ρ' ((Qcq c.Δ y).mem++roM c x)) w') w' false (Rv (Qcq c.Δ y).env) cs) ∧
  (∀t∈Qg β' ρ' ((Qcq c.Δ y).mem++roM c x),t.p (Jf (okL L ok) w.heap.size (fun _=>0) [] (Qg β' ρ' ((Qcq c.Δ y).mem++roM c x)) w') w'∧∀g,t.blks g→w.heap.size≤g∨g∈L) ∧
  (Qg β' ρ' ((Qcq c.Δ y).mem++roM c x)).Pairwise fun s t=>∀g,s.blks g→¬ t.blks g
def Vs(gl:List (Nat×Σ t:Ty,t.De))(ok:Ok)(w:World):Prop :=
 ∀q∈gl,Qpf (rt q.2.1) ok w q.2.2 (.pointer (some ⟨q.1,0,none⟩))∧ok q.1 0∧∃cs t fz,w.heap[q.1]?=some (.cells cs t fz)∧cs.size=q.2.1.size
theorem Vs.keep{gl:List (Nat×Σ t:Ty,t.De)}{ok:Ok}{w w':World}(h:Vs gl ok w)(hs:w.heap.size≤w'.heap.size)(hb:∀b o,ok b o→w'.heap[b]?=w.heap[b]?):Vs gl ok w' :=
 fun q hq=>let⟨h1,h2,h3⟩:=h q hq; ⟨h1.evo (Evo.of_blocks hs hb),h2,by rw[hb _ _ h2]; exact h3⟩
theorem Vs.weak{gl:List (Nat×Σ t:Ty,t.De)}{ok ok':Ok}{w:World}(h:Vs gl ok w)(hk:∀b o,ok b o→ok' b o):Vs gl ok' w:=fun q hq=>let⟨h1,h2,h3⟩:=h q hq; ⟨h1.weak hk,hk _ _ h2,h3⟩
def okN(X:Cx):Ok:=fun b o=>X.ok b o∧b∉X.lent∧b<X.w.heap.size
theorem Lt{gl:List (Nat×Σ t:Ty,t.De)}{X:Cx}{β:Nat→Nat}{G:GL}{D:List DF}{O:List TL}{a:Act}{w:World}(h:Sb β X G D [] O a w)(hG:Vs gl (okN X) X.w):Vs gl (Jf X.ok X.w.heap.size β [] O w) w:=by
 refine(hG.keep h.bel.size fun b o hk=>h.bel.block b hk.2.2 hk.2.1).weak fun b o hk=>⟨.inl hk.1,JU hk.2.2 h.bel.size,by simp,fun t ht hc=>?_⟩
 rcases(h.own t ht).2 b (t.cb hc)with h1 | h1
 ·have:=hk.2.2; omega
 ·exact hk.2.1 h1
def Qfy(P:Program)(gl:List (Nat×Σ t:Ty,t.De))(c:Con):Prop :=
 ∀(ok:Ok) (w:World) (L:List Nat) (β:Nat→Nat) (ρ:Nat→Value) (x:c.Γ.De) (y:Qb5 c.Δ) (vs:List Value),(∀b o,ok b o→b<w.heap.size)→Vs gl ok w→vs.length=c.Γ.env.length→Ql2 (Qg β ρ (enc c.Γ x).mem) L ok w →
  (∀e∈(enc c.Γ x).env,∃cs,vs[e.t]?=some (e.av.val cs)∧cr β ρ ok w false e.av cs)→c.fn x=some y→Calls P c.f ⟨vs⟩ w (Qws L w (Q1d c β ρ ok L w x y))
section
variable {β β':Nat→Nat} {ρ ρ':Nat→Value} {ok:Ok} {w:World}
theorem T0{g:Nat→Nat}:∀{m:Bool} {x:AV} {cs:List Value},(∀i∈Jb x,β' (g i)=β i∧ρ' (g i)=ρ i)→cr β ρ ok w m x cs→cr β' ρ' ok w m (K2 g x) cs
 | m,.d t x,cs,_,h=>by cases m<;>exact h
 | m,.p id path,cs,hn,h=>by
  have:=(hn id (.head _)).1
  cases m<;>(simp only[cr,K2]at h ⊢; rw[this]; exact h)
 | m,.e id path,cs,hn,h=>by
  have:=(hn id (.head _)).2
  cases m<;>(simp only[cr,K2]at h ⊢; rw[this]; exact h)
 | m,.s id,cs,hn,h=>by
  have:=(hn id (.head _)).2
  cases m<;>(simp only[cr,K2]at h ⊢; rw[this]; exact h)
 | m,.m id,cs,hn,h=>by
  have:=(hn id (.head _)).1
  cases m<;>(simp only[cr,K2]at h ⊢; rw[this]; exact h)
 | m,.b id,cs,hn,h=>by
  have:=(hn id (.head _)).1
  cases m<;>(simp only[cr,K2]at h ⊢; rw[this]; exact h)
 | m,.w id _ _,cs,hn,h=>by
  have:=(hn id (.head _)).1
  cases m<;>(simp only[cr,K2]at h ⊢; rw[this]; exact h)
 | m,.a t x,cs,_,h=>by cases m<;>exact h
 | m,.z,cs,_,h=>by cases m<;>exact h
 | m,.ns,cs,_,h=>by cases m<;>exact h
 | m,.np,cs,_,h=>by cases m<;>exact h
 | m,.nm,cs,_,h=>by cases m<;>exact h
 | m,.nf,cs,_,h=>by cases m<;>exact h
 | m,.f fn caps,cs,hn,h=>by cases m<;>exact let⟨vs,h1,h2⟩:=h; ⟨vs,h1,T0 (fun i hi=>hn i (by simpa[Jb]using hi)) h2⟩
 | m,.ag l,cs,hn,h=>by cases m<;>exact T0 (m:=false) (x:=l) (fun i hi=>hn i (by simpa[Jb]using hi)) h
 | m,.tp l,cs,hn,h=>by cases m<;>exact let⟨vs,h1,h2⟩:=h; ⟨vs,h1,T0 (fun i hi=>hn i (by simpa[Jb]using hi)) h2⟩
 | m,.nil,cs,_,h=>by cases m<;>exact h
 | true,.cons x r,cs,hn,h=>by
  obtain⟨c1,vs,h1,h2,h3⟩:=h
  refine⟨c1,vs,?_,T0 (fun i hi=>hn i (by simp[Jb,hi])) h2,T0 (fun i hi=>hn i (by simp[Jb,hi])) h3⟩
  rw[h1]; cases x<;>rfl
 | false,.cons x r,cs,hn,h=>by
  exact let⟨c1,vs,h1,h2,h3⟩:=h; ⟨c1,vs,h1,T0 (fun i hi=>hn i (by simp[Jb,hi])) h2,T0 (fun i hi=>hn i (by simp[Jb,hi])) h3⟩
theorem Jk1(g:Nat→Nat)(x:AV)(cs:List Value):(K2 g x).val cs=x.val cs:=by cases x<;>rfl
theorem Qxn{g:Nat→Nat}:∀{l:List (Nat×Ob)},(∀i∈Jc l,β' (g i)=β i∧ρ' (g i)=ρ i)→Xc (Qg β ρ l) (Qg β' ρ' (Km g l))
 | [],_=>.nil
 | (id,o)::l,h=>by
  have h1:=h id (by
   cases o with
   | mapC k v xs hole=>cases hole<;>simp[Jc]
   | _=>simp[Jc])
  refine .cons ?_ (Qxn fun i hi=>h i (by
   cases o with
   | mapC k v xs hole=>cases hole<;>simp[Jc,hi]
   | _=>simp[Jc,hi]))
  cases o with
  | var t c =>
   refine⟨fun b=>by simp only[Qx,Ql6,Qig]; rw[h1.1],fun b o=>by simp only[Qx,Ql6,Qig]; rw[h1.1],fun ok w hp=>?_⟩
   obtain⟨cs,hh,hc⟩:=hp
   exact⟨cs,by rw[h1.1]; exact hh,T0 (fun i hi=>h i (by simp[Jc,hi])) hc⟩
  | row e t xs=>simp only[Qx,Qig,h1.2]; exact Wa.refl _
  | tail e t xs=>simp only[Qx,Qig,h1.2]; exact Wa.refl _
  | map k v xs=>simp only[Qx,Qig,h1.1]; exact Wa.refl _
  | mapC k v xs hole =>
   cases hole with
   | none=>simp only[Qx,Qig,h1.1,h1.2,Lz]; exact Wa.refl _
   | some q =>
    have h2:=h q.2 (by simp[Jc])
    cases v<;>(simp only[Qx,Qig,h1.1,h1.2,Lz,Q0b,h2.1,h2.2]; exact Wa.refl _)
  | mapE k v xs key j=>simp only[Qx,Qig,h1.1,(h j (by simp[Jc])).1]; exact Wa.refl _
theorem Qup{l:List (Nat×Ob)}(h:∀i∈Jc l,β' i=β i∧ρ' i=ρ i):Xc (Qg β ρ l) (Qg β' ρ' l):=by
 have:=Qxn (g:=id) (β':=β') (ρ':=ρ') h
 have e:Km id l=l:=by
  have iq:∀x:AV,K2 id x=x:=by intro x; induction x<;>simp_all [K2]
  have:∀q:Nat×Ob,(id q.1,Qig id q.2)=q:=by intro q; obtain⟨i,o⟩:=q; cases o with
   | mapC k v xs hole=>cases hole<;>simp[Qig]
   | _=>simp[Qig,iq]
  simp only[Km]
  rw[WV (g:=fun q=>q) (fun q _=>this q)]
  simp
 rw[e]at this
 exact this
end
theorem R2{c t:Nat}(k8:t≠c):∀M:List (Nat×Ob),Qe (Jv M t) c=Qe M c
 | []=>rfl
 | q::l=>by
  simp only[Jv,Qe]
  cases hb:Nat.beq q.1 t with
  | true =>
   have h1:=QJ hb
   cases hc:Nat.beq q.1 c with
   | true=>exact absurd (h1.symm.trans (QJ hc)) k8
   | false=>rfl
  | false =>
   simp only[cond_false,Qe,R2 k8 l]
theorem Zz:∀(ids:List Nat) (M:List (Nat×Ob)),((Jn M ids).2++(Jn M ids).1).Perm M
 | [],M=>by simp[Jn]
 | t::ts,M=>by
  simp only[Jn]
  split
  ·rename_i o ho
   obtain⟨l1,l2,h1,_,h3⟩:=Jj ho
   have:=Zz ts (Jv M t)
   simp only[QA]
   refine(List.Perm.cons _ this).trans ?_
   rw[h3,h1]
   exact XK.symm
  ·exact Zz ts M
theorem T1:∀{ids:List Nat} {M:List (Nat×Ob)} {c:Nat} {o:Ob},ids.Nodup→c∈ids→Qe M c=some o→(c,o)∈(Jn M ids).2
 | t::ts,M,c,o,hn,hc,ho=>by
  have wj:=JA.1 hn
  simp only[Jn]
  rcases QX.1 hc with rfl | hc
  ·rw[ho]; exact .head _
  ·have k8:t≠c:=fun e=>wj.1 (e▸hc)
   split
   ·exact .tail _ (T1 wj.2 hc (by rw[R2 k8]; exact ho))
   ·exact T1 wj.2 hc ho
theorem T2:∀{ids:List Nat} {M:List (Nat×Ob)},ids.Nodup→∀q∈(Jn M ids).2,q.1∈ids∧Qe M q.1=some q.2
 | [],M,_,q,hq=>by simp[Jn]at hq
 | t::ts,M,hn,q,hq=>by
  have wj:=JA.1 hn
  simp only[Jn]at hq
  split at hq
  ·rename_i o ho
   rcases QX.1 hq with rfl | hq
   ·exact⟨.head _,ho⟩
   ·obtain⟨h1,h2⟩:=T2 wj.2 q hq
    exact⟨.tail _ h1,by rw[R2 (fun e=>wj.1 (by rw[e]; exact h1))]at h2; exact h2⟩
  ·obtain⟨h1,h2⟩:=T2 wj.2 q hq
   exact⟨.tail _ h1,h2⟩
theorem Qkp:∀{Γe:List (Nat×Sk)} {l:List DV},∀e∈(Ic Γe l).1,e.cs=[]
 | [],l,e,he=>by simp[Ic]at he
 | (t,s)::g,l,e,he=>by
  simp only[Ic]at he
  rcases QX.1 he with rfl | he
  ·rfl
  ·exact Qkp e he
theorem N8{ri:List (Nat×Nat)}:∀{Γm:List (Nat×SkO)} {id c:Nat},id∈Γm.map Prod.fst→Jq ri id=some c→c∈J4 ri Γm
 | (k,s)::l,id,c,h,hc=>by
  simp only[J4]
  rcases QX.1 h with e | h
  ·simp only at e; subst e
   rw[hc]; exact .head _
  ·split
   ·exact .tail _ (N8 h hc)
   ·exact N8 h hc
theorem Fg{ri:List (Nat×Nat)}:∀{Γm:List (Nat×SkO)} {c:Nat},c∈J4 ri Γm→∃id∈Γm.map Prod.fst,Jq ri id=some c
 | (k,s)::l,c,h=>by
  simp only[J4]at h
  split at h
  ·rename_i x hx
   rcases QX.1 h with rfl | h
   ·exact⟨k,.head _,hx⟩
   ·obtain⟨id,h1,h2⟩:=Fg h; exact⟨id,.tail _ h1,h2⟩
  ·obtain⟨id,h1,h2⟩:=Fg h; exact⟨id,.tail _ h1,h2⟩
theorem C1{ri:List (Nat×Nat)}:∀{Γm:List (Nat×SkO)} {cs:List Nat},F0 ri Γm cs=true→(J4 ri Γm).Nodup∧∀c∈J4 ri Γm,c∉cs
 | [],_,_=>⟨.nil,by simp[J4]⟩
 | (id,s)::l,cs,h=>by
  simp only[F0]at h
  simp only[J4]
  split at h
  ·rename_i c hc
   simp only[QQ]at h
   obtain⟨h1,h2⟩:=C1 h.2
   refine⟨JA.2 ⟨fun hm=>h2 c hm (.head _),h1⟩,fun x hx=>?_⟩
   rcases QX.1 hx with rfl | hx
   ·intro hm
    have:=h.1
    rw[Zg.2 hm]at this
    cases this
   ·exact fun hm=>h2 x hx (.tail _ hm)
  ·exact C1 h
theorem Ty.cast_self(t:Ty)(x:t.De):Ty.cast t t x=some x:=by
 unfold Ty.cast
 rw[dif_pos (Ty.beq_refl t)]
theorem R3{M:List (Nat×Ob)}{ri:List (Nat×Nat)}{pr:List Nat}{g:Nat→Nat}(hg:∀i c,Jq ri i=some c→g i=c):∀{sk:Sk} {x:AV} {l:List DV} (rest:List DV),V3 M ri pr sk x=some l→∃y,L6 sk (l++rest)=(y,rest)∧(Qgl sk x=true→K2 g y=x)
 | .d t,x,l,rest,h=>by
  simp only[V3]at h
  split at h
  ·rename_i z0 hz
   obtain⟨_,h⟩:=bvT h
   simp only[Option.some.injEq]at h
   subst h
   refine⟨.d t z0,rfl,fun hs=>?_⟩
   cases x<;>first | (cases hs; done) | skip
   rename_i t' x'
   simp only[asD]at hz
   obtain⟨e,h2⟩:=Ty.cast_ok hz
   subst e; subst h2
   rfl
  ·cases h
 | .p id path,x,l,rest,h=>by
  cases x<;>simp only[V3]at h<;>first | (cases h; done) | skip
  rename_i c path'
  obtain⟨hb,h⟩:=bvT h
  simp only[QQ]at hb
  simp only[Option.some.injEq]at h
  subst h
  exact⟨.p id path,rfl,fun _=>by simp only[K2]; rw[hg _ _ (Qeq hb.1),Qkk hb.2]⟩
 | .s id,x,l,rest,h=>by
  cases x<;>simp only[V3]at h<;>first | (cases h; done) | skip
  ·rename_i c
   obtain⟨hb,h⟩:=bvT h
   simp only[QQ]at hb
   simp only[Option.some.injEq]at h
   subst h
   exact⟨.s id,rfl,fun _=>by simp only[K2]; rw[hg _ _ (Qeq hb.1)]⟩
  ·obtain⟨hb,h⟩:=bvT h
   simp only[Option.some.injEq]at h
   subst h
   exact⟨.s id,rfl,fun hs=>by cases hs⟩
 | .m id,x,l,rest,h=>by
  cases x<;>simp only[V3]at h<;>first | (cases h; done) | skip
  rename_i c
  obtain⟨hb,h⟩:=bvT h
  simp only[Option.some.injEq]at h
  subst h
  exact⟨.m id,rfl,fun _=>by simp only[K2]; rw[hg _ _ (Qeq hb)]⟩
 | .ns,x,l,rest,h=>by
  cases x<;>simp only[V3]at h<;>first | (cases h; done) | skip
  simp only[Option.some.injEq]at h; subst h; exact⟨_,rfl,fun _=>rfl⟩
 | .np,x,l,rest,h=>by
  cases x<;>simp only[V3]at h<;>first | (cases h; done) | skip
  simp only[Option.some.injEq]at h; subst h; exact⟨_,rfl,fun _=>rfl⟩
 | .nm,x,l,rest,h=>by
  cases x<;>simp only[V3]at h<;>first | (cases h; done) | skip
  simp only[Option.some.injEq]at h; subst h; exact⟨_,rfl,fun _=>rfl⟩
 | .nf,x,l,rest,h=>by
  cases x<;>simp only[V3]at h<;>first | (cases h; done) | skip
  simp only[Option.some.injEq]at h; subst h; exact⟨_,rfl,fun _=>rfl⟩
 | .z,x,l,rest,h=>by
  cases x<;>simp only[V3]at h<;>first | (cases h; done) | skip
  simp only[Option.some.injEq]at h; subst h; exact⟨_,rfl,fun _=>rfl⟩
 | .nil,x,l,rest,h=>by
  cases x<;>simp only[V3]at h<;>first | (cases h; done) | skip
  simp only[Option.some.injEq]at h; subst h; exact⟨_,rfl,fun _=>rfl⟩
 | .f fn c,x,l,rest,h=>by
  cases x<;>simp only[V3]at h<;>first | (cases h; done) | skip
  rename_i fn' x'
  obtain⟨hb,h⟩:=bvT h
  simp only[QQ]at hb
  obtain⟨y,h1,h2⟩:=R3 hg rest h
  refine⟨.f fn y,by simp only[L6,h1],fun hs=>?_⟩
  simp only[K2]
  rw[h2 hs,QJ hb.1]
 | .ag l',x,l,rest,h=>by
  simp only[V3]at h
  split at h
  ·rename_i y hy
   obtain⟨z0,h1,h2⟩:=R3 hg rest h
   refine⟨.ag z0,by simp only[L6,h1],fun hs=>?_⟩
   cases x<;>first | (cases hs; done) | skip
   simp only[Tv,Option.some.injEq]at hy
   subst hy
   simp only[K2]
   rw[h2 hs]
  ·cases h
 | .cons a b,x,l,rest,h=>by
  cases x<;>simp only[V3]at h<;>first | (cases h; done) | skip
  split at h
  ·rename_i u v hu hv
   simp only[Option.some.injEq]at h
   subst h
   obtain⟨y1,p1,p2⟩:=R3 hg (v++rest) hu
   obtain⟨y2,q1,q2⟩:=R3 hg rest hv
   refine⟨.cons y1 y2,by simp only[L6,QH,p1,q1],fun hs=>?_⟩
   simp only[Qgl,QQ]at hs
   simp only[K2]
   rw[p2 hs.1,q2 hs.2]
  ·cases h
theorem Jgk{M:List (Nat×Ob)}{ri:List (Nat×Nat)}{pr:List Nat}{g:Nat→Nat}(hg:∀i c,Jq ri i=some c→g i=c){s:SkO}{o:Option Ob}{l:List DV}(rest:List DV)(h:Ru M ri pr s o=some l):∃ob',Ib s (l++rest)=some (ob',rest)∧∀ob,o=some ob→Jmf s ob=true→Qig g ob'=ob:=by
 have cs:∀{t:Ty} {x:t.De},Ty.cast t t x=some x:=fun {t x}=>Ty.cast_self t x
 cases s with
 | var tid c =>
  cases o with
  | none=>cases h
  | some ob =>
   cases ob<;>simp only[Ru]at h<;>first | (cases h; done) | skip
   obtain⟨hb,h'⟩:=bvT h
   obtain⟨y,h1,h2⟩:=R3 hg rest h'
   refine⟨.var tid y,by simp only[Ib,h1],fun ob he hs=>?_⟩
   injection he with he; subst he
   simp only[Qig]
   rw[h2 hs,QJ hb]
 | row e t =>
  cases o with
  | none =>
   simp only[Ru,Option.some.injEq]at h
   subst h
   exact⟨.row e t [],by simp only[Ib,QA,QC,cs],fun ob he=>by cases he⟩
  | some ob =>
   cases ob<;>simp only[Ru]at h<;>first | (cases h; done) | skip
   rename_i e' t' xs
   obtain⟨hb,h'⟩:=bvT h
   simp only[QQ]at hb
   have e1:=QJ hb.1
   have e2:=Ty.beq_eq hb.2
   clear h hb
   subst e1; subst e2
   injection h' with h'
   subst h'
   refine⟨.row e t xs,by simp only[Ib,QA,QC,cs],fun ob he hs=>?_⟩
   injection he
 | tail e t =>
  cases o with
  | none =>
   simp only[Ru,Option.some.injEq]at h
   subst h
   exact⟨.tail e t [],by simp only[Ib,QA,QC,cs],fun ob he=>by cases he⟩
  | some ob =>
   cases ob<;>simp only[Ru]at h<;>first | (cases h; done) | skip
   rename_i e' t' xs
   obtain⟨hb,h'⟩:=bvT h
   simp only[QQ]at hb
   have e1:=QJ hb.1
   have e2:=Ty.beq_eq hb.2
   clear h hb
   subst e1; subst e2
   injection h' with h'
   subst h'
   refine⟨.tail e t xs,by simp only[Ib,QA,QC,cs],fun ob he hs=>?_⟩
   injection he
 | map k u =>
  cases o with
  | none=>cases h
  | some ob =>
   cases ob<;>simp only[Ru]at h<;>first | (cases h; done) | skip
   rename_i k' u' xs
   obtain⟨hb,h'⟩:=bvT h
   simp only[QQ]at hb
   have e1:=Ty.beq_eq hb.1
   have e2:=Ty.beq_eq hb.2
   clear h hb
   subst e1; subst e2
   injection h' with h'
   subst h'
   refine⟨.map k u xs,by simp only[Ib,QA,QC,cs],fun ob he hs=>?_⟩
   injection he
 | mapC k u =>
  cases o with
  | none=>cases h
  | some ob =>
   cases ob<;>simp only[Ru]at h<;>first | (cases h; done) | skip
   rename_i k' u' xs hole
   obtain⟨hb,h'⟩:=bvT h
   simp only[QQ]at hb
   have e1:=Ty.beq_eq hb.1.1
   have e2:=CK.beq_eq hb.1.2
   clear h
   subst e1; subst e2
   injection h' with h'
   subst h'
   exact⟨.mapC k u xs none,by simp only[Ib,QA,QC,cs],fun ob he hs=>by cases ob<;>cases hs⟩
theorem Q1e{ro:List Nat}{id:Nat}{s:SkO}{G:List (Nat×SkO)}:rdG ro ((id,s)::G)=bif Yb ro id then(id,s)::rdG ro G else rdG ro G:=by
 unfold rdG
 cases hm:Yb ro id<;>simp[XV,hm]
theorem Jgl{ro:List Nat}{id:Nat}{s:Ob}{G:List (Nat×Ob)}:rdM ro ((id,s)::G)=bif Yb ro id then(id,s)::rdM ro G else rdM ro G:=by
 unfold rdM
 cases hm:Yb ro id<;>simp[XV,hm]
theorem Quq{id:Nat}{ob:Ob}:Zx id (some ob)=some (id,ob):=rfl
theorem Qxo{M:List (Nat×Ob)}{ri:List (Nat×Nat)}{pr ro:List Nat}{g:Nat→Nat}(hg:∀i c,Jq ri i=some c→g i=c):∀{Γm:List (Nat×SkO)} {l:List DV},O6 M [] ri pr Γm=some l→Qt8 ri M (rdG ro Γm)=true →
  Km g (rdM ro (U3 Γm l))=(J4 ri (rdG ro Γm)).filterMap fun t=>Zx t (Qe M t)
 | [],l,h,hs=>by simp only[O6,Option.some.injEq]at h; subst h; rfl
 | (id,s)::G,l,h,hs=>by
  simp only[O6]at h
  split at h
  ·rename_i o ho
   split at h
   ·rename_i u v hu hv
    simp only[Option.some.injEq]at h
    subst h
    obtain⟨ob',h1,h2⟩:=Jgk hg v hu
    simp only[U3,h1]
    rw[Jgl,Q1e]
    rw[Q1e]at hs
    cases hm:Yb ro id with
    | false =>
     rw[hm]at hs
     exact Qxo hg hv hs
    | true =>
     rw[hm]at hs
     simp only[cond_true,Qt8,QQ]at hs ⊢
     obtain⟨ua,yw⟩:=hs
     split at ua
     ·rename_i c hc
      split at ua
      ·rename_i ob u0
       have wm:o=some ob:=by
        simp only[Q8e,hc,u0,Option.some.injEq]at ho
        exact ho.symm
       have ih:=Qxo hg hv yw
       unfold Km at ih
       simp only[Km,JW,J4,hc,XH,u0,Quq]
       rw[h2 ob wm ua,hg _ _ hc,ih]
      ·cases ua
     ·cases ua
   ·cases h
  ·cases h
theorem T3{c:Nat}:∀{ts:List Nat} {M:List (Nat×Ob)},c∉ts→Qe (Jn M ts).1 c=Qe M c
 | [],M,_=>rfl
 | t::ts,M,h=>by
  have h1:t≠c:=fun e=>h (e▸.head _)
  have h2:c∉ts:=fun hm=>h (.tail _ hm)
  simp only[Jn]
  split
  ·rw[T3 h2,R2 h1]
  ·exact T3 h2
theorem Jpj{α β:Type}{f g:α→Option β}:∀{l:List α},(∀x∈l,f x=g x)→l.filterMap f=l.filterMap g
 | [],_=>rfl
 | x::l,h=>by
  simp only[XH]
  rw[h x (.head _),Jpj fun y hy=>h y (.tail _ hy)]
theorem Pb:∀{ids:List Nat} {M:List (Nat×Ob)},ids.Nodup→(Jn M ids).2=ids.filterMap fun t=>Zx t (Qe M t)
 | [],M,_=>rfl
 | t::ts,M,hn=>by
  have wj:=JA.1 hn
  simp only[Jn]
  split
  ·rename_i o ho
   simp only[XH,ho,Quq]
   rw[Pb wj.2]
   refine congrArg _ (Jpj fun x hx=>?_)
   rw[R2 (c:=x) (t:=t) fun e=>wj.1 (by rw[e]; exact hx)]
  ·rename_i ho
   simp only[XH,ho,Zx]
   exact Pb wj.2
theorem Qcu{ri:List (Nat×Nat)}:∀{l:List (Nat×SkO)} {cs cs':List Nat},(∀x∈cs',x∈cs)→F0 ri l cs=true→F0 ri l cs'=true
 | [],cs,cs',_,_=>rfl
 | (id,s)::l,cs,cs',hc,h=>by
  simp only[F0]at h ⊢
  split at h
  ·rename_i c yg
   simp only[QQ]at h ⊢
   refine⟨?_,Qcu (fun x hx=>?_) h.2⟩
   ·cases hm:Yb cs' c with
    | false=>rfl
    | true =>
     have:=h.1
     rw[Zg.2 (hc c (Zg.1 hm))]at this
     cases this
   ·rcases QX.1 hx with rfl | hx
    ·exact .head _
    ·exact .tail _ (hc x hx)
  ·exact Qcu hc h
theorem X7{ri:List (Nat×Nat)}{p:Nat×SkO→Bool}:∀{l:List (Nat×SkO)} {cs:List Nat},F0 ri l cs=true→F0 ri (l.filter p) cs=true
 | [],cs,_=>rfl
 | (id,s)::l,cs,h=>by
  simp only[F0]at h
  cases hp:p (id,s)with
  | true =>
   rw[XV,if_pos hp]
   simp only[F0]
   split at h
   ·rename_i c yg
    simp only[QQ]at h ⊢
    exact⟨h.1,X7 h.2⟩
   ·exact X7 h
  | false =>
   rw[XV,if_neg (by rw[hp]; simp)]
   split at h
   ·simp only[QQ]at h
    exact X7 (Qcu (fun x hx=>.tail _ hx) h.2)
   ·exact X7 h
theorem Qqs:∀{l:List (Nat×Ob)} {i:Nat},i∈Jc l↔∃q∈l,i∈Jc [q]
 | [],i=>by simp[Jc]
 | q::l,i=>by
  have ih:=Qqs (l:=l) (i:=i)
  have h:Jc (q::l)=Jc [q]++Jc l:=by
   obtain⟨k,o⟩:=q
   cases o with
   | mapC k1 v xs hole=>cases hole<;>simp[Jc]
   | _=>simp[Jc]
  rw[h,QW,ih]
  constructor
  ·rintro(h | ⟨q',h1,h2⟩)
   ·exact⟨q,.head _,h⟩
   ·exact⟨q',.tail _ h1,h2⟩
  ·rintro⟨q',h1,h2⟩
   rcases QX.1 h1 with rfl | h1
   ·exact .inl h2
   ·exact .inr ⟨q',h1,h2⟩
theorem Jbv{l m:List (Nat×Ob)}(h:∀q∈l,q∈m){i:Nat}(hi:i∈Jc l):i∈Jc m:=let⟨q,h1,h2⟩:=Qqs.1 hi; Qqs.2 ⟨q,h q h1,h2⟩
theorem Jbw{l m:List Nat}(h:Gb l m=true){i:Nat}(hi:i∈m):i∈l:=by
 induction m with
 | nil=>cases hi
 | cons x m ih =>
  simp only[Gb,QQ]at h
  rcases QX.1 hi with rfl | hi
  ·exact Zg.1 h.1
  ·exact ih h.2 hi
theorem Jqy{M:List (Nat×Ob)}{c:Nat}(h:c∈Vb M):∃ob,Qe M c=some ob:=by
 induction M with
 | nil=>cases h
 | cons q l ih =>
  simp only[Qe]
  cases hb:Nat.beq q.1 c with
  | true=>exact⟨_,rfl⟩
  | false =>
   simp only[cond_false]
   refine ih ?_
   rcases QX.1 h with e | h
   ·rw[e,JY]at hb; cases hb
   ·exact h
theorem Qqt{l m:List (Nat×Ob)}{c:Nat}(h:Qe l c=none):Qe (l++m) c=Qe m c:=by
 induction l with
 | nil=>rfl
 | cons q l ih =>
  simp only[Qe,QA]at h ⊢
  cases hb:Nat.beq q.1 c with
  | true=>rw[hb]at h; cases h
  | false=>rw[hb]at h; exact ih h
theorem Qip{ks:List Nat}:∀{M:List (Nat×Ob)},Vb (Y4 ks M)=Vb M
 | []=>rfl
 | (id,o)::l=>by
  cases o<;>simp only[Y4,Vb,JW]<;>rw[show(Y4 ks l).map Prod.fst=l.map Prod.fst from Qip]
  cases(Yb ks id&&Nat.ble 1 _)<;>rfl
theorem Qur{ri:List (Nat×Nat)}{M:List (Nat×Ob)}:∀{l:List (Nat×SkO)},Qt8 ri M l=true→∀id∈l.map Prod.fst,∃cc,Jq ri id=some cc
 | (i,s)::l,h,id,hid=>by
  simp only[Qt8,QQ]at h
  rcases QX.1 hid with e | hid
  ·simp only at e; subst e
   cases hc:Jq ri id with
   | none=>rw[hc]at h; cases h.1
   | some cc=>exact⟨cc,rfl⟩
  ·exact Qur h.2 id hid
def Qxp(β:Nat→Nat)(ρ:Nat→Value):Nat×Ob→List Nat
 | (id,.var _ _)=>[β id]
 | (id,.map _ _ _)=>[β id]
 | (id,.mapC _ _ _ _)=>β id::(Tq (ρ id)).flatMap fun v=>(Ke v).toList
 | (id,.mapE _ _ _ _ _)=>[β id]
 | (id,_)=>Jo0 (ρ id)
theorem Q1f{β:Nat→Nat}{ρ:Nat→Value}{q:Nat×Ob}{g:Nat}:g∈Qxp β ρ q↔(Qx β ρ q.1 q.2).blks g:=by
 obtain⟨id,o⟩:=q
 cases o with
 | var t c=>simp[Qxp,Qx,Ql6]
 | row e t xs=>simp only[Qxp,Qz7,Qx,ml]
 | tail e t xs=>simp only[Qxp,Qz7,Qx,Qck]
 | map k v xs=>simp[Qxp,Qx,Ro]
 | mapC k v xs hole=>simp only[Qxp,Qx,Jfe,QX,List.mem_flatMap,Option.mem_toList,Option.mem_def]
 | mapE k9 v9 xs9 key j=>simp[Qxp,Qx,Jff]
def Qov:Ob→Bool
 | .tail _ _ _=>true
 | _=>false
theorem Q1g{β:Nat→Nat}{ρ:Nat→Value}{id:Nat}{o:Ob}(h:Qov o=false){b:Nat}(f:Nat)(hb:(Qx β ρ id o).blks b):(Qx β ρ id o).cov b f:=by
 cases o with
 | tail e t xs=>cases h
 | var t c=>exact hb
 | row e t xs=>exact hb
 | map k v xs=>exact hb
 | mapC k v xs hole=>exact hb
 | mapE k9 v9 xs9 key j=>exact hb
theorem Qmg{M F:List (Nat×Ob)}{ri:List (Nat×Nat)}{pr:List Nat}:∀{Γm:List (Nat×SkO)} {l:List DV},Qkj Γm=true→O6 M F ri pr Γm=some l→∀q∈Γm,∀c ob,Jq ri q.1=some c→Qe M c=some ob→Qov ob=false
 | (id,s)::g,l,hn,h,q,hq,c,ob,hc,u0=>by
  simp only[O6]at h
  split at h
  ·rename_i o ho
   split at h
   ·rename_i u v hu hv
    have wj:Qkj g=true:=by cases s<;>simp_all [Qkj]
    rcases QX.1 hq with rfl | hq
    ·simp only[Q8e,hc,u0]at ho
     simp at ho; subst ho
     cases s<;>cases ob<;>simp_all [Ru,Qkj,Qov]
    ·exact Qmg wj hv q hq c ob hc u0
   ·cases h
  ·cases h
section
variable {P:Program} {Y:TX} {X:Cx} {S:XS} {β β':Nat→Nat} {ρ ρ':Nat→Value} {a a':Act} {w w':World} {n:Nat}
variable {ops:Array Oper} {Q:Exit→Act→World→Prop} {rest:List Oper} {R:Type} {k:XS→Option R} {r:R}
theorem Q8q(h:Rel X β ρ S.flat a w):∀{xs:List Operand} {i:Nat} {es:List En} (pre:List Value),pre.length=i→Q0t S xs i=some es →
  es.length=xs.length∧∀e∈es,(enD β ρ ⟨(pre++xs.map a.eval).toArray,[]⟩ e).p (okR X β ρ S.flat.mem w) w
 | [],i,es,pre,_,he=>by simp[Q0t]at he; subst he; exact⟨rfl,by simp⟩
 | x::xs,i,es,pre,hi,he=>by
  simp only[Q0t]at he
  split at he
  ·rename_i v r hv hr
   obtain⟨vp,he⟩:=bvT he
   simp at he; subst he
   obtain⟨cs,h1,h2⟩:=h.ev (Qc a) hv
   obtain⟨h3,h4⟩:=Q8q h (xs:=xs) (i:=i+1) (pre++[a.eval x]) (by simp[hi]) hr
   refine⟨by simp[h3],fun e hm=>?_⟩
   have hl:pre++[a.eval x]++xs.map a.eval=pre++(x::xs).map a.eval:=by simp
   rw[hl]at h4
   rcases QX.1 hm with rfl | hm
   ·refine⟨fun _=>⟨cs,?_,h2⟩,.inl (Qc _)⟩
    rw[L0 vp]
    simp only[ZK]
    rw[JE (by omega),←hi]
    simp[h1]
   ·exact h4 e hm
  ·cases he
theorem Q8r{S:XS}:∀{xs:List Operand} {i:Nat} {es:List En},Q0t S xs i=some es→∀e∈es,e.cs=[]
 | [],i,es,he=>by simp[Q0t]at he; subst he; simp
 | x::xs,i,es,he=>by
  simp only[Q0t]at he
  split at he
  ·rename_i v r hv hr
   obtain⟨_,he⟩:=bvT he
   simp at he; subst he
   intro e hm
   rcases QX.1 hm with rfl | hm
   ·rfl
   ·exact Q8r hr e hm
  ·cases he
theorem Q8s{ok:Ok}{w:World}:∀{x:AV} {i:Nat} {cs:List En} {vs:List Value} (pre:List Value),pre.length=i→Jfu x i=some cs→cr β ρ ok w true x vs →
  cs.length=vs.length∧(∀e∈cs,e.cs=[])∧∀e∈cs,(enD β ρ ⟨(pre++vs).toArray,[]⟩ e).p ok w
 | .nil,i,cs,vs,pre,_,he,h=>by
  simp[Jfu]at he; subst he
  have:vs=[]:=h
  subst this
  exact⟨rfl,by simp,by simp⟩
 | .cons y r,i,cs,vs,pre,hi,he,h=>by
  simp only[Jfu]at he
  split at he
  ·rename_i l hl
   obtain⟨vp,he⟩:=bvT he
   simp at he; subst he
   obtain⟨c1,vs',rfl,h1,h2⟩:=h
   obtain⟨h3,h4,h5⟩:=Q8s (pre++[y.val c1]) (by simp[hi]) hl h2
   refine⟨by simp[h3],fun e hm=>?_,fun e hm=>?_⟩
   ·rcases QX.1 hm with rfl | hm
    ·rfl
    ·exact h4 e hm
   ·rcases QX.1 hm with rfl | hm
    ·refine⟨fun _=>⟨c1,?_,h1⟩,.inl (Qc _)⟩
     rw[L0 vp]
     simp only[ZK]
     rw[JE (by omega),←hi]
     simp
    ·have:=h5 e hm
     rwa[show pre++[y.val c1]++vs'=pre++y.val c1::vs' by simp]at this
  ·cases he
theorem Jpk{ok:Ok}{w:World}{l post:List Value}{e:En}(hc:e.cs=[])(h:(enD β ρ ⟨l.toArray,[]⟩ e).p ok w):(enD β ρ ⟨(l++post).toArray,[]⟩ e).p ok w:=by
 obtain⟨cs,h1,h2⟩:=h.1 (by rw[hc]; exact Qc _)
 refine⟨fun _=>⟨cs,?_,h2⟩,.inl (by rw[hc]; exact Qc _)⟩
 unfold rd at h1 ⊢
 cases hb:Nat.blt e.t 100000 with
 | false=>rw[hb]at h1; exact h1
 | true =>
  rw[hb]at h1
  simp only[cond_true,ZK]at h1 ⊢
  have hlt:=(QK.1 h1).1
  rw[JF hlt]; exact h1
theorem Q1h{ri:List (Nat×Nat)}{d:Nat}{Γk:List Nat}{S:XS}{M:List (Nat×Ob)}:∀{l:List Nat},Q8g ri d Γk S M l=true→∀j∈l,(∃c,Jq ri j=some c∧Jo ri d j=c∧j∈Γk) ∨
  (Jq ri j=none∧Jt (Jo ri d j) M=true∧Jt (Jo ri d j) S.fixM=true∧Qcr (Jo ri d j) S.fix=true∧Qcr (Jo ri d j) S.env=true∧Yb S.prot (Jo ri d j)=false∧j∉Γk)
 | i::l,h,j,hj=>by
  simp only[Q8g,QQ]at h
  rcases QX.1 hj with rfl | hj
  ·have h1:=h.1
   cases hl:Jq ri j with
   | some c =>
    rw[hl]at h1
    simp only[Ea,cond_true]at h1
    exact .inl ⟨c,rfl,by simp only[Jo,hl],Zg.1 h1⟩
   | none =>
    rw[hl]at h1
    simp only[Ea,cond_false,QQ]at h1
    obtain⟨⟨⟨⟨⟨a1,a2⟩,a3⟩,a4⟩,a5⟩,a6⟩:=h1
    refine .inr ⟨rfl,a1,a2,a3,a4,by simpa using a5,fun hm=>?_⟩
    rw[Zg.2 hm]at a6; cases a6
  ·exact Q1h h.2 j hj
theorem Fh{ks:List Nat}:∀{l:List Nat},Gb ks l=true→∀i∈l,i∈ks
 | x::l,h,i,hi=>by
  simp only[Gb,QQ]at h
  rcases QX.1 hi with rfl | hi
  ·exact Zg.1 h.1
  ·exact Fh h.2 i hi
theorem R4:∀{l:List Nat},L7 l=true→l.Nodup
 | [],_=>.nil
 | x::l,h=>by
  simp only[L7,QQ]at h
  refine JA.2 ⟨fun hm=>?_,R4 h.2⟩
  have:=h.1
  rw[Zg.2 hm]at this; cases this
def backB(g:Nat→Nat)(ks:List Nat)(β2 β:Nat→Nat):Nat→Nat:=fun i=>match ks.find? fun j=>g j==i with
 | some j=>β2 j
 | none=>β i
def Ma(g:Nat→Nat)(ks:List Nat)(ρ2 ρ:Nat→Value):Nat→Value:=fun i=>match ks.find? fun j=>g j==i with
 | some j=>ρ2 j
 | none=>ρ i
theorem Q1i{g:Nat→Nat}:∀{ks:List Nat},(ks.map g).Nodup→∀j∈ks,(ks.find? fun i=>g i==g j)=some j
 | x::l,hn,j,hj=>by
  have wj:=JA.1 (by simpa using hn:(g x::l.map g).Nodup)
  rcases QX.1 hj with rfl | hj
  ·simp
  ·have k8:g x≠g j:=fun e=>wj.1 (by rw[e]; exact QY.2 ⟨j,hj,rfl⟩)
   have:(g x==g j)=false:=by simpa using k8
   simp only[List.find?_cons,this]
   exact Q1i wj.2 j hj
theorem Q1j{l:List En}{e:En}(he:e∈l){i:Nat}(hi:i∈Jb e.av):i∈O7 l:=by
 induction l with
 | nil=>cases he
 | cons x l ih =>
  simp only[O7,QW]
  rcases QX.1 he with rfl | he
  ·exact .inl hi
  ·exact .inr (ih he)
theorem Mc{d:Nat}:∀{x:AV},Uw d x=true→d∉Jb x
 | .p id _,h=>by intro hm; have hm:d=id:=(by simpa[Jb]using hm); subst hm; simp[Uw,JY]at h
 | .e id _,h=>by intro hm; have hm:d=id:=(by simpa[Jb]using hm); subst hm; simp[Uw,JY]at h
 | .s id,h=>by intro hm; have hm:d=id:=(by simpa[Jb]using hm); subst hm; simp[Uw,JY]at h
 | .m id,h=>by intro hm; have hm:d=id:=(by simpa[Jb]using hm); subst hm; simp[Uw,JY]at h
 | .b id,h=>by intro hm; have hm:d=id:=(by simpa[Jb]using hm); subst hm; simp[Uw,JY]at h
 | .w id _ _,h=>by intro hm; have hm:d=id:=(by simpa[Jb]using hm); subst hm; simp[Uw,JY]at h
 | .f _ c,h=>by simp only[Uw]at h; simpa[Jb]using Mc h
 | .ag l,h=>by simp only[Uw]at h; simpa[Jb]using Mc h
 | .tp l,h=>by simp only[Uw]at h; simpa[Jb]using Mc h
 | .cons x r,h=>by
  simp only[Uw,QQ]at h
  simp only[Jb,QW,not_or]
  exact⟨Mc h.1,Mc h.2⟩
 | .d _ _,_=>by simp[Jb]
 | .a _ _,_=>by simp[Jb]
 | .z,_=>by simp[Jb]
 | .ns,_=>by simp[Jb]
 | .np,_=>by simp[Jb]
 | .nm,_=>by simp[Jb]
 | .nf,_=>by simp[Jb]
 | .nil,_=>by simp[Jb]
theorem Qgr{d:Nat}:∀{M:List (Nat×Ob)},Jt d M=true→d∉Jc M
 | [],_=>by simp[Jc]
 | (k,o)::l,h=>by
  have hq:=X6 h (k,o) (.head _)
  have hl:Jt d l=true:=by
   cases o with
   | mapC k1 v xs hole=>cases hole<;>simp only[Jt,QQ]at h<;>exact h.2
   | _=>simp only[Jt,QQ]at h; exact h.2
  have ih:=Qgr hl
  cases o with
  | var t c =>
   have:=Mc hq.2
   simp only[Jc,QX,QW,not_or]
   exact⟨fun e=>hq.1 e.symm,this,ih⟩
  | mapC k1 v xs hole =>
   cases hole with
   | none =>
    simp only[Jc,QX,not_or]
    exact⟨fun e=>hq.1 e.symm,ih⟩
   | some q =>
    simp only[Jc,QX,not_or]
    exact⟨fun e=>hq.1 e.symm,fun e=>hq.2 e.symm,ih⟩
  | mapE k1 v xs key j =>
   simp only[Jc,QX,not_or]
   exact⟨fun e=>hq.1 e.symm,fun e=>hq.2 e.symm,ih⟩
  | _ =>
   simp only[Jc,QX,not_or]
   exact⟨fun e=>hq.1 e.symm,ih⟩
theorem Q1k{β:Nat→Nat}{ρ:Nat→Value}{ok:Ok}{w:World}:∀{es:List En} {vs:List Value} {i:Nat},(∀(j:Nat) e,es[j]?=some e→∃cs,vs[j]?=some (e.av.val cs)∧cr β ρ ok w false e.av cs)→vs.length=es.length→cr β ρ ok w true (Qt9 es) vs
 | [],vs,i,_,hl=>JX (by simpa using hl)
 | e::es,[],i,_,hl=>by simp at hl
 | e::es,v::vs,i,h,hl=>by
  obtain⟨cs,h1,h2⟩:=h 0 e rfl
  have k5:v=e.av.val cs:=by simpa using h1
  exact⟨cs,vs,by rw[k5],h2,Q1k (i:=i) (fun j e' he=>by simpa using h (j+1) e' (by simpa using he)) (by simpa using hl)⟩
theorem Qqu:∀(es:List En),Jb (Qt9 es)=O7 es
 | []=>rfl
 | e::es=>by simp only[Qt9,Jb,O7,Qqu es]
theorem Jbx(es:List En):∀i∈Jb (Rv es),i∈O7 es:=by
 intro i hi
 unfold Rv at hi
 split at hi
 ·simpa[O7]using hi
 ·simpa[Jb,Qqu]using hi
theorem Qmh(hX:X.n=n)(hr:X.res=[])(h:Rel X β ρ S.flat a w){o:Oper}(hw:Region.wanted o (yielded ops a.tmps)=true){c:Con}(hc:Qfy P Y.gl c)(hG:Vs Y.gl (okN X) X.w)(ka:Runs P c.f)(hs:Zw n c o S k=some r)(H:KOk P ops Q rest X S β ρ k r) :
  wpList P ops Q (o::rest) a w:=by
 unfold Zw at hs
 split at hs
 ·rename_i x0 xs ts d kg hd
  split at hs
  ·rename_i f caps nt
   have hb:=(bvT hs).1
   replace hs:=(bvT hs).2
   simp only[QQ]at hb
   have hf:=QJ hb.1
   obtain⟨hd1,mw⟩:=Yy hb.2 hX hr
   split at hs
   ·rename_i es0 cs0 wu hcs0
    obtain⟨cf,hf1,vc,hf2,hf3⟩:=h.ev (Qc a) nt
    subst hf2
    replace hf1:a.eval x0=.func (.func f) #[] vc.toArray:=hf1
    obtain⟨el0,hE00⟩:=Q8q h [] rfl wu
    simp only[QC]at hE00
    obtain⟨el1,_,hE01⟩:=Q8s (xs.map a.eval) (by simp) hcs0 hf3
    have el:(es0++cs0).length=(xs.map a.eval++vc).length:=by simp[el0,el1]
    have hE0:∀e∈es0++cs0,(enD β ρ ⟨(xs.map a.eval++vc).toArray,[]⟩ e).p (okR X β ρ S.flat.mem w) w:=by
     intro e he
     rcases QW.1 he with he | he
     ·exact Jpk (Q8r wu e he) (hE00 e he)
     ·exact hE01 e he
    generalize es0++cs0=es at *
    generalize hri:Jme c.Γ ⟨es,S.mem++S.fixM⟩=ri at hs
    unfold Zw.callE at hs
    split at hs
    ·rename_i x hx
     have yd:=(bvT hs).1
     replace hs:=(bvT hs).2
     simp only[QQ]at yd
     obtain⟨⟨⟨hb2n,hb2l⟩,hb2m⟩,hb2s⟩:=yd
     have hlen:=QJ hb2l
     obtain⟨y,hy,hs⟩:=Yk hs
     rw[Qos]at hs
     unfold Zw.callR at hs
     have hb3:=(bvT hs).1
     replace hs:=(bvT hs).2
     simp only[QQ]at hb3
     obtain⟨⟨⟨n1,n2⟩,n3⟩,n4⟩:=hb3
     have h1:Rel X β ρ ⟨S.env++S.fix,frz c.Γ ri es S.mem++S.fixM⟩ a w:=by
      have:=Rel.freeze S.mem (l0:=[]) (F:=S.fixM) (ks:=Jfr es c.Γ.env++Qw8 S.mem ri c.Γ.mem) h
      simp only[QC]at this
      exact this
     have hM:∀id o,Qe ((frz c.Γ ri es S.mem++S.fixM)++[]) id=some o→(Qx β ρ id o).p (okR X β ρ (frz c.Γ ri es S.mem++S.fixM) w) w:=fun id o ho=>h1.mm id o (by rw[QR]at ho; exact ho)
     unfold Jkp at hx
     obtain⟨hbx,hx⟩:=bvT hx
     simp only[QQ]at hbx
     obtain⟨⟨⟨b1,b2⟩,b3⟩,b4⟩:=hbx
     split at hx
     ·rename_i u v hu hv
      have xn:=Qxg hx
      have hokk:∀b f,okR X β ρ S.flat.mem w b f→okR X β ρ (frz c.Γ ri es S.mem++S.fixM) w b f:=by
       rintro b f ⟨o1,o2,o3,o4⟩
       refine⟨o1,o2,o3,fun t' zb y7=>?_⟩
       obtain⟨q,hq,rfl⟩:=QY.1 zb
       have key:∀{l:List (Nat×Ob)} {ks:List Nat} {q:Nat×Ob},q∈Y4 ks l→∃o',(q.1,o')∈l∧∀b f,(Qx β ρ q.1 q.2).cov b f→(Qx β ρ q.1 o').cov b f:=by
        intro l
        induction l with
        | nil=>intro ks q hq; cases hq
        | cons p l ih =>
         intro ks q hq
         obtain⟨id,ob⟩:=p
         have other:q∈Y4 ks l→∃o',(q.1,o')∈(id,ob)::l∧∀b f,(Qx β ρ q.1 q.2).cov b f→(Qx β ρ q.1 o').cov b f:=fun hq=>let⟨o',p1,p2⟩:=ih hq; ⟨o',.tail _ p1,p2⟩
         cases ob with
         | row e t xs =>
          simp only[Y4]at hq
          rcases QX.1 hq with e' | hq
          ·cases ud:(Yb ks id&&Nat.ble 1 t.size)with
           | true =>
            rw[ud]at e'; subst e'
            exact⟨.row e t xs,.head _,fun b f y7=>y7.1⟩
           | false =>
            rw[ud]at e'; subst e'
            exact⟨.row e t xs,.head _,fun b f y7=>y7⟩
          ·exact other hq
         | var t' c' =>
          simp only[Y4]at hq
          rcases QX.1 hq with e' | hq
          ·subst e'; exact⟨_,.head _,fun b f y7=>y7⟩
          ·exact other hq
         | tail e t xs =>
          simp only[Y4]at hq
          rcases QX.1 hq with e' | hq
          ·subst e'; exact⟨_,.head _,fun b f y7=>y7⟩
          ·exact other hq
         | map k' v' xs =>
          simp only[Y4]at hq
          rcases QX.1 hq with e' | hq
          ·subst e'; exact⟨_,.head _,fun b f y7=>y7⟩
          ·exact other hq
         | mapE k' v' xs key j =>
          simp only[Y4]at hq
          rcases QX.1 hq with e' | hq
          ·subst e'; exact⟨_,.head _,fun b f y7=>y7⟩
          ·exact other hq
         | mapC k' v' xs hole =>
          simp only[Y4]at hq
          rcases QX.1 hq with e' | hq
          ·subst e'; exact⟨_,.head _,fun b f y7=>y7⟩
          ·exact other hq
       rcases QW.1 hq with hq | hq
       ·obtain⟨o',p1,p2⟩:=key hq
        exact o4 _ (QY.2 ⟨(q.1,o'),QZ _ p1,rfl⟩) (p2 b f y7)
       ·exact o4 _ (QY.2 ⟨q,QV _ hq,rfl⟩) y7
      obtain⟨es',e1,e2⟩:=Qkl hM (fun e he=>(enD β ρ _ e).weak (hE0 e he) hokk) v hu
      obtain⟨m1,m2⟩:=Qkm hM b3 hv
      have u3:enc c.Γ x=⟨es',U3 c.Γ.mem v⟩:=by unfold enc; rw[xn,e1]
      have ju:=Qmg hb2n hv
      obtain⟨ln1,_⟩:=C1 (X7 (p:=fun q=>!Yb c.ro q.1) b1)
      obtain⟨ln2,_⟩:=C1 (X7 (p:=fun q=>Yb c.ro q.1) b1)
      have hroS:=Qxo (g:=Jo ri d) (ro:=c.ro) (fun i cc yg=>by simp only[Jo,yg]) hv hb2s
      have hkM:∀cc∈Vb S.mem,∃ob,Qe (frz c.Γ ri es S.mem) cc=some ob:=fun cc yg=>Jqy (by unfold frz; rw[Qip]; exact yg)
      generalize hM0:frz c.Γ ri es S.mem=M0 at *
      have hwk:∀(p:Nat×SkO→Bool) id,id∈(c.Γ.mem.filter p).map Prod.fst→id∈c.Γ.mem.map Prod.fst:=fun p id hid=>by
       obtain⟨q,hq,rfl⟩:=QY.1 hid
       exact QY.2 ⟨q,(JJ.1 hq).1,rfl⟩
      have hdisj:∀cc∈J4 ri (rdG c.ro c.Γ.mem),cc∉J4 ri (wrG c.ro c.Γ.mem):=fun cc h1 h2=>by
       obtain⟨i1,p1,p2⟩:=Fg h1
       obtain⟨i2,r1,r2⟩:=Fg h2
       obtain⟨q1,s1,rfl⟩:=QY.1 p1
       obtain⟨q2,s2,rfl⟩:=QY.1 r1
       have t1:=(JJ.1 s1).2
       have t2:=(JJ.1 s2).2
       have k1:q1.1∈(U3 c.Γ.mem v).map Prod.fst:=by rw[m1]; exact QY.2 ⟨_,(JJ.1 s1).1,rfl⟩
       have k2:q2.1∈(U3 c.Γ.mem v).map Prod.fst:=by rw[m1]; exact QY.2 ⟨_,(JJ.1 s2).1,rfl⟩
       obtain⟨e1,f1,g1⟩:=QY.1 k1
       obtain⟨e2,f2,g2⟩:=QY.1 k2
       obtain⟨pw,_⟩:=R0 b1 m1
       have k8:q1.1≠q2.1:=fun e=>by rw[e]at t1; rw[t1]at t2; cases t2
       have key:∀{l:List (Nat×Ob)},(l.Pairwise fun q q'=>∀c c',Jq ri q.1=some c→Jq ri q'.1=some c'→c≠c')→e1∈l→e2∈l→False:=by
        intro l hl
        induction l with
        | nil=>intro h; cases h
        | cons z l ih =>
         have qn:=QG.1 hl
         intro h1 h2
         rcases QX.1 h1 with h1 | h1
         ·rcases QX.1 h2 with h2 | h2
          ·exact k8 (by rw[←g1,←g2,h1,h2])
          ·exact qn.1 e2 h2 cc cc (by rw[←h1,g1]; exact p2) (by rw[g2]; exact r2) rfl
         ·rcases QX.1 h2 with h2 | h2
          ·exact qn.1 e1 h1 cc cc (by rw[←h2,g2]; exact r2) (by rw[g1]; exact p2) rfl
          ·exact ih qn.2 h1 h2
       exact key pw f1 f2
      have eu:=Zz (J4 ri (wrG c.ro c.Γ.mem)) M0
      have sx:=Zz (J4 ri (rdG c.ro c.Γ.mem)) ((Jn M0 (J4 ri (wrG c.ro c.Γ.mem))).1++S.fixM)
      have fj:∀cc∈J4 ri (rdG c.ro c.Γ.mem),Qe ((Jn M0 (J4 ri (wrG c.ro c.Γ.mem))).1++S.fixM) cc=Qe (M0++S.fixM) cc:=fun cc yg=>by
       have e:=T3 (M:=M0) (hdisj cc yg)
       cases hl:Qe M0 cc with
       | none=>rw[Qqt hl,Qqt (e.trans hl)]
       | some ob=>rw[Q0 hl,Q0 (e.trans hl)]
      have hlkN:∀cc∈J4 ri (wrG c.ro c.Γ.mem),∀ob,Qe (M0++S.fixM) cc=some ob→Qe M0 cc=some ob:=fun cc yg ob u0=>by
       obtain⟨ob',hob'⟩:=hkM cc (Jbw hb2m yg)
       rw[Q0 hob']at u0
       rw[hob',u0]
      have hsR:=Pb (M:=(Jn M0 (J4 ri (wrG c.ro c.Γ.mem))).1++S.fixM) ln2
      have hroE:Km (Jo ri d) (rdM c.ro (U3 c.Γ.mem v))=(Jn ((Jn M0 (J4 ri (wrG c.ro c.Γ.mem))).1++S.fixM) (J4 ri (rdG c.ro c.Γ.mem))).2:=by
       refine hroS.trans ?_
       refine(Jpj fun x hx=>?_).trans hsR.symm
       rw[fj x hx]
      obtain⟨Ml,hMl0⟩:∃Ml,Ml=(Jn M0 (J4 ri (wrG c.ro c.Γ.mem))).2++(Jn ((Jn M0 (J4 ri (wrG c.ro c.Γ.mem))).1++S.fixM) (J4 ri (rdG c.ro c.Γ.mem))).2:=⟨_,rfl⟩
      have hF1:∀q∈Ml,∃id∈c.Γ.mem.map Prod.fst,Jq ri id=some q.1∧Qe (M0++S.fixM) q.1=some q.2:=fun q hq=>by
       rw[hMl0]at hq
       rcases QW.1 hq with hq | hq
       ·obtain⟨p1,p2⟩:=T2 ln1 q hq
        obtain⟨id,p3,p4⟩:=Fg p1
        exact⟨id,hwk _ id p3,p4,Q0 p2⟩
       ·obtain⟨p1,p2⟩:=T2 ln2 q hq
        obtain⟨id,p3,p4⟩:=Fg p1
        exact⟨id,hwk _ id p3,p4,by rw[←fj _ p1]; exact p2⟩
      have hMl:∀id∈c.Γ.mem.map Prod.fst,∀cc ob,Jq ri id=some cc→Qe (M0++S.fixM) cc=some ob→(cc,ob)∈Ml:=by
       intro id hid cc ob e3 e4
       rw[hMl0]
       obtain⟨q,hq,rfl⟩:=QY.1 hid
       cases hm:Yb c.ro q.1 with
       | true =>
        have vg:cc∈J4 ri (rdG c.ro c.Γ.mem):=N8 (QY.2 ⟨q,JJ.2 ⟨hq,hm⟩,rfl⟩) e3
        exact QV _ (T1 ln2 vg (by rw[fj _ vg]; exact e4))
       | false =>
        have vg:cc∈J4 ri (wrG c.ro c.Γ.mem):=N8 (QY.2 ⟨q,JJ.2 ⟨hq,by rw[hm]; rfl⟩,rfl⟩) e3
        exact QZ _ (T1 ln1 vg (hlkN _ vg _ e4))
      generalize hMn0:(Jn M0 (J4 ri (wrG c.ro c.Γ.mem))).2=Mn at *
      generalize hMr0:(Jn M0 (J4 ri (wrG c.ro c.Γ.mem))).1=Mr0 at *
      generalize hMo0:(Jn (Mr0++S.fixM) (J4 ri (rdG c.ro c.Γ.mem))).2=Mo at *
      generalize hMr1:(Jn (Mr0++S.fixM) (J4 ri (rdG c.ro c.Γ.mem))).1=Mr at *
      have xw:(Ml++Mr).Perm (M0++S.fixM):=by
       rw[hMl0,QH]
       refine(List.Perm.append_left Mn sx).trans ?_
       rw[←QH]
       exact eu.append_right _
      have h2:Sb (fun _=>0) X [] ((S.env++S.fix).map (enD β ρ a)) [] (Qg β ρ Ml++Qg β ρ Mr) a w:=by
       refine Sb.perm h1 ?_
       rw[←JK]
       exact List.Perm.map _ xw.symm
      have hok2:∀b f,okR X β ρ (M0++S.fixM) w b f→Jf X.ok X.w.heap.size (fun _=>0) [] (Qg β ρ Ml++Qg β ρ Mr) w b f:=by
       rintro b f ⟨o1,o2,o3,o4⟩
       refine⟨o1,o2,o3,fun t' zb=>?_⟩
       refine o4 t' ?_
       have sx:=xw.symm.map fun q=>Qx β ρ q.1 q.2
       exact sx.mem_iff.2 (by rw[JK]; exact zb)
      have nu:∀q∈U3 c.Γ.mem v,q.1∈c.Γ.mem.map Prod.fst:=by
       intro q hq
       rw[←m1]
       exact QY.2 ⟨q,hq,rfl⟩
      have ym:∀q∈U3 c.Γ.mem v,(∃cc ob,Jq ri q.1=some cc∧(cc,ob)∈Ml∧Qov ob=false∧(∀g,(Qx (Hz ri β) (Hp ri [] ρ) q.1 q.2).blks g→(Qx β ρ cc ob).blks g))∨(∀g,¬ (Qx (Hz ri β) (Hp ri [] ρ) q.1 q.2).blks g):=by
       intro q hq
       rcases m2 q hq with⟨cc,ob,e3,e4,e5,_⟩ | ⟨_,e5,_⟩
       ·have hid:=nu q hq
        obtain⟨q',wb,um⟩:=QY.1 hid
        exact .inl ⟨cc,ob,e3,hMl _ hid _ _ e3 e4,ju q' wb cc ob (by rw[um]; exact e3) e4,e5⟩
       ·exact .inr e5
      have hLm:∀g,g∈(U3 c.Γ.mem v).flatMap (Qxp (Hz ri β) (Hp ri [] ρ))↔∃q∈U3 c.Γ.mem v,(Qx (Hz ri β) (Hp ri [] ρ) q.1 q.2).blks g:=by
       intro g
       rw[List.mem_flatMap]
       exact⟨fun⟨q,hq,hg⟩=>⟨q,hq,Q1f.1 hg⟩,fun⟨q,hq,hg⟩=>⟨q,hq,Q1f.2 hg⟩⟩
      generalize hL:(U3 c.Γ.mem v).flatMap (Qxp (Hz ri β) (Hp ri [] ρ))=L at hLm
      have hLends:Ql2 (Qg (Hz ri β) (Hp ri [] ρ) (enc c.Γ x).mem) L (Jf X.ok X.w.heap.size (fun _=>0) [] (Qg β ρ Ml++Qg β ρ Mr) w) w:=by
       rw[u3]
       refine⟨fun t ht=>?_,?_,fun g hg=>?_⟩
       ·obtain⟨q,hq,rfl⟩:=QY.1 ht
        refine⟨?_,fun g hg=>(hLm g).2 ⟨q,hq,hg⟩,fun g f hg kj=>?_⟩
        ·rcases m2 q hq with⟨_,_,_,_,_,_,e6⟩ | ⟨_,_,e6⟩
         ·exact(Qx _ _ q.1 q.2).weak e6 hok2
         ·exact e6 _ _
        ·rcases ym q hq with⟨cc,ob,_,e4,e5,e6⟩ | e6
         ·exact kj.2.2.2 _ (QZ _ (QY.2 ⟨_,e4,rfl⟩)) (Q1g e5 f (e6 g hg))
         ·exact e6 g hg
       ·obtain⟨p1,_⟩:=R0 b1 m1
        show((U3 c.Γ.mem v).map _).Pairwise _
        rw[XO]
        refine List.Pairwise.imp_of_mem ?_ p1
        intro q q' hq wb k8 g hg yi
        rcases m2 q hq with⟨cc,ob,e3,e4,e5,_⟩ | ⟨_,e5,_⟩
        ·rcases m2 q' wb with⟨cc',ob',e3',e4',e5',_⟩ | ⟨_,e5',_⟩
         ·exact h1.disj e4 e4' (k8 cc cc' e3 e3') g (e5 g hg) (e5' g yi)
         ·exact e5' g yi
        ·exact e5 g hg
       ·obtain⟨q,hq,hg⟩:=(hLm g).1 hg
        exact⟨_,QY.2 ⟨q,hq,rfl⟩,hg⟩
      have zx:∀e∈(enc c.Γ x).env,∃cs,(xs.map a.eval++vc)[e.t]?=some (e.av.val cs)∧cr (Hz ri β) (Hp ri [] ρ) (Jf X.ok X.w.heap.size (fun _=>0) [] (Qg β ρ Ml++Qg β ρ Mr) w) w false e.av cs:=by
       intro e he
       rw[u3]at he
       have zr:e.cs=[]:=by
        have:=Qkp (Γe:=c.Γ.env) (l:=u++v) e (by rw[e1]; exact he)
        exact this
       obtain⟨cs,p1,p2⟩:=(e2 e he).1.1 (by rw[zr]; exact Qc _)
       rw[L0 (e2 e he).2]at p1
       exact⟨cs,by simpa using p1,Wg p2 hok2⟩
      have xd:=hc _ w L _ _ x y (xs.map a.eval++vc) (fun b f hk=>hk.2.1) (Lt h2 hG) (by rw[←el,hlen]) hLends zx hy
      subst hf
      refine Jl hw ?_
      have z8:(execOp a.eval o).run P w=.ok (.enter c.f ⟨xs.map a.eval++vc⟩) w:=by
       unfold execOp
       rw[kg]
       have hm:(Array.mk xs).map a.eval=⟨xs.map a.eval⟩:=by simp
       simp[resolve,hm,hf1,Deferred.ofValue,invoke,Qh1 ka]
      unfold Oper.wp
      rw[z8]
      refine xd.mono ?_
      rintro e' w' ⟨v0,rfl,⟨β2,ρ2,xg,⟨cs,xq,rq⟩,hT2,rp⟩,zo⟩
      show wpList P ops Q rest (a.put o.dst v0) w'
      rw[hd]
      have hLl:∀g∈L,∃t∈Qg β ρ Ml,t.blks g:=by
       intro g hg
       obtain⟨q,hq,hg⟩:=(hLm g).1 hg
       rcases ym q hq with⟨cc,ob,_,e4,_,e6⟩ | e6
       ·exact⟨_,QY.2 ⟨_,e4,rfl⟩,e6 g hg⟩
       ·exact absurd hg (e6 g)
      have xz:∀t∈Qg β ρ Ml,∀b f,t.blks b→t.cov b f:=by
       intro t ht b f hb
       obtain⟨q,hq,rfl⟩:=QY.1 ht
       obtain⟨id,p3,p4,p2⟩:=hF1 q hq
       obtain⟨q',wb,um⟩:=QY.1 p3
       exact Q1g (ju q' wb q.1 q.2 (by rw[um]; exact p4) p2) f hb
      have h3:=Sb.callO h2 zo hLl xz hT2 rp
      have hROk:∀j∈(roM c x).map Prod.fst,∃cc,Jq ri j=some cc∧j∈c.Γ.mem.map Prod.fst:=fun j hj=>by
       obtain⟨q,hq,rfl⟩:=QY.1 hj
       unfold roM at hq
       rw[u3]at hq
       obtain⟨hq1,ek⟩:=JJ.1 hq
       have hk:=nu q hq1
       obtain⟨q',wb,um⟩:=QY.1 hk
       obtain⟨cc,yg⟩:=Qur hb2s q.1 (QY.2 ⟨q',JJ.2 ⟨wb,by rw[um]; exact ek⟩,um⟩)
       exact⟨cc,yg,hk⟩
      have hroE2:Km (Jo ri d) (roM c x)=Mo:=by unfold roM; rw[u3]; exact hroE
      generalize hRO:roM c x=RO at *
      generalize hS1:Qcq c.Δ y=S1 at *
      generalize jv:(S1.mem++RO).map Prod.fst=ks at *
      have hA:∀j∈ks,backB (Jo ri d) ks β2 β (Jo ri d j)=β2 j∧Ma (Jo ri d) ks ρ2 ρ (Jo ri d j)=ρ2 j:=by
       intro j hj
       have:=Q1i (g:=Jo ri d) (ks:=ks) (by rw[←jv,List.map_map]; exact R4 n2) j hj
       exact⟨by simp only[backB,this],by simp only[Ma,this]⟩
      have rj:∀j∈ks,(∃cc,Jq ri j=some cc∧Jo ri d j=cc∧j∈c.Γ.mem.map Prod.fst) ∨
        (Jq ri j=none∧Jt (Jo ri d j) Mr0=true∧Jt (Jo ri d j) S.fixM=true∧Qcr (Jo ri d j) S.fix=true∧Qcr (Jo ri d j) S.env=true∧Yb S.prot (Jo ri d j)=false∧j∉c.Γ.mem.map Prod.fst):=by
       intro j hj
       rw[←jv,JK]at hj
       rcases QW.1 hj with hj | hj
       ·exact Q1h n1 j hj
       ·obtain⟨cc,p1,p2⟩:=hROk j hj
        exact .inl ⟨cc,p1,by simp only[Jo,p1],p2⟩
      have hB:∀i,(∀j∈ks,Jq ri j=none→Jo ri d j≠i)→backB (Jo ri d) ks β2 β i=β i∧Ma (Jo ri d) ks ρ2 ρ i=ρ i:=by
       intro i hi
       cases l7:ks.find? (fun j=>Jo ri d j==i)with
       | none=>exact⟨by simp only[backB,l7],by simp only[Ma,l7]⟩
       | some j =>
        have hj:=List.mem_of_find?_eq_some l7
        have vw:Jo ri d j=i:=by simpa using List.find?_some l7
        rcases rj j hj with⟨cc,p1,p2,p3⟩ | ⟨p1,_⟩
        ·obtain⟨q1,q2⟩:=xg j p3
         have:cc=i:=by rw[←p2]; exact vw
         subst this
         exact⟨by simp only[backB,l7]; rw[q1]; simp only[Hz,p1],by simp only[Ma,l7]; rw[q2]; simp only[Hp,p1]⟩
        ·exact absurd vw (hi j hj p1)
      have iz:=fun j hj (hn:Jq ri j=none)=>(rj j hj).resolve_left fun⟨cc,p1,_⟩=>by rw[hn]at p1; cases p1
      have hEnv:∀e∈S.env++S.fix,∀i∈Jb e.av,backB (Jo ri d) ks β2 β i=β i∧Ma (Jo ri d) ks ρ2 ρ i=ρ i:=by
       intro e he i hi
       refine hB i fun j hj hn vw=>?_
       obtain⟨_,_,_,p4,p5,_⟩:=iz j hj hn
       have qf:Uw (Jo ri d j) e.av=true:=by
        rcases QW.1 he with he | he
        ·exact Ry p5 e he
        ·exact Ry p4 e he
       exact Mc qf (by rw[vw]; exact hi)
      have hMem:∀i∈Jc Mr,backB (Jo ri d) ks β2 β i=β i∧Ma (Jo ri d) ks ρ2 ρ i=ρ i:=by
       intro i hi
       refine hB i fun j hj hn vw=>?_
       obtain⟨_,p2,p3,_⟩:=iz j hj hn
       replace hi:=Jbv (fun q hq=>sx.mem_iff.1 (QV _ hq)) hi
       have zu:∀(l m:List (Nat×Ob)),Jc (l++m)=Jc l++Jc m:=by
        intro l m
        induction l with
        | nil=>rfl
        | cons q l ih =>
         obtain⟨k0,o0⟩:=q
         cases o0 with
         | mapC k1 v xs hole=>cases hole<;>simp[Jc,ih]
         | _=>simp[Jc,ih]
       rw[zu,QW]at hi
       rcases hi with hi | hi
       ·exact Qgr p2 (by rw[vw]; exact hi)
       ·exact Qgr p3 (by rw[vw]; exact hi)
      have u6:Xc (Qg β2 ρ2 (S1.mem++RO)++Qg β ρ Mr) (Qg (backB (Jo ri d) ks β2 β) (Ma (Jo ri d) ks ρ2 ρ) (Km (Jo ri d) (S1.mem++RO))++Qg (backB (Jo ri d) ks β2 β) (Ma (Jo ri d) ks ρ2 ρ) Mr) :=
       (Qxn fun i hi=>hA i (Fh n4 i hi)).append (Qup hMem)
      have h4:=Sb.simO h3 u6
      have pk:Qg (backB (Jo ri d) ks β2 β) (Ma (Jo ri d) ks ρ2 ρ) (Km (Jo ri d) (S1.mem++RO))++Qg (backB (Jo ri d) ks β2 β) (Ma (Jo ri d) ks ρ2 ρ) Mr =
        Qg (backB (Jo ri d) ks β2 β) (Ma (Jo ri d) ks ρ2 ρ) ((Km (Jo ri d) S1.mem++Mo)++Mr):=by
       rw[show Km (Jo ri d) (S1.mem++RO)=Km (Jo ri d) S1.mem++Km (Jo ri d) RO from JK,hroE2]
       simp only[Qg,JK,QH]
      have h5:Rel X (backB (Jo ri d) ks β2 β) (Ma (Jo ri d) ks ρ2 ρ) ⟨S.env++S.fix,(Km (Jo ri d) S1.mem++Mo)++Mr⟩ a w':=by
       refine Rel.ofSb h4 pk fun e he=>?_
       have hp:=Jg.1 h4.dat _ (QY.2 ⟨e,he,rfl⟩)
       rw[pk]at hp
       exact⟨fun yg=>let⟨cs,q1,q2⟩:=hp.1 yg; ⟨cs,q1,Gc (hEnv e he) q2⟩,hp.2⟩
      have vb:cr (backB (Jo ri d) ks β2 β) (Ma (Jo ri d) ks ρ2 ρ) (okR X (backB (Jo ri d) ks β2 β) (Ma (Jo ri d) ks ρ2 ρ) ((Km (Jo ri d) S1.mem++Mo)++Mr) w') w' false (K2 (Jo ri d) (Rv S1.env)) cs:=by
       have q1:=T0 (g:=Jo ri d) (fun i hi=>hA i (Fh n3 i (Jbx _ i hi))) rq
       refine Wg q1 fun b f hk=>?_
       have q2:=u6.ok b f (Rx h2 zo.size hLl b f hk)
       rw[pk]at q2
       exact q2
      have h6:=h5.put0 hd1 vb
      have hvv:(K2 (Jo ri d) (Rv S1.env)).val cs=v0:=by rw[xq]; exact Jk1 _ _ _
      rw[hvv]at h6
      have yn:((Km (Jo ri d) S1.mem++Mo)++Mr).Perm ((Km (Jo ri d) S1.mem++Mr0)++S.fixM):=by
       rw[QH,QH]
       exact List.Perm.append_left _ sx
      refine H _ _ _ _ _ hs ⟨rfl,rfl,rfl,fun i hi=>hB i fun j hj hn vw=>?_⟩ ?_
      ·obtain⟨_,_,_,_,_,p6,_⟩:=iz j hj hn
       rw[vw,Zg.2 hi]at p6; cases p6
      ·rw[Xs (S:=⟨S.env,S.fix,Km (Jo ri d) S1.mem++Mr0,S.fixM,S.prot⟩) mw]
       exact Sb.perm h6 (yn.map _)
     ·cases hx
    ·cases hs
   ·cases hs
  ·cases hs
 ·cases hs
end
end Gx

/- Small things for regions of open order. -/
namespace Gx
open Go Go.RowKit Gd
set_option linter.unusedVariables false
set_option linter.unusedSimpArgs false
theorem Q8t{l:List Oper}{p k i:Nat}(h:Jpb l p=true)(hk:p≤k)(ez:k<l.length)(hi:i<k):Fu l l.length k i=true:=by
 have h1:=JN.1 h k (JT.2 ez)
 simp only[JS]at h1
 rcases h1 with h1 | h1
 ·have:=QF h1; omega
 ·exact JN.1 h1 i (JT.2 hi)
theorem Qiq:∀{l:List Nat} {t:Nat},Yb l t=true→t∈l
 | [],t,h=>by cases h
 | k::l,t,h=>by
  simp only[Yb]at h
  cases hb:Nat.beq k t with
  | true=>rw[QJ hb]; exact .head _
  | false=>rw[hb]at h; exact .tail _ (Qiq (by simpa using h))
theorem Qir:∀{env:List En} {e:En},e∈Q5y env→e.cs=[]∧e∈env∧Nat.blt e.t 100000=false
 | [],e,h=>by simp[Q5y]at h
 | x::l,e,h=>by
  simp only[Q5y]at h
  cases hb:Nat.blt x.t 100000 with
  | true =>
   rw[hb]at h
   obtain⟨h1,h2,h3⟩:=Qir (env:=l) h
   exact⟨h1,.tail _ h2,h3⟩
  | false =>
   rw[hb]at h
   simp only[cond_false]at h
   split at h
   ·rename_i hc
    rcases QX.1 h with rfl | h
    ·exact⟨hc,.head _,hb⟩
    ·obtain⟨h1,h2,h3⟩:=Qir (env:=l) h
     exact⟨h1,.tail _ h2,h3⟩
   ·obtain⟨h1,h2,h3⟩:=Qir (env:=l) h
    exact⟨h1,.tail _ h2,h3⟩
theorem Jby{l:List Nat}{i d:Nat}(hi:i<l.length)(h:l.getD i 0=d):l[i]?=some d:=by
 rw[VQ,QU hi]at h
 rw[QU hi]; exact congrArg some h
abbrev T4(E:Nat→Bool)(i:Nat):Nat→Bool:=fun j=>j==i||E j
theorem Qeu{l:List Nat}{t:Nat}(h:t∈l):Yb l t=true:=by
 induction l with
 | nil=>cases h
 | cons k l ih =>
  simp only[Yb,JS]
  rcases QX.1 h with rfl | h
  ·exact .inl (JY _)
  ·exact .inr (ih h)
theorem Qcv:∀{M:List (Nat×Ob)} {id:Nat},Ea (Qe M id)=true→id∈Vb M
 | [],id,h=>by simp[Qe,Ea]at h
 | (k,ob)::l,id,h=>by
  simp only[Qe]at h
  cases hb:Nat.beq k id with
  | true=>rw[QJ hb]; exact .head _
  | false=>rw[hb]at h; exact .tail _ (Qcv h)
theorem Jpl{a b:Nat}(h:a≠b):Nat.beq a b=false:=by
 cases hb:Nat.beq a b with
 | true=>exact absurd (QJ hb) h
 | false=>rfl
theorem Qgs:∀{M:List (Nat×Ob)},(Vb M).Nodup→∀q∈M,Qe M q.1=some q.2
 | [],_,q,h=>by cases h
 | (k,x)::l,hn,q,h=>by
  have wj:=JA.1 (show(k::Vb l).Nodup from hn)
  simp only[Qe]
  rcases QX.1 h with rfl | h
  ·simp[JY]
  ·have k8:k≠q.1:=fun e=>wj.1 (e▸QY.2 ⟨q,h,rfl⟩)
   rw[Jpl k8]
   exact Qgs wj.2 q h
theorem Qus:∀{ds:List Nat} {env:List En} {e:En},e∈Qmc env ds→e∈env∧∀d∈ds,Uw d e.av=true∧e.t≠d∧∀c∈e.cs,c.1≠d
 | [],env,e,h=>⟨h,by simp⟩
 | d::ds,env,e,h=>by
  obtain⟨h1,h2⟩:=Qus (ds:=ds) h
  obtain⟨h3,h4,h5⟩:=Fx h1
  obtain⟨h6,h7⟩:=Qgq h3
  refine⟨h6,fun d' hd=>?_⟩
  rcases QX.1 hd with rfl | hd
  ·exact⟨h7,h4,h5⟩
  ·exact h2 d' hd
theorem Qqv{α:Type}{f g:α→Bool}:∀{l:List α} {x:α},(∀y,f y=true→g y=true)→x∈l→f x=false→g x=true→(l.filter f).length<(l.filter g).length
 | y::ys,x,hfg,hx,h1,h2=>by
  have hle:∀zs:List α,(zs.filter f).length≤(zs.filter g).length:=by
   intro zs
   induction zs with
   | nil=>simp
   | cons z zs ih =>
    simp only[XV]
    cases hf:f z with
    | true=>rw[hfg z hf]; simpa using ih
    | false=>cases hg:g z<;>simp<;>omega
  rcases QX.1 hx with rfl | hx
  ·simp only[XV,h1,h2]
   have:=hle ys
   simp; omega
  ·have:=Qqv hfg hx h1 h2
   simp only[XV]
   cases hf:f y with
   | true=>rw[hfg y hf]; simpa using this
   | false=>cases hg:g y<;>simp<;>omega
end Gx

/- Regions, control, functions. -/
namespace Gx
open Go Go.RowKit Gd
set_option linter.unusedVariables false
set_option linter.unusedSimpArgs false
def Q1l(P:Program)(gl:List (Nat×Σ t:Ty,t.De))(K:List Con):Prop:=∀c∈K,Qfy P gl c∧Runs P c.f
def KsX(P:Program)(Y:TX)(X:Cx)(K:List Con):Prop:=Q1l P Y.gl K∧Vs Y.gl (okN X) X.w
theorem Jgm{M:List (Nat×Ob)}(x:AV):(O8 M x).isAgg=x.isAgg:=by
 cases x with
 | s id =>
  simp only[O8]
  split<;>rfl
 | _=>rfl
theorem Q1m{M:List (Nat×Ob)}(x:AV)(cs:List Value):(O8 M x).val cs=x.val cs:=by
 unfold AV.val
 rw[Jgm]
theorem Qis{M:List (Nat×Ob)}:∀{x:AV} {i:Nat},i∈Jb (O8 M x)→i∈Jb x
 | .s id,i,h=>by
  simp only[O8]at h
  split at h
  ·cases h
  ·exact h
 | .ag l,i,h=>Qis (x:=l) h
 | .cons x r,i,h=>by
  rcases QW.1 (show i∈Jb (O8 M x)++Jb (O8 M r)from h)with h | h
  ·exact QZ _ (Qis h)
  ·exact QV _ (Qis h)
 | .d ..,i,h=>h
 | .p ..,i,h=>h
 | .e ..,i,h=>h
 | .m _,i,h=>h
 | .b _,i,h=>h
 | .w ..,i,h=>h
 | .a ..,i,h=>h
 | .z,i,h=>h
 | .ns,i,h=>h
 | .np,i,h=>h
 | .nm,i,h=>h
 | .nf,i,h=>h
 | .f ..,i,h=>h
 | .tp _,i,h=>h
 | .nil,i,h=>h
section
variable {β:Nat→Nat} {ρ:Nat→Value} {ok:Ok} {w:World}
theorem T5{M:List (Nat×Ob)}(hM:∀id o,Qe M id=some o→(Qx β ρ id o).p ok w):∀{m:Bool} {x:AV} {cs:List Value},cr β ρ ok w m x cs→cr β ρ ok w m (O8 M x) cs
 | m,.s id,cs,h=>by
  simp only[O8]
  split
  ·rename_i e t xs ho
   have h1:=(hM _ _ ho).1
   have h':(∃v,cs=[v]∧zal v (ρ id))∧∃A n c,ρ id=.slice A n c:=by cases m<;>exact h
   obtain⟨⟨v,rfl,hz⟩,_⟩:=h'
   have h2:(rt (.sl t)).rep ok w xs [v]:=⟨_,rfl,Z5.1 (Qw2 hz h1)⟩
   cases m<;>exact h2
  ·exact h
 | m,.ag l,cs,h=>by
  have h':cr β ρ ok w false l cs:=by cases m<;>exact h
  have:=T5 hM (m:=false) (x:=l) h'
  cases m<;>exact this
 | true,.cons x r,cs,⟨c1,vs,h1,h2,h3⟩=>⟨c1,vs,by rw[h1,Q1m],T5 hM h2,T5 hM h3⟩
 | false,.cons x r,cs,⟨c1,c2,h1,h2,h3⟩=>⟨c1,c2,h1,T5 hM h2,T5 hM h3⟩
 | m,.d ..,cs,h=>h
 | m,.p ..,cs,h=>h
 | m,.e ..,cs,h=>h
 | m,.m _,cs,h=>h
 | m,.b _,cs,h=>h
 | m,.w ..,cs,h=>h
 | m,.a ..,cs,h=>h
 | m,.z,cs,h=>h
 | m,.ns,cs,h=>h
 | m,.np,cs,h=>h
 | m,.nm,cs,h=>h
 | m,.nf,cs,h=>h
 | m,.f ..,cs,h=>h
 | m,.tp _,cs,h=>h
 | m,.nil,cs,h=>h
end
theorem Sb.replO{β0:Nat→Nat}{X:Cx}{G:GL}{D:List DF}{H:HL}{O1 O2:List TL}{t t':TL}{a:Act}{w:World}(h:Sb β0 X G D H (O1++t::O2) a w)(h1:∀g,t'.blks g↔t.blks g)(h2:∀b o,t'.cov b o↔t.cov b o)
  (hp:t'.p (Jf X.ok X.w.heap.size β0 H (O1++t::O2) w) w):Sb β0 X G D H (O1++t'::O2) a w:=by
 have ke:∀u∈O1++t'::O2,u=t'∨u∈O1++t::O2:=fun u hu=>by
  rcases QW.1 hu with hu | hu
  ·exact .inr (QZ _ hu)
  ·rcases QX.1 hu with hu | hu
   ·exact .inl hu
   ·exact .inr (QV _ (.tail _ hu))
 have ht:t∈O1++t::O2:=QV _ (.head _)
 have kj:∀b o,Jf X.ok X.w.heap.size β0 H (O1++t::O2) w b o→Jf X.ok X.w.heap.size β0 H (O1++t'::O2) w b o:=fun b o ⟨q1,q2,q3,q4⟩=>⟨q1,q2,q3,fun u hu hc=>by
  rcases ke u hu with rfl | hu
  ·exact q4 t ht ((h2 b o).1 hc)
  ·exact q4 u hu hc⟩
 refine { sz:=h.sz,df:=h.df,fr:=h.fr,pn:=h.pn,tm:=h.tm,bel:=h.bel,dat:=h.dat.weak kj,obj:=h.obj,own:=fun u hu=>?_,dHH:=h.dHH,dHO:=fun p xm u hu=>?_,dOO:=?_ }
 ·rcases ke u hu with rfl | hu
  ·exact⟨u.weak hp kj,fun g hg=>(h.own t ht).2 g ((h1 g).1 hg)⟩
  ·exact⟨u.weak (h.own u hu).1 kj,(h.own u hu).2⟩
 ·rcases ke u hu with rfl | hu
  ·exact fun hb=>h.dHO p xm t ht ((h1 _).1 hb)
  ·exact h.dHO p xm u hu
 ·have:=h.dOO
  rw[QM,QG]at this ⊢
  refine⟨this.1,⟨fun u hu g hg=>this.2.1.1 u hu g ((h1 g).1 hg),this.2.1.2⟩,fun x hx y hy g hg zt=>?_⟩
  rcases QX.1 hy with rfl | hy
  ·exact this.2.2 x hx t (.head _) g hg ((h1 g).1 zt)
  ·exact this.2.2 x hx y (.tail _ hy) g hg zt
theorem Jqz{X:Cx}{β:Nat→Nat}{ρ:Nat→Value}{a:Act}{w:World}{S:XS}(h:Rel X β ρ S.flat a w){id:Nat}{tid:TypeId}{c:AV}(hm:Qe S.mem id=some (.var tid c)):Rel X β ρ (S.set id (.var tid (O8 S.flat.mem c))).flat a w:=by
 have zz:Qe S.flat.mem id=some (.var tid c):=Q0 hm
 obtain⟨l1,l2,e1,e2,e3⟩:=Jj zz
 have hE:(S.set id (.var tid (O8 S.flat.mem c))).flat=⟨S.flat.env,Nv S.flat.mem id (.var tid (O8 S.flat.mem c))⟩:=by
  simp only[XS.flat,XS.set]
  rw[K4 hm]
 rw[hE,e2]
 have hO:Qg β ρ S.flat.mem=Qg β ρ l1++Qx β ρ id (.var tid c)::Qg β ρ l2:=by rw[e1]; simp[Qg]
 have ke:Qg β ρ (l1++(id,Ob.var tid (O8 S.flat.mem c))::l2)=Qg β ρ l1++Qx β ρ id (.var tid (O8 S.flat.mem c))::Qg β ρ l2:=by simp[Qg]
 have h0:Sb (fun _=>0) X [] (S.flat.env.map (enD β ρ a)) [] (Qg β ρ l1++Qx β ρ id (.var tid c)::Qg β ρ l2) a w:=by rw[←hO]; exact h
 obtain⟨cs,q1,q2⟩:=(h.ob zz).1
 have hS:=Sb.replO h0 (t':=Qx β ρ id (.var tid (O8 S.flat.mem c))) (fun _=>Iff.rfl) (fun _ _=>Iff.rfl) (by
  rw[←hO]
  exact⟨cs,q1,T5 h.mm q2⟩)
 exact Rel.ofSb hS ke.symm fun e he=>by
  have:=Jg.1 hS.dat _ (QY.2 ⟨e,he,rfl⟩)
  rw[←ke]at this
  exact this
section
variable {P:Program} {Y:TX} {X:Cx} {S:XS} {β β':Nat→Nat} {ρ ρ':Nat→Value} {a a':Act} {w w':World} {n N:Nat} {K:List Con}
variable {Q:Exit→Act→World→Prop} {R:Type} {r:R}
theorem Qit{env:List En}:∀{ts:List Nat},∀e∈Qnf env ts,e∈env
 | [],e,he=>by simp[Qnf]at he
 | t::ts,e,he=>by
  simp only[Qnf]at he
  split at he
  ·rename_i x hx
   rcases QX.1 he with rfl | he
   ·exact(U2 hx).1
   ·exact Qit e he
  ·exact Qit e he
theorem Rel.ent(h:Rel X β ρ S.flat a w)(ks ms:List Nat):Rel X β ρ (S.ent ks ms).flat a w:=by
 have h1:Rel X β ρ ⟨S.env++(Qnf S.env ks++S.fix),S.flat.mem⟩ a w:=Rel.less (S:=S.flat) h fun e he=>by
  rcases QW.1 he with he | he
  ·exact QZ _ he
  ·rcases QW.1 he with he | he
   ·exact QZ _ (Qit e he)
   ·exact QV _ he
 refine h1.permM ?_
 simp only[XS.flat,XS.ent]
 have:=Zz ms S.mem
 rw[←QH]
 exact((XA.trans this).append_right _).symm
theorem Qcw(ks ms:List Nat)(S1:St):(S.out ks ms S1).flat=((S.ent ks ms).re S1).flat:=by simp[XS.flat,XS.out,XS.re,XS.ent]
theorem If{S0 S':XS}{Γ:Shp}(h:Rel X β ρ S'.flat a w)(hk:S'.fix=S0.fix∧S'.fixM=S0.fixM∧S'.prot=S0.prot){x:Γ.De}(hd:S'.dec Γ=some x) :
  ∃β' ρ',agP S0.prot β β' ρ ρ'∧Rel X β' ρ' (S0.re (enc Γ x)).flat a w:=by
 obtain⟨β',ρ',h1,h2⟩:=XS.dec_ok h hd
 rw[hk.2.2]at h1
 rw[hk.1,hk.2.1]at h2
 exact⟨β',ρ',h1,h2⟩
theorem Qqw(h:Rel X β ρ S.flat a w){t:Nat}{x:AV}(he:Kl S.env t=some ⟨t,[],x⟩):Rel X β ρ (XS.put S t [] x).flat a w:=by
 obtain⟨hm,_⟩:=U2 he
 refine Rel.less (S:=S.flat) h fun e hE=>?_
 rcases QW.1 hE with hE | hE
 ·rcases QX.1 hE with rfl | hE
  ·exact QZ _ hm
  ·exact QZ _ (Fx hE).1
 ·exact QV _ hE
theorem Q8u(h:Rel X β ρ S.flat a w){t:Nat}{b:Bool}(he:Kl S.env t=some ⟨t,[],.d .bool b⟩):Rel X β ρ (XS.put S t [] (.d .bool b)).flat a w:=by
 obtain⟨hm,_⟩:=U2 he
 refine Rel.less (S:=S.flat) h fun e hE=>?_
 rcases QW.1 hE with hE | hE
 ·rcases QX.1 hE with rfl | hE
  ·exact QZ _ hm
  ·exact QZ _ (Fx hE).1
 ·exact QV _ hE
theorem Y5(hT:Q4 P Y.T)(hK:KsX P Y X K)(hX:X.n=n)(hr:X.res=[]){ops:List Oper}{Q:Exit→Act→World→Prop}:∀{R:Type} {r:R} (h:Hn) {l rest:List Oper} {S:XS} {β:Nat→Nat} {ρ:Nat→Value} {a:Act} {w:World} {k:XS→Option R},
  Rel X β ρ S.flat a w→Yx Y K n ops h l S k=some r→KOk P ⟨ops⟩ Q rest X S β ρ k r→wpList P ⟨ops⟩ Q (l++rest) a w
 | R,r,.done,l,rest,S,β,ρ,a,w,k,hS,hs,H=>by
  cases l with
  | nil=>exact H β ρ S a w (by simpa[Yx]using hs) (Y6.refl _ _ _) hS
  | cons o l=>simp[Yx]at hs
 | R,r,.n m g,l,rest,S,β,ρ,a,w,k,hS,hs,H=>by
  simp only[Yx]at hs
  have:=Qxk (P:=P) (X:=X) (Q:=Q) (r:=r) (Qii Y n ops) (fun h1 h2 h3=>Jgf hT hX hr h1 h2 h3) (l1:=l.take m) (rest:=l.drop m++rest) hS hs fun β' ρ' S' a' w' h1 h2 h3=>Y5 hT hK hX hr g h3 h1 (H.after h2)
  rwa[←QH,JH]at this
 | R,r,.nl m g,l,rest,S,β,ρ,a,w,k,hS,hs,H=>by
  simp only[Yx]at hs
  have:=Qxk (P:=P) (X:=X) (Q:=Q) (r:=r) (Gx.stepL Y n ops) (fun h1 h2 h3=>Jgg hT hX hr h1 h2 h3) (l1:=l.take m) (rest:=l.drop m++rest) hS hs fun β' ρ' S' a' w' h1 h2 h3=>Y5 hT hK hX hr g h3 h1 (H.after h2)
  rwa[←QH,JH]at this
 | R,r,.call c g,l,rest,S,β,ρ,a,w,k,hS,hs,H=>by
  simp only[Yx]at hs
  split at hs
  ·rename_i con o l' hc
   split at hs
   ·rename_i hg
    have xh:=hK.1 con (JM hc)
    exact Qmh hX hr hS (K6 (Ls hg) _) xh.1 hK.2 xh.2 hs fun β' ρ' S' a' w' h1 h2 h3=>Y5 hT hK hX hr g h3 h1 (H.after h2)
   ·rename_i t want hg
    split at hs
    ·rename_i t' b he
     split at hs
     ·rename_i hb
      have hbw:b=want:=by simpa using hb
      subst hbw
      obtain⟨cs,h1,h2⟩:=hS.get he (Qc a)
      have zj:cs=_:=h2
      subst zj
      have xh:=hK.1 con (JM hc)
      exact Qmh hX hr hS ((Vv hg).2 h1) xh.1 hK.2 xh.2 hs fun β' ρ' S' a' w' h1 h2 h3=>Y5 hT hK hX hr g h3 h1 (H.after h2)
     ·cases hs
    ·cases hs
   ·cases hs
  ·cases hs
 | R,r,.br g,l,rest,S,β,ρ,a,w,k,hS,hs,H=>by
  simp only[Yx]at hs
  split at hs
  ·rename_i o l'
   split at hs
   ·rename_i hg
    exact Q1c hT hX hr hS (K6 (Ls hg) _) hs fun β' ρ' S' a' w' h1 h2 h3=>Y5 hT hK hX hr g h3 h1 (H.after h2)
   ·rename_i t want hg
    split at hs
    ·rename_i t' b he
     split at hs
     ·rename_i hb
      have hbw:b=want:=by simpa using hb
      subst hbw
      obtain⟨cs,h1,h2⟩:=hS.get he (Qc a)
      have zj:cs=_:=h2
      subst zj
      exact Q1c hT hX hr hS ((Vv hg).2 h1) hs fun β' ρ' S' a' w' h1 h2 h3=>Y5 hT hK hX hr g h3 h1 (H.after h2)
     ·cases hs
    ·cases hs
   ·cases hs
  ·cases hs
 | R,r,.fz id g,l,rest,S,β,ρ,a,w,k,hS,hs,H=>by
  simp only[Yx]at hs
  have h1:Rel X β ρ (XS.flat { S with mem:=Y4 [id] S.mem }) a w:=by
   have:=Rel.freeze S.mem (l0:=[]) (F:=S.fixM) (ks:=[id]) hS
   simp only[QC]at this
   exact this
  exact Y5 hT hK hX hr g h1 hs (H.after ⟨rfl,rfl,rfl,agP.refl _ _ _⟩)
 | R,r,.keep ts g,l,rest,S,β,ρ,a,w,k,hS,hs,H=>by
  simp only[Yx]at hs
  have h1:Rel X β ρ (XS.flat { S with env:=Qnf S.env ts }) a w:=Rel.less (S:=S.flat) hS fun e he=>by
   rcases QW.1 he with he | he
   ·exact QZ _ (Qit e he)
   ·exact QV _ he
  exact Y5 hT hK hX hr g h1 hs (H.after ⟨rfl,rfl,rfl,agP.refl _ _ _⟩)
 | R,r,.op src id d g,l,rest,S,β,ρ,a,w,k,hS,hs,H=>by
  simp only[Yx]at hs
  obtain⟨S1,β1,ρ1,h1,h2,hs⟩:=Q02 hS hs
  exact Y5 hT hK hX hr g h2 hs (H.after h1)
 | R,r,.cl id g,l,rest,S,β,ρ,a,w,k,hS,hs,H=>by
  simp only[Yx]at hs
  obtain⟨S1,ρ1,h1,h2,hs⟩:=Quj hS hs
  exact Y5 hT hK hX hr g h2 hs (H.after h1)
 | R,r,.fm id g,l,rest,S,β,ρ,a,w,k,hS,hs,H=>by
  simp only[Yx]at hs
  obtain⟨S1,h1,h2,hs⟩:=Q04 hS hs
  exact Y5 hT hK hX hr g h2 hs (H.after h1)
 | R,r,.md m g,l,rest,S,β,ρ,a,w,k,hS,hs,H=>by simp[Yx]at hs
 | R,r,.tl g,l,rest,S,β,ρ,a,w,k,hS,hs,H=>by simp[Yx]at hs
 | R,r,.dt _ g,l,rest,S,β,ρ,a,w,k,hS,hs,H=>by simp[Yx]at hs
 | R,r,.si t i x y,l,rest,S,β,ρ,a,w,k,hS,hs,H=>by
  simp only[Yx]at hs
  split at hs
  ·rename_i t' kd v he
   obtain⟨hf,hs⟩:=bvT hs
   split at hs
   ·rename_i hv
    subst hv
    have ht:t'=t:=(U2 he).2
    subst ht
    exact Y5 hT hK hX hr x (Qqw hS he) hs (H.after ⟨rfl,rfl,rfl,agP.refl _ _ _⟩)
   ·exact Y5 hT hK hX hr y hS hs H
  ·cases hs
 | R,r,.so t x y,l,rest,S,β,ρ,a,w,k,hS,hs,H=>by simp[Yx]at hs
 | R,r,.sp t m ks ms Γ x y g,l,rest,S,β,ρ,a,w,k,hS,hs,H=>by
  simp only[Yx]at hs
  split at hs
  ·rename_i t' v he
   have zb:t'=t:=(U2 he).2
   subst zb
   obtain⟨hb,hs⟩:=bvT hs
   obtain⟨z,hz,hs⟩:=Yk hs
   have hp:=Q8u hS he
   have fin:KOk P ⟨ops⟩ Q (l.drop m++rest) X ((XS.put S t' [] (.d .bool v)).ent ks ms) β ρ (fun S'=>S'.dec Γ) z:=by
    intro β1 ρ1 S' a' w' hd hk h1
    obtain⟨β2,ρ2,h2,h3⟩:=If (S0:=(XS.put S t' [] (.d .bool v)).ent ks ms) h1 ⟨hk.fix,hk.fixM,hk.prot⟩ hd
    rw[←Qcw]at h3
    refine Y5 hT hK hX hr g h3 hs (H.after ⟨rfl,rfl,rfl,?_⟩)
    exact agP.trans hk.ag h2
   have e:l++rest=l.take m++(l.drop m++rest):=by rw[←QH,JH]
   rw[e]
   cases v with
   | true =>
    rw[if_pos rfl]at hz
    exact Y5 hT hK hX hr x (hp.ent ks ms) hz fin
   | false =>
    rw[if_neg (by simp)]at hz
    exact Y5 hT hK hX hr y (hp.ent ks ms) hz fin
  ·cases hs
theorem T6:∀{R:Type} {r:R} (h:Hn) {S:XS} {β:Nat→Nat} {ρ:Nat→Value} {k:XS→Option R},Rel X β ρ S.flat a w→O9 h S k=some r→∃S' β' ρ',k S'=some r∧Y6 S S' β β' ρ ρ'∧Rel X β' ρ' S'.flat a w
 | R,r,.done,S,β,ρ,k,hS,hs=>⟨S,β,ρ,hs,Y6.refl _ _ _,hS⟩
 | R,r,.fz id g,S,β,ρ,k,hS,hs=>by
  simp only[O9]at hs
  have h1:Rel X β ρ (XS.flat { S with mem:=Y4 [id] S.mem }) a w:=by
   have:=Rel.freeze S.mem (l0:=[]) (F:=S.fixM) (ks:=[id]) hS
   simp only[QC]at this
   exact this
  obtain⟨S',β',ρ',q1,q2,q3⟩:=T6 g h1 hs
  exact⟨S',β',ρ',q1,⟨q2.fix,q2.fixM,q2.prot,q2.ag⟩,q3⟩
 | R,r,.op src id d g,S,β,ρ,k,hS,hs=>by
  simp only[O9]at hs
  obtain⟨S1,β1,ρ1,h1,h2,hs⟩:=Q02 hS hs
  obtain⟨S',β',ρ',q1,q2,q3⟩:=T6 g h2 hs
  exact⟨S',β',ρ',q1,h1.trans q2,q3⟩
 | R,r,.cl id g,S,β,ρ,k,hS,hs=>by
  simp only[O9]at hs
  obtain⟨S1,ρ1,h1,h2,hs⟩:=Quj hS hs
  obtain⟨S',β',ρ',q1,q2,q3⟩:=T6 g h2 hs
  exact⟨S',β',ρ',q1,h1.trans q2,q3⟩
 | R,r,.fm id g,S,β,ρ,k,hS,hs=>by
  simp only[O9]at hs
  obtain⟨S1,h1,h2,hs⟩:=Q04 hS hs
  obtain⟨S',β',ρ',q1,q2,q3⟩:=T6 g h2 hs
  exact⟨S',β',ρ',q1,h1.trans q2,q3⟩
 | R,r,.n _ _,S,β,ρ,k,hS,hs=>by simp[O9]at hs
 | R,r,.nl _ _,S,β,ρ,k,hS,hs=>by simp[O9]at hs
 | R,r,.md _ _,S,β,ρ,k,hS,hs=>by simp[O9]at hs
 | R,r,.keep _ _,S,β,ρ,k,hS,hs=>by simp[O9]at hs
 | R,r,.sp _ _ _ _ _ _ _ _,S,β,ρ,k,hS,hs=>by simp[O9]at hs
 | R,r,.call _ _,S,β,ρ,k,hS,hs=>by simp[O9]at hs
 | R,r,.tl _,S,β,ρ,k,hS,hs=>by simp[O9]at hs
 | R,r,.dt id g,S,β,ρ,k,hS,hs=>by
  simp only[O9]at hs
  split at hs
  ·rename_i tid c hm
   obtain⟨S',β',ρ',q1,q2,q3⟩:=T6 g (Jqz hS hm) hs
   exact⟨S',β',ρ',q1,⟨q2.fix,q2.fixM,q2.prot,q2.ag⟩,q3⟩
  ·cases hs
 | R,r,.so _ _ _,S,β,ρ,k,hS,hs=>by simp[O9]at hs
 | R,r,.si _ _ _ _,S,β,ρ,k,hS,hs=>by simp[O9]at hs
def TOk(P:Program)(ops:Array Oper)(Q:Act→Prop)(rest:List Oper)(X:Cx)(w:World)(S0:XS)(β:Nat→Nat)(ρ:Nat→Value){R:Type}(k:XS→Option R)(r:R):Prop :=
 ∀(β':Nat→Nat) (ρ':Nat→Value) (S':XS) (a':Act),k S'=some r→Y6 S0 S' β β' ρ ρ'→Rel X β' ρ' S'.flat a' w→wpStill P ops w Q rest a'
theorem TOk.after{ops:Array Oper}{Q:Act→Prop}{rest:List Oper}{k:XS→Option R}(h:TOk P ops Q rest X w S β ρ k r){S1:XS}{β1:Nat→Nat}{ρ1:Nat→Value}(hk:Y6 S S1 β β1 ρ ρ1):TOk P ops Q rest X w S1 β1 ρ1 k r :=
 fun β' ρ' S' a' h1 h2 h3=>h β' ρ' S' a' h1 (hk.trans h2) h3
section
variable {ops:List Oper} {Qs:Act→Prop} {rest:List Oper} {k:XS→Option R}
theorem Q1n{o:Oper}(hw:Region.wanted o (yielded ⟨ops⟩ a.tmps)=true){v:Value}(hr:(execOp a.eval o).run P w=.ok (.value v) w)(h:wpStill P ⟨ops⟩ w Qs rest (a.put o.dst v)):wpStill P ⟨ops⟩ w Qs (o::rest) a:=by
 unfold wpStill
 rw[if_pos hw]
 unfold Oper.still
 rw[hr,Oper.stillUpon_value]
 exact h
theorem Qqx{o:Oper}(hw:Region.wanted o (yielded ⟨ops⟩ a.tmps)=false)(h:wpStill P ⟨ops⟩ w Qs rest (a.put o.dst undef)):wpStill P ⟨ops⟩ w Qs (o::rest) a:=by
 unfold wpStill
 rw[if_neg (by rw[hw]; simp)]
 exact h
theorem Qqy(hT:Q4 P Y.T)(hX:X.n=n)(hr:X.res=[])(h:Rel X β ρ S.flat a w){o:Oper}(hw:Region.wanted o (yielded ⟨ops⟩ a.tmps)=true)(hs:Q0x Y n o S k=some r)(H:TOk P ⟨ops⟩ Qs rest X w S β ρ k r):wpStill P ⟨ops⟩ w Qs (o::rest) a:=by
 unfold Q0x at hs
 split at hs
 ·rename_i d hd
  obtain⟨hb,hs⟩:=bvT hs
  obtain⟨av,hk,ug⟩:=Q0q (P:=P) hT rfl hs
  obtain⟨h1,h2⟩:=Yy hb hX hr
  obtain⟨cs,h3,h4⟩:=ug h.toW (Qc a)
  refine Q1n hw h3 ?_
  rw[hd]
  refine H β ρ _ _ hk (G1 S d [] av) ?_
  rw[Xs h2]
  exact h.put0 h1 h4
 ·cases hs
theorem Q1o(hX:X.n=n)(hr:X.res=[])(h:Rel X β ρ S.flat a w){o:Oper}(hw:Region.wanted o (yielded ⟨ops⟩ a.tmps)=false)(hs:Qcs n o S k=some r)(H:TOk P ⟨ops⟩ Qs rest X w S β ρ k r):wpStill P ⟨ops⟩ w Qs (o::rest) a:=by
 refine Qqx hw ?_
 unfold Qcs at hs
 split at hs
 ·rename_i d hd
  obtain⟨hb,hk⟩:=bvT hs
  obtain⟨h1,h2⟩:=Yy hb hX hr
  rw[hd]
  refine H β ρ _ _ hk (G1 S d [] _) ?_
  rw[Xs h2]
  exact h.put0 h1 (x:=.tp .nil) (c:=[.tuple #[]]) ⟨[],rfl,rfl⟩
 ·rename_i hd
  rw[hd]
  exact H β ρ _ _ hs (Y6.refl _ _ _) h
theorem Jbz(hT:Q4 P Y.T)(hX:X.n=n)(hr:X.res=[])(h:Rel X β ρ S.flat a w){o:Oper}{t:Nat}{want:Bool}(hg:Qgm ops o=some (some (t,want)))(hs:Qih Y n t want o S k=some r)(H:TOk P ⟨ops⟩ Qs rest X w S β ρ k r) :
  wpStill P ⟨ops⟩ w Qs (o::rest) a:=by
 unfold Qih at hs
 split at hs
 ·rename_i t' cs b d he hd
  obtain⟨hb,hs⟩:=bvT hs
  simp only[QQ]at hb
  obtain⟨h1,h2⟩:=Yy hb.1.1 hX hr
  have kr:=neB hb.1.2
  have hud:∀c∈cs,c.1≠d:=Qcn (by simpa using hb.2)
  split at hs
  ·rename_i v hv
   obtain⟨hm,zb⟩:=U2 he
   simp only at zb
   subst zb
   have xu:∀u:Value,Ju (a.put (some d) u) ((t',want)::cs)↔Ju a ((t',want)::cs):=by
    intro u
    have k8:∀c∈(t',want)::cs,c.1≠d:=by
     intro c hc
     rcases QX.1 hc with rfl | hc
     ·exact kr
     ·exact hud c hc
    exact⟨fun hc c hm=>by rw[←Y7 (k8 c hm) u]; exact hc c hm,fun hc c hm=>by rw[Y7 (k8 c hm) u]; exact hc c hm⟩
   by_cases hw:Region.wanted o (yielded ⟨ops⟩ a.tmps)=true
   ·have vu:=(Vv hg).1 hw
    have zr:Ju a cs:=by
     rcases(h.en hm).2 with h3 | h3
     ·exact h3
     ·simp only at h3; rw[L0 (Qcm he),vu]at h3; simp[undef]at h3
    have vn:Ju a ((t',want)::cs):=by
     intro c hc
     rcases QX.1 hc with rfl | hc
     ·exact vu
     ·exact zr c hc
    obtain⟨c,h3,h4⟩:=Qie hT h.toW vn hv
    refine Q1n hw h3 ?_
    rw[hd]
    refine H β ρ _ _ hs (G1 S d _ _) ?_
    rw[Xs h2]
    exact h.put h1 (fun _=>⟨c,rfl,h4⟩) (.inl ((xu _).2 vn))
   ·have nq:Region.wanted o (yielded ⟨ops⟩ a.tmps)=false:=by simpa using hw
    refine Qqx nq ?_
    rw[hd]
    refine H β ρ _ _ hs (G1 S d _ _) ?_
    rw[Xs h2]
    refine h.put h1 (fun hc=>?_) (.inr rfl)
    have:=(xu _).1 hc
    exact absurd ((Vv hg).2 (this _ (.head _))) hw
  ·cases hs
 ·cases hs
theorem Jb0(hT:Q4 P Y.T)(hX:X.n=n)(hr:X.res=[])(h:Rel X β ρ S.flat a w){o:Oper}(hs:Qxb Y n ops o S k=some r)(H:TOk P ⟨ops⟩ Qs rest X w S β ρ k r):wpStill P ⟨ops⟩ w Qs (o::rest) a:=by
 unfold Qxb at hs
 split at hs
 ·rename_i hg
  exact Qqy hT hX hr h (K6 (Ls hg) _) hs H
 ·rename_i t want hg
  exact Jbz hT hX hr h hg hs H
 ·cases hs
theorem Jb1(hT:Q4 P Y.T)(hX:X.n=n)(hr:X.res=[])(h:Rel X β ρ S.flat a w){o:Oper}(hs:Qxc Y n ops o S k=some r)(H:TOk P ⟨ops⟩ Qs rest X w S β ρ k r):wpStill P ⟨ops⟩ w Qs (o::rest) a:=by
 unfold Qxc at hs
 split at hs
 ·rename_i hg
  exact Qqy hT hX hr h (K6 (Ls hg) _) hs H
 ·rename_i t want hg
  split at hs
  ·rename_i t' b he
   obtain⟨cs,h1,h2⟩:=h.get he (Qc a)
   have zj:cs=_:=h2
   subst zj
   have k5:a.tmps[t]?=some (.bool b):=h1
   split at hs
   ·rename_i hb
    have:b=want:=by simpa using hb
    subst this
    exact Qqy hT hX hr h ((Vv hg).2 k5) hs H
   ·rename_i hb
    refine Q1o hX hr h ?_ hs H
    have k8:b≠want:=by simpa using hb
    cases hw:Region.wanted o (yielded ⟨ops⟩ a.tmps)with
    | false=>rfl
    | true =>
     have:=(Vv hg).1 hw
     rw[k5]at this
     injection this with this
     injection this with this
     exact absurd this k8
  ·rename_i t' he
   obtain⟨cs,h1,vs,h2,h3⟩:=h.get he (Qc a)
   subst h2
   refine Q1o hX hr h ?_ hs H
   cases hw:Region.wanted o (yielded ⟨ops⟩ a.tmps)with
   | false=>rfl
   | true =>
    have:=(Vv hg).1 hw
    rw[h1]at this
    injection this with this
    cases this
  ·cases hs
 ·cases hs
theorem Qqz(st:Oper→XS→(XS→Option R)→Option R)
  (zg:∀{o:Oper} {rest:List Oper} {S:XS} {β:Nat→Nat} {ρ:Nat→Value} {a:Act} {k:XS→Option R},Rel X β ρ S.flat a w→st o S k=some r→TOk P ⟨ops⟩ Qs rest X w S β ρ k r→wpStill P ⟨ops⟩ w Qs (o::rest) a) :
  ∀{l1 rest:List Oper} {S:XS} {β:Nat→Nat} {ρ:Nat→Value} {a:Act} {k:XS→Option R},Rel X β ρ S.flat a w→Qng st l1 S k=some r→TOk P ⟨ops⟩ Qs rest X w S β ρ k r→wpStill P ⟨ops⟩ w Qs (l1++rest) a
 | [],rest,S,β,ρ,a,k,h,hs,H=>H β ρ S a hs (Y6.refl _ _ _) h
 | o::l1,rest,S,β,ρ,a,k,h,hs,H=>by
  simp only[Qng]at hs
  refine zg (rest:=l1++rest) h hs fun β' ρ' S' a' hk xu h'=>?_
  exact Qqz st zg h' hk (H.after xu)
end
theorem T7(hT:Q4 P Y.T)(hX:X.n=n)(hr:X.res=[]){ops:List Oper}{Qs:Act→Prop}:∀{R:Type} {r:R} (h:Hn) {l rest:List Oper} {S:XS} {β:Nat→Nat} {ρ:Nat→Value} {a:Act} {k:XS→Option R},
  Rel X β ρ S.flat a w→L8 Y n ops h l S k=some r→TOk P ⟨ops⟩ Qs rest X w S β ρ k r→wpStill P ⟨ops⟩ w Qs (l++rest) a
 | R,r,.done,l,rest,S,β,ρ,a,k,hS,hs,H=>by
  cases l with
  | nil=>exact H β ρ S a (by simpa[L8]using hs) (Y6.refl _ _ _) hS
  | cons o l=>simp[L8]at hs
 | R,r,.n m g,l,rest,S,β,ρ,a,k,hS,hs,H=>by
  simp only[L8]at hs
  have:=Qqz (P:=P) (X:=X) (w:=w) (r:=r) (Qxb Y n ops) (fun h1 h2 h3=>Jb0 hT hX hr h1 h2 h3) (l1:=l.take m) (rest:=l.drop m++rest) hS hs fun β' ρ' S' a' h1 h2 h3=>T7 hT hX hr g h3 h1 (H.after h2)
  rwa[←QH,JH]at this
 | R,r,.nl m g,l,rest,S,β,ρ,a,k,hS,hs,H=>by
  simp only[L8]at hs
  have:=Qqz (P:=P) (X:=X) (w:=w) (r:=r) (Qxc Y n ops) (fun h1 h2 h3=>Jb1 hT hX hr h1 h2 h3) (l1:=l.take m) (rest:=l.drop m++rest) hS hs fun β' ρ' S' a' h1 h2 h3=>T7 hT hX hr g h3 h1 (H.after h2)
  rwa[←QH,JH]at this
 | R,r,.call c g,l,rest,S,β,ρ,a,k,hS,hs,H=>by simp[L8]at hs
 | R,r,.fz id g,l,rest,S,β,ρ,a,k,hS,hs,H=>by simp[L8]at hs
 | R,r,.keep ts g,l,rest,S,β,ρ,a,k,hS,hs,H=>by simp[L8]at hs
 | R,r,.md m g,l,rest,S,β,ρ,a,k,hS,hs,H=>by simp[L8]at hs
 | R,r,.cl _ _,l,rest,S,β,ρ,a,k,hS,hs,H=>by simp[L8]at hs
 | R,r,.op _ _ _ _,l,rest,S,β,ρ,a,k,hS,hs,H=>by simp[L8]at hs
 | R,r,.fm _ _,l,rest,S,β,ρ,a,k,hS,hs,H=>by simp[L8]at hs
 | R,r,.tl g,l,rest,S,β,ρ,a,k,hS,hs,H=>by simp[L8]at hs
 | R,r,.dt _ g,l,rest,S,β,ρ,a,k,hS,hs,H=>by simp[L8]at hs
 | R,r,.si _ _ _ _,l,rest,S,β,ρ,a,k,hS,hs,H=>by simp[L8]at hs
 | R,r,.so t x y,l,rest,S,β,ρ,a,k,hS,hs,H=>by simp[L8]at hs
 | R,r,.sp t m ks ms Γ x y g,l,rest,S,β,ρ,a,k,hS,hs,H=>by
  simp only[L8]at hs
  split at hs
  ·rename_i t' v he
   have zb:t'=t:=(U2 he).2
   subst zb
   obtain⟨hb,hs⟩:=bvT hs
   obtain⟨z,hz,hs⟩:=Yk hs
   have hp:=Q8u hS he
   have fin:TOk P ⟨ops⟩ Qs (l.drop m++rest) X w ((XS.put S t' [] (.d .bool v)).ent ks ms) β ρ (fun S'=>S'.dec Γ) z:=by
    intro β1 ρ1 S' a' hd hk h1
    obtain⟨β2,ρ2,h2,h3⟩:=If (S0:=(XS.put S t' [] (.d .bool v)).ent ks ms) h1 ⟨hk.fix,hk.fixM,hk.prot⟩ hd
    rw[←Qcw]at h3
    refine T7 hT hX hr g h3 hs (H.after ⟨rfl,rfl,rfl,?_⟩)
    exact agP.trans hk.ag h2
   have e:l++rest=l.take m++(l.drop m++rest):=by rw[←QH,JH]
   rw[e]
   cases v with
   | true =>
    rw[if_pos rfl]at hz
    exact T7 hT hX hr x (hp.ent ks ms) hz fin
   | false =>
    rw[if_neg (by simp)]at hz
    exact T7 hT hX hr y (hp.ent ks ms) hz fin
  ·cases hs
theorem Rel.drew(h:Rel X β ρ S.flat a w):Rel X β ρ S.flat a { w with drawn:=w.drawn+1 }:=Sb.below h ((Below.refl _ _).drew)
end
end Gx

/- A region whose order is drawn, by an invariant alone. -/
namespace Gx
open Go Go.RowKit Gd
set_option linter.unusedVariables false
set_option linter.unusedSimpArgs false
section
variable {P:Program} {a:Act} {w:World}
theorem Q59(I:(Nat→Bool)→Act→World→Prop){id:Nat}{l:List Oper}{Q:Exit→Act→World→Prop}(hm:P.follows .mixedOrders=true)(p:Nat)(hIE:∀(E E':Nat→Bool) (a:Act) (w:World),(∀i,i<p→E i=E' i)→I E a w→I E' a w)
  (mz:Nat.ble p l.length=true) (pq:Gd.backB l=true) (yn:Jpb l p=true) (h0:I (fun _=>false) a w.drew)
  (u9:∀(E:Nat→Bool) (i:Nat) (o:Oper) (a:Act) (w:World) (Q':Exit→Act→World→Prop),i<p→l[i]?=some o→Qpm l (fun j=>E j=true)→E i=false→(∀e∈o.after.toList,Region.binds .any e=true→E e.on=true)→I E a w →
   (∀a' w',I (fun j=>j==i||E j) a' w'→Q' .normal a' w')→wpList P ⟨l⟩ Q' [o] a w)
  (lf:∀a' w',I (fun _=>true) a' w'→wpList P ⟨l⟩ Q (l.drop p) a' w') :
  (Code.region id ⟨l⟩ true).wp P Q a w:=by
 refine wp_region_any hm ?_
 have ik:=QF mz
 let E (listed:Array Bool):Nat→Prop:=fun i=>listed.getD i false=true
 let J1 (listed:Array Bool) (a:Act) (w:World):Prop:=(∀k,p≤k→¬ E listed k)∧I (fun i=>listed.getD i false) a w
 let J (listed:Array Bool) (a:Act) (w:World):Prop:=listed.size=l.length∧Qpm l (E listed) ∧
  (J1 listed a w∨(∃k,p<k∧(∀i,i<l.length→(E listed i↔i<k))∧wpList P ⟨l⟩ Q (l.drop k) a w))
 have wa:∀(listed:Array Bool) (i j:Nat),listed.size=l.length→i<l.length→(E (listed.setIfInBounds i true) j↔(j=i∨E listed j)):=by
  intro listed i j hs hi
  simp only[E,JC,ZL,hs]
  by_cases hj:i=j
  ·subst hj; simp[hi]
  ·have n0:¬ j=i:=fun e=>hj e.symm
   simp[hj,n0]
 have hsetB:∀(listed:Array Bool) (i j:Nat),listed.size=l.length→i<l.length→(listed.setIfInBounds i true).getD j false=(j==i||listed.getD j false):=by
  intro listed i j hs hi
  have:=wa listed i j hs hi
  simp only[E]at this
  cases h1:(listed.setIfInBounds i true).getD j false with
  | true =>
   rcases this.1 h1 with rfl | h2
   ·simp
   ·simp[h2]
  | false =>
   cases h2:(j==i||listed.getD j false)with
   | false=>rfl
   | true =>
    simp only[JS,beq_iff_eq]at h2
    rw[this.2 h2]at h1; cases h1
 have jt:∀listed a w,J1 listed a w→(∀j,j<p→E listed j)→wpList P ⟨l⟩ Q (l.drop p) a w:=by
  rintro listed a w ⟨qf,hI⟩ zi
  exact lf a w (hIE _ _ a w (fun i hi=>zi i hi) hI)
 have jw:∀listed a w,J listed a w→(∀i,i<l.length→E listed i)→Q .normal a w:=by
  rintro listed a w ⟨hs,hc,h1 | ⟨k,hk,hE,hw⟩⟩ zi
  ·have sj:p=l.length:=by
    rcases JL p l.length with hlt | wx
    ·exact absurd (zi p hlt) (h1.1 p (QD _))
    ·omega
   have:=jt listed a w h1 fun i hi=>zi i (by omega)
   rw[sj,ZS]at this
   exact this
  ·have ez:l.length≤k:=by
    rcases JL k l.length with hlt | wx
    ·have:=(hE k hlt).1 (zi k hlt); omega
    ·exact wx
   rw[VC ez]at hw
   exact hw
 have step1:∀(listed:Array Bool) (a:Act) (w:World) (i:Nat) (o:Oper) (Q':Exit→Act→World→Prop),listed.size=l.length→Qpm l (E listed)→J1 listed a w→i<p→l[i]?=some o→¬ E listed i →
   (∀e∈o.after.toList,Region.binds .any e=true→listed.getD e.on false=true)→(∀a' w',J1 (listed.setIfInBounds i true) a' w'→Q' .normal a' w')→wpList P ⟨l⟩ Q' [o] a w:=by
  rintro listed a w i o Q' hs hc ⟨qf,hI⟩ fk ho qh vf hK
  have uh:i<l.length:=by omega
  have hnotE:listed.getD i false=false:=by
   cases h1:listed.getD i false with
   | false=>rfl
   | true=>exact absurd h1 qh
  refine u9 (fun i=>listed.getD i false) i o a w Q' fk ho hc hnotE vf hI fun a' w' hI'=>hK a' w' ⟨fun k hk hEk=>?_,hIE _ _ a' w' (fun j _=>(hsetB listed i j hs uh).symm) hI'⟩
  rw[wa listed i k hs uh]at hEk
  rcases hEk with rfl | hEk
  ·omega
  ·exact qf k hk hEk
 have main:∀(fuel:Nat) (listed:Array Bool) (a:Act) (w:World),J listed a w→((List.range l.length).filter fun i=>!listed.getD i false).length≤fuel→wpAny P .any ⟨l⟩ Q fuel listed a w:=by
  intro fuel
  induction fuel with
  | zero =>
   intro listed a w hJ hle
   have zi:∀i,i<l.length→E listed i:=by
    intro i hi
    cases hl:listed.getD i false with
    | true=>exact hl
    | false =>
     have:i∈(List.range l.length).filter fun i=>!listed.getD i false:=JJ.2 ⟨JT.2 hi,by rw[hl]; rfl⟩
     have uc:=JX (Nat.le_zero.1 hle)
     rw[uc]at this; simp at this
   refine⟨?_,jw listed a w hJ zi⟩
   apply List.eq_nil_iff_forall_not_mem.2
   intro i hi
   rw[Qj2]at hi
   have h1:=zi i hi.1
   have h2:=hi.2.1
   simp only[E]at h1
   have h3:listed.getD i true=listed.getD i false:=by simp[Array.getD,hJ.1,hi.1]
   rw[h3,h1]at h2; cases h2
  | succ fuel ih =>
   intro listed a w hJ hle
   refine⟨fun hr=>jw listed a w hJ (Q5n hJ.1 pq hr),fun i hi=>?_⟩
   rw[Qj2]at hi
   obtain⟨uh,pj,o,ho,vf⟩:=hi
   obtain⟨hs,hc,rj⟩:=hJ
   have qh:¬ E listed i:=by
    intro hE
    have h3:listed.getD i true=listed.getD i false:=by simp[Array.getD,hs,uh]
    rw[h3]at pj; simp only[E]at hE; rw[hE]at pj; cases pj
   have xl:Qpm l (E (listed.setIfInBounds i true)):=by
    intro j oj hj hoj e he hb
    rw[wa listed i _ hs uh]at hj ⊢
    rcases hj with rfl | hj
    ·rw[ho]at hoj; injection hoj with hoj; subst hoj
     exact .inr (vf e he hb)
    ·exact .inr (hc j oj hj hoj e he hb)
   have fl:((List.range l.length).filter fun j=>!(listed.setIfInBounds i true).getD j false).length≤fuel:=by
    have hlt:((List.range l.length).filter fun j=>!(listed.setIfInBounds i true).getD j false).length<((List.range l.length).filter fun j=>!listed.getD j false).length:=by
     apply Qqv (x:=i)
     ·intro j hj
      have:=wa listed i j hs uh
      simp only[E]at this
      cases h1:listed.getD j false with
      | false=>rfl
      | true=>rw[this.2 (.inr h1)]at hj; cases hj
     ·exact JT.2 uh
     ·have:=(wa listed i i hs uh).2 (.inl rfl)
      simp only[E]at this; rw[this]; rfl
     ·cases h1:listed.getD i false with
      | true=>exact absurd h1 qh
      | false=>rfl
    omega
   rcases rj with hJ1 | ⟨k,hk,hE,hw⟩
   ·rcases JL i p with fk | fk
    ·
     exact Qwu ho (step1 listed a w i o (Exit.then (wpAny P .any ⟨l⟩ Q fuel (listed.setIfInBounds i true)) Q) hs hc hJ1 fk ho qh vf fun a' w' hJ1=>ih _ a' w' ⟨by simp[hs],xl,.inl hJ1⟩ fl)
    ·
     have zi:∀j,j<i→E listed j:=fun j hj=>Rm hc l.length i j (Q8t yn fk uh hj) fun o' wm=>by rw[ho]at wm; injection wm with wm; subst wm; exact vf
     have hip':i=p:=by
      rcases JL p i with hlt | wx
      ·exact absurd (zi p hlt) (hJ1.1 p (QD _))
      ·omega
     subst hip'
     have hw:=jt listed a w hJ1 zi
     refine wpOp_mono (fun a w nq=>ih _ a w ⟨by simp[hs],xl,.inr ⟨i+1,by omega,fun j hj=>?_,nq⟩⟩ fl) (Qh2 ho hw)
     rw[wa listed i j hs uh]
     constructor
     ·rintro(rfl | hEj)
      ·omega
      ·rcases JL j i with h1 | h1
       ·omega
       ·exact absurd hEj (hJ1.1 j h1)
     ·intro hlt
      rcases JL j i with h1 | h1
      ·exact .inr (zi j h1)
      ·exact .inl (by omega)
   ·
    have zi:∀j,j<i→E listed j:=by
     intro j hj
     have hpi:p<i:=by
      rcases JL i k with h1 | h1
      ·exact absurd ((hE i uh).2 h1) qh
      ·omega
     exact Rm hc l.length i j (Q8t yn (by omega) uh hj) fun o' wm=>by rw[ho]at wm; injection wm with wm; subst wm; exact vf
    have bx:i=k:=by
     rcases JL i k with h1 | h1
     ·exact absurd ((hE i uh).2 h1) qh
     ·rcases JL k i with h2 | h2
      ·have:=(hE k (by omega)).1 (zi k h2); omega
      ·omega
    subst bx
    refine wpOp_mono (fun a w nq=>ih _ a w ⟨by simp[hs],xl,.inr ⟨i+1,by omega,fun j hj=>?_,nq⟩⟩ fl) (Qh2 ho hw)
    rw[wa listed i j hs uh,hE j hj]
    constructor
    ·rintro(rfl | h1)<;>omega
    ·intro h1
     rcases JL j i with h2 | h2
     ·exact .inr h2
     ·exact .inl (by omega)
 refine main _ _ a _ ⟨by simp,fun i o hE=>?_,.inl ⟨fun k _ hE=>?_,?_⟩⟩ ?_
 ·simp only[E]at hE; simp[JC,KQ]at hE
  split at hE<;>simp at hE
 ·simp only[E]at hE; simp[JC,KQ]at hE
  split at hE<;>simp at hE
 ·refine hIE (fun _=>false) _ a _ (fun i hi=>?_) h0
  simp only[JC,KQ]
  split<;>rfl
 ·refine QN (ZJ _ _) (by simp)
end
end Gx
