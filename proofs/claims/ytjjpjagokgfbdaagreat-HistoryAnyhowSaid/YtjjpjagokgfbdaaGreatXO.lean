/- Calls. -/
import Derived.Test.YtjjpjagokgfbdaaGreatXN
import Derived.StillTail
namespace Gx
open Go Go.RowKit Gd
set_option linter.unusedVariables false
set_option linter.unusedSimpArgs false
def Q04(c:Con)(β:Nat→Nat)(ρ:Nat→Value)(ok:Ok)(L:List Nat)(w:World)(x:c.Γ.De)(y:Qb1 c.Δ)(v:Value)(w':World):Prop :=
 ∃(β':Nat→Nat) (ρ':Nat→Value),agP (c.Γ.mem.map Prod.fst) β β' ρ ρ' ∧
  (∃cs,v=(Rs (Qcm c.Δ y).env).val cs∧cr β' ρ' (Je (okL L ok) w.heap.size (fun _=>0) [] (Qf β' ρ' ((Qcm c.Δ y).mem++roM c x)) w') w' false (Rs (Qcm c.Δ y).env) cs) ∧
  (∀t∈Qf β' ρ' ((Qcm c.Δ y).mem++roM c x),t.p (Je (okL L ok) w.heap.size (fun _=>0) [] (Qf β' ρ' ((Qcm c.Δ y).mem++roM c x)) w') w'∧∀g,t.blks g→w.heap.size≤g∨g∈L) ∧
  (Qf β' ρ' ((Qcm c.Δ y).mem++roM c x)).Pairwise fun s t=>∀g,s.blks g→¬ t.blks g
def Vr(gl:List (Nat×Σ t:Ty,t.De))(ok:Ok)(w:World):Prop :=
 ∀q∈gl,Qo9 (rt q.2.1) ok w q.2.2 (.pointer (some ⟨q.1,0,none⟩))∧ok q.1 0∧∃cs t fz,w.heap[q.1]?=some (.cells cs t fz)∧cs.size=q.2.1.size
theorem Vr.keep{gl:List (Nat×Σ t:Ty,t.De)}{ok:Ok}{w w':World}(h:Vr gl ok w)(hs:w.heap.size≤w'.heap.size)(hb:∀b o,ok b o→w'.heap[b]?=w.heap[b]?):Vr gl ok w' :=
 fun q hq=>let⟨h1,h2,h3⟩:=h q hq; ⟨h1.evo (Evo.of_blocks hs hb),h2,by rw[hb _ _ h2]; exact h3⟩
theorem Vr.weak{gl:List (Nat×Σ t:Ty,t.De)}{ok ok':Ok}{w:World}(h:Vr gl ok w)(hk:∀b o,ok b o→ok' b o):Vr gl ok' w:=fun q hq=>let⟨h1,h2,h3⟩:=h q hq; ⟨h1.weak hk,hk _ _ h2,h3⟩
def okN(X:Cx):Ok:=fun b o=>X.ok b o∧b∉X.lent∧b<X.w.heap.size
theorem Lq{gl:List (Nat×Σ t:Ty,t.De)}{X:Cx}{β:Nat→Nat}{G:GL}{D:List DF}{O:List TL}{a:Act}{w:World}(h:Sb β X G D [] O a w)(hG:Vr gl (okN X) X.w):Vr gl (Je X.ok X.w.heap.size β [] O w) w:=by
 refine(hG.keep h.bel.size fun b o hk=>h.bel.block b hk.2.2 hk.2.1).weak fun b o hk=>⟨.inl hk.1,JG hk.2.2 h.bel.size,by simp,fun t ht hc=>?_⟩
 rcases(h.own t ht).2 b (t.cb hc)with h1 | h1
 ·have:=hk.2.2; omega
 ·exact hk.2.1 h1
def Qfv(P:Program)(gl:List (Nat×Σ t:Ty,t.De))(c:Con):Prop :=
 ∀(ok:Ok) (w:World) (L:List Nat) (β:Nat→Nat) (ρ:Nat→Value) (x:c.Γ.De) (y:Qb1 c.Δ) (vs:List Value),(∀b o,ok b o→b<w.heap.size)→Vr gl ok w→vs.length=c.Γ.env.length→Qlx (Qf β ρ (enc c.Γ x).mem) L ok w →
  (∀e∈(enc c.Γ x).env,∃cs,vs[e.t]?=some (e.av.val cs)∧cr β ρ ok w false e.av cs)→c.fn x=some y→Calls P c.f ⟨vs⟩ w (Qwl L w (Q04 c β ρ ok L w x y))
section
variable {β β':Nat→Nat} {ρ ρ':Nat→Value} {ok:Ok} {w:World}
theorem Tx{g:Nat→Nat}:∀{m:Bool} {x:AV} {cs:List Value},(∀i∈Ja x,β' (g i)=β i∧ρ' (g i)=ρ i)→cr β ρ ok w m x cs→cr β' ρ' ok w m (Kz g x) cs
 | m,.d t x,cs,_,h=>by cases m<;>exact h
 | m,.p id path,cs,hn,h=>by
  have:=(hn id (.head _)).1
  cases m<;>(simp only[cr,Kz]at h ⊢; rw[this]; exact h)
 | m,.e id path,cs,hn,h=>by
  have:=(hn id (.head _)).2
  cases m<;>(simp only[cr,Kz]at h ⊢; rw[this]; exact h)
 | m,.s id,cs,hn,h=>by
  have:=(hn id (.head _)).2
  cases m<;>(simp only[cr,Kz]at h ⊢; rw[this]; exact h)
 | m,.m id,cs,hn,h=>by
  have:=(hn id (.head _)).1
  cases m<;>(simp only[cr,Kz]at h ⊢; rw[this]; exact h)
 | m,.b id,cs,hn,h=>by
  have:=(hn id (.head _)).1
  cases m<;>(simp only[cr,Kz]at h ⊢; rw[this]; exact h)
 | m,.w id _ _,cs,hn,h=>by
  have:=(hn id (.head _)).1
  cases m<;>(simp only[cr,Kz]at h ⊢; rw[this]; exact h)
 | m,.a t x,cs,_,h=>by cases m<;>exact h
 | m,.z,cs,_,h=>by cases m<;>exact h
 | m,.ns,cs,_,h=>by cases m<;>exact h
 | m,.np,cs,_,h=>by cases m<;>exact h
 | m,.nm,cs,_,h=>by cases m<;>exact h
 | m,.nf,cs,_,h=>by cases m<;>exact h
 | m,.f fn caps,cs,hn,h=>by cases m<;>exact let⟨vs,h1,h2⟩:=h; ⟨vs,h1,Tx (fun i hi=>hn i (by simpa[Ja]using hi)) h2⟩
 | m,.ag l,cs,hn,h=>by cases m<;>exact Tx (m:=false) (x:=l) (fun i hi=>hn i (by simpa[Ja]using hi)) h
 | m,.tp l,cs,hn,h=>by cases m<;>exact let⟨vs,h1,h2⟩:=h; ⟨vs,h1,Tx (fun i hi=>hn i (by simpa[Ja]using hi)) h2⟩
 | m,.nil,cs,_,h=>by cases m<;>exact h
 | true,.cons x r,cs,hn,h=>by
  obtain⟨c1,vs,h1,h2,h3⟩:=h
  refine⟨c1,vs,?_,Tx (fun i hi=>hn i (by simp[Ja,hi])) h2,Tx (fun i hi=>hn i (by simp[Ja,hi])) h3⟩
  rw[h1]; cases x<;>rfl
 | false,.cons x r,cs,hn,h=>by
  exact let⟨c1,vs,h1,h2,h3⟩:=h; ⟨c1,vs,h1,Tx (fun i hi=>hn i (by simp[Ja,hi])) h2,Tx (fun i hi=>hn i (by simp[Ja,hi])) h3⟩
theorem Jkv(g:Nat→Nat)(x:AV)(cs:List Value):(Kz g x).val cs=x.val cs:=by cases x<;>rfl
theorem Qxg{g:Nat→Nat}:∀{l:List (Nat×Ob)},(∀i∈Jb l,β' (g i)=β i∧ρ' (g i)=ρ i)→K9 (Qf β ρ l) (Qf β' ρ' (Kk g l))
 | [],_=>.nil
 | (id,o)::l,h=>by
  have h1:=h id (by
   cases o with
   | mapC k v xs hole=>cases hole<;>simp[Jb]
   | _=>simp[Jb])
  refine .cons ?_ (Qxg fun i hi=>h i (by
   cases o with
   | mapC k v xs hole=>cases hole<;>simp[Jb,hi]
   | _=>simp[Jb,hi]))
  cases o with
  | var t c =>
   refine⟨fun b=>by simp only[Qw,Ql1,Qib]; rw[h1.1],fun b o=>by simp only[Qw,Ql1,Qib]; rw[h1.1],fun ok w hp=>?_⟩
   obtain⟨cs,hh,hc⟩:=hp
   exact⟨cs,by rw[h1.1]; exact hh,Tx (fun i hi=>h i (by simp[Jb,hi])) hc⟩
  | row e t xs=>simp only[Qw,Qib,h1.2]; exact X7.refl _
  | tail e t xs=>simp only[Qw,Qib,h1.2]; exact X7.refl _
  | map k v xs=>simp only[Qw,Qib,h1.1]; exact X7.refl _
  | mapC k v xs hole =>
   cases hole with
   | none=>simp only[Qw,Qib,h1.1,h1.2,Lw]; exact X7.refl _
   | some q =>
    have h2:=h q.2 (by simp[Jb])
    cases v<;>(simp only[Qw,Qib,h1.1,h1.2,Lw,Qz2,h2.1,h2.2]; exact X7.refl _)
  | mapE k v xs key j=>simp only[Qw,Qib,h1.1,(h j (by simp[Jb])).1]; exact X7.refl _
theorem Quj{l:List (Nat×Ob)}(h:∀i∈Jb l,β' i=β i∧ρ' i=ρ i):K9 (Qf β ρ l) (Qf β' ρ' l):=by
 have:=Qxg (g:=id) (β':=β') (ρ':=ρ') h
 have e:Kk id l=l:=by
  have hav:∀x:AV,Kz id x=x:=by intro x; induction x<;>simp_all [Kz]
  have:∀q:Nat×Ob,(id q.1,Qib id q.2)=q:=by intro q; obtain⟨i,o⟩:=q; cases o with
   | mapC k v xs hole=>cases hole<;>simp[Qib]
   | _=>simp[Qib,hav]
  simp only[Kk]
  rw[WK (g:=fun q=>q) (fun q _=>this q)]
  simp
 rw[e]at this
 exact this
end
theorem Ry{c t:Nat}(hne:t≠c):∀M:List (Nat×Ob),Qe (Ju M t) c=Qe M c
 | []=>rfl
 | q::l=>by
  simp only[Ju,Qe]
  cases hb:Nat.beq q.1 t with
  | true =>
   have h1:=QJ hb
   cases hc:Nat.beq q.1 c with
   | true=>exact absurd (h1.symm.trans (QJ hc)) hne
   | false=>rfl
  | false =>
   simp only[cond_false,Qe,Ry hne l]
theorem Zx:∀(ids:List Nat) (M:List (Nat×Ob)),((Jm M ids).2++(Jm M ids).1).Perm M
 | [],M=>by simp[Jm]
 | t::ts,M=>by
  simp only[Jm]
  split
  ·rename_i o ho
   obtain⟨l1,l2,h1,_,h3⟩:=Ji ho
   have:=Zx ts (Ju M t)
   simp only[QA]
   refine(List.Perm.cons _ this).trans ?_
   rw[h3,h1]
   exact XZ.symm
  ·exact Zx ts M
theorem Tz:∀{ids:List Nat} {M:List (Nat×Ob)} {c:Nat} {o:Ob},ids.Nodup→c∈ids→Qe M c=some o→(c,o)∈(Jm M ids).2
 | t::ts,M,c,o,hn,hc,ho=>by
  have hn':=JA.1 hn
  simp only[Jm]
  rcases QX.1 hc with rfl | hc
  ·rw[ho]; exact .head _
  ·have hne:t≠c:=fun e=>hn'.1 (e▸hc)
   split
   ·exact .tail _ (Tz hn'.2 hc (by rw[Ry hne]; exact ho))
   ·exact Tz hn'.2 hc ho
theorem T0:∀{ids:List Nat} {M:List (Nat×Ob)},ids.Nodup→∀q∈(Jm M ids).2,q.1∈ids∧Qe M q.1=some q.2
 | [],M,_,q,hq=>by simp[Jm]at hq
 | t::ts,M,hn,q,hq=>by
  have hn':=JA.1 hn
  simp only[Jm]at hq
  split at hq
  ·rename_i o ho
   rcases QX.1 hq with rfl | hq
   ·exact⟨.head _,ho⟩
   ·obtain⟨h1,h2⟩:=T0 hn'.2 q hq
    exact⟨.tail _ h1,by rw[Ry (fun e=>hn'.1 (by rw[e]; exact h1))]at h2; exact h2⟩
  ·obtain⟨h1,h2⟩:=T0 hn'.2 q hq
   exact⟨.tail _ h1,h2⟩
theorem Qkj:∀{Γe:List (Nat×Sk)} {l:List DV},∀e∈(Ia Γe l).1,e.cs=[]
 | [],l,e,he=>by simp[Ia]at he
 | (t,s)::g,l,e,he=>by
  simp only[Ia]at he
  rcases QX.1 he with rfl | he
  ·rfl
  ·exact Qkj e he
theorem N7{ri:List (Nat×Nat)}:∀{Γm:List (Nat×SkO)} {id c:Nat},id∈Γm.map Prod.fst→Jp ri id=some c→c∈J3 ri Γm
 | (k,s)::l,id,c,h,hc=>by
  simp only[J3]
  rcases QX.1 h with e | h
  ·simp only at e; subst e
   rw[hc]; exact .head _
  ·split
   ·exact .tail _ (N7 h hc)
   ·exact N7 h hc
theorem Fd{ri:List (Nat×Nat)}:∀{Γm:List (Nat×SkO)} {c:Nat},c∈J3 ri Γm→∃id∈Γm.map Prod.fst,Jp ri id=some c
 | (k,s)::l,c,h=>by
  simp only[J3]at h
  split at h
  ·rename_i x hx
   rcases QX.1 h with rfl | h
   ·exact⟨k,.head _,hx⟩
   ·obtain⟨id,h1,h2⟩:=Fd h; exact⟨id,.tail _ h1,h2⟩
  ·obtain⟨id,h1,h2⟩:=Fd h; exact⟨id,.tail _ h1,h2⟩
theorem C0{ri:List (Nat×Nat)}:∀{Γm:List (Nat×SkO)} {cs:List Nat},Fy ri Γm cs=true→(J3 ri Γm).Nodup∧∀c∈J3 ri Γm,c∉cs
 | [],_,_=>⟨.nil,by simp[J3]⟩
 | (id,s)::l,cs,h=>by
  simp only[Fy]at h
  simp only[J3]
  split at h
  ·rename_i c hc
   simp only[QQ]at h
   obtain⟨h1,h2⟩:=C0 h.2
   refine⟨JA.2 ⟨fun hm=>h2 c hm (.head _),h1⟩,fun x hx=>?_⟩
   rcases QX.1 hx with rfl | hx
   ·intro hm
    have:=h.1
    rw[Ze.2 hm]at this
    cases this
   ·exact fun hm=>h2 x hx (.tail _ hm)
  ·exact C0 h
theorem Ty.cast_self(t:Ty)(x:t.De):Ty.cast t t x=some x:=by
 unfold Ty.cast
 rw[dif_pos (Ty.beq_refl t)]
theorem Rz{M:List (Nat×Ob)}{ri:List (Nat×Nat)}{pr:List Nat}{g:Nat→Nat}(hg:∀i c,Jp ri i=some c→g i=c):∀{sk:Sk} {x:AV} {l:List DV} (rest:List DV),V2 M ri pr sk x=some l→∃y,L3 sk (l++rest)=(y,rest)∧(Qgi sk x=true→Kz g y=x)
 | .d t,x,l,rest,h=>by
  simp only[V2]at h
  split at h
  ·rename_i z0 hz
   obtain⟨_,h⟩:=bvT h
   simp only[Option.some.injEq]at h
   subst h
   refine⟨.d t z0,rfl,fun hs=>?_⟩
   cases x<;>first | (cases hs; done) | skip
   rename_i t' x'
   simp only[asD]at hz
   obtain⟨e,h2⟩:=Ty.cast_ok hz
   subst e; subst h2
   rfl
  ·cases h
 | .p id path,x,l,rest,h=>by
  cases x<;>simp only[V2]at h<;>first | (cases h; done) | skip
  rename_i c path'
  obtain⟨hb,h⟩:=bvT h
  simp only[QQ]at hb
  simp only[Option.some.injEq]at h
  subst h
  exact⟨.p id path,rfl,fun _=>by simp only[Kz]; rw[hg _ _ (Qem hb.1),Qke hb.2]⟩
 | .s id,x,l,rest,h=>by
  cases x<;>simp only[V2]at h<;>first | (cases h; done) | skip
  ·rename_i c
   obtain⟨hb,h⟩:=bvT h
   simp only[QQ]at hb
   simp only[Option.some.injEq]at h
   subst h
   exact⟨.s id,rfl,fun _=>by simp only[Kz]; rw[hg _ _ (Qem hb.1)]⟩
  ·obtain⟨hb,h⟩:=bvT h
   simp only[Option.some.injEq]at h
   subst h
   exact⟨.s id,rfl,fun hs=>by cases hs⟩
 | .m id,x,l,rest,h=>by
  cases x<;>simp only[V2]at h<;>first | (cases h; done) | skip
  rename_i c
  obtain⟨hb,h⟩:=bvT h
  simp only[Option.some.injEq]at h
  subst h
  exact⟨.m id,rfl,fun _=>by simp only[Kz]; rw[hg _ _ (Qem hb)]⟩
 | .ns,x,l,rest,h=>by
  cases x<;>simp only[V2]at h<;>first | (cases h; done) | skip
  simp only[Option.some.injEq]at h; subst h; exact⟨_,rfl,fun _=>rfl⟩
 | .np,x,l,rest,h=>by
  cases x<;>simp only[V2]at h<;>first | (cases h; done) | skip
  simp only[Option.some.injEq]at h; subst h; exact⟨_,rfl,fun _=>rfl⟩
 | .nm,x,l,rest,h=>by
  cases x<;>simp only[V2]at h<;>first | (cases h; done) | skip
  simp only[Option.some.injEq]at h; subst h; exact⟨_,rfl,fun _=>rfl⟩
 | .nf,x,l,rest,h=>by
  cases x<;>simp only[V2]at h<;>first | (cases h; done) | skip
  simp only[Option.some.injEq]at h; subst h; exact⟨_,rfl,fun _=>rfl⟩
 | .z,x,l,rest,h=>by
  cases x<;>simp only[V2]at h<;>first | (cases h; done) | skip
  simp only[Option.some.injEq]at h; subst h; exact⟨_,rfl,fun _=>rfl⟩
 | .nil,x,l,rest,h=>by
  cases x<;>simp only[V2]at h<;>first | (cases h; done) | skip
  simp only[Option.some.injEq]at h; subst h; exact⟨_,rfl,fun _=>rfl⟩
 | .f fn c,x,l,rest,h=>by
  cases x<;>simp only[V2]at h<;>first | (cases h; done) | skip
  rename_i fn' x'
  obtain⟨hb,h⟩:=bvT h
  simp only[QQ]at hb
  obtain⟨y,h1,h2⟩:=Rz hg rest h
  refine⟨.f fn y,by simp only[L3,h1],fun hs=>?_⟩
  simp only[Kz]
  rw[h2 hs,QJ hb.1]
 | .ag l',x,l,rest,h=>by
  simp only[V2]at h
  split at h
  ·rename_i y hy
   obtain⟨z0,h1,h2⟩:=Rz hg rest h
   refine⟨.ag z0,by simp only[L3,h1],fun hs=>?_⟩
   cases x<;>first | (cases hs; done) | skip
   simp only[Tt,Option.some.injEq]at hy
   subst hy
   simp only[Kz]
   rw[h2 hs]
  ·cases h
 | .cons a b,x,l,rest,h=>by
  cases x<;>simp only[V2]at h<;>first | (cases h; done) | skip
  split at h
  ·rename_i u v hu hv
   simp only[Option.some.injEq]at h
   subst h
   obtain⟨y1,p1,p2⟩:=Rz hg (v++rest) hu
   obtain⟨y2,q1,q2⟩:=Rz hg rest hv
   refine⟨.cons y1 y2,by simp only[L3,QH,p1,q1],fun hs=>?_⟩
   simp only[Qgi,QQ]at hs
   simp only[Kz]
   rw[p2 hs.1,q2 hs.2]
  ·cases h
theorem Jge{M:List (Nat×Ob)}{ri:List (Nat×Nat)}{pr:List Nat}{g:Nat→Nat}(hg:∀i c,Jp ri i=some c→g i=c){s:SkO}{o:Option Ob}{l:List DV}(rest:List DV)(h:Rr M ri pr s o=some l):∃ob',D9 s (l++rest)=some (ob',rest)∧∀ob,o=some ob→Jl8 s ob=true→Qib g ob'=ob:=by
 have cs:∀{t:Ty} {x:t.De},Ty.cast t t x=some x:=fun {t x}=>Ty.cast_self t x
 cases s with
 | var tid c =>
  cases o with
  | none=>cases h
  | some ob =>
   cases ob<;>simp only[Rr]at h<;>first | (cases h; done) | skip
   obtain⟨hb,h'⟩:=bvT h
   obtain⟨y,h1,h2⟩:=Rz hg rest h'
   refine⟨.var tid y,by simp only[D9,h1],fun ob he hs=>?_⟩
   injection he with he; subst he
   simp only[Qib]
   rw[h2 hs,QJ hb]
 | row e t =>
  cases o with
  | none =>
   simp only[Rr,Option.some.injEq]at h
   subst h
   exact⟨.row e t [],by simp only[D9,QA,QD,cs],fun ob he=>by cases he⟩
  | some ob =>
   cases ob<;>simp only[Rr]at h<;>first | (cases h; done) | skip
   rename_i e' t' xs
   obtain⟨hb,h'⟩:=bvT h
   simp only[QQ]at hb
   have e1:=QJ hb.1
   have e2:=Ty.beq_eq hb.2
   clear h hb
   subst e1; subst e2
   injection h' with h'
   subst h'
   refine⟨.row e t xs,by simp only[D9,QA,QD,cs],fun ob he hs=>?_⟩
   injection he
 | tail e t =>
  cases o with
  | none =>
   simp only[Rr,Option.some.injEq]at h
   subst h
   exact⟨.tail e t [],by simp only[D9,QA,QD,cs],fun ob he=>by cases he⟩
  | some ob =>
   cases ob<;>simp only[Rr]at h<;>first | (cases h; done) | skip
   rename_i e' t' xs
   obtain⟨hb,h'⟩:=bvT h
   simp only[QQ]at hb
   have e1:=QJ hb.1
   have e2:=Ty.beq_eq hb.2
   clear h hb
   subst e1; subst e2
   injection h' with h'
   subst h'
   refine⟨.tail e t xs,by simp only[D9,QA,QD,cs],fun ob he hs=>?_⟩
   injection he
 | map k u =>
  cases o with
  | none=>cases h
  | some ob =>
   cases ob<;>simp only[Rr]at h<;>first | (cases h; done) | skip
   rename_i k' u' xs
   obtain⟨hb,h'⟩:=bvT h
   simp only[QQ]at hb
   have e1:=Ty.beq_eq hb.1
   have e2:=Ty.beq_eq hb.2
   clear h hb
   subst e1; subst e2
   injection h' with h'
   subst h'
   refine⟨.map k u xs,by simp only[D9,QA,QD,cs],fun ob he hs=>?_⟩
   injection he
 | mapC k u =>
  cases o with
  | none=>cases h
  | some ob =>
   cases ob<;>simp only[Rr]at h<;>first | (cases h; done) | skip
   rename_i k' u' xs hole
   obtain⟨hb,h'⟩:=bvT h
   simp only[QQ]at hb
   have e1:=Ty.beq_eq hb.1.1
   have e2:=CK.beq_eq hb.1.2
   clear h
   subst e1; subst e2
   injection h' with h'
   subst h'
   exact⟨.mapC k u xs none,by simp only[D9,QA,QD,cs],fun ob he hs=>by cases ob<;>cases hs⟩
theorem Q05{ro:List Nat}{id:Nat}{s:SkO}{G:List (Nat×SkO)}:rdG ro ((id,s)::G)=bif Ya ro id then(id,s)::rdG ro G else rdG ro G:=by
 unfold rdG
 cases hm:Ya ro id<;>simp[XG,hm]
theorem Jgf{ro:List Nat}{id:Nat}{s:Ob}{G:List (Nat×Ob)}:rdM ro ((id,s)::G)=bif Ya ro id then(id,s)::rdM ro G else rdM ro G:=by
 unfold rdM
 cases hm:Ya ro id<;>simp[XG,hm]
theorem Quk{id:Nat}{ob:Ob}:Zv id (some ob)=some (id,ob):=rfl
theorem Qxh{M:List (Nat×Ob)}{ri:List (Nat×Nat)}{pr ro:List Nat}{g:Nat→Nat}(hg:∀i c,Jp ri i=some c→g i=c):∀{Γm:List (Nat×SkO)} {l:List DV},O5 M [] ri pr Γm=some l→Qt2 ri M (rdG ro Γm)=true →
  Kk g (rdM ro (U2 Γm l))=(J3 ri (rdG ro Γm)).filterMap fun t=>Zv t (Qe M t)
 | [],l,h,hs=>by simp only[O5,Option.some.injEq]at h; subst h; rfl
 | (id,s)::G,l,h,hs=>by
  simp only[O5]at h
  split at h
  ·rename_i o ho
   split at h
   ·rename_i u v hu hv
    simp only[Option.some.injEq]at h
    subst h
    obtain⟨ob',h1,h2⟩:=Jge hg v hu
    simp only[U2,h1]
    rw[Jgf,Q05]
    rw[Q05]at hs
    cases hm:Ya ro id with
    | false =>
     rw[hm]at hs
     exact Qxh hg hv hs
    | true =>
     rw[hm]at hs
     simp only[cond_true,Qt2,QQ]at hs ⊢
     obtain⟨hs1,hs2⟩:=hs
     split at hs1
     ·rename_i c hc
      split at hs1
      ·rename_i ob hob
       have ho':o=some ob:=by
        simp only[Q77,hc,hob,Option.some.injEq]at ho
        exact ho.symm
       have ih:=Qxh hg hv hs2
       unfold Kk at ih
       simp only[Kk,JV,J3,hc,XE,hob,Quk]
       rw[h2 ob ho' hs1,hg _ _ hc,ih]
      ·cases hs1
     ·cases hs1
   ·cases h
  ·cases h
theorem T1{c:Nat}:∀{ts:List Nat} {M:List (Nat×Ob)},c∉ts→Qe (Jm M ts).1 c=Qe M c
 | [],M,_=>rfl
 | t::ts,M,h=>by
  have h1:t≠c:=fun e=>h (e▸.head _)
  have h2:c∉ts:=fun hm=>h (.tail _ hm)
  simp only[Jm]
  split
  ·rw[T1 h2,Ry h1]
  ·exact T1 h2
theorem Jpf{α β:Type}{f g:α→Option β}:∀{l:List α},(∀x∈l,f x=g x)→l.filterMap f=l.filterMap g
 | [],_=>rfl
 | x::l,h=>by
  simp only[XE]
  rw[h x (.head _),Jpf fun y hy=>h y (.tail _ hy)]
theorem Pa:∀{ids:List Nat} {M:List (Nat×Ob)},ids.Nodup→(Jm M ids).2=ids.filterMap fun t=>Zv t (Qe M t)
 | [],M,_=>rfl
 | t::ts,M,hn=>by
  have hn':=JA.1 hn
  simp only[Jm]
  split
  ·rename_i o ho
   simp only[XE,ho,Quk]
   rw[Pa hn'.2]
   refine congrArg _ (Jpf fun x hx=>?_)
   rw[Ry (c:=x) (t:=t) fun e=>hn'.1 (by rw[e]; exact hx)]
  ·rename_i ho
   simp only[XE,ho,Zv]
   exact Pa hn'.2
theorem Qcq{ri:List (Nat×Nat)}:∀{l:List (Nat×SkO)} {cs cs':List Nat},(∀x∈cs',x∈cs)→Fy ri l cs=true→Fy ri l cs'=true
 | [],cs,cs',_,_=>rfl
 | (id,s)::l,cs,cs',hc,h=>by
  simp only[Fy]at h ⊢
  split at h
  ·rename_i c hcc
   simp only[QQ]at h ⊢
   refine⟨?_,Qcq (fun x hx=>?_) h.2⟩
   ·cases hm:Ya cs' c with
    | false=>rfl
    | true =>
     have:=h.1
     rw[Ze.2 (hc c (Ze.1 hm))]at this
     cases this
   ·rcases QX.1 hx with rfl | hx
    ·exact .head _
    ·exact .tail _ (hc x hx)
  ·exact Qcq hc h
theorem X4{ri:List (Nat×Nat)}{p:Nat×SkO→Bool}:∀{l:List (Nat×SkO)} {cs:List Nat},Fy ri l cs=true→Fy ri (l.filter p) cs=true
 | [],cs,_=>rfl
 | (id,s)::l,cs,h=>by
  simp only[Fy]at h
  cases hp:p (id,s)with
  | true =>
   rw[XG,if_pos hp]
   simp only[Fy]
   split at h
   ·rename_i c hcc
    simp only[QQ]at h ⊢
    exact⟨h.1,X4 h.2⟩
   ·exact X4 h
  | false =>
   rw[XG,if_neg (by rw[hp]; simp)]
   split at h
   ·simp only[QQ]at h
    exact X4 (Qcq (fun x hx=>.tail _ hx) h.2)
   ·exact X4 h
theorem Qqm:∀{l:List (Nat×Ob)} {i:Nat},i∈Jb l↔∃q∈l,i∈Jb [q]
 | [],i=>by simp[Jb]
 | q::l,i=>by
  have ih:=Qqm (l:=l) (i:=i)
  have h:Jb (q::l)=Jb [q]++Jb l:=by
   obtain⟨k,o⟩:=q
   cases o with
   | mapC k1 v xs hole=>cases hole<;>simp[Jb]
   | _=>simp[Jb]
  rw[h,QW,ih]
  constructor
  ·rintro(h | ⟨q',h1,h2⟩)
   ·exact⟨q,.head _,h⟩
   ·exact⟨q',.tail _ h1,h2⟩
  ·rintro⟨q',h1,h2⟩
   rcases QX.1 h1 with rfl | h1
   ·exact .inl h2
   ·exact .inr ⟨q',h1,h2⟩
theorem Jbp{l m:List (Nat×Ob)}(h:∀q∈l,q∈m){i:Nat}(hi:i∈Jb l):i∈Jb m:=let⟨q,h1,h2⟩:=Qqm.1 hi; Qqm.2 ⟨q,h q h1,h2⟩
theorem Jbq{l m:List Nat}(h:W8 l m=true){i:Nat}(hi:i∈m):i∈l:=by
 induction m with
 | nil=>cases hi
 | cons x m ih =>
  simp only[W8,QQ]at h
  rcases QX.1 hi with rfl | hi
  ·exact Ze.1 h.1
  ·exact ih h.2 hi
theorem Jqv{M:List (Nat×Ob)}{c:Nat}(h:c∈Y9 M):∃ob,Qe M c=some ob:=by
 induction M with
 | nil=>cases h
 | cons q l ih =>
  simp only[Qe]
  cases hb:Nat.beq q.1 c with
  | true=>exact⟨_,rfl⟩
  | false =>
   simp only[cond_false]
   refine ih ?_
   rcases QX.1 h with e | h
   ·rw[e,JY]at hb; cases hb
   ·exact h
theorem Qqn{l m:List (Nat×Ob)}{c:Nat}(h:Qe l c=none):Qe (l++m) c=Qe m c:=by
 induction l with
 | nil=>rfl
 | cons q l ih =>
  simp only[Qe,QA]at h ⊢
  cases hb:Nat.beq q.1 c with
  | true=>rw[hb]at h; cases h
  | false=>rw[hb]at h; exact ih h
theorem Qik{ks:List Nat}:∀{M:List (Nat×Ob)},Y9 (Y2 ks M)=Y9 M
 | []=>rfl
 | (id,o)::l=>by
  cases o<;>simp only[Y2,Y9,JV]<;>rw[show(Y2 ks l).map Prod.fst=l.map Prod.fst from Qik]
  cases(Ya ks id&&Nat.ble 1 _)<;>rfl
theorem Qul{ri:List (Nat×Nat)}{M:List (Nat×Ob)}:∀{l:List (Nat×SkO)},Qt2 ri M l=true→∀id∈l.map Prod.fst,∃cc,Jp ri id=some cc
 | (i,s)::l,h,id,hid=>by
  simp only[Qt2,QQ]at h
  rcases QX.1 hid with e | hid
  ·simp only at e; subst e
   cases hc:Jp ri id with
   | none=>rw[hc]at h; cases h.1
   | some cc=>exact⟨cc,rfl⟩
  ·exact Qul h.2 id hid
def Qxi(β:Nat→Nat)(ρ:Nat→Value):Nat×Ob→List Nat
 | (id,.var _ _)=>[β id]
 | (id,.map _ _ _)=>[β id]
 | (id,.mapC _ _ _ _)=>β id::(To (ρ id)).flatMap fun v=>(Kb v).toList
 | (id,.mapE _ _ _ _ _)=>[β id]
 | (id,_)=>Jow (ρ id)
theorem Q06{β:Nat→Nat}{ρ:Nat→Value}{q:Nat×Ob}{g:Nat}:g∈Qxi β ρ q↔(Qw β ρ q.1 q.2).blks g:=by
 obtain⟨id,o⟩:=q
 cases o with
 | var t c=>simp[Qxi,Qw,Ql1]
 | row e t xs=>simp only[Qxi,Qzy,Qw,ml]
 | tail e t xs=>simp only[Qxi,Qzy,Qw,Qcg]
 | map k v xs=>simp[Qxi,Qw,Rl]
 | mapC k v xs hole=>simp only[Qxi,Qw,Je8,QX,List.mem_flatMap,Option.mem_toList,Option.mem_def]
 | mapE k9 v9 xs9 key j=>simp[Qxi,Qw,Je9]
def Qop:Ob→Bool
 | .tail _ _ _=>true
 | _=>false
theorem Q07{β:Nat→Nat}{ρ:Nat→Value}{id:Nat}{o:Ob}(h:Qop o=false){b:Nat}(f:Nat)(hb:(Qw β ρ id o).blks b):(Qw β ρ id o).cov b f:=by
 cases o with
 | tail e t xs=>cases h
 | var t c=>exact hb
 | row e t xs=>exact hb
 | map k v xs=>exact hb
 | mapC k v xs hole=>exact hb
 | mapE k9 v9 xs9 key j=>exact hb
theorem Qmb{M F:List (Nat×Ob)}{ri:List (Nat×Nat)}{pr:List Nat}:∀{Γm:List (Nat×SkO)} {l:List DV},Qkd Γm=true→O5 M F ri pr Γm=some l→∀q∈Γm,∀c ob,Jp ri q.1=some c→Qe M c=some ob→Qop ob=false
 | (id,s)::g,l,hn,h,q,hq,c,ob,hc,hob=>by
  simp only[O5]at h
  split at h
  ·rename_i o ho
   split at h
   ·rename_i u v hu hv
    have hn':Qkd g=true:=by cases s<;>simp_all [Qkd]
    rcases QX.1 hq with rfl | hq
    ·simp only[Q77,hc,hob]at ho
     simp at ho; subst ho
     cases s<;>cases ob<;>simp_all [Rr,Qkd,Qop]
    ·exact Qmb hn' hv q hq c ob hc hob
   ·cases h
  ·cases h
section
variable {P:Program} {Y:TX} {X:Cx} {S:XS} {β β':Nat→Nat} {ρ ρ':Nat→Value} {a a':Act} {w w':World} {n:Nat}
variable {ops:Array Oper} {Q:Exit→Act→World→Prop} {rest:List Oper} {R:Type} {k:XS→Option R} {r:R}
theorem Q8j(h:Rel X β ρ S.flat a w):∀{xs:List Operand} {i:Nat} {es:List En} (pre:List Value),pre.length=i→Q0k S xs i=some es →
  es.length=xs.length∧∀e∈es,(enD β ρ ⟨(pre++xs.map a.eval).toArray,[]⟩ e).p (okR X β ρ S.flat.mem w) w
 | [],i,es,pre,_,he=>by simp[Q0k]at he; subst he; exact⟨rfl,by simp⟩
 | x::xs,i,es,pre,hi,he=>by
  simp only[Q0k]at he
  split at he
  ·rename_i v r hv hr
   obtain⟨hbi,he⟩:=bvT he
   simp at he; subst he
   obtain⟨cs,h1,h2⟩:=h.ev (Qc a) hv
   obtain⟨h3,h4⟩:=Q8j h (xs:=xs) (i:=i+1) (pre++[a.eval x]) (by simp[hi]) hr
   refine⟨by simp[h3],fun e hm=>?_⟩
   have hl:pre++[a.eval x]++xs.map a.eval=pre++(x::xs).map a.eval:=by simp
   rw[hl]at h4
   rcases QX.1 hm with rfl | hm
   ·refine⟨fun _=>⟨cs,?_,h2⟩,.inl (Qc _)⟩
    rw[Lx hbi]
    simp only[ZZ]
    rw[JE (by omega),←hi]
    simp[h1]
   ·exact h4 e hm
  ·cases he
theorem Q8k{S:XS}:∀{xs:List Operand} {i:Nat} {es:List En},Q0k S xs i=some es→∀e∈es,e.cs=[]
 | [],i,es,he=>by simp[Q0k]at he; subst he; simp
 | x::xs,i,es,he=>by
  simp only[Q0k]at he
  split at he
  ·rename_i v r hv hr
   obtain⟨_,he⟩:=bvT he
   simp at he; subst he
   intro e hm
   rcases QX.1 hm with rfl | hm
   ·rfl
   ·exact Q8k hr e hm
  ·cases he
theorem Q8l{ok:Ok}{w:World}:∀{x:AV} {i:Nat} {cs:List En} {vs:List Value} (pre:List Value),pre.length=i→Jfo x i=some cs→cr β ρ ok w true x vs →
  cs.length=vs.length∧(∀e∈cs,e.cs=[])∧∀e∈cs,(enD β ρ ⟨(pre++vs).toArray,[]⟩ e).p ok w
 | .nil,i,cs,vs,pre,_,he,h=>by
  simp[Jfo]at he; subst he
  have:vs=[]:=h
  subst this
  exact⟨rfl,by simp,by simp⟩
 | .cons y r,i,cs,vs,pre,hi,he,h=>by
  simp only[Jfo]at he
  split at he
  ·rename_i l hl
   obtain⟨hbi,he⟩:=bvT he
   simp at he; subst he
   obtain⟨c1,vs',rfl,h1,h2⟩:=h
   obtain⟨h3,h4,h5⟩:=Q8l (pre++[y.val c1]) (by simp[hi]) hl h2
   refine⟨by simp[h3],fun e hm=>?_,fun e hm=>?_⟩
   ·rcases QX.1 hm with rfl | hm
    ·rfl
    ·exact h4 e hm
   ·rcases QX.1 hm with rfl | hm
    ·refine⟨fun _=>⟨c1,?_,h1⟩,.inl (Qc _)⟩
     rw[Lx hbi]
     simp only[ZZ]
     rw[JE (by omega),←hi]
     simp
    ·have:=h5 e hm
     rwa[show pre++[y.val c1]++vs'=pre++y.val c1::vs' by simp]at this
  ·cases he
theorem Jpg{ok:Ok}{w:World}{l post:List Value}{e:En}(hc:e.cs=[])(h:(enD β ρ ⟨l.toArray,[]⟩ e).p ok w):(enD β ρ ⟨(l++post).toArray,[]⟩ e).p ok w:=by
 obtain⟨cs,h1,h2⟩:=h.1 (by rw[hc]; exact Qc _)
 refine⟨fun _=>⟨cs,?_,h2⟩,.inl (by rw[hc]; exact Qc _)⟩
 unfold rd at h1 ⊢
 cases hb:Nat.blt e.t 100000 with
 | false=>rw[hb]at h1; exact h1
 | true =>
  rw[hb]at h1
  simp only[cond_true,ZZ]at h1 ⊢
  have hlt:=(QK.1 h1).1
  rw[JF hlt]; exact h1
theorem Q08{ri:List (Nat×Nat)}{d:Nat}{Γk:List Nat}{S:XS}{M:List (Nat×Ob)}:∀{l:List Nat},Q79 ri d Γk S M l=true→∀j∈l,(∃c,Jp ri j=some c∧Jn ri d j=c∧j∈Γk) ∨
  (Jp ri j=none∧Js (Jn ri d j) M=true∧Js (Jn ri d j) S.fixM=true∧Qcn (Jn ri d j) S.fix=true∧Qcn (Jn ri d j) S.env=true∧Ya S.prot (Jn ri d j)=false∧j∉Γk)
 | i::l,h,j,hj=>by
  simp only[Q79,QQ]at h
  rcases QX.1 hj with rfl | hj
  ·have h1:=h.1
   cases hl:Jp ri j with
   | some c =>
    rw[hl]at h1
    simp only[H8,cond_true]at h1
    exact .inl ⟨c,rfl,by simp only[Jn,hl],Ze.1 h1⟩
   | none =>
    rw[hl]at h1
    simp only[H8,cond_false,QQ]at h1
    obtain⟨⟨⟨⟨⟨a1,a2⟩,a3⟩,a4⟩,a5⟩,a6⟩:=h1
    refine .inr ⟨rfl,a1,a2,a3,a4,by simpa using a5,fun hm=>?_⟩
    rw[Ze.2 hm]at a6; cases a6
  ·exact Q08 h.2 j hj
theorem Ff{ks:List Nat}:∀{l:List Nat},W8 ks l=true→∀i∈l,i∈ks
 | x::l,h,i,hi=>by
  simp only[W8,QQ]at h
  rcases QX.1 hi with rfl | hi
  ·exact Ze.1 h.1
  ·exact Ff h.2 i hi
theorem R0:∀{l:List Nat},L4 l=true→l.Nodup
 | [],_=>.nil
 | x::l,h=>by
  simp only[L4,QQ]at h
  refine JA.2 ⟨fun hm=>?_,R0 h.2⟩
  have:=h.1
  rw[Ze.2 hm]at this; cases this
def backB(g:Nat→Nat)(ks:List Nat)(β2 β:Nat→Nat):Nat→Nat:=fun i=>match ks.find? fun j=>g j==i with
 | some j=>β2 j
 | none=>β i
def L7(g:Nat→Nat)(ks:List Nat)(ρ2 ρ:Nat→Value):Nat→Value:=fun i=>match ks.find? fun j=>g j==i with
 | some j=>ρ2 j
 | none=>ρ i
theorem Q09{g:Nat→Nat}:∀{ks:List Nat},(ks.map g).Nodup→∀j∈ks,(ks.find? fun i=>g i==g j)=some j
 | x::l,hn,j,hj=>by
  have hn':=JA.1 (by simpa using hn:(g x::l.map g).Nodup)
  rcases QX.1 hj with rfl | hj
  ·simp
  ·have hne:g x≠g j:=fun e=>hn'.1 (by rw[e]; exact QY.2 ⟨j,hj,rfl⟩)
   have:(g x==g j)=false:=by simpa using hne
   simp only[List.find?_cons,this]
   exact Q09 hn'.2 j hj
theorem Q1a{l:List En}{e:En}(he:e∈l){i:Nat}(hi:i∈Ja e.av):i∈O6 l:=by
 induction l with
 | nil=>cases he
 | cons x l ih =>
  simp only[O6,QW]
  rcases QX.1 he with rfl | he
  ·exact .inl hi
  ·exact .inr (ih he)
theorem L8{d:Nat}:∀{x:AV},Uv d x=true→d∉Ja x
 | .p id _,h=>by intro hm; have hm:d=id:=(by simpa[Ja]using hm); subst hm; simp[Uv,JY]at h
 | .e id _,h=>by intro hm; have hm:d=id:=(by simpa[Ja]using hm); subst hm; simp[Uv,JY]at h
 | .s id,h=>by intro hm; have hm:d=id:=(by simpa[Ja]using hm); subst hm; simp[Uv,JY]at h
 | .m id,h=>by intro hm; have hm:d=id:=(by simpa[Ja]using hm); subst hm; simp[Uv,JY]at h
 | .b id,h=>by intro hm; have hm:d=id:=(by simpa[Ja]using hm); subst hm; simp[Uv,JY]at h
 | .w id _ _,h=>by intro hm; have hm:d=id:=(by simpa[Ja]using hm); subst hm; simp[Uv,JY]at h
 | .f _ c,h=>by simp only[Uv]at h; simpa[Ja]using L8 h
 | .ag l,h=>by simp only[Uv]at h; simpa[Ja]using L8 h
 | .tp l,h=>by simp only[Uv]at h; simpa[Ja]using L8 h
 | .cons x r,h=>by
  simp only[Uv,QQ]at h
  simp only[Ja,QW,not_or]
  exact⟨L8 h.1,L8 h.2⟩
 | .d _ _,_=>by simp[Ja]
 | .a _ _,_=>by simp[Ja]
 | .z,_=>by simp[Ja]
 | .ns,_=>by simp[Ja]
 | .np,_=>by simp[Ja]
 | .nm,_=>by simp[Ja]
 | .nf,_=>by simp[Ja]
 | .nil,_=>by simp[Ja]
theorem Qgo{d:Nat}:∀{M:List (Nat×Ob)},Js d M=true→d∉Jb M
 | [],_=>by simp[Jb]
 | (k,o)::l,h=>by
  have hq:=Xz h (k,o) (.head _)
  have hl:Js d l=true:=by
   cases o with
   | mapC k1 v xs hole=>cases hole<;>simp only[Js,QQ]at h<;>exact h.2
   | _=>simp only[Js,QQ]at h; exact h.2
  have ih:=Qgo hl
  cases o with
  | var t c =>
   have:=L8 hq.2
   simp only[Jb,QX,QW,not_or]
   exact⟨fun e=>hq.1 e.symm,this,ih⟩
  | mapC k1 v xs hole =>
   cases hole with
   | none =>
    simp only[Jb,QX,not_or]
    exact⟨fun e=>hq.1 e.symm,ih⟩
   | some q =>
    simp only[Jb,QX,not_or]
    exact⟨fun e=>hq.1 e.symm,fun e=>hq.2 e.symm,ih⟩
  | mapE k1 v xs key j =>
   simp only[Jb,QX,not_or]
   exact⟨fun e=>hq.1 e.symm,fun e=>hq.2 e.symm,ih⟩
  | _ =>
   simp only[Jb,QX,not_or]
   exact⟨fun e=>hq.1 e.symm,ih⟩
theorem Q1b{β:Nat→Nat}{ρ:Nat→Value}{ok:Ok}{w:World}:∀{es:List En} {vs:List Value} {i:Nat},(∀(j:Nat) e,es[j]?=some e→∃cs,vs[j]?=some (e.av.val cs)∧cr β ρ ok w false e.av cs)→vs.length=es.length→cr β ρ ok w true (Qt3 es) vs
 | [],vs,i,_,hl=>JJ (by simpa using hl)
 | e::es,[],i,_,hl=>by simp at hl
 | e::es,v::vs,i,h,hl=>by
  obtain⟨cs,h1,h2⟩:=h 0 e rfl
  have h1':v=e.av.val cs:=by simpa using h1
  exact⟨cs,vs,by rw[h1'],h2,Q1b (i:=i) (fun j e' he=>by simpa using h (j+1) e' (by simpa using he)) (by simpa using hl)⟩
theorem Qqo:∀(es:List En),Ja (Qt3 es)=O6 es
 | []=>rfl
 | e::es=>by simp only[Qt3,Ja,O6,Qqo es]
theorem Jbr(es:List En):∀i∈Ja (Rs es),i∈O6 es:=by
 intro i hi
 unfold Rs at hi
 split at hi
 ·simpa[O6]using hi
 ·simpa[Ja,Qqo]using hi
theorem Qmc(hX:X.n=n)(hr:X.res=[])(h:Rel X β ρ S.flat a w){o:Oper}(hw:Region.wanted o (yielded ops a.tmps)=true){c:Con}(hc:Qfv P Y.gl c)(hG:Vr Y.gl (okN X) X.w)(hrun:Runs P c.f)(hs:Zu n c o S k=some r)(H:KOk P ops Q rest X S β ρ k r) :
  wpList P ops Q (o::rest) a w:=by
 unfold Zu at hs
 split at hs
 ·rename_i x0 xs ts d hop hd
  split at hs
  ·rename_i f caps hx0
   have hb:=(bvT hs).1
   replace hs:=(bvT hs).2
   simp only[QQ]at hb
   have hf:=QJ hb.1
   obtain⟨hd1,hd2⟩:=Yx hb.2 hX hr
   split at hs
   ·rename_i es0 cs0 hes0 hcs0
    obtain⟨cf,hf1,vc,hf2,hf3⟩:=h.ev (Qc a) hx0
    subst hf2
    replace hf1:a.eval x0=.func (.func f) #[] vc.toArray:=hf1
    obtain⟨el0,hE00⟩:=Q8j h [] rfl hes0
    simp only[QD]at hE00
    obtain⟨el1,_,hE01⟩:=Q8l (xs.map a.eval) (by simp) hcs0 hf3
    have el:(es0++cs0).length=(xs.map a.eval++vc).length:=by simp[el0,el1]
    have hE0:∀e∈es0++cs0,(enD β ρ ⟨(xs.map a.eval++vc).toArray,[]⟩ e).p (okR X β ρ S.flat.mem w) w:=by
     intro e he
     rcases QW.1 he with he | he
     ·exact Jpg (Q8k hes0 e he) (hE00 e he)
     ·exact hE01 e he
    generalize es0++cs0=es at *
    generalize hri:Jl7 c.Γ ⟨es,S.mem++S.fixM⟩=ri at hs
    unfold Zu.callE at hs
    split at hs
    ·rename_i x hx
     have hb2:=(bvT hs).1
     replace hs:=(bvT hs).2
     simp only[QQ]at hb2
     obtain⟨⟨⟨hb2n,hb2l⟩,hb2m⟩,hb2s⟩:=hb2
     have hlen:=QJ hb2l
     obtain⟨y,hy,hs⟩:=Yi hs
     rw[Qom]at hs
     unfold Zu.callR at hs
     have hb3:=(bvT hs).1
     replace hs:=(bvT hs).2
     simp only[QQ]at hb3
     obtain⟨⟨⟨n1,n2⟩,n3⟩,n4⟩:=hb3
     have h1:Rel X β ρ ⟨S.env++S.fix,frz c.Γ ri es S.mem++S.fixM⟩ a w:=by
      have:=Rel.freeze S.mem (l0:=[]) (F:=S.fixM) (ks:=Jfl es c.Γ.env++Qw1 S.mem ri c.Γ.mem) h
      simp only[QD]at this
      exact this
     have hM:∀id o,Qe ((frz c.Γ ri es S.mem++S.fixM)++[]) id=some o→(Qw β ρ id o).p (okR X β ρ (frz c.Γ ri es S.mem++S.fixM) w) w:=fun id o ho=>h1.mm id o (by rw[QR]at ho; exact ho)
     unfold Jkj at hx
     obtain⟨hbx,hx⟩:=bvT hx
     simp only[QQ]at hbx
     obtain⟨⟨⟨b1,b2⟩,b3⟩,b4⟩:=hbx
     split at hx
     ·rename_i u v hu hv
      have hxl:=Qw9 hx
      have hokk:∀b f,okR X β ρ S.flat.mem w b f→okR X β ρ (frz c.Γ ri es S.mem++S.fixM) w b f:=by
       rintro b f ⟨o1,o2,o3,o4⟩
       refine⟨o1,o2,o3,fun t' ht' hcv=>?_⟩
       obtain⟨q,hq,rfl⟩:=QY.1 ht'
       have key:∀{l:List (Nat×Ob)} {ks:List Nat} {q:Nat×Ob},q∈Y2 ks l→∃o',(q.1,o')∈l∧∀b f,(Qw β ρ q.1 q.2).cov b f→(Qw β ρ q.1 o').cov b f:=by
        intro l
        induction l with
        | nil=>intro ks q hq; cases hq
        | cons p l ih =>
         intro ks q hq
         obtain⟨id,ob⟩:=p
         have other:q∈Y2 ks l→∃o',(q.1,o')∈(id,ob)::l∧∀b f,(Qw β ρ q.1 q.2).cov b f→(Qw β ρ q.1 o').cov b f:=fun hq=>let⟨o',p1,p2⟩:=ih hq; ⟨o',.tail _ p1,p2⟩
         cases ob with
         | row e t xs =>
          simp only[Y2]at hq
          rcases QX.1 hq with e' | hq
          ·cases hbb:(Ya ks id&&Nat.ble 1 t.size)with
           | true =>
            rw[hbb]at e'; subst e'
            exact⟨.row e t xs,.head _,fun b f hcv=>hcv.1⟩
           | false =>
            rw[hbb]at e'; subst e'
            exact⟨.row e t xs,.head _,fun b f hcv=>hcv⟩
          ·exact other hq
         | var t' c' =>
          simp only[Y2]at hq
          rcases QX.1 hq with e' | hq
          ·subst e'; exact⟨_,.head _,fun b f hcv=>hcv⟩
          ·exact other hq
         | tail e t xs =>
          simp only[Y2]at hq
          rcases QX.1 hq with e' | hq
          ·subst e'; exact⟨_,.head _,fun b f hcv=>hcv⟩
          ·exact other hq
         | map k' v' xs =>
          simp only[Y2]at hq
          rcases QX.1 hq with e' | hq
          ·subst e'; exact⟨_,.head _,fun b f hcv=>hcv⟩
          ·exact other hq
         | mapE k' v' xs key j =>
          simp only[Y2]at hq
          rcases QX.1 hq with e' | hq
          ·subst e'; exact⟨_,.head _,fun b f hcv=>hcv⟩
          ·exact other hq
         | mapC k' v' xs hole =>
          simp only[Y2]at hq
          rcases QX.1 hq with e' | hq
          ·subst e'; exact⟨_,.head _,fun b f hcv=>hcv⟩
          ·exact other hq
       rcases QW.1 hq with hq | hq
       ·obtain⟨o',p1,p2⟩:=key hq
        exact o4 _ (QY.2 ⟨(q.1,o'),QZ _ p1,rfl⟩) (p2 b f hcv)
       ·exact o4 _ (QY.2 ⟨q,QV _ hq,rfl⟩) hcv
      obtain⟨es',e1,e2⟩:=Qkf hM (fun e he=>(enD β ρ _ e).weak (hE0 e he) hokk) v hu
      obtain⟨m1,m2⟩:=Qkg hM b3 hv
      have henc:enc c.Γ x=⟨es',U2 c.Γ.mem v⟩:=by unfold enc; rw[hxl,e1]
      have hkind:=Qmb hb2n hv
      obtain⟨ln1,_⟩:=C0 (X4 (p:=fun q=>!Ya c.ro q.1) b1)
      obtain⟨ln2,_⟩:=C0 (X4 (p:=fun q=>Ya c.ro q.1) b1)
      have hroS:=Qxh (g:=Jn ri d) (ro:=c.ro) (fun i cc hcc=>by simp only[Jn,hcc]) hv hb2s
      have hkM:∀cc∈Y9 S.mem,∃ob,Qe (frz c.Γ ri es S.mem) cc=some ob:=fun cc hcc=>Jqv (by unfold frz; rw[Qik]; exact hcc)
      generalize hM0:frz c.Γ ri es S.mem=M0 at *
      have hwk:∀(p:Nat×SkO→Bool) id,id∈(c.Γ.mem.filter p).map Prod.fst→id∈c.Γ.mem.map Prod.fst:=fun p id hid=>by
       obtain⟨q,hq,rfl⟩:=QY.1 hid
       exact QY.2 ⟨q,(JU.1 hq).1,rfl⟩
      have hdisj:∀cc∈J3 ri (rdG c.ro c.Γ.mem),cc∉J3 ri (wrG c.ro c.Γ.mem):=fun cc h1 h2=>by
       obtain⟨i1,p1,p2⟩:=Fd h1
       obtain⟨i2,r1,r2⟩:=Fd h2
       obtain⟨q1,s1,rfl⟩:=QY.1 p1
       obtain⟨q2,s2,rfl⟩:=QY.1 r1
       have t1:=(JU.1 s1).2
       have t2:=(JU.1 s2).2
       have k1:q1.1∈(U2 c.Γ.mem v).map Prod.fst:=by rw[m1]; exact QY.2 ⟨_,(JU.1 s1).1,rfl⟩
       have k2:q2.1∈(U2 c.Γ.mem v).map Prod.fst:=by rw[m1]; exact QY.2 ⟨_,(JU.1 s2).1,rfl⟩
       obtain⟨e1,f1,g1⟩:=QY.1 k1
       obtain⟨e2,f2,g2⟩:=QY.1 k2
       obtain⟨pw,_⟩:=Rx b1 m1
       have hne:q1.1≠q2.1:=fun e=>by rw[e]at t1; rw[t1]at t2; cases t2
       have key:∀{l:List (Nat×Ob)},(l.Pairwise fun q q'=>∀c c',Jp ri q.1=some c→Jp ri q'.1=some c'→c≠c')→e1∈l→e2∈l→False:=by
        intro l hl
        induction l with
        | nil=>intro h; cases h
        | cons z l ih =>
         have hl':=QG.1 hl
         intro h1 h2
         rcases QX.1 h1 with h1 | h1
         ·rcases QX.1 h2 with h2 | h2
          ·exact hne (by rw[←g1,←g2,h1,h2])
          ·exact hl'.1 e2 h2 cc cc (by rw[←h1,g1]; exact p2) (by rw[g2]; exact r2) rfl
         ·rcases QX.1 h2 with h2 | h2
          ·exact hl'.1 e1 h1 cc cc (by rw[←h2,g2]; exact r2) (by rw[g1]; exact p2) rfl
          ·exact ih hl'.2 h1 h2
       exact key pw f1 f2
      have hp1:=Zx (J3 ri (wrG c.ro c.Γ.mem)) M0
      have hp2:=Zx (J3 ri (rdG c.ro c.Γ.mem)) ((Jm M0 (J3 ri (wrG c.ro c.Γ.mem))).1++S.fixM)
      have hlkR:∀cc∈J3 ri (rdG c.ro c.Γ.mem),Qe ((Jm M0 (J3 ri (wrG c.ro c.Γ.mem))).1++S.fixM) cc=Qe (M0++S.fixM) cc:=fun cc hcc=>by
       have e:=T1 (M:=M0) (hdisj cc hcc)
       cases hl:Qe M0 cc with
       | none=>rw[Qqn hl,Qqn (e.trans hl)]
       | some ob=>rw[Q0 hl,Q0 (e.trans hl)]
      have hlkN:∀cc∈J3 ri (wrG c.ro c.Γ.mem),∀ob,Qe (M0++S.fixM) cc=some ob→Qe M0 cc=some ob:=fun cc hcc ob hob=>by
       obtain⟨ob',hob'⟩:=hkM cc (Jbq hb2m hcc)
       rw[Q0 hob']at hob
       rw[hob',hob]
      have hsR:=Pa (M:=(Jm M0 (J3 ri (wrG c.ro c.Γ.mem))).1++S.fixM) ln2
      have hroE:Kk (Jn ri d) (rdM c.ro (U2 c.Γ.mem v))=(Jm ((Jm M0 (J3 ri (wrG c.ro c.Γ.mem))).1++S.fixM) (J3 ri (rdG c.ro c.Γ.mem))).2:=by
       refine hroS.trans ?_
       refine(Jpf fun x hx=>?_).trans hsR.symm
       rw[hlkR x hx]
      obtain⟨Ml,hMl0⟩:∃Ml,Ml=(Jm M0 (J3 ri (wrG c.ro c.Γ.mem))).2++(Jm ((Jm M0 (J3 ri (wrG c.ro c.Γ.mem))).1++S.fixM) (J3 ri (rdG c.ro c.Γ.mem))).2:=⟨_,rfl⟩
      have hF1:∀q∈Ml,∃id∈c.Γ.mem.map Prod.fst,Jp ri id=some q.1∧Qe (M0++S.fixM) q.1=some q.2:=fun q hq=>by
       rw[hMl0]at hq
       rcases QW.1 hq with hq | hq
       ·obtain⟨p1,p2⟩:=T0 ln1 q hq
        obtain⟨id,p3,p4⟩:=Fd p1
        exact⟨id,hwk _ id p3,p4,Q0 p2⟩
       ·obtain⟨p1,p2⟩:=T0 ln2 q hq
        obtain⟨id,p3,p4⟩:=Fd p1
        exact⟨id,hwk _ id p3,p4,by rw[←hlkR _ p1]; exact p2⟩
      have hMl:∀id∈c.Γ.mem.map Prod.fst,∀cc ob,Jp ri id=some cc→Qe (M0++S.fixM) cc=some ob→(cc,ob)∈Ml:=by
       intro id hid cc ob e3 e4
       rw[hMl0]
       obtain⟨q,hq,rfl⟩:=QY.1 hid
       cases hm:Ya c.ro q.1 with
       | true =>
        have hin:cc∈J3 ri (rdG c.ro c.Γ.mem):=N7 (QY.2 ⟨q,JU.2 ⟨hq,hm⟩,rfl⟩) e3
        exact QV _ (Tz ln2 hin (by rw[hlkR _ hin]; exact e4))
       | false =>
        have hin:cc∈J3 ri (wrG c.ro c.Γ.mem):=N7 (QY.2 ⟨q,JU.2 ⟨hq,by rw[hm]; rfl⟩,rfl⟩) e3
        exact QZ _ (Tz ln1 hin (hlkN _ hin _ e4))
      generalize hMn0:(Jm M0 (J3 ri (wrG c.ro c.Γ.mem))).2=Mn at *
      generalize hMr0:(Jm M0 (J3 ri (wrG c.ro c.Γ.mem))).1=Mr0 at *
      generalize hMo0:(Jm (Mr0++S.fixM) (J3 ri (rdG c.ro c.Γ.mem))).2=Mo at *
      generalize hMr1:(Jm (Mr0++S.fixM) (J3 ri (rdG c.ro c.Γ.mem))).1=Mr at *
      have hperm:(Ml++Mr).Perm (M0++S.fixM):=by
       rw[hMl0,QH]
       refine(List.Perm.append_left Mn hp2).trans ?_
       rw[←QH]
       exact hp1.append_right _
      have h2:Sb (fun _=>0) X [] ((S.env++S.fix).map (enD β ρ a)) [] (Qf β ρ Ml++Qf β ρ Mr) a w:=by
       refine Sb.perm h1 ?_
       rw[←JK]
       exact List.Perm.map _ hperm.symm
      have hok2:∀b f,okR X β ρ (M0++S.fixM) w b f→Je X.ok X.w.heap.size (fun _=>0) [] (Qf β ρ Ml++Qf β ρ Mr) w b f:=by
       rintro b f ⟨o1,o2,o3,o4⟩
       refine⟨o1,o2,o3,fun t' ht'=>?_⟩
       refine o4 t' ?_
       have hp2:=hperm.symm.map fun q=>Qw β ρ q.1 q.2
       exact hp2.mem_iff.2 (by rw[JK]; exact ht')
      have hmk:∀q∈U2 c.Γ.mem v,q.1∈c.Γ.mem.map Prod.fst:=by
       intro q hq
       rw[←m1]
       exact QY.2 ⟨q,hq,rfl⟩
      have hval:∀q∈U2 c.Γ.mem v,(∃cc ob,Jp ri q.1=some cc∧(cc,ob)∈Ml∧Qop ob=false∧(∀g,(Qw (Hx ri β) (Hm ri [] ρ) q.1 q.2).blks g→(Qw β ρ cc ob).blks g))∨(∀g,¬ (Qw (Hx ri β) (Hm ri [] ρ) q.1 q.2).blks g):=by
       intro q hq
       rcases m2 q hq with⟨cc,ob,e3,e4,e5,_⟩ | ⟨_,e5,_⟩
       ·have hid:=hmk q hq
        obtain⟨q',hq',he'⟩:=QY.1 hid
        exact .inl ⟨cc,ob,e3,hMl _ hid _ _ e3 e4,hkind q' hq' cc ob (by rw[he']; exact e3) e4,e5⟩
       ·exact .inr e5
      have hLm:∀g,g∈(U2 c.Γ.mem v).flatMap (Qxi (Hx ri β) (Hm ri [] ρ))↔∃q∈U2 c.Γ.mem v,(Qw (Hx ri β) (Hm ri [] ρ) q.1 q.2).blks g:=by
       intro g
       rw[List.mem_flatMap]
       exact⟨fun⟨q,hq,hg⟩=>⟨q,hq,Q06.1 hg⟩,fun⟨q,hq,hg⟩=>⟨q,hq,Q06.2 hg⟩⟩
      generalize hL:(U2 c.Γ.mem v).flatMap (Qxi (Hx ri β) (Hm ri [] ρ))=L at hLm
      have hLends:Qlx (Qf (Hx ri β) (Hm ri [] ρ) (enc c.Γ x).mem) L (Je X.ok X.w.heap.size (fun _=>0) [] (Qf β ρ Ml++Qf β ρ Mr) w) w:=by
       rw[henc]
       refine⟨fun t ht=>?_,?_,fun g hg=>?_⟩
       ·obtain⟨q,hq,rfl⟩:=QY.1 ht
        refine⟨?_,fun g hg=>(hLm g).2 ⟨q,hq,hg⟩,fun g f hg hok=>?_⟩
        ·rcases m2 q hq with⟨_,_,_,_,_,_,e6⟩ | ⟨_,_,e6⟩
         ·exact(Qw _ _ q.1 q.2).weak e6 hok2
         ·exact e6 _ _
        ·rcases hval q hq with⟨cc,ob,_,e4,e5,e6⟩ | e6
         ·exact hok.2.2.2 _ (QZ _ (QY.2 ⟨_,e4,rfl⟩)) (Q07 e5 f (e6 g hg))
         ·exact e6 g hg
       ·obtain⟨p1,_⟩:=Rx b1 m1
        show((U2 c.Γ.mem v).map _).Pairwise _
        rw[XO]
        refine List.Pairwise.imp_of_mem ?_ p1
        intro q q' hq hq' hne g hg hg'
        rcases m2 q hq with⟨cc,ob,e3,e4,e5,_⟩ | ⟨_,e5,_⟩
        ·rcases m2 q' hq' with⟨cc',ob',e3',e4',e5',_⟩ | ⟨_,e5',_⟩
         ·exact h1.disj e4 e4' (hne cc cc' e3 e3') g (e5 g hg) (e5' g hg')
         ·exact e5' g hg'
        ·exact e5 g hg
       ·obtain⟨q,hq,hg⟩:=(hLm g).1 hg
        exact⟨_,QY.2 ⟨q,hq,rfl⟩,hg⟩
      have hargs:∀e∈(enc c.Γ x).env,∃cs,(xs.map a.eval++vc)[e.t]?=some (e.av.val cs)∧cr (Hx ri β) (Hm ri [] ρ) (Je X.ok X.w.heap.size (fun _=>0) [] (Qf β ρ Ml++Qf β ρ Mr) w) w false e.av cs:=by
       intro e he
       rw[henc]at he
       have hcs:e.cs=[]:=by
        have:=Qkj (Γe:=c.Γ.env) (l:=u++v) e (by rw[e1]; exact he)
        exact this
       obtain⟨cs,p1,p2⟩:=(e2 e he).1.1 (by rw[hcs]; exact Qc _)
       rw[Lx (e2 e he).2]at p1
       exact⟨cs,by simpa using p1,Wd p2 hok2⟩
      have hcall:=hc _ w L _ _ x y (xs.map a.eval++vc) (fun b f hk=>hk.2.1) (Lq h2 hG) (by rw[←el,hlen]) hLends hargs hy
      subst hf
      refine Jk hw ?_
      have hrun':(execOp a.eval o).run P w=.ok (.enter c.f ⟨xs.map a.eval++vc⟩) w:=by
       unfold execOp
       rw[hop]
       have hm:(Array.mk xs).map a.eval=⟨xs.map a.eval⟩:=by simp
       simp[resolve,hm,hf1,Deferred.ofValue,invoke,Qhw hrun]
      unfold Oper.wp
      rw[hrun']
      refine hcall.mono ?_
      rintro e' w' ⟨v0,rfl,⟨β2,ρ2,hag,⟨cs,hv0,hcr⟩,hT2,hpw2⟩,hbel⟩
      show wpList P ops Q rest (a.put o.dst v0) w'
      rw[hd]
      have hLl:∀g∈L,∃t∈Qf β ρ Ml,t.blks g:=by
       intro g hg
       obtain⟨q,hq,hg⟩:=(hLm g).1 hg
       rcases hval q hq with⟨cc,ob,_,e4,_,e6⟩ | e6
       ·exact⟨_,QY.2 ⟨_,e4,rfl⟩,e6 g hg⟩
       ·exact absurd hg (e6 g)
      have hcov:∀t∈Qf β ρ Ml,∀b f,t.blks b→t.cov b f:=by
       intro t ht b f hb
       obtain⟨q,hq,rfl⟩:=QY.1 ht
       obtain⟨id,p3,p4,p2⟩:=hF1 q hq
       obtain⟨q',hq',he'⟩:=QY.1 p3
       exact Q07 (hkind q' hq' q.1 q.2 (by rw[he']; exact p4) p2) f hb
      have h3:=Sb.callO h2 hbel hLl hcov hT2 hpw2
      have hROk:∀j∈(roM c x).map Prod.fst,∃cc,Jp ri j=some cc∧j∈c.Γ.mem.map Prod.fst:=fun j hj=>by
       obtain⟨q,hq,rfl⟩:=QY.1 hj
       unfold roM at hq
       rw[henc]at hq
       obtain⟨hq1,hq2⟩:=JU.1 hq
       have hk:=hmk q hq1
       obtain⟨q',hq',he'⟩:=QY.1 hk
       obtain⟨cc,hcc⟩:=Qul hb2s q.1 (QY.2 ⟨q',JU.2 ⟨hq',by rw[he']; exact hq2⟩,he'⟩)
       exact⟨cc,hcc,hk⟩
      have hroE2:Kk (Jn ri d) (roM c x)=Mo:=by unfold roM; rw[henc]; exact hroE
      generalize hRO:roM c x=RO at *
      generalize hS1:Qcm c.Δ y=S1 at *
      generalize hks:(S1.mem++RO).map Prod.fst=ks at *
      have hA:∀j∈ks,backB (Jn ri d) ks β2 β (Jn ri d j)=β2 j∧L7 (Jn ri d) ks ρ2 ρ (Jn ri d j)=ρ2 j:=by
       intro j hj
       have:=Q09 (g:=Jn ri d) (ks:=ks) (by rw[←hks,List.map_map]; exact R0 n2) j hj
       exact⟨by simp only[backB,this],by simp only[L7,this]⟩
      have hcase:∀j∈ks,(∃cc,Jp ri j=some cc∧Jn ri d j=cc∧j∈c.Γ.mem.map Prod.fst) ∨
        (Jp ri j=none∧Js (Jn ri d j) Mr0=true∧Js (Jn ri d j) S.fixM=true∧Qcn (Jn ri d j) S.fix=true∧Qcn (Jn ri d j) S.env=true∧Ya S.prot (Jn ri d j)=false∧j∉c.Γ.mem.map Prod.fst):=by
       intro j hj
       rw[←hks,JK]at hj
       rcases QW.1 hj with hj | hj
       ·exact Q08 n1 j hj
       ·obtain⟨cc,p1,p2⟩:=hROk j hj
        exact .inl ⟨cc,p1,by simp only[Jn,p1],p2⟩
      have hB:∀i,(∀j∈ks,Jp ri j=none→Jn ri d j≠i)→backB (Jn ri d) ks β2 β i=β i∧L7 (Jn ri d) ks ρ2 ρ i=ρ i:=by
       intro i hi
       cases hfd:ks.find? (fun j=>Jn ri d j==i)with
       | none=>exact⟨by simp only[backB,hfd],by simp only[L7,hfd]⟩
       | some j =>
        have hj:=List.mem_of_find?_eq_some hfd
        have hji:Jn ri d j=i:=by simpa using List.find?_some hfd
        rcases hcase j hj with⟨cc,p1,p2,p3⟩ | ⟨p1,_⟩
        ·obtain⟨q1,q2⟩:=hag j p3
         have:cc=i:=by rw[←p2]; exact hji
         subst this
         exact⟨by simp only[backB,hfd]; rw[q1]; simp only[Hx,p1],by simp only[L7,hfd]; rw[q2]; simp only[Hm,p1]⟩
        ·exact absurd hji (hi j hj p1)
      have hfr:=fun j hj (hn:Jp ri j=none)=>(hcase j hj).resolve_left fun⟨cc,p1,_⟩=>by rw[hn]at p1; cases p1
      have hEnv:∀e∈S.env++S.fix,∀i∈Ja e.av,backB (Jn ri d) ks β2 β i=β i∧L7 (Jn ri d) ks ρ2 ρ i=ρ i:=by
       intro e he i hi
       refine hB i fun j hj hn hji=>?_
       obtain⟨_,_,_,p4,p5,_⟩:=hfr j hj hn
       have hno:Uv (Jn ri d j) e.av=true:=by
        rcases QW.1 he with he | he
        ·exact Rv p5 e he
        ·exact Rv p4 e he
       exact L8 hno (by rw[hji]; exact hi)
      have hMem:∀i∈Jb Mr,backB (Jn ri d) ks β2 β i=β i∧L7 (Jn ri d) ks ρ2 ρ i=ρ i:=by
       intro i hi
       refine hB i fun j hj hn hji=>?_
       obtain⟨_,p2,p3,_⟩:=hfr j hj hn
       replace hi:=Jbp (fun q hq=>hp2.mem_iff.1 (QV _ hq)) hi
       have happ:∀(l m:List (Nat×Ob)),Jb (l++m)=Jb l++Jb m:=by
        intro l m
        induction l with
        | nil=>rfl
        | cons q l ih =>
         obtain⟨k0,o0⟩:=q
         cases o0 with
         | mapC k1 v xs hole=>cases hole<;>simp[Jb,ih]
         | _=>simp[Jb,ih]
       rw[happ,QW]at hi
       rcases hi with hi | hi
       ·exact Qgo p2 (by rw[hji]; exact hi)
       ·exact Qgo p3 (by rw[hji]; exact hi)
      have hsim:K9 (Qf β2 ρ2 (S1.mem++RO)++Qf β ρ Mr) (Qf (backB (Jn ri d) ks β2 β) (L7 (Jn ri d) ks ρ2 ρ) (Kk (Jn ri d) (S1.mem++RO))++Qf (backB (Jn ri d) ks β2 β) (L7 (Jn ri d) ks ρ2 ρ) Mr) :=
       (Qxg fun i hi=>hA i (Ff n4 i hi)).append (Quj hMem)
      have h4:=Sb.simO h3 hsim
      have hmemO:Qf (backB (Jn ri d) ks β2 β) (L7 (Jn ri d) ks ρ2 ρ) (Kk (Jn ri d) (S1.mem++RO))++Qf (backB (Jn ri d) ks β2 β) (L7 (Jn ri d) ks ρ2 ρ) Mr =
        Qf (backB (Jn ri d) ks β2 β) (L7 (Jn ri d) ks ρ2 ρ) ((Kk (Jn ri d) S1.mem++Mo)++Mr):=by
       rw[show Kk (Jn ri d) (S1.mem++RO)=Kk (Jn ri d) S1.mem++Kk (Jn ri d) RO from JK,hroE2]
       simp only[Qf,JK,QH]
      have h5:Rel X (backB (Jn ri d) ks β2 β) (L7 (Jn ri d) ks ρ2 ρ) ⟨S.env++S.fix,(Kk (Jn ri d) S1.mem++Mo)++Mr⟩ a w':=by
       refine Rel.ofSb h4 hmemO fun e he=>?_
       have hp:=Jf.1 h4.dat _ (QY.2 ⟨e,he,rfl⟩)
       rw[hmemO]at hp
       exact⟨fun hcc=>let⟨cs,q1,q2⟩:=hp.1 hcc; ⟨cs,q1,W9 (hEnv e he) q2⟩,hp.2⟩
      have hres:cr (backB (Jn ri d) ks β2 β) (L7 (Jn ri d) ks ρ2 ρ) (okR X (backB (Jn ri d) ks β2 β) (L7 (Jn ri d) ks ρ2 ρ) ((Kk (Jn ri d) S1.mem++Mo)++Mr) w') w' false (Kz (Jn ri d) (Rs S1.env)) cs:=by
       have q1:=Tx (g:=Jn ri d) (fun i hi=>hA i (Ff n3 i (Jbr _ i hi))) hcr
       refine Wd q1 fun b f hk=>?_
       have q2:=hsim.ok b f (Ru h2 hbel.size hLl b f hk)
       rw[hmemO]at q2
       exact q2
      have h6:=h5.put0 hd1 hres
      have hvv:(Kz (Jn ri d) (Rs S1.env)).val cs=v0:=by rw[hv0]; exact Jkv _ _ _
      rw[hvv]at h6
      have hfin:((Kk (Jn ri d) S1.mem++Mo)++Mr).Perm ((Kk (Jn ri d) S1.mem++Mr0)++S.fixM):=by
       rw[QH,QH]
       exact List.Perm.append_left _ hp2
      refine H _ _ _ _ _ hs ⟨rfl,rfl,rfl,fun i hi=>hB i fun j hj hn hji=>?_⟩ ?_
      ·obtain⟨_,_,_,_,_,p6,_⟩:=hfr j hj hn
       rw[hji,Ze.2 hi]at p6; cases p6
      ·rw[Xp (S:=⟨S.env,S.fix,Kk (Jn ri d) S1.mem++Mr0,S.fixM,S.prot⟩) hd2]
       exact Sb.perm h6 (hfin.map _)
     ·cases hx
    ·cases hs
   ·cases hs
  ·cases hs
 ·cases hs
end
end Gx

/- Small things for regions of open order. -/
namespace Gx
open Go Go.RowKit Gd
set_option linter.unusedVariables false
set_option linter.unusedSimpArgs false
theorem Q8m{l:List Oper}{p k i:Nat}(h:Jo7 l p=true)(hk:p≤k)(hkl:k<l.length)(hi:i<k):Fs l l.length k i=true:=by
 have h1:=JN.1 h k (JT.2 hkl)
 simp only[JS]at h1
 rcases h1 with h1 | h1
 ·have:=QF h1; omega
 ·exact JN.1 h1 i (JT.2 hi)
theorem Qil:∀{l:List Nat} {t:Nat},Ya l t=true→t∈l
 | [],t,h=>by cases h
 | k::l,t,h=>by
  simp only[Ya]at h
  cases hb:Nat.beq k t with
  | true=>rw[QJ hb]; exact .head _
  | false=>rw[hb]at h; exact .tail _ (Qil (by simpa using h))
theorem Qim:∀{env:List En} {e:En},e∈Q5q env→e.cs=[]∧e∈env∧Nat.blt e.t 100000=false
 | [],e,h=>by simp[Q5q]at h
 | x::l,e,h=>by
  simp only[Q5q]at h
  cases hb:Nat.blt x.t 100000 with
  | true =>
   rw[hb]at h
   obtain⟨h1,h2,h3⟩:=Qim (env:=l) h
   exact⟨h1,.tail _ h2,h3⟩
  | false =>
   rw[hb]at h
   simp only[cond_false]at h
   split at h
   ·rename_i hc
    rcases QX.1 h with rfl | h
    ·exact⟨hc,.head _,hb⟩
    ·obtain⟨h1,h2,h3⟩:=Qim (env:=l) h
     exact⟨h1,.tail _ h2,h3⟩
   ·obtain⟨h1,h2,h3⟩:=Qim (env:=l) h
    exact⟨h1,.tail _ h2,h3⟩
theorem Jbs{l:List Nat}{i d:Nat}(hi:i<l.length)(h:l.getD i 0=d):l[i]?=some d:=by
 rw[VX,QU hi]at h
 rw[QU hi]; exact congrArg some h
abbrev T2(E:Nat→Bool)(i:Nat):Nat→Bool:=fun j=>j==i||E j
theorem Qeq{l:List Nat}{t:Nat}(h:t∈l):Ya l t=true:=by
 induction l with
 | nil=>cases h
 | cons k l ih =>
  simp only[Ya,JS]
  rcases QX.1 h with rfl | h
  ·exact .inl (JY _)
  ·exact .inr (ih h)
theorem Qcr:∀{M:List (Nat×Ob)} {id:Nat},H8 (Qe M id)=true→id∈Y9 M
 | [],id,h=>by simp[Qe,H8]at h
 | (k,ob)::l,id,h=>by
  simp only[Qe]at h
  cases hb:Nat.beq k id with
  | true=>rw[QJ hb]; exact .head _
  | false=>rw[hb]at h; exact .tail _ (Qcr h)
theorem Jph{a b:Nat}(h:a≠b):Nat.beq a b=false:=by
 cases hb:Nat.beq a b with
 | true=>exact absurd (QJ hb) h
 | false=>rfl
theorem Qgp:∀{M:List (Nat×Ob)},(Y9 M).Nodup→∀q∈M,Qe M q.1=some q.2
 | [],_,q,h=>by cases h
 | (k,x)::l,hn,q,h=>by
  have hn':=JA.1 (show(k::Y9 l).Nodup from hn)
  simp only[Qe]
  rcases QX.1 h with rfl | h
  ·simp[JY]
  ·have hne:k≠q.1:=fun e=>hn'.1 (e▸QY.2 ⟨q,h,rfl⟩)
   rw[Jph hne]
   exact Qgp hn'.2 q h
theorem Qum:∀{ds:List Nat} {env:List En} {e:En},e∈Ql7 env ds→e∈env∧∀d∈ds,Uv d e.av=true∧e.t≠d∧∀c∈e.cs,c.1≠d
 | [],env,e,h=>⟨h,by simp⟩
 | d::ds,env,e,h=>by
  obtain⟨h1,h2⟩:=Qum (ds:=ds) h
  obtain⟨h3,h4,h5⟩:=Fv h1
  obtain⟨h6,h7⟩:=Qgn h3
  refine⟨h6,fun d' hd=>?_⟩
  rcases QX.1 hd with rfl | hd
  ·exact⟨h7,h4,h5⟩
  ·exact h2 d' hd
theorem Qqp{α:Type}{f g:α→Bool}:∀{l:List α} {x:α},(∀y,f y=true→g y=true)→x∈l→f x=false→g x=true→(l.filter f).length<(l.filter g).length
 | y::ys,x,hfg,hx,h1,h2=>by
  have hle:∀zs:List α,(zs.filter f).length≤(zs.filter g).length:=by
   intro zs
   induction zs with
   | nil=>simp
   | cons z zs ih =>
    simp only[XG]
    cases hf:f z with
    | true=>rw[hfg z hf]; simpa using ih
    | false=>cases hg:g z<;>simp<;>omega
  rcases QX.1 hx with rfl | hx
  ·simp only[XG,h1,h2]
   have:=hle ys
   simp; omega
  ·have:=Qqp hfg hx h1 h2
   simp only[XG]
   cases hf:f y with
   | true=>rw[hfg y hf]; simpa using this
   | false=>cases hg:g y<;>simp<;>omega
end Gx

/- Regions, control, functions. -/
namespace Gx
open Go Go.RowKit Gd
set_option linter.unusedVariables false
set_option linter.unusedSimpArgs false
def Q1c(P:Program)(gl:List (Nat×Σ t:Ty,t.De))(K:List Con):Prop:=∀c∈K,Qfv P gl c∧Runs P c.f
def KsX(P:Program)(Y:TX)(X:Cx)(K:List Con):Prop:=Q1c P Y.gl K∧Vr Y.gl (okN X) X.w
theorem Jgg{M:List (Nat×Ob)}(x:AV):(O7 M x).isAgg=x.isAgg:=by
 cases x with
 | s id =>
  simp only[O7]
  split<;>rfl
 | _=>rfl
theorem Q1d{M:List (Nat×Ob)}(x:AV)(cs:List Value):(O7 M x).val cs=x.val cs:=by
 unfold AV.val
 rw[Jgg]
theorem Qin{M:List (Nat×Ob)}:∀{x:AV} {i:Nat},i∈Ja (O7 M x)→i∈Ja x
 | .s id,i,h=>by
  simp only[O7]at h
  split at h
  ·cases h
  ·exact h
 | .ag l,i,h=>Qin (x:=l) h
 | .cons x r,i,h=>by
  rcases QW.1 (show i∈Ja (O7 M x)++Ja (O7 M r)from h)with h | h
  ·exact QZ _ (Qin h)
  ·exact QV _ (Qin h)
 | .d ..,i,h=>h
 | .p ..,i,h=>h
 | .e ..,i,h=>h
 | .m _,i,h=>h
 | .b _,i,h=>h
 | .w ..,i,h=>h
 | .a ..,i,h=>h
 | .z,i,h=>h
 | .ns,i,h=>h
 | .np,i,h=>h
 | .nm,i,h=>h
 | .nf,i,h=>h
 | .f ..,i,h=>h
 | .tp _,i,h=>h
 | .nil,i,h=>h
section
variable {β:Nat→Nat} {ρ:Nat→Value} {ok:Ok} {w:World}
theorem T3{M:List (Nat×Ob)}(hM:∀id o,Qe M id=some o→(Qw β ρ id o).p ok w):∀{m:Bool} {x:AV} {cs:List Value},cr β ρ ok w m x cs→cr β ρ ok w m (O7 M x) cs
 | m,.s id,cs,h=>by
  simp only[O7]
  split
  ·rename_i e t xs ho
   have h1:=(hM _ _ ho).1
   have h':(∃v,cs=[v]∧zal v (ρ id))∧∃A n c,ρ id=.slice A n c:=by cases m<;>exact h
   obtain⟨⟨v,rfl,hz⟩,_⟩:=h'
   have h2:(rt (.sl t)).rep ok w xs [v]:=⟨_,rfl,Z3.1 (Qwv hz h1)⟩
   cases m<;>exact h2
  ·exact h
 | m,.ag l,cs,h=>by
  have h':cr β ρ ok w false l cs:=by cases m<;>exact h
  have:=T3 hM (m:=false) (x:=l) h'
  cases m<;>exact this
 | true,.cons x r,cs,⟨c1,vs,h1,h2,h3⟩=>⟨c1,vs,by rw[h1,Q1d],T3 hM h2,T3 hM h3⟩
 | false,.cons x r,cs,⟨c1,c2,h1,h2,h3⟩=>⟨c1,c2,h1,T3 hM h2,T3 hM h3⟩
 | m,.d ..,cs,h=>h
 | m,.p ..,cs,h=>h
 | m,.e ..,cs,h=>h
 | m,.m _,cs,h=>h
 | m,.b _,cs,h=>h
 | m,.w ..,cs,h=>h
 | m,.a ..,cs,h=>h
 | m,.z,cs,h=>h
 | m,.ns,cs,h=>h
 | m,.np,cs,h=>h
 | m,.nm,cs,h=>h
 | m,.nf,cs,h=>h
 | m,.f ..,cs,h=>h
 | m,.tp _,cs,h=>h
 | m,.nil,cs,h=>h
end
theorem Sb.replO{β0:Nat→Nat}{X:Cx}{G:GL}{D:List DF}{H:HL}{O1 O2:List TL}{t t':TL}{a:Act}{w:World}(h:Sb β0 X G D H (O1++t::O2) a w)(h1:∀g,t'.blks g↔t.blks g)(h2:∀b o,t'.cov b o↔t.cov b o)
  (hp:t'.p (Je X.ok X.w.heap.size β0 H (O1++t::O2) w) w):Sb β0 X G D H (O1++t'::O2) a w:=by
 have hmem:∀u∈O1++t'::O2,u=t'∨u∈O1++t::O2:=fun u hu=>by
  rcases QW.1 hu with hu | hu
  ·exact .inr (QZ _ hu)
  ·rcases QX.1 hu with hu | hu
   ·exact .inl hu
   ·exact .inr (QV _ (.tail _ hu))
 have ht:t∈O1++t::O2:=QV _ (.head _)
 have hok:∀b o,Je X.ok X.w.heap.size β0 H (O1++t::O2) w b o→Je X.ok X.w.heap.size β0 H (O1++t'::O2) w b o:=fun b o ⟨q1,q2,q3,q4⟩=>⟨q1,q2,q3,fun u hu hc=>by
  rcases hmem u hu with rfl | hu
  ·exact q4 t ht ((h2 b o).1 hc)
  ·exact q4 u hu hc⟩
 refine { sz:=h.sz,df:=h.df,fr:=h.fr,pn:=h.pn,tm:=h.tm,bel:=h.bel,dat:=h.dat.weak hok,obj:=h.obj,own:=fun u hu=>?_,dHH:=h.dHH,dHO:=fun p hp' u hu=>?_,dOO:=?_ }
 ·rcases hmem u hu with rfl | hu
  ·exact⟨u.weak hp hok,fun g hg=>(h.own t ht).2 g ((h1 g).1 hg)⟩
  ·exact⟨u.weak (h.own u hu).1 hok,(h.own u hu).2⟩
 ·rcases hmem u hu with rfl | hu
  ·exact fun hb=>h.dHO p hp' t ht ((h1 _).1 hb)
  ·exact h.dHO p hp' u hu
 ·have:=h.dOO
  rw[QM,QG]at this ⊢
  refine⟨this.1,⟨fun u hu g hg=>this.2.1.1 u hu g ((h1 g).1 hg),this.2.1.2⟩,fun x hx y hy g hg hg2=>?_⟩
  rcases QX.1 hy with rfl | hy
  ·exact this.2.2 x hx t (.head _) g hg ((h1 g).1 hg2)
  ·exact this.2.2 x hx y (.tail _ hy) g hg hg2
theorem Jqw{X:Cx}{β:Nat→Nat}{ρ:Nat→Value}{a:Act}{w:World}{S:XS}(h:Rel X β ρ S.flat a w){id:Nat}{tid:TypeId}{c:AV}(hm:Qe S.mem id=some (.var tid c)):Rel X β ρ (S.set id (.var tid (O7 S.flat.mem c))).flat a w:=by
 have hm':Qe S.flat.mem id=some (.var tid c):=Q0 hm
 obtain⟨l1,l2,e1,e2,e3⟩:=Ji hm'
 have hE:(S.set id (.var tid (O7 S.flat.mem c))).flat=⟨S.flat.env,Nu S.flat.mem id (.var tid (O7 S.flat.mem c))⟩:=by
  simp only[XS.flat,XS.set]
  rw[K1 hm]
 rw[hE,e2]
 have hO:Qf β ρ S.flat.mem=Qf β ρ l1++Qw β ρ id (.var tid c)::Qf β ρ l2:=by rw[e1]; simp[Qf]
 have hmem:Qf β ρ (l1++(id,Ob.var tid (O7 S.flat.mem c))::l2)=Qf β ρ l1++Qw β ρ id (.var tid (O7 S.flat.mem c))::Qf β ρ l2:=by simp[Qf]
 have h0:Sb (fun _=>0) X [] (S.flat.env.map (enD β ρ a)) [] (Qf β ρ l1++Qw β ρ id (.var tid c)::Qf β ρ l2) a w:=by rw[←hO]; exact h
 obtain⟨cs,q1,q2⟩:=(h.ob hm').1
 have hS:=Sb.replO h0 (t':=Qw β ρ id (.var tid (O7 S.flat.mem c))) (fun _=>Iff.rfl) (fun _ _=>Iff.rfl) (by
  rw[←hO]
  exact⟨cs,q1,T3 h.mm q2⟩)
 exact Rel.ofSb hS hmem.symm fun e he=>by
  have:=Jf.1 hS.dat _ (QY.2 ⟨e,he,rfl⟩)
  rw[←hmem]at this
  exact this
section
variable {P:Program} {Y:TX} {X:Cx} {S:XS} {β β':Nat→Nat} {ρ ρ':Nat→Value} {a a':Act} {w w':World} {n N:Nat} {K:List Con}
variable {Q:Exit→Act→World→Prop} {R:Type} {r:R}
theorem Qio{env:List En}:∀{ts:List Nat},∀e∈Qm9 env ts,e∈env
 | [],e,he=>by simp[Qm9]at he
 | t::ts,e,he=>by
  simp only[Qm9]at he
  split at he
  ·rename_i x hx
   rcases QX.1 he with rfl | he
   ·exact(U1 hx).1
   ·exact Qio e he
  ·exact Qio e he
theorem Rel.ent(h:Rel X β ρ S.flat a w)(ks ms:List Nat):Rel X β ρ (S.ent ks ms).flat a w:=by
 have h1:Rel X β ρ ⟨S.env++(Qm9 S.env ks++S.fix),S.flat.mem⟩ a w:=Rel.less (S:=S.flat) h fun e he=>by
  rcases QW.1 he with he | he
  ·exact QZ _ he
  ·rcases QW.1 he with he | he
   ·exact QZ _ (Qio e he)
   ·exact QV _ he
 refine h1.permM ?_
 simp only[XS.flat,XS.ent]
 have:=Zx ms S.mem
 rw[←QH]
 exact((XV.trans this).append_right _).symm
theorem Qcs(ks ms:List Nat)(S1:St):(S.out ks ms S1).flat=((S.ent ks ms).re S1).flat:=by simp[XS.flat,XS.out,XS.re,XS.ent]
theorem Id{S0 S':XS}{Γ:Shp}(h:Rel X β ρ S'.flat a w)(hk:S'.fix=S0.fix∧S'.fixM=S0.fixM∧S'.prot=S0.prot){x:Γ.De}(hd:S'.dec Γ=some x) :
  ∃β' ρ',agP S0.prot β β' ρ ρ'∧Rel X β' ρ' (S0.re (enc Γ x)).flat a w:=by
 obtain⟨β',ρ',h1,h2⟩:=XS.dec_ok h hd
 rw[hk.2.2]at h1
 rw[hk.1,hk.2.1]at h2
 exact⟨β',ρ',h1,h2⟩
theorem Qqq(h:Rel X β ρ S.flat a w){t:Nat}{x:AV}(he:Kj S.env t=some ⟨t,[],x⟩):Rel X β ρ (XS.put S t [] x).flat a w:=by
 obtain⟨hm,_⟩:=U1 he
 refine Rel.less (S:=S.flat) h fun e hE=>?_
 rcases QW.1 hE with hE | hE
 ·rcases QX.1 hE with rfl | hE
  ·exact QZ _ hm
  ·exact QZ _ (Fv hE).1
 ·exact QV _ hE
theorem Q8n(h:Rel X β ρ S.flat a w){t:Nat}{b:Bool}(he:Kj S.env t=some ⟨t,[],.d .bool b⟩):Rel X β ρ (XS.put S t [] (.d .bool b)).flat a w:=by
 obtain⟨hm,_⟩:=U1 he
 refine Rel.less (S:=S.flat) h fun e hE=>?_
 rcases QW.1 hE with hE | hE
 ·rcases QX.1 hE with rfl | hE
  ·exact QZ _ hm
  ·exact QZ _ (Fv hE).1
 ·exact QV _ hE
theorem Y3(hT:Q4 P Y.T)(hK:KsX P Y X K)(hX:X.n=n)(hr:X.res=[]){ops:List Oper}{Q:Exit→Act→World→Prop}:∀{R:Type} {r:R} (h:Hn) {l rest:List Oper} {S:XS} {β:Nat→Nat} {ρ:Nat→Value} {a:Act} {w:World} {k:XS→Option R},
  Rel X β ρ S.flat a w→Yw Y K n ops h l S k=some r→KOk P ⟨ops⟩ Q rest X S β ρ k r→wpList P ⟨ops⟩ Q (l++rest) a w
 | R,r,.done,l,rest,S,β,ρ,a,w,k,hS,hs,H=>by
  cases l with
  | nil=>exact H β ρ S a w (by simpa[Yw]using hs) (Y4.refl _ _ _) hS
  | cons o l=>simp[Yw]at hs
 | R,r,.n m g,l,rest,S,β,ρ,a,w,k,hS,hs,H=>by
  simp only[Yw]at hs
  have:=Qxd (P:=P) (X:=X) (Q:=Q) (r:=r) (Qid Y n ops) (fun h1 h2 h3=>Jf9 hT hX hr h1 h2 h3) (l1:=l.take m) (rest:=l.drop m++rest) hS hs fun β' ρ' S' a' w' h1 h2 h3=>Y3 hT hK hX hr g h3 h1 (H.after h2)
  rwa[←QH,JW]at this
 | R,r,.nl m g,l,rest,S,β,ρ,a,w,k,hS,hs,H=>by
  simp only[Yw]at hs
  have:=Qxd (P:=P) (X:=X) (Q:=Q) (r:=r) (Gx.stepL Y n ops) (fun h1 h2 h3=>Jga hT hX hr h1 h2 h3) (l1:=l.take m) (rest:=l.drop m++rest) hS hs fun β' ρ' S' a' w' h1 h2 h3=>Y3 hT hK hX hr g h3 h1 (H.after h2)
  rwa[←QH,JW]at this
 | R,r,.call c g,l,rest,S,β,ρ,a,w,k,hS,hs,H=>by
  simp only[Yw]at hs
  split at hs
  ·rename_i con o l' hc
   split at hs
   ·rename_i hg
    have hcm:=hK.1 con (JM hc)
    exact Qmc hX hr hS (K3 (Lp hg) _) hcm.1 hK.2 hcm.2 hs fun β' ρ' S' a' w' h1 h2 h3=>Y3 hT hK hX hr g h3 h1 (H.after h2)
   ·rename_i t want hg
    split at hs
    ·rename_i t' b he
     split at hs
     ·rename_i hb
      have hbw:b=want:=by simpa using hb
      subst hbw
      obtain⟨cs,h1,h2⟩:=hS.get he (Qc a)
      have h2':cs=_:=h2
      subst h2'
      have hcm:=hK.1 con (JM hc)
      exact Qmc hX hr hS ((Vu hg).2 h1) hcm.1 hK.2 hcm.2 hs fun β' ρ' S' a' w' h1 h2 h3=>Y3 hT hK hX hr g h3 h1 (H.after h2)
     ·cases hs
    ·cases hs
   ·cases hs
  ·cases hs
 | R,r,.br g,l,rest,S,β,ρ,a,w,k,hS,hs,H=>by
  simp only[Yw]at hs
  split at hs
  ·rename_i o l'
   split at hs
   ·rename_i hg
    exact Q03 hT hX hr hS (K3 (Lp hg) _) hs fun β' ρ' S' a' w' h1 h2 h3=>Y3 hT hK hX hr g h3 h1 (H.after h2)
   ·rename_i t want hg
    split at hs
    ·rename_i t' b he
     split at hs
     ·rename_i hb
      have hbw:b=want:=by simpa using hb
      subst hbw
      obtain⟨cs,h1,h2⟩:=hS.get he (Qc a)
      have h2':cs=_:=h2
      subst h2'
      exact Q03 hT hX hr hS ((Vu hg).2 h1) hs fun β' ρ' S' a' w' h1 h2 h3=>Y3 hT hK hX hr g h3 h1 (H.after h2)
     ·cases hs
    ·cases hs
   ·cases hs
  ·cases hs
 | R,r,.fz id g,l,rest,S,β,ρ,a,w,k,hS,hs,H=>by
  simp only[Yw]at hs
  have h1:Rel X β ρ (XS.flat { S with mem:=Y2 [id] S.mem }) a w:=by
   have:=Rel.freeze S.mem (l0:=[]) (F:=S.fixM) (ks:=[id]) hS
   simp only[QD]at this
   exact this
  exact Y3 hT hK hX hr g h1 hs (H.after ⟨rfl,rfl,rfl,agP.refl _ _ _⟩)
 | R,r,.keep ts g,l,rest,S,β,ρ,a,w,k,hS,hs,H=>by
  simp only[Yw]at hs
  have h1:Rel X β ρ (XS.flat { S with env:=Qm9 S.env ts }) a w:=Rel.less (S:=S.flat) hS fun e he=>by
   rcases QW.1 he with he | he
   ·exact QZ _ (Qio e he)
   ·exact QV _ he
  exact Y3 hT hK hX hr g h1 hs (H.after ⟨rfl,rfl,rfl,agP.refl _ _ _⟩)
 | R,r,.op src id d g,l,rest,S,β,ρ,a,w,k,hS,hs,H=>by
  simp only[Yw]at hs
  obtain⟨S1,β1,ρ1,h1,h2,hs⟩:=Q0t hS hs
  exact Y3 hT hK hX hr g h2 hs (H.after h1)
 | R,r,.cl id g,l,rest,S,β,ρ,a,w,k,hS,hs,H=>by
  simp only[Yw]at hs
  obtain⟨S1,ρ1,h1,h2,hs⟩:=Qud hS hs
  exact Y3 hT hK hX hr g h2 hs (H.after h1)
 | R,r,.fm id g,l,rest,S,β,ρ,a,w,k,hS,hs,H=>by
  simp only[Yw]at hs
  obtain⟨S1,h1,h2,hs⟩:=Q0v hS hs
  exact Y3 hT hK hX hr g h2 hs (H.after h1)
 | R,r,.md m g,l,rest,S,β,ρ,a,w,k,hS,hs,H=>by simp[Yw]at hs
 | R,r,.tl g,l,rest,S,β,ρ,a,w,k,hS,hs,H=>by simp[Yw]at hs
 | R,r,.dt _ g,l,rest,S,β,ρ,a,w,k,hS,hs,H=>by simp[Yw]at hs
 | R,r,.si t i x y,l,rest,S,β,ρ,a,w,k,hS,hs,H=>by
  simp only[Yw]at hs
  split at hs
  ·rename_i t' kd v he
   obtain⟨hf,hs⟩:=bvT hs
   split at hs
   ·rename_i hv
    subst hv
    have ht:t'=t:=(U1 he).2
    subst ht
    exact Y3 hT hK hX hr x (Qqq hS he) hs (H.after ⟨rfl,rfl,rfl,agP.refl _ _ _⟩)
   ·exact Y3 hT hK hX hr y hS hs H
  ·cases hs
 | R,r,.so t x y,l,rest,S,β,ρ,a,w,k,hS,hs,H=>by simp[Yw]at hs
 | R,r,.sp t m ks ms Γ x y g,l,rest,S,β,ρ,a,w,k,hS,hs,H=>by
  simp only[Yw]at hs
  split at hs
  ·rename_i t' v he
   have ht':t'=t:=(U1 he).2
   subst ht'
   obtain⟨hb,hs⟩:=bvT hs
   obtain⟨z,hz,hs⟩:=Yi hs
   have hp:=Q8n hS he
   have fin:KOk P ⟨ops⟩ Q (l.drop m++rest) X ((XS.put S t' [] (.d .bool v)).ent ks ms) β ρ (fun S'=>S'.dec Γ) z:=by
    intro β1 ρ1 S' a' w' hd hk h1
    obtain⟨β2,ρ2,h2,h3⟩:=Id (S0:=(XS.put S t' [] (.d .bool v)).ent ks ms) h1 ⟨hk.fix,hk.fixM,hk.prot⟩ hd
    rw[←Qcs]at h3
    refine Y3 hT hK hX hr g h3 hs (H.after ⟨rfl,rfl,rfl,?_⟩)
    exact agP.trans hk.ag h2
   have e:l++rest=l.take m++(l.drop m++rest):=by rw[←QH,JW]
   rw[e]
   cases v with
   | true =>
    rw[if_pos rfl]at hz
    exact Y3 hT hK hX hr x (hp.ent ks ms) hz fin
   | false =>
    rw[if_neg (by simp)]at hz
    exact Y3 hT hK hX hr y (hp.ent ks ms) hz fin
  ·cases hs
theorem T4:∀{R:Type} {r:R} (h:Hn) {S:XS} {β:Nat→Nat} {ρ:Nat→Value} {k:XS→Option R},Rel X β ρ S.flat a w→O8 h S k=some r→∃S' β' ρ',k S'=some r∧Y4 S S' β β' ρ ρ'∧Rel X β' ρ' S'.flat a w
 | R,r,.done,S,β,ρ,k,hS,hs=>⟨S,β,ρ,hs,Y4.refl _ _ _,hS⟩
 | R,r,.fz id g,S,β,ρ,k,hS,hs=>by
  simp only[O8]at hs
  have h1:Rel X β ρ (XS.flat { S with mem:=Y2 [id] S.mem }) a w:=by
   have:=Rel.freeze S.mem (l0:=[]) (F:=S.fixM) (ks:=[id]) hS
   simp only[QD]at this
   exact this
  obtain⟨S',β',ρ',q1,q2,q3⟩:=T4 g h1 hs
  exact⟨S',β',ρ',q1,⟨q2.fix,q2.fixM,q2.prot,q2.ag⟩,q3⟩
 | R,r,.op src id d g,S,β,ρ,k,hS,hs=>by
  simp only[O8]at hs
  obtain⟨S1,β1,ρ1,h1,h2,hs⟩:=Q0t hS hs
  obtain⟨S',β',ρ',q1,q2,q3⟩:=T4 g h2 hs
  exact⟨S',β',ρ',q1,h1.trans q2,q3⟩
 | R,r,.cl id g,S,β,ρ,k,hS,hs=>by
  simp only[O8]at hs
  obtain⟨S1,ρ1,h1,h2,hs⟩:=Qud hS hs
  obtain⟨S',β',ρ',q1,q2,q3⟩:=T4 g h2 hs
  exact⟨S',β',ρ',q1,h1.trans q2,q3⟩
 | R,r,.fm id g,S,β,ρ,k,hS,hs=>by
  simp only[O8]at hs
  obtain⟨S1,h1,h2,hs⟩:=Q0v hS hs
  obtain⟨S',β',ρ',q1,q2,q3⟩:=T4 g h2 hs
  exact⟨S',β',ρ',q1,h1.trans q2,q3⟩
 | R,r,.n _ _,S,β,ρ,k,hS,hs=>by simp[O8]at hs
 | R,r,.nl _ _,S,β,ρ,k,hS,hs=>by simp[O8]at hs
 | R,r,.md _ _,S,β,ρ,k,hS,hs=>by simp[O8]at hs
 | R,r,.keep _ _,S,β,ρ,k,hS,hs=>by simp[O8]at hs
 | R,r,.sp _ _ _ _ _ _ _ _,S,β,ρ,k,hS,hs=>by simp[O8]at hs
 | R,r,.call _ _,S,β,ρ,k,hS,hs=>by simp[O8]at hs
 | R,r,.tl _,S,β,ρ,k,hS,hs=>by simp[O8]at hs
 | R,r,.dt id g,S,β,ρ,k,hS,hs=>by
  simp only[O8]at hs
  split at hs
  ·rename_i tid c hm
   obtain⟨S',β',ρ',q1,q2,q3⟩:=T4 g (Jqw hS hm) hs
   exact⟨S',β',ρ',q1,⟨q2.fix,q2.fixM,q2.prot,q2.ag⟩,q3⟩
  ·cases hs
 | R,r,.so _ _ _,S,β,ρ,k,hS,hs=>by simp[O8]at hs
 | R,r,.si _ _ _ _,S,β,ρ,k,hS,hs=>by simp[O8]at hs
def TOk(P:Program)(ops:Array Oper)(Q:Act→Prop)(rest:List Oper)(X:Cx)(w:World)(S0:XS)(β:Nat→Nat)(ρ:Nat→Value){R:Type}(k:XS→Option R)(r:R):Prop :=
 ∀(β':Nat→Nat) (ρ':Nat→Value) (S':XS) (a':Act),k S'=some r→Y4 S0 S' β β' ρ ρ'→Rel X β' ρ' S'.flat a' w→wpStill P ops w Q rest a'
theorem TOk.after{ops:Array Oper}{Q:Act→Prop}{rest:List Oper}{k:XS→Option R}(h:TOk P ops Q rest X w S β ρ k r){S1:XS}{β1:Nat→Nat}{ρ1:Nat→Value}(hk:Y4 S S1 β β1 ρ ρ1):TOk P ops Q rest X w S1 β1 ρ1 k r :=
 fun β' ρ' S' a' h1 h2 h3=>h β' ρ' S' a' h1 (hk.trans h2) h3
section
variable {ops:List Oper} {Qs:Act→Prop} {rest:List Oper} {k:XS→Option R}
theorem Q1e{o:Oper}(hw:Region.wanted o (yielded ⟨ops⟩ a.tmps)=true){v:Value}(hr:(execOp a.eval o).run P w=.ok (.value v) w)(h:wpStill P ⟨ops⟩ w Qs rest (a.put o.dst v)):wpStill P ⟨ops⟩ w Qs (o::rest) a:=by
 unfold wpStill
 rw[if_pos hw]
 unfold Oper.still
 rw[hr,Oper.stillUpon_value]
 exact h
theorem Qqr{o:Oper}(hw:Region.wanted o (yielded ⟨ops⟩ a.tmps)=false)(h:wpStill P ⟨ops⟩ w Qs rest (a.put o.dst undef)):wpStill P ⟨ops⟩ w Qs (o::rest) a:=by
 unfold wpStill
 rw[if_neg (by rw[hw]; simp)]
 exact h
theorem Qqs(hT:Q4 P Y.T)(hX:X.n=n)(hr:X.res=[])(h:Rel X β ρ S.flat a w){o:Oper}(hw:Region.wanted o (yielded ⟨ops⟩ a.tmps)=true)(hs:Q0o Y n o S k=some r)(H:TOk P ⟨ops⟩ Qs rest X w S β ρ k r):wpStill P ⟨ops⟩ w Qs (o::rest) a:=by
 unfold Q0o at hs
 split at hs
 ·rename_i d hd
  obtain⟨hb,hs⟩:=bvT hs
  obtain⟨av,hk,hsem⟩:=Q0h (P:=P) hT rfl hs
  obtain⟨h1,h2⟩:=Yx hb hX hr
  obtain⟨cs,h3,h4⟩:=hsem h.toW (Qc a)
  refine Q1e hw h3 ?_
  rw[hd]
  refine H β ρ _ _ hk (Gy S d [] av) ?_
  rw[Xp h2]
  exact h.put0 h1 h4
 ·cases hs
theorem Q1f(hX:X.n=n)(hr:X.res=[])(h:Rel X β ρ S.flat a w){o:Oper}(hw:Region.wanted o (yielded ⟨ops⟩ a.tmps)=false)(hs:Qco n o S k=some r)(H:TOk P ⟨ops⟩ Qs rest X w S β ρ k r):wpStill P ⟨ops⟩ w Qs (o::rest) a:=by
 refine Qqr hw ?_
 unfold Qco at hs
 split at hs
 ·rename_i d hd
  obtain⟨hb,hk⟩:=bvT hs
  obtain⟨h1,h2⟩:=Yx hb hX hr
  rw[hd]
  refine H β ρ _ _ hk (Gy S d [] _) ?_
  rw[Xp h2]
  exact h.put0 h1 (x:=.tp .nil) (c:=[.tuple #[]]) ⟨[],rfl,rfl⟩
 ·rename_i hd
  rw[hd]
  exact H β ρ _ _ hs (Y4.refl _ _ _) h
theorem Jbt(hT:Q4 P Y.T)(hX:X.n=n)(hr:X.res=[])(h:Rel X β ρ S.flat a w){o:Oper}{t:Nat}{want:Bool}(hg:Qgj ops o=some (some (t,want)))(hs:Qic Y n t want o S k=some r)(H:TOk P ⟨ops⟩ Qs rest X w S β ρ k r) :
  wpStill P ⟨ops⟩ w Qs (o::rest) a:=by
 unfold Qic at hs
 split at hs
 ·rename_i t' cs b d he hd
  obtain⟨hb,hs⟩:=bvT hs
  simp only[QQ]at hb
  obtain⟨h1,h2⟩:=Yx hb.1.1 hX hr
  have htd:=neB hb.1.2
  have hud:∀c∈cs,c.1≠d:=Qcj (by simpa using hb.2)
  split at hs
  ·rename_i v hv
   obtain⟨hm,ht'⟩:=U1 he
   simp only at ht'
   subst ht'
   have hkeep:∀u:Value,Jt (a.put (some d) u) ((t',want)::cs)↔Jt a ((t',want)::cs):=by
    intro u
    have hne:∀c∈(t',want)::cs,c.1≠d:=by
     intro c hc
     rcases QX.1 hc with rfl | hc
     ·exact htd
     ·exact hud c hc
    exact⟨fun hc c hm=>by rw[←Y5 (hne c hm) u]; exact hc c hm,fun hc c hm=>by rw[Y5 (hne c hm) u]; exact hc c hm⟩
   by_cases hw:Region.wanted o (yielded ⟨ops⟩ a.tmps)=true
   ·have htb:=(Vu hg).1 hw
    have hcs:Jt a cs:=by
     rcases(h.en hm).2 with h3 | h3
     ·exact h3
     ·simp only at h3; rw[Lx (Qci he),htb]at h3; simp[undef]at h3
    have hcur:Jt a ((t',want)::cs):=by
     intro c hc
     rcases QX.1 hc with rfl | hc
     ·exact htb
     ·exact hcs c hc
    obtain⟨c,h3,h4⟩:=Qh9 hT h.toW hcur hv
    refine Q1e hw h3 ?_
    rw[hd]
    refine H β ρ _ _ hs (Gy S d _ _) ?_
    rw[Xp h2]
    exact h.put h1 (fun _=>⟨c,rfl,h4⟩) (.inl ((hkeep _).2 hcur))
   ·have hw':Region.wanted o (yielded ⟨ops⟩ a.tmps)=false:=by simpa using hw
    refine Qqr hw' ?_
    rw[hd]
    refine H β ρ _ _ hs (Gy S d _ _) ?_
    rw[Xp h2]
    refine h.put h1 (fun hc=>?_) (.inr rfl)
    have:=(hkeep _).1 hc
    exact absurd ((Vu hg).2 (this _ (.head _))) hw
  ·cases hs
 ·cases hs
theorem Jbu(hT:Q4 P Y.T)(hX:X.n=n)(hr:X.res=[])(h:Rel X β ρ S.flat a w){o:Oper}(hs:Qw4 Y n ops o S k=some r)(H:TOk P ⟨ops⟩ Qs rest X w S β ρ k r):wpStill P ⟨ops⟩ w Qs (o::rest) a:=by
 unfold Qw4 at hs
 split at hs
 ·rename_i hg
  exact Qqs hT hX hr h (K3 (Lp hg) _) hs H
 ·rename_i t want hg
  exact Jbt hT hX hr h hg hs H
 ·cases hs
theorem Jbv(hT:Q4 P Y.T)(hX:X.n=n)(hr:X.res=[])(h:Rel X β ρ S.flat a w){o:Oper}(hs:Qw5 Y n ops o S k=some r)(H:TOk P ⟨ops⟩ Qs rest X w S β ρ k r):wpStill P ⟨ops⟩ w Qs (o::rest) a:=by
 unfold Qw5 at hs
 split at hs
 ·rename_i hg
  exact Qqs hT hX hr h (K3 (Lp hg) _) hs H
 ·rename_i t want hg
  split at hs
  ·rename_i t' b he
   obtain⟨cs,h1,h2⟩:=h.get he (Qc a)
   have h2':cs=_:=h2
   subst h2'
   have h1':a.tmps[t]?=some (.bool b):=h1
   split at hs
   ·rename_i hb
    have:b=want:=by simpa using hb
    subst this
    exact Qqs hT hX hr h ((Vu hg).2 h1') hs H
   ·rename_i hb
    refine Q1f hX hr h ?_ hs H
    have hne:b≠want:=by simpa using hb
    cases hw:Region.wanted o (yielded ⟨ops⟩ a.tmps)with
    | false=>rfl
    | true =>
     have:=(Vu hg).1 hw
     rw[h1']at this
     injection this with this
     injection this with this
     exact absurd this hne
  ·rename_i t' he
   obtain⟨cs,h1,vs,h2,h3⟩:=h.get he (Qc a)
   subst h2
   refine Q1f hX hr h ?_ hs H
   cases hw:Region.wanted o (yielded ⟨ops⟩ a.tmps)with
   | false=>rfl
   | true =>
    have:=(Vu hg).1 hw
    rw[h1]at this
    injection this with this
    cases this
  ·cases hs
 ·cases hs
theorem Qqt(st:Oper→XS→(XS→Option R)→Option R)
  (hst:∀{o:Oper} {rest:List Oper} {S:XS} {β:Nat→Nat} {ρ:Nat→Value} {a:Act} {k:XS→Option R},Rel X β ρ S.flat a w→st o S k=some r→TOk P ⟨ops⟩ Qs rest X w S β ρ k r→wpStill P ⟨ops⟩ w Qs (o::rest) a) :
  ∀{l1 rest:List Oper} {S:XS} {β:Nat→Nat} {ρ:Nat→Value} {a:Act} {k:XS→Option R},Rel X β ρ S.flat a w→Qna st l1 S k=some r→TOk P ⟨ops⟩ Qs rest X w S β ρ k r→wpStill P ⟨ops⟩ w Qs (l1++rest) a
 | [],rest,S,β,ρ,a,k,h,hs,H=>H β ρ S a hs (Y4.refl _ _ _) h
 | o::l1,rest,S,β,ρ,a,k,h,hs,H=>by
  simp only[Qna]at hs
  refine hst (rest:=l1++rest) h hs fun β' ρ' S' a' hk hkeep h'=>?_
  exact Qqt st hst h' hk (H.after hkeep)
end
theorem T5(hT:Q4 P Y.T)(hX:X.n=n)(hr:X.res=[]){ops:List Oper}{Qs:Act→Prop}:∀{R:Type} {r:R} (h:Hn) {l rest:List Oper} {S:XS} {β:Nat→Nat} {ρ:Nat→Value} {a:Act} {k:XS→Option R},
  Rel X β ρ S.flat a w→L5 Y n ops h l S k=some r→TOk P ⟨ops⟩ Qs rest X w S β ρ k r→wpStill P ⟨ops⟩ w Qs (l++rest) a
 | R,r,.done,l,rest,S,β,ρ,a,k,hS,hs,H=>by
  cases l with
  | nil=>exact H β ρ S a (by simpa[L5]using hs) (Y4.refl _ _ _) hS
  | cons o l=>simp[L5]at hs
 | R,r,.n m g,l,rest,S,β,ρ,a,k,hS,hs,H=>by
  simp only[L5]at hs
  have:=Qqt (P:=P) (X:=X) (w:=w) (r:=r) (Qw4 Y n ops) (fun h1 h2 h3=>Jbu hT hX hr h1 h2 h3) (l1:=l.take m) (rest:=l.drop m++rest) hS hs fun β' ρ' S' a' h1 h2 h3=>T5 hT hX hr g h3 h1 (H.after h2)
  rwa[←QH,JW]at this
 | R,r,.nl m g,l,rest,S,β,ρ,a,k,hS,hs,H=>by
  simp only[L5]at hs
  have:=Qqt (P:=P) (X:=X) (w:=w) (r:=r) (Qw5 Y n ops) (fun h1 h2 h3=>Jbv hT hX hr h1 h2 h3) (l1:=l.take m) (rest:=l.drop m++rest) hS hs fun β' ρ' S' a' h1 h2 h3=>T5 hT hX hr g h3 h1 (H.after h2)
  rwa[←QH,JW]at this
 | R,r,.call c g,l,rest,S,β,ρ,a,k,hS,hs,H=>by simp[L5]at hs
 | R,r,.fz id g,l,rest,S,β,ρ,a,k,hS,hs,H=>by simp[L5]at hs
 | R,r,.keep ts g,l,rest,S,β,ρ,a,k,hS,hs,H=>by simp[L5]at hs
 | R,r,.md m g,l,rest,S,β,ρ,a,k,hS,hs,H=>by simp[L5]at hs
 | R,r,.cl _ _,l,rest,S,β,ρ,a,k,hS,hs,H=>by simp[L5]at hs
 | R,r,.op _ _ _ _,l,rest,S,β,ρ,a,k,hS,hs,H=>by simp[L5]at hs
 | R,r,.fm _ _,l,rest,S,β,ρ,a,k,hS,hs,H=>by simp[L5]at hs
 | R,r,.tl g,l,rest,S,β,ρ,a,k,hS,hs,H=>by simp[L5]at hs
 | R,r,.dt _ g,l,rest,S,β,ρ,a,k,hS,hs,H=>by simp[L5]at hs
 | R,r,.si _ _ _ _,l,rest,S,β,ρ,a,k,hS,hs,H=>by simp[L5]at hs
 | R,r,.so t x y,l,rest,S,β,ρ,a,k,hS,hs,H=>by simp[L5]at hs
 | R,r,.sp t m ks ms Γ x y g,l,rest,S,β,ρ,a,k,hS,hs,H=>by
  simp only[L5]at hs
  split at hs
  ·rename_i t' v he
   have ht':t'=t:=(U1 he).2
   subst ht'
   obtain⟨hb,hs⟩:=bvT hs
   obtain⟨z,hz,hs⟩:=Yi hs
   have hp:=Q8n hS he
   have fin:TOk P ⟨ops⟩ Qs (l.drop m++rest) X w ((XS.put S t' [] (.d .bool v)).ent ks ms) β ρ (fun S'=>S'.dec Γ) z:=by
    intro β1 ρ1 S' a' hd hk h1
    obtain⟨β2,ρ2,h2,h3⟩:=Id (S0:=(XS.put S t' [] (.d .bool v)).ent ks ms) h1 ⟨hk.fix,hk.fixM,hk.prot⟩ hd
    rw[←Qcs]at h3
    refine T5 hT hX hr g h3 hs (H.after ⟨rfl,rfl,rfl,?_⟩)
    exact agP.trans hk.ag h2
   have e:l++rest=l.take m++(l.drop m++rest):=by rw[←QH,JW]
   rw[e]
   cases v with
   | true =>
    rw[if_pos rfl]at hz
    exact T5 hT hX hr x (hp.ent ks ms) hz fin
   | false =>
    rw[if_neg (by simp)]at hz
    exact T5 hT hX hr y (hp.ent ks ms) hz fin
  ·cases hs
theorem Rel.drew(h:Rel X β ρ S.flat a w):Rel X β ρ S.flat a { w with drawn:=w.drawn+1 }:=Sb.below h ((Below.refl _ _).drew)
end
end Gx

/- A region whose order is drawn, by an invariant alone. -/
namespace Gx
open Go Go.RowKit Gd
set_option linter.unusedVariables false
set_option linter.unusedSimpArgs false
section
variable {P:Program} {a:Act} {w:World}
theorem Q51(I:(Nat→Bool)→Act→World→Prop){id:Nat}{l:List Oper}{Q:Exit→Act→World→Prop}(hm:P.follows .mixedOrders=true)(p:Nat)(hIE:∀(E E':Nat→Bool) (a:Act) (w:World),(∀i,i<p→E i=E' i)→I E a w→I E' a w)
  (hple:Nat.ble p l.length=true) (hback:Gd.backB l=true) (hfin:Jo7 l p=true) (h0:I (fun _=>false) a w.drew)
  (hstep:∀(E:Nat→Bool) (i:Nat) (o:Oper) (a:Act) (w:World) (Q':Exit→Act→World→Prop),i<p→l[i]?=some o→Qpg l (fun j=>E j=true)→E i=false→(∀e∈o.after.toList,Region.binds .any e=true→E e.on=true)→I E a w →
   (∀a' w',I (fun j=>j==i||E j) a' w'→Q' .normal a' w')→wpList P ⟨l⟩ Q' [o] a w)
  (hend:∀a' w',I (fun _=>true) a' w'→wpList P ⟨l⟩ Q (l.drop p) a' w') :
  (Code.region id ⟨l⟩ true).wp P Q a w:=by
 refine wp_region_any hm ?_
 have hpl:=QF hple
 let E (listed:Array Bool):Nat→Prop:=fun i=>listed.getD i false=true
 let J1 (listed:Array Bool) (a:Act) (w:World):Prop:=(∀k,p≤k→¬ E listed k)∧I (fun i=>listed.getD i false) a w
 let J (listed:Array Bool) (a:Act) (w:World):Prop:=listed.size=l.length∧Qpg l (E listed) ∧
  (J1 listed a w∨(∃k,p<k∧(∀i,i<l.length→(E listed i↔i<k))∧wpList P ⟨l⟩ Q (l.drop k) a w))
 have hset:∀(listed:Array Bool) (i j:Nat),listed.size=l.length→i<l.length→(E (listed.setIfInBounds i true) j↔(j=i∨E listed j)):=by
  intro listed i j hs hi
  simp only[E,JC,ZL,hs]
  by_cases hj:i=j
  ·subst hj; simp[hi]
  ·have hj':¬ j=i:=fun e=>hj e.symm
   simp[hj,hj']
 have hsetB:∀(listed:Array Bool) (i j:Nat),listed.size=l.length→i<l.length→(listed.setIfInBounds i true).getD j false=(j==i||listed.getD j false):=by
  intro listed i j hs hi
  have:=hset listed i j hs hi
  simp only[E]at this
  cases h1:(listed.setIfInBounds i true).getD j false with
  | true =>
   rcases this.1 h1 with rfl | h2
   ·simp
   ·simp[h2]
  | false =>
   cases h2:(j==i||listed.getD j false)with
   | false=>rfl
   | true =>
    simp only[JS,beq_iff_eq]at h2
    rw[this.2 h2]at h1; cases h1
 have hgo:∀listed a w,J1 listed a w→(∀j,j<p→E listed j)→wpList P ⟨l⟩ Q (l.drop p) a w:=by
  rintro listed a w ⟨hno,hI⟩ hall
  exact hend a w (hIE _ _ a w (fun i hi=>hall i hi) hI)
 have hdone:∀listed a w,J listed a w→(∀i,i<l.length→E listed i)→Q .normal a w:=by
  rintro listed a w ⟨hs,hc,h1 | ⟨k,hk,hE,hw⟩⟩ hall
  ·have hpm:p=l.length:=by
    rcases JL p l.length with hlt | hge
    ·exact absurd (hall p hlt) (h1.1 p (QB _))
    ·omega
   have:=hgo listed a w h1 fun i hi=>hall i (by omega)
   rw[hpm,KD]at this
   exact this
  ·have hkl:l.length≤k:=by
    rcases JL k l.length with hlt | hge
    ·have:=(hE k hlt).1 (hall k hlt); omega
    ·exact hge
   rw[VB hkl]at hw
   exact hw
 have step1:∀(listed:Array Bool) (a:Act) (w:World) (i:Nat) (o:Oper) (Q':Exit→Act→World→Prop),listed.size=l.length→Qpg l (E listed)→J1 listed a w→i<p→l[i]?=some o→¬ E listed i →
   (∀e∈o.after.toList,Region.binds .any e=true→listed.getD e.on false=true)→(∀a' w',J1 (listed.setIfInBounds i true) a' w'→Q' .normal a' w')→wpList P ⟨l⟩ Q' [o] a w:=by
  rintro listed a w i o Q' hs hc ⟨hno,hI⟩ hip ho hniE hpre hK
  have hil:i<l.length:=by omega
  have hnotE:listed.getD i false=false:=by
   cases h1:listed.getD i false with
   | false=>rfl
   | true=>exact absurd h1 hniE
  refine hstep (fun i=>listed.getD i false) i o a w Q' hip ho hc hnotE hpre hI fun a' w' hI'=>hK a' w' ⟨fun k hk hEk=>?_,hIE _ _ a' w' (fun j _=>(hsetB listed i j hs hil).symm) hI'⟩
  rw[hset listed i k hs hil]at hEk
  rcases hEk with rfl | hEk
  ·omega
  ·exact hno k hk hEk
 have main:∀(fuel:Nat) (listed:Array Bool) (a:Act) (w:World),J listed a w→((List.range l.length).filter fun i=>!listed.getD i false).length≤fuel→wpAny P .any ⟨l⟩ Q fuel listed a w:=by
  intro fuel
  induction fuel with
  | zero =>
   intro listed a w hJ hle
   have hall:∀i,i<l.length→E listed i:=by
    intro i hi
    cases hl:listed.getD i false with
    | true=>exact hl
    | false =>
     have:i∈(List.range l.length).filter fun i=>!listed.getD i false:=JU.2 ⟨JT.2 hi,by rw[hl]; rfl⟩
     have hnil:=JJ (Nat.le_zero.1 hle)
     rw[hnil]at this; simp at this
   refine⟨?_,hdone listed a w hJ hall⟩
   apply List.eq_nil_iff_forall_not_mem.2
   intro i hi
   rw[Qjw]at hi
   have h1:=hall i hi.1
   have h2:=hi.2.1
   simp only[E]at h1
   have h3:listed.getD i true=listed.getD i false:=by simp[Array.getD,hJ.1,hi.1]
   rw[h3,h1]at h2; cases h2
  | succ fuel ih =>
   intro listed a w hJ hle
   refine⟨fun hr=>hdone listed a w hJ (Q5f hJ.1 hback hr),fun i hi=>?_⟩
   rw[Qjw]at hi
   obtain⟨hil,hnl,o,ho,hpre⟩:=hi
   obtain⟨hs,hc,hcase⟩:=hJ
   have hniE:¬ E listed i:=by
    intro hE
    have h3:listed.getD i true=listed.getD i false:=by simp[Array.getD,hs,hil]
    rw[h3]at hnl; simp only[E]at hE; rw[hE]at hnl; cases hnl
   have hcl:Qpg l (E (listed.setIfInBounds i true)):=by
    intro j oj hj hoj e he hb
    rw[hset listed i _ hs hil]at hj ⊢
    rcases hj with rfl | hj
    ·rw[ho]at hoj; injection hoj with hoj; subst hoj
     exact .inr (hpre e he hb)
    ·exact .inr (hc j oj hj hoj e he hb)
   have hcnt:((List.range l.length).filter fun j=>!(listed.setIfInBounds i true).getD j false).length≤fuel:=by
    have hlt:((List.range l.length).filter fun j=>!(listed.setIfInBounds i true).getD j false).length<((List.range l.length).filter fun j=>!listed.getD j false).length:=by
     apply Qqp (x:=i)
     ·intro j hj
      have:=hset listed i j hs hil
      simp only[E]at this
      cases h1:listed.getD j false with
      | false=>rfl
      | true=>rw[this.2 (.inr h1)]at hj; cases hj
     ·exact JT.2 hil
     ·have:=(hset listed i i hs hil).2 (.inl rfl)
      simp only[E]at this; rw[this]; rfl
     ·cases h1:listed.getD i false with
      | true=>exact absurd h1 hniE
      | false=>rfl
    omega
   rcases hcase with hJ1 | ⟨k,hk,hE,hw⟩
   ·rcases JL i p with hip | hip
    ·
     exact Qwn ho (step1 listed a w i o (Exit.then (wpAny P .any ⟨l⟩ Q fuel (listed.setIfInBounds i true)) Q) hs hc hJ1 hip ho hniE hpre fun a' w' hJ1=>ih _ a' w' ⟨by simp[hs],hcl,.inl hJ1⟩ hcnt)
    ·
     have hall:∀j,j<i→E listed j:=fun j hj=>Rj hc l.length i j (Q8m hfin hip hil hj) fun o' ho'=>by rw[ho]at ho'; injection ho' with ho'; subst ho'; exact hpre
     have hip':i=p:=by
      rcases JL p i with hlt | hge
      ·exact absurd (hall p hlt) (hJ1.1 p (QB _))
      ·omega
     subst hip'
     have hw:=hgo listed a w hJ1 hall
     refine wpOp_mono (fun a w hw'=>ih _ a w ⟨by simp[hs],hcl,.inr ⟨i+1,by omega,fun j hj=>?_,hw'⟩⟩ hcnt) (Qhx ho hw)
     rw[hset listed i j hs hil]
     constructor
     ·rintro(rfl | hEj)
      ·omega
      ·rcases JL j i with h1 | h1
       ·omega
       ·exact absurd hEj (hJ1.1 j h1)
     ·intro hlt
      rcases JL j i with h1 | h1
      ·exact .inr (hall j h1)
      ·exact .inl (by omega)
   ·
    have hall:∀j,j<i→E listed j:=by
     intro j hj
     have hpi:p<i:=by
      rcases JL i k with h1 | h1
      ·exact absurd ((hE i hil).2 h1) hniE
      ·omega
     exact Rj hc l.length i j (Q8m hfin (by omega) hil hj) fun o' ho'=>by rw[ho]at ho'; injection ho' with ho'; subst ho'; exact hpre
    have hik:i=k:=by
     rcases JL i k with h1 | h1
     ·exact absurd ((hE i hil).2 h1) hniE
     ·rcases JL k i with h2 | h2
      ·have:=(hE k (by omega)).1 (hall k h2); omega
      ·omega
    subst hik
    refine wpOp_mono (fun a w hw'=>ih _ a w ⟨by simp[hs],hcl,.inr ⟨i+1,by omega,fun j hj=>?_,hw'⟩⟩ hcnt) (Qhx ho hw)
    rw[hset listed i j hs hil,hE j hj]
    constructor
    ·rintro(rfl | h1)<;>omega
    ·intro h1
     rcases JL j i with h2 | h2
     ·exact .inr h2
     ·exact .inl (by omega)
 refine main _ _ a _ ⟨by simp,fun i o hE=>?_,.inl ⟨fun k _ hE=>?_,?_⟩⟩ ?_
 ·simp only[E]at hE; simp[JC,ZT]at hE
  split at hE<;>simp at hE
 ·simp only[E]at hE; simp[JC,ZT]at hE
  split at hE<;>simp at hE
 ·refine hIE (fun _=>false) _ a _ (fun i hi=>?_) h0
  simp only[JC,ZT]
  split<;>rfl
 ·refine QN (ZN _ _) (by simp)
end
end Gx
