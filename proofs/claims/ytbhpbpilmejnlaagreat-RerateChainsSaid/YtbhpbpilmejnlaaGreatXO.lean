/- Calls. -/
import Derived.Test.YtbhpbpilmejnlaaGreatXMy
namespace Gx
open Go Go.RowKit Gd
set_option linter.unusedVariables false
set_option linter.unusedSimpArgs false
def Qm5 (c:Con) (β:Nat→Nat) (ρ:Nat→Value) (ok:Ok) (L:List Nat) (w:World) (x:c.Γ.De) (y:c.Δ.De) (v:Value) (w':World):Prop :=
 ∃(β':Nat→Nat) (ρ':Nat→Value),agP (c.Γ.mem.map Prod.fst) β β' ρ ρ' ∧
  (∃cs,v=(Fj (enc c.Δ y).env).val cs∧cr β' ρ' (Jh (okL L ok) w.heap.size (fun _=>0) [] (Qf β' ρ' ((enc c.Δ y).mem++roM c x)) w') w' false (Fj (enc c.Δ y).env) cs) ∧
  (∀t∈Qf β' ρ' ((enc c.Δ y).mem++roM c x),t.p (Jh (okL L ok) w.heap.size (fun _=>0) [] (Qf β' ρ' ((enc c.Δ y).mem++roM c x)) w') w'∧∀g,t.blks g→w.heap.size≤g∨g∈L) ∧
  (Qf β' ρ' ((enc c.Δ y).mem++roM c x)).Pairwise fun s t=>∀g,s.blks g→¬ t.blks g
def Vl (gl:List (Nat×Σ t:Ty,t.De)) (ok:Ok) (w:World):Prop :=
 ∀q∈gl,Oc (rt q.2.1) ok w q.2.2 (.pointer (some ⟨q.1,0,none⟩))∧ok q.1 0∧∃cs t fz,w.heap[q.1]?=some (.cells cs t fz)∧cs.size=q.2.1.size
theorem Vl.keep {gl:List (Nat×Σ t:Ty,t.De)} {ok:Ok} {w w':World} (h:Vl gl ok w) (hs:w.heap.size≤w'.heap.size) (hb:∀b o,ok b o→w'.heap[b]?=w.heap[b]?):Vl gl ok w' :=
 fun q hq=>let ⟨h1,h2,h3⟩:=h q hq; ⟨h1.evo (Evo.of_blocks hs hb),h2,by rw [hb _ _ h2]; exact h3⟩
theorem Vl.weak {gl:List (Nat×Σ t:Ty,t.De)} {ok ok':Ok} {w:World} (h:Vl gl ok w) (hk:∀b o,ok b o→ok' b o):Vl gl ok' w:=fun q hq=>let ⟨h1,h2,h3⟩:=h q hq; ⟨h1.weak hk,hk _ _ h2,h3⟩
def okN (X:Cx):Ok:=fun b o=>X.ok b o∧b∉X.lent∧b<X.w.heap.size
theorem Gi {gl:List (Nat×Σ t:Ty,t.De)} {X:Cx} {β:Nat→Nat} {G:GL} {D:List DF} {O:List TL} {a:Act} {w:World} (h:Sb β X G D [] O a w) (hG:Vl gl (okN X) X.w):Vl gl (Jh X.ok X.w.heap.size β [] O w) w:=by
 refine (hG.keep h.bel.size fun b o hk=>h.bel.block b hk.2.2 hk.2.1).weak fun b o hk=>⟨.inl hk.1,Nat.lt_of_lt_of_le hk.2.2 h.bel.size,by simp,fun t ht hc=>?_⟩
 rcases (h.own t ht).2 b (t.cb hc) with h1 | h1
 ·have:=hk.2.2; omega
 ·exact hk.2.1 h1
def Qn (P:Program) (gl:List (Nat×Σ t:Ty,t.De)) (c:Con):Prop :=
 ∀(ok:Ok) (w:World) (L:List Nat) (β:Nat→Nat) (ρ:Nat→Value) (x:c.Γ.De) (y:c.Δ.De) (vs:List Value),(∀b o,ok b o→b<w.heap.size)→Vl gl ok w→vs.length=c.Γ.env.length→Qb3 (Qf β ρ (enc c.Γ x).mem) L ok w →
  (∀e∈(enc c.Γ x).env,∃cs,vs[e.t]?=some (e.av.val cs)∧cr β ρ ok w false e.av cs)→c.fn x=some y→Calls P c.f ⟨vs⟩ w (Qdi L w (Qm5 c β ρ ok L w x y))
section
variable {β β':Nat→Nat} {ρ ρ':Nat→Value} {ok:Ok} {w:World}
theorem Bi {g:Nat→Nat}:∀{m:Bool} {x:AV} {cs:List Value},(∀i∈Jc x,β' (g i)=β i∧ρ' (g i)=ρ i)→cr β ρ ok w m x cs→cr β' ρ' ok w m (Ko g x) cs
 | m,.d t x,cs,_,h=>by cases m<;>exact h
 | m,.p id path,cs,hn,h=>by
  have:=(hn id (.head _)).1
  cases m<;>(simp only [cr,Ko] at h ⊢; rw [this]; exact h)
 | m,.e id path,cs,hn,h=>by
  have:=(hn id (.head _)).2
  cases m<;>(simp only [cr,Ko] at h ⊢; rw [this]; exact h)
 | m,.s id,cs,hn,h=>by
  have:=(hn id (.head _)).2
  cases m<;>(simp only [cr,Ko] at h ⊢; rw [this]; exact h)
 | m,.m id,cs,hn,h=>by
  have:=(hn id (.head _)).1
  cases m<;>(simp only [cr,Ko] at h ⊢; rw [this]; exact h)
 | m,.w id _ _,cs,hn,h=>by
  have:=(hn id (.head _)).1
  cases m<;>(simp only [cr,Ko] at h ⊢; rw [this]; exact h)
 | m,.a t x,cs,_,h=>by cases m<;>exact h
 | m,.z,cs,_,h=>by cases m<;>exact h
 | m,.ns,cs,_,h=>by cases m<;>exact h
 | m,.np,cs,_,h=>by cases m<;>exact h
 | m,.nm,cs,_,h=>by cases m<;>exact h
 | m,.nf,cs,_,h=>by cases m<;>exact h
 | m,.f fn caps,cs,hn,h=>by cases m<;>exact let ⟨vs,h1,h2⟩:=h; ⟨vs,h1,Bi (fun i hi=>hn i (by simpa [Jc] using hi)) h2⟩
 | m,.ag l,cs,hn,h=>by cases m<;>exact Bi (m:=false) (x:=l) (fun i hi=>hn i (by simpa [Jc] using hi)) h
 | m,.tp l,cs,hn,h=>by cases m<;>exact let ⟨vs,h1,h2⟩:=h; ⟨vs,h1,Bi (fun i hi=>hn i (by simpa [Jc] using hi)) h2⟩
 | m,.nil,cs,_,h=>by cases m<;>exact h
 | true,.cons x r,cs,hn,h=>by
  obtain ⟨c1,vs,h1,h2,h3⟩:=h
  refine ⟨c1,vs,?_,Bi (fun i hi=>hn i (by simp [Jc,hi])) h2,Bi (fun i hi=>hn i (by simp [Jc,hi])) h3⟩
  rw [h1]; cases x<;>rfl
 | false,.cons x r,cs,hn,h=>by
  exact let ⟨c1,vs,h1,h2,h3⟩:=h; ⟨c1,vs,h1,Bi (fun i hi=>hn i (by simp [Jc,hi])) h2,Bi (fun i hi=>hn i (by simp [Jc,hi])) h3⟩
theorem Qzg (g:Nat→Nat) (x:AV) (cs:List Value):(Ko g x).val cs=x.val cs:=by cases x<;>rfl
theorem Qd7 {g:Nat→Nat}:∀{l:List (Nat×Ob)},(∀i∈Jk l,β' (g i)=β i∧ρ' (g i)=ρ i)→Uf (Qf β ρ l) (Qf β' ρ' (Zz g l))
 | [],_=>.nil
 | (id,o)::l,h=>by
  have h1:=h id (by
   cases o with
   | mapT k v path e u xs hole=>cases hole<;>simp [Jk]
   | mapO k9 xs9 hole=>cases hole<;>simp [Jk,Zy]
   | _=>simp [Jk])
  refine .cons ?_ (Qd7 fun i hi=>h i (by
   cases o with
   | mapT k v path e u xs hole=>cases hole<;>simp [Jk,hi]
   | mapO k9 xs9 hole=>cases hole<;>simp [Jk,Zy,hi]
   | _=>simp [Jk,hi]))
  cases o with
  | var t c =>
   refine ⟨fun b=>by simp only [Q2,G0,L1]; rw [h1.1],fun b o=>by simp only [Q2,G0,L1]; rw [h1.1],fun ok w hp=>?_⟩
   obtain ⟨cs,hh,hc⟩:=hp
   exact ⟨cs,by rw [h1.1]; exact hh,Bi (fun i hi=>h i (by simp [Jk,hi])) hc⟩
  | row e t xs=>simp only [Q2,L1,h1.2]; exact Zi.refl _
  | tail e t xs=>simp only [Q2,L1,h1.2]; exact Zi.refl _
  | map k v xs=>simp only [Q2,L1,h1.1]; exact Zi.refl _
  | mapT k v path e u xs hole =>
   cases hole with
   | none=>simp only [Q2,L1,h1.1,h1.2,Ca]; exact Zi.refl _
   | some q =>
    have h2:=(h q.2 (by simp [Jk])).2
    simp only [Q2,L1,h1.1,h1.2,Ca,Jbu,h2]; exact Zi.refl _
  | mapO k9 xs9 hole =>
   have hv:Cb β' (hole.map fun q=>(q.1,g q.2))=Cb β hole:=by
    cases hole with
    | none=>rfl
    | some q=>simp only [Cb,Option.map_some,(h q.2 (by simp [Jk,Zy])).1]
   simp only [Q2,L1,h1.1,hv]; exact Zi.refl _
theorem Qcq {l:List (Nat×Ob)} (h:∀i∈Jk l,β' i=β i∧ρ' i=ρ i):Uf (Qf β ρ l) (Qf β' ρ' l):=by
 have:=Qd7 (g:=id) (β':=β') (ρ':=ρ') h
 have e:Zz id l=l:=by
  have hav:∀x:AV,Ko id x=x:=by intro x; induction x<;>simp_all [Ko]
  have:∀q:Nat×Ob,(id q.1,L1 id q.2)=q:=by intro q; obtain ⟨i,o⟩:=q; cases o with
   | mapT k v path e u xs hole=>cases hole<;>simp [L1]
   | mapO k9 xs9 hole=>cases hole<;>simp [L1]
   | _=>simp [L1,hav]
  simp only [Zz]
  rw [List.map_congr_left (g:=fun q=>q) (fun q _=>this q)]
  simp
 rw [e] at this
 exact this
end
theorem Aj {c t:Nat} (hne:t≠c):∀M:List (Nat×Ob),Qe (Yi M t) c=Qe M c
 | []=>rfl
 | q::l=>by
  simp only [Yi,Qe]
  cases hb:Nat.beq q.1 t with
  | true =>
   have h1:=Nat.eq_of_beq_eq_true hb
   cases hc:Nat.beq q.1 c with
   | true=>exact absurd (h1.symm.trans (Nat.eq_of_beq_eq_true hc)) hne
   | false=>rfl
  | false =>
   simp only [cond_false,Qe,Aj hne l]
theorem Uw:∀(ids:List Nat) (M:List (Nat×Ob)),((Jr M ids).2++(Jr M ids).1).Perm M
 | [],M=>by simp [Jr]
 | t::ts,M=>by
  simp only [Jr]
  split
  ·rename_i o ho
   obtain ⟨l1,l2,h1,_,h3⟩:=Yd ho
   have:=Uw ts (Yi M t)
   simp only [List.cons_append]
   refine (List.Perm.cons _ this).trans ?_
   rw [h3,h1]
   exact List.perm_middle.symm
  ·exact Uw ts M
theorem Bj:∀{ids:List Nat} {M:List (Nat×Ob)} {c:Nat} {o:Ob},ids.Nodup→c∈ids→Qe M c=some o→(c,o)∈(Jr M ids).2
 | t::ts,M,c,o,hn,hc,ho=>by
  have hn':=List.nodup_cons.1 hn
  simp only [Jr]
  rcases List.mem_cons.1 hc with rfl | hc
  ·rw [ho]; exact .head _
  ·have hne:t≠c:=fun e=>hn'.1 (e▸hc)
   split
   ·exact .tail _ (Bj hn'.2 hc (by rw [Aj hne]; exact ho))
   ·exact Bj hn'.2 hc ho
theorem Bk:∀{ids:List Nat} {M:List (Nat×Ob)},ids.Nodup→∀q∈(Jr M ids).2,q.1∈ids∧Qe M q.1=some q.2
 | [],M,_,q,hq=>by simp [Jr] at hq
 | t::ts,M,hn,q,hq=>by
  have hn':=List.nodup_cons.1 hn
  simp only [Jr] at hq
  split at hq
  ·rename_i o ho
   rcases List.mem_cons.1 hq with rfl | hq
   ·exact ⟨.head _,ho⟩
   ·obtain ⟨h1,h2⟩:=Bk hn'.2 q hq
    exact ⟨.tail _ h1,by rw [Aj (fun e=>hn'.1 (by rw [e]; exact h1))] at h2; exact h2⟩
  ·obtain ⟨h1,h2⟩:=Bk hn'.2 q hq
   exact ⟨.tail _ h1,h2⟩
theorem I0:∀{Γe:List (Nat×Sk)} {l:List DV},∀e∈(Ha Γe l).1,e.cs=[]
 | [],l,e,he=>by simp [Ha] at he
 | (t,s)::g,l,e,he=>by
  simp only [Ha] at he
  rcases List.mem_cons.1 he with rfl | he
  ·rfl
  ·exact I0 e he
theorem Fk {ri:List (Nat×Nat)}:∀{Γm:List (Nat×SkO)} {id c:Nat},id∈Γm.map Prod.fst→J3 ri id=some c→c∈Yx ri Γm
 | (k,s)::l,id,c,h,hc=>by
  simp only [Yx]
  rcases List.mem_cons.1 h with e | h
  ·simp only at e; subst e
   rw [hc]; exact .head _
  ·split
   ·exact .tail _ (Fk h hc)
   ·exact Fk h hc
theorem X6 {ri:List (Nat×Nat)}:∀{Γm:List (Nat×SkO)} {c:Nat},c∈Yx ri Γm→∃id∈Γm.map Prod.fst,J3 ri id=some c
 | (k,s)::l,c,h=>by
  simp only [Yx] at h
  split at h
  ·rename_i x hx
   rcases List.mem_cons.1 h with rfl | h
   ·exact ⟨k,.head _,hx⟩
   ·obtain ⟨id,h1,h2⟩:=X6 h; exact ⟨id,.tail _ h1,h2⟩
  ·obtain ⟨id,h1,h2⟩:=X6 h; exact ⟨id,.tail _ h1,h2⟩
theorem Gt {ri:List (Nat×Nat)}:∀{Γm:List (Nat×SkO)} {cs:List Nat},Wj ri Γm cs=true→(Yx ri Γm).Nodup∧∀c∈Yx ri Γm,c∉cs
 | [],_,_=>⟨.nil,by simp [Yx]⟩
 | (id,s)::l,cs,h=>by
  simp only [Wj] at h
  simp only [Yx]
  split at h
  ·rename_i c hc
   simp only [Bool.and_eq_true] at h
   obtain ⟨h1,h2⟩:=Gt h.2
   refine ⟨List.nodup_cons.2 ⟨fun hm=>h2 c hm (.head _),h1⟩,fun x hx=>?_⟩
   rcases List.mem_cons.1 hx with rfl | hx
   ·intro hm
    have:=h.1
    rw [Zj.2 hm] at this
    cases this
   ·exact fun hm=>h2 x hx (.tail _ hm)
  ·exact Gt h
theorem Ty.cast_self (t:Ty) (x:t.De):Ty.cast t t x=some x:=by
 unfold Ty.cast
 rw [dif_pos (Ty.beq_refl t)]
theorem Ak {M:List (Nat×Ob)} {ri:List (Nat×Nat)} {pr:List Nat} {g:Nat→Nat} (hg:∀i c,J3 ri i=some c→g i=c):∀{sk:Sk} {x:AV} {l:List DV} (rest:List DV),Ui M ri pr sk x=some l→∃y,Ej sk (l++rest)=(y,rest)∧(L0 sk x=true→Ko g y=x)
 | .d t,x,l,rest,h=>by
  simp only [Ui] at h
  split at h
  ·rename_i z0 hz
   obtain ⟨_,h⟩:=bvT h
   simp only [Option.some.injEq] at h
   subst h
   refine ⟨.d t z0,rfl,fun hs=>?_⟩
   cases x<;>first | (cases hs; done) | skip
   rename_i t' x'
   simp only [asD] at hz
   obtain ⟨e,h2⟩:=Ty.cast_ok hz
   subst e; subst h2
   rfl
  ·cases h
 | .p id path,x,l,rest,h=>by
  cases x<;>simp only [Ui] at h<;>first | (cases h; done) | skip
  rename_i c path'
  obtain ⟨hb,h⟩:=bvT h
  simp only [Bool.and_eq_true] at hb
  simp only [Option.some.injEq] at h
  subst h
  exact ⟨.p id path,rfl,fun _=>by simp only [Ko]; rw [hg _ _ (Is hb.1),Iu hb.2]⟩
 | .s id,x,l,rest,h=>by
  cases x<;>simp only [Ui] at h<;>first | (cases h; done) | skip
  ·rename_i c
   obtain ⟨hb,h⟩:=bvT h
   simp only [Bool.and_eq_true] at hb
   simp only [Option.some.injEq] at h
   subst h
   exact ⟨.s id,rfl,fun _=>by simp only [Ko]; rw [hg _ _ (Is hb.1)]⟩
  ·obtain ⟨hb,h⟩:=bvT h
   simp only [Option.some.injEq] at h
   subst h
   exact ⟨.s id,rfl,fun hs=>by cases hs⟩
 | .m id,x,l,rest,h=>by
  cases x<;>simp only [Ui] at h<;>first | (cases h; done) | skip
  rename_i c
  obtain ⟨hb,h⟩:=bvT h
  simp only [Option.some.injEq] at h
  subst h
  exact ⟨.m id,rfl,fun _=>by simp only [Ko]; rw [hg _ _ (Is hb)]⟩
 | .ns,x,l,rest,h=>by
  cases x<;>simp only [Ui] at h<;>first | (cases h; done) | skip
  simp only [Option.some.injEq] at h; subst h; exact ⟨_,rfl,fun _=>rfl⟩
 | .np,x,l,rest,h=>by
  cases x<;>simp only [Ui] at h<;>first | (cases h; done) | skip
  simp only [Option.some.injEq] at h; subst h; exact ⟨_,rfl,fun _=>rfl⟩
 | .nm,x,l,rest,h=>by
  cases x<;>simp only [Ui] at h<;>first | (cases h; done) | skip
  simp only [Option.some.injEq] at h; subst h; exact ⟨_,rfl,fun _=>rfl⟩
 | .nf,x,l,rest,h=>by
  cases x<;>simp only [Ui] at h<;>first | (cases h; done) | skip
  simp only [Option.some.injEq] at h; subst h; exact ⟨_,rfl,fun _=>rfl⟩
 | .z,x,l,rest,h=>by
  cases x<;>simp only [Ui] at h<;>first | (cases h; done) | skip
  simp only [Option.some.injEq] at h; subst h; exact ⟨_,rfl,fun _=>rfl⟩
 | .nil,x,l,rest,h=>by
  cases x<;>simp only [Ui] at h<;>first | (cases h; done) | skip
  simp only [Option.some.injEq] at h; subst h; exact ⟨_,rfl,fun _=>rfl⟩
 | .f fn c,x,l,rest,h=>by
  cases x<;>simp only [Ui] at h<;>first | (cases h; done) | skip
  rename_i fn' x'
  obtain ⟨hb,h⟩:=bvT h
  simp only [Bool.and_eq_true] at hb
  obtain ⟨y,h1,h2⟩:=Ak hg rest h
  refine ⟨.f fn y,by simp only [Ej,h1],fun hs=>?_⟩
  simp only [Ko]
  rw [h2 hs,Nat.eq_of_beq_eq_true hb.1]
 | .ag l',x,l,rest,h=>by
  simp only [Ui] at h
  split at h
  ·rename_i y hy
   obtain ⟨z0,h1,h2⟩:=Ak hg rest h
   refine ⟨.ag z0,by simp only [Ej,h1],fun hs=>?_⟩
   cases x<;>first | (cases hs; done) | skip
   simp only [Fz,Option.some.injEq] at hy
   subst hy
   simp only [Ko]
   rw [h2 hs]
  ·cases h
 | .cons a b,x,l,rest,h=>by
  cases x<;>simp only [Ui] at h<;>first | (cases h; done) | skip
  split at h
  ·rename_i u v hu hv
   simp only [Option.some.injEq] at h
   subst h
   obtain ⟨y1,p1,p2⟩:=Ak hg (v++rest) hu
   obtain ⟨y2,q1,q2⟩:=Ak hg rest hv
   refine ⟨.cons y1 y2,by simp only [Ej,List.append_assoc,p1,q1],fun hs=>?_⟩
   simp only [L0,Bool.and_eq_true] at hs
   simp only [Ko]
   rw [p2 hs.1,q2 hs.2]
  ·cases h
theorem Qt5 {M:List (Nat×Ob)} {ri:List (Nat×Nat)} {pr:List Nat} {g:Nat→Nat} (hg:∀i c,J3 ri i=some c→g i=c) {s:SkO} {o:Option Ob} {l:List DV} (rest:List DV) (h:Ek M ri pr s o=some l):∃ob',Gb s (l++rest)=some (ob',rest)∧∀ob,o=some ob→Jbw s ob=true→L1 g ob'=ob:=by
 have cs:∀{t:Ty} {x:t.De},Ty.cast t t x=some x:=fun {t x}=>Ty.cast_self t x
 cases s with
 | var tid c =>
  cases o with
  | none=>cases h
  | some ob =>
   cases ob<;>simp only [Ek] at h<;>first | (cases h; done) | skip
   obtain ⟨hb,h'⟩:=bvT h
   obtain ⟨y,h1,h2⟩:=Ak hg rest h'
   refine ⟨.var tid y,by simp only [Gb,h1],fun ob he hs=>?_⟩
   injection he with he; subst he
   simp only [L1]
   rw [h2 hs,Nat.eq_of_beq_eq_true hb]
 | row e t =>
  cases o with
  | none =>
   simp only [Ek,Option.some.injEq] at h
   subst h
   exact ⟨.row e t [],by simp only [Gb,List.cons_append,List.nil_append,cs],fun ob he=>by cases he⟩
  | some ob =>
   cases ob<;>simp only [Ek] at h<;>first | (cases h; done) | skip
   rename_i e' t' xs
   obtain ⟨hb,h'⟩:=bvT h
   simp only [Bool.and_eq_true] at hb
   have e1:=Nat.eq_of_beq_eq_true hb.1
   have e2:=Ty.beq_eq hb.2
   clear h hb
   subst e1; subst e2
   injection h' with h'
   subst h'
   refine ⟨.row e t xs,by simp only [Gb,List.cons_append,List.nil_append,cs],fun ob he hs=>?_⟩
   injection he
 | tail e t =>
  cases o with
  | none =>
   simp only [Ek,Option.some.injEq] at h
   subst h
   exact ⟨.tail e t [],by simp only [Gb,List.cons_append,List.nil_append,cs],fun ob he=>by cases he⟩
  | some ob =>
   cases ob<;>simp only [Ek] at h<;>first | (cases h; done) | skip
   rename_i e' t' xs
   obtain ⟨hb,h'⟩:=bvT h
   simp only [Bool.and_eq_true] at hb
   have e1:=Nat.eq_of_beq_eq_true hb.1
   have e2:=Ty.beq_eq hb.2
   clear h hb
   subst e1; subst e2
   injection h' with h'
   subst h'
   refine ⟨.tail e t xs,by simp only [Gb,List.cons_append,List.nil_append,cs],fun ob he hs=>?_⟩
   injection he
 | map k u =>
  cases o with
  | none=>cases h
  | some ob =>
   cases ob<;>simp only [Ek] at h<;>first | (cases h; done) | skip
   rename_i k' u' xs
   obtain ⟨hb,h'⟩:=bvT h
   simp only [Bool.and_eq_true] at hb
   have e1:=Ty.beq_eq hb.1
   have e2:=Ty.beq_eq hb.2
   clear h hb
   subst e1; subst e2
   injection h' with h'
   subst h'
   refine ⟨.map k u xs,by simp only [Gb,List.cons_append,List.nil_append,cs],fun ob he hs=>?_⟩
   injection he
 | mapT k u path e t =>
  cases o with
  | none=>cases h
  | some ob =>
   cases ob<;>simp only [Ek] at h<;>first | (cases h; done) | skip
   rename_i k' u' path' e' t' xs hole
   obtain ⟨hb,h'⟩:=bvT h
   simp only [Bool.and_eq_true] at hb
   have e1:=Ty.beq_eq hb.1.1.1.1.1
   have e2:=Ty.beq_eq hb.1.1.1.1.2
   clear h
   subst e1; subst e2
   injection h' with h'
   subst h'
   exact ⟨.mapT k u path e t xs none,by simp only [Gb,List.cons_append,List.nil_append,cs],fun ob he hs=>by cases ob<;>cases hs⟩
 | mapO k =>
  cases o with
  | none=>cases h
  | some ob =>
   cases ob<;>simp only [Ek] at h<;>first | (cases h; done) | skip
   rename_i k' xs last
   obtain ⟨hb,h'⟩:=bvT h
   have e1:=Ty.beq_eq hb
   clear h hb
   subst e1
   injection h' with h'
   subst h'
   exact ⟨.mapO k xs none,by simp only [Gb,List.cons_append,List.nil_append,cs],fun ob he hs=>by cases ob<;>cases hs⟩
theorem Qgm {ro:List Nat} {id:Nat} {s:SkO} {G:List (Nat×SkO)}:rdG ro ((id,s)::G)=bif Yn ro id then (id,s)::rdG ro G else rdG ro G:=by
 unfold rdG
 cases hm:Yn ro id<;>simp [List.filter_cons,hm]
theorem Qt6 {ro:List Nat} {id:Nat} {s:Ob} {G:List (Nat×Ob)}:rdM ro ((id,s)::G)=bif Yn ro id then (id,s)::rdM ro G else rdM ro G:=by
 unfold rdM
 cases hm:Yn ro id<;>simp [List.filter_cons,hm]
theorem Qcr {id:Nat} {ob:Ob}:Zh id (some ob)=some (id,ob):=rfl
theorem Qd8 {M:List (Nat×Ob)} {ri:List (Nat×Nat)} {pr ro:List Nat} {g:Nat→Nat} (hg:∀i c,J3 ri i=some c→g i=c):∀{Γm:List (Nat×SkO)} {l:List DV},F0 M [] ri pr Γm=some l→Qcg ri M (rdG ro Γm)=true →
  Zz g (rdM ro (Uz Γm l))=(Yx ri (rdG ro Γm)).filterMap fun t=>Zh t (Qe M t)
 | [],l,h,hs=>by simp only [F0,Option.some.injEq] at h; subst h; rfl
 | (id,s)::G,l,h,hs=>by
  simp only [F0] at h
  split at h
  ·rename_i o ho
   split at h
   ·rename_i u v hu hv
    simp only [Option.some.injEq] at h
    subst h
    obtain ⟨ob',h1,h2⟩:=Qt5 hg v hu
    simp only [Uz,h1]
    rw [Qt6,Qgm]
    rw [Qgm] at hs
    cases hm:Yn ro id with
    | false =>
     rw [hm] at hs
     exact Qd8 hg hv hs
    | true =>
     rw [hm] at hs
     simp only [cond_true,Qcg,Bool.and_eq_true] at hs ⊢
     obtain ⟨hs1,hs2⟩:=hs
     split at hs1
     ·rename_i c hc
      split at hs1
      ·rename_i ob hob
       have ho':o=some ob:=by
        simp only [Qmz,hc,hob,Option.some.injEq] at ho
        exact ho.symm
       have ih:=Qd8 hg hv hs2
       unfold Zz at ih
       simp only [Zz,List.map_cons,Yx,hc,List.filterMap_cons,hob,Qcr]
       rw [h2 ob ho' hs1,hg _ _ hc,ih]
      ·cases hs1
     ·cases hs1
   ·cases h
  ·cases h
theorem Bl {c:Nat}:∀{ts:List Nat} {M:List (Nat×Ob)},c∉ts→Qe (Jr M ts).1 c=Qe M c
 | [],M,_=>rfl
 | t::ts,M,h=>by
  have h1:t≠c:=fun e=>h (e▸.head _)
  have h2:c∉ts:=fun hm=>h (.tail _ hm)
  simp only [Jr]
  split
  ·rw [Bl h2,Aj h1]
  ·exact Bl h2
theorem Jcz {α β:Type} {f g:α→Option β}:∀{l:List α},(∀x∈l,f x=g x)→l.filterMap f=l.filterMap g
 | [],_=>rfl
 | x::l,h=>by
  simp only [List.filterMap_cons]
  rw [h x (.head _),Jcz fun y hy=>h y (.tail _ hy)]
theorem F7:∀{ids:List Nat} {M:List (Nat×Ob)},ids.Nodup→(Jr M ids).2=ids.filterMap fun t=>Zh t (Qe M t)
 | [],M,_=>rfl
 | t::ts,M,hn=>by
  have hn':=List.nodup_cons.1 hn
  simp only [Jr]
  split
  ·rename_i o ho
   simp only [List.filterMap_cons,ho,Qcr]
   rw [F7 hn'.2]
   refine congrArg _ (Jcz fun x hx=>?_)
   rw [Aj (c:=x) (t:=t) fun e=>hn'.1 (by rw [e]; exact hx)]
  ·rename_i ho
   simp only [List.filterMap_cons,ho,Zh]
   exact F7 hn'.2
theorem Do {ri:List (Nat×Nat)}:∀{l:List (Nat×SkO)} {cs cs':List Nat},(∀x∈cs',x∈cs)→Wj ri l cs=true→Wj ri l cs'=true
 | [],cs,cs',_,_=>rfl
 | (id,s)::l,cs,cs',hc,h=>by
  simp only [Wj] at h ⊢
  split at h
  ·rename_i c hcc
   simp only [Bool.and_eq_true] at h ⊢
   refine ⟨?_,Do (fun x hx=>?_) h.2⟩
   ·cases hm:Yn cs' c with
    | false=>rfl
    | true =>
     have:=h.1
     rw [Zj.2 (hc c (Zj.1 hm))] at this
     cases this
   ·rcases List.mem_cons.1 hx with rfl | hx
    ·exact .head _
    ·exact .tail _ (hc x hx)
  ·exact Do hc h
theorem Kv {ri:List (Nat×Nat)} {p:Nat×SkO→Bool}:∀{l:List (Nat×SkO)} {cs:List Nat},Wj ri l cs=true→Wj ri (l.filter p) cs=true
 | [],cs,_=>rfl
 | (id,s)::l,cs,h=>by
  simp only [Wj] at h
  cases hp:p (id,s) with
  | true =>
   rw [List.filter_cons,if_pos hp]
   simp only [Wj]
   split at h
   ·rename_i c hcc
    simp only [Bool.and_eq_true] at h ⊢
    exact ⟨h.1,Kv h.2⟩
   ·exact Kv h
  | false =>
   rw [List.filter_cons,if_neg (by rw [hp]; simp)]
   split at h
   ·simp only [Bool.and_eq_true] at h
    exact Kv (Do (fun x hx=>.tail _ hx) h.2)
   ·exact Kv h
theorem T6:∀{l:List (Nat×Ob)} {i:Nat},i∈Jk l↔∃q∈l,i∈Jk [q]
 | [],i=>by simp [Jk]
 | q::l,i=>by
  have ih:=T6 (l:=l) (i:=i)
  have h:Jk (q::l)=Jk [q]++Jk l:=by
   obtain ⟨k,o⟩:=q
   cases o with
   | mapT k1 v path e u xs hole=>cases hole<;>simp [Jk]
   | mapO k9 xs9 hole=>cases hole<;>simp [Jk,Zy]
   | _=>simp [Jk]
  rw [h,List.mem_append,ih]
  constructor
  ·rintro (h | ⟨q',h1,h2⟩)
   ·exact ⟨q,.head _,h⟩
   ·exact ⟨q',.tail _ h1,h2⟩
  ·rintro ⟨q',h1,h2⟩
   rcases List.mem_cons.1 h1 with rfl | h1
   ·exact .inl h2
   ·exact .inr ⟨q',h1,h2⟩
theorem Qqv {l m:List (Nat×Ob)} (h:∀q∈l,q∈m) {i:Nat} (hi:i∈Jk l):i∈Jk m:=let ⟨q,h1,h2⟩:=T6.1 hi; T6.2 ⟨q,h q h1,h2⟩
theorem Qqw {l m:List Nat} (h:K7 l m=true) {i:Nat} (hi:i∈m):i∈l:=by
 induction m with
 | nil=>cases hi
 | cons x m ih =>
  simp only [K7,Bool.and_eq_true] at h
  rcases List.mem_cons.1 hi with rfl | hi
  ·exact Zj.1 h.1
  ·exact ih h.2 hi
theorem Jkv {M:List (Nat×Ob)} {c:Nat} (h:c∈Y0 M):∃ob,Qe M c=some ob:=by
 induction M with
 | nil=>cases h
 | cons q l ih =>
  simp only [Qe]
  cases hb:Nat.beq q.1 c with
  | true=>exact ⟨_,rfl⟩
  | false =>
   simp only [cond_false]
   refine ih ?_
   rcases List.mem_cons.1 h with e | h
   ·rw [e,Nat.beq_refl] at hb; cases hb
   ·exact h
theorem T7 {l m:List (Nat×Ob)} {c:Nat} (h:Qe l c=none):Qe (l++m) c=Qe m c:=by
 induction l with
 | nil=>rfl
 | cons q l ih =>
  simp only [Qe,List.cons_append] at h ⊢
  cases hb:Nat.beq q.1 c with
  | true=>rw [hb] at h; cases h
  | false=>rw [hb] at h; exact ih h
theorem Nj {ks:List Nat}:∀{M:List (Nat×Ob)},Y0 (Vr ks M)=Y0 M
 | []=>rfl
 | (id,o)::l=>by
  cases o<;>simp only [Vr,Y0,List.map_cons]<;>rw [show (Vr ks l).map Prod.fst=l.map Prod.fst from Nj]
  cases (Yn ks id&&Nat.ble 1 _)<;>rfl
theorem Qcs {ri:List (Nat×Nat)} {M:List (Nat×Ob)}:∀{l:List (Nat×SkO)},Qcg ri M l=true→∀id∈l.map Prod.fst,∃cc,J3 ri id=some cc
 | (i,s)::l,h,id,hid=>by
  simp only [Qcg,Bool.and_eq_true] at h
  rcases List.mem_cons.1 hid with e | hid
  ·simp only at e; subst e
   cases hc:J3 ri id with
   | none=>rw [hc] at h; cases h.1
   | some cc=>exact ⟨cc,rfl⟩
  ·exact Qcs h.2 id hid
def Qd9 (β:Nat→Nat) (ρ:Nat→Value):Nat×Ob→List Nat
 | (id,.var _ _)=>[β id]
 | (id,.map _ _ _)=>[β id]
 | (id,.mapT _ _ _ _ _ _ _)=>β id::(Rl (ρ id)).flatMap Qyo
 | (id,.mapO _ _ _)=>[β id]
 | (id,_)=>Qyo (ρ id)
theorem Qgn {β:Nat→Nat} {ρ:Nat→Value} {q:Nat×Ob} {g:Nat}:g∈Qd9 β ρ q↔(Q2 β ρ q.1 q.2).blks g:=by
 obtain ⟨id,o⟩:=q
 cases o with
 | var t c=>simp [Qd9,Q2,G0]
 | row e t xs=>simp only [Qd9,Sx,Q2,ml]
 | tail e t xs=>simp only [Qd9,Sx,Q2,Um]
 | map k v xs=>simp [Qd9,Q2,Lf]
 | mapT k v path e u xs hole=>simp only [Qd9,Q2,Bc,List.mem_cons,List.mem_flatMap,Sx]
 | mapO k9 xs9 hole=>simp [Qd9,Q2,Qsy]
def R6:Ob→Bool
 | .tail _ _ _=>true
 | .mapT _ _ _ _ _ _ _=>true
 | _=>false
theorem Qgo {β:Nat→Nat} {ρ:Nat→Value} {id:Nat} {o:Ob} (h:R6 o=false) {b:Nat} (f:Nat) (hb:(Q2 β ρ id o).blks b):(Q2 β ρ id o).cov b f:=by
 cases o with
 | tail e t xs=>cases h
 | var t c=>exact hb
 | row e t xs=>exact hb
 | map k v xs=>exact hb
 | mapT k v path e u xs hole=>cases h
 | mapO k9 xs9 hole=>exact hb
theorem P4 {M F:List (Nat×Ob)} {ri:List (Nat×Nat)} {pr:List Nat}:∀{Γm:List (Nat×SkO)} {l:List DV},Ou Γm=true→F0 M F ri pr Γm=some l→∀q∈Γm,∀c ob,J3 ri q.1=some c→Qe M c=some ob→R6 ob=false
 | (id,s)::g,l,hn,h,q,hq,c,ob,hc,hob=>by
  simp only [F0] at h
  split at h
  ·rename_i o ho
   split at h
   ·rename_i u v hu hv
    have hn':Ou g=true:=by cases s<;>simp_all [Ou]
    rcases List.mem_cons.1 hq with rfl | hq
    ·simp only [Qmz,hc,hob] at ho
     simp at ho; subst ho
     cases s<;>cases ob<;>simp_all [Ek,Ou,R6]
    ·exact P4 hn' hv q hq c ob hc hob
   ·cases h
  ·cases h
section
variable {P:Program} {Y:TX} {X:Cx} {S:XS} {β β':Nat→Nat} {ρ ρ':Nat→Value} {a a':Act} {w w':World} {n:Nat}
variable {ops:Array Oper} {Q:Exit→Act→World→Prop} {rest:List Oper} {R:Type} {k:XS→Option R} {r:R}
theorem Qm6 (h:Rel X β ρ S.flat a w):∀{xs:List Operand} {i:Nat} {es:List En} (pre:List Value),pre.length=i→Qf7 S xs i=some es →
  es.length=xs.length∧∀e∈es,(enD β ρ ⟨(pre++xs.map a.eval).toArray,[]⟩ e).p (okR X β ρ S.flat.mem w) w
 | [],i,es,pre,_,he=>by simp [Qf7] at he; subst he; exact ⟨rfl,by simp⟩
 | x::xs,i,es,pre,hi,he=>by
  simp only [Qf7] at he
  split at he
  ·rename_i v r hv hr
   obtain ⟨hbi,he⟩:=bvT he
   simp at he; subst he
   obtain ⟨cs,h1,h2⟩:=h.ev (Qb a) hv
   obtain ⟨h3,h4⟩:=Qm6 h (xs:=xs) (i:=i+1) (pre++[a.eval x]) (by simp [hi]) hr
   refine ⟨by simp [h3],fun e hm=>?_⟩
   have hl:pre++[a.eval x]++xs.map a.eval=pre++(x::xs).map a.eval:=by simp
   rw [hl] at h4
   rcases List.mem_cons.1 hm with rfl | hm
   ·refine ⟨fun _=>⟨cs,?_,h2⟩,.inl (Qb _)⟩
    rw [Xq hbi]
    simp only [List.getElem?_toArray]
    rw [List.getElem?_append_right (by omega),←hi]
    simp [h1]
   ·exact h4 e hm
  ·cases he
theorem Qm7 {S:XS}:∀{xs:List Operand} {i:Nat} {es:List En},Qf7 S xs i=some es→∀e∈es,e.cs=[]
 | [],i,es,he=>by simp [Qf7] at he; subst he; simp
 | x::xs,i,es,he=>by
  simp only [Qf7] at he
  split at he
  ·rename_i v r hv hr
   obtain ⟨_,he⟩:=bvT he
   simp at he; subst he
   intro e hm
   rcases List.mem_cons.1 hm with rfl | hm
   ·rfl
   ·exact Qm7 hr e hm
  ·cases he
theorem Qm8 {ok:Ok} {w:World}:∀{x:AV} {i:Nat} {cs:List En} {vs:List Value} (pre:List Value),pre.length=i→Qtf x i=some cs→cr β ρ ok w true x vs →
  cs.length=vs.length∧(∀e∈cs,e.cs=[])∧∀e∈cs,(enD β ρ ⟨(pre++vs).toArray,[]⟩ e).p ok w
 | .nil,i,cs,vs,pre,_,he,h=>by
  simp [Qtf] at he; subst he
  have:vs=[]:=h
  subst this
  exact ⟨rfl,by simp,by simp⟩
 | .cons y r,i,cs,vs,pre,hi,he,h=>by
  simp only [Qtf] at he
  split at he
  ·rename_i l hl
   obtain ⟨hbi,he⟩:=bvT he
   simp at he; subst he
   obtain ⟨c1,vs',rfl,h1,h2⟩:=h
   obtain ⟨h3,h4,h5⟩:=Qm8 (pre++[y.val c1]) (by simp [hi]) hl h2
   refine ⟨by simp [h3],fun e hm=>?_,fun e hm=>?_⟩
   ·rcases List.mem_cons.1 hm with rfl | hm
    ·rfl
    ·exact h4 e hm
   ·rcases List.mem_cons.1 hm with rfl | hm
    ·refine ⟨fun _=>⟨c1,?_,h1⟩,.inl (Qb _)⟩
     rw [Xq hbi]
     simp only [List.getElem?_toArray]
     rw [List.getElem?_append_right (by omega),←hi]
     simp
    ·have:=h5 e hm
     rwa [show pre++[y.val c1]++vs'=pre++y.val c1::vs' by simp] at this
  ·cases he
theorem Jc0 {ok:Ok} {w:World} {l post:List Value} {e:En} (hc:e.cs=[]) (h:(enD β ρ ⟨l.toArray,[]⟩ e).p ok w):(enD β ρ ⟨(l++post).toArray,[]⟩ e).p ok w:=by
 obtain ⟨cs,h1,h2⟩:=h.1 (by rw [hc]; exact Qb _)
 refine ⟨fun _=>⟨cs,?_,h2⟩,.inl (by rw [hc]; exact Qb _)⟩
 unfold rd at h1 ⊢
 cases hb:Nat.blt e.t 100000 with
 | false=>rw [hb] at h1; exact h1
 | true =>
  rw [hb] at h1
  simp only [cond_true,List.getElem?_toArray] at h1 ⊢
  have hlt:=(List.getElem?_eq_some_iff.1 h1).1
  rw [List.getElem?_append_left hlt]; exact h1
theorem Qgp {ri:List (Nat×Nat)} {d:Nat} {Γk:List Nat} {S:XS} {M:List (Nat×Ob)}:∀{l:List Nat},Qm1 ri d Γk S M l=true→∀j∈l,(∃c,J3 ri j=some c∧J8 ri d j=c∧j∈Γk) ∨
  (J3 ri j=none∧Q7 (J8 ri d j) M=true∧Q7 (J8 ri d j) S.fixM=true∧Dk (J8 ri d j) S.fix=true∧Dk (J8 ri d j) S.env=true∧Yn S.prot (J8 ri d j)=false∧j∉Γk)
 | i::l,h,j,hj=>by
  simp only [Qm1,Bool.and_eq_true] at h
  rcases List.mem_cons.1 hj with rfl | hj
  ·have h1:=h.1
   cases hl:J3 ri j with
   | some c =>
    rw [hl] at h1
    simp only [Kh,cond_true] at h1
    exact .inl ⟨c,rfl,by simp only [J8,hl],Zj.1 h1⟩
   | none =>
    rw [hl] at h1
    simp only [Kh,cond_false,Bool.and_eq_true] at h1
    obtain ⟨⟨⟨⟨⟨a1,a2⟩,a3⟩,a4⟩,a5⟩,a6⟩:=h1
    refine .inr ⟨rfl,a1,a2,a3,a4,by simpa using a5,fun hm=>?_⟩
    rw [Zj.2 hm] at a6; cases a6
  ·exact Qgp h.2 j hj
theorem X7 {ks:List Nat}:∀{l:List Nat},K7 ks l=true→∀i∈l,i∈ks
 | x::l,h,i,hi=>by
  simp only [K7,Bool.and_eq_true] at h
  rcases List.mem_cons.1 hi with rfl | hi
  ·exact Zj.1 h.1
  ·exact X7 h.2 i hi
theorem H6:∀{l:List Nat},Gc l=true→l.Nodup
 | [],_=>.nil
 | x::l,h=>by
  simp only [Gc,Bool.and_eq_true] at h
  refine List.nodup_cons.2 ⟨fun hm=>?_,H6 h.2⟩
  have:=h.1
  rw [Zj.2 hm] at this; cases this
def backB (g:Nat→Nat) (ks:List Nat) (β2 β:Nat→Nat):Nat→Nat:=fun i=>match ks.find? fun j=>g j==i with
 | some j=>β2 j
 | none=>β i
def Et (g:Nat→Nat) (ks:List Nat) (ρ2 ρ:Nat→Value):Nat→Value:=fun i=>match ks.find? fun j=>g j==i with
 | some j=>ρ2 j
 | none=>ρ i
theorem Qgq {g:Nat→Nat}:∀{ks:List Nat},(ks.map g).Nodup→∀j∈ks,(ks.find? fun i=>g i==g j)=some j
 | x::l,hn,j,hj=>by
  have hn':=List.nodup_cons.1 (by simpa using hn:(g x::l.map g).Nodup)
  rcases List.mem_cons.1 hj with rfl | hj
  ·simp
  ·have hne:g x≠g j:=fun e=>hn'.1 (by rw [e]; exact List.mem_map.2 ⟨j,hj,rfl⟩)
   have:(g x==g j)=false:=by simpa using hne
   simp only [List.find?_cons,this]
   exact Qgq hn'.2 j hj
theorem Qgr {l:List En} {e:En} (he:e∈l) {i:Nat} (hi:i∈Jc e.av):i∈Fb l:=by
 induction l with
 | nil=>cases he
 | cons x l ih =>
  simp only [Fb,List.mem_append]
  rcases List.mem_cons.1 he with rfl | he
  ·exact .inl hi
  ·exact .inr (ih he)
theorem Eu {d:Nat}:∀{x:AV},Uj d x=true→d∉Jc x
 | .p id _,h=>by intro hm; have hm:d=id:=(by simpa [Jc] using hm); subst hm; simp [Uj,Nat.beq_refl] at h
 | .e id _,h=>by intro hm; have hm:d=id:=(by simpa [Jc] using hm); subst hm; simp [Uj,Nat.beq_refl] at h
 | .s id,h=>by intro hm; have hm:d=id:=(by simpa [Jc] using hm); subst hm; simp [Uj,Nat.beq_refl] at h
 | .m id,h=>by intro hm; have hm:d=id:=(by simpa [Jc] using hm); subst hm; simp [Uj,Nat.beq_refl] at h
 | .w id _ _,h=>by intro hm; have hm:d=id:=(by simpa [Jc] using hm); subst hm; simp [Uj,Nat.beq_refl] at h
 | .f _ c,h=>by simp only [Uj] at h; simpa [Jc] using Eu h
 | .ag l,h=>by simp only [Uj] at h; simpa [Jc] using Eu h
 | .tp l,h=>by simp only [Uj] at h; simpa [Jc] using Eu h
 | .cons x r,h=>by
  simp only [Uj,Bool.and_eq_true] at h
  simp only [Jc,List.mem_append,not_or]
  exact ⟨Eu h.1,Eu h.2⟩
 | .d _ _,_=>by simp [Jc]
 | .a _ _,_=>by simp [Jc]
 | .z,_=>by simp [Jc]
 | .ns,_=>by simp [Jc]
 | .np,_=>by simp [Jc]
 | .nm,_=>by simp [Jc]
 | .nf,_=>by simp [Jc]
 | .nil,_=>by simp [Jc]
theorem L4 {d:Nat}:∀{M:List (Nat×Ob)},Q7 d M=true→d∉Jk M
 | [],_=>by simp [Jk]
 | (k,o)::l,h=>by
  have hq:=Ku h (k,o) (.head _)
  have hl:Q7 d l=true:=by
   cases o with
   | mapT k1 v path e u xs hole=>cases hole<;>simp only [Q7,Bool.and_eq_true] at h<;>exact h.2
   | mapO k9 xs9 hole=>cases hole<;>simp only [Q7,P0,Bool.and_true,Bool.and_eq_true] at h<;>exact h.2
   | _=>simp only [Q7,Bool.and_eq_true] at h; exact h.2
  have ih:=L4 hl
  cases o with
  | var t c =>
   have:=Eu hq.2
   simp only [Jk,List.mem_cons,List.mem_append,not_or]
   exact ⟨fun e=>hq.1 e.symm,this,ih⟩
  | mapT k1 v path e u xs hole =>
   cases hole with
   | none =>
    simp only [Jk,List.mem_cons,not_or]
    exact ⟨fun e=>hq.1 e.symm,ih⟩
   | some q =>
    simp only [Jk,List.mem_cons,not_or]
    exact ⟨fun e=>hq.1 e.symm,fun e=>hq.2 e.symm,ih⟩
  | mapO k9 xs9 hole =>
   cases hole with
   | none =>
    simp only [Jk,Zy,List.nil_append,List.cons_append,List.mem_cons,not_or]
    exact ⟨fun e=>hq.1 e.symm,ih⟩
   | some q =>
    simp only [Jk,Zy,List.nil_append,List.cons_append,List.mem_cons,not_or]
    exact ⟨fun e=>hq.1 e.symm,fun e=>hq.2 e.symm,ih⟩
  | _ =>
   simp only [Jk,List.mem_cons,not_or]
   exact ⟨fun e=>hq.1 e.symm,ih⟩
theorem Qgs {β:Nat→Nat} {ρ:Nat→Value} {ok:Ok} {w:World}:∀{es:List En} {vs:List Value} {i:Nat},(∀(j:Nat) e,es[j]?=some e→∃cs,vs[j]?=some (e.av.val cs)∧cr β ρ ok w false e.av cs)→vs.length=es.length→cr β ρ ok w true (Qch es) vs
 | [],vs,i,_,hl=>List.eq_nil_of_length_eq_zero (by simpa using hl)
 | e::es,[],i,_,hl=>by simp at hl
 | e::es,v::vs,i,h,hl=>by
  obtain ⟨cs,h1,h2⟩:=h 0 e rfl
  have h1':v=e.av.val cs:=by simpa using h1
  exact ⟨cs,vs,by rw [h1'],h2,Qgs (i:=i) (fun j e' he=>by simpa using h (j+1) e' (by simpa using he)) (by simpa using hl)⟩
theorem T8:∀(es:List En),Jc (Qch es)=Fb es
 | []=>rfl
 | e::es=>by simp only [Qch,Jc,Fb,T8 es]
theorem Qct (es:List En):∀i∈Jc (Fj es),i∈Fb es:=by
 intro i hi
 unfold Fj at hi
 split at hi
 ·simpa [Fb] using hi
 ·simpa [Jc,T8] using hi
theorem P5 (hX:X.n=n) (hr:X.res=[]) (h:Rel X β ρ S.flat a w) {o:Oper} (hw:Region.wanted o (yielded ops a.tmps)=true) {c:Con} (hc:Qn P Y.gl c) (hG:Vl Y.gl (okN X) X.w) (hrun:Runs P c.f) (hs:Zg n c o S k=some r) (H:KOk P ops Q rest X S β ρ k r) :
  wpList P ops Q (o::rest) a w:=by
 unfold Zg at hs
 split at hs
 ·rename_i x0 xs ts d hop hd
  split at hs
  ·rename_i f caps hx0
   have hb:=(bvT hs).1
   replace hs:=(bvT hs).2
   simp only [Bool.and_eq_true] at hb
   have hf:=Nat.eq_of_beq_eq_true hb.1
   obtain ⟨hd1,hd2⟩:=Yv hb.2 hX hr
   split at hs
   ·rename_i es0 cs0 hes0 hcs0
    obtain ⟨cf,hf1,vc,hf2,hf3⟩:=h.ev (Qb a) hx0
    subst hf2
    replace hf1:a.eval x0=.func (.func f) #[] vc.toArray:=hf1
    obtain ⟨el0,hE00⟩:=Qm6 h [] rfl hes0
    simp only [List.nil_append] at hE00
    obtain ⟨el1,_,hE01⟩:=Qm8 (xs.map a.eval) (by simp) hcs0 hf3
    have el:(es0++cs0).length=(xs.map a.eval++vc).length:=by simp [el0,el1]
    have hE0:∀e∈es0++cs0,(enD β ρ ⟨(xs.map a.eval++vc).toArray,[]⟩ e).p (okR X β ρ S.flat.mem w) w:=by
     intro e he
     rcases List.mem_append.1 he with he | he
     ·exact Jc0 (Qm7 hes0 e he) (hE00 e he)
     ·exact hE01 e he
    generalize es0++cs0=es at *
    generalize hri:Jbv c.Γ ⟨es,S.mem++S.fixM⟩=ri at hs
    unfold Zg.callE at hs
    split at hs
    ·rename_i x hx
     have hb2:=(bvT hs).1
     replace hs:=(bvT hs).2
     simp only [Bool.and_eq_true] at hb2
     obtain ⟨⟨⟨hb2n,hb2l⟩,hb2m⟩,hb2s⟩:=hb2
     have hlen:=Nat.eq_of_beq_eq_true hb2l
     obtain ⟨y,hy,hs⟩:=Yy hs
     unfold Zg.callR at hs
     have hb3:=(bvT hs).1
     replace hs:=(bvT hs).2
     simp only [Bool.and_eq_true] at hb3
     obtain ⟨⟨⟨n1,n2⟩,n3⟩,n4⟩:=hb3
     have h1:Rel X β ρ ⟨S.env++S.fix,frz c.Γ ri es S.mem++S.fixM⟩ a w:=by
      have:=Rel.freeze S.mem (l0:=[]) (F:=S.fixM) (ks:=Qtc es c.Γ.env++Qds S.mem ri c.Γ.mem) h
      simp only [List.nil_append] at this
      exact this
     have hM:∀id o,Qe ((frz c.Γ ri es S.mem++S.fixM)++[]) id=some o→(Q2 β ρ id o).p (okR X β ρ (frz c.Γ ri es S.mem++S.fixM) w) w:=fun id o ho=>h1.mm id o (by rw [List.append_nil] at ho; exact ho)
     unfold Qqa at hx
     obtain ⟨hbx,hx⟩:=bvT hx
     simp only [Bool.and_eq_true] at hbx
     obtain ⟨⟨⟨b1,b2⟩,b3⟩,b4⟩:=hbx
     split at hx
     ·rename_i u v hu hv
      have hxl:=Tw hx
      have hokk:∀b f,okR X β ρ S.flat.mem w b f→okR X β ρ (frz c.Γ ri es S.mem++S.fixM) w b f:=by
       rintro b f ⟨o1,o2,o3,o4⟩
       refine ⟨o1,o2,o3,fun t' ht' hcv=>?_⟩
       obtain ⟨q,hq,rfl⟩:=List.mem_map.1 ht'
       have key:∀{l:List (Nat×Ob)} {ks:List Nat} {q:Nat×Ob},q∈Vr ks l→∃o',(q.1,o')∈l∧∀b f,(Q2 β ρ q.1 q.2).cov b f→(Q2 β ρ q.1 o').cov b f:=by
        intro l
        induction l with
        | nil=>intro ks q hq; cases hq
        | cons p l ih =>
         intro ks q hq
         obtain ⟨id,ob⟩:=p
         have other:q∈Vr ks l→∃o',(q.1,o')∈(id,ob)::l∧∀b f,(Q2 β ρ q.1 q.2).cov b f→(Q2 β ρ q.1 o').cov b f:=fun hq=>let ⟨o',p1,p2⟩:=ih hq; ⟨o',.tail _ p1,p2⟩
         cases ob with
         | row e t xs =>
          simp only [Vr] at hq
          rcases List.mem_cons.1 hq with e' | hq
          ·cases hbb:(Yn ks id&&Nat.ble 1 t.size) with
           | true =>
            rw [hbb] at e'; subst e'
            exact ⟨.row e t xs,.head _,fun b f hcv=>hcv.1⟩
           | false =>
            rw [hbb] at e'; subst e'
            exact ⟨.row e t xs,.head _,fun b f hcv=>hcv⟩
          ·exact other hq
         | var t' c' =>
          simp only [Vr] at hq
          rcases List.mem_cons.1 hq with e' | hq
          ·subst e'; exact ⟨_,.head _,fun b f hcv=>hcv⟩
          ·exact other hq
         | tail e t xs =>
          simp only [Vr] at hq
          rcases List.mem_cons.1 hq with e' | hq
          ·subst e'; exact ⟨_,.head _,fun b f hcv=>hcv⟩
          ·exact other hq
         | map k' v' xs =>
          simp only [Vr] at hq
          rcases List.mem_cons.1 hq with e' | hq
          ·subst e'; exact ⟨_,.head _,fun b f hcv=>hcv⟩
          ·exact other hq
         | mapT k' v' path e u xs hole =>
          simp only [Vr] at hq
          rcases List.mem_cons.1 hq with e' | hq
          ·subst e'; exact ⟨_,.head _,fun b f hcv=>hcv⟩
          ·exact other hq
         | mapO k9 xs9 hole =>
          simp only [Vr] at hq
          rcases List.mem_cons.1 hq with e' | hq
          ·subst e'; exact ⟨_,.head _,fun b f hcv=>hcv⟩
          ·exact other hq
       rcases List.mem_append.1 hq with hq | hq
       ·obtain ⟨o',p1,p2⟩:=key hq
        exact o4 _ (List.mem_map.2 ⟨(q.1,o'),List.mem_append_left _ p1,rfl⟩) (p2 b f hcv)
       ·exact o4 _ (List.mem_map.2 ⟨q,List.mem_append_right _ hq,rfl⟩) hcv
      obtain ⟨es',e1,e2⟩:=Iw hM (fun e he=>(enD β ρ _ e).weak (hE0 e he) hokk) v hu
      obtain ⟨m1,m2⟩:=Ow hM b3 hv
      have henc:enc c.Γ x=⟨es',Uz c.Γ.mem v⟩:=by unfold enc; rw [hxl,e1]
      have hkind:=P4 hb2n hv
      obtain ⟨ln1,_⟩:=Gt (Kv (p:=fun q=>!Yn c.ro q.1) b1)
      obtain ⟨ln2,_⟩:=Gt (Kv (p:=fun q=>Yn c.ro q.1) b1)
      have hroS:=Qd8 (g:=J8 ri d) (ro:=c.ro) (fun i cc hcc=>by simp only [J8,hcc]) hv hb2s
      have hkM:∀cc∈Y0 S.mem,∃ob,Qe (frz c.Γ ri es S.mem) cc=some ob:=fun cc hcc=>Jkv (by unfold frz; rw [Nj]; exact hcc)
      generalize hM0:frz c.Γ ri es S.mem=M0 at *
      have hwk:∀(p:Nat×SkO→Bool) id,id∈(c.Γ.mem.filter p).map Prod.fst→id∈c.Γ.mem.map Prod.fst:=fun p id hid=>by
       obtain ⟨q,hq,rfl⟩:=List.mem_map.1 hid
       exact List.mem_map.2 ⟨q,(List.mem_filter.1 hq).1,rfl⟩
      have hdisj:∀cc∈Yx ri (rdG c.ro c.Γ.mem),cc∉Yx ri (wrG c.ro c.Γ.mem):=fun cc h1 h2=>by
       obtain ⟨i1,p1,p2⟩:=X6 h1
       obtain ⟨i2,r1,r2⟩:=X6 h2
       obtain ⟨q1,s1,rfl⟩:=List.mem_map.1 p1
       obtain ⟨q2,s2,rfl⟩:=List.mem_map.1 r1
       have t1:=(List.mem_filter.1 s1).2
       have t2:=(List.mem_filter.1 s2).2
       have k1:q1.1∈(Uz c.Γ.mem v).map Prod.fst:=by rw [m1]; exact List.mem_map.2 ⟨_,(List.mem_filter.1 s1).1,rfl⟩
       have k2:q2.1∈(Uz c.Γ.mem v).map Prod.fst:=by rw [m1]; exact List.mem_map.2 ⟨_,(List.mem_filter.1 s2).1,rfl⟩
       obtain ⟨e1,f1,g1⟩:=List.mem_map.1 k1
       obtain ⟨e2,f2,g2⟩:=List.mem_map.1 k2
       obtain ⟨pw,_⟩:=Ah b1 m1
       have hne:q1.1≠q2.1:=fun e=>by rw [e] at t1; rw [t1] at t2; cases t2
       have key:∀{l:List (Nat×Ob)},(l.Pairwise fun q q'=>∀c c',J3 ri q.1=some c→J3 ri q'.1=some c'→c≠c')→e1∈l→e2∈l→False:=by
        intro l hl
        induction l with
        | nil=>intro h; cases h
        | cons z l ih =>
         have hl':=List.pairwise_cons.1 hl
         intro h1 h2
         rcases List.mem_cons.1 h1 with h1 | h1
         ·rcases List.mem_cons.1 h2 with h2 | h2
          ·exact hne (by rw [←g1,←g2,h1,h2])
          ·exact hl'.1 e2 h2 cc cc (by rw [←h1,g1]; exact p2) (by rw [g2]; exact r2) rfl
         ·rcases List.mem_cons.1 h2 with h2 | h2
          ·exact hl'.1 e1 h1 cc cc (by rw [←h2,g2]; exact r2) (by rw [g1]; exact p2) rfl
          ·exact ih hl'.2 h1 h2
       exact key pw f1 f2
      have hp1:=Uw (Yx ri (wrG c.ro c.Γ.mem)) M0
      have hp2:=Uw (Yx ri (rdG c.ro c.Γ.mem)) ((Jr M0 (Yx ri (wrG c.ro c.Γ.mem))).1++S.fixM)
      have hlkR:∀cc∈Yx ri (rdG c.ro c.Γ.mem),Qe ((Jr M0 (Yx ri (wrG c.ro c.Γ.mem))).1++S.fixM) cc=Qe (M0++S.fixM) cc:=fun cc hcc=>by
       have e:=Bl (M:=M0) (hdisj cc hcc)
       cases hl:Qe M0 cc with
       | none=>rw [T7 hl,T7 (e.trans hl)]
       | some ob=>rw [Jd hl,Jd (e.trans hl)]
      have hlkN:∀cc∈Yx ri (wrG c.ro c.Γ.mem),∀ob,Qe (M0++S.fixM) cc=some ob→Qe M0 cc=some ob:=fun cc hcc ob hob=>by
       obtain ⟨ob',hob'⟩:=hkM cc (Qqw hb2m hcc)
       rw [Jd hob'] at hob
       rw [hob',hob]
      have hsR:=F7 (M:=(Jr M0 (Yx ri (wrG c.ro c.Γ.mem))).1++S.fixM) ln2
      have hroE:Zz (J8 ri d) (rdM c.ro (Uz c.Γ.mem v))=(Jr ((Jr M0 (Yx ri (wrG c.ro c.Γ.mem))).1++S.fixM) (Yx ri (rdG c.ro c.Γ.mem))).2:=by
       refine hroS.trans ?_
       refine (Jcz fun x hx=>?_).trans hsR.symm
       rw [hlkR x hx]
      obtain ⟨Ml,hMl0⟩:∃Ml,Ml=(Jr M0 (Yx ri (wrG c.ro c.Γ.mem))).2++(Jr ((Jr M0 (Yx ri (wrG c.ro c.Γ.mem))).1++S.fixM) (Yx ri (rdG c.ro c.Γ.mem))).2:=⟨_,rfl⟩
      have hF1:∀q∈Ml,∃id∈c.Γ.mem.map Prod.fst,J3 ri id=some q.1∧Qe (M0++S.fixM) q.1=some q.2:=fun q hq=>by
       rw [hMl0] at hq
       rcases List.mem_append.1 hq with hq | hq
       ·obtain ⟨p1,p2⟩:=Bk ln1 q hq
        obtain ⟨id,p3,p4⟩:=X6 p1
        exact ⟨id,hwk _ id p3,p4,Jd p2⟩
       ·obtain ⟨p1,p2⟩:=Bk ln2 q hq
        obtain ⟨id,p3,p4⟩:=X6 p1
        exact ⟨id,hwk _ id p3,p4,by rw [←hlkR _ p1]; exact p2⟩
      have hMl:∀id∈c.Γ.mem.map Prod.fst,∀cc ob,J3 ri id=some cc→Qe (M0++S.fixM) cc=some ob→(cc,ob)∈Ml:=by
       intro id hid cc ob e3 e4
       rw [hMl0]
       obtain ⟨q,hq,rfl⟩:=List.mem_map.1 hid
       cases hm:Yn c.ro q.1 with
       | true =>
        have hin:cc∈Yx ri (rdG c.ro c.Γ.mem):=Fk (List.mem_map.2 ⟨q,List.mem_filter.2 ⟨hq,hm⟩,rfl⟩) e3
        exact List.mem_append_right _ (Bj ln2 hin (by rw [hlkR _ hin]; exact e4))
       | false =>
        have hin:cc∈Yx ri (wrG c.ro c.Γ.mem):=Fk (List.mem_map.2 ⟨q,List.mem_filter.2 ⟨hq,by rw [hm]; rfl⟩,rfl⟩) e3
        exact List.mem_append_left _ (Bj ln1 hin (hlkN _ hin _ e4))
      generalize hMn0:(Jr M0 (Yx ri (wrG c.ro c.Γ.mem))).2=Mn at *
      generalize hMr0:(Jr M0 (Yx ri (wrG c.ro c.Γ.mem))).1=Mr0 at *
      generalize hMo0:(Jr (Mr0++S.fixM) (Yx ri (rdG c.ro c.Γ.mem))).2=Mo at *
      generalize hMr1:(Jr (Mr0++S.fixM) (Yx ri (rdG c.ro c.Γ.mem))).1=Mr at *
      have hperm:(Ml++Mr).Perm (M0++S.fixM):=by
       rw [hMl0,List.append_assoc]
       refine (List.Perm.append_left Mn hp2).trans ?_
       rw [←List.append_assoc]
       exact hp1.append_right _
      have h2:Sb (fun _=>0) X [] ((S.env++S.fix).map (enD β ρ a)) [] (Qf β ρ Ml++Qf β ρ Mr) a w:=by
       refine Sb.perm h1 ?_
       rw [←List.map_append]
       exact List.Perm.map _ hperm.symm
      have hok2:∀b f,okR X β ρ (M0++S.fixM) w b f→Jh X.ok X.w.heap.size (fun _=>0) [] (Qf β ρ Ml++Qf β ρ Mr) w b f:=by
       rintro b f ⟨o1,o2,o3,o4⟩
       refine ⟨o1,o2,o3,fun t' ht'=>?_⟩
       refine o4 t' ?_
       have hp2:=hperm.symm.map fun q=>Q2 β ρ q.1 q.2
       exact hp2.mem_iff.2 (by rw [List.map_append]; exact ht')
      have hmk:∀q∈Uz c.Γ.mem v,q.1∈c.Γ.mem.map Prod.fst:=by
       intro q hq
       rw [←m1]
       exact List.mem_map.2 ⟨q,hq,rfl⟩
      have hval:∀q∈Uz c.Γ.mem v,(∃cc ob,J3 ri q.1=some cc∧(cc,ob)∈Ml∧R6 ob=false∧(∀g,(Q2 (Xo ri β) (Xi ri [] ρ) q.1 q.2).blks g→(Q2 β ρ cc ob).blks g))∨(∀g,¬ (Q2 (Xo ri β) (Xi ri [] ρ) q.1 q.2).blks g):=by
       intro q hq
       rcases m2 q hq with ⟨cc,ob,e3,e4,e5,_⟩ | ⟨_,e5,_⟩
       ·have hid:=hmk q hq
        obtain ⟨q',hq',he'⟩:=List.mem_map.1 hid
        exact .inl ⟨cc,ob,e3,hMl _ hid _ _ e3 e4,hkind q' hq' cc ob (by rw [he']; exact e3) e4,e5⟩
       ·exact .inr e5
      have hLm:∀g,g∈(Uz c.Γ.mem v).flatMap (Qd9 (Xo ri β) (Xi ri [] ρ))↔∃q∈Uz c.Γ.mem v,(Q2 (Xo ri β) (Xi ri [] ρ) q.1 q.2).blks g:=by
       intro g
       rw [List.mem_flatMap]
       exact ⟨fun ⟨q,hq,hg⟩=>⟨q,hq,Qgn.1 hg⟩,fun ⟨q,hq,hg⟩=>⟨q,hq,Qgn.2 hg⟩⟩
      generalize hL:(Uz c.Γ.mem v).flatMap (Qd9 (Xo ri β) (Xi ri [] ρ))=L at hLm
      have hLends:Qb3 (Qf (Xo ri β) (Xi ri [] ρ) (enc c.Γ x).mem) L (Jh X.ok X.w.heap.size (fun _=>0) [] (Qf β ρ Ml++Qf β ρ Mr) w) w:=by
       rw [henc]
       refine ⟨fun t ht=>?_,?_,fun g hg=>?_⟩
       ·obtain ⟨q,hq,rfl⟩:=List.mem_map.1 ht
        refine ⟨?_,fun g hg=>(hLm g).2 ⟨q,hq,hg⟩,fun g f hg hok=>?_⟩
        ·rcases m2 q hq with ⟨_,_,_,_,_,_,e6⟩ | ⟨_,_,e6⟩
         ·exact (Q2 _ _ q.1 q.2).weak e6 hok2
         ·exact e6 _ _
        ·rcases hval q hq with ⟨cc,ob,_,e4,e5,e6⟩ | e6
         ·exact hok.2.2.2 _ (List.mem_append_left _ (List.mem_map.2 ⟨_,e4,rfl⟩)) (Qgo e5 f (e6 g hg))
         ·exact e6 g hg
       ·obtain ⟨p1,_⟩:=Ah b1 m1
        show ((Uz c.Γ.mem v).map _).Pairwise _
        rw [List.pairwise_map]
        refine List.Pairwise.imp_of_mem ?_ p1
        intro q q' hq hq' hne g hg hg'
        rcases m2 q hq with ⟨cc,ob,e3,e4,e5,_⟩ | ⟨_,e5,_⟩
        ·rcases m2 q' hq' with ⟨cc',ob',e3',e4',e5',_⟩ | ⟨_,e5',_⟩
         ·exact h1.disj e4 e4' (hne cc cc' e3 e3') g (e5 g hg) (e5' g hg')
         ·exact e5' g hg'
        ·exact e5 g hg
       ·obtain ⟨q,hq,hg⟩:=(hLm g).1 hg
        exact ⟨_,List.mem_map.2 ⟨q,hq,rfl⟩,hg⟩
      have hargs:∀e∈(enc c.Γ x).env,∃cs,(xs.map a.eval++vc)[e.t]?=some (e.av.val cs)∧cr (Xo ri β) (Xi ri [] ρ) (Jh X.ok X.w.heap.size (fun _=>0) [] (Qf β ρ Ml++Qf β ρ Mr) w) w false e.av cs:=by
       intro e he
       rw [henc] at he
       have hcs:e.cs=[]:=by
        have:=I0 (Γe:=c.Γ.env) (l:=u++v) e (by rw [e1]; exact he)
        exact this
       obtain ⟨cs,p1,p2⟩:=(e2 e he).1.1 (by rw [hcs]; exact Qb _)
       rw [Xq (e2 e he).2] at p1
       exact ⟨cs,by simpa using p1,V1 p2 hok2⟩
      have hcall:=hc _ w L _ _ x y (xs.map a.eval++vc) (fun b f hk=>hk.2.1) (Gi h2 hG) (by rw [←el,hlen]) hLends hargs hy
      subst hf
      refine Js hw ?_
      have hrun':(execOp a.eval o).run P w=.ok (.enter c.f ⟨xs.map a.eval++vc⟩) w:=by
       unfold execOp
       rw [hop]
       have hm:(Array.mk xs).map a.eval=⟨xs.map a.eval⟩:=by simp
       simp [resolve,hm,hf1,Deferred.ofValue,invoke,A6 hrun]
      unfold Oper.wp
      rw [hrun']
      refine hcall.mono ?_
      rintro e' w' ⟨v0,rfl,⟨β2,ρ2,hag,⟨cs,hv0,hcr⟩,hT2,hpw2⟩,hbel⟩
      show wpList P ops Q rest (a.put o.dst v0) w'
      rw [hd]
      have hLl:∀g∈L,∃t∈Qf β ρ Ml,t.blks g:=by
       intro g hg
       obtain ⟨q,hq,hg⟩:=(hLm g).1 hg
       rcases hval q hq with ⟨cc,ob,_,e4,_,e6⟩ | e6
       ·exact ⟨_,List.mem_map.2 ⟨_,e4,rfl⟩,e6 g hg⟩
       ·exact absurd hg (e6 g)
      have hcov:∀t∈Qf β ρ Ml,∀b f,t.blks b→t.cov b f:=by
       intro t ht b f hb
       obtain ⟨q,hq,rfl⟩:=List.mem_map.1 ht
       obtain ⟨id,p3,p4,p2⟩:=hF1 q hq
       obtain ⟨q',hq',he'⟩:=List.mem_map.1 p3
       exact Qgo (hkind q' hq' q.1 q.2 (by rw [he']; exact p4) p2) f hb
      have h3:=Sb.callO h2 hbel hLl hcov hT2 hpw2
      have hROk:∀j∈(roM c x).map Prod.fst,∃cc,J3 ri j=some cc∧j∈c.Γ.mem.map Prod.fst:=fun j hj=>by
       obtain ⟨q,hq,rfl⟩:=List.mem_map.1 hj
       unfold roM at hq
       rw [henc] at hq
       obtain ⟨hq1,hq2⟩:=List.mem_filter.1 hq
       have hk:=hmk q hq1
       obtain ⟨q',hq',he'⟩:=List.mem_map.1 hk
       obtain ⟨cc,hcc⟩:=Qcs hb2s q.1 (List.mem_map.2 ⟨q',List.mem_filter.2 ⟨hq',by rw [he']; exact hq2⟩,he'⟩)
       exact ⟨cc,hcc,hk⟩
      have hroE2:Zz (J8 ri d) (roM c x)=Mo:=by unfold roM; rw [henc]; exact hroE
      generalize hRO:roM c x=RO at *
      generalize hS1:enc c.Δ y=S1 at *
      generalize hks:(S1.mem++RO).map Prod.fst=ks at *
      have hA:∀j∈ks,backB (J8 ri d) ks β2 β (J8 ri d j)=β2 j∧Et (J8 ri d) ks ρ2 ρ (J8 ri d j)=ρ2 j:=by
       intro j hj
       have:=Qgq (g:=J8 ri d) (ks:=ks) (by rw [←hks,List.map_map]; exact H6 n2) j hj
       exact ⟨by simp only [backB,this],by simp only [Et,this]⟩
      have hcase:∀j∈ks,(∃cc,J3 ri j=some cc∧J8 ri d j=cc∧j∈c.Γ.mem.map Prod.fst) ∨
        (J3 ri j=none∧Q7 (J8 ri d j) Mr0=true∧Q7 (J8 ri d j) S.fixM=true∧Dk (J8 ri d j) S.fix=true∧Dk (J8 ri d j) S.env=true∧Yn S.prot (J8 ri d j)=false∧j∉c.Γ.mem.map Prod.fst):=by
       intro j hj
       rw [←hks,List.map_append] at hj
       rcases List.mem_append.1 hj with hj | hj
       ·exact Qgp n1 j hj
       ·obtain ⟨cc,p1,p2⟩:=hROk j hj
        exact .inl ⟨cc,p1,by simp only [J8,p1],p2⟩
      have hB:∀i,(∀j∈ks,J3 ri j=none→J8 ri d j≠i)→backB (J8 ri d) ks β2 β i=β i∧Et (J8 ri d) ks ρ2 ρ i=ρ i:=by
       intro i hi
       cases hfd:ks.find? (fun j=>J8 ri d j==i) with
       | none=>exact ⟨by simp only [backB,hfd],by simp only [Et,hfd]⟩
       | some j =>
        have hj:=List.mem_of_find?_eq_some hfd
        have hji:J8 ri d j=i:=by simpa using List.find?_some hfd
        rcases hcase j hj with ⟨cc,p1,p2,p3⟩ | ⟨p1,_⟩
        ·obtain ⟨q1,q2⟩:=hag j p3
         have:cc=i:=by rw [←p2]; exact hji
         subst this
         exact ⟨by simp only [backB,hfd]; rw [q1]; simp only [Xo,p1],by simp only [Et,hfd]; rw [q2]; simp only [Xi,p1]⟩
        ·exact absurd hji (hi j hj p1)
      have hfr:=fun j hj (hn:J3 ri j=none)=>(hcase j hj).resolve_left fun ⟨cc,p1,_⟩=>by rw [hn] at p1; cases p1
      have hEnv:∀e∈S.env++S.fix,∀i∈Jc e.av,backB (J8 ri d) ks β2 β i=β i∧Et (J8 ri d) ks ρ2 ρ i=ρ i:=by
       intro e he i hi
       refine hB i fun j hj hn hji=>?_
       obtain ⟨_,_,_,p4,p5,_⟩:=hfr j hj hn
       have hno:Uj (J8 ri d j) e.av=true:=by
        rcases List.mem_append.1 he with he | he
        ·exact Eo p5 e he
        ·exact Eo p4 e he
       exact Eu hno (by rw [hji]; exact hi)
      have hMem:∀i∈Jk Mr,backB (J8 ri d) ks β2 β i=β i∧Et (J8 ri d) ks ρ2 ρ i=ρ i:=by
       intro i hi
       refine hB i fun j hj hn hji=>?_
       obtain ⟨_,p2,p3,_⟩:=hfr j hj hn
       replace hi:=Qqv (fun q hq=>hp2.mem_iff.1 (List.mem_append_right _ hq)) hi
       have happ:∀(l m:List (Nat×Ob)),Jk (l++m)=Jk l++Jk m:=by
        intro l m
        induction l with
        | nil=>rfl
        | cons q l ih =>
         obtain ⟨k0,o0⟩:=q
         cases o0 with
         | mapT k1 v path e u xs hole=>cases hole<;>simp [Jk,ih]
         | mapO k9 xs9 hole=>cases hole<;>simp [Jk,Zy,ih]
         | _=>simp [Jk,ih]
       rw [happ,List.mem_append] at hi
       rcases hi with hi | hi
       ·exact L4 p2 (by rw [hji]; exact hi)
       ·exact L4 p3 (by rw [hji]; exact hi)
      have hsim:Uf (Qf β2 ρ2 (S1.mem++RO)++Qf β ρ Mr) (Qf (backB (J8 ri d) ks β2 β) (Et (J8 ri d) ks ρ2 ρ) (Zz (J8 ri d) (S1.mem++RO))++Qf (backB (J8 ri d) ks β2 β) (Et (J8 ri d) ks ρ2 ρ) Mr) :=
       (Qd7 fun i hi=>hA i (X7 n4 i hi)).append (Qcq hMem)
      have h4:=Sb.simO h3 hsim
      have hmemO:Qf (backB (J8 ri d) ks β2 β) (Et (J8 ri d) ks ρ2 ρ) (Zz (J8 ri d) (S1.mem++RO))++Qf (backB (J8 ri d) ks β2 β) (Et (J8 ri d) ks ρ2 ρ) Mr =
        Qf (backB (J8 ri d) ks β2 β) (Et (J8 ri d) ks ρ2 ρ) ((Zz (J8 ri d) S1.mem++Mo)++Mr):=by
       rw [show Zz (J8 ri d) (S1.mem++RO)=Zz (J8 ri d) S1.mem++Zz (J8 ri d) RO from List.map_append,hroE2]
       simp only [Qf,List.map_append,List.append_assoc]
      have h5:Rel X (backB (J8 ri d) ks β2 β) (Et (J8 ri d) ks ρ2 ρ) ⟨S.env++S.fix,(Zz (J8 ri d) S1.mem++Mo)++Mr⟩ a w':=by
       refine Rel.ofSb h4 hmemO fun e he=>?_
       have hp:=Jw.1 h4.dat _ (List.mem_map.2 ⟨e,he,rfl⟩)
       rw [hmemO] at hp
       exact ⟨fun hcc=>let ⟨cs,q1,q2⟩:=hp.1 hcc; ⟨cs,q1,Z4 (hEnv e he) q2⟩,hp.2⟩
      have hres:cr (backB (J8 ri d) ks β2 β) (Et (J8 ri d) ks ρ2 ρ) (okR X (backB (J8 ri d) ks β2 β) (Et (J8 ri d) ks ρ2 ρ) ((Zz (J8 ri d) S1.mem++Mo)++Mr) w') w' false (Ko (J8 ri d) (Fj S1.env)) cs:=by
       have q1:=Bi (g:=J8 ri d) (fun i hi=>hA i (X7 n3 i (Qct _ i hi))) hcr
       refine V1 q1 fun b f hk=>?_
       have q2:=hsim.ok b f (H5 h2 hbel.size hLl b f hk)
       rw [hmemO] at q2
       exact q2
      have h6:=h5.put0 hd1 hres
      have hvv:(Ko (J8 ri d) (Fj S1.env)).val cs=v0:=by rw [hv0]; exact Qzg _ _ _
      rw [hvv] at h6
      have hfin:((Zz (J8 ri d) S1.mem++Mo)++Mr).Perm ((Zz (J8 ri d) S1.mem++Mr0)++S.fixM):=by
       rw [List.append_assoc,List.append_assoc]
       exact List.Perm.append_left _ hp2
      refine H _ _ _ _ _ hs ⟨rfl,rfl,rfl,fun i hi=>hB i fun j hj hn hji=>?_⟩ ?_
      ·obtain ⟨_,_,_,_,_,p6,_⟩:=hfr j hj hn
       rw [hji,Zj.2 hi] at p6; cases p6
      ·rw [Kp (S:=⟨S.env,S.fix,Zz (J8 ri d) S1.mem++Mr0,S.fixM,S.prot⟩) hd2]
       exact Sb.perm h6 (hfin.map _)
     ·cases hx
    ·cases hs
   ·cases hs
  ·cases hs
 ·cases hs
end
end Gx

/- A region whose order is drawn, once more: what is known of a temporary may speak of those it stands behind. -/
namespace Gx
open Go Go.RowKit Gd
set_option linter.unusedVariables false
set_option linter.unusedSimpArgs false
theorem R7 {l:List Oper} {p k i:Nat} (h:Qy4 l p=true) (hk:p≤k) (hkl:k<l.length) (hi:i<k):Zt l l.length k i=true:=by
 have h1:=List.all_eq_true.1 h k (List.mem_range.2 hkl)
 simp only [Bool.or_eq_true] at h1
 rcases h1 with h1 | h1
 ·have:=Nat.le_of_ble_eq_true h1; omega
 ·exact List.all_eq_true.1 h1 i (List.mem_range.2 hi)
structure FA where
 p:Ok→World→Act→Prop
 evo:∀{ok w w' a},p ok w a→Evo ok w w'→p ok w' a
 weak:∀{ok ok' w a},p ok w a→(∀b o,ok b o→ok' b o)→p ok' w a
section
variable {P:Program} {T:Tab} {β:Nat→Nat} {X:Cx} {G:GL} {D:List DF} {H:HL} {O:List TL} {a:Act} {w w':World}
def Jb3 (F:List FA) (E:Nat→Prop) (a:Act):DF where
 p:=fun ok w=>∀(i:Nat) fv,E i→F[i]?=some fv→fv.p ok w a
 evo:=fun h he i fv h1 h2=>fv.evo (h i fv h1 h2) he
 weak:=fun h hk i fv h1 h2=>fv.weak (h i fv h1 h2) hk
def Qm9 (OW:(Nat→Bool)→Act→List TL) (β0:Nat→Nat) (P:Program) (l:List Oper) (X:Cx) (G:GL) (D:List DF) (H:HL) (O:List TL) (ds:List Nat) (F:List FA) (i:Nat):Prop :=
 match ds[i]?,F[i]?,l[i]? with
 | some d,some fv,some o =>
  ∀(E:Nat→Bool) (β:Nat→Nat) (a:Act) (w:World) (dX:DF) (Ox:List TL) (Q:Exit→Act→World→Prop),A9 l (fun j=>E j=true)→E i=false→(∀e∈o.after.toList,Region.binds .any e=true→E e.on=true) →
   Sb β ⟨X.n,X.ok,X.w,Ls ds d,a,some β0,X.lent,X.lok,X.dfs⟩ G (dX::D) H (Ox++O) a w→Ox.Perm (OW E a) →
   (∀(j:Nat) (gv:FA),K6 l i j=true→F[j]?=some gv→gv.p (Jh X.ok X.w.heap.size β H (Ox++O) w) w a) →
   (∀β' a' w' Ox',Sb β' ⟨X.n,X.ok,X.w,Ls ds d,a,some β0,X.lent,X.lok,X.dfs⟩ G (dX::D) H (Ox'++O) a' w'→fv.p (Jh X.ok X.w.heap.size β' H (Ox'++O) w') w' a' →
    ((∀j e:Nat,j≠i→ds[j]?=some e→a'.tmps.getD e undef=a.tmps.getD e undef)→Ox'.Perm (OW (fun j=>j==i||E j) a'))→Q .normal a' w') →
   wpList P ⟨l⟩ Q [o] a w
 | _,_,_=>True
theorem T9 (OW:(Nat→Bool)→Act→List TL) {Ox0:List TL} (h:Sb β X G D H (Ox0++O) a w) (hO0:Ox0.Perm (OW (fun _=>false) a)) {id:Nat} {l:List Oper} {Q:Exit→Act→World→Prop} (hX:Jbs X.res=true) (hm:P.follows .mixedOrders=true) (p:Nat) (hOE:∀(E E':Nat→Bool) (a:Act),(∀i,i<p→E i=E' i)→OW E a=OW E' a)
  (ds:List Nat) (F:List FA) (hlen:Nat.beq ds.length p=true) (hlF:Nat.beq F.length p=true) (hple:Nat.ble p l.length=true) (hback:Gd.backB l=true) (hfin:Qy4 l p=true) (hnd:Sp ds=true)
  (hloc:∀(i:Nat) fv,F[i]?=some fv→∀(a a':Act) ok w,(∀j e:Nat,(j=i∨K6 l i j=true)→ds[j]?=some e→a'.tmps.getD e undef=a.tmps.getD e undef)→fv.p ok w a→fv.p ok w a')
  (hstep:Qsp (Qm9 OW β P l X G D H O ds F) p)
  (hend:∀β' a' w' Ox,Sb β' {X with pin:=some β} G D H (Ox++O) a' w'→Ox.Perm (OW (fun _=>true) a')→(∀(i:Nat) fv,F[i]?=some fv→fv.p (Jh X.ok X.w.heap.size β' H (Ox++O) w') w' a')→wpList P ⟨l⟩ Q (l.drop p) a' w') :
  (Code.region id ⟨l⟩ true).wp P Q a w:=by
 refine wp_region_any hm ?_
 have hpl:=Nat.le_of_ble_eq_true hple
 have hdl:=Nat.eq_of_beq_eq_true hlen
 have hFl:=Nat.eq_of_beq_eq_true hlF
 have hNd:=Im hnd
 have hXr:X.res=[]:=by
  cases hr:X.res with
  | nil=>rfl
  | cons x xs=>rw [hr] at hX; simp [Jbs] at hX
 let E (listed:Array Bool):Nat→Prop:=fun i=>listed.getD i false=true
 let J1 (listed:Array Bool) (a:Act) (w:World):Prop:=(∀k,p≤k→¬ E listed k)∧∃β1 Ox,Sb β1 {X with pin:=some β} G (Jb3 F (E listed) a::D) H (Ox++O) a w∧Ox.Perm (OW (fun i=>listed.getD i false) a)
 let J (listed:Array Bool) (a:Act) (w:World):Prop:=listed.size=l.length∧A9 l (E listed) ∧
  (J1 listed a w∨(∃k,p<k∧(∀i,i<l.length→(E listed i↔i<k))∧wpList P ⟨l⟩ Q (l.drop k) a w))
 have hset:∀(listed:Array Bool) (i j:Nat),listed.size=l.length→i<l.length→(E (listed.setIfInBounds i true) j↔(j=i∨E listed j)):=by
  intro listed i j hs hi
  simp only [E,Array.getD_eq_getD_getElem?,Array.getElem?_setIfInBounds,hs]
  by_cases hj:i=j
  ·subst hj; simp [hi]
  ·have hj':¬ j=i:=fun e=>hj e.symm
   simp [hj,hj']
 have hsetB:∀(listed:Array Bool) (i j:Nat),listed.size=l.length→i<l.length→(listed.setIfInBounds i true).getD j false=(j==i||listed.getD j false):=by
  intro listed i j hs hi
  have:=hset listed i j hs hi
  simp only [E] at this
  cases h1:(listed.setIfInBounds i true).getD j false with
  | true =>
   rcases this.1 h1 with rfl | h2
   ·simp
   ·simp [h2]
  | false =>
   cases h2:(j==i||listed.getD j false) with
   | false=>rfl
   | true =>
    simp only [Bool.or_eq_true,beq_iff_eq] at h2
    rw [this.2 h2] at h1; cases h1
 have hgo:∀listed a w,J1 listed a w→(∀j,j<p→E listed j)→wpList P ⟨l⟩ Q (l.drop p) a w:=by
  rintro listed a w ⟨hno,β1,Ox,hS,hI⟩ hall
  have hS':Sb β1 {X with pin:=some β} G D H (Ox++O) a w:={ hS with dat:=hS.dat.2 }
  refine hend β1 a w Ox hS' ?_ fun j fv hf=>hS.dat.1 j fv (hall j (by have:=(List.getElem?_eq_some_iff.1 hf).1; omega)) hf
  rwa [hOE _ (fun _=>true) a fun i hi=>hall i hi] at hI
 have hdone:∀listed a w,J listed a w→(∀i,i<l.length→E listed i)→Q .normal a w:=by
  rintro listed a w ⟨hs,hc,h1 | ⟨k,hk,hE,hw⟩⟩ hall
  ·have hpm:p=l.length:=by
    rcases Nat.lt_or_ge p l.length with hlt | hge
    ·exact absurd (hall p hlt) (h1.1 p (Nat.le_refl _))
    ·omega
   have:=hgo listed a w h1 fun i hi=>hall i (by omega)
   rw [hpm,List.drop_length] at this
   exact this
  ·have hkl:l.length≤k:=by
    rcases Nat.lt_or_ge k l.length with hlt | hge
    ·have:=(hE k hlt).1 (hall k hlt); omega
    ·exact hge
   rw [List.drop_eq_nil_of_le hkl] at hw
   exact hw
 have step1:∀(listed:Array Bool) (a:Act) (w:World) (i:Nat) (o:Oper) (Q':Exit→Act→World→Prop),listed.size=l.length→A9 l (E listed)→J1 listed a w→i<p→l[i]?=some o→¬ E listed i →
   (∀e∈o.after.toList,Region.binds .any e=true→listed.getD e.on false=true)→(∀a' w',J1 (listed.setIfInBounds i true) a' w'→Q' .normal a' w')→wpList P ⟨l⟩ Q' [o] a w:=by
  rintro listed a w i o Q' hs hc ⟨hno,β1,Ox,hS,hI⟩ hip ho hniE hpre hK
  have hil:i<l.length:=by omega
  obtain ⟨d,hd⟩:∃d,ds[i]?=some d:=⟨ds[i]'(by omega),List.getElem?_eq_getElem (by omega)⟩
  obtain ⟨fv,hf⟩:∃fv,F[i]?=some fv:=⟨F[i]'(by omega),List.getElem?_eq_getElem (by omega)⟩
  have hnotE:listed.getD i false=false:=by
   cases h1:listed.getD i false with
   | false=>rfl
   | true=>exact absurd h1 hniE
  have hst:=hstep.get hip
  simp only [Qm9,hd,hf,ho] at hst
  refine hst (fun i=>listed.getD i false) β1 a w (Jb3 F (E listed) a) Ox Q' hc hnotE hpre ?_ hI ?_ ?_
  ·exact { hS with fr:=fun _ _=>rfl }
  ·intro j gv hp hg
   have hEj:E listed j:=by
    simp only [K6,ho] at hp
    obtain ⟨e',he',hb'⟩:=List.any_eq_true.1 hp
    simp only [Bool.and_eq_true] at hb'
    rw [←Nat.eq_of_beq_eq_true hb'.2]
    exact hpre e' he' hb'.1
   exact hS.dat.1 j gv hEj hg
  ·intro β' a' w' Ox' hS' hfv hos
   have hgd:∀(j e:Nat),j≠i→ds[j]?=some e→a'.tmps.getD e undef=a.tmps.getD e undef:=by
    intro j e hji hj
    have hne:e≠d:=by
     intro he
     subst he
     have h1:=(List.getElem?_eq_some_iff.1 hj)
     have h2:=(List.getElem?_eq_some_iff.1 hd)
     have hpw:=List.pairwise_iff_getElem.1 hNd
     rcases Nat.lt_or_ge j i with hlt | hge
     ·exact hpw j i h1.1 h2.1 hlt (h1.2.trans h2.2.symm)
     ·exact hpw i j h2.1 h1.1 (by omega) (h2.2.trans h1.2.symm)
    have hfr':=hS'.fr e (Sq (List.mem_of_getElem? hj) hne)
    simp only [Array.getD_eq_getD_getElem?]
    rw [hfr']
   refine hK a' w' ⟨fun k hk hEk=>?_,β',Ox',?_,?_⟩
   case refine_3 =>
    have:=hos hgd
    rwa [hOE _ (fun j=>(listed.setIfInBounds i true).getD j false) a' fun j _=>(hsetB listed i j hs hil).symm] at this
   ·rw [hset listed i k hs hil] at hEk
    rcases hEk with rfl | hEk
    ·omega
    ·exact hno k hk hEk
   ·have hdX:=hS'.dat.1
    refine { sz:=hS'.sz,df:=hS'.df,fr:=by (show ∀t∈X.res,_; rw [hXr]; simp),pn:=hS'.pn,tm:=hS'.tm,bel:=hS'.bel,dat:=⟨?_,hS'.dat.2⟩,obj:=hS'.obj,own:=hS'.own,dHH:=hS'.dHH,dHO:=hS'.dHO,dOO:=hS'.dOO }
    intro j gv hEj hg
    rw [hset listed i j hs hil] at hEj
    by_cases hji:j=i
    ·subst hji
     rw [hf] at hg; injection hg with hg; subst hg
     exact hfv
    ·have hEj':E listed j:=hEj.resolve_left hji
     refine hloc j gv hg a a' _ _ (fun j' e hj' he=>?_) (hdX j gv hEj' hg)
     refine hgd j' e (fun hij=>?_) he
     subst hij
     rcases hj' with hj' | hj'
     ·exact hji hj'.symm
     ·simp only [K6] at hj'
      split at hj'
      ·rename_i oj hoj
       obtain ⟨e',he',hb'⟩:=List.any_eq_true.1 hj'
       simp only [Bool.and_eq_true] at hb'
       have:=hc j oj hEj' hoj e' he' hb'.1
       rw [Nat.eq_of_beq_eq_true hb'.2] at this
       exact hniE this
      ·cases hj'
 have main:∀(fuel:Nat) (listed:Array Bool) (a:Act) (w:World),J listed a w→((List.range l.length).filter fun i=>!listed.getD i false).length≤fuel→wpAny P .any ⟨l⟩ Q fuel listed a w:=by
  intro fuel
  induction fuel with
  | zero =>
   intro listed a w hJ hle
   have hall:∀i,i<l.length→E listed i:=by
    intro i hi
    cases hl:listed.getD i false with
    | true=>exact hl
    | false =>
     have:i∈(List.range l.length).filter fun i=>!listed.getD i false:=List.mem_filter.2 ⟨List.mem_range.2 hi,by rw [hl]; rfl⟩
     have hnil:=List.eq_nil_of_length_eq_zero (Nat.le_zero.1 hle)
     rw [hnil] at this; simp at this
   refine ⟨?_,hdone listed a w hJ hall⟩
   apply List.eq_nil_iff_forall_not_mem.2
   intro i hi
   rw [F9] at hi
   have h1:=hall i hi.1
   have h2:=hi.2.1
   simp only [E] at h1
   have h3:listed.getD i true=listed.getD i false:=by simp [Array.getD,hJ.1,hi.1]
   rw [h3,h1] at h2; cases h2
  | succ fuel ih =>
   intro listed a w hJ hle
   refine ⟨fun hr=>hdone listed a w hJ (Sr hJ.1 hback hr),fun i hi=>?_⟩
   rw [F9] at hi
   obtain ⟨hil,hnl,o,ho,hpre⟩:=hi
   obtain ⟨hs,hc,hcase⟩:=hJ
   have hniE:¬ E listed i:=by
    intro hE
    have h3:listed.getD i true=listed.getD i false:=by simp [Array.getD,hs,hil]
    rw [h3] at hnl; simp only [E] at hE; rw [hE] at hnl; cases hnl
   have hcl:A9 l (E (listed.setIfInBounds i true)):=by
    intro j oj hj hoj e he hb
    rw [hset listed i _ hs hil] at hj ⊢
    rcases hj with rfl | hj
    ·rw [ho] at hoj; injection hoj with hoj; subst hoj
     exact .inr (hpre e he hb)
    ·exact .inr (hc j oj hj hoj e he hb)
   have hcnt:((List.range l.length).filter fun j=>!(listed.setIfInBounds i true).getD j false).length≤fuel:=by
    have hlt:((List.range l.length).filter fun j=>!(listed.setIfInBounds i true).getD j false).length<((List.range l.length).filter fun j=>!listed.getD j false).length:=by
     apply filter_lt (x:=i)
     ·intro j hj
      have:=hset listed i j hs hil
      simp only [E] at this
      cases h1:listed.getD j false with
      | false=>rfl
      | true=>rw [this.2 (.inr h1)] at hj; cases hj
     ·exact List.mem_range.2 hil
     ·have:=(hset listed i i hs hil).2 (.inl rfl)
      simp only [E] at this; rw [this]; rfl
     ·cases h1:listed.getD i false with
      | true=>exact absurd h1 hniE
      | false=>rfl
    omega
   rcases hcase with hJ1 | ⟨k,hk,hE,hw⟩
   ·rcases Nat.lt_or_ge i p with hip | hip
    ·
     exact My ho (step1 listed a w i o (Exit.then (wpAny P .any ⟨l⟩ Q fuel (listed.setIfInBounds i true)) Q) hs hc hJ1 hip ho hniE hpre fun a' w' hJ1=>ih _ a' w' ⟨by simp [hs],hcl,.inl hJ1⟩ hcnt)
    ·
     have hall:∀j,j<i→E listed j:=fun j hj=>Xe hc l.length i j (R7 hfin hip hil hj) fun o' ho'=>by rw [ho] at ho'; injection ho' with ho'; subst ho'; exact hpre
     have hip':i=p:=by
      rcases Nat.lt_or_ge p i with hlt | hge
      ·exact absurd (hall p hlt) (hJ1.1 p (Nat.le_refl _))
      ·omega
     subst hip'
     have hw:=hgo listed a w hJ1 hall
     refine wpOp_mono (fun a w hw'=>ih _ a w ⟨by simp [hs],hcl,.inr ⟨i+1,by omega,fun j hj=>?_,hw'⟩⟩ hcnt) (Hq ho hw)
     rw [hset listed i j hs hil]
     constructor
     ·rintro (rfl | hEj)
      ·omega
      ·rcases Nat.lt_or_ge j i with h1 | h1
       ·omega
       ·exact absurd hEj (hJ1.1 j h1)
     ·intro hlt
      rcases Nat.lt_or_ge j i with h1 | h1
      ·exact .inr (hall j h1)
      ·exact .inl (by omega)
   ·
    have hall:∀j,j<i→E listed j:=by
     intro j hj
     have hpi:p<i:=by
      rcases Nat.lt_or_ge i k with h1 | h1
      ·exact absurd ((hE i hil).2 h1) hniE
      ·omega
     exact Xe hc l.length i j (R7 hfin (by omega) hil hj) fun o' ho'=>by rw [ho] at ho'; injection ho' with ho'; subst ho'; exact hpre
    have hik:i=k:=by
     rcases Nat.lt_or_ge i k with h1 | h1
     ·exact absurd ((hE i hil).2 h1) hniE
     ·rcases Nat.lt_or_ge k i with h2 | h2
      ·have:=(hE k (by omega)).1 (hall k h2); omega
      ·omega
    subst hik
    refine wpOp_mono (fun a w hw'=>ih _ a w ⟨by simp [hs],hcl,.inr ⟨i+1,by omega,fun j hj=>?_,hw'⟩⟩ hcnt) (Hq ho hw)
    rw [hset listed i j hs hil,hE j hj]
    constructor
    ·rintro (rfl | h1)<;>omega
    ·intro h1
     rcases Nat.lt_or_ge j i with h2 | h2
     ·exact .inr h2
     ·exact .inl (by omega)
 refine main _ _ a _ ⟨by simp,fun i o hE=>?_,.inl ⟨fun k _ hE=>?_,β,Ox0,?_,?_⟩⟩ ?_
 ·simp only [E] at hE; simp [Array.getD_eq_getD_getElem?,Array.getElem?_replicate] at hE
  split at hE<;>simp at hE
 ·simp only [E] at hE; simp [Array.getD_eq_getD_getElem?,Array.getElem?_replicate] at hE
  split at hE<;>simp at hE
 ·refine { sz:=h.sz,df:=h.df,fr:=h.fr,pn:=fun f hf p _=>(by injection hf with hf; subst hf; rfl),tm:=h.tm,bel:=h.bel.drew,dat:=⟨?_,h.dat.evo (w':=w.drew) (Evo.of_blocks (Nat.le_refl _) fun _ _ _=>rfl)⟩,obj:=h.obj,own:=fun t ht=>⟨t.keep (h.own t ht).1 (fun _ _=>rfl) (Evo.of_blocks (Nat.le_refl _) fun _ _ _=>rfl),(h.own t ht).2⟩,dHH:=h.dHH,dHO:=h.dHO,dOO:=h.dOO }
  intro i fv hE
  simp only [E] at hE; simp [Array.getD_eq_getD_getElem?,Array.getElem?_replicate] at hE
  split at hE<;>simp at hE
 ·have e:(⟨l⟩:Array Oper).size=l.length:=rfl
  rwa [hOE _ (fun i=>(Array.replicate (⟨l⟩:Array Oper).size false).getD i false) a fun i hi=>by
   have:(Array.replicate (⟨l⟩:Array Oper).size false).getD i false=false:=by
    simp only [Array.getD_eq_getD_getElem?,Array.getElem?_replicate]
    split<;>rfl
   exact this.symm] at hO0
 ·refine Nat.le_trans (List.length_filter_le _ _) (by simp)
where
 filter_lt {α:Type} {f g:α→Bool}:∀{l:List α} {x:α},(∀y,f y=true→g y=true)→x∈l→f x=false→g x=true→(l.filter f).length<(l.filter g).length
  | y::ys,x,hfg,hx,h1,h2=>by
   have hle:∀zs:List α,(zs.filter f).length≤(zs.filter g).length:=by
    intro zs
    induction zs with
    | nil=>simp
    | cons z zs ih =>
     simp only [List.filter_cons]
     cases hf:f z with
     | true=>rw [hfg z hf]; simpa using ih
     | false=>cases hg:g z<;>simp<;>omega
   rcases List.mem_cons.1 hx with rfl | hx
   ·simp only [List.filter_cons,h1,h2]
    have:=hle ys
    simp; omega
   ·have:=filter_lt hfg hx h1 h2
    simp only [List.filter_cons]
    cases hf:f y with
    | true=>rw [hfg y hf]; simpa using this
    | false=>cases hg:g y<;>simp<;>omega
end
end Gx

/- Operations that give a value, in a region whose order is open. -/
namespace Gx
open Go Go.RowKit Gd
set_option linter.unusedVariables false
set_option linter.unusedSimpArgs false
theorem gvW {S:St} {β:Nat→Nat} {ρ:Nat→Value} {ok:Ok} {a:Act} {w:World} {N:Nat} (h:Xn β ρ ok S a w) (hs:a.tmps.size=N) {x:Operand} {v:AV} (hx:ev S [] x=some v):gv (Xu N a) x=some (.v (a.eval x)):=by
 cases x with
 | tmp t =>
  simp only [ev] at hx
  split at hx
  ·rename_i e he
   obtain ⟨hb,hx⟩:=bvT hx
   obtain ⟨hm,ht⟩:=Uh he
   obtain ⟨cs,h1,h2⟩:=(h.1 e hm).1 (Bd hb (Qb a))
   rw [S5 he a,ht] at h1
   have hlt:t<a.tmps.size:=by
    rcases Nat.lt_or_ge t a.tmps.size with h3 | h3
    ·exact h3
    ·rw [Array.getElem?_eq_none h3] at h1; cases h1
   simp only [gv,Xu]
   rw [Iy (f:=fun t=>Gd.AV.v (a.tmps.getD t undef)) (List.mem_range.2 (hs▸hlt))]
   rfl
  ·cases hx
 | const v=>rfl
 | func f=>rfl
 | global g=>rfl
def Qaa (gl:List (Nat×Σ t:Ty,t.De)) (P:Program) (l0:List Oper) (S:St) (o:Oper) (v:AV):Prop :=
 ∀{β:Nat→Nat} {ρ:Nat→Value} {β1:Nat→Nat} {X:Cx} {D:List DF} {O:List TL} {a:Act} {w:World} {d:Nat} {Q:Exit→Act→World→Prop},Vl gl (okN X) X.w→Sb β1 X (Xu X.n a) D [] O a w→Xn β ρ (Jh X.ok X.w.heap.size β1 [] O w) S a w →
  Region.wanted o (yielded ⟨l0⟩ a.tmps)=true→Kg (⟨l0⟩:Array Oper) (Xu X.n a) o=some true→o.dst=some d→okD X d=true →
  (∀a' w' cs,Sb β1 X (Zr (Xu X.n a) d (.v (v.val cs))) D [] O a' w'→cr β ρ (Jh X.ok X.w.heap.size β1 [] O w') w' false v cs→Q .normal a' w')→wpList P ⟨l0⟩ Q [o] a w
section
variable {P:Program} {Y:TX} {gl:List (Nat×Σ t:Ty,t.De)} {l0:List Oper} {S:St} {o:Oper} {R:Type} {r:R}
theorem Jc1 {v:AV} (h:Pz P S [] o v):Qaa gl P l0 S o v:=by
 intro β ρ β1 X D O a w d Q hG hS hR hw hg hd hok H
 obtain ⟨cs,h1,h2⟩:=h hR (Qb a)
 exact Qsn hS (g:=none) hg hd hok h1 fun a' hS'=>H a' w cs hS' h2
theorem Qna {β:Nat→Nat} {ρ:Nat→Value} {ok:Ok} {a:Act} {w:World} (h:Xn β ρ ok S a w):∀{xs:List Operand} {i:Nat} {es:List En} (pre:List Value),pre.length=i→Qti S xs i=some es →
  es.length=xs.length∧∀e∈es,(enD β ρ ⟨(pre++xs.map a.eval).toArray,[]⟩ e).p ok w
 | [],i,es,pre,_,he=>by simp [Qti] at he; subst he; exact ⟨rfl,by simp⟩
 | x::xs,i,es,pre,hi,he=>by
  simp only [Qti] at he
  split at he
  ·rename_i v r hv hr
   obtain ⟨hbi,he⟩:=bvT he
   simp at he; subst he
   obtain ⟨cs,h1,h2⟩:=h.ev (Qb a) hv
   obtain ⟨h3,h4⟩:=Qna h (xs:=xs) (i:=i+1) (pre++[a.eval x]) (by simp [hi]) hr
   refine ⟨by simp [h3],fun e hm=>?_⟩
   have hl:pre++[a.eval x]++xs.map a.eval=pre++(x::xs).map a.eval:=by simp
   rw [hl] at h4
   rcases List.mem_cons.1 hm with rfl | hm
   ·refine ⟨fun _=>⟨cs,?_,h2⟩,.inl (Qb _)⟩
    rw [Xq hbi]
    simp only [List.getElem?_toArray]
    rw [List.getElem?_append_right (by omega),←hi]
    simp only [Nat.sub_self,List.map_cons,List.getElem?_cons_zero]
    exact congrArg some h1
   ·exact h4 e hm
  ·cases he
theorem I1 {α:Type} {l:List α} (h:Hb l=true):l=[]:=by cases l<;>simp [Hb] at h; rfl
theorem Qzh {c:Con} (hc:Qn P gl c) (hrun:Runs P c.f) {k:AV→Option R} (hs:Qtj c o.op S k=some r):∃v,k v=some r∧Jc v=[]∧Qaa gl P l0 S o v:=by
 unfold Qtj at hs
 split at hs
 ·rename_i f xs ts hop
  obtain ⟨hb,hs⟩:=bvT hs
  simp only [Bool.and_eq_true] at hb
  have hf:=Nat.eq_of_beq_eq_true hb.1.1
  have hΓ:=I1 hb.1.2
  have hΔ:=I1 hb.2
  split at hs
  ·rename_i es hes
   obtain ⟨hlb,hs⟩:=bvT hs
   have hlen:=Nat.eq_of_beq_eq_true hlb
   split at hs
   ·rename_i x hx
    obtain ⟨y,hy,hs⟩:=Yy hs
    obtain ⟨hids,hs⟩:=bvT hs
    have hids:=I1 hids
    have hall:Jc (Fj (enc c.Δ y).env)=[]:=by
     cases hai:Jc (Fj (enc c.Δ y).env) with
     | nil=>rfl
     | cons i l =>
      have:=Qct (enc c.Δ y).env i (by rw [hai]; exact .head _)
      rw [hids] at this; cases this
    refine ⟨_,hs,hall,?_⟩
    intro β ρ β1 X D O a w d Q hGl hS hR hw hg hd hok H
    unfold Qqa at hx
    obtain ⟨hbx,hx⟩:=bvT hx
    split at hx
    ·rename_i u v hu hv
     have hxl:=Tw hx
     obtain ⟨el,hE0⟩:=Qna hR [] rfl hes
     simp only [List.nil_append] at hE0
     obtain ⟨es',e1,e2⟩:=Iw (β:=β) (ρ:=ρ) (fun id ob ho=>hR.2 id ob (by simpa using ho)) hE0 v hu
     have hmem:(enc c.Γ x).mem=[]:=by
      unfold enc
      split
      rw [hΓ]; rfl
     have henv:(enc c.Γ x).env=es':=by
      unfold enc
      rw [hxl,e1]
     have hargs:∀e∈(enc c.Γ x).env,∃cs,(xs.map a.eval)[e.t]?=some (e.av.val cs)∧cr (Xo [] β) (Xi [] [] ρ) (Jh X.ok X.w.heap.size β1 [] O w) w false e.av cs:=by
      intro e he
      rw [henv] at he
      have hcs:e.cs=[]:=I0 (Γe:=c.Γ.env) (l:=u++v) e (by rw [e1]; exact he)
      obtain ⟨cs,p1,p2⟩:=(e2 e he).1.1 (by rw [hcs]; exact Qb _)
      rw [Xq (e2 e he).2] at p1
      exact ⟨cs,by simpa using p1,p2⟩
     have hcall:=hc _ w [] _ _ x y (xs.map a.eval) (fun b f hk=>hk.2.1) (Gi hS hGl) (by rw [List.length_map,←el,hlen]) (by rw [hmem]; exact ⟨by simp [Qf],.nil,by simp⟩) hargs hy
     subst hf
     refine Js hw ?_
     have hrun':(execOp a.eval o).run P w=.ok (.enter c.f ⟨xs.map a.eval⟩) w:=by
      unfold execOp
      rw [hop]
      have hm:(Array.mk xs).map a.eval=⟨xs.map a.eval⟩:=by simp
      simp [resolve,hm,Act.eval,Deferred.ofValue,invoke,A6 hrun]
     unfold Oper.wp
     rw [hrun']
     refine hcall.mono ?_
     rintro e' w' ⟨v0,rfl,⟨β2,ρ2,hag,⟨cs,hv0,hcr⟩,hT2,hpw2⟩,hbel⟩
     show wpList P ⟨l0⟩ Q [] (a.put o.dst v0) w'
     rw [hd]
     have h2:Sb β1 X (Xu X.n a) D [] ([]++O) a w:=hS
     have h3:=Sb.callO (O1':=[]) h2 hbel (by simp) (by simp) (by simp) .nil
     have h4:=h3.put hok (.v v0)
     subst hv0
     refine H _ w' cs h4 ?_
     have hcr':=Z4 (β':=β) (ρ':=ρ) (fun i hi=>by rw [hall] at hi; cases hi) hcr
     refine V1 hcr' fun b f hk=>?_
     have hm0:Qf β2 ρ2 (enc c.Δ y).mem=[]:=by
      have:(enc c.Δ y).mem=[]:=by
       unfold enc
       split
       rw [hΔ]; rfl
      rw [this]; rfl
     rw [show (enc c.Δ y).mem++roM c x=(enc c.Δ y).mem by unfold roM; rw [hmem]; exact List.append_nil _,hm0] at hk
     exact H5 (O1':=[]) h2 hbel.size (by simp) b f ⟨hk.1,hk.2.1,by simp,by simp⟩
    ·cases hx
   ·cases hs
  ·cases hs
 ·cases hs
theorem Qgt {β:Nat→Nat} {ρ:Nat→Value} {ok:Ok} {a:Act} {w:World} {N:Nat} (h:Xn β ρ ok S a w) (hn:a.tmps.size=N) {u:Ty}:∀{ps:List (Nat×Operand)} {vs:List (Nat×AV)} {xs:List u.De} {j:Nat},Vb S [] ps=some vs→asLs S.mem u vs j=some xs →
  ∃us:List Value,ps.map (fun p=>(p.1,a.eval p.2))=(List.range' j us.length).zip us∧Rj (rt u) ok w xs us∧us.length=xs.length∧evParts (Xu N a) ps=some (ps.map (fun p=>(p.1,a.eval p.2)))
 | [],vs,xs,j,he,hx=>by
  simp [Vb] at he; subst he
  simp [asLs] at hx; subst hx
  exact ⟨[],rfl,trivial,rfl,rfl⟩
 | (i,x)::ps,vs,xs,j,he,hx=>by
  simp only [Vb] at he
  split at he
  ·rename_i v l hv hl
   simp at he; subst he
   simp only [asLs] at hx
   obtain ⟨hb,hx⟩:=bvT hx
   simp only [Bool.and_eq_true] at hb
   have:=Nat.eq_of_beq_eq_true hb.1
   subst this
   split at hx
   ·rename_i y ys hy hys
    simp at hx; subst hx
    obtain ⟨us,q1,q2,q3,q4⟩:=Qgt h hn (u:=u) (ps:=ps) hl hys
    have hiv:=h.asD (Qb a) hv hy (bEq hb.2)
    refine ⟨a.eval x::us,?_,⟨hiv,q2⟩,by simp [q3],?_⟩
    ·simp only [List.map_cons,List.length_cons,List.range'_succ,List.zip_cons_cons,q1]
    ·simp only [evParts,gvW h hn hv,q4,List.map_cons]
   ·cases hx
  ·cases he
theorem Jc2 (hT:Jb P Y.T) {k:AV→Option R} (hs:Jco Y S o.op k=some r):∃v,k v=some r∧Jc v=[]∧Qaa gl P l0 S o v:=by
 unfold Jco at hs
 split at hs
 ·rename_i t m ps hop
  split at hs
  ·rename_i te hte
   split at hs
   ·rename_i e htd
    have htd:=Yr htd
    split at hs
    ·rename_i ee u he hu
     split at hs
     ·rename_i vs hvs
      split at hs
      ·rename_i xs hxs
       obtain ⟨hb,hs⟩:=bvT hs
       simp only [Bool.and_eq_true] at hb
       obtain ⟨⟨⟨⟨hsz,hl⟩,hsm⟩,hpos⟩,hzl⟩:=hb
       refine ⟨_,hs,rfl,?_⟩
       intro β ρ β1 X D O a w d Q hGl hS hR hw hg hd hok H
       have hn:a.tmps.size=X.n:=hS.sz
       obtain ⟨us,q1,q2,q3,q4⟩:=Qgt hR hn hvs hxs
       have hes:=Nat.eq_of_beq_eq_true hsz
       have hxl:=Nat.eq_of_beq_eq_true hl
       have hcl:∀v∈us,(Qm v).length=ee.size:=by
        have key:∀{xs:List u.De} {us:List Value},Rj (rt u) (Jh X.ok X.w.heap.size β1 [] O w) w xs us→∀v∈us,(Qm v).length=ee.size:=by
         intro xs
         induction xs with
         | nil=>intro us hu v hv; cases us with
          | nil=>cases hv
          | cons _ _=>cases hu
         | cons x xs ih =>
          intro us hu v hv
          cases us with
          | nil=>cases hv
          | cons y us =>
           rcases List.mem_cons.1 hv with rfl | hv
           ·rw [(rt u).len (Xr hu.1),Jv,hes]
           ·exact ih hu.2 v hv
        exact key q2
       have hz0:(Uc (Qm ee.z) ((m+1)*ee.size)).length=(m+1)*ee.size:=by simp [Uc]
       have hfill:=Qb6 us 0 (Uc (Qm ee.z) ((m+1)*ee.size)) hcl (by rw [hz0,Nat.zero_add,q3,hxl]; exact Nat.le_refl _)
       rw [←q1] at hfill
       have hfill':Hk (A8 ee.size) (Uc (Qm ee.z) ((m+1)*ee.size)) (ps.map (fun p=>(p.1,a.eval p.2)))=some (us.flatMap Qm):=by
        rw [hfill]
        simp only [Nat.zero_mul,List.take_zero,List.nil_append,Nat.zero_add]
        rw [List.drop_of_length_le (by rw [hz0,q3,hxl]; exact Nat.le_refl _),List.append_nil]
       rw [Xa o,hd,hop] at hg ⊢
       refine B8 hT hS (r:=rt u) hg hok q4 hte htd he (by rw [Jv]; exact hes) hxl hsm (Nat.ble_eq_true_of_le (by have:=Nat.le_of_ble_eq_true hpos; have:=Nat.mul_le_mul (Nat.le_add_left 1 m) this; omega)) hzl hfill' q2 fun A c a' w' hv hS'=>?_
       exact H a' w' [.slice A xs.length c] hS' ⟨_,rfl,U7.1 hv⟩
      ·cases hs
     ·cases hs
    ·cases hs
   ·cases hs
  ·cases hs
 ·cases hs
end
end Gx
