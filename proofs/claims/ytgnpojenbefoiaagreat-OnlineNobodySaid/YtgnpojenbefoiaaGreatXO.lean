/- Calls. -/
import Derived.Test.YtgnpojenbefoiaaGreatXMy
namespace Gx
open Go Go.RowKit Gd
set_option linter.unusedVariables false
set_option linter.unusedSimpArgs false
def Qiu (c:Con) (β:Nat→Nat) (ρ:Nat→Value) (ok:Ok) (L:List Nat) (w:World) (x:c.Γ.De) (y:c.Δ.De) (v:Value) (w':World):Prop :=
 ∃(β':Nat→Nat) (ρ':Nat→Value),agP (c.Γ.mem.map Prod.fst) β β' ρ ρ' ∧
  (∃cs,v=(Es (enc c.Δ y).env).val cs∧cr β' ρ' (Q5 (okL L ok) w.heap.size (fun _=>0) [] (Qc β' ρ' ((enc c.Δ y).mem++roM c x)) w') w' false (Es (enc c.Δ y).env) cs) ∧
  (∀t∈Qc β' ρ' ((enc c.Δ y).mem++roM c x),t.p (Q5 (okL L ok) w.heap.size (fun _=>0) [] (Qc β' ρ' ((enc c.Δ y).mem++roM c x)) w') w'∧∀g,t.blks g→w.heap.size≤g∨g∈L) ∧
  (Qc β' ρ' ((enc c.Δ y).mem++roM c x)).Pairwise fun s t=>∀g,s.blks g→¬ t.blks g
def Vf (gl:List (Nat×Σ t:Ty,t.De)) (ok:Ok) (w:World):Prop :=
 ∀q∈gl,I8 (rt q.2.1) ok w q.2.2 (.pointer (some ⟨q.1,0,none⟩))∧ok q.1 0∧∃cs t fz,w.heap[q.1]?=some (.cells cs t fz)∧cs.size=q.2.1.size
theorem Vf.keep {gl:List (Nat×Σ t:Ty,t.De)} {ok:Ok} {w w':World} (h:Vf gl ok w) (hs:w.heap.size≤w'.heap.size) (hb:∀b o,ok b o→w'.heap[b]?=w.heap[b]?):Vf gl ok w' :=
 fun q hq=>let ⟨h1,h2,h3⟩:=h q hq; ⟨h1.evo (Evo.of_blocks hs hb),h2,by rw [hb _ _ h2]; exact h3⟩
theorem Vf.weak {gl:List (Nat×Σ t:Ty,t.De)} {ok ok':Ok} {w:World} (h:Vf gl ok w) (hk:∀b o,ok b o→ok' b o):Vf gl ok' w:=fun q hq=>let ⟨h1,h2,h3⟩:=h q hq; ⟨h1.weak hk,hk _ _ h2,h3⟩
def okN (X:Cx):Ok:=fun b o=>X.ok b o∧b∉X.lent∧b<X.w.heap.size
theorem Wu {gl:List (Nat×Σ t:Ty,t.De)} {X:Cx} {β:Nat→Nat} {G:GL} {D:List DF} {O:List TL} {a:Act} {w:World} (h:Sb β X G D [] O a w) (hG:Vf gl (okN X) X.w):Vf gl (Q5 X.ok X.w.heap.size β [] O w) w:=by
 refine (hG.keep h.bel.size fun b o hk=>h.bel.block b hk.2.2 hk.2.1).weak fun b o hk=>⟨.inl hk.1,Nat.lt_of_lt_of_le hk.2.2 h.bel.size,by simp,fun t ht hc=>?_⟩
 rcases (h.own t ht).2 b (t.cb hc) with h1 | h1
 ·have:=hk.2.2; omega
 ·exact hk.2.1 h1
def Qi (P:Program) (gl:List (Nat×Σ t:Ty,t.De)) (c:Con):Prop :=
 ∀(ok:Ok) (w:World) (L:List Nat) (β:Nat→Nat) (ρ:Nat→Value) (x:c.Γ.De) (y:c.Δ.De) (vs:List Value),(∀b o,ok b o→b<w.heap.size)→Vf gl ok w→vs.length=c.Γ.env.length→Ma (Qc β ρ (enc c.Γ x).mem) L ok w →
  (∀e∈(enc c.Γ x).env,∃cs,vs[e.t]?=some (e.av.val cs)∧cr β ρ ok w false e.av cs)→c.fn x=some y→Calls P c.f ⟨vs⟩ w (Qag L w (Qiu c β ρ ok L w x y))
section
variable {β β':Nat→Nat} {ρ ρ':Nat→Value} {ok:Ok} {w:World}
theorem Ak {g:Nat→Nat}:∀{m:Bool} {x:AV} {cs:List Value},(∀i∈Q2 x,β' (g i)=β i∧ρ' (g i)=ρ i)→cr β ρ ok w m x cs→cr β' ρ' ok w m (Z5 g x) cs
 | m,.d t x,cs,_,h=>by cases m<;>exact h
 | m,.p id path,cs,hn,h=>by
  have:=(hn id (.head _)).1
  cases m<;>(simp only [cr,Z5] at h ⊢; rw [this]; exact h)
 | m,.e id path,cs,hn,h=>by
  have:=(hn id (.head _)).2
  cases m<;>(simp only [cr,Z5] at h ⊢; rw [this]; exact h)
 | m,.s id,cs,hn,h=>by
  have:=(hn id (.head _)).2
  cases m<;>(simp only [cr,Z5] at h ⊢; rw [this]; exact h)
 | m,.m id,cs,hn,h=>by
  have:=(hn id (.head _)).1
  cases m<;>(simp only [cr,Z5] at h ⊢; rw [this]; exact h)
 | m,.b id,cs,hn,h=>by
  have:=(hn id (.head _)).1
  cases m<;>(simp only [cr,Z5] at h ⊢; rw [this]; exact h)
 | m,.w id _ _,cs,hn,h=>by
  have:=(hn id (.head _)).1
  cases m<;>(simp only [cr,Z5] at h ⊢; rw [this]; exact h)
 | m,.a t x,cs,_,h=>by cases m<;>exact h
 | m,.z,cs,_,h=>by cases m<;>exact h
 | m,.ns,cs,_,h=>by cases m<;>exact h
 | m,.np,cs,_,h=>by cases m<;>exact h
 | m,.nm,cs,_,h=>by cases m<;>exact h
 | m,.nf,cs,_,h=>by cases m<;>exact h
 | m,.f fn caps,cs,hn,h=>by cases m<;>exact let ⟨vs,h1,h2⟩:=h; ⟨vs,h1,Ak (fun i hi=>hn i (by simpa [Q2] using hi)) h2⟩
 | m,.ag l,cs,hn,h=>by cases m<;>exact Ak (m:=false) (x:=l) (fun i hi=>hn i (by simpa [Q2] using hi)) h
 | m,.tp l,cs,hn,h=>by cases m<;>exact let ⟨vs,h1,h2⟩:=h; ⟨vs,h1,Ak (fun i hi=>hn i (by simpa [Q2] using hi)) h2⟩
 | m,.nil,cs,_,h=>by cases m<;>exact h
 | true,.cons x r,cs,hn,h=>by
  obtain ⟨c1,vs,h1,h2,h3⟩:=h
  refine ⟨c1,vs,?_,Ak (fun i hi=>hn i (by simp [Q2,hi])) h2,Ak (fun i hi=>hn i (by simp [Q2,hi])) h3⟩
  rw [h1]; cases x<;>rfl
 | false,.cons x r,cs,hn,h=>by
  exact let ⟨c1,vs,h1,h2,h3⟩:=h; ⟨c1,vs,h1,Ak (fun i hi=>hn i (by simp [Q2,hi])) h2,Ak (fun i hi=>hn i (by simp [Q2,hi])) h3⟩
theorem Qt7 (g:Nat→Nat) (x:AV) (cs:List Value):(Z5 g x).val cs=x.val cs:=by cases x<;>rfl
theorem Qa6 {g:Nat→Nat}:∀{l:List (Nat×Ob)},(∀i∈Q3 l,β' (g i)=β i∧ρ' (g i)=ρ i)→V2 (Qc β ρ l) (Qc β' ρ' (Zq g l))
 | [],_=>.nil
 | (id,o)::l,h=>by
  have h1:=h id (by
   cases o with
   | mapT k v path e u xs hole=>cases hole<;>simp [Q3]
   | mapO k9 xs9 hole=>cases hole<;>simp [Q3,Zp]
   | _=>simp [Q3])
  refine .cons ?_ (Qa6 fun i hi=>h i (by
   cases o with
   | mapT k v path e u xs hole=>cases hole<;>simp [Q3,hi]
   | mapO k9 xs9 hole=>cases hole<;>simp [Q3,Zp,hi]
   | _=>simp [Q3,hi]))
  cases o with
  | var t c =>
   refine ⟨fun b=>by simp only [Qp,Xf,C2]; rw [h1.1],fun b o=>by simp only [Qp,Xf,C2]; rw [h1.1],fun ok w hp=>?_⟩
   obtain ⟨cs,hh,hc⟩:=hp
   exact ⟨cs,by rw [h1.1]; exact hh,Ak (fun i hi=>h i (by simp [Q3,hi])) hc⟩
  | row e t xs=>simp only [Qp,C2,h1.2]; exact U0.refl _
  | tail e t xs=>simp only [Qp,C2,h1.2]; exact U0.refl _
  | map k v xs=>simp only [Qp,C2,h1.1]; exact U0.refl _
  | mapT k v path e u xs hole =>
   cases hole with
   | none=>simp only [Qp,C2,h1.1,h1.2,A5]; exact U0.refl _
   | some q =>
    have h2:=(h q.2 (by simp [Q3])).2
    simp only [Qp,C2,h1.1,h1.2,A5,Q37,h2]; exact U0.refl _
  | mapE k v xs key j=>simp only [Qp,C2,h1.1,(h j (by simp [Q3])).1]; exact U0.refl _
  | mapO k9 xs9 hole =>
   have hv:A6 β' (hole.map fun q=>(q.1,g q.2))=A6 β hole:=by
    cases hole with
    | none=>rfl
    | some q=>simp only [A6,Option.map_some,(h q.2 (by simp [Q3,Zp])).1]
   simp only [Qp,C2,h1.1,hv]; exact U0.refl _
theorem Tj {l:List (Nat×Ob)} (h:∀i∈Q3 l,β' i=β i∧ρ' i=ρ i):V2 (Qc β ρ l) (Qc β' ρ' l):=by
 have:=Qa6 (g:=id) (β':=β') (ρ':=ρ') h
 have e:Zq id l=l:=by
  have hav:∀x:AV,Z5 id x=x:=by intro x; induction x<;>simp_all [Z5]
  have:∀q:Nat×Ob,(id q.1,C2 id q.2)=q:=by intro q; obtain ⟨i,o⟩:=q; cases o with
   | mapT k v path e u xs hole=>cases hole<;>simp [C2]
   | mapO k9 xs9 hole=>cases hole<;>simp [C2]
   | _=>simp [C2,hav]
  simp only [Zq]
  rw [List.map_congr_left (g:=fun q=>q) (fun q _=>this q)]
  simp
 rw [e] at this
 exact this
end
theorem Fy {c t:Nat} (hne:t≠c):∀M:List (Nat×Ob),Qb (J3 M t) c=Qb M c
 | []=>rfl
 | q::l=>by
  simp only [J3,Qb]
  cases hb:Nat.beq q.1 t with
  | true =>
   have h1:=Nat.eq_of_beq_eq_true hb
   cases hc:Nat.beq q.1 c with
   | true=>exact absurd (h1.symm.trans (Nat.eq_of_beq_eq_true hc)) hne
   | false=>rfl
  | false =>
   simp only [cond_false,Qb,Fy hne l]
theorem Ut:∀(ids:List Nat) (M:List (Nat×Ob)),((Je M ids).2++(Je M ids).1).Perm M
 | [],M=>by simp [Je]
 | t::ts,M=>by
  simp only [Je]
  split
  ·rename_i o ho
   obtain ⟨l1,l2,h1,_,h3⟩:=Jl ho
   have:=Ut ts (J3 M t)
   simp only [List.cons_append]
   refine (List.Perm.cons _ this).trans ?_
   rw [h3,h1]
   exact List.perm_middle.symm
  ·exact Ut ts M
theorem Al:∀{ids:List Nat} {M:List (Nat×Ob)} {c:Nat} {o:Ob},ids.Nodup→c∈ids→Qb M c=some o→(c,o)∈(Je M ids).2
 | t::ts,M,c,o,hn,hc,ho=>by
  have hn':=List.nodup_cons.1 hn
  simp only [Je]
  rcases List.mem_cons.1 hc with rfl | hc
  ·rw [ho]; exact .head _
  ·have hne:t≠c:=fun e=>hn'.1 (e▸hc)
   split
   ·exact .tail _ (Al hn'.2 hc (by rw [Fy hne]; exact ho))
   ·exact Al hn'.2 hc ho
theorem Am:∀{ids:List Nat} {M:List (Nat×Ob)},ids.Nodup→∀q∈(Je M ids).2,q.1∈ids∧Qb M q.1=some q.2
 | [],M,_,q,hq=>by simp [Je] at hq
 | t::ts,M,hn,q,hq=>by
  have hn':=List.nodup_cons.1 hn
  simp only [Je] at hq
  split at hq
  ·rename_i o ho
   rcases List.mem_cons.1 hq with rfl | hq
   ·exact ⟨.head _,ho⟩
   ·obtain ⟨h1,h2⟩:=Am hn'.2 q hq
    exact ⟨.tail _ h1,by rw [Fy (fun e=>hn'.1 (by rw [e]; exact h1))] at h2; exact h2⟩
  ·obtain ⟨h1,h2⟩:=Am hn'.2 q hq
   exact ⟨.tail _ h1,h2⟩
theorem Cw:∀{Γe:List (Nat×Sk)} {l:List DV},∀e∈(Gs Γe l).1,e.cs=[]
 | [],l,e,he=>by simp [Gs] at he
 | (t,s)::g,l,e,he=>by
  simp only [Gs] at he
  rcases List.mem_cons.1 he with rfl | he
  ·rfl
  ·exact Cw e he
theorem Et {ri:List (Nat×Nat)}:∀{Γm:List (Nat×SkO)} {id c:Nat},id∈Γm.map Prod.fst→Jo ri id=some c→c∈Yg ri Γm
 | (k,s)::l,id,c,h,hc=>by
  simp only [Yg]
  rcases List.mem_cons.1 h with e | h
  ·simp only at e; subst e
   rw [hc]; exact .head _
  ·split
   ·exact .tail _ (Et h hc)
   ·exact Et h hc
theorem Xx {ri:List (Nat×Nat)}:∀{Γm:List (Nat×SkO)} {c:Nat},c∈Yg ri Γm→∃id∈Γm.map Prod.fst,Jo ri id=some c
 | (k,s)::l,c,h=>by
  simp only [Yg] at h
  split at h
  ·rename_i x hx
   rcases List.mem_cons.1 h with rfl | h
   ·exact ⟨k,.head _,hx⟩
   ·obtain ⟨id,h1,h2⟩:=Xx h; exact ⟨id,.tail _ h1,h2⟩
  ·obtain ⟨id,h1,h2⟩:=Xx h; exact ⟨id,.tail _ h1,h2⟩
theorem W8 {ri:List (Nat×Nat)}:∀{Γm:List (Nat×SkO)} {cs:List Nat},Wc ri Γm cs=true→(Yg ri Γm).Nodup∧∀c∈Yg ri Γm,c∉cs
 | [],_,_=>⟨.nil,by simp [Yg]⟩
 | (id,s)::l,cs,h=>by
  simp only [Wc] at h
  simp only [Yg]
  split at h
  ·rename_i c hc
   simp only [Bool.and_eq_true] at h
   obtain ⟨h1,h2⟩:=W8 h.2
   refine ⟨List.nodup_cons.2 ⟨fun hm=>h2 c hm (.head _),h1⟩,fun x hx=>?_⟩
   rcases List.mem_cons.1 hx with rfl | hx
   ·intro hm
    have:=h.1
    rw [Zd.2 hm] at this
    cases this
   ·exact fun hm=>h2 x hx (.tail _ hm)
  ·exact W8 h
theorem Ty.cast_self (t:Ty) (x:t.De):Ty.cast t t x=some x:=by
 unfold Ty.cast
 rw [dif_pos (Ty.beq_refl t)]
theorem Fz {M:List (Nat×Ob)} {ri:List (Nat×Nat)} {pr:List Nat} {g:Nat→Nat} (hg:∀i c,Jo ri i=some c→g i=c):∀{sk:Sk} {x:AV} {l:List DV} (rest:List DV),V9 M ri pr sk x=some l→∃y,Hx sk (l++rest)=(y,rest)∧(Dr sk x=true→Z5 g y=x)
 | .d t,x,l,rest,h=>by
  simp only [V9] at h
  split at h
  ·rename_i z0 hz
   obtain ⟨_,h⟩:=bvT h
   simp only [Option.some.injEq] at h
   subst h
   refine ⟨.d t z0,rfl,fun hs=>?_⟩
   cases x<;>first | (cases hs; done) | skip
   rename_i t' x'
   simp only [asD] at hz
   obtain ⟨e,h2⟩:=Ty.cast_ok hz
   subst e; subst h2
   rfl
  ·cases h
 | .p id path,x,l,rest,h=>by
  cases x<;>simp only [V9] at h<;>first | (cases h; done) | skip
  rename_i c path'
  obtain ⟨hb,h⟩:=bvT h
  simp only [Bool.and_eq_true] at hb
  simp only [Option.some.injEq] at h
  subst h
  exact ⟨.p id path,rfl,fun _=>by simp only [Z5]; rw [hg _ _ (Cp hb.1),Cq hb.2]⟩
 | .s id,x,l,rest,h=>by
  cases x<;>simp only [V9] at h<;>first | (cases h; done) | skip
  ·rename_i c
   obtain ⟨hb,h⟩:=bvT h
   simp only [Bool.and_eq_true] at hb
   simp only [Option.some.injEq] at h
   subst h
   exact ⟨.s id,rfl,fun _=>by simp only [Z5]; rw [hg _ _ (Cp hb.1)]⟩
  ·obtain ⟨hb,h⟩:=bvT h
   simp only [Option.some.injEq] at h
   subst h
   exact ⟨.s id,rfl,fun hs=>by cases hs⟩
 | .m id,x,l,rest,h=>by
  cases x<;>simp only [V9] at h<;>first | (cases h; done) | skip
  rename_i c
  obtain ⟨hb,h⟩:=bvT h
  simp only [Option.some.injEq] at h
  subst h
  exact ⟨.m id,rfl,fun _=>by simp only [Z5]; rw [hg _ _ (Cp hb)]⟩
 | .ns,x,l,rest,h=>by
  cases x<;>simp only [V9] at h<;>first | (cases h; done) | skip
  simp only [Option.some.injEq] at h; subst h; exact ⟨_,rfl,fun _=>rfl⟩
 | .np,x,l,rest,h=>by
  cases x<;>simp only [V9] at h<;>first | (cases h; done) | skip
  simp only [Option.some.injEq] at h; subst h; exact ⟨_,rfl,fun _=>rfl⟩
 | .nm,x,l,rest,h=>by
  cases x<;>simp only [V9] at h<;>first | (cases h; done) | skip
  simp only [Option.some.injEq] at h; subst h; exact ⟨_,rfl,fun _=>rfl⟩
 | .nf,x,l,rest,h=>by
  cases x<;>simp only [V9] at h<;>first | (cases h; done) | skip
  simp only [Option.some.injEq] at h; subst h; exact ⟨_,rfl,fun _=>rfl⟩
 | .z,x,l,rest,h=>by
  cases x<;>simp only [V9] at h<;>first | (cases h; done) | skip
  simp only [Option.some.injEq] at h; subst h; exact ⟨_,rfl,fun _=>rfl⟩
 | .nil,x,l,rest,h=>by
  cases x<;>simp only [V9] at h<;>first | (cases h; done) | skip
  simp only [Option.some.injEq] at h; subst h; exact ⟨_,rfl,fun _=>rfl⟩
 | .f fn c,x,l,rest,h=>by
  cases x<;>simp only [V9] at h<;>first | (cases h; done) | skip
  rename_i fn' x'
  obtain ⟨hb,h⟩:=bvT h
  simp only [Bool.and_eq_true] at hb
  obtain ⟨y,h1,h2⟩:=Fz hg rest h
  refine ⟨.f fn y,by simp only [Hx,h1],fun hs=>?_⟩
  simp only [Z5]
  rw [h2 hs,Nat.eq_of_beq_eq_true hb.1]
 | .ag l',x,l,rest,h=>by
  simp only [V9] at h
  split at h
  ·rename_i y hy
   obtain ⟨z0,h1,h2⟩:=Fz hg rest h
   refine ⟨.ag z0,by simp only [Hx,h1],fun hs=>?_⟩
   cases x<;>first | (cases hs; done) | skip
   simp only [E5,Option.some.injEq] at hy
   subst hy
   simp only [Z5]
   rw [h2 hs]
  ·cases h
 | .cons a b,x,l,rest,h=>by
  cases x<;>simp only [V9] at h<;>first | (cases h; done) | skip
  split at h
  ·rename_i u v hu hv
   simp only [Option.some.injEq] at h
   subst h
   obtain ⟨y1,p1,p2⟩:=Fz hg (v++rest) hu
   obtain ⟨y2,q1,q2⟩:=Fz hg rest hv
   refine ⟨.cons y1 y2,by simp only [Hx,List.append_assoc,p1,q1],fun hs=>?_⟩
   simp only [Dr,Bool.and_eq_true] at hs
   simp only [Z5]
   rw [p2 hs.1,q2 hs.2]
  ·cases h
theorem Qpv {M:List (Nat×Ob)} {ri:List (Nat×Nat)} {pr:List Nat} {g:Nat→Nat} (hg:∀i c,Jo ri i=some c→g i=c) {s:SkO} {o:Option Ob} {l:List DV} (rest:List DV) (h:Hy M ri pr s o=some l):∃ob',Wo s (l++rest)=some (ob',rest)∧∀ob,o=some ob→Q39 s ob=true→C2 g ob'=ob:=by
 have cs:∀{t:Ty} {x:t.De},Ty.cast t t x=some x:=fun {t x}=>Ty.cast_self t x
 cases s with
 | var tid c =>
  cases o with
  | none=>cases h
  | some ob =>
   cases ob<;>simp only [Hy] at h<;>first | (cases h; done) | skip
   obtain ⟨hb,h'⟩:=bvT h
   obtain ⟨y,h1,h2⟩:=Fz hg rest h'
   refine ⟨.var tid y,by simp only [Wo,h1],fun ob he hs=>?_⟩
   injection he with he; subst he
   simp only [C2]
   rw [h2 hs,Nat.eq_of_beq_eq_true hb]
 | row e t =>
  cases o with
  | none =>
   simp only [Hy,Option.some.injEq] at h
   subst h
   exact ⟨.row e t [],by simp only [Wo,List.cons_append,List.nil_append,cs],fun ob he=>by cases he⟩
  | some ob =>
   cases ob<;>simp only [Hy] at h<;>first | (cases h; done) | skip
   rename_i e' t' xs
   obtain ⟨hb,h'⟩:=bvT h
   simp only [Bool.and_eq_true] at hb
   have e1:=Nat.eq_of_beq_eq_true hb.1
   have e2:=Ty.beq_eq hb.2
   clear h hb
   subst e1; subst e2
   injection h' with h'
   subst h'
   refine ⟨.row e t xs,by simp only [Wo,List.cons_append,List.nil_append,cs],fun ob he hs=>?_⟩
   injection he
 | tail e t =>
  cases o with
  | none =>
   simp only [Hy,Option.some.injEq] at h
   subst h
   exact ⟨.tail e t [],by simp only [Wo,List.cons_append,List.nil_append,cs],fun ob he=>by cases he⟩
  | some ob =>
   cases ob<;>simp only [Hy] at h<;>first | (cases h; done) | skip
   rename_i e' t' xs
   obtain ⟨hb,h'⟩:=bvT h
   simp only [Bool.and_eq_true] at hb
   have e1:=Nat.eq_of_beq_eq_true hb.1
   have e2:=Ty.beq_eq hb.2
   clear h hb
   subst e1; subst e2
   injection h' with h'
   subst h'
   refine ⟨.tail e t xs,by simp only [Wo,List.cons_append,List.nil_append,cs],fun ob he hs=>?_⟩
   injection he
 | map k u =>
  cases o with
  | none=>cases h
  | some ob =>
   cases ob<;>simp only [Hy] at h<;>first | (cases h; done) | skip
   rename_i k' u' xs
   obtain ⟨hb,h'⟩:=bvT h
   simp only [Bool.and_eq_true] at hb
   have e1:=Ty.beq_eq hb.1
   have e2:=Ty.beq_eq hb.2
   clear h hb
   subst e1; subst e2
   injection h' with h'
   subst h'
   refine ⟨.map k u xs,by simp only [Wo,List.cons_append,List.nil_append,cs],fun ob he hs=>?_⟩
   injection he
 | mapT k u path e t =>
  cases o with
  | none=>cases h
  | some ob =>
   cases ob<;>simp only [Hy] at h<;>first | (cases h; done) | skip
   rename_i k' u' path' e' t' xs hole
   obtain ⟨hb,h'⟩:=bvT h
   simp only [Bool.and_eq_true] at hb
   have e1:=Ty.beq_eq hb.1.1.1.1.1
   have e2:=Ty.beq_eq hb.1.1.1.1.2
   clear h
   subst e1; subst e2
   injection h' with h'
   subst h'
   exact ⟨.mapT k u path e t xs none,by simp only [Wo,List.cons_append,List.nil_append,cs],fun ob he hs=>by cases ob<;>cases hs⟩
 | mapO k =>
  cases o with
  | none=>cases h
  | some ob =>
   cases ob<;>simp only [Hy] at h<;>first | (cases h; done) | skip
   rename_i k' xs last
   obtain ⟨hb,h'⟩:=bvT h
   have e1:=Ty.beq_eq hb
   clear h hb
   subst e1
   injection h' with h'
   subst h'
   exact ⟨.mapO k xs none,by simp only [Wo,List.cons_append,List.nil_append,cs],fun ob he hs=>by cases ob<;>cases hs⟩
theorem Qc0 {ro:List Nat} {id:Nat} {s:SkO} {G:List (Nat×SkO)}:rdG ro ((id,s)::G)=bif J9 ro id then (id,s)::rdG ro G else rdG ro G:=by
 unfold rdG
 cases hm:J9 ro id<;>simp [List.filter_cons,hm]
theorem Qpw {ro:List Nat} {id:Nat} {s:Ob} {G:List (Nat×Ob)}:rdM ro ((id,s)::G)=bif J9 ro id then (id,s)::rdM ro G else rdM ro G:=by
 unfold rdM
 cases hm:J9 ro id<;>simp [List.filter_cons,hm]
theorem Tk {id:Nat} {ob:Ob}:Zc id (some ob)=some (id,ob):=rfl
theorem Qa7 {M:List (Nat×Ob)} {ri:List (Nat×Nat)} {pr ro:List Nat} {g:Nat→Nat} (hg:∀i c,Jo ri i=some c→g i=c):∀{Γm:List (Nat×SkO)} {l:List DV},E6 M [] ri pr Γm=some l→S7 ri M (rdG ro Γm)=true →
  Zq g (rdM ro (Ux Γm l))=(Yg ri (rdG ro Γm)).filterMap fun t=>Zc t (Qb M t)
 | [],l,h,hs=>by simp only [E6,Option.some.injEq] at h; subst h; rfl
 | (id,s)::G,l,h,hs=>by
  simp only [E6] at h
  split at h
  ·rename_i o ho
   split at h
   ·rename_i u v hu hv
    simp only [Option.some.injEq] at h
    subst h
    obtain ⟨ob',h1,h2⟩:=Qpv hg v hu
    simp only [Ux,h1]
    rw [Qpw,Qc0]
    rw [Qc0] at hs
    cases hm:J9 ro id with
    | false =>
     rw [hm] at hs
     exact Qa7 hg hv hs
    | true =>
     rw [hm] at hs
     simp only [cond_true,S7,Bool.and_eq_true] at hs ⊢
     obtain ⟨hs1,hs2⟩:=hs
     split at hs1
     ·rename_i c hc
      split at hs1
      ·rename_i ob hob
       have ho':o=some ob:=by
        simp only [Qin,hc,hob,Option.some.injEq] at ho
        exact ho.symm
       have ih:=Qa7 hg hv hs2
       unfold Zq at ih
       simp only [Zq,List.map_cons,Yg,hc,List.filterMap_cons,hob,Tk]
       rw [h2 ob ho' hs1,hg _ _ hc,ih]
      ·cases hs1
     ·cases hs1
   ·cases h
  ·cases h
theorem Ao {c:Nat}:∀{ts:List Nat} {M:List (Nat×Ob)},c∉ts→Qb (Je M ts).1 c=Qb M c
 | [],M,_=>rfl
 | t::ts,M,h=>by
  have h1:t≠c:=fun e=>h (e▸.head _)
  have h2:c∉ts:=fun hm=>h (.tail _ hm)
  simp only [Je]
  split
  ·rw [Ao h2,Fy h1]
  ·exact Ao h2
theorem Q5c {α β:Type} {f g:α→Option β}:∀{l:List α},(∀x∈l,f x=g x)→l.filterMap f=l.filterMap g
 | [],_=>rfl
 | x::l,h=>by
  simp only [List.filterMap_cons]
  rw [h x (.head _),Q5c fun y hy=>h y (.tail _ hy)]
theorem Fb:∀{ids:List Nat} {M:List (Nat×Ob)},ids.Nodup→(Je M ids).2=ids.filterMap fun t=>Zc t (Qb M t)
 | [],M,_=>rfl
 | t::ts,M,hn=>by
  have hn':=List.nodup_cons.1 hn
  simp only [Je]
  split
  ·rename_i o ho
   simp only [List.filterMap_cons,ho,Tk]
   rw [Fb hn'.2]
   refine congrArg _ (Q5c fun x hx=>?_)
   rw [Fy (c:=x) (t:=t) fun e=>hn'.1 (by rw [e]; exact hx)]
  ·rename_i ho
   simp only [List.filterMap_cons,ho,Zc]
   exact Fb hn'.2
theorem B5 {ri:List (Nat×Nat)}:∀{l:List (Nat×SkO)} {cs cs':List Nat},(∀x∈cs',x∈cs)→Wc ri l cs=true→Wc ri l cs'=true
 | [],cs,cs',_,_=>rfl
 | (id,s)::l,cs,cs',hc,h=>by
  simp only [Wc] at h ⊢
  split at h
  ·rename_i c hcc
   simp only [Bool.and_eq_true] at h ⊢
   refine ⟨?_,B5 (fun x hx=>?_) h.2⟩
   ·cases hm:J9 cs' c with
    | false=>rfl
    | true =>
     have:=h.1
     rw [Zd.2 (hc c (Zd.1 hm))] at this
     cases this
   ·rcases List.mem_cons.1 hx with rfl | hx
    ·exact .head _
    ·exact .tail _ (hc x hx)
  ·exact B5 hc h
theorem Kk {ri:List (Nat×Nat)} {p:Nat×SkO→Bool}:∀{l:List (Nat×SkO)} {cs:List Nat},Wc ri l cs=true→Wc ri (l.filter p) cs=true
 | [],cs,_=>rfl
 | (id,s)::l,cs,h=>by
  simp only [Wc] at h
  cases hp:p (id,s) with
  | true =>
   rw [List.filter_cons,if_pos hp]
   simp only [Wc]
   split at h
   ·rename_i c hcc
    simp only [Bool.and_eq_true] at h ⊢
    exact ⟨h.1,Kk h.2⟩
   ·exact Kk h
  | false =>
   rw [List.filter_cons,if_neg (by rw [hp]; simp)]
   split at h
   ·simp only [Bool.and_eq_true] at h
    exact Kk (B5 (fun x hx=>.tail _ hx) h.2)
   ·exact Kk h
theorem Pn:∀{l:List (Nat×Ob)} {i:Nat},i∈Q3 l↔∃q∈l,i∈Q3 [q]
 | [],i=>by simp [Q3]
 | q::l,i=>by
  have ih:=Pn (l:=l) (i:=i)
  have h:Q3 (q::l)=Q3 [q]++Q3 l:=by
   obtain ⟨k,o⟩:=q
   cases o with
   | mapT k1 v path e u xs hole=>cases hole<;>simp [Q3]
   | mapO k9 xs9 hole=>cases hole<;>simp [Q3,Zp]
   | _=>simp [Q3]
  rw [h,List.mem_append,ih]
  constructor
  ·rintro (h | ⟨q',h1,h2⟩)
   ·exact ⟨q,.head _,h⟩
   ·exact ⟨q',.tail _ h1,h2⟩
  ·rintro ⟨q',h1,h2⟩
   rcases List.mem_cons.1 h1 with rfl | h1
   ·exact .inl h2
   ·exact .inr ⟨q',h1,h2⟩
theorem Qlj {l m:List (Nat×Ob)} (h:∀q∈l,q∈m) {i:Nat} (hi:i∈Q3 l):i∈Q3 m:=let ⟨q,h1,h2⟩:=Pn.1 hi; Pn.2 ⟨q,h q h1,h2⟩
theorem Qlk {l m:List Nat} (h:Kv l m=true) {i:Nat} (hi:i∈m):i∈l:=by
 induction m with
 | nil=>cases hi
 | cons x m ih =>
  simp only [Kv,Bool.and_eq_true] at h
  rcases List.mem_cons.1 hi with rfl | hi
  ·exact Zd.1 h.1
  ·exact ih h.2 hi
theorem Q9r {M:List (Nat×Ob)} {c:Nat} (h:c∈Ym M):∃ob,Qb M c=some ob:=by
 induction M with
 | nil=>cases h
 | cons q l ih =>
  simp only [Qb]
  cases hb:Nat.beq q.1 c with
  | true=>exact ⟨_,rfl⟩
  | false =>
   simp only [cond_false]
   refine ih ?_
   rcases List.mem_cons.1 h with e | h
   ·rw [e,Nat.beq_refl] at hb; cases hb
   ·exact h
theorem Po {l m:List (Nat×Ob)} {c:Nat} (h:Qb l c=none):Qb (l++m) c=Qb m c:=by
 induction l with
 | nil=>rfl
 | cons q l ih =>
  simp only [Qb,List.cons_append] at h ⊢
  cases hb:Nat.beq q.1 c with
  | true=>rw [hb] at h; cases h
  | false=>rw [hb] at h; exact ih h
theorem Iy {ks:List Nat}:∀{M:List (Nat×Ob)},Ym (Va ks M)=Ym M
 | []=>rfl
 | (id,o)::l=>by
  cases o<;>simp only [Va,Ym,List.map_cons]<;>rw [show (Va ks l).map Prod.fst=l.map Prod.fst from Iy]
  cases (J9 ks id&&Nat.ble 1 _)<;>rfl
theorem Tl {ri:List (Nat×Nat)} {M:List (Nat×Ob)}:∀{l:List (Nat×SkO)},S7 ri M l=true→∀id∈l.map Prod.fst,∃cc,Jo ri id=some cc
 | (i,s)::l,h,id,hid=>by
  simp only [S7,Bool.and_eq_true] at h
  rcases List.mem_cons.1 hid with e | hid
  ·simp only at e; subst e
   cases hc:Jo ri id with
   | none=>rw [hc] at h; cases h.1
   | some cc=>exact ⟨cc,rfl⟩
  ·exact Tl h.2 id hid
def Sa (β:Nat→Nat) (ρ:Nat→Value):Nat×Ob→List Nat
 | (id,.var _ _)=>[β id]
 | (id,.map _ _ _)=>[β id]
 | (id,.mapT _ _ _ _ _ _ _)=>β id::(M9 (ρ id)).flatMap Qtf
 | (id,.mapO _ _ _)=>[β id]
 | (id,.mapE _ _ _ _ _)=>[β id]
 | (id,_)=>Qtf (ρ id)
theorem Qc1 {β:Nat→Nat} {ρ:Nat→Value} {q:Nat×Ob} {g:Nat}:g∈Sa β ρ q↔(Qp β ρ q.1 q.2).blks g:=by
 obtain ⟨id,o⟩:=q
 cases o with
 | var t c=>simp [Sa,Qp,Xf]
 | row e t xs=>simp only [Sa,Oe,Qp,ml]
 | tail e t xs=>simp only [Sa,Oe,Qp,Ui]
 | map k v xs=>simp [Sa,Qp,Hs]
 | mapT k v path e u xs hole=>simp only [Sa,Qp,Ae,List.mem_cons,List.mem_flatMap,Oe]
 | mapO k9 xs9 hole=>simp [Sa,Qp,Qon]
 | mapE k9 v9 xs9 key j=>simp [Sa,Qp,Qoo]
def Nq:Ob→Bool
 | .tail _ _ _=>true
 | .mapT _ _ _ _ _ _ _=>true
 | _=>false
theorem Qc2 {β:Nat→Nat} {ρ:Nat→Value} {id:Nat} {o:Ob} (h:Nq o=false) {b:Nat} (f:Nat) (hb:(Qp β ρ id o).blks b):(Qp β ρ id o).cov b f:=by
 cases o with
 | tail e t xs=>cases h
 | var t c=>exact hb
 | row e t xs=>exact hb
 | map k v xs=>exact hb
 | mapT k v path e u xs hole=>cases h
 | mapO k9 xs9 hole=>exact hb
 | mapE k9 v9 xs9 key j=>exact hb
theorem Ms {M F:List (Nat×Ob)} {ri:List (Nat×Nat)} {pr:List Nat}:∀{Γm:List (Nat×SkO)} {l:List DV},Ll Γm=true→E6 M F ri pr Γm=some l→∀q∈Γm,∀c ob,Jo ri q.1=some c→Qb M c=some ob→Nq ob=false
 | (id,s)::g,l,hn,h,q,hq,c,ob,hc,hob=>by
  simp only [E6] at h
  split at h
  ·rename_i o ho
   split at h
   ·rename_i u v hu hv
    have hn':Ll g=true:=by cases s<;>simp_all [Ll]
    rcases List.mem_cons.1 hq with rfl | hq
    ·simp only [Qin,hc,hob] at ho
     simp at ho; subst ho
     cases s<;>cases ob<;>simp_all [Hy,Ll,Nq]
    ·exact Ms hn' hv q hq c ob hc hob
   ·cases h
  ·cases h
section
variable {P:Program} {Y:TX} {X:Cx} {S:XS} {β β':Nat→Nat} {ρ ρ':Nat→Value} {a a':Act} {w w':World} {n:Nat}
variable {ops:Array Oper} {Q:Exit→Act→World→Prop} {rest:List Oper} {R:Type} {k:XS→Option R} {r:R}
theorem Qiv (h:Rel X β ρ S.flat a w):∀{xs:List Operand} {i:Nat} {es:List En} (pre:List Value),pre.length=i→Qcj S xs i=some es →
  es.length=xs.length∧∀e∈es,(enD β ρ ⟨(pre++xs.map a.eval).toArray,[]⟩ e).p (okR X β ρ S.flat.mem w) w
 | [],i,es,pre,_,he=>by simp [Qcj] at he; subst he; exact ⟨rfl,by simp⟩
 | x::xs,i,es,pre,hi,he=>by
  simp only [Qcj] at he
  split at he
  ·rename_i v r hv hr
   obtain ⟨hbi,he⟩:=bvT he
   simp at he; subst he
   obtain ⟨cs,h1,h2⟩:=h.ev (Qa a) hv
   obtain ⟨h3,h4⟩:=Qiv h (xs:=xs) (i:=i+1) (pre++[a.eval x]) (by simp [hi]) hr
   refine ⟨by simp [h3],fun e hm=>?_⟩
   have hl:pre++[a.eval x]++xs.map a.eval=pre++(x::xs).map a.eval:=by simp
   rw [hl] at h4
   rcases List.mem_cons.1 hm with rfl | hm
   ·refine ⟨fun _=>⟨cs,?_,h2⟩,.inl (Qa _)⟩
    rw [Xh hbi]
    simp only [List.getElem?_toArray]
    rw [List.getElem?_append_right (by omega),←hi]
    simp [h1]
   ·exact h4 e hm
  ·cases he
theorem Qiw {S:XS}:∀{xs:List Operand} {i:Nat} {es:List En},Qcj S xs i=some es→∀e∈es,e.cs=[]
 | [],i,es,he=>by simp [Qcj] at he; subst he; simp
 | x::xs,i,es,he=>by
  simp only [Qcj] at he
  split at he
  ·rename_i v r hv hr
   obtain ⟨_,he⟩:=bvT he
   simp at he; subst he
   intro e hm
   rcases List.mem_cons.1 hm with rfl | hm
   ·rfl
   ·exact Qiw hr e hm
  ·cases he
theorem Qix {ok:Ok} {w:World}:∀{x:AV} {i:Nat} {cs:List En} {vs:List Value} (pre:List Value),pre.length=i→Qo5 x i=some cs→cr β ρ ok w true x vs →
  cs.length=vs.length∧(∀e∈cs,e.cs=[])∧∀e∈cs,(enD β ρ ⟨(pre++vs).toArray,[]⟩ e).p ok w
 | .nil,i,cs,vs,pre,_,he,h=>by
  simp [Qo5] at he; subst he
  have:vs=[]:=h
  subst this
  exact ⟨rfl,by simp,by simp⟩
 | .cons y r,i,cs,vs,pre,hi,he,h=>by
  simp only [Qo5] at he
  split at he
  ·rename_i l hl
   obtain ⟨hbi,he⟩:=bvT he
   simp at he; subst he
   obtain ⟨c1,vs',rfl,h1,h2⟩:=h
   obtain ⟨h3,h4,h5⟩:=Qix (pre++[y.val c1]) (by simp [hi]) hl h2
   refine ⟨by simp [h3],fun e hm=>?_,fun e hm=>?_⟩
   ·rcases List.mem_cons.1 hm with rfl | hm
    ·rfl
    ·exact h4 e hm
   ·rcases List.mem_cons.1 hm with rfl | hm
    ·refine ⟨fun _=>⟨c1,?_,h1⟩,.inl (Qa _)⟩
     rw [Xh hbi]
     simp only [List.getElem?_toArray]
     rw [List.getElem?_append_right (by omega),←hi]
     simp
    ·have:=h5 e hm
     rwa [show pre++[y.val c1]++vs'=pre++y.val c1::vs' by simp] at this
  ·cases he
theorem Q5d {ok:Ok} {w:World} {l post:List Value} {e:En} (hc:e.cs=[]) (h:(enD β ρ ⟨l.toArray,[]⟩ e).p ok w):(enD β ρ ⟨(l++post).toArray,[]⟩ e).p ok w:=by
 obtain ⟨cs,h1,h2⟩:=h.1 (by rw [hc]; exact Qa _)
 refine ⟨fun _=>⟨cs,?_,h2⟩,.inl (by rw [hc]; exact Qa _)⟩
 unfold rd at h1 ⊢
 cases hb:Nat.blt e.t 100000 with
 | false=>rw [hb] at h1; exact h1
 | true =>
  rw [hb] at h1
  simp only [cond_true,List.getElem?_toArray] at h1 ⊢
  have hlt:=(List.getElem?_eq_some_iff.1 h1).1
  rw [List.getElem?_append_left hlt]; exact h1
theorem Qc3 {ri:List (Nat×Nat)} {d:Nat} {Γk:List Nat} {S:XS} {M:List (Nat×Ob)}:∀{l:List Nat},Qip ri d Γk S M l=true→∀j∈l,(∃c,Jo ri j=some c∧Jt ri d j=c∧j∈Γk) ∨
  (Jo ri j=none∧Qv (Jt ri d j) M=true∧Qv (Jt ri d j) S.fixM=true∧B1 (Jt ri d j) S.fix=true∧B1 (Jt ri d j) S.env=true∧J9 S.prot (Jt ri d j)=false∧j∉Γk)
 | i::l,h,j,hj=>by
  simp only [Qip,Bool.and_eq_true] at h
  rcases List.mem_cons.1 hj with rfl | hj
  ·have h1:=h.1
   cases hl:Jo ri j with
   | some c =>
    rw [hl] at h1
    simp only [Zk,cond_true] at h1
    exact .inl ⟨c,rfl,by simp only [Jt,hl],Zd.1 h1⟩
   | none =>
    rw [hl] at h1
    simp only [Zk,cond_false,Bool.and_eq_true] at h1
    obtain ⟨⟨⟨⟨⟨a1,a2⟩,a3⟩,a4⟩,a5⟩,a6⟩:=h1
    refine .inr ⟨rfl,a1,a2,a3,a4,by simpa using a5,fun hm=>?_⟩
    rw [Zd.2 hm] at a6; cases a6
  ·exact Qc3 h.2 j hj
theorem Xy {ks:List Nat}:∀{l:List Nat},Kv ks l=true→∀i∈l,i∈ks
 | x::l,h,i,hi=>by
  simp only [Kv,Bool.and_eq_true] at h
  rcases List.mem_cons.1 hi with rfl | hi
  ·exact Zd.1 h.1
  ·exact Xy h.2 i hi
theorem Hh:∀{l:List Nat},Wp l=true→l.Nodup
 | [],_=>.nil
 | x::l,h=>by
  simp only [Wp,Bool.and_eq_true] at h
  refine List.nodup_cons.2 ⟨fun hm=>?_,Hh h.2⟩
  have:=h.1
  rw [Zd.2 hm] at this; cases this
def backB (g:Nat→Nat) (ks:List Nat) (β2 β:Nat→Nat):Nat→Nat:=fun i=>match ks.find? fun j=>g j==i with
 | some j=>β2 j
 | none=>β i
def H5 (g:Nat→Nat) (ks:List Nat) (ρ2 ρ:Nat→Value):Nat→Value:=fun i=>match ks.find? fun j=>g j==i with
 | some j=>ρ2 j
 | none=>ρ i
theorem Qc4 {g:Nat→Nat}:∀{ks:List Nat},(ks.map g).Nodup→∀j∈ks,(ks.find? fun i=>g i==g j)=some j
 | x::l,hn,j,hj=>by
  have hn':=List.nodup_cons.1 (by simpa using hn:(g x::l.map g).Nodup)
  rcases List.mem_cons.1 hj with rfl | hj
  ·simp
  ·have hne:g x≠g j:=fun e=>hn'.1 (by rw [e]; exact List.mem_map.2 ⟨j,hj,rfl⟩)
   have:(g x==g j)=false:=by simpa using hne
   simp only [List.find?_cons,this]
   exact Qc4 hn'.2 j hj
theorem Qc5 {l:List En} {e:En} (he:e∈l) {i:Nat} (hi:i∈Q2 e.av):i∈Eh l:=by
 induction l with
 | nil=>cases he
 | cons x l ih =>
  simp only [Eh,List.mem_append]
  rcases List.mem_cons.1 he with rfl | he
  ·exact .inl hi
  ·exact .inr (ih he)
theorem H6 {d:Nat}:∀{x:AV},V1 d x=true→d∉Q2 x
 | .p id _,h=>by intro hm; have hm:d=id:=(by simpa [Q2] using hm); subst hm; simp [V1,Nat.beq_refl] at h
 | .e id _,h=>by intro hm; have hm:d=id:=(by simpa [Q2] using hm); subst hm; simp [V1,Nat.beq_refl] at h
 | .s id,h=>by intro hm; have hm:d=id:=(by simpa [Q2] using hm); subst hm; simp [V1,Nat.beq_refl] at h
 | .m id,h=>by intro hm; have hm:d=id:=(by simpa [Q2] using hm); subst hm; simp [V1,Nat.beq_refl] at h
 | .b id,h=>by intro hm; have hm:d=id:=(by simpa [Q2] using hm); subst hm; simp [V1,Nat.beq_refl] at h
 | .w id _ _,h=>by intro hm; have hm:d=id:=(by simpa [Q2] using hm); subst hm; simp [V1,Nat.beq_refl] at h
 | .f _ c,h=>by simp only [V1] at h; simpa [Q2] using H6 h
 | .ag l,h=>by simp only [V1] at h; simpa [Q2] using H6 h
 | .tp l,h=>by simp only [V1] at h; simpa [Q2] using H6 h
 | .cons x r,h=>by
  simp only [V1,Bool.and_eq_true] at h
  simp only [Q2,List.mem_append,not_or]
  exact ⟨H6 h.1,H6 h.2⟩
 | .d _ _,_=>by simp [Q2]
 | .a _ _,_=>by simp [Q2]
 | .z,_=>by simp [Q2]
 | .ns,_=>by simp [Q2]
 | .np,_=>by simp [Q2]
 | .nm,_=>by simp [Q2]
 | .nf,_=>by simp [Q2]
 | .nil,_=>by simp [Q2]
theorem Du {d:Nat}:∀{M:List (Nat×Ob)},Qv d M=true→d∉Q3 M
 | [],_=>by simp [Q3]
 | (k,o)::l,h=>by
  have hq:=U8 h (k,o) (.head _)
  have hl:Qv d l=true:=by
   cases o with
   | mapT k1 v path e u xs hole=>cases hole<;>simp only [Qv,Bool.and_eq_true] at h<;>exact h.2
   | mapO k9 xs9 hole=>cases hole<;>simp only [Qv,Mj,Bool.and_true,Bool.and_eq_true] at h<;>exact h.2
   | _=>simp only [Qv,Bool.and_eq_true] at h; exact h.2
  have ih:=Du hl
  cases o with
  | var t c =>
   have:=H6 hq.2
   simp only [Q3,List.mem_cons,List.mem_append,not_or]
   exact ⟨fun e=>hq.1 e.symm,this,ih⟩
  | mapT k1 v path e u xs hole =>
   cases hole with
   | none =>
    simp only [Q3,List.mem_cons,not_or]
    exact ⟨fun e=>hq.1 e.symm,ih⟩
   | some q =>
    simp only [Q3,List.mem_cons,not_or]
    exact ⟨fun e=>hq.1 e.symm,fun e=>hq.2 e.symm,ih⟩
  | mapO k9 xs9 hole =>
   cases hole with
   | none =>
    simp only [Q3,Zp,List.nil_append,List.cons_append,List.mem_cons,not_or]
    exact ⟨fun e=>hq.1 e.symm,ih⟩
   | some q =>
    simp only [Q3,Zp,List.nil_append,List.cons_append,List.mem_cons,not_or]
    exact ⟨fun e=>hq.1 e.symm,fun e=>hq.2 e.symm,ih⟩
  | mapE k1 v xs key j =>
   simp only [Q3,List.mem_cons,not_or]
   exact ⟨fun e=>hq.1 e.symm,fun e=>hq.2 e.symm,ih⟩
  | _ =>
   simp only [Q3,List.mem_cons,not_or]
   exact ⟨fun e=>hq.1 e.symm,ih⟩
theorem Qc6 {β:Nat→Nat} {ρ:Nat→Value} {ok:Ok} {w:World}:∀{es:List En} {vs:List Value} {i:Nat},(∀(j:Nat) e,es[j]?=some e→∃cs,vs[j]?=some (e.av.val cs)∧cr β ρ ok w false e.av cs)→vs.length=es.length→cr β ρ ok w true (S8 es) vs
 | [],vs,i,_,hl=>List.eq_nil_of_length_eq_zero (by simpa using hl)
 | e::es,[],i,_,hl=>by simp at hl
 | e::es,v::vs,i,h,hl=>by
  obtain ⟨cs,h1,h2⟩:=h 0 e rfl
  have h1':v=e.av.val cs:=by simpa using h1
  exact ⟨cs,vs,by rw [h1'],h2,Qc6 (i:=i) (fun j e' he=>by simpa using h (j+1) e' (by simpa using he)) (by simpa using hl)⟩
theorem Pp:∀(es:List En),Q2 (S8 es)=Eh es
 | []=>rfl
 | e::es=>by simp only [S8,Q2,Eh,Pp es]
theorem Tm (es:List En):∀i∈Q2 (Es es),i∈Eh es:=by
 intro i hi
 unfold Es at hi
 split at hi
 ·simpa [Eh] using hi
 ·simpa [Q2,Pp] using hi
theorem Mt (hX:X.n=n) (hr:X.res=[]) (h:Rel X β ρ S.flat a w) {o:Oper} (hw:Region.wanted o (yielded ops a.tmps)=true) {c:Con} (hc:Qi P Y.gl c) (hG:Vf Y.gl (okN X) X.w) (hrun:Runs P c.f) (hs:Zb n c o S k=some r) (H:KOk P ops Q rest X S β ρ k r) :
  wpList P ops Q (o::rest) a w:=by
 unfold Zb at hs
 split at hs
 ·rename_i x0 xs ts d hop hd
  split at hs
  ·rename_i f caps hx0
   have hb:=(bvT hs).1
   replace hs:=(bvT hs).2
   simp only [Bool.and_eq_true] at hb
   have hf:=Nat.eq_of_beq_eq_true hb.1
   obtain ⟨hd1,hd2⟩:=J7 hb.2 hX hr
   split at hs
   ·rename_i es0 cs0 hes0 hcs0
    obtain ⟨cf,hf1,vc,hf2,hf3⟩:=h.ev (Qa a) hx0
    subst hf2
    replace hf1:a.eval x0=.func (.func f) #[] vc.toArray:=hf1
    obtain ⟨el0,hE00⟩:=Qiv h [] rfl hes0
    simp only [List.nil_append] at hE00
    obtain ⟨el1,_,hE01⟩:=Qix (xs.map a.eval) (by simp) hcs0 hf3
    have el:(es0++cs0).length=(xs.map a.eval++vc).length:=by simp [el0,el1]
    have hE0:∀e∈es0++cs0,(enD β ρ ⟨(xs.map a.eval++vc).toArray,[]⟩ e).p (okR X β ρ S.flat.mem w) w:=by
     intro e he
     rcases List.mem_append.1 he with he | he
     ·exact Q5d (Qiw hes0 e he) (hE00 e he)
     ·exact hE01 e he
    generalize es0++cs0=es at *
    generalize hri:Q38 c.Γ ⟨es,S.mem++S.fixM⟩=ri at hs
    unfold Zb.callE at hs
    split at hs
    ·rename_i x hx
     have hb2:=(bvT hs).1
     replace hs:=(bvT hs).2
     simp only [Bool.and_eq_true] at hb2
     obtain ⟨⟨⟨hb2n,hb2l⟩,hb2m⟩,hb2s⟩:=hb2
     have hlen:=Nat.eq_of_beq_eq_true hb2l
     obtain ⟨y,hy,hs⟩:=Yh hs
     unfold Zb.callR at hs
     have hb3:=(bvT hs).1
     replace hs:=(bvT hs).2
     simp only [Bool.and_eq_true] at hb3
     obtain ⟨⟨⟨n1,n2⟩,n3⟩,n4⟩:=hb3
     have h1:Rel X β ρ ⟨S.env++S.fix,frz c.Γ ri es S.mem++S.fixM⟩ a w:=by
      have:=Rel.freeze S.mem (l0:=[]) (F:=S.fixM) (ks:=Qo2 es c.Γ.env++Qaq S.mem ri c.Γ.mem) h
      simp only [List.nil_append] at this
      exact this
     have hM:∀id o,Qb ((frz c.Γ ri es S.mem++S.fixM)++[]) id=some o→(Qp β ρ id o).p (okR X β ρ (frz c.Γ ri es S.mem++S.fixM) w) w:=fun id o ho=>h1.mm id o (by rw [List.append_nil] at ho; exact ho)
     unfold Qkx at hx
     obtain ⟨hbx,hx⟩:=bvT hx
     simp only [Bool.and_eq_true] at hbx
     obtain ⟨⟨⟨b1,b2⟩,b3⟩,b4⟩:=hbx
     split at hx
     ·rename_i u v hu hv
      have hxl:=Pc hx
      have hokk:∀b f,okR X β ρ S.flat.mem w b f→okR X β ρ (frz c.Γ ri es S.mem++S.fixM) w b f:=by
       rintro b f ⟨o1,o2,o3,o4⟩
       refine ⟨o1,o2,o3,fun t' ht' hcv=>?_⟩
       obtain ⟨q,hq,rfl⟩:=List.mem_map.1 ht'
       have key:∀{l:List (Nat×Ob)} {ks:List Nat} {q:Nat×Ob},q∈Va ks l→∃o',(q.1,o')∈l∧∀b f,(Qp β ρ q.1 q.2).cov b f→(Qp β ρ q.1 o').cov b f:=by
        intro l
        induction l with
        | nil=>intro ks q hq; cases hq
        | cons p l ih =>
         intro ks q hq
         obtain ⟨id,ob⟩:=p
         have other:q∈Va ks l→∃o',(q.1,o')∈(id,ob)::l∧∀b f,(Qp β ρ q.1 q.2).cov b f→(Qp β ρ q.1 o').cov b f:=fun hq=>let ⟨o',p1,p2⟩:=ih hq; ⟨o',.tail _ p1,p2⟩
         cases ob with
         | row e t xs =>
          simp only [Va] at hq
          rcases List.mem_cons.1 hq with e' | hq
          ·cases hbb:(J9 ks id&&Nat.ble 1 t.size) with
           | true =>
            rw [hbb] at e'; subst e'
            exact ⟨.row e t xs,.head _,fun b f hcv=>hcv.1⟩
           | false =>
            rw [hbb] at e'; subst e'
            exact ⟨.row e t xs,.head _,fun b f hcv=>hcv⟩
          ·exact other hq
         | var t' c' =>
          simp only [Va] at hq
          rcases List.mem_cons.1 hq with e' | hq
          ·subst e'; exact ⟨_,.head _,fun b f hcv=>hcv⟩
          ·exact other hq
         | tail e t xs =>
          simp only [Va] at hq
          rcases List.mem_cons.1 hq with e' | hq
          ·subst e'; exact ⟨_,.head _,fun b f hcv=>hcv⟩
          ·exact other hq
         | map k' v' xs =>
          simp only [Va] at hq
          rcases List.mem_cons.1 hq with e' | hq
          ·subst e'; exact ⟨_,.head _,fun b f hcv=>hcv⟩
          ·exact other hq
         | mapE k' v' xs key j =>
          simp only [Va] at hq
          rcases List.mem_cons.1 hq with e' | hq
          ·subst e'; exact ⟨_,.head _,fun b f hcv=>hcv⟩
          ·exact other hq
         | mapT k' v' path e u xs hole =>
          simp only [Va] at hq
          rcases List.mem_cons.1 hq with e' | hq
          ·subst e'; exact ⟨_,.head _,fun b f hcv=>hcv⟩
          ·exact other hq
         | mapO k9 xs9 hole =>
          simp only [Va] at hq
          rcases List.mem_cons.1 hq with e' | hq
          ·subst e'; exact ⟨_,.head _,fun b f hcv=>hcv⟩
          ·exact other hq
       rcases List.mem_append.1 hq with hq | hq
       ·obtain ⟨o',p1,p2⟩:=key hq
        exact o4 _ (List.mem_map.2 ⟨(q.1,o'),List.mem_append_left _ p1,rfl⟩) (p2 b f hcv)
       ·exact o4 _ (List.mem_map.2 ⟨q,List.mem_append_right _ hq,rfl⟩) hcv
      obtain ⟨es',e1,e2⟩:=Cs hM (fun e he=>(enD β ρ _ e).weak (hE0 e he) hokk) v hu
      obtain ⟨m1,m2⟩:=Ln hM b3 hv
      have henc:enc c.Γ x=⟨es',Ux c.Γ.mem v⟩:=by unfold enc; rw [hxl,e1]
      have hkind:=Ms hb2n hv
      obtain ⟨ln1,_⟩:=W8 (Kk (p:=fun q=>!J9 c.ro q.1) b1)
      obtain ⟨ln2,_⟩:=W8 (Kk (p:=fun q=>J9 c.ro q.1) b1)
      have hroS:=Qa7 (g:=Jt ri d) (ro:=c.ro) (fun i cc hcc=>by simp only [Jt,hcc]) hv hb2s
      have hkM:∀cc∈Ym S.mem,∃ob,Qb (frz c.Γ ri es S.mem) cc=some ob:=fun cc hcc=>Q9r (by unfold frz; rw [Iy]; exact hcc)
      generalize hM0:frz c.Γ ri es S.mem=M0 at *
      have hwk:∀(p:Nat×SkO→Bool) id,id∈(c.Γ.mem.filter p).map Prod.fst→id∈c.Γ.mem.map Prod.fst:=fun p id hid=>by
       obtain ⟨q,hq,rfl⟩:=List.mem_map.1 hid
       exact List.mem_map.2 ⟨q,(List.mem_filter.1 hq).1,rfl⟩
      have hdisj:∀cc∈Yg ri (rdG c.ro c.Γ.mem),cc∉Yg ri (wrG c.ro c.Γ.mem):=fun cc h1 h2=>by
       obtain ⟨i1,p1,p2⟩:=Xx h1
       obtain ⟨i2,r1,r2⟩:=Xx h2
       obtain ⟨q1,s1,rfl⟩:=List.mem_map.1 p1
       obtain ⟨q2,s2,rfl⟩:=List.mem_map.1 r1
       have t1:=(List.mem_filter.1 s1).2
       have t2:=(List.mem_filter.1 s2).2
       have k1:q1.1∈(Ux c.Γ.mem v).map Prod.fst:=by rw [m1]; exact List.mem_map.2 ⟨_,(List.mem_filter.1 s1).1,rfl⟩
       have k2:q2.1∈(Ux c.Γ.mem v).map Prod.fst:=by rw [m1]; exact List.mem_map.2 ⟨_,(List.mem_filter.1 s2).1,rfl⟩
       obtain ⟨e1,f1,g1⟩:=List.mem_map.1 k1
       obtain ⟨e2,f2,g2⟩:=List.mem_map.1 k2
       obtain ⟨pw,_⟩:=Fw b1 m1
       have hne:q1.1≠q2.1:=fun e=>by rw [e] at t1; rw [t1] at t2; cases t2
       have key:∀{l:List (Nat×Ob)},(l.Pairwise fun q q'=>∀c c',Jo ri q.1=some c→Jo ri q'.1=some c'→c≠c')→e1∈l→e2∈l→False:=by
        intro l hl
        induction l with
        | nil=>intro h; cases h
        | cons z l ih =>
         have hl':=List.pairwise_cons.1 hl
         intro h1 h2
         rcases List.mem_cons.1 h1 with h1 | h1
         ·rcases List.mem_cons.1 h2 with h2 | h2
          ·exact hne (by rw [←g1,←g2,h1,h2])
          ·exact hl'.1 e2 h2 cc cc (by rw [←h1,g1]; exact p2) (by rw [g2]; exact r2) rfl
         ·rcases List.mem_cons.1 h2 with h2 | h2
          ·exact hl'.1 e1 h1 cc cc (by rw [←h2,g2]; exact r2) (by rw [g1]; exact p2) rfl
          ·exact ih hl'.2 h1 h2
       exact key pw f1 f2
      have hp1:=Ut (Yg ri (wrG c.ro c.Γ.mem)) M0
      have hp2:=Ut (Yg ri (rdG c.ro c.Γ.mem)) ((Je M0 (Yg ri (wrG c.ro c.Γ.mem))).1++S.fixM)
      have hlkR:∀cc∈Yg ri (rdG c.ro c.Γ.mem),Qb ((Je M0 (Yg ri (wrG c.ro c.Γ.mem))).1++S.fixM) cc=Qb (M0++S.fixM) cc:=fun cc hcc=>by
       have e:=Ao (M:=M0) (hdisj cc hcc)
       cases hl:Qb M0 cc with
       | none=>rw [Po hl,Po (e.trans hl)]
       | some ob=>rw [Q0 hl,Q0 (e.trans hl)]
      have hlkN:∀cc∈Yg ri (wrG c.ro c.Γ.mem),∀ob,Qb (M0++S.fixM) cc=some ob→Qb M0 cc=some ob:=fun cc hcc ob hob=>by
       obtain ⟨ob',hob'⟩:=hkM cc (Qlk hb2m hcc)
       rw [Q0 hob'] at hob
       rw [hob',hob]
      have hsR:=Fb (M:=(Je M0 (Yg ri (wrG c.ro c.Γ.mem))).1++S.fixM) ln2
      have hroE:Zq (Jt ri d) (rdM c.ro (Ux c.Γ.mem v))=(Je ((Je M0 (Yg ri (wrG c.ro c.Γ.mem))).1++S.fixM) (Yg ri (rdG c.ro c.Γ.mem))).2:=by
       refine hroS.trans ?_
       refine (Q5c fun x hx=>?_).trans hsR.symm
       rw [hlkR x hx]
      obtain ⟨Ml,hMl0⟩:∃Ml,Ml=(Je M0 (Yg ri (wrG c.ro c.Γ.mem))).2++(Je ((Je M0 (Yg ri (wrG c.ro c.Γ.mem))).1++S.fixM) (Yg ri (rdG c.ro c.Γ.mem))).2:=⟨_,rfl⟩
      have hF1:∀q∈Ml,∃id∈c.Γ.mem.map Prod.fst,Jo ri id=some q.1∧Qb (M0++S.fixM) q.1=some q.2:=fun q hq=>by
       rw [hMl0] at hq
       rcases List.mem_append.1 hq with hq | hq
       ·obtain ⟨p1,p2⟩:=Am ln1 q hq
        obtain ⟨id,p3,p4⟩:=Xx p1
        exact ⟨id,hwk _ id p3,p4,Q0 p2⟩
       ·obtain ⟨p1,p2⟩:=Am ln2 q hq
        obtain ⟨id,p3,p4⟩:=Xx p1
        exact ⟨id,hwk _ id p3,p4,by rw [←hlkR _ p1]; exact p2⟩
      have hMl:∀id∈c.Γ.mem.map Prod.fst,∀cc ob,Jo ri id=some cc→Qb (M0++S.fixM) cc=some ob→(cc,ob)∈Ml:=by
       intro id hid cc ob e3 e4
       rw [hMl0]
       obtain ⟨q,hq,rfl⟩:=List.mem_map.1 hid
       cases hm:J9 c.ro q.1 with
       | true =>
        have hin:cc∈Yg ri (rdG c.ro c.Γ.mem):=Et (List.mem_map.2 ⟨q,List.mem_filter.2 ⟨hq,hm⟩,rfl⟩) e3
        exact List.mem_append_right _ (Al ln2 hin (by rw [hlkR _ hin]; exact e4))
       | false =>
        have hin:cc∈Yg ri (wrG c.ro c.Γ.mem):=Et (List.mem_map.2 ⟨q,List.mem_filter.2 ⟨hq,by rw [hm]; rfl⟩,rfl⟩) e3
        exact List.mem_append_left _ (Al ln1 hin (hlkN _ hin _ e4))
      generalize hMn0:(Je M0 (Yg ri (wrG c.ro c.Γ.mem))).2=Mn at *
      generalize hMr0:(Je M0 (Yg ri (wrG c.ro c.Γ.mem))).1=Mr0 at *
      generalize hMo0:(Je (Mr0++S.fixM) (Yg ri (rdG c.ro c.Γ.mem))).2=Mo at *
      generalize hMr1:(Je (Mr0++S.fixM) (Yg ri (rdG c.ro c.Γ.mem))).1=Mr at *
      have hperm:(Ml++Mr).Perm (M0++S.fixM):=by
       rw [hMl0,List.append_assoc]
       refine (List.Perm.append_left Mn hp2).trans ?_
       rw [←List.append_assoc]
       exact hp1.append_right _
      have h2:Sb (fun _=>0) X [] ((S.env++S.fix).map (enD β ρ a)) [] (Qc β ρ Ml++Qc β ρ Mr) a w:=by
       refine Sb.perm h1 ?_
       rw [←List.map_append]
       exact List.Perm.map _ hperm.symm
      have hok2:∀b f,okR X β ρ (M0++S.fixM) w b f→Q5 X.ok X.w.heap.size (fun _=>0) [] (Qc β ρ Ml++Qc β ρ Mr) w b f:=by
       rintro b f ⟨o1,o2,o3,o4⟩
       refine ⟨o1,o2,o3,fun t' ht'=>?_⟩
       refine o4 t' ?_
       have hp2:=hperm.symm.map fun q=>Qp β ρ q.1 q.2
       exact hp2.mem_iff.2 (by rw [List.map_append]; exact ht')
      have hmk:∀q∈Ux c.Γ.mem v,q.1∈c.Γ.mem.map Prod.fst:=by
       intro q hq
       rw [←m1]
       exact List.mem_map.2 ⟨q,hq,rfl⟩
      have hval:∀q∈Ux c.Γ.mem v,(∃cc ob,Jo ri q.1=some cc∧(cc,ob)∈Ml∧Nq ob=false∧(∀g,(Qp (Xd ri β) (K3 ri [] ρ) q.1 q.2).blks g→(Qp β ρ cc ob).blks g))∨(∀g,¬ (Qp (Xd ri β) (K3 ri [] ρ) q.1 q.2).blks g):=by
       intro q hq
       rcases m2 q hq with ⟨cc,ob,e3,e4,e5,_⟩ | ⟨_,e5,_⟩
       ·have hid:=hmk q hq
        obtain ⟨q',hq',he'⟩:=List.mem_map.1 hid
        exact .inl ⟨cc,ob,e3,hMl _ hid _ _ e3 e4,hkind q' hq' cc ob (by rw [he']; exact e3) e4,e5⟩
       ·exact .inr e5
      have hLm:∀g,g∈(Ux c.Γ.mem v).flatMap (Sa (Xd ri β) (K3 ri [] ρ))↔∃q∈Ux c.Γ.mem v,(Qp (Xd ri β) (K3 ri [] ρ) q.1 q.2).blks g:=by
       intro g
       rw [List.mem_flatMap]
       exact ⟨fun ⟨q,hq,hg⟩=>⟨q,hq,Qc1.1 hg⟩,fun ⟨q,hq,hg⟩=>⟨q,hq,Qc1.2 hg⟩⟩
      generalize hL:(Ux c.Γ.mem v).flatMap (Sa (Xd ri β) (K3 ri [] ρ))=L at hLm
      have hLends:Ma (Qc (Xd ri β) (K3 ri [] ρ) (enc c.Γ x).mem) L (Q5 X.ok X.w.heap.size (fun _=>0) [] (Qc β ρ Ml++Qc β ρ Mr) w) w:=by
       rw [henc]
       refine ⟨fun t ht=>?_,?_,fun g hg=>?_⟩
       ·obtain ⟨q,hq,rfl⟩:=List.mem_map.1 ht
        refine ⟨?_,fun g hg=>(hLm g).2 ⟨q,hq,hg⟩,fun g f hg hok=>?_⟩
        ·rcases m2 q hq with ⟨_,_,_,_,_,_,e6⟩ | ⟨_,_,e6⟩
         ·exact (Qp _ _ q.1 q.2).weak e6 hok2
         ·exact e6 _ _
        ·rcases hval q hq with ⟨cc,ob,_,e4,e5,e6⟩ | e6
         ·exact hok.2.2.2 _ (List.mem_append_left _ (List.mem_map.2 ⟨_,e4,rfl⟩)) (Qc2 e5 f (e6 g hg))
         ·exact e6 g hg
       ·obtain ⟨p1,_⟩:=Fw b1 m1
        show ((Ux c.Γ.mem v).map _).Pairwise _
        rw [List.pairwise_map]
        refine List.Pairwise.imp_of_mem ?_ p1
        intro q q' hq hq' hne g hg hg'
        rcases m2 q hq with ⟨cc,ob,e3,e4,e5,_⟩ | ⟨_,e5,_⟩
        ·rcases m2 q' hq' with ⟨cc',ob',e3',e4',e5',_⟩ | ⟨_,e5',_⟩
         ·exact h1.disj e4 e4' (hne cc cc' e3 e3') g (e5 g hg) (e5' g hg')
         ·exact e5' g hg'
        ·exact e5 g hg
       ·obtain ⟨q,hq,hg⟩:=(hLm g).1 hg
        exact ⟨_,List.mem_map.2 ⟨q,hq,rfl⟩,hg⟩
      have hargs:∀e∈(enc c.Γ x).env,∃cs,(xs.map a.eval++vc)[e.t]?=some (e.av.val cs)∧cr (Xd ri β) (K3 ri [] ρ) (Q5 X.ok X.w.heap.size (fun _=>0) [] (Qc β ρ Ml++Qc β ρ Mr) w) w false e.av cs:=by
       intro e he
       rw [henc] at he
       have hcs:e.cs=[]:=by
        have:=Cw (Γe:=c.Γ.env) (l:=u++v) e (by rw [e1]; exact he)
        exact this
       obtain ⟨cs,p1,p2⟩:=(e2 e he).1.1 (by rw [hcs]; exact Qa _)
       rw [Xh (e2 e he).2] at p1
       exact ⟨cs,by simpa using p1,Vt p2 hok2⟩
      have hcall:=hc _ w L _ _ x y (xs.map a.eval++vc) (fun b f hk=>hk.2.1) (Wu h2 hG) (by rw [←el,hlen]) hLends hargs hy
      subst hf
      refine Q8 hw ?_
      have hrun':(execOp a.eval o).run P w=.ok (.enter c.f ⟨xs.map a.eval++vc⟩) w:=by
       unfold execOp
       rw [hop]
       have hm:(Array.mk xs).map a.eval=⟨xs.map a.eval⟩:=by simp
       simp [resolve,hm,hf1,Deferred.ofValue,invoke,F9 hrun]
      unfold Oper.wp
      rw [hrun']
      refine hcall.mono ?_
      rintro e' w' ⟨v0,rfl,⟨β2,ρ2,hag,⟨cs,hv0,hcr⟩,hT2,hpw2⟩,hbel⟩
      show wpList P ops Q rest (a.put o.dst v0) w'
      rw [hd]
      have hLl:∀g∈L,∃t∈Qc β ρ Ml,t.blks g:=by
       intro g hg
       obtain ⟨q,hq,hg⟩:=(hLm g).1 hg
       rcases hval q hq with ⟨cc,ob,_,e4,_,e6⟩ | e6
       ·exact ⟨_,List.mem_map.2 ⟨_,e4,rfl⟩,e6 g hg⟩
       ·exact absurd hg (e6 g)
      have hcov:∀t∈Qc β ρ Ml,∀b f,t.blks b→t.cov b f:=by
       intro t ht b f hb
       obtain ⟨q,hq,rfl⟩:=List.mem_map.1 ht
       obtain ⟨id,p3,p4,p2⟩:=hF1 q hq
       obtain ⟨q',hq',he'⟩:=List.mem_map.1 p3
       exact Qc2 (hkind q' hq' q.1 q.2 (by rw [he']; exact p4) p2) f hb
      have h3:=Sb.callO h2 hbel hLl hcov hT2 hpw2
      have hROk:∀j∈(roM c x).map Prod.fst,∃cc,Jo ri j=some cc∧j∈c.Γ.mem.map Prod.fst:=fun j hj=>by
       obtain ⟨q,hq,rfl⟩:=List.mem_map.1 hj
       unfold roM at hq
       rw [henc] at hq
       obtain ⟨hq1,hq2⟩:=List.mem_filter.1 hq
       have hk:=hmk q hq1
       obtain ⟨q',hq',he'⟩:=List.mem_map.1 hk
       obtain ⟨cc,hcc⟩:=Tl hb2s q.1 (List.mem_map.2 ⟨q',List.mem_filter.2 ⟨hq',by rw [he']; exact hq2⟩,he'⟩)
       exact ⟨cc,hcc,hk⟩
      have hroE2:Zq (Jt ri d) (roM c x)=Mo:=by unfold roM; rw [henc]; exact hroE
      generalize hRO:roM c x=RO at *
      generalize hS1:enc c.Δ y=S1 at *
      generalize hks:(S1.mem++RO).map Prod.fst=ks at *
      have hA:∀j∈ks,backB (Jt ri d) ks β2 β (Jt ri d j)=β2 j∧H5 (Jt ri d) ks ρ2 ρ (Jt ri d j)=ρ2 j:=by
       intro j hj
       have:=Qc4 (g:=Jt ri d) (ks:=ks) (by rw [←hks,List.map_map]; exact Hh n2) j hj
       exact ⟨by simp only [backB,this],by simp only [H5,this]⟩
      have hcase:∀j∈ks,(∃cc,Jo ri j=some cc∧Jt ri d j=cc∧j∈c.Γ.mem.map Prod.fst) ∨
        (Jo ri j=none∧Qv (Jt ri d j) Mr0=true∧Qv (Jt ri d j) S.fixM=true∧B1 (Jt ri d j) S.fix=true∧B1 (Jt ri d j) S.env=true∧J9 S.prot (Jt ri d j)=false∧j∉c.Γ.mem.map Prod.fst):=by
       intro j hj
       rw [←hks,List.map_append] at hj
       rcases List.mem_append.1 hj with hj | hj
       ·exact Qc3 n1 j hj
       ·obtain ⟨cc,p1,p2⟩:=hROk j hj
        exact .inl ⟨cc,p1,by simp only [Jt,p1],p2⟩
      have hB:∀i,(∀j∈ks,Jo ri j=none→Jt ri d j≠i)→backB (Jt ri d) ks β2 β i=β i∧H5 (Jt ri d) ks ρ2 ρ i=ρ i:=by
       intro i hi
       cases hfd:ks.find? (fun j=>Jt ri d j==i) with
       | none=>exact ⟨by simp only [backB,hfd],by simp only [H5,hfd]⟩
       | some j =>
        have hj:=List.mem_of_find?_eq_some hfd
        have hji:Jt ri d j=i:=by simpa using List.find?_some hfd
        rcases hcase j hj with ⟨cc,p1,p2,p3⟩ | ⟨p1,_⟩
        ·obtain ⟨q1,q2⟩:=hag j p3
         have:cc=i:=by rw [←p2]; exact hji
         subst this
         exact ⟨by simp only [backB,hfd]; rw [q1]; simp only [Xd,p1],by simp only [H5,hfd]; rw [q2]; simp only [K3,p1]⟩
        ·exact absurd hji (hi j hj p1)
      have hfr:=fun j hj (hn:Jo ri j=none)=>(hcase j hj).resolve_left fun ⟨cc,p1,_⟩=>by rw [hn] at p1; cases p1
      have hEnv:∀e∈S.env++S.fix,∀i∈Q2 e.av,backB (Jt ri d) ks β2 β i=β i∧H5 (Jt ri d) ks ρ2 ρ i=ρ i:=by
       intro e he i hi
       refine hB i fun j hj hn hji=>?_
       obtain ⟨_,_,_,p4,p5,_⟩:=hfr j hj hn
       have hno:V1 (Jt ri d j) e.av=true:=by
        rcases List.mem_append.1 he with he | he
        ·exact H2 p5 e he
        ·exact H2 p4 e he
       exact H6 hno (by rw [hji]; exact hi)
      have hMem:∀i∈Q3 Mr,backB (Jt ri d) ks β2 β i=β i∧H5 (Jt ri d) ks ρ2 ρ i=ρ i:=by
       intro i hi
       refine hB i fun j hj hn hji=>?_
       obtain ⟨_,p2,p3,_⟩:=hfr j hj hn
       replace hi:=Qlj (fun q hq=>hp2.mem_iff.1 (List.mem_append_right _ hq)) hi
       have happ:∀(l m:List (Nat×Ob)),Q3 (l++m)=Q3 l++Q3 m:=by
        intro l m
        induction l with
        | nil=>rfl
        | cons q l ih =>
         obtain ⟨k0,o0⟩:=q
         cases o0 with
         | mapT k1 v path e u xs hole=>cases hole<;>simp [Q3,ih]
         | mapO k9 xs9 hole=>cases hole<;>simp [Q3,Zp,ih]
         | _=>simp [Q3,ih]
       rw [happ,List.mem_append] at hi
       rcases hi with hi | hi
       ·exact Du p2 (by rw [hji]; exact hi)
       ·exact Du p3 (by rw [hji]; exact hi)
      have hsim:V2 (Qc β2 ρ2 (S1.mem++RO)++Qc β ρ Mr) (Qc (backB (Jt ri d) ks β2 β) (H5 (Jt ri d) ks ρ2 ρ) (Zq (Jt ri d) (S1.mem++RO))++Qc (backB (Jt ri d) ks β2 β) (H5 (Jt ri d) ks ρ2 ρ) Mr) :=
       (Qa6 fun i hi=>hA i (Xy n4 i hi)).append (Tj hMem)
      have h4:=Sb.simO h3 hsim
      have hmemO:Qc (backB (Jt ri d) ks β2 β) (H5 (Jt ri d) ks ρ2 ρ) (Zq (Jt ri d) (S1.mem++RO))++Qc (backB (Jt ri d) ks β2 β) (H5 (Jt ri d) ks ρ2 ρ) Mr =
        Qc (backB (Jt ri d) ks β2 β) (H5 (Jt ri d) ks ρ2 ρ) ((Zq (Jt ri d) S1.mem++Mo)++Mr):=by
       rw [show Zq (Jt ri d) (S1.mem++RO)=Zq (Jt ri d) S1.mem++Zq (Jt ri d) RO from List.map_append,hroE2]
       simp only [Qc,List.map_append,List.append_assoc]
      have h5:Rel X (backB (Jt ri d) ks β2 β) (H5 (Jt ri d) ks ρ2 ρ) ⟨S.env++S.fix,(Zq (Jt ri d) S1.mem++Mo)++Mr⟩ a w':=by
       refine Rel.ofSb h4 hmemO fun e he=>?_
       have hp:=Jf.1 h4.dat _ (List.mem_map.2 ⟨e,he,rfl⟩)
       rw [hmemO] at hp
       exact ⟨fun hcc=>let ⟨cs,q1,q2⟩:=hp.1 hcc; ⟨cs,q1,Zu (hEnv e he) q2⟩,hp.2⟩
      have hres:cr (backB (Jt ri d) ks β2 β) (H5 (Jt ri d) ks ρ2 ρ) (okR X (backB (Jt ri d) ks β2 β) (H5 (Jt ri d) ks ρ2 ρ) ((Zq (Jt ri d) S1.mem++Mo)++Mr) w') w' false (Z5 (Jt ri d) (Es S1.env)) cs:=by
       have q1:=Ak (g:=Jt ri d) (fun i hi=>hA i (Xy n3 i (Tm _ i hi))) hcr
       refine Vt q1 fun b f hk=>?_
       have q2:=hsim.ok b f (Hg h2 hbel.size hLl b f hk)
       rw [hmemO] at q2
       exact q2
      have h6:=h5.put0 hd1 hres
      have hvv:(Z5 (Jt ri d) (Es S1.env)).val cs=v0:=by rw [hv0]; exact Qt7 _ _ _
      rw [hvv] at h6
      have hfin:((Zq (Jt ri d) S1.mem++Mo)++Mr).Perm ((Zq (Jt ri d) S1.mem++Mr0)++S.fixM):=by
       rw [List.append_assoc,List.append_assoc]
       exact List.Perm.append_left _ hp2
      refine H _ _ _ _ _ hs ⟨rfl,rfl,rfl,fun i hi=>hB i fun j hj hn hji=>?_⟩ ?_
      ·obtain ⟨_,_,_,_,_,p6,_⟩:=hfr j hj hn
       rw [hji,Zd.2 hi] at p6; cases p6
      ·rw [Ze (S:=⟨S.env,S.fix,Zq (Jt ri d) S1.mem++Mr0,S.fixM,S.prot⟩) hd2]
       exact Sb.perm h6 (hfin.map _)
     ·cases hx
    ·cases hs
   ·cases hs
  ·cases hs
 ·cases hs
end
end Gx

/- A region whose order is drawn, once more: what is known of a temporary may speak of those it stands behind. -/
namespace Gx
open Go Go.RowKit Gd
set_option linter.unusedVariables false
set_option linter.unusedSimpArgs false
theorem Nr {l:List Oper} {p k i:Nat} (h:Qtv l p=true) (hk:p≤k) (hkl:k<l.length) (hi:i<k):Zj l l.length k i=true:=by
 have h1:=List.all_eq_true.1 h k (List.mem_range.2 hkl)
 simp only [Bool.or_eq_true] at h1
 rcases h1 with h1 | h1
 ·have:=Nat.le_of_ble_eq_true h1; omega
 ·exact List.all_eq_true.1 h1 i (List.mem_range.2 hi)
structure FA where
 p:Ok→World→Act→Prop
 evo:∀{ok w w' a},p ok w a→Evo ok w w'→p ok w' a
 weak:∀{ok ok' w a},p ok w a→(∀b o,ok b o→ok' b o)→p ok' w a
section
variable {P:Program} {T:Tab} {β:Nat→Nat} {X:Cx} {G:GL} {D:List DF} {H:HL} {O:List TL} {a:Act} {w w':World}
def Q4g (F:List FA) (E:Nat→Prop) (a:Act):DF where
 p:=fun ok w=>∀(i:Nat) fv,E i→F[i]?=some fv→fv.p ok w a
 evo:=fun h he i fv h1 h2=>fv.evo (h i fv h1 h2) he
 weak:=fun h hk i fv h1 h2=>fv.weak (h i fv h1 h2) hk
def Qiy (OW:(Nat→Bool)→Act→List TL) (β0:Nat→Nat) (P:Program) (l:List Oper) (X:Cx) (G:GL) (D:List DF) (H:HL) (O:List TL) (ds:List Nat) (F:List FA) (i:Nat):Prop :=
 match ds[i]?,F[i]?,l[i]? with
 | some d,some fv,some o =>
  ∀(E:Nat→Bool) (β:Nat→Nat) (a:Act) (w:World) (dX:DF) (Ox:List TL) (Q:Exit→Act→World→Prop),Ac l (fun j=>E j=true)→E i=false→(∀e∈o.after.toList,Region.binds .any e=true→E e.on=true) →
   Sb β ⟨X.n,X.ok,X.w,Dk ds d,a,some β0,X.lent,X.lok,X.dfs⟩ G (dX::D) H (Ox++O) a w→Ox.Perm (OW E a) →
   (∀(j:Nat) (gv:FA),Ku l i j=true→F[j]?=some gv→gv.p (Q5 X.ok X.w.heap.size β H (Ox++O) w) w a) →
   (∀β' a' w' Ox',Sb β' ⟨X.n,X.ok,X.w,Dk ds d,a,some β0,X.lent,X.lok,X.dfs⟩ G (dX::D) H (Ox'++O) a' w'→fv.p (Q5 X.ok X.w.heap.size β' H (Ox'++O) w') w' a' →
    ((∀j e:Nat,j≠i→ds[j]?=some e→a'.tmps.getD e undef=a.tmps.getD e undef)→Ox'.Perm (OW (fun j=>j==i||E j) a'))→Q .normal a' w') →
   wpList P ⟨l⟩ Q [o] a w
 | _,_,_=>True
theorem Pq (OW:(Nat→Bool)→Act→List TL) {Ox0:List TL} (h:Sb β X G D H (Ox0++O) a w) (hO0:Ox0.Perm (OW (fun _=>false) a)) {id:Nat} {l:List Oper} {Q:Exit→Act→World→Prop} (hX:Q35 X.res=true) (hm:P.follows .mixedOrders=true) (p:Nat) (hOE:∀(E E':Nat→Bool) (a:Act),(∀i,i<p→E i=E' i)→OW E a=OW E' a)
  (ds:List Nat) (F:List FA) (hlen:Nat.beq ds.length p=true) (hlF:Nat.beq F.length p=true) (hple:Nat.ble p l.length=true) (hback:Gd.backB l=true) (hfin:Qtv l p=true) (hnd:N6 ds=true)
  (hloc:∀(i:Nat) fv,F[i]?=some fv→∀(a a':Act) ok w,(∀j e:Nat,(j=i∨Ku l i j=true)→ds[j]?=some e→a'.tmps.getD e undef=a.tmps.getD e undef)→fv.p ok w a→fv.p ok w a')
  (hstep:Qof (Qiy OW β P l X G D H O ds F) p)
  (hend:∀β' a' w' Ox,Sb β' {X with pin:=some β} G D H (Ox++O) a' w'→Ox.Perm (OW (fun _=>true) a')→(∀(i:Nat) fv,F[i]?=some fv→fv.p (Q5 X.ok X.w.heap.size β' H (Ox++O) w') w' a')→wpList P ⟨l⟩ Q (l.drop p) a' w') :
  (Code.region id ⟨l⟩ true).wp P Q a w:=by
 refine wp_region_any hm ?_
 have hpl:=Nat.le_of_ble_eq_true hple
 have hdl:=Nat.eq_of_beq_eq_true hlen
 have hFl:=Nat.eq_of_beq_eq_true hlF
 have hNd:=Cj hnd
 have hXr:X.res=[]:=by
  cases hr:X.res with
  | nil=>rfl
  | cons x xs=>rw [hr] at hX; simp [Q35] at hX
 let E (listed:Array Bool):Nat→Prop:=fun i=>listed.getD i false=true
 let J1 (listed:Array Bool) (a:Act) (w:World):Prop:=(∀k,p≤k→¬ E listed k)∧∃β1 Ox,Sb β1 {X with pin:=some β} G (Q4g F (E listed) a::D) H (Ox++O) a w∧Ox.Perm (OW (fun i=>listed.getD i false) a)
 let J (listed:Array Bool) (a:Act) (w:World):Prop:=listed.size=l.length∧Ac l (E listed) ∧
  (J1 listed a w∨(∃k,p<k∧(∀i,i<l.length→(E listed i↔i<k))∧wpList P ⟨l⟩ Q (l.drop k) a w))
 have hset:∀(listed:Array Bool) (i j:Nat),listed.size=l.length→i<l.length→(E (listed.setIfInBounds i true) j↔(j=i∨E listed j)):=by
  intro listed i j hs hi
  simp only [E,Array.getD_eq_getD_getElem?,Array.getElem?_setIfInBounds,hs]
  by_cases hj:i=j
  ·subst hj; simp [hi]
  ·have hj':¬ j=i:=fun e=>hj e.symm
   simp [hj,hj']
 have hsetB:∀(listed:Array Bool) (i j:Nat),listed.size=l.length→i<l.length→(listed.setIfInBounds i true).getD j false=(j==i||listed.getD j false):=by
  intro listed i j hs hi
  have:=hset listed i j hs hi
  simp only [E] at this
  cases h1:(listed.setIfInBounds i true).getD j false with
  | true =>
   rcases this.1 h1 with rfl | h2
   ·simp
   ·simp [h2]
  | false =>
   cases h2:(j==i||listed.getD j false) with
   | false=>rfl
   | true =>
    simp only [Bool.or_eq_true,beq_iff_eq] at h2
    rw [this.2 h2] at h1; cases h1
 have hgo:∀listed a w,J1 listed a w→(∀j,j<p→E listed j)→wpList P ⟨l⟩ Q (l.drop p) a w:=by
  rintro listed a w ⟨hno,β1,Ox,hS,hI⟩ hall
  have hS':Sb β1 {X with pin:=some β} G D H (Ox++O) a w:={ hS with dat:=hS.dat.2 }
  refine hend β1 a w Ox hS' ?_ fun j fv hf=>hS.dat.1 j fv (hall j (by have:=(List.getElem?_eq_some_iff.1 hf).1; omega)) hf
  rwa [hOE _ (fun _=>true) a fun i hi=>hall i hi] at hI
 have hdone:∀listed a w,J listed a w→(∀i,i<l.length→E listed i)→Q .normal a w:=by
  rintro listed a w ⟨hs,hc,h1 | ⟨k,hk,hE,hw⟩⟩ hall
  ·have hpm:p=l.length:=by
    rcases Nat.lt_or_ge p l.length with hlt | hge
    ·exact absurd (hall p hlt) (h1.1 p (Nat.le_refl _))
    ·omega
   have:=hgo listed a w h1 fun i hi=>hall i (by omega)
   rw [hpm,List.drop_length] at this
   exact this
  ·have hkl:l.length≤k:=by
    rcases Nat.lt_or_ge k l.length with hlt | hge
    ·have:=(hE k hlt).1 (hall k hlt); omega
    ·exact hge
   rw [List.drop_eq_nil_of_le hkl] at hw
   exact hw
 have step1:∀(listed:Array Bool) (a:Act) (w:World) (i:Nat) (o:Oper) (Q':Exit→Act→World→Prop),listed.size=l.length→Ac l (E listed)→J1 listed a w→i<p→l[i]?=some o→¬ E listed i →
   (∀e∈o.after.toList,Region.binds .any e=true→listed.getD e.on false=true)→(∀a' w',J1 (listed.setIfInBounds i true) a' w'→Q' .normal a' w')→wpList P ⟨l⟩ Q' [o] a w:=by
  rintro listed a w i o Q' hs hc ⟨hno,β1,Ox,hS,hI⟩ hip ho hniE hpre hK
  have hil:i<l.length:=by omega
  obtain ⟨d,hd⟩:∃d,ds[i]?=some d:=⟨ds[i]'(by omega),List.getElem?_eq_getElem (by omega)⟩
  obtain ⟨fv,hf⟩:∃fv,F[i]?=some fv:=⟨F[i]'(by omega),List.getElem?_eq_getElem (by omega)⟩
  have hnotE:listed.getD i false=false:=by
   cases h1:listed.getD i false with
   | false=>rfl
   | true=>exact absurd h1 hniE
  have hst:=hstep.get hip
  simp only [Qiy,hd,hf,ho] at hst
  refine hst (fun i=>listed.getD i false) β1 a w (Q4g F (E listed) a) Ox Q' hc hnotE hpre ?_ hI ?_ ?_
  ·exact { hS with fr:=fun _ _=>rfl }
  ·intro j gv hp hg
   have hEj:E listed j:=by
    simp only [Ku,ho] at hp
    obtain ⟨e',he',hb'⟩:=List.any_eq_true.1 hp
    simp only [Bool.and_eq_true] at hb'
    rw [←Nat.eq_of_beq_eq_true hb'.2]
    exact hpre e' he' hb'.1
   exact hS.dat.1 j gv hEj hg
  ·intro β' a' w' Ox' hS' hfv hos
   have hgd:∀(j e:Nat),j≠i→ds[j]?=some e→a'.tmps.getD e undef=a.tmps.getD e undef:=by
    intro j e hji hj
    have hne:e≠d:=by
     intro he
     subst he
     have h1:=(List.getElem?_eq_some_iff.1 hj)
     have h2:=(List.getElem?_eq_some_iff.1 hd)
     have hpw:=List.pairwise_iff_getElem.1 hNd
     rcases Nat.lt_or_ge j i with hlt | hge
     ·exact hpw j i h1.1 h2.1 hlt (h1.2.trans h2.2.symm)
     ·exact hpw i j h2.1 h1.1 (by omega) (h2.2.trans h1.2.symm)
    have hfr':=hS'.fr e (N7 (List.mem_of_getElem? hj) hne)
    simp only [Array.getD_eq_getD_getElem?]
    rw [hfr']
   refine hK a' w' ⟨fun k hk hEk=>?_,β',Ox',?_,?_⟩
   case refine_3 =>
    have:=hos hgd
    rwa [hOE _ (fun j=>(listed.setIfInBounds i true).getD j false) a' fun j _=>(hsetB listed i j hs hil).symm] at this
   ·rw [hset listed i k hs hil] at hEk
    rcases hEk with rfl | hEk
    ·omega
    ·exact hno k hk hEk
   ·have hdX:=hS'.dat.1
    refine { sz:=hS'.sz,df:=hS'.df,fr:=by (show ∀t∈X.res,_; rw [hXr]; simp),pn:=hS'.pn,tm:=hS'.tm,bel:=hS'.bel,dat:=⟨?_,hS'.dat.2⟩,obj:=hS'.obj,own:=hS'.own,dHH:=hS'.dHH,dHO:=hS'.dHO,dOO:=hS'.dOO }
    intro j gv hEj hg
    rw [hset listed i j hs hil] at hEj
    by_cases hji:j=i
    ·subst hji
     rw [hf] at hg; injection hg with hg; subst hg
     exact hfv
    ·have hEj':E listed j:=hEj.resolve_left hji
     refine hloc j gv hg a a' _ _ (fun j' e hj' he=>?_) (hdX j gv hEj' hg)
     refine hgd j' e (fun hij=>?_) he
     subst hij
     rcases hj' with hj' | hj'
     ·exact hji hj'.symm
     ·simp only [Ku] at hj'
      split at hj'
      ·rename_i oj hoj
       obtain ⟨e',he',hb'⟩:=List.any_eq_true.1 hj'
       simp only [Bool.and_eq_true] at hb'
       have:=hc j oj hEj' hoj e' he' hb'.1
       rw [Nat.eq_of_beq_eq_true hb'.2] at this
       exact hniE this
      ·cases hj'
 have main:∀(fuel:Nat) (listed:Array Bool) (a:Act) (w:World),J listed a w→((List.range l.length).filter fun i=>!listed.getD i false).length≤fuel→wpAny P .any ⟨l⟩ Q fuel listed a w:=by
  intro fuel
  induction fuel with
  | zero =>
   intro listed a w hJ hle
   have hall:∀i,i<l.length→E listed i:=by
    intro i hi
    cases hl:listed.getD i false with
    | true=>exact hl
    | false =>
     have:i∈(List.range l.length).filter fun i=>!listed.getD i false:=List.mem_filter.2 ⟨List.mem_range.2 hi,by rw [hl]; rfl⟩
     have hnil:=List.eq_nil_of_length_eq_zero (Nat.le_zero.1 hle)
     rw [hnil] at this; simp at this
   refine ⟨?_,hdone listed a w hJ hall⟩
   apply List.eq_nil_iff_forall_not_mem.2
   intro i hi
   rw [Fo] at hi
   have h1:=hall i hi.1
   have h2:=hi.2.1
   simp only [E] at h1
   have h3:listed.getD i true=listed.getD i false:=by simp [Array.getD,hJ.1,hi.1]
   rw [h3,h1] at h2; cases h2
  | succ fuel ih =>
   intro listed a w hJ hle
   refine ⟨fun hr=>hdone listed a w hJ (N8 hJ.1 hback hr),fun i hi=>?_⟩
   rw [Fo] at hi
   obtain ⟨hil,hnl,o,ho,hpre⟩:=hi
   obtain ⟨hs,hc,hcase⟩:=hJ
   have hniE:¬ E listed i:=by
    intro hE
    have h3:listed.getD i true=listed.getD i false:=by simp [Array.getD,hs,hil]
    rw [h3] at hnl; simp only [E] at hE; rw [hE] at hnl; cases hnl
   have hcl:Ac l (E (listed.setIfInBounds i true)):=by
    intro j oj hj hoj e he hb
    rw [hset listed i _ hs hil] at hj ⊢
    rcases hj with rfl | hj
    ·rw [ho] at hoj; injection hoj with hoj; subst hoj
     exact .inr (hpre e he hb)
    ·exact .inr (hc j oj hj hoj e he hb)
   have hcnt:((List.range l.length).filter fun j=>!(listed.setIfInBounds i true).getD j false).length≤fuel:=by
    have hlt:((List.range l.length).filter fun j=>!(listed.setIfInBounds i true).getD j false).length<((List.range l.length).filter fun j=>!listed.getD j false).length:=by
     apply filter_lt (x:=i)
     ·intro j hj
      have:=hset listed i j hs hil
      simp only [E] at this
      cases h1:listed.getD j false with
      | false=>rfl
      | true=>rw [this.2 (.inr h1)] at hj; cases hj
     ·exact List.mem_range.2 hil
     ·have:=(hset listed i i hs hil).2 (.inl rfl)
      simp only [E] at this; rw [this]; rfl
     ·cases h1:listed.getD i false with
      | true=>exact absurd h1 hniE
      | false=>rfl
    omega
   rcases hcase with hJ1 | ⟨k,hk,hE,hw⟩
   ·rcases Nat.lt_or_ge i p with hip | hip
    ·
     exact Ic ho (step1 listed a w i o (Exit.then (wpAny P .any ⟨l⟩ Q fuel (listed.setIfInBounds i true)) Q) hs hc hJ1 hip ho hniE hpre fun a' w' hJ1=>ih _ a' w' ⟨by simp [hs],hcl,.inl hJ1⟩ hcnt)
    ·
     have hall:∀j,j<i→E listed j:=fun j hj=>K0 hc l.length i j (Nr hfin hip hil hj) fun o' ho'=>by rw [ho] at ho'; injection ho' with ho'; subst ho'; exact hpre
     have hip':i=p:=by
      rcases Nat.lt_or_ge p i with hlt | hge
      ·exact absurd (hall p hlt) (hJ1.1 p (Nat.le_refl _))
      ·omega
     subst hip'
     have hw:=hgo listed a w hJ1 hall
     refine wpOp_mono (fun a w hw'=>ih _ a w ⟨by simp [hs],hcl,.inr ⟨i+1,by omega,fun j hj=>?_,hw'⟩⟩ hcnt) (G4 ho hw)
     rw [hset listed i j hs hil]
     constructor
     ·rintro (rfl | hEj)
      ·omega
      ·rcases Nat.lt_or_ge j i with h1 | h1
       ·omega
       ·exact absurd hEj (hJ1.1 j h1)
     ·intro hlt
      rcases Nat.lt_or_ge j i with h1 | h1
      ·exact .inr (hall j h1)
      ·exact .inl (by omega)
   ·
    have hall:∀j,j<i→E listed j:=by
     intro j hj
     have hpi:p<i:=by
      rcases Nat.lt_or_ge i k with h1 | h1
      ·exact absurd ((hE i hil).2 h1) hniE
      ·omega
     exact K0 hc l.length i j (Nr hfin (by omega) hil hj) fun o' ho'=>by rw [ho] at ho'; injection ho' with ho'; subst ho'; exact hpre
    have hik:i=k:=by
     rcases Nat.lt_or_ge i k with h1 | h1
     ·exact absurd ((hE i hil).2 h1) hniE
     ·rcases Nat.lt_or_ge k i with h2 | h2
      ·have:=(hE k (by omega)).1 (hall k h2); omega
      ·omega
    subst hik
    refine wpOp_mono (fun a w hw'=>ih _ a w ⟨by simp [hs],hcl,.inr ⟨i+1,by omega,fun j hj=>?_,hw'⟩⟩ hcnt) (G4 ho hw)
    rw [hset listed i j hs hil,hE j hj]
    constructor
    ·rintro (rfl | h1)<;>omega
    ·intro h1
     rcases Nat.lt_or_ge j i with h2 | h2
     ·exact .inr h2
     ·exact .inl (by omega)
 refine main _ _ a _ ⟨by simp,fun i o hE=>?_,.inl ⟨fun k _ hE=>?_,β,Ox0,?_,?_⟩⟩ ?_
 ·simp only [E] at hE; simp [Array.getD_eq_getD_getElem?,Array.getElem?_replicate] at hE
  split at hE<;>simp at hE
 ·simp only [E] at hE; simp [Array.getD_eq_getD_getElem?,Array.getElem?_replicate] at hE
  split at hE<;>simp at hE
 ·refine { sz:=h.sz,df:=h.df,fr:=h.fr,pn:=fun f hf p _=>(by injection hf with hf; subst hf; rfl),tm:=h.tm,bel:=h.bel.drew,dat:=⟨?_,h.dat.evo (w':=w.drew) (Evo.of_blocks (Nat.le_refl _) fun _ _ _=>rfl)⟩,obj:=h.obj,own:=fun t ht=>⟨t.keep (h.own t ht).1 (fun _ _=>rfl) (Evo.of_blocks (Nat.le_refl _) fun _ _ _=>rfl),(h.own t ht).2⟩,dHH:=h.dHH,dHO:=h.dHO,dOO:=h.dOO }
  intro i fv hE
  simp only [E] at hE; simp [Array.getD_eq_getD_getElem?,Array.getElem?_replicate] at hE
  split at hE<;>simp at hE
 ·have e:(⟨l⟩:Array Oper).size=l.length:=rfl
  rwa [hOE _ (fun i=>(Array.replicate (⟨l⟩:Array Oper).size false).getD i false) a fun i hi=>by
   have:(Array.replicate (⟨l⟩:Array Oper).size false).getD i false=false:=by
    simp only [Array.getD_eq_getD_getElem?,Array.getElem?_replicate]
    split<;>rfl
   exact this.symm] at hO0
 ·refine Nat.le_trans (List.length_filter_le _ _) (by simp)
where
 filter_lt {α:Type} {f g:α→Bool}:∀{l:List α} {x:α},(∀y,f y=true→g y=true)→x∈l→f x=false→g x=true→(l.filter f).length<(l.filter g).length
  | y::ys,x,hfg,hx,h1,h2=>by
   have hle:∀zs:List α,(zs.filter f).length≤(zs.filter g).length:=by
    intro zs
    induction zs with
    | nil=>simp
    | cons z zs ih =>
     simp only [List.filter_cons]
     cases hf:f z with
     | true=>rw [hfg z hf]; simpa using ih
     | false=>cases hg:g z<;>simp<;>omega
   rcases List.mem_cons.1 hx with rfl | hx
   ·simp only [List.filter_cons,h1,h2]
    have:=hle ys
    simp; omega
   ·have:=filter_lt hfg hx h1 h2
    simp only [List.filter_cons]
    cases hf:f y with
    | true=>rw [hfg y hf]; simpa using this
    | false=>cases hg:g y<;>simp<;>omega
end
end Gx

/- Operations that give a value, in a region whose order is open. -/
namespace Gx
open Go Go.RowKit Gd
set_option linter.unusedVariables false
set_option linter.unusedSimpArgs false
theorem gvW {S:St} {β:Nat→Nat} {ρ:Nat→Value} {ok:Ok} {a:Act} {w:World} {N:Nat} (h:Xc β ρ ok S a w) (hs:a.tmps.size=N) {x:Operand} {v:AV} (hx:ev S [] x=some v):gv (Xs N a) x=some (.v (a.eval x)):=by
 cases x with
 | tmp t =>
  simp only [ev] at hx
  split at hx
  ·rename_i e he
   obtain ⟨hb,hx⟩:=bvT hx
   obtain ⟨hm,ht⟩:=V6 he
   obtain ⟨cs,h1,h2⟩:=(h.1 e hm).1 (Af hb (Qa a))
   rw [Oh he a,ht] at h1
   have hlt:t<a.tmps.size:=by
    rcases Nat.lt_or_ge t a.tmps.size with h3 | h3
    ·exact h3
    ·rw [Array.getElem?_eq_none h3] at h1; cases h1
   simp only [gv,Xs]
   rw [Cu (f:=fun t=>Gd.AV.v (a.tmps.getD t undef)) (List.mem_range.2 (hs▸hlt))]
   rfl
  ·cases hx
 | const v=>rfl
 | func f=>rfl
 | global g=>rfl
def Pr (gl:List (Nat×Σ t:Ty,t.De)) (P:Program) (l0:List Oper) (S:St) (o:Oper) (v:AV):Prop :=
 ∀{β:Nat→Nat} {ρ:Nat→Value} {β1:Nat→Nat} {X:Cx} {D:List DF} {O:List TL} {a:Act} {w:World} {d:Nat} {Q:Exit→Act→World→Prop},Vf gl (okN X) X.w→Sb β1 X (Xs X.n a) D [] O a w→Xc β ρ (Q5 X.ok X.w.heap.size β1 [] O w) S a w →
  Region.wanted o (yielded ⟨l0⟩ a.tmps)=true→Ka (⟨l0⟩:Array Oper) (Xs X.n a) o=some true→o.dst=some d→okD X d=true →
  (∀a' w' cs,Sb β1 X (Zi (Xs X.n a) d (.v (v.val cs))) D [] O a' w'→cr β ρ (Q5 X.ok X.w.heap.size β1 [] O w') w' false v cs→Q .normal a' w')→wpList P ⟨l0⟩ Q [o] a w
section
variable {P:Program} {Y:TX} {gl:List (Nat×Σ t:Ty,t.De)} {l0:List Oper} {S:St} {o:Oper} {R:Type} {r:R}
theorem Q5e {v:AV} (h:Mi P S [] o v):Pr gl P l0 S o v:=by
 intro β ρ β1 X D O a w d Q hG hS hR hw hg hd hok H
 obtain ⟨cs,h1,h2⟩:=h hR (Qa a)
 exact Qoc hS (g:=none) hg hd hok h1 fun a' hS'=>H a' w cs hS' h2
theorem Qiz {β:Nat→Nat} {ρ:Nat→Value} {ok:Ok} {a:Act} {w:World} (h:Xc β ρ ok S a w):∀{xs:List Operand} {i:Nat} {es:List En} (pre:List Value),pre.length=i→Qo8 S xs i=some es →
  es.length=xs.length∧∀e∈es,(enD β ρ ⟨(pre++xs.map a.eval).toArray,[]⟩ e).p ok w
 | [],i,es,pre,_,he=>by simp [Qo8] at he; subst he; exact ⟨rfl,by simp⟩
 | x::xs,i,es,pre,hi,he=>by
  simp only [Qo8] at he
  split at he
  ·rename_i v r hv hr
   obtain ⟨hbi,he⟩:=bvT he
   simp at he; subst he
   obtain ⟨cs,h1,h2⟩:=h.ev (Qa a) hv
   obtain ⟨h3,h4⟩:=Qiz h (xs:=xs) (i:=i+1) (pre++[a.eval x]) (by simp [hi]) hr
   refine ⟨by simp [h3],fun e hm=>?_⟩
   have hl:pre++[a.eval x]++xs.map a.eval=pre++(x::xs).map a.eval:=by simp
   rw [hl] at h4
   rcases List.mem_cons.1 hm with rfl | hm
   ·refine ⟨fun _=>⟨cs,?_,h2⟩,.inl (Qa _)⟩
    rw [Xh hbi]
    simp only [List.getElem?_toArray]
    rw [List.getElem?_append_right (by omega),←hi]
    simp only [Nat.sub_self,List.map_cons,List.getElem?_cons_zero]
    exact congrArg some h1
   ·exact h4 e hm
  ·cases he
theorem Cy {α:Type} {l:List α} (h:Gt l=true):l=[]:=by cases l<;>simp [Gt] at h; rfl
theorem Qt8 {c:Con} (hc:Qi P gl c) (hrun:Runs P c.f) {k:AV→Option R} (hs:Qo9 c o.op S k=some r):∃v,k v=some r∧Q2 v=[]∧Pr gl P l0 S o v:=by
 unfold Qo9 at hs
 split at hs
 ·rename_i f xs ts hop
  obtain ⟨hb,hs⟩:=bvT hs
  simp only [Bool.and_eq_true] at hb
  have hf:=Nat.eq_of_beq_eq_true hb.1.1
  have hΓ:=Cy hb.1.2
  have hΔ:=Cy hb.2
  split at hs
  ·rename_i es hes
   obtain ⟨hlb,hs⟩:=bvT hs
   have hlen:=Nat.eq_of_beq_eq_true hlb
   split at hs
   ·rename_i x hx
    obtain ⟨y,hy,hs⟩:=Yh hs
    obtain ⟨hids,hs⟩:=bvT hs
    have hids:=Cy hids
    have hall:Q2 (Es (enc c.Δ y).env)=[]:=by
     cases hai:Q2 (Es (enc c.Δ y).env) with
     | nil=>rfl
     | cons i l =>
      have:=Tm (enc c.Δ y).env i (by rw [hai]; exact .head _)
      rw [hids] at this; cases this
    refine ⟨_,hs,hall,?_⟩
    intro β ρ β1 X D O a w d Q hGl hS hR hw hg hd hok H
    unfold Qkx at hx
    obtain ⟨hbx,hx⟩:=bvT hx
    split at hx
    ·rename_i u v hu hv
     have hxl:=Pc hx
     obtain ⟨el,hE0⟩:=Qiz hR [] rfl hes
     simp only [List.nil_append] at hE0
     obtain ⟨es',e1,e2⟩:=Cs (β:=β) (ρ:=ρ) (fun id ob ho=>hR.2 id ob (by simpa using ho)) hE0 v hu
     have hmem:(enc c.Γ x).mem=[]:=by
      unfold enc
      split
      rw [hΓ]; rfl
     have henv:(enc c.Γ x).env=es':=by
      unfold enc
      rw [hxl,e1]
     have hargs:∀e∈(enc c.Γ x).env,∃cs,(xs.map a.eval)[e.t]?=some (e.av.val cs)∧cr (Xd [] β) (K3 [] [] ρ) (Q5 X.ok X.w.heap.size β1 [] O w) w false e.av cs:=by
      intro e he
      rw [henv] at he
      have hcs:e.cs=[]:=Cw (Γe:=c.Γ.env) (l:=u++v) e (by rw [e1]; exact he)
      obtain ⟨cs,p1,p2⟩:=(e2 e he).1.1 (by rw [hcs]; exact Qa _)
      rw [Xh (e2 e he).2] at p1
      exact ⟨cs,by simpa using p1,p2⟩
     have hcall:=hc _ w [] _ _ x y (xs.map a.eval) (fun b f hk=>hk.2.1) (Wu hS hGl) (by rw [List.length_map,←el,hlen]) (by rw [hmem]; exact ⟨by simp [Qc],.nil,by simp⟩) hargs hy
     subst hf
     refine Q8 hw ?_
     have hrun':(execOp a.eval o).run P w=.ok (.enter c.f ⟨xs.map a.eval⟩) w:=by
      unfold execOp
      rw [hop]
      have hm:(Array.mk xs).map a.eval=⟨xs.map a.eval⟩:=by simp
      simp [resolve,hm,Act.eval,Deferred.ofValue,invoke,F9 hrun]
     unfold Oper.wp
     rw [hrun']
     refine hcall.mono ?_
     rintro e' w' ⟨v0,rfl,⟨β2,ρ2,hag,⟨cs,hv0,hcr⟩,hT2,hpw2⟩,hbel⟩
     show wpList P ⟨l0⟩ Q [] (a.put o.dst v0) w'
     rw [hd]
     have h2:Sb β1 X (Xs X.n a) D [] ([]++O) a w:=hS
     have h3:=Sb.callO (O1':=[]) h2 hbel (by simp) (by simp) (by simp) .nil
     have h4:=h3.put hok (.v v0)
     subst hv0
     refine H _ w' cs h4 ?_
     have hcr':=Zu (β':=β) (ρ':=ρ) (fun i hi=>by rw [hall] at hi; cases hi) hcr
     refine Vt hcr' fun b f hk=>?_
     have hm0:Qc β2 ρ2 (enc c.Δ y).mem=[]:=by
      have:(enc c.Δ y).mem=[]:=by
       unfold enc
       split
       rw [hΔ]; rfl
      rw [this]; rfl
     rw [show (enc c.Δ y).mem++roM c x=(enc c.Δ y).mem by unfold roM; rw [hmem]; exact List.append_nil _,hm0] at hk
     exact Hg (O1':=[]) h2 hbel.size (by simp) b f ⟨hk.1,hk.2.1,by simp,by simp⟩
    ·cases hx
   ·cases hs
  ·cases hs
 ·cases hs
theorem Qc7 {β:Nat→Nat} {ρ:Nat→Value} {ok:Ok} {a:Act} {w:World} {N:Nat} (h:Xc β ρ ok S a w) (hn:a.tmps.size=N) {u:Ty}:∀{ps:List (Nat×Operand)} {vs:List (Nat×AV)} {xs:List u.De} {j:Nat},Yy S [] ps=some vs→asLs S.mem u vs j=some xs →
  ∃us:List Value,ps.map (fun p=>(p.1,a.eval p.2))=(List.range' j us.length).zip us∧M7 (rt u) ok w xs us∧us.length=xs.length∧evParts (Xs N a) ps=some (ps.map (fun p=>(p.1,a.eval p.2)))
 | [],vs,xs,j,he,hx=>by
  simp [Yy] at he; subst he
  simp [asLs] at hx; subst hx
  exact ⟨[],rfl,trivial,rfl,rfl⟩
 | (i,x)::ps,vs,xs,j,he,hx=>by
  simp only [Yy] at he
  split at he
  ·rename_i v l hv hl
   simp at he; subst he
   simp only [asLs] at hx
   obtain ⟨hb,hx⟩:=bvT hx
   simp only [Bool.and_eq_true] at hb
   have:=Nat.eq_of_beq_eq_true hb.1
   subst this
   split at hx
   ·rename_i y ys hy hys
    simp at hx; subst hx
    obtain ⟨us,q1,q2,q3,q4⟩:=Qc7 h hn (u:=u) (ps:=ps) hl hys
    have hiv:=h.asD (Qa a) hv hy (bEq hb.2)
    refine ⟨a.eval x::us,?_,⟨hiv,q2⟩,by simp [q3],?_⟩
    ·simp only [List.map_cons,List.length_cons,List.range'_succ,List.zip_cons_cons,q1]
    ·simp only [evParts,gvW h hn hv,q4,List.map_cons]
   ·cases hx
  ·cases he
theorem Q5f (hT:Qy P Y.T) {k:AV→Option R} (hs:Q41 Y S o.op k=some r):∃v,k v=some r∧Q2 v=[]∧Pr gl P l0 S o v:=by
 unfold Q41 at hs
 split at hs
 ·rename_i t m ps hop
  split at hs
  ·rename_i te hte
   split at hs
   ·rename_i e htd
    have htd:=J6 htd
    split at hs
    ·rename_i ee u he hu
     split at hs
     ·rename_i vs hvs
      split at hs
      ·rename_i xs hxs
       obtain ⟨hb,hs⟩:=bvT hs
       simp only [Bool.and_eq_true] at hb
       obtain ⟨⟨⟨⟨hsz,hl⟩,hsm⟩,hpos⟩,hzl⟩:=hb
       refine ⟨_,hs,rfl,?_⟩
       intro β ρ β1 X D O a w d Q hGl hS hR hw hg hd hok H
       have hn:a.tmps.size=X.n:=hS.sz
       obtain ⟨us,q1,q2,q3,q4⟩:=Qc7 hR hn hvs hxs
       have hes:=Nat.eq_of_beq_eq_true hsz
       have hxl:=Nat.eq_of_beq_eq_true hl
       have hcl:∀v∈us,(Qh v).length=ee.size:=by
        have key:∀{xs:List u.De} {us:List Value},M7 (rt u) (Q5 X.ok X.w.heap.size β1 [] O w) w xs us→∀v∈us,(Qh v).length=ee.size:=by
         intro xs
         induction xs with
         | nil=>intro us hu v hv; cases us with
          | nil=>cases hv
          | cons _ _=>cases hu
         | cons x xs ih =>
          intro us hu v hv
          cases us with
          | nil=>cases hv
          | cons y us =>
           rcases List.mem_cons.1 hv with rfl | hv
           ·rw [(rt u).len (Xm hu.1),Jh,hes]
           ·exact ih hu.2 v hv
        exact key q2
       have hz0:(V0 (Qh ee.z) ((m+1)*ee.size)).length=(m+1)*ee.size:=by simp [V0]
       have hfill:=Sr us 0 (V0 (Qh ee.z) ((m+1)*ee.size)) hcl (by rw [hz0,Nat.zero_add,q3,hxl]; exact Nat.le_refl _)
       rw [←q1] at hfill
       have hfill':G1 (Ab ee.size) (V0 (Qh ee.z) ((m+1)*ee.size)) (ps.map (fun p=>(p.1,a.eval p.2)))=some (us.flatMap Qh):=by
        rw [hfill]
        simp only [Nat.zero_mul,List.take_zero,List.nil_append,Nat.zero_add]
        rw [List.drop_of_length_le (by rw [hz0,q3,hxl]; exact Nat.le_refl _),List.append_nil]
       rw [Kw o,hd,hop] at hg ⊢
       refine A3 hT hS (r:=rt u) hg hok q4 hte htd he (by rw [Jh]; exact hes) hxl hsm (Nat.ble_eq_true_of_le (by have:=Nat.le_of_ble_eq_true hpos; have:=Nat.mul_le_mul (Nat.le_add_left 1 m) this; omega)) hzl hfill' q2 fun A c a' w' hv hS'=>?_
       exact H a' w' [.slice A xs.length c] hS' ⟨_,rfl,Uh.1 hv⟩
      ·cases hs
     ·cases hs
    ·cases hs
   ·cases hs
  ·cases hs
 ·cases hs
end
end Gx
