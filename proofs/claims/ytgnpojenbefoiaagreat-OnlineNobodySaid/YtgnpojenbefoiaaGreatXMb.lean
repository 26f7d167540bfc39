/- Maps whose values hold a slice that may be appended to: opened, closed, made, frozen. -/
import Derived.Test.YtgnpojenbefoiaaGreatXNt
namespace Gd
open Go Go.RowKit
section
variable {β:Nat→Nat} {X:Cx} {G:GL} {D:List DF} {H:HL} {O:List TL} {a:Act} {w w':World}
theorem Sb.repl {A A' R:List TL} (h:Sb β X G D [] (A++R) a w) (hos:w'.os=w.os) (htp:w'.tape=w.tape) (hout:w'.output=w.output) (hsz:w.heap.size=w'.heap.size) {L:List Nat}
  (hblk:∀b,b∉L→w'.heap[b]?=w.heap[b]?) (hL:∀g∈L,∃t∈A,∀o,t.cov g o)
  (hb':∀t∈A',∀g,t.blks g→∃s∈A,s.blks g) (hc':∀t∈A',∀b o,t.cov b o→∃s∈A,s.cov b o)
  (hp:Evo (Q5 X.ok X.w.heap.size β [] (A++R) w) w w'→(∀b o,Q5 X.ok X.w.heap.size β [] (A++R) w b o→Q5 X.ok X.w.heap.size β [] (A'++R) w' b o)→∀t∈A',t.p (Q5 X.ok X.w.heap.size β [] (A'++R) w') w')
  (hd:A'.Pairwise fun s t=>∀g,s.blks g→¬ t.blks g):Sb β X G D [] (A'++R) a w':=by
 have hpw:=List.pairwise_append.1 h.dOO
 have hLb:∀g∈L,∃t∈A,t.blks g:=fun g hg=>let ⟨t,ht,hc⟩:=hL g hg; ⟨t,ht,t.cb (hc 0)⟩
 have hevo:Evo (Q5 X.ok X.w.heap.size β [] (A++R) w) w w':=Evo.of_blocks (Nat.le_of_eq hsz) fun b o hk=>hblk b fun hb=>by
  obtain ⟨t,ht,hc⟩:=hL b hb
  exact hk.2.2.2 t (by simp [ht]) (hc o)
 have hok:∀b o,Q5 X.ok X.w.heap.size β [] (A++R) w b o→Q5 X.ok X.w.heap.size β [] (A'++R) w' b o:=by
  rintro b o ⟨h1,h2,h3,h4⟩
  refine ⟨h1,by omega,h3,fun u hu hc=>?_⟩
  rcases List.mem_append.1 hu with hu | hu
  ·obtain ⟨s,hs,hsc⟩:=hc' u hu b o hc
   exact h4 s (by simp [hs]) hsc
  ·exact h4 u (by simp [hu]) hc
 have hmine:∀t∈A',∀g,t.blks g→X.mine g:=fun t ht g hg=>let ⟨s,hs,hsg⟩:=hb' t ht g hg; (h.own s (by simp [hs])).2 g hsg
 refine { sz:=h.sz,df:=h.df,fr:=h.fr,pn:=h.pn,tm:=h.tm,bel:=?_,dat:=(h.dat.evo hevo).weak hok,obj:=by simp,own:=?_,dHH:=by simp,dHO:=by simp,dOO:=?_ }
 ·refine h.bel.trans ⟨hos,htp,hout,Nat.le_of_eq hsz,fun k hk hn=>hblk k fun hb=>?_⟩
  obtain ⟨t,ht,hg⟩:=hLb k hb
  exact ((h.own t (by simp [ht])).2 k hg).elim (fun h=>by omega) hn
 ·intro u hu
  rcases List.mem_append.1 hu with hu | hu
  ·exact ⟨hp hevo hok u hu,hmine u hu⟩
  ·have:=h.own u (by simp [hu]:u∈A++R)
   refine ⟨u.weak (u.keep this.1 (fun g hg=>hblk g fun hb=>?_) hevo) hok,this.2⟩
   obtain ⟨t,ht,hg2⟩:=hLb g hb
   exact hpw.2.2 t ht u hu g hg2 hg
 ·refine List.pairwise_append.2 ⟨hd,hpw.2.1,fun t ht u hu g hg hg2=>?_⟩
  obtain ⟨s,hs,hsg⟩:=hb' t ht g hg
  exact hpw.2.2 s hs u hu g hsg hg2
end
end Gd
namespace Gx
open Go Go.RowKit Gd
set_option linter.unusedVariables false
set_option linter.unusedSimpArgs false
section
variable {β:Nat→Nat} {ρ ρ':Nat→Value} {ok:Ok} {w:World}
theorem Qcq:∀{ps:List PS} {x y:AV},Qar ps x=some y→nav ps x=some y
 | [],x,y,h=>h
 | .f k off::ps,x,y,h=>by
  cases x<;>simp only [Qar] at h<;>first | (cases h; done) | skip
  rename_i l
  simp only [nav,E5]
  split at h
  ·rename_i z0 o hk
   rw [hk]
   cases hb:Nat.beq o off with
   | false=>rw [hb] at h; cases h
   | true=>rw [hb] at h; simp only [hb,cond_true]; exact Qcq h
  ·cases h
 | .i _ _::_,x,y,h=>by cases x<;>simp [Qar] at h
theorem Pd {d:Nat}:∀{l:List En},Qo6 d l=true→∀e∈l,noS d e.av=true
 | [],_,e,he=>by cases he
 | x::l,h,e,he=>by
  simp only [Qo6,Bool.and_eq_true] at h
  rcases List.mem_cons.1 he with rfl | he
  ·exact h.1
  ·exact Pd h.2 e he
theorem H4 {d:Nat} (ha:∀i,i≠d→ρ' i=ρ i):∀{m:Bool} {x:AV} {cs:List Value},noS d x=true→cr β ρ ok w m x cs→cr β ρ' ok w m x cs
 | m,.d t x,cs,_,h=>by cases m<;>exact h
 | m,.p id path,cs,hn,h=>by cases m<;>exact h
 | m,.e id path,cs,hn,h=>by
  have:=ha id (neB (by simpa [noS] using hn))
  cases m<;>(simp only [cr] at h ⊢; rw [this]; exact h)
 | m,.s id,cs,hn,h=>by
  have:=ha id (neB (by simpa [noS] using hn))
  cases m<;>(simp only [cr] at h ⊢; rw [this]; exact h)
 | m,.m id,cs,hn,h=>by cases m<;>exact h
 | m,.b id,cs,hn,h=>by cases m<;>exact h
 | m,.w ..,cs,hn,h=>by cases m<;>exact h
 | m,.a t x,cs,_,h=>by cases m<;>exact h
 | m,.z,cs,_,h=>by cases m<;>exact h
 | m,.ns,cs,_,h=>by cases m<;>exact h
 | m,.np,cs,_,h=>by cases m<;>exact h
 | m,.nm,cs,_,h=>by cases m<;>exact h
 | m,.nf,cs,_,h=>by cases m<;>exact h
 | m,.f fn caps,cs,hn,h=>by cases m<;>exact let ⟨vs,h1,h2⟩:=h; ⟨vs,h1,H4 ha (by simpa [noS] using hn) h2⟩
 | m,.ag l,cs,hn,h=>by cases m<;>exact H4 ha (m:=false) (x:=l) (by simpa [noS] using hn) h
 | m,.tp l,cs,hn,h=>by cases m<;>exact let ⟨vs,h1,h2⟩:=h; ⟨vs,h1,H4 ha (by simpa [noS] using hn) h2⟩
 | m,.nil,cs,_,h=>by cases m<;>exact h
 | true,.cons x r,cs,hn,h=>by
  simp only [noS,Bool.and_eq_true] at hn
  exact let ⟨c1,vs,h1,h2,h3⟩:=h; ⟨c1,vs,h1,H4 ha hn.1 h2,H4 ha hn.2 h3⟩
 | false,.cons x r,cs,hn,h=>by
  simp only [noS,Bool.and_eq_true] at hn
  exact let ⟨c1,vs,h1,h2,h3⟩:=h; ⟨c1,vs,h1,H4 ha hn.1 h2,H4 ha hn.2 h3⟩
theorem Np {d:Nat} (ha:∀i,i≠d→ρ' i=ρ i):∀{M:List (Nat×Ob)},Bg d M=true→V2 (Qc β ρ M) (Qc β ρ' M)
 | [],_=>.nil
 | (k,o)::l,h=>by
  have hk:k≠d∧Bg d l=true:=by
   cases o with
   | mapT k1 v path e u xs hole=>cases hole<;>simp only [Bg,Bool.and_eq_true] at h<;>first | exact ⟨neB h.1.1,h.2⟩ | exact ⟨neB h.1,h.2⟩
   | var t c=>simp only [Bg,Bool.and_eq_true] at h; exact ⟨neB h.1.1,h.2⟩
   | _=>simp only [Bg,Bool.and_eq_true] at h; exact ⟨neB h.1,h.2⟩
  refine .cons ?_ (Np ha hk.2)
  have h2:=ha k hk.1
  cases o with
  | var t c =>
   simp only [Bg,Bool.and_eq_true] at h
   refine ⟨fun g=>Iff.rfl,fun b o=>Iff.rfl,fun ok w hp=>?_⟩
   obtain ⟨cs,hh,hc⟩:=hp
   exact ⟨cs,hh,H4 ha h.1.2 hc⟩
  | row e t xs=>simp only [Qp,h2]; exact U0.refl _
  | tail e t xs=>simp only [Qp,h2]; exact U0.refl _
  | map k v xs=>exact U0.refl _
  | mapE k9 v9 xs9 key j=>exact U0.refl _
  | mapO k9 xs9 hole=>exact U0.refl _
  | mapT k1 v path e u xs hole =>
   have hv:A5 ρ' hole=A5 ρ hole:=by
    cases hole with
    | none=>rfl
    | some q =>
     simp only [Bg,Bool.and_eq_true] at h
     exact ha q.2 (neB h.1.2)
   simp only [Qp,h2,hv]; exact U0.refl _
end
section
variable {X:Cx} {β β':Nat→Nat} {ρ ρ':Nat→Value} {S:XS} {a:Act} {w w':World}
theorem Rel.permM {env:List En} {m m':List (Nat×Ob)} (h:Rel X β ρ ⟨env,m⟩ a w) (hp:m.Perm m'):Rel X β ρ ⟨env,m'⟩ a w:=Sb.perm h (hp.map _)
theorem Xt {l:List (Nat×Ob)} {id:Nat} {o:Ob} (h:Qb l id=some o):l.Perm ((id,o)::J3 l id):=by
 obtain ⟨l1,l2,e1,_,e3⟩:=Jl h
 rw [e3,e1]
 exact List.perm_middle
theorem Pe {l:List (Nat×Ob)} {id d:Nat} (hne:id≠d):Qb (J3 l d) id=Qb l id:=by
 induction l with
 | nil=>rfl
 | cons q l ih =>
  simp only [J3]
  cases hb:Nat.beq q.1 d with
  | true =>
   have:=Nat.eq_of_beq_eq_true hb
   simp only [cond_true,Qb]
   cases hb2:Nat.beq q.1 id with
   | true=>exact absurd ((Nat.eq_of_beq_eq_true hb2).symm.trans this) hne
   | false=>rfl
  | false =>
   simp only [cond_false,Qb]
   cases Nat.beq q.1 id with
   | true=>rfl
   | false=>exact ih
theorem Rel.repl {env env':List En} {A A' R:List (Nat×Ob)} (h:Rel X β ρ ⟨env,A++R⟩ a w) (hos:w'.os=w.os) (htp:w'.tape=w.tape) (hout:w'.output=w.output) (hsz:w.heap.size=w'.heap.size) {L:List Nat}
  (hblk:∀b,b∉L→w'.heap[b]?=w.heap[b]?) (hL:∀g∈L,∃t∈Qc β ρ A,∀o,t.cov g o)
  (hb':∀t∈Qc β ρ' A',∀g,t.blks g→∃s∈Qc β ρ A,s.blks g) (hc':∀t∈Qc β ρ' A',∀b o,t.cov b o→∃s∈Qc β ρ A,s.cov b o)
  (hp:∀ok',Evo (okR X β ρ (A++R) w) w w'→(∀b o,okR X β ρ (A++R) w b o→ok' b o)→∀t∈Qc β ρ' A',t.p ok' w')
  (hd:(Qc β ρ' A').Pairwise fun s t=>∀g,s.blks g→¬ t.blks g) (hR:V2 (Qc β ρ R) (Qc β ρ' R))
  (he:∀e∈env',e∈env∧∀(ok:Ok) (w:World) (cs:List Value),cr β ρ ok w false e.av cs→cr β ρ' ok w false e.av cs):Rel X β ρ' ⟨env',A'++R⟩ a w':=by
 have h0:Sb (fun _=>0) X [] (env.map (enD β ρ a)) [] (Qc β ρ A++Qc β ρ R) a w:=by
  have:Qc β ρ (A++R)=Qc β ρ A++Qc β ρ R:=List.map_append
  rw [←this]; exact h
 have e0:Qc β ρ (A++R)=Qc β ρ A++Qc β ρ R:=List.map_append
 have h1:=h0.repl (A':=Qc β ρ' A') (w':=w') hos htp hout hsz hblk hL hb' hc' (fun q1 q2=>hp _ (by simpa only [okR,e0] using q1) (by simpa only [okR,e0] using q2)) hd
 have h2:=h1.simO ((V2.refl _).append hR)
 have e1:Qc β ρ' (A'++R)=Qc β ρ' A'++Qc β ρ' R:=List.map_append
 refine Rel.ofSb h2 e1.symm fun e hm=>?_
 obtain ⟨q1,q2⟩:=he e hm
 have hD:=Jf.1 h2.dat _ (List.mem_map.2 ⟨e,q1,rfl⟩)
 rw [←e1] at hD
 exact ⟨fun hc=>let ⟨cs,r1,r2⟩:=hD.1 hc; ⟨cs,r1,q2 _ _ _ r2⟩,hD.2⟩
theorem Pf {d:Nat}:∀{l m:List (Nat×Ob)},Bg d l=true→Bg d m=true→Bg d (l++m)=true
 | [],m,_,h=>h
 | (k,o)::l,m,h,hm=>by
  cases o with
  | mapT k1 v path e u xs hole=>cases hole<;>simp only [Bg,Bool.and_eq_true,List.cons_append] at h ⊢<;>exact ⟨h.1,Pf h.2 hm⟩
  | _=>simp only [Bg,Bool.and_eq_true,List.cons_append] at h ⊢; exact ⟨h.1,Pf h.2 hm⟩
theorem Lp {id:Nat} (h:E7 S id=true):(∀e∈S.flat.env,noS id e.av=true)∧Bg id (J3 S.mem id++S.fixM)=true∧J9 S.prot id=false:=by
 simp only [E7,Bool.and_eq_true] at h
 refine ⟨fun e he=>?_,Pf h.1.1.2 h.1.2,by simpa using h.2⟩
 rcases List.mem_append.1 he with he | he
 ·exact Pd h.1.1.1.1 e he
 ·exact Pd h.1.1.1.2 e he
theorem Qa0 (h:Rel X β ρ S.flat a w) {id:Nat} {o:Ob} (hm:Qb S.mem id=some o):Rel X β ρ ⟨S.flat.env,[(id,o)]++(J3 S.mem id++S.fixM)⟩ a w:=by
 have:=Rel.permM (env:=S.flat.env) (m:=S.flat.mem) (m':=((id,o)::J3 S.mem id)++S.fixM) h ((Xt hm).append_right _)
 exact this
theorem Td {id:Nat} {o:Ob} (hm:Qb S.mem id=some o) {b f:Nat} (hbo:okR X β ρ S.flat.mem w b f):okR X β ρ ([(id,o)]++(J3 S.mem id++S.fixM)) w b f :=
 ⟨hbo.1,hbo.2.1,hbo.2.2.1,fun t ht=>hbo.2.2.2 t (by
   have hpm:(Qc β ρ S.flat.mem).Perm (Qc β ρ ([(id,o)]++(J3 S.mem id++S.fixM))):=List.Perm.map _ (by
    have:=(Xt hm).append_right S.fixM
    exact this)
   exact hpm.mem_iff.2 ht)⟩
theorem B4 {α:Type} {f:Nat→α} {d:Nat} {v:α}:∀i,i≠d→upd f d v i=f i:=fun i h=>Uv f v h
theorem Q4c (h:Rel X β ρ S.flat a w) {id:Nat} {k v:Ty} (hm:Qb S.mem id=some (.map k v [])) {path:List PS} {e:TypeId} {u:Ty} {f:v.De→List u.De} (hf:M8 v path=some ⟨u,f⟩) (hq:E7 S id=true) :
  ∃ρ',Vo S (S.swap id (.mapT k v path e u [] none)) β β ρ ρ'∧Rel X β ρ' (S.swap id (.mapT k v path e u [] none)).flat a w:=by
 obtain ⟨q1,q2,q3⟩:=Lp hq
 have hF:=Qa0 h hm
 obtain ⟨⟨es,clock,hg,hp,hnd,hst⟩,_⟩:=h.ob (Q0 hm)
 have hes:es.toList=[]:=hp
 have e0:M9 (upd ρ id (.tuple #[]) id)=[]:=by rw [Jn]; rfl
 refine ⟨upd ρ id (.tuple #[]),⟨rfl,rfl,rfl,Zm q3 fun i hi=>⟨rfl,B4 i hi⟩⟩,?_⟩
 refine Rel.repl (A':=[(id,.mapT k v path e u [] none)]) hF rfl rfl rfl rfl (L:=[]) (fun _ _=>rfl) (by simp) ?_ ?_ ?_ (by simp) (Np B4 q2) fun e he=>⟨he,fun ok w cs hc=>H4 B4 (q1 e he) hc⟩
 ·intro t ht g hg
  have:t=Qp β (upd ρ id (.tuple #[])) id (.mapT k v path e u [] none):=by simpa [Qc] using ht
  subst this
  refine ⟨_,.head _,?_⟩
  simp only [Qp,Ae,e0] at hg
  rcases hg with hg | ⟨_,hv,_⟩
  ·exact hg
  ·cases hv
 ·intro t ht b o hc
  have:t=Qp β (upd ρ id (.tuple #[])) id (.mapT k v path e u [] none):=by simpa [Qc] using ht
  subst this
  refine ⟨_,.head _,?_⟩
  simp only [Qp,Ae,e0] at hc
  rcases hc with hc | ⟨_,hv,_⟩
  ·exact hc
  ·cases hv
 ·intro ok' _ _ t ht
  have:t=Qp β (upd ρ id (.tuple #[])) id (.mapT k v path e u [] none):=by simpa [Qc] using ht
  subst this
  refine ⟨f,hf,es,clock,hg,?_,by simp,hst,?_,?_,?_⟩
  ·rw [hes,e0]; trivial
  ·rw [e0]; exact .nil
  ·rw [e0]; simp
  ·intro k0 hk; cases hk
theorem Q4d (h:Rel X β ρ S.flat a w) {id:Nat} {k v:Ty} {path:List PS} {e:TypeId} {u:Ty} {xs:List (k.De×v.De)} (hm:Qb S.mem id=some (.mapT k v path e u xs none)) :
  Rel X β ρ (S.swap id (.map k v xs)).flat a w:=by
 have hF:=Qa0 h hm
 obtain ⟨⟨f,hf,es,clock,hg,hp,hnd,hst,_⟩,_⟩:=h.ob (Q0 hm)
 refine Rel.repl (A':=[(id,.map k v xs)]) hF rfl rfl rfl rfl (L:=[]) (fun _ _=>rfl) (by simp) ?_ ?_ ?_ (by simp) (V2.refl _) fun e he=>⟨he,fun ok w cs hc=>hc⟩
 ·intro t ht g hg
  have:t=Qp β ρ id (.map k v xs):=by simpa [Qc] using ht
  subst this
  exact ⟨_,.head _,.inl hg⟩
 ·intro t ht b o hc
  have:t=Qp β ρ id (.map k v xs):=by simpa [Qc] using ht
  subst this
  exact ⟨_,.head _,.inl hc⟩
 ·intro ok' _ hok t ht
  have:t=Qp β ρ id (.map k v xs):=by simpa [Qc] using ht
  subst this
  exact ⟨es,clock,hg,Uu (Do hp) fun b o hbo=>hok b o (Td hm hbo),hnd,hst⟩
theorem Q4e (h:Rel X β ρ S.flat a w) {id:Nat} {k v:Ty} {path:List PS} {e:TypeId} {u:Ty} {xs:List (k.De×v.De)} (hm:Qb S.mem id=some (.mapT k v path e u xs none)) {f:v.De→List u.De} (hf:M8 v path=some ⟨u,f⟩) (hk:Ah k=true) (key:k.De)
  {d:Nat} (hq:E7 S id=true) (hb:okB S d=true) :
  ∃ρ',Vo S ((S.swap id (.mapT k v path e u xs (some (key,d)))).born d (.tail e u (Qf5 f (Qx key xs)))) β β ρ ρ' ∧
   Rel X β ρ' ((S.swap id (.mapT k v path e u xs (some (key,d)))).born d (.tail e u (Qf5 f (Qx key xs)))).flat a w:=by
 obtain ⟨q1,q2,q3⟩:=Lp hq
 obtain ⟨b1,b2,b3⟩:=Zv hb
 have hF:=Qa0 h hm
 obtain ⟨⟨f0,hf0,es,clock,hg,hp,hnd,hst,hdp,hvg,_⟩,_⟩:=h.ob (Q0 hm)
 rw [hf] at hf0
 injection hf0 with hf0
 injection hf0 with _ hf0
 subst hf0
 have hid:id≠d:=(U8 b1 (id,.mapT k v path e u xs none) (List.mem_append_left _ ((Xt hm).mem_iff.2 (.head _)))).1
 have key0:∃vs' sv,(∀s∈vs',s=undef∨s∈M9 (ρ id))∧(sv=.slice none 0 0∨sv∈M9 (ρ id))∧G5 (rt k) (rt v) (rt u) e (Jp path) f (some key) sv (okR X β ρ S.flat.mem w) w xs es.toList vs'∧Oo vs' ∧
   (∀s∈vs',∀g,s.ownBlock=some g→sv.ownBlock≠some g)∧(key∉xs.map Prod.fst→sv=.slice none 0 0)∧isV (rSl (rt u)) (okR X β ρ S.flat.mem w) w (Qf5 f (Qx key xs)) sv∧∃ys,w.ownsRowS 0 e (rt u).size sv (Uq sv) ys:=by
  rcases Sx hk (fun hr=>On hf hr) hp hnd hdp with ⟨r1,r2⟩ | ⟨vs',sv,y,r1,r2,r3,r4,r5,r6,r7,r8⟩
  ·refine ⟨M9 (ρ id),.slice none 0 0,fun s hs=>.inr hs,.inl rfl,r2 _,hdp,fun s _ g _ e'=>(by cases e'),fun _=>rfl,?_,[],World.ownsRowS_nil _ _ _ _⟩
   rw [r1]; exact Q34
  ·refine ⟨vs',sv,r4,.inr r3,r2,r5,r6,fun hn=>?_,?_,r8⟩
   ·rw [Sv hk hn] at r1; cases r1
   ·rw [r1]; exact r7
 obtain ⟨vs',sv,v1,v2,v3,v4,v5,v6,v7,v8⟩:=key0
 let ρ':=upd (upd ρ d sv) id (.tuple vs'.toArray)
 have hρid:M9 (ρ' id)=vs':=by simp only [ρ',Jn]; simp [M9]
 have hρd:ρ' d=sv:=by simp only [ρ',Uv _ _ (fun e:d=id=>hid e.symm),Jn]
 have hρo:∀i,i≠id→i≠d→ρ' i=ρ i:=fun i h1 h2=>by simp only [ρ',Uv _ _ h1,Uv _ _ h2]
 refine ⟨ρ',⟨rfl,rfl,rfl,fun i hi=>⟨rfl,hρo i (fun e=>?_) (fun e=>?_)⟩⟩,?_⟩
 ·subst e; rw [Zd.2 hi] at q3; cases q3
 ·subst e; rw [Zd.2 hi] at b3; cases b3
 have hfr:=Rel.repl (ρ':=ρ') (env':=Y6 d S.env++S.fix) (A':=[(d,.tail e u (Qf5 f (Qx key xs))),(id,.mapT k v path e u xs (some (key,d)))]) hF rfl rfl rfl rfl (L:=[]) (fun _ _=>rfl) (by simp)
  (fun t ht g hg=>⟨_,.head _,?_⟩) (fun t ht b o hc=>⟨_,.head _,?_⟩) (fun ok' _ hok t ht=>?_) ?_ ?_ ?_
 ·exact hfr
 ·simp only [Qc,List.map_cons,List.map_nil,List.mem_cons,List.not_mem_nil,or_false] at ht
  rcases ht with rfl | rfl
  ·simp only [Qp,Ui,hρd] at hg
   rcases v2 with v2 | v2
   ·rw [v2] at hg; cases hg
   ·exact .inr ⟨sv,v2,hg⟩
  ·simp only [Qp,Ae,hρid] at hg
   rcases hg with hg | ⟨s,hs,hg⟩
   ·exact .inl hg
   ·rcases v1 s hs with rfl | hs
    ·cases hg
    ·exact .inr ⟨s,hs,hg⟩
 ·simp only [Qc,List.map_cons,List.map_nil,List.mem_cons,List.not_mem_nil,or_false] at ht
  rcases ht with rfl | rfl
  ·simp only [Qp,Ui,hρd] at hc
   rcases v2 with v2 | v2
   ·rw [v2] at hc; cases hc.1
   ·exact .inr ⟨sv,v2,hc⟩
  ·simp only [Qp,Ae,hρid] at hc
   rcases hc with hc | ⟨s,hs,hc,hl⟩
   ·exact .inl hc
   ·rcases v1 s hs with rfl | hs
    ·cases hc
    ·exact .inr ⟨s,hs,hc,hl⟩
 ·have hok':∀b o,okR X β ρ S.flat.mem w b o→ok' b o:=fun b o hbo=>hok b o (Td hm hbo)
  simp only [Qc,List.map_cons,List.map_nil,List.mem_cons,List.not_mem_nil,or_false] at ht
  rcases ht with rfl | rfl
  ·simp only [Qp,Ui,hρd]
   exact ⟨v7.weak hok',v8⟩
  ·refine ⟨f,hf,es,clock,hg,?_,hnd,hst,?_,?_,?_⟩
   ·rw [hρid]
    have:A5 ρ' (some (key,d))=sv:=hρd
    rw [this]
    exact Ck v3 hok'
   ·rw [hρid]; exact v4
   ·rw [hρid]
    intro s hs
    rcases v1 s hs with rfl | hs
    ·intro e'; cases e'
    ·exact hvg s hs
   ·intro k0 hk0 hn
    injection hk0 with hk0
    subst hk0
    show A5 ρ' (some (key,d))=_
    have:A5 ρ' (some (key,d))=sv:=hρd
    rw [this]; exact v6 hn
 ·simp only [Qc,List.map_cons,List.map_nil]
  refine List.pairwise_cons.2 ⟨fun t ht g hg hg2=>?_,List.pairwise_cons.2 ⟨by simp,.nil⟩⟩
  simp only [List.mem_cons,List.not_mem_nil,or_false] at ht
  subst ht
  simp only [Qp,Ui,hρd] at hg
  simp only [Qp,Ae,hρid] at hg2
  rcases hg2 with rfl | ⟨s,hs,hg2⟩
  ·rcases v2 with v2 | v2
   ·rw [v2] at hg; cases hg
   ·exact hvg sv v2 hg
  ·exact v5 s hs g hg2 hg
 ·have s1:V2 (Qc β ρ (J3 S.mem id++S.fixM)) (Qc β (upd ρ id (.tuple vs'.toArray)) (J3 S.mem id++S.fixM)):=Np B4 q2
  have hfr2:Qv d (J3 S.mem id++S.fixM)=true:=by
   have hall:∀{l:List (Nat×Ob)},Qv d l=true→Qv d (J3 l id)=true:=by
    intro l
    induction l with
    | nil=>intro h; exact h
    | cons q l ih =>
     obtain ⟨k0,o⟩:=q
     intro h
     have hl:Qv d l=true:=by
      cases o with
      | mapT k1 v path e u xs hole=>cases hole<;>simp only [Qv,Bool.and_eq_true] at h<;>exact h.2
      | _=>simp only [Qv,Bool.and_eq_true] at h; exact h.2
     simp only [J3]
     cases hb:Nat.beq k0 id with
     | true=>exact hl
     | false =>
      simp only [cond_false]
      cases o with
      | mapT k1 v path e u xs hole=>cases hole<;>simp only [Qv,Bool.and_eq_true] at h ⊢<;>exact ⟨h.1,ih hl⟩
      | _=>simp only [Qv,Bool.and_eq_true] at h ⊢; exact ⟨h.1,ih hl⟩
   have happ:∀{l m:List (Nat×Ob)},Qv d (l++m)=true→Qv d l=true∧Qv d m=true:=by
    intro l m
    induction l with
    | nil=>intro h; exact ⟨rfl,h⟩
    | cons q l ih =>
     obtain ⟨k0,o⟩:=q
     intro h
     cases o with
     | mapT k1 v path e u xs hole=>cases hole<;>simp only [Qv,Bool.and_eq_true,List.cons_append] at h ⊢<;>exact ⟨⟨h.1,(ih h.2).1⟩,(ih h.2).2⟩
     | _=>simp only [Qv,Bool.and_eq_true,List.cons_append] at h ⊢; exact ⟨⟨h.1,(ih h.2).1⟩,(ih h.2).2⟩
   have happ2:∀{l m:List (Nat×Ob)},Qv d l=true→Qv d m=true→Qv d (l++m)=true:=by
    intro l m hl hm
    induction l with
    | nil=>exact hm
    | cons q l ih =>
     obtain ⟨k0,o⟩:=q
     cases o with
     | mapT k1 v path e u xs hole=>cases hole<;>simp only [Qv,Bool.and_eq_true,List.cons_append] at hl ⊢<;>exact ⟨hl.1,ih hl.2⟩
     | _=>simp only [Qv,Bool.and_eq_true,List.cons_append] at hl ⊢; exact ⟨hl.1,ih hl.2⟩
   exact happ2 (hall (happ b1).1) (happ b1).2
  have s2:V2 (Qc β (upd ρ id (.tuple vs'.toArray)) (J3 S.mem id++S.fixM)) (Qc β ρ' (J3 S.mem id++S.fixM)):=W7 (d:=d) (fun i hi=>⟨rfl,by
   simp only [ρ',upd]
   by_cases h1:i=id
   ·simp [h1]
   ·simp [h1,hi]⟩) hfr2
  have tr:∀{l1 l2 l3:List TL},V2 l1 l2→V2 l2 l3→V2 l1 l3:=by
   intro l1 l2 l3 h1
   induction h1 generalizing l3 with
   | nil=>intro h2; exact h2
   | cons h r ih =>
    intro h2
    cases h2 with
    | cons k q=>exact .cons ⟨fun g=>(k.1 g).trans (h.1 g),fun b o=>(k.2.1 b o).trans (h.2.1 b o),fun ok w hp=>k.2.2 ok w (h.2.2 ok w hp)⟩ (ih q)
  exact tr s1 s2
 ·intro e he
  have hmem:e∈S.flat.env∧V1 d e.av=true:=by
   rcases List.mem_append.1 he with he | he
   ·obtain ⟨m1,m2⟩:=Dt he
    exact ⟨List.mem_append_left _ m1,m2⟩
   ·exact ⟨List.mem_append_right _ he,H2 b2 e he⟩
  refine ⟨hmem.1,fun ok w cs hc=>?_⟩
  have c1:=H4 (ρ':=upd ρ id (.tuple vs'.toArray)) B4 (q1 e hmem.1) hc
  exact Zl (β':=β) (ρ':=ρ') (d:=d) (fun i hi=>⟨rfl,by
   simp only [ρ',upd]
   by_cases h1:i=id
   ·simp [h1]
   ·simp [h1,hi]⟩) hmem.2 c1
end
section
variable {P:Program} {Y:TX} {X:Cx} {S:XS} {β β':Nat→Nat} {ρ ρ':Nat→Value} {a a':Act} {w w':World} {n:Nat}
variable {ops:Array Oper} {Q:Exit→Act→World→Prop} {rest:List Oper} {R:Type} {k:XS→Option R} {r:R}
theorem Qt4 (hT:Qy P Y.T) (h:Rel X β ρ S.flat a w) {o:Oper} (hw:Region.wanted o (yielded ops a.tmps)=true) {t:TypeId} {m ky x:Operand} (hop:o.op=.mapUpdate t m ky x) (hd:o.dst=none) {te tk:TE} {kt et:TypeId} (hte:Qe Y.T t=some te) (htd:te.d=.map kt et) (htk:Qe Y.T kt=some tk)
  {id h' h0:Nat} {kv xv:AV} {kk v u:Ty} {path:List PS} {e:TypeId} {xs:List (kk.De×v.De)} {ys:List u.De} {key kh:kk.De} {y:v.De} (hm:S.ev [] m=some (.m id)) (hkv:S.ev [] ky=some kv) (hx:S.ev [] x=some xv) (hmo:Qb S.mem id=some (.mapT kk v path e u xs (some (kh,h0)))) (hkey:asD [] kv kk=some key)
  (hch:eqK kk key kh=true) (hnav:Qar path xv=some (.s h')) (hmh:Qb S.mem h'=some (.tail e u ys)) (hy:asD S.flat.mem xv v=some y)
  (hdk:Ys Y.T kk tk.d=true) (hka:(kk.agg==kv.isAgg)=true) (hva:(v.agg==xv.isAgg)=true) (hq:E7 { S with mem:=J3 S.mem h' } id=true)
  (hk:k (XS.swap { S with mem:=J3 S.mem h' } id (.mapT kk v path e u (Yx kh y xs) none))=some r) (H:KOk P ops Q rest X S β ρ k r):wpList P ops Q (o::rest) a w:=by
 have hkk:=(V3 (Q9 hdk)).1 hch
 subst hkk
 have hne:id≠h':=fun e'=>by subst e'; rw [hmo] at hmh; cases hmh
 obtain ⟨c1,h1,h2⟩:=h.ev (Qa a) hm
 have h2':c1=[.map (some (β id))]:=h2
 subst h2'
 have h1':a.eval m=.map (some (β id)):=h1
 have hxv:isV (rt v) (okR X β ρ S.flat.mem w) w y (a.eval x):=h.asD (Qa a) hx hy (bEq hva)
 obtain ⟨c3,h3,h4⟩:=h.ev (Qa a) hkv
 have hkr:isV (rt kk) (okR X β ρ S.flat.mem w) w key (a.eval ky):=by
  refine ⟨c3,V8 (M:=[]) (β:=β) (ρ:=ρ) (by simp [Qb]) hkey h4,?_⟩
  rw [h3]; simp only [AV.val,RT.val,Xn,bEq hka]; cases kv.isAgg<;>rfl
 have hke:=Up (Q9 hdk) hkr
 obtain ⟨c5,h5,h6⟩:=h.ev (Qa a) hx
 have hcell:∃c,(Qh (a.eval x))[Jp path]?=some c∧zal c (ρ h'):=by
  obtain ⟨n1,n2⟩:=Bw (Qcq hnav) h6
  obtain ⟨⟨v0,n3,nz⟩,_⟩:=n1
  have n3:(c5.drop (Jp path)).take 1=[v0]:=n3
  have n4:c5[Jp path]?=some v0:=by
   have:=congrArg (fun l=>l[0]?) n3
   simpa [List.getElem?_take] using this
  refine ⟨v0,?_,nz⟩
  have:Qh (a.eval x)=c5:=by
   rw [h5]
   cases path with
   | nil =>
    simp [Qar] at hnav; subst hnav
    exact Z3 h6 rfl rfl
   | cons p ps =>
    cases p with
    | i _ _=>cases xv<;>simp [Qar] at hnav
    | f kf off =>
     cases xv<;>simp only [Qar] at hnav<;>first | (cases hnav; done) | skip
     simp [AV.val,AV.isAgg,Qh]
  rw [this]; exact n4
 have hm':Qb S.flat.mem id=some (.mapT kk v path e u xs (some (key,h0))):=Q0 hmo
 obtain ⟨⟨f,hf,es,clock,hg,hp,hnd,hst,hdp,hvg,_⟩,hmine⟩:=h.ob hm'
 obtain ⟨⟨ht1,ht2⟩,_⟩:=h.ob (Q0 (m:=S.fixM) hmh)
 have hm1:Qb (J3 S.mem h') id=some (.mapT kk v path e u xs (some (key,h0))):=by rw [Pe hne]; exact hmo
 have hpm:S.flat.mem.Perm ([(h',Ob.tail e u ys),(id,Ob.mapT kk v path e u xs (some (key,h0)))]++(J3 (J3 S.mem h') id++S.fixM)):=by
  have p1:=(Xt hmh).append_right S.fixM
  have p2:=((Xt hm1).append_right S.fixM).cons (h',Ob.tail e u ys)
  exact p1.trans p2
 have hF:=Rel.permM (env:=S.flat.env) (m:=S.flat.mem) h hpm
 have hdis:∀g,(ρ h').ownBlock=some g→¬ (g=β id∨∃s∈M9 (ρ id),s.ownBlock=some g):=by
  have hOO:(Qc β ρ ([(h',Ob.tail e u ys),(id,Ob.mapT kk v path e u xs (some (key,h0)))]++(J3 (J3 S.mem h') id++S.fixM))).Pairwise fun s t=>∀g,s.blks g→¬ t.blks g:=hF.dOO
  have:=(List.pairwise_cons.1 hOO).1 (Qp β ρ id (.mapT kk v path e u xs (some (key,h0)))) (.head _)
  exact this
 obtain ⟨q1,q2,q3⟩:=Lp hq
 have hokF:∀{b f:Nat},okR X β ρ S.flat.mem w b f→okR X β ρ ([(h',Ob.tail e u ys),(id,Ob.mapT kk v path e u xs (some (key,h0)))]++(J3 (J3 S.mem h') id++S.fixM)) w b f:=fun hbo =>
  ⟨hbo.1,hbo.2.1,hbo.2.2.1,fun t ht=>hbo.2.2.2 t ((hpm.map _).mem_iff.2 ht)⟩
 have main:∃es' clock' vs',(Instr.mapUpdate t (.map (some (β id))) (Ye kk key) (a.eval x)).run P w=.ok () { w with heap:=w.heap.setIfInBounds (β id) (.map es' clock') } ∧
   G5 (rt kk) (rt v) (rt u) e (Jp path) f none undef (okR X β ρ S.flat.mem w) w (Yx key y xs) es'.toList vs'∧Xq es' clock'∧Oo vs'∧∀s∈vs',s=ρ h'∨s∈M9 (ρ id):=by
  have conv:∀{hv:Value} {xs:List (kk.De×v.De)} {es:List MapEntry} {vs:List Value},G5 (rt kk) (rt v) (rt u) e (Jp path) f none hv (okR X β ρ S.flat.mem w) w xs es vs→G5 (rt kk) (rt v) (rt u) e (Jp path) f none undef (okR X β ρ S.flat.mem w) w xs es vs:=fun hq0=>Oq rfl hq0 fun _ _=>by simp
  rcases Or (Q9 hdk) hxv hcell ht2 hp hnd hdp (fun s hs g hg hg2=>hdis g hg2 (.inr ⟨s,hs,hg⟩)) with ⟨r1,r2,r3⟩ | ⟨j,en,vs',r1,r2,⟨y',r3⟩,r4,⟨xj,r5,r6⟩,r7,r8,r9⟩
  ·rcases Ge hT htk hdk key w (Do hp) with ⟨s1,s2⟩ | ⟨j,en,y',s1,_⟩
   ·refine ⟨_,_,_,(G6 hT hte htd htk hdk hg key).1 s2,?_,Dn hst _ _,r2,?_⟩
    ·simpa using conv (r3 clock)
    ·intro s hs
     rcases List.mem_append.1 hs with hs | hs
     ·exact .inr hs
     ·simp at hs; exact .inl hs
   ·rw [r1] at s1; cases s1
  ·rcases Ge hT htk hdk key w (Do hp) with ⟨s1,s2⟩ | ⟨j',en',y2,s1,s2,s3,s4,s5⟩
   ·rw [r3] at s1; cases s1
   ·have hjj:j'=j:=by
     obtain ⟨x',x1,x2⟩:=Qii (Do hp) s3
     have x3:=Up (Q9 hdk) x2
     rw [s4] at x3
     have x4:=Qih hT htk hdk w x3
     have x5:key=xj.1:=(V3 (Q9 hdk)).1 r6
     have g1:(xs.map Prod.fst)[j']?=some key:=by rw [List.getElem?_map,x1]; show some x'.1=_; rw [←x4]
     have g2:(xs.map Prod.fst)[j]?=some key:=by rw [List.getElem?_map,r5]; show some xj.1=_; rw [←x5]
     obtain ⟨l1,g1'⟩:=List.getElem?_eq_some_iff.1 g1
     obtain ⟨l2,g2'⟩:=List.getElem?_eq_some_iff.1 g2
     have hpw:=List.pairwise_iff_getElem.1 hnd
     rcases Nat.lt_trichotomy j' j with hl | hl | hl
     ·exact absurd (g1'.trans g2'.symm) (hpw _ _ l1 l2 hl)
     ·exact hl
     ·exact absurd (g2'.trans g1'.symm) (hpw _ _ l2 l1 hl)
    subst hjj
    rw [s3] at r1; injection r1 with r1; subst r1
    refine ⟨_,_,vs',(G6 hT hte htd htk hdk hg key).2 j' en' s2 s3 s4,?_,Ik hst _ _ _,r7,r8⟩
    simpa using conv r9
 obtain ⟨es',clock',vs',hrun,hQ,hst',hdp',hvs'⟩:=main
 have hrun':(execOp a.eval o).run P w=.ok .skip { w with heap:=w.heap.setIfInBounds (β id) (.map es' clock') }:=by
  unfold execOp
  rw [hop]
  simp only [h1',hke]
  simp [hrun]
 refine Q8 hw ?_
 unfold Oper.wp
 rw [hrun']
 show wpList P ops Q rest (a.put o.dst undef) _
 rw [hd]
 have hgl:=Yl hg
 have e0:M9 (upd ρ id (.tuple vs'.toArray) id)=vs':=by rw [Jn]; simp [M9]
 have hvb:∀s∈vs',∀g,s.ownBlock=some g→g≠β id:=by
  intro s hs g hg e'
  rcases hvs' s hs with rfl | hs
  ·exact hdis g hg (.inl e')
  ·exact hvg s hs (by rw [hg,e'])
 have hne2:∀b,b≠β id→(w.heap.setIfInBounds (β id) (.map es' clock'))[b]?=w.heap[b]?:=fun b hb=>(MapKept.heap_set hg).2 b hb
 refine H β (upd ρ id (.tuple vs'.toArray)) _ _ _ hk ⟨rfl,rfl,rfl,Zm q3 fun i hi=>⟨rfl,B4 i hi⟩⟩ ?_
 refine Rel.repl (a:=a) (w':={ w with heap:=w.heap.setIfInBounds (β id) (.map es' clock') }) (ρ':=upd ρ id (.tuple vs'.toArray)) (env':=S.flat.env) (A':=[(id,.mapT kk v path e u (Yx key y xs) none)]) hF rfl rfl rfl (by simp) (L:=[β id]) (fun b hb=>hne2 b (by simpa using hb)) ?_ ?_ ?_ ?_ (by simp) (Np B4 q2) fun e he=>⟨he,fun ok w cs hc=>H4 B4 (q1 e he) hc⟩
 ·intro g hg'
  have:g=β id:=by simpa using hg'
  exact ⟨Qp β ρ id (.mapT kk v path e u xs (some (key,h0))),by simp [Qc],fun o=>.inl this⟩
 ·intro t ht g hg'
  have:t=Qp β (upd ρ id (.tuple vs'.toArray)) id (.mapT kk v path e u (Yx key y xs) none):=by simpa [Qc] using ht
  subst this
  simp only [Qp,Ae,e0] at hg'
  rcases hg' with hg' | ⟨s,hs,hg'⟩
  ·exact ⟨Qp β ρ id (.mapT kk v path e u xs (some (key,h0))),by simp [Qc],.inl hg'⟩
  ·rcases hvs' s hs with rfl | hs
   ·exact ⟨Qp β ρ h' (.tail e u ys),by simp [Qc],hg'⟩
   ·exact ⟨Qp β ρ id (.mapT kk v path e u xs (some (key,h0))),by simp [Qc],.inr ⟨s,hs,hg'⟩⟩
 ·intro t ht b o hc
  have:t=Qp β (upd ρ id (.tuple vs'.toArray)) id (.mapT kk v path e u (Yx key y xs) none):=by simpa [Qc] using ht
  subst this
  simp only [Qp,Ae,e0] at hc
  rcases hc with hc | ⟨s,hs,hc,hl⟩
  ·exact ⟨Qp β ρ id (.mapT kk v path e u xs (some (key,h0))),by simp [Qc],.inl hc⟩
  ·rcases hvs' s hs with rfl | hs
   ·exact ⟨Qp β ρ h' (.tail e u ys),by simp [Qc],hc,hl⟩
   ·exact ⟨Qp β ρ id (.mapT kk v path e u xs (some (key,h0))),by simp [Qc],.inr ⟨s,hs,hc,hl⟩⟩
 ·intro ok' hevo hok t ht
  have:t=Qp β (upd ρ id (.tuple vs'.toArray)) id (.mapT kk v path e u (Yx key y xs) none):=by simpa [Qc] using ht
  subst this
  refine ⟨f,hf,es',clock',(MapKept.heap_set hg).1,?_,(Hf (Q9 hdk) key y hnd).1,hst',?_,?_,?_⟩
  ·rw [e0]
   have hevo':Evo (okR X β ρ S.flat.mem w) w { w with heap:=w.heap.setIfInBounds (β id) (.map es' clock') }:=hevo.mono fun b o hbo=>hokF hbo
   exact Ck (Og hQ (fun s hs b hb=>hne2 b (hvb s hs b hb)) hevo') fun b o hbo=>hok b o (hokF hbo)
  ·rw [e0]; exact hdp'
  ·rw [e0]; intro s hs e'; exact hvb s hs _ e' rfl
  ·intro k0 hk0; cases hk0
end
end Gx

/- Steps that make slices. -/
namespace Gx
open Go Go.RowKit Gd
set_option linter.unusedVariables false
set_option linter.unusedSimpArgs false
section
variable {P:Program} {Y:TX} {X:Cx} {S:XS} {β β':Nat→Nat} {ρ ρ':Nat→Value} {a a':Act} {w w':World} {n:Nat}
variable {ops:Array Oper} {Q:Exit→Act→World→Prop} {rest:List Oper} {R:Type} {k:XS→Option R} {r:R}
theorem Yf (d:Nat) (β:Nat→Nat) (ρ:Nat→Value) (v:Value):Dc d β β ρ (upd ρ d v):=fun i h=>⟨rfl,Uv _ _ h⟩
theorem Pg (d:Nat):∀l:List En,Jx (Jx l d) d=Jx l d
 | []=>rfl
 | x::l=>by
  simp only [Jx]
  cases hb:(Nat.beq x.t d||Fq d x.cs) with
  | true=>simpa using Pg d l
  | false=>simp only [cond_false,Jx,hb,Pg d l]
theorem Zg {M:List (Nat×Ob)} (hX:X.n=n) (hr:X.res=[]) (hsz:a.tmps.size=X.n) {d:Nat} (hwd:okW n S d=true) (hF:Qv d M=true) (hI:B1 d S.fix=true) (hp:J9 S.prot d=false) {v:Value} {o:Ob} {T':TL}
  (hS:Sb (fun _=>0) X (Zi (Xs X.n a) d (.v v)) ((S.env++S.fix).map (enD β ρ a)) [] (T'::Qc β ρ M) a' w') (hT:U0 T' (Qp β (upd ρ d v) d o)) (hv:∃A m c,v=.slice A m c) :
  Rel X β (upd ρ d v) ⟨⟨d,[],.s d⟩::(Jx (Y6 d S.env) d++S.fix),(d,o)::M⟩ a' w':=by
 obtain ⟨h1,h2⟩:=J7 hwd hX hr
 have ha:=Yf d β ρ v
 refine Rel.fin (β':=β) (ρ':=upd ρ d v) (mem':=(d,o)::M) (fun _ _=>trivial) hS hsz h1 (.cons hT (W7 ha hF)) (fun e he ok w cs hc=>?_) (fun e he=>?_) (x:=.s d) (c:=[v]) rfl ?_
 ·exact Zl ha (Gh hI h2 e he).2.1 hc
 ·obtain ⟨q1,_,q3,q4⟩:=Gh hI h2 e he
  exact ⟨q1,q3,q4⟩
 ·refine ⟨⟨_,rfl,.inl (by rw [Jn])⟩,?_⟩
  rw [Jn]; exact hv
theorem Kw (o:Oper):o=⟨o.dst,o.op,o.type,o.pos,o.after,o.guard⟩:=by cases o; rfl
theorem Rel.dropM {S:St} (h:Rel X β ρ S a w) {id:Nat} {o:Ob} (hm:Qb S.mem id=some o):Rel X β ρ ⟨S.env,J3 S.mem id⟩ a w:=by
 obtain ⟨l1,l2,e1,_,e3⟩:=Jl hm
 have hsub:(Qc β ρ (l1++l2)).Sublist (Qc β ρ S.mem):=by
  rw [e1]
  refine List.Sublist.map _ ?_
  exact List.Sublist.append_left (List.sublist_cons_self _ _) _
 unfold Rel at h ⊢
 show Sb _ _ _ _ _ (Qc β ρ (J3 S.mem id)) _ _
 rw [e3]
 exact Sb.remake h (fun t' ht'=>.inl ⟨t',hsub.subset ht',fun _ hg=>hg,fun _ _ hc=>hc,(h.own t' (hsub.subset ht')).1⟩) (h.dOO.sublist hsub)
theorem Q47 (hT:Qy P Y.T) (hX:X.n=n) (hr:X.res=[]) (h:Rel X β ρ S.flat a w) {o:Oper} (hw:Region.wanted o (yielded ops a.tmps)=true) {d:Nat} (hd:o.dst=some d) (hwd:okW n S d=true) (hb:okB S d=true)
  {t:TypeId} {l c:Operand} (hop:o.op=.makeSlice t l c) {te ee:TE} {e:TypeId} (hte:Qe Y.T t=some te) (htd:te.d=.slice e) (he:Qe Y.T e=some ee) {lv cv:AV} (hl:S.ev [] l=some lv) (hc:S.ev [] c=some cv)
  {k1 k2:IntKind} {nl nc:Int} (hli:Za lv=some (k1,nl)) (hci:Za cv=some (k2,nc)) {u:Ty} {za:AV} {z:u.De} (hza:Xr u ee.z=some za) (hz:asD [] za u=some z) (hsz:Nat.beq ee.size u.size=true)
  (hzl:Nat.beq (Qh ee.z).length ee.size=true) (hby:Nat.ble 1 ee.bytes=true) {zs:List u.De} (hmk:mkL ee.bytes nl nc z=some zs)
  (hk:k ((S.born d (.row e u zs)).put d [] (.s d))=some r) (H:KOk P ops Q rest X S β ρ k r):wpList P ops Q (o::rest) a w:=by
 obtain ⟨f1,f2,f3⟩:=Zv hb
 obtain ⟨h1,h2⟩:=J7 hwd hX hr
 have hg:=H3 h hw
 rw [Kw o,hd,hop] at hg ⊢
 refine Sn hT h.toG (r:=rt u) hg h1 hte htd he (by rw [Jh]; exact Nat.eq_of_beq_eq_true hsz) hzl hby (fun ok w=>V8 (β:=β) (ρ:=ρ) (M:=[]) (by simp [Qb]) hz (K2 hza))
  (by rw [gvE h (Qa a) hl,h.int (Qa a) hl hli]) (by rw [gvE h (Qa a) hc,h.int (Qa a) hc hci]) hmk fun b a' w' hS=>?_
 refine H β (upd ρ d (.slice (some ⟨b,0,none⟩) zs.length nc.toNat)) _ _ _ hk (U1 f3 (Yf d β ρ _) _ _ _) ?_
 have:=Zg (o:=.row e u zs) hX hr h.sz hwd f1 f2 f3 hS (by simp only [Qp,Jn]; exact U0.refl _) ⟨_,_,_,rfl⟩
 exact this
theorem Q48 (hT:Qy P Y.T) (hX:X.n=n) (hr:X.res=[]) (h:Rel X β ρ S.flat a w) {o:Oper} (hw:Region.wanted o (yielded ops a.tmps)=true) {d:Nat} (hd:o.dst=some d) (hwd:okW n S d=true) (hb:okB S d=true)
  {t:TypeId} (hop:o.op=.buildSlice t 0 ⟨[]⟩) {te ee:TE} {e:TypeId} (hte:Qe Y.T t=some te) (htd:te.d=.slice e) (he:Qe Y.T e=some ee) {u:Ty} (hsz:Nat.beq ee.size u.size=true)
  (hk:k ((S.born d (.row e u [])).put d [] (.s d))=some r) (H:KOk P ops Q rest X S β ρ k r):wpList P ops Q (o::rest) a w:=by
 obtain ⟨f1,f2,f3⟩:=Zv hb
 obtain ⟨h1,h2⟩:=J7 hwd hX hr
 have hg:=H3 h hw
 rw [Kw o,hd,hop] at hg ⊢
 refine Oa hT h.toG (r:=rt u) hg h1 hte htd he fun b a' w' _ hS=>?_
 refine H β (upd ρ d (.slice (some ⟨b,0,none⟩) (List.length ([]:List u.De)) 0)) _ _ _ hk (U1 f3 (Yf d β ρ _) _ _ _) ?_
 have e1:ee.size=(rt u).size:=by rw [Jh]; exact Nat.eq_of_beq_eq_true hsz
 rw [e1] at hS
 have:=Zg (o:=.row e u []) hX hr h.sz hwd f1 f2 f3 (hS.melt0) (by simp only [Qp,Jn]; exact U0.refl _) ⟨_,_,_,rfl⟩
 exact this
theorem Qa1 (h:Rel X β ρ S.flat a w) {u:Ty}:∀{ps:List (Nat×Operand)} {vs:List (Nat×AV)} {xs:List u.De} {j:Nat},Yy S.flat [] ps=some vs→asLs S.flat.mem u vs j=some xs →
  ∃us:List Value,ps.map (fun p=>(p.1,a.eval p.2))=(List.range' j us.length).zip us∧M7 (rt u) (okR X β ρ S.flat.mem w) w xs us∧us.length=xs.length∧evParts (Xs X.n a) ps=some (ps.map (fun p=>(p.1,a.eval p.2)))
 | [],vs,xs,j,he,hx=>by
  simp [Yy] at he; subst he
  simp [asLs] at hx; subst hx
  exact ⟨[],rfl,trivial,rfl,rfl⟩
 | (i,x)::ps,vs,xs,j,he,hx=>by
  simp only [Yy] at he
  split at he
  ·rename_i v l hv hl
   simp at he; subst he
   simp only [asLs] at hx
   obtain ⟨hb,hx⟩:=bvT hx
   simp only [Bool.and_eq_true] at hb
   have:=Nat.eq_of_beq_eq_true hb.1
   subst this
   split at hx
   ·rename_i y ys hy hys
    simp at hx; subst hx
    obtain ⟨us,q1,q2,q3,q4⟩:=Qa1 h (u:=u) (ps:=ps) hl hys
    have hiv:=h.asD (Qa a) hv hy (bEq hb.2)
    refine ⟨a.eval x::us,?_,⟨hiv,q2⟩,by simp [q3],?_⟩
    ·simp only [List.map_cons,List.length_cons,List.range'_succ,List.zip_cons_cons,q1]
    ·simp only [evParts,gvE h (Qa a) hv,q4,List.map_cons]
   ·cases hx
  ·cases he
theorem Q9q (hT:Qy P Y.T) (hX:X.n=n) (hr:X.res=[]) (h:Rel X β ρ S.flat a w) {o:Oper} (hw:Region.wanted o (yielded ops a.tmps)=true) {d:Nat} (hd:o.dst=some d) (hwd:okW n S d=true)
  {t:TypeId} {m:Nat} {ps:List (Nat×Operand)} (hop:o.op=.buildSlice t (m+1) ⟨ps⟩) {te ee:TE} {e:TypeId} (hte:Qe Y.T t=some te) (htd:te.d=.slice e) (he:Qe Y.T e=some ee) {u:Ty} (hsz:Nat.beq ee.size u.size=true)
  {vs:List (Nat×AV)} {xs:List u.De} (hvs:Yy S.flat [] ps=some vs) (hxs:asLs S.flat.mem u vs 0=some xs) (hl:Nat.beq xs.length (m+1)=true) (hsm:Nat.ble ((m+1)*ee.size) 16777216=true) (hpos:Nat.ble 1 ee.size=true)
  (hzl:Nat.beq (Qh ee.z).length ee.size=true) (hk:k (S.put d [] (.d (.sl u) xs))=some r) (H:KOk P ops Q rest X S β ρ k r):wpList P ops Q (o::rest) a w:=by
 obtain ⟨h1,h2⟩:=J7 hwd hX hr
 have hg:=H3 h hw
 obtain ⟨us,q1,q2,q3,q4⟩:=Qa1 h hvs hxs
 have hes:=Nat.eq_of_beq_eq_true hsz
 have hxl:=Nat.eq_of_beq_eq_true hl
 have hcl:∀v∈us,(Qh v).length=ee.size:=by
  have key:∀{xs:List u.De} {us:List Value},M7 (rt u) (okR X β ρ S.flat.mem w) w xs us→∀v∈us,(Qh v).length=ee.size:=by
   intro xs
   induction xs with
   | nil=>intro us hu v hv; cases us with
    | nil=>cases hv
    | cons _ _=>cases hu
   | cons x xs ih =>
    intro us hu v hv
    cases us with
    | nil=>cases hv
    | cons y us =>
     rcases List.mem_cons.1 hv with rfl | hv
     ·rw [(rt u).len (Xm hu.1),Jh,hes]
     ·exact ih hu.2 v hv
  exact key q2
 have hz0:(V0 (Qh ee.z) ((m+1)*ee.size)).length=(m+1)*ee.size:=by simp [V0]
 have hfill:=Sr us 0 (V0 (Qh ee.z) ((m+1)*ee.size)) hcl (by rw [hz0,Nat.zero_add,q3,hxl]; exact Nat.le_refl _)
 rw [←q1] at hfill
 have hfill':G1 (Ab ee.size) (V0 (Qh ee.z) ((m+1)*ee.size)) (ps.map (fun p=>(p.1,a.eval p.2)))=some (us.flatMap Qh):=by
  rw [hfill]
  simp only [Nat.zero_mul,List.take_zero,List.nil_append,Nat.zero_add]
  rw [List.drop_of_length_le (by rw [hz0,q3,hxl]; exact Nat.le_refl _),List.append_nil]
 rw [Kw o,hd,hop] at hg ⊢
 refine A3 hT h.toG (r:=rt u) hg h1 q4 hte htd he (by rw [Jh]; exact hes) hxl hsm (Nat.ble_eq_true_of_le (by have:=Nat.le_of_ble_eq_true hpos; have:=Nat.mul_le_mul (Nat.le_add_left 1 m) this; omega)) hzl hfill' q2 fun A c a' w' hv hS=>?_
 refine H β ρ _ _ _ hk (K4 S d [] _) ?_
 have hfin:=Rel.fin (β':=β) (ρ':=ρ) (env:=S.env++S.fix) (env':=Jx S.env d++S.fix) (mem':=S.mem++S.fixM) (fun _ _=>trivial) hS h.sz h1 (V2.refl _) (fun e he ok w cs hc=>hc) (fun e he=>by
  rcases List.mem_append.1 he with he | he
  ·obtain ⟨p1,p2,p3⟩:=X9 he
   exact ⟨List.mem_append_left _ p1,p2,p3⟩
  ·obtain ⟨p1,p2⟩:=Fx h2 e he
   exact ⟨List.mem_append_right _ he,p1,p2⟩) (x:=.d (.sl u) xs) (c:=[.slice A xs.length c]) rfl ⟨_,rfl,Uh.1 hv⟩
 exact hfin
theorem slV (h:Rel X β ρ S.flat a w) {x:Operand} {xv:AV} {u:Ty} {ys:List u.De} (hx:S.ev [] x=some xv) (hy:asD S.flat.mem xv (.sl u)=some ys) :
  ∃A m c,a.eval x=.slice A m c∧isV (rSl (rt u)) (okR X β ρ S.flat.mem w) w ys (.slice A m c):=by
 have hag:(Ty.sl u).agg=xv.isAgg:=by
  cases xv with
  | d t' y'=>obtain ⟨rfl,_⟩:=Ty.cast_ok (by simpa only [asD] using hy); rfl
  | ag l=>simp [asD] at hy
  | _=>rfl
 have hiv:=h.asD (Qa a) hx hy hag
 obtain ⟨A,c,hev,h1⟩:=E3 (r:=rt u) hiv
 exact ⟨A,_,c,hev,h1⟩
theorem slR (h:Rel X β ρ S.flat a w) {x:Operand} {xv:AV} {u:Ty} {ys:List u.De} (hx:S.ev [] x=some xv) (hy:asR S.flat.mem xv u=some ys) :
  ∃A m c,a.eval x=.slice A m c∧Qb4 (rt u) (okR X β ρ S.flat.mem w) w ys A m c:=by
 unfold asR at hy
 split at hy
 ·rename_i ys' hy'
  injection hy with hy; subst hy
  obtain ⟨A,m,c,h1,h2⟩:=slV h hx hy'
  exact ⟨A,m,c,h1,Nj h2⟩
 ·split at hy
  ·rename_i id hno
   split at hy
   ·rename_i e t zs ho
    obtain ⟨he,hz⟩:=Ty.cast_ok hy
    injection he with he
    subst he
    obtain ⟨c1,h1,⟨v,rfl,hz0⟩,A,m,c,hρ⟩:=h.ev (Qa a) hx
    have hp:=(h.ob ho).1
    have hp':(ml (ρ id) e (rt t) zs).p (okR X β ρ S.flat.mem w) w:=hp
    rw [hρ] at hp'
    have hz':zs=ys:=hz.symm
    subst hz'
    rcases hz0 with hz0 | ⟨h00,A0,hz0⟩
    ·exact ⟨A,m,c,by rw [h1,←hρ,←hz0]; rfl,Qoh hp'⟩
    ·refine ⟨A0,0,0,by rw [h1,←hz0]; rfl,?_⟩
     have hl:Uq (ρ id)=zs.length:=hp.1
     rw [h00] at hl
     have:zs=[]:=List.length_eq_zero_iff.1 hl.symm
     subst this
     exact ⟨[],by simp,rfl,Nat.le_refl _,fun _=>rfl,by simp,fun h=>absurd h (by omega),by simp⟩
   ·cases hy
  ·cases hy
theorem Qpm (hT:Qy P Y.T) (hX:X.n=n) (hr:X.res=[]) (h:Rel X β ρ S.flat a w) {o:Oper} (hw:Region.wanted o (yielded ops a.tmps)=true) {d:Nat} (hd:o.dst=some d) (hwd:okW n S d=true) (hb:okB S d=true)
  {t:TypeId} {s x:Operand} (hop:o.op=.call ⟨.builtin .append,⟨[s,x]⟩,⟨[t,t]⟩⟩) {te ee:TE} {e:TypeId} (hte:Qe Y.T t=some te) (htd:te.d=.slice e) (he:Qe Y.T e=some ee) {u:Ty} (hsz:Nat.beq ee.size u.size=true)
  (hpos:Nat.ble 1 ee.size=true) (hby:Nat.ble 1 ee.bytes=true) (hzl:Nat.beq (Qh ee.z).length ee.size=true) {xv:AV} (hs:S.ev [] s=some .ns) (hx:S.ev [] x=some xv) {ys zs:List u.De} (hy:asR S.flat.mem xv u=some ys)
  (happ:app ee.bytes [] ys=some zs) (hk:k ((S.born d (.row e u zs)).put d [] (.s d))=some r) (H:KOk P ops Q rest X S β ρ k r):wpList P ops Q (o::rest) a w:=by
 obtain ⟨f1,f2,f3⟩:=Zv hb
 obtain ⟨h1,h2⟩:=J7 hwd hX hr
 have hg:=H3 h hw
 obtain ⟨A2,m2,c2,hxe,hyv⟩:=slR h hx hy
 obtain ⟨c1,hse,hs2⟩:=h.ev (Qa a) hs
 have hs2':c1=_:=hs2
 subst hs2'
 have hse':a.eval s=.slice none 0 0:=hse
 have hnil:Sb (fun _=>0) X (Xs X.n a) (S.flat.env.map (enD β ρ a)) [] (ml (.slice none 0 0) e (rt u) []::Qc β ρ S.flat.mem) a w:=Sb.addNilM h.toG e (rt u)
 have hok:∀b o,okR X β ρ S.flat.mem w b o→Q5 X.ok X.w.heap.size (fun _=>0) [] (ml (.slice none 0 0) e (rt u) []::Qc β ρ S.flat.mem) w b o:=by
  rintro b o ⟨o1,o2,o3,o4⟩
  refine ⟨o1,o2,o3,fun t ht hc=>?_⟩
  rcases List.mem_cons.1 ht with rfl | ht
  ·cases hc
  ·exact o4 t ht hc
 rw [Kw o,hd,hop] at hg ⊢
 refine Ad hT hnil [] (Qc β ρ S.flat.mem) (r:=rt u) hg h1 hte htd he (by rw [Jh]; exact Nat.eq_of_beq_eq_true hsz) hzl hpos hby rfl (by rw [gvE h (Qa a) hs,hse']) (by rw [gvE h (Qa a) hx,hxe]) (hyv.weak hok) happ fun A' c' a' w' hS=>?_
 refine H β (upd ρ d (.slice A' zs.length c')) _ _ _ hk (U1 f3 (Yf d β ρ _) _ _ _) ?_
 exact Zg (o:=.row e u zs) hX hr h.sz hwd f1 f2 f3 hS (by simp only [Qp,Jn]; exact U0.refl _) ⟨_,_,_,rfl⟩
theorem Z7 {l m:List (Nat×Ob)} {id:Nat} {o:Ob} (h:Qb l id=some o):J3 (l++m) id=J3 l id++m:=by
 induction l with
 | nil=>simp [Qb] at h
 | cons q l ih =>
  simp only [Qb] at h
  simp only [J3,List.cons_append]
  cases hb:Nat.beq q.1 id with
  | true=>rfl
  | false=>rw [hb] at h; simp only [cond_false,List.cons_append,ih h]
theorem G8 {T:Tab} {G:GL} {D:List DF} {H:HL} {O:List TL} (hT:Qy P T) (h:Sb β X G D H O a w) {t:TypeId} {s x:Operand} {d:Nat} {ps:String} {af:Array Edge} {ty:TypeId} {gd:Option (Nat×Bool)}
  (hg:Ka ops G ⟨some d,.call ⟨.builtin .append,⟨[s,x]⟩,⟨[t,t]⟩⟩,ty,ps,af,gd⟩=some true) (hlt:okD X d=true)
  {τ:Type} {r:RT τ} {ys zs:List τ} {A A2:Option Addr} {m2 c2:Nat} {e:TypeId} {te ee:TE} (ht:Qe T t=some te) (htd:te.d=.slice e) (he:Qe T e=some ee) (hs:ee.size=r.size)
  (hz:Nat.beq (Qh ee.z).length ee.size=true) (hsz:Nat.ble 1 ee.size=true) (hby:Nat.ble 1 ee.bytes=true)
  (hs1:gv G s=some (.v (.slice A 0 0))) (hx1:gv G x=some (.v (.slice A2 m2 c2)))
  (hDy:Qb4 r (Q5 X.ok X.w.heap.size β H O w) w ys A2 m2 c2) (happ:app ee.bytes ([]:List τ) ys=some zs)
  (hk1:zs=[]→∀a',Sb β X (Zi G d (.v (.slice A 0 0))) D H O a' w→wpList P ops Q rest a' w)
  (hk2:∀A' c' a' w',Sb β X (Zi G d (.v (.slice A' zs.length c'))) D H (ml (.slice A' zs.length c') e r zs::O) a' w'→wpList P ops Q rest a' w') :
  wpList P ops Q (⟨some d,.call ⟨.builtin .append,⟨[s,x]⟩,⟨[t,t]⟩⟩,ty,ps,af,gd⟩::rest) a w:=by
 obtain ⟨hbytes,hzs⟩:=Di happ
 simp only [List.nil_append,List.length_nil,Nat.zero_add] at hbytes hzs
 subst hzs
 have h0:=Sb.addNilM h e r
 have hokn:∀b o,Q5 X.ok X.w.heap.size β H O w b o→Q5 X.ok X.w.heap.size β H (ml (.slice none 0 0) e r []::O) w b o:=by
  rintro b o ⟨o1,o2,o3,o4⟩
  refine ⟨o1,o2,o3,fun t ht hc=>?_⟩
  rcases List.mem_cons.1 ht with rfl | ht
  ·cases hc
  ·exact o4 t ht hc
 obtain ⟨csy,hcy1,hyl,hmc2,hA2,hcy2,hcy3,hcy4⟩:=hDy.weak hokn
 have hzl:=Nat.eq_of_beq_eq_true hz
 have hsz':0<ee.size:=Nat.le_of_ble_eq_true hsz
 have hby':0<ee.bytes:=Nat.le_of_ble_eq_true hby
 have hu:P.underlying t=some (.slice e):=by rw [(Js hT ht).2,htd]
 obtain ⟨i,hi,hz',hsi,hbi⟩:=Kt hT he
 have hm2b:zs.length≤140737488355328:=Nat.le_trans (Nat.le_mul_of_pos_right _ hby') hbytes
 have hm:(Array.mk [s,x]).map a.eval=⟨[.slice A 0 0,.slice A2 m2 c2]⟩:=by simp [h.ev hs1,h.ev hx1,Vs]
 have hexec:∀v' w1,(Builtin.append_ ⟨[t,t]⟩ ty ⟨[.slice A 0 0,.slice A2 m2 c2]⟩).run P w=.ok v' w1→(execOp a.eval ⟨some d,.call ⟨.builtin .append,⟨[s,x]⟩,⟨[t,t]⟩⟩,ty,ps,af,gd⟩).run P w=.ok (.value v') w1:=by
  intro v' w1 hr
  unfold execOp
  simp [resolve,hm,invoke,builtin,hr]
 rcases Nat.eq_zero_or_pos m2 with h0' | h0'
 ·subst h0'
  have hx:zs=[]:=List.eq_nil_of_length_eq_zero hyl
  have hrun:(Builtin.append_ ⟨[t,t]⟩ ty ⟨[.slice A 0 0,.slice A2 0 c2]⟩).run P w=.ok (.slice A 0 0) w:=by
   cases A<;>cases A2<;>simp [Builtin.append_,run_underlying hu,Go.sizeOf,typeInfo,hi,Builtin.lenOf,Builtin.firstCells,loadCells,loadCellsFrom,storeCells]
  refine Q8 (Ue h hg) (Jv (hexec _ _ hrun) ?_)
  exact hk1 hx _ (h.put hlt (.v _))
 ·obtain ⟨b,o,rfl,hc⟩:=hcy3 h0'
  have hnews:∀j u,csy[j]?=some u→w.cell? ((⟨b,o,none⟩:Addr).add j)=some u:=fun j u hu=>by rw [Xe]; exact hc j u hu
  have hone:(Builtin.append_ ⟨[t,t]⟩ ty ⟨[.slice A 0 0,.slice (some ⟨b,o,none⟩) m2 c2]⟩).run P w=(Builtin.append_ ⟨[t,t]⟩ ty ⟨[.slice none 0 0,.slice (some ⟨b,o,none⟩) m2 c2]⟩).run P w:=by
   have hn:=run_append_nil (P:=P) w t ty e i ee.z hu hi hz' (⟨b,o,none⟩) m2 c2 csy (by rw [hsi,hs]; exact hcy1) hnews h0' (by omega) (by rw [hbi,←hyl]; omega)
   cases A with
   | none=>rfl
   | some ad =>
    have:=run_append_grow (P:=P) w t ty e i ee.z hu hi hz' ad 0 0 [] (by simp) (by simp) ⟨b,o,none⟩ m2 c2 csy (by rw [hsi,hs]; exact hcy1) hnews (by omega) (by omega) (growslice_fits (by omega) (by rw [hbi,Nat.zero_add,←hyl]; exact hbytes))
    have hh:(Builtin.append_ #[t,t] ty #[.slice (some ad) 0 0,.slice (some ⟨b,o,none⟩) m2 c2]).run P w=(Builtin.append_ #[t,t] ty #[.slice none 0 0,.slice (some ⟨b,o,none⟩) m2 c2]).run P w:=by
     rw [this,hn]; simp
    exact hh
  obtain ⟨v',w1,hrun,hown',hgrow,hblk⟩:=Dj (P:=P) (w:=w) (ty:=ty) hT ht htd he hzl hsz' hby' (World.ownsRowS_nil w 0 e ee.size) (Nat.zero_le _) (k:=m2) (c:=c2) (A:=some ⟨b,o,none⟩) (news:=csy) (by rw [hs]; exact hcy1) hA2 (fun ad had=>by injection had with had; subst had; exact hnews) hcy2 (by rw [←hyl,Nat.zero_add]; exact hbytes)
  refine Q8 (Ue h hg) (Jv (hexec _ _ (hone.trans hrun)) ?_)
  have hform:∃A' c',v'=.slice A' (0+m2) c':=by
   rcases hown'.2 with ⟨rfl,h0⟩ | ⟨g,cap,cur,fz,rfl,_⟩
   ·exact ⟨none,0,by rw [h0]⟩
   ·exact ⟨_,cap,rfl⟩
  obtain ⟨A',c',rfl⟩:=hform
  rw [Nat.zero_add] at hown'
  rw [Nat.zero_add] at hblk
  have hS:Sb β X G D H (ml (.slice A' m2 c') e r zs::O) a w1:=by
   refine h0.upd (O1:=[]) rfl hgrow.os hgrow.tape hgrow.output hgrow.size (fun b hb hn=>hgrow.block b hb fun e=>hn e.symm) (fun b o hb=>hb) (fun g hg=>?_) fun hevo hok=>?_
   ·rcases hblk with he1 | ⟨he1,_⟩
    ·exact .inl (by have hg:(Value.slice A' m2 c').ownBlock=some g:=hg; rw [he1] at hg; exact hg)
    ·have hg:(Value.slice A' m2 c').ownBlock=some g:=hg
     rw [he1] at hg; injection hg with hg; exact .inr (by omega)
   ·refine ⟨hyl.symm,csy,by rw [←hs]; exact hown',Ki (X6 ?_ hevo) hok⟩
    exact Ie zs csy (by rw [hcy1,hyl]) hcy4
  have:=hk2 A' c' (a.put (some d) (.slice A' m2 c')) w1
  rw [hyl] at this
  rw [Nat.zero_add]
  exact this (hS.put hlt (.v _))
theorem Ph {M:List (Nat×Ob)} (hX:X.n=n) (hr:X.res=[]) (hsz:a.tmps.size=X.n) {d:Nat} (hwd:okW n S d=true) (hF:Qv d M=true) (hI:B1 d S.fix=true) (hp:J9 S.prot d=false) {A:Option Addr} {e:TypeId} {u:Ty}
  (hS:Sb (fun _=>0) X (Zi (Xs X.n a) d (.v (.slice A 0 0))) ((S.env++S.fix).map (enD β ρ a)) [] (Qc β ρ M) a' w') :
  Rel X β (upd ρ d (.slice none 0 0)) ⟨⟨d,[],.s d⟩::(Jx (Y6 d S.env) d++S.fix),(d,.row e u [])::M⟩ a' w':=by
 obtain ⟨h1,h2⟩:=J7 hwd hX hr
 have ha:=Yf d β ρ (.slice none 0 0)
 refine Rel.fin (β':=β) (ρ':=upd ρ d (.slice none 0 0)) (mem':=(d,.row e u [])::M) (fun _ _=>trivial) (Sb.addNilM hS e (rt u)) hsz h1 (.cons (by simp only [Qp,Jn]; exact U0.refl _) (W7 ha hF)) (fun e he ok w cs hc=>?_) (fun e he=>?_) (x:=.s d) (c:=[.slice A 0 0]) rfl ?_
 ·exact Zl ha (Gh hI h2 e he).2.1 hc
 ·obtain ⟨q1,_,q3,q4⟩:=Gh hI h2 e he
  exact ⟨q1,q3,q4⟩
 ·refine ⟨⟨_,rfl,.inr ⟨by rw [Jn],A,rfl⟩⟩,?_⟩
  rw [Jn]; exact ⟨_,_,_,rfl⟩
theorem Qpn (hT:Qy P Y.T) (hX:X.n=n) (hr:X.res=[]) (h:Rel X β ρ S.flat a w) {o:Oper} (hw:Region.wanted o (yielded ops a.tmps)=true) {d:Nat} (hd:o.dst=some d) (hwd:okW n S d=true) {id:Nat}
  (hb:okB ⟨S.env,S.fix,J3 S.mem id,S.fixM,S.prot⟩ d=true)
  {t:TypeId} {s x:Operand} (hop:o.op=.call ⟨.builtin .append,⟨[s,x]⟩,⟨[t,t]⟩⟩) {te ee:TE} {e:TypeId} (hte:Qe Y.T t=some te) (htd:te.d=.slice e) (he:Qe Y.T e=some ee) {u:Ty} (hsz:Nat.beq ee.size u.size=true)
  (hpos:Nat.ble 1 ee.size=true) (hby:Nat.ble 1 ee.bytes=true) (hzl:Nat.beq (Qh ee.z).length ee.size=true) {xv:AV} (hs:S.ev [] s=some (.s id)) (hx:S.ev [] x=some xv) {xs ys zs:List u.De} (hm:Qb S.mem id=some (.row e u xs)) (hy:asR S.flat.mem xv u=some ys)
  (happ:app ee.bytes xs ys=some zs) (hk:k (({ S with mem:=J3 S.mem id }.born d (.row e u zs)).put d [] (.s d))=some r) (H:KOk P ops Q rest X S β ρ k r):wpList P ops Q (o::rest) a w:=by
 obtain ⟨f1,f2,f3⟩:=Zv hb
 obtain ⟨h1,h2⟩:=J7 hwd hX hr
 have hg:=H3 h hw
 obtain ⟨A2,m2,c2,hxe,hyv⟩:=slR h hx hy
 obtain ⟨c1,hse,⟨v0,hs2,hz0⟩,A,m,c,hρ⟩:=h.ev (Qa a) hs
 subst hs2
 have hm':Qb S.flat.mem id=some (.row e u xs):=Q0 hm
 have e4':J3 S.mem id++S.fixM=J3 S.flat.mem id:=(Z7 hm).symm
 rcases hz0 with hz0 | ⟨h00,A0,hz0⟩
 case inr =>
  have hse':a.eval s=.slice A0 0 0:=by rw [hse,←hz0]; rfl
  have hxs:xs=[]:=by
   have:=(h.ob hm').1.1
   rw [h00] at this
   exact List.length_eq_zero_iff.1 this.symm
  subst hxs
  have hR:=h.dropM hm'
  have hok':∀b o,okR X β ρ S.flat.mem w b o→Q5 X.ok X.w.heap.size (fun _=>0) [] (Qc β ρ (J3 S.flat.mem id)) w b o:=by
   rintro b o ⟨o1,o2,o3,o4⟩
   refine ⟨o1,o2,o3,fun t ht hc=>?_⟩
   obtain ⟨l1,l2,e1,_,e3⟩:=Jl hm'
   obtain ⟨q,hq,rfl⟩:=List.mem_map.1 ht
   rw [e3] at hq
   refine o4 _ (List.mem_map.2 ⟨q,?_,rfl⟩) hc
   rw [e1]
   rcases List.mem_append.1 hq with hq | hq
   ·exact List.mem_append_left _ hq
   ·exact List.mem_append_right _ (.tail _ hq)
  rw [Kw o,hd,hop] at hg ⊢
  refine G8 (a:=a) hT hR.toG (r:=rt u) hg h1 hte htd he (by rw [Jh]; exact Nat.eq_of_beq_eq_true hsz) hzl hpos hby (by rw [gvE h (Qa a) hs,hse']) (by rw [gvE h (Qa a) hx,hxe]) (hyv.weak hok') happ (fun hz a' hS=>?_) fun A' c' a' w' hS=>?_
  ·subst hz
   rw [←e4'] at hS
   exact H β (upd ρ d (.slice none 0 0)) _ _ _ hk ⟨rfl,rfl,rfl,Zm f3 (Yf d β ρ _)⟩ (Ph (S:={ S with mem:=J3 S.mem id }) hX hr h.sz hwd f1 f2 f3 hS)
  ·rw [←e4'] at hS
   refine H β (upd ρ d (.slice A' zs.length c')) _ _ _ hk ⟨rfl,rfl,rfl,Zm f3 (Yf d β ρ _)⟩ ?_
   exact Zg (S:={ S with mem:=J3 S.mem id }) (o:=.row e u zs) hX hr h.sz hwd f1 f2 f3 hS (by simp only [Qp,Jn]; exact U0.refl _) ⟨_,_,_,rfl⟩
 have hse':a.eval s=.slice A m c:=by rw [hse,←hρ,←hz0]; rfl
 obtain ⟨l1,l2,e1,_,e3⟩:=Jl hm'
 have hO:Qc β ρ S.flat.mem=Qc β ρ l1++ml (.slice A m c) e (rt u) xs::Qc β ρ l2:=by rw [e1]; simp [Qc,Qp,hρ]
 rw [Kw o,hd,hop] at hg ⊢
 refine Ad hT h.toG (Qc β ρ l1) (Qc β ρ l2) (r:=rt u) hg h1 hte htd he (by rw [Jh]; exact Nat.eq_of_beq_eq_true hsz) hzl hpos hby hO (by rw [gvE h (Qa a) hs,hse']) (by rw [gvE h (Qa a) hx,hxe]) hyv happ fun A' c' a' w' hS=>?_
 refine H β (upd ρ d (.slice A' zs.length c')) _ _ _ hk ⟨rfl,rfl,rfl,Zm f3 (Yf d β ρ _)⟩ ?_
 have e4:J3 S.mem id++S.fixM=l1++l2:=by rw [←Z7 hm]; exact e3
 have hS':=hS.perm (O':=ml (.slice A' zs.length c') e (rt u) zs::Qc β ρ (J3 S.mem id++S.fixM)) (by rw [e4]; simp only [Qc,List.map_append]; exact List.perm_middle)
 exact Zg (S:={ S with mem:=J3 S.mem id }) (o:=.row e u zs) hX hr h.sz hwd f1 f2 f3 hS' (by simp only [Qp,Jn]; exact U0.refl _) ⟨_,_,_,rfl⟩
theorem Qlb (hT:Qy P Y.T) (hX:X.n=n) (hr:X.res=[]) (h:Rel X β ρ S.flat a w) {o:Oper} (hw:Region.wanted o (yielded ops a.tmps)=true) {d:Nat} (hd:o.dst=some d) (hwd:okW n S d=true) {id:Nat}
  (hb:okB ⟨S.env,S.fix,J3 S.mem id,S.fixM,S.prot⟩ d=true)
  {t:TypeId} {s x:Operand} (hop:o.op=.call ⟨.builtin .append,⟨[s,x]⟩,⟨[t,t]⟩⟩) {te ee:TE} {e:TypeId} (hte:Qe Y.T t=some te) (htd:te.d=.slice e) (he:Qe Y.T e=some ee) {u:Ty} (hsz:Nat.beq ee.size u.size=true)
  (hpos:Nat.ble 1 ee.size=true) (hby:Nat.ble 1 ee.bytes=true) (hzl:Nat.beq (Qh ee.z).length ee.size=true) {xv:AV} (hs:S.ev [] s=some (.s id)) (hx:S.ev [] x=some xv) {xs ys zs:List u.De} (hm:Qb S.mem id=some (.tail e u xs)) (hy:asD S.flat.mem xv (.sl u)=some ys)
  (happ:app ee.bytes xs ys=some zs) (hk:k (({ S with mem:=J3 S.mem id }.born d (.tail e u zs)).put d [] (.s d))=some r) (H:KOk P ops Q rest X S β ρ k r):wpList P ops Q (o::rest) a w:=by
 obtain ⟨f1,f2,f3⟩:=Zv hb
 obtain ⟨h1,h2⟩:=J7 hwd hX hr
 have hg:=H3 h hw
 obtain ⟨A2,m2,c2,hxe,hyv⟩:=slV h hx hy
 obtain ⟨c1,hse,⟨v0,hs2,hz0⟩,A,m,c,hρ⟩:=h.ev (Qa a) hs
 subst hs2
 have hm':Qb S.flat.mem id=some (.tail e u xs):=Q0 hm
 have e4':J3 S.mem id++S.fixM=J3 S.flat.mem id:=(Z7 hm).symm
 rcases hz0 with hz0 | ⟨h00,A0,hz0⟩
 case inr =>
  have hse':a.eval s=.slice A0 0 0:=by rw [hse,←hz0]; rfl
  have hxs:xs=[]:=by
   have:=(h.ob hm').1.1
   rw [h00] at this
   obtain ⟨A',c',q1,_⟩:=E3 this
   injection q1 with _ q2
   exact List.length_eq_zero_iff.1 q2.symm
  subst hxs
  have hR:=h.dropM hm'
  have hok':∀b o,okR X β ρ S.flat.mem w b o→Q5 X.ok X.w.heap.size (fun _=>0) [] (Qc β ρ (J3 S.flat.mem id)) w b o:=by
   rintro b o ⟨o1,o2,o3,o4⟩
   refine ⟨o1,o2,o3,fun t ht hc=>?_⟩
   obtain ⟨l1,l2,e1,_,e3⟩:=Jl hm'
   obtain ⟨q,hq,rfl⟩:=List.mem_map.1 ht
   rw [e3] at hq
   refine o4 _ (List.mem_map.2 ⟨q,?_,rfl⟩) hc
   rw [e1]
   rcases List.mem_append.1 hq with hq | hq
   ·exact List.mem_append_left _ hq
   ·exact List.mem_append_right _ (.tail _ hq)
  have hfz:∀{ρ1:Nat→Value} {a1:Act} {w1:World},Rel X β ρ1 ⟨⟨d,[],.s d⟩::(Jx (Y6 d S.env) d++S.fix),(d,.row e u zs)::(J3 S.mem id++S.fixM)⟩ a1 w1→Rel X β ρ1 ⟨⟨d,[],.s d⟩::(Jx (Y6 d S.env) d++S.fix),(d,.tail e u zs)::(J3 S.mem id++S.fixM)⟩ a1 w1 :=
   fun hq=>Rel.freeze1 (l1:=[]) hq (by rw [←Nat.eq_of_beq_eq_true hsz]; exact hpos)
  rw [Kw o,hd,hop] at hg ⊢
  refine G8 (a:=a) hT hR.toG (r:=rt u) hg h1 hte htd he (by rw [Jh]; exact Nat.eq_of_beq_eq_true hsz) hzl hpos hby (by rw [gvE h (Qa a) hs,hse']) (by rw [gvE h (Qa a) hx,hxe]) (Nj (hyv.weak hok')) happ (fun hz a' hS=>?_) fun A' c' a' w' hS=>?_
  ·subst hz
   rw [←e4'] at hS
   exact H β (upd ρ d (.slice none 0 0)) _ _ _ hk ⟨rfl,rfl,rfl,Zm f3 (Yf d β ρ _)⟩ (hfz (Ph (S:={ S with mem:=J3 S.mem id }) hX hr h.sz hwd f1 f2 f3 hS))
  ·rw [←e4'] at hS
   refine H β (upd ρ d (.slice A' zs.length c')) _ _ _ hk ⟨rfl,rfl,rfl,Zm f3 (Yf d β ρ _)⟩ (hfz ?_)
   exact Zg (S:={ S with mem:=J3 S.mem id }) (o:=.row e u zs) hX hr h.sz hwd f1 f2 f3 hS (by simp only [Qp,Jn]; exact U0.refl _) ⟨_,_,_,rfl⟩
 have hse':a.eval s=.slice A m c:=by rw [hse,←hρ,←hz0]; rfl
 have hes:ee.size=(rt u).size:=by rw [Jh]; exact Nat.eq_of_beq_eq_true hsz
 obtain ⟨l1,l2,e1,_,e3⟩:=Jl hm'
 have hO:Qc β ρ S.flat.mem=Qc β ρ l1++Ui (.slice A m c) e (rt u) xs::Qc β ρ l2:=by rw [e1]; simp [Qc,Qp,hρ]
 have hG:=h.toG
 rw [hO] at hG
 have hxv:isV (rSl (rt u)) (Q5 X.ok X.w.heap.size (fun _=>0) [] (Qc β ρ S.flat.mem) w) w xs (.slice A m c):=by
  have:=(h.ob hm').1.1
  rw [hρ] at this
  exact this
 have hsim:V2 (Qc β ρ l1++Ui (.slice A m c) e (rt u) xs::Qc β ρ l2) (Qc β ρ l1++tl (.slice A m c) e ee.size::Qc β ρ l2) :=
  (V2.refl _).append (.cons ⟨fun _=>Iff.rfl,fun _ _=>by rw [hes]; exact Iff.rfl,fun _ _ hp=>by rw [hes]; exact hp.2⟩ (V2.refl _))
 have hG2:=Sb.simO hG hsim
 have hok:∀b o,Q5 X.ok X.w.heap.size (fun _=>0) [] (Qc β ρ S.flat.mem) w b o→Q5 X.ok X.w.heap.size (fun _=>0) [] (Qc β ρ l1++tl (.slice A m c) e ee.size::Qc β ρ l2) w b o:=by rw [hO]; exact hsim.ok
 have hG3:=hG2.addD (d:=DF.v (rSl (rt u)) xs (.slice A m c)) (hxv.weak hok)
 rw [Kw o,hd,hop] at hg ⊢
 refine L9 hT hG3 0 0 (Qc β ρ l1) (Qc β ρ l2) (r:=rt u) hg h1 hte htd he hes hzl hpos hby rfl (by rw [gvE h (Qa a) hs,hse']) (by rw [gvE h (Qa a) hx,hxe]) rfl (hyv.weak hok) happ fun A' c' a' w' hv' hS=>?_
 refine H β (upd ρ d (.slice A' zs.length c')) _ _ _ hk ⟨rfl,rfl,rfl,Zm f3 (Yf d β ρ _)⟩ ?_
 have e4:J3 S.mem id++S.fixM=l1++l2:=by rw [←Z7 hm]; exact e3
 have hS1:Sb (fun _=>0) X (Zi (Xs X.n a) d (.v (.slice A' zs.length c'))) (S.flat.env.map (enD β ρ a)) [] (Qc β ρ l1++tl (.slice A' zs.length c') e ee.size::Qc β ρ l2) a' w':={ hS with dat:=hS.dat.2 }
 have hpw:=List.pairwise_append.1 hS1.dOO
 have hS2:Sb (fun _=>0) X (Zi (Xs X.n a) d (.v (.slice A' zs.length c'))) (S.flat.env.map (enD β ρ a)) [] (Qc β ρ l1++Ui (.slice A' zs.length c') e (rt u) zs::Qc β ρ l2) a' w':=by
  refine Sb.remake hS1 (fun t' ht'=>?_) ?_
  ·rcases List.mem_append.1 ht' with ht' | ht'
   ·exact .inl ⟨t',by simp [ht'],fun _ hg=>hg,fun _ _ hc=>hc,(hS1.own t' (by simp [ht'])).1⟩
   ·rcases List.mem_cons.1 ht' with rfl | ht'
    ·refine .inl ⟨tl (.slice A' zs.length c') e ee.size,by simp,fun _ hg=>hg,fun _ _ hc=>by rw [hes]; exact hc,hv',?_⟩
     have:=(hS1.own (tl (.slice A' zs.length c') e ee.size) (by simp)).1
     rw [hes] at this
     exact this
    ·exact .inl ⟨t',by simp [ht'],fun _ hg=>hg,fun _ _ hc=>hc,(hS1.own t' (by simp [ht'])).1⟩
  ·have hp2:=List.pairwise_cons.1 hpw.2.1
   refine List.pairwise_append.2 ⟨hpw.1,List.pairwise_cons.2 ⟨fun u hu=>hp2.1 u hu,hp2.2⟩,fun t ht t' ht'=>?_⟩
   rcases List.mem_cons.1 ht' with rfl | ht'
   ·exact hpw.2.2 t ht (tl (.slice A' zs.length c') e ee.size) (.head _)
   ·exact hpw.2.2 t ht t' (.tail _ ht')
 have hS':=hS2.perm (O':=Ui (.slice A' zs.length c') e (rt u) zs::Qc β ρ (J3 S.mem id++S.fixM)) (by rw [e4]; simp only [Qc,List.map_append]; exact List.perm_middle)
 exact Zg (S:={ S with mem:=J3 S.mem id }) (o:=.tail e u zs) hX hr h.sz hwd f1 f2 f3 hS' (by simp only [Qp,Jn]; exact U0.refl _) ⟨_,_,_,rfl⟩
theorem Q49 (hT:Qy P Y.T) (hX:X.n=n) (hr:X.res=[]) (h:Rel X β ρ S.flat a w) {o:Oper} (hw:Region.wanted o (yielded ops a.tmps)=true) {d:Nat} (hd:o.dst=some d) (hwd:okW n S d=true) (hb:okB S d=true)
  {t:TypeId} {s x:Operand} (hop:o.op=.call ⟨.builtin .append,⟨[s,x]⟩,⟨[t,t]⟩⟩) {te ee:TE} {e:TypeId} (hte:Qe Y.T t=some te) (htd:te.d=.slice e) (he:Qe Y.T e=some ee) {u:Ty} (hsz:Nat.beq ee.size u.size=true)
  (hpos:Nat.ble 1 ee.size=true) (hby:Nat.ble 1 ee.bytes=true) (hzl:Nat.beq (Qh ee.z).length ee.size=true) {xv:AV} (hs:S.ev [] s=some .z) (hx:S.ev [] x=some xv) {ys zs:List u.De} (hy:asR S.flat.mem xv u=some ys)
  (happ:app ee.bytes [] ys=some zs) (hk:k ((S.born d (.row e u zs)).put d [] (.s d))=some r) (H:KOk P ops Q rest X S β ρ k r):wpList P ops Q (o::rest) a w:=by
 obtain ⟨f1,f2,f3⟩:=Zv hb
 obtain ⟨h1,h2⟩:=J7 hwd hX hr
 have hg:=H3 h hw
 obtain ⟨A2,m2,c2,hxe,hyv⟩:=slR h hx hy
 obtain ⟨c1,hse,A,hs2⟩:=h.ev (Qa a) hs
 subst hs2
 have hse':a.eval s=.slice A 0 0:=hse
 rw [Kw o,hd,hop] at hg ⊢
 refine G8 hT h.toG (r:=rt u) hg h1 hte htd he (by rw [Jh]; exact Nat.eq_of_beq_eq_true hsz) hzl hpos hby (by rw [gvE h (Qa a) hs,hse']) (by rw [gvE h (Qa a) hx,hxe]) hyv happ (fun hz a' hS=>?_) fun A' c' a' w' hS=>?_
 ·subst hz
  exact H β (upd ρ d (.slice none 0 0)) _ _ _ hk (U1 f3 (Yf d β ρ _) _ _ _) (Ph hX hr h.sz hwd f1 f2 f3 hS)
 ·refine H β (upd ρ d (.slice A' zs.length c')) _ _ _ hk (U1 f3 (Yf d β ρ _) _ _ _) ?_
  exact Zg (o:=.row e u zs) hX hr h.sz hwd f1 f2 f3 hS (by simp only [Qp,Jn]; exact U0.refl _) ⟨_,_,_,rfl⟩
end
end Gx

/- Strings as bytes, strings that are appended to bytes. -/
namespace Gx
open Go Go.RowKit Go.Lib Gd
set_option linter.unusedVariables false
set_option linter.unusedSimpArgs false
set_option linter.constructorNameAsVariable false
theorem Aj (l:Str):strCells ⟨⟨l⟩⟩=(U3 l).map (Value.int .u8):=by simp [strCells,U3]
theorem Cv {k:IntKind} {ok:Ok} {w:World}:∀xs:List Int,Zz (E2 k) ok w xs (xs.map (Value.int k))
 | []=>rfl
 | x::xs=>⟨[.int k x],xs.map (Value.int k),rfl,rfl,Cv xs⟩
theorem Qt5 {v:Value} (h:Q4z v=true):v=.int .u8 0:=by
 unfold Q4z at h
 split at h
 ·rfl
 ·cases h
theorem Qt6 {d:TypeDesc} (h:Q40 d=true):d=.int .u8:=by
 unfold Q40 at h
 split at h
 ·rfl
 ·cases h
theorem Qlc {d:TypeDesc} (h:Qf6 d=true):d=.string:=by
 unfold Qf6 at h
 split at h
 ·rfl
 ·cases h
theorem Qcr (w:World) (e:TypeId) (s:ByteArray):Below w.heap.size w (bytesWorld w e s) :=
 ⟨rfl,rfl,rfl,by rw [bytesWorld_size]; omega,fun b hb=>bytesWorld_at_old w e s b hb⟩
section
variable {P:Program} {T:Tab} {β:Nat→Nat} {X:Cx} {G:GL} {D:List DF} {H:HL} {O:List TL} {a:Act} {w w':World}
variable {ops:Array Oper} {Q:Exit→Act→World→Prop} {rest:List Oper}
theorem Pi (hT:Qy P T) (h:Sb β X G D H O a w) (O1 O2:List TL) {t t':TypeId} {s x:Operand} {d:Nat} {ps:String} {af:Array Edge} {ty:TypeId} {gd:Option (Nat×Bool)}
  (hg:Ka ops G ⟨some d,.call ⟨.builtin .append,⟨[s,x]⟩,⟨[t,t']⟩⟩,ty,ps,af,gd⟩=some true) (hlt:okD X d=true)
  {xs zs:List Int} {l:Str} {A:Option Addr} {m c:Nat} {e:TypeId} {te te' ee:TE} (ht:Qe T t=some te) (htd:te.d=.slice e) (ht':Qe T t'=some te') (htd':te'.d=.string) (he:Qe T e=some ee)
  (hz:ee.z=.int .u8 0) (hsz:ee.size=1) (hby:ee.bytes=1)
  (hO:O=O1++ml (.slice A m c) e (E2 .u8) xs::O2) (hs1:gv G s=some (.v (.slice A m c))) (hx1:gv G x=some (.v (Yu l))) (happ:app 1 xs (U3 l)=some zs)
  (hk:∀A' c' a' w',Sb β X (Zi G d (.v (.slice A' zs.length c'))) D H (O1++ml (.slice A' zs.length c') e (E2 .u8) zs::O2) a' w'→wpList P ops Q rest a' w') :
  wpList P ops Q (⟨some d,.call ⟨.builtin .append,⟨[s,x]⟩,⟨[t,t']⟩⟩,ty,ps,af,gd⟩::rest) a w:=by
 obtain ⟨hbytes,rfl⟩:=Di happ
 have hmem:ml (.slice A m c) e (E2 .u8) xs∈O:=by rw [hO]; simp
 obtain ⟨⟨hl,xs0,hown,hr⟩,hmine⟩:=h.own _ hmem
 obtain ⟨i,hi,hz',hs',hb'⟩:=Kt hT he
 simp only [Uq] at hown hl
 have hll:(U3 l).length=l.length:=by simp [U3]
 have hu:=(Js hT ht).2; rw [htd] at hu
 have hu':=(Js hT ht').2; rw [htd'] at hu'
 have hsl:(⟨⟨l⟩⟩:ByteArray).size=l.length:=rfl
 obtain ⟨v',w1,hrun,hown',hgrow,hblk⟩:=Bs (P:=P) (w:=w) (ty:=ty) hu hu' hi (by rw [hz',hz]) (by rw [hs',hsz]) (by rw [hb',hby]) (base:=0) (v:=.slice A m c) (n:=m) (xs:=xs0) hown ⟨⟨l⟩⟩ (by rw [hsl]; omega) (Nat.zero_le _)
 rw [hsl] at hown'
 have hrun':(execOp a.eval ⟨some d,.call ⟨.builtin .append,⟨[s,x]⟩,⟨[t,t']⟩⟩,ty,ps,af,gd⟩).run P w=.ok (.value v') w1:=by
  unfold execOp
  have hm:(Array.mk [s,x]).map a.eval=⟨[.slice A m c,Yu l]⟩:=by simp [h.ev hs1,h.ev hx1,Vs]
  simp only [resolve,hm,invoke,builtin]
  simp [hrun,Yu]
 have hform:∃A' c',v'=.slice A' (m+l.length) c':=by
  rcases hown'.2 with ⟨rfl,h0⟩ | ⟨g,cap,cur,fz,rfl,_⟩
  ·exact ⟨none,0,by rw [h0]⟩
  ·exact ⟨_,cap,rfl⟩
 obtain ⟨A',c',rfl⟩:=hform
 have hlen:m+l.length=(xs++U3 l).length:=by rw [List.length_append,hl,hll]
 refine Q8 (Ue h hg) (Jv hrun' ?_)
 have hS:Sb β X G D H (O1++ml (.slice A' (m+l.length) c') e (E2 .u8) (xs++U3 l)::O2) a w1:=by
  refine h.upd hO hgrow.os hgrow.tape hgrow.output hgrow.size (fun b hb hn=>hgrow.block b hb fun e=>hn e.symm) (fun b o hb=>hb) (fun g hg=>?_) fun hevo hok=>?_
  ·rcases hblk with he1 | ⟨he1,_⟩
   ·exact .inl (by have hg:(Value.slice A' (m+l.length) c').ownBlock=some g:=hg; rw [he1] at hg; exact hg)
   ·have hg:(Value.slice A' (m+l.length) c').ownBlock=some g:=hg
    rw [he1] at hg; injection hg with hg; exact .inr (by omega)
  ·refine ⟨hlen,xs0++strCells ⟨⟨l⟩⟩,hown',Em (Ki (X6 hr hevo) hok) ?_⟩
   rw [Aj]
   exact Cv _
 have:=hk A' c' (a.put (some d) (.slice A' (m+l.length) c')) w1
 rw [←hlen] at this
 exact this (hS.put hlt (.v _))
theorem Qge (hT:Qy P T) (h:Sb β X G D H O a w) {t t':TypeId} {s x:Operand} {d:Nat} {ps:String} {af:Array Edge} {ty:TypeId} {gd:Option (Nat×Bool)}
  (hg:Ka ops G ⟨some d,.call ⟨.builtin .append,⟨[s,x]⟩,⟨[t,t']⟩⟩,ty,ps,af,gd⟩=some true) (hlt:okD X d=true)
  {zs:List Int} {l:Str} {A:Option Addr} {e:TypeId} {te te' ee:TE} (ht:Qe T t=some te) (htd:te.d=.slice e) (ht':Qe T t'=some te') (htd':te'.d=.string) (he:Qe T e=some ee)
  (hz:ee.z=.int .u8 0) (hsz:ee.size=1) (hby:ee.bytes=1)
  (hs1:gv G s=some (.v (.slice A 0 0))) (hx1:gv G x=some (.v (Yu l))) (happ:app 1 [] (U3 l)=some zs)
  (hk1:zs=[]→∀a',Sb β X (Zi G d (.v (.slice A 0 0))) D H O a' w→wpList P ops Q rest a' w)
  (hk2:∀A' c' a' w',Sb β X (Zi G d (.v (.slice A' zs.length c'))) D H (ml (.slice A' zs.length c') e (E2 .u8) zs::O) a' w'→wpList P ops Q rest a' w') :
  wpList P ops Q (⟨some d,.call ⟨.builtin .append,⟨[s,x]⟩,⟨[t,t']⟩⟩,ty,ps,af,gd⟩::rest) a w:=by
 obtain ⟨hbytes,hzs⟩:=Di happ
 simp only [List.nil_append,List.length_nil,Nat.zero_add] at hbytes hzs
 subst hzs
 obtain ⟨i,hi,hz',hs',hb'⟩:=Kt hT he
 have hll:(U3 l).length=l.length:=by simp [U3]
 have hu:=(Js hT ht).2; rw [htd] at hu
 have hu':=(Js hT ht').2; rw [htd'] at hu'
 have hsl:(⟨⟨l⟩⟩:ByteArray).size=l.length:=rfl
 have hm:(Array.mk [s,x]).map a.eval=⟨[.slice A 0 0,Yu l]⟩:=by simp [h.ev hs1,h.ev hx1,Vs]
 have hexec:∀v' w1,(Builtin.append_ #[t,t'] ty #[.slice A 0 0,.string ⟨⟨l⟩⟩]).run P w=.ok v' w1→(execOp a.eval ⟨some d,.call ⟨.builtin .append,⟨[s,x]⟩,⟨[t,t']⟩⟩,ty,ps,af,gd⟩).run P w=.ok (.value v') w1:=by
  intro v' w1 hr
  unfold execOp
  simp only [resolve,hm,invoke,builtin]
  simp [hr,Yu]
 by_cases hl0:l.length=0
 ·have hl:l=[]:=List.eq_nil_of_length_eq_zero hl0
  subst hl
  have hrun:(Builtin.append_ #[t,t'] ty #[.slice A 0 0,.string ⟨⟨[]⟩⟩]).run P w=.ok (.slice A 0 0) w:=by
   have hs0:(⟨⟨[]⟩⟩:ByteArray).size=0:=rfl
   cases A<;>simp [Builtin.append_,run_underlying hu,run_underlying hu',Go.sizeOf,typeInfo,hi,Builtin.lenOf,Builtin.firstCells,storeCells,hs0]
  refine Q8 (Ue h hg) (Jv (hexec _ _ hrun) ?_)
  exact hk1 rfl _ (h.put hlt (.v _))
 ·have hone:(Builtin.append_ #[t,t'] ty #[.slice A 0 0,.string ⟨⟨l⟩⟩]).run P w=(Builtin.append_ #[t,t'] ty #[.slice none 0 0,.string ⟨⟨l⟩⟩]).run P w:=by
   have hn:=run_append_nil_string (P:=P) w t t' ty e i (.int .u8 0) hu hu' hi (by rw [hz',hz]) ⟨⟨l⟩⟩ (by rw [hsl]; omega) (by rw [hsl]; omega) (by rw [hb',hby,hsl]; omega)
   cases A with
   | none=>rfl
   | some ad =>
    have:=run_append_grow_string (P:=P) w t t' ty e i (.int .u8 0) hu hu' hi (by rw [hz',hz]) ad 0 0 [] (by simp) (by simp) ⟨⟨l⟩⟩ (by rw [hsl]; omega) (by rw [hsl]; omega) (by rw [hb',hby,hsl]; exact growslice_fits (by omega) (by omega))
    have e0:(strCells ⟨⟨l⟩⟩).toArray=(List.map (fun b=>Value.int .u8 (b.toNat:Int)) l).toArray:=by simp [strCells]
    rw [this,hn]; simp [e0]
  have h0:=Sb.addNilM h e (E2 .u8)
  obtain ⟨v',w1,hrun,hown',hgrow,hblk⟩:=Bs (P:=P) (w:=w) (ty:=ty) hu hu' hi (by rw [hz',hz]) (by rw [hs',hsz]) (by rw [hb',hby]) (base:=0) (v:=.slice none 0 0) (n:=0) (xs:=[]) (World.ownsRowS_nil w 0 e 1) ⟨⟨l⟩⟩ (by rw [hsl]; omega) (Nat.zero_le _)
  rw [hsl] at hown'
  refine Q8 (Ue h hg) (Jv (hexec _ _ (hone.trans hrun)) ?_)
  have hform:∃A' c',v'=.slice A' (0+l.length) c':=by
   rcases hown'.2 with ⟨rfl,h0⟩ | ⟨g,cap,cur,fz,rfl,_⟩
   ·exact ⟨none,0,by rw [h0]⟩
   ·exact ⟨_,cap,rfl⟩
  obtain ⟨A',c',rfl⟩:=hform
  rw [Nat.zero_add] at hown'
  rw [Nat.zero_add] at hblk
  have hS:Sb β X G D H (ml (.slice A' l.length c') e (E2 .u8) (U3 l)::O) a w1:=by
   refine h0.upd (O1:=[]) rfl hgrow.os hgrow.tape hgrow.output hgrow.size (fun b hb hn=>hgrow.block b hb fun e=>hn e.symm) (fun b o hb=>hb) (fun g hg=>?_) fun hevo hok=>?_
   ·rcases hblk with he1 | ⟨he1,_⟩
    ·exact .inl (by have hg:(Value.slice A' l.length c').ownBlock=some g:=hg; rw [he1] at hg; exact hg)
    ·have hg:(Value.slice A' l.length c').ownBlock=some g:=hg
     rw [he1] at hg; injection hg with hg; exact .inr (by omega)
   ·refine ⟨by simp [Uq,hll],strCells ⟨⟨l⟩⟩,(by have q:=hown'; simp only [List.nil_append] at q; exact q),?_⟩
    rw [Aj]
    exact Cv _
  have:=hk2 A' c' (a.put (some d) (.slice A' l.length c')) w1
  rw [hll] at this
  rw [Nat.zero_add]
  exact this (hS.put hlt (.v _))
end
section
variable {P:Program} {Y:TX} {X:Cx} {S:XS} {β β':Nat→Nat} {ρ ρ':Nat→Value} {a a':Act} {w w':World} {n:Nat}
variable {ops:Array Oper} {Q:Exit→Act→World→Prop} {rest:List Oper} {R:Type} {k:XS→Option R} {r:R}
theorem Qld (hT:Qy P Y.T) (hX:X.n=n) (hr:X.res=[]) (h:Rel X β ρ S.flat a w) {o:Oper} (hw:Region.wanted o (yielded ops a.tmps)=true) {d:Nat} (hd:o.dst=some d) (hwd:okW n S d=true) {id:Nat}
  (hb:okB ⟨S.env,S.fix,J3 S.mem id,S.fixM,S.prot⟩ d=true)
  {t t':TypeId} {s x:Operand} (hop:o.op=.call ⟨.builtin .append,⟨[s,x]⟩,⟨[t,t']⟩⟩) {te te' ee:TE} {e:TypeId} (hte:Qe Y.T t=some te) (htd:te.d=.slice e) (hte':Qe Y.T t'=some te') (htd':te'.d=.string) (he:Qe Y.T e=some ee)
  (hz:ee.z=.int .u8 0) (hsz:ee.size=1) (hby:ee.bytes=1) {l:Str} (hs:S.ev [] s=some (.s id)) (hx:S.ev [] x=some (.d .str l)) {xs zs:List Int} (hm:Qb S.mem id=some (.row e (.int .u8) xs))
  (happ:app 1 xs (U3 l)=some zs) (hk:k (({ S with mem:=J3 S.mem id }.born d (.row e (.int .u8) zs)).put d [] (.s d))=some r) (H:KOk P ops Q rest X S β ρ k r):wpList P ops Q (o::rest) a w:=by
 obtain ⟨f1,f2,f3⟩:=Zv hb
 obtain ⟨h1,h2⟩:=J7 hwd hX hr
 have hg:=H3 h hw
 have hxe:a.eval x=Yu l:=h.toW.str (Qa a) hx rfl
 obtain ⟨c1,hse,⟨v0,hs2,hz0⟩,A,m,c,hρ⟩:=h.ev (Qa a) hs
 subst hs2
 have hm':Qb S.flat.mem id=some (.row e (.int .u8) xs):=Q0 hm
 have e4':J3 S.mem id++S.fixM=J3 S.flat.mem id:=(Z7 hm).symm
 rcases hz0 with hz0 | ⟨h00,A0,hz0⟩
 case inr =>
  have hse':a.eval s=.slice A0 0 0:=by rw [hse,←hz0]; rfl
  have hxs:xs=[]:=by
   have:=(h.ob hm').1.1
   rw [h00] at this
   exact List.length_eq_zero_iff.1 this.symm
  subst hxs
  have hR:=h.dropM hm'
  rw [Kw o,hd,hop] at hg ⊢
  refine Qge (a:=a) hT hR.toG hg h1 hte htd hte' htd' he hz hsz hby (by rw [gvE h (Qa a) hs,hse']) (by rw [gvE h (Qa a) hx,hxe]) happ (fun hz a' hS=>?_) fun A' c' a' w' hS=>?_
  ·subst hz
   rw [←e4'] at hS
   exact H β (upd ρ d (.slice none 0 0)) _ _ _ hk ⟨rfl,rfl,rfl,Zm f3 (Yf d β ρ _)⟩ (Ph (u:=.int .u8) (S:={ S with mem:=J3 S.mem id }) hX hr h.sz hwd f1 f2 f3 hS)
  ·rw [←e4'] at hS
   refine H β (upd ρ d (.slice A' zs.length c')) _ _ _ hk ⟨rfl,rfl,rfl,Zm f3 (Yf d β ρ _)⟩ ?_
   exact Zg (S:={ S with mem:=J3 S.mem id }) (o:=.row e (.int .u8) zs) hX hr h.sz hwd f1 f2 f3 hS (by simp only [Qp,Jn]; exact U0.refl _) ⟨_,_,_,rfl⟩
 have hse':a.eval s=.slice A m c:=by rw [hse,←hρ,←hz0]; rfl
 obtain ⟨l1,l2,e1,_,e3⟩:=Jl hm'
 have hO:Qc β ρ S.flat.mem=Qc β ρ l1++ml (.slice A m c) e (E2 .u8) xs::Qc β ρ l2:=by rw [e1]; simp [Qc,Qp,hρ,rt]
 rw [Kw o,hd,hop] at hg ⊢
 refine Pi hT h.toG (Qc β ρ l1) (Qc β ρ l2) hg h1 hte htd hte' htd' he hz hsz hby hO (by rw [gvE h (Qa a) hs,hse']) (by rw [gvE h (Qa a) hx,hxe]) happ fun A' c' a' w' hS=>?_
 refine H β (upd ρ d (.slice A' zs.length c')) _ _ _ hk ⟨rfl,rfl,rfl,Zm f3 (Yf d β ρ _)⟩ ?_
 have e4:J3 S.mem id++S.fixM=l1++l2:=by rw [←Z7 hm]; exact e3
 have hS':=hS.perm (O':=ml (.slice A' zs.length c') e (E2 .u8) zs::Qc β ρ (J3 S.mem id++S.fixM)) (by rw [e4]; simp only [Qc,List.map_append]; exact List.perm_middle)
 exact Zg (S:={ S with mem:=J3 S.mem id }) (o:=.row e (.int .u8) zs) hX hr h.sz hwd f1 f2 f3 hS' (by simp only [Qp,Jn]; exact U0.refl _) ⟨_,_,_,rfl⟩
theorem Qle (hT:Qy P Y.T) (hX:X.n=n) (hr:X.res=[]) (h:Rel X β ρ S.flat a w) {o:Oper} (hw:Region.wanted o (yielded ops a.tmps)=true) {d:Nat} (hd:o.dst=some d) (hwd:okW n S d=true) (hb:okB S d=true)
  {t t':TypeId} {s x:Operand} (hop:o.op=.call ⟨.builtin .append,⟨[s,x]⟩,⟨[t,t']⟩⟩) {te te' ee:TE} {e:TypeId} (hte:Qe Y.T t=some te) (htd:te.d=.slice e) (hte':Qe Y.T t'=some te') (htd':te'.d=.string) (he:Qe Y.T e=some ee)
  (hz:ee.z=.int .u8 0) (hsz:ee.size=1) (hby:ee.bytes=1) {l:Str} (hs:S.ev [] s=some .ns) (hx:S.ev [] x=some (.d .str l)) {zs:List Int}
  (happ:app 1 [] (U3 l)=some zs) (hk:k ((S.born d (.row e (.int .u8) zs)).put d [] (.s d))=some r) (H:KOk P ops Q rest X S β ρ k r):wpList P ops Q (o::rest) a w:=by
 obtain ⟨f1,f2,f3⟩:=Zv hb
 obtain ⟨h1,h2⟩:=J7 hwd hX hr
 have hg:=H3 h hw
 have hxe:a.eval x=Yu l:=h.toW.str (Qa a) hx rfl
 obtain ⟨c1,hse,hs2⟩:=h.ev (Qa a) hs
 have hs2':c1=_:=hs2
 subst hs2'
 have hse':a.eval s=.slice none 0 0:=hse
 have hnil:Sb (fun _=>0) X (Xs X.n a) (S.flat.env.map (enD β ρ a)) [] (ml (.slice none 0 0) e (E2 .u8) []::Qc β ρ S.flat.mem) a w:=Sb.addNilM h.toG e (E2 .u8)
 rw [Kw o,hd,hop] at hg ⊢
 refine Pi hT hnil [] (Qc β ρ S.flat.mem) hg h1 hte htd hte' htd' he hz hsz hby rfl (by rw [gvE h (Qa a) hs,hse']) (by rw [gvE h (Qa a) hx,hxe]) happ fun A' c' a' w' hS=>?_
 refine H β (upd ρ d (.slice A' zs.length c')) _ _ _ hk (U1 f3 (Yf d β ρ _) _ _ _) ?_
 exact Zg (o:=.row e (.int .u8) zs) hX hr h.sz hwd f1 f2 f3 hS (by simp only [Qp,Jn]; exact U0.refl _) ⟨_,_,_,rfl⟩
theorem Qgf (hT:Qy P Y.T) (hX:X.n=n) (hr:X.res=[]) (h:Rel X β ρ S.flat a w) {o:Oper} (hw:Region.wanted o (yielded ops a.tmps)=true) {d:Nat} (hd:o.dst=some d) (hwd:okW n S d=true) (hb:okB S d=true)
  {s t:TypeId} {x:Operand} (hop:o.op=.convert s t x) {se te ee:TE} {e:TypeId} (hse:Qe Y.T s=some se) (hte:Qe Y.T t=some te) (htd:te.d=.slice e) (he:Qe Y.T e=some ee) (hed:ee.d=.int .u8)
  {l:Str} (hx:S.ev [] x=some (.d .str l)) {zs:List Int} (happ:app 1 [] (U3 l)=some zs) (hk:k ((S.born d (.row e (.int .u8) zs)).put d [] (.s d))=some r) (H:KOk P ops Q rest X S β ρ k r):wpList P ops Q (o::rest) a w:=by
 obtain ⟨f1,f2,f3⟩:=Zv hb
 obtain ⟨h1,h2⟩:=J7 hwd hX hr
 have hxe:a.eval x=Yu l:=h.toW.str (Qa a) hx rfl
 obtain ⟨hbytes,hzs⟩:=Di happ
 simp only [List.nil_append] at hzs
 subst hzs
 have hll:(U3 l).length=l.length:=by simp [U3]
 have hsl:(⟨⟨l⟩⟩:ByteArray).size=l.length:=rfl
 have hus:=(Js hT hse).2
 have hut:=(Js hT hte).2; rw [htd] at hut
 have hue:=(Js hT he).2; rw [hed] at hue
 have hconv:=run_convert_string_bytes (P:=P) w s t e ⟨⟨l⟩⟩ hus hut hue
 have hrun:(execOp a.eval o).run P w=.ok (.value (.slice (some ⟨w.heap.size,0,none⟩) l.length (grownCap w l.length 0 e))) (bytesWorld w e ⟨⟨l⟩⟩):=by
  unfold execOp
  rw [hop]
  simp only [hxe,Yu]
  rw [Sem.run_bind,hconv]
  rfl
 refine Q8 hw (Jv hrun ?_)
 have hge:=grownCap_ge w l.length 0 e
 have hcm:grownCap w l.length 0 e≤maxLen:=grownCap_le_maxLen w l.length 0 e (by rw [Hr]; simp only [List.length_nil,Nat.zero_add,Nat.mul_one] at hbytes; omega)
 have hcsz:(bytesCells w e ⟨⟨l⟩⟩).size=grownCap w l.length 0 e:=by
  simp only [bytesCells,Array.size_append,Array.size_map,Array.size_replicate,hsl]
  have:(⟨l⟩:Array UInt8).size=l.length:=rfl
  omega
 have hown:(bytesWorld w e ⟨⟨l⟩⟩).ownsRowS 0 e 1 (.slice (some ⟨w.heap.size,0,none⟩) l.length (grownCap w l.length 0 e)) l.length (strCells ⟨⟨l⟩⟩):=by
  refine ⟨by rw [strCells_length,hsl,Nat.mul_one],.inr ⟨w.heap.size,_,_,_,rfl,Nat.zero_le _,bytesWorld_at_new w e ⟨⟨l⟩⟩,.inr rfl,hge,hcm,by rw [hcsz,Nat.mul_one]; exact Nat.le_refl _,?_⟩⟩
  simp only [bytesCells,Array.toList_append,Nat.mul_one]
  rw [List.take_append_of_le_length (by simp),List.take_of_length_le (by simp)]
  simp [strCells]
 have hbel:=Qcr w e ⟨⟨l⟩⟩
 have hS:=Sb.allocTL h.toG hbel (t:=ml (.slice (some ⟨w.heap.size,0,none⟩) l.length (grownCap w l.length 0 e)) e (E2 .u8) (U3 l)) (fun g hg=>by
  have hg:some w.heap.size=some g:=hg
  injection hg with hg; omega) ⟨by simp [Uq,hll],_,hown,by rw [Aj]; exact Cv _⟩
 rw [hd]
 refine H β (upd ρ d (.slice (some ⟨w.heap.size,0,none⟩) l.length (grownCap w l.length 0 e))) _ _ _ hk (U1 f3 (Yf d β ρ _) _ _ _) ?_
 exact Zg (o:=.row e (.int .u8) (U3 l)) hX hr h.sz hwd f1 f2 f3 (hS.put h1 (.v _)) (by simp only [Qp,Jn]; exact U0.refl _) ⟨_,_,_,rfl⟩
end
end Gx

/- The builtin copy. -/
namespace Gx
open Go Go.RowKit Gd
set_option linter.unusedVariables false
set_option linter.unusedSimpArgs false
theorem Te {τ:Type} {r:RT τ} {ok:Ok} {w:World}:∀{xs:List τ} {cs:List Value} (k:Nat),Zz r ok w xs cs→Zz r ok w (xs.drop k) (cs.drop (k*r.size))
 | xs,cs,0,h=>by simpa using h
 | [],cs,k+1,h=>by
  have h':cs=[]:=h
  subst h'
  simp [Zz]
 | x::xs,cs,k+1,⟨c1,c2,e,h1,h2⟩=>by
  have hl:=r.len h1
  subst e
  have e2:(c1++c2).drop ((k+1)*r.size)=c2.drop (k*r.size):=by
   rw [List.drop_append,List.drop_eq_nil_of_le (by rw [hl,Nat.add_mul]; omega),List.nil_append,hl]
   congr 1
   rw [Nat.add_mul]; omega
  rw [e2]
  simpa using Te k h2
theorem Tf {τ:Type} {r:RT τ} {ok:Ok} {w:World}:∀{xs:List τ} {cs:List Value} (k:Nat),Zz r ok w xs cs→Zz r ok w (xs.take k) (cs.take (k*r.size))
 | xs,cs,0,h=>by simp [Zz]
 | [],cs,k+1,h=>by
  have h':cs=[]:=h
  subst h'
  simp [Zz]
 | x::xs,cs,k+1,⟨c1,c2,e,h1,h2⟩=>by
  have hl:=r.len h1
  subst e
  refine ⟨c1,c2.take (k*r.size),?_,h1,Tf k h2⟩
  rw [List.take_append,List.take_of_length_le (by rw [hl,Nat.add_mul]; omega),hl]
  congr 2
  rw [Nat.add_mul]; omega
theorem Q4f {P:Program} {w:World} (a:Addr) (cs:List Value) (k:Nat) (hk:cs.length=k) (h:∀j v,cs[j]?=some v→w.cell? (a.add j)=some v):(loadCells a k).run P w=.ok cs.toArray w:=by
 subst hk; exact run_loadCells_list w a cs h
section
variable {P:Program} {w:World} {dT sT ty elem:TypeId} {i:TypeInfo}
theorem Qlf (hu:P.underlying dT=some (.slice elem)) (hi:P.info? elem=some i) {d a:Option Addr} {dLen dCap sLen sCap:Nat} (hn:Nat.min sLen dLen=0) :
  (Builtin.copy_ #[dT,sT] ty #[.slice d dLen dCap,.slice a sLen sCap]).run P w=.ok (goInt 0) w:=by
 have hl:∀(x:Addr),(loadCells x 0).run P w=.ok #[] w:=fun x=>Q4f x [] 0 rfl (by simp)
 cases d<;>cases a<;>simp [Builtin.copy_,run_underlying hu,Builtin.lenOf,Builtin.firstCells,Go.sizeOf,typeInfo,hi,hn,storeCells,hl]
theorem Qlg (hu:P.underlying dT=some (.slice elem)) (hi:P.info? elem=some i) {g dLen dCap sLen sCap:Nat} {a:Addr} {cur:Array Value} {t:TypeId} {fz:Nat×Nat} {cs:List Value} (hg:w.heap[g]?=some (.cells cur t fz)) (hfz:Qfs fz cur.size)
  (hn:cs.length=Nat.min sLen dLen*i.size) (hsrc:∀j v,cs[j]?=some v→w.cell? (a.add j)=some v) (hfit:cs.length≤cur.size) (h1:∀v∈cs,v.oneCell'=true) :
  (Builtin.copy_ #[dT,sT] ty #[.slice (some ⟨g,0,none⟩) dLen dCap,.slice (some a) sLen sCap]).run P w=.ok (goInt (Nat.min sLen dLen:Nat)) (w.setRow g (cs++cur.toList.drop cs.length).toArray):=by
 have hl:=Q4f (P:=P) (w:=w) a cs _ hn hsrc
 have hst:=Vz P g 0 t fz cs 0 cur w hg hfz (by simpa using hfit) h1
 simp only [Nat.add_zero,Nat.zero_add,List.take_zero,List.nil_append] at hst
 simp [Builtin.copy_,run_underlying hu,Builtin.lenOf,Builtin.firstCells,Go.sizeOf,typeInfo,hi,hl,hst]
end
section
variable {P:Program} {Y:TX} {X:Cx} {S:XS} {β β':Nat→Nat} {ρ ρ':Nat→Value} {a a':Act} {w w':World} {n:Nat}
variable {ops:Array Oper} {Q:Exit→Act→World→Prop} {rest:List Oper} {R:Type} {k:XS→Option R} {r:R}
theorem Q5a (hT:Qy P Y.T) (hX:X.n=n) (hr:X.res=[]) (h:Rel X β ρ S.flat a w) {o:Oper} (hw:Region.wanted o (yielded ops a.tmps)=true) {d:Nat} (hd:o.dst=some d) (hwd:okW n S d=true) {t t':TypeId} {dst src:Operand}
  (hop:o.op=.call ⟨.builtin .copy,⟨[dst,src]⟩,⟨[t,t']⟩⟩) {te ee:TE} {e:TypeId} (hte:Qe Y.T t=some te) (htd:te.d=.slice e) (he:Qe Y.T e=some ee) {id:Nat} {xv:AV} {et:TypeId} {u:Ty} {xs ys:List u.De} (hs:S.ev [] dst=some (.s id)) (hx:S.ev [] src=some xv)
  (hm:Qb S.mem id=some (.row et u xs)) (hy:asD S.flat.mem xv (.sl u)=some ys) (hsz:Nat.beq ee.size u.size=true) (hpos:Nat.ble 1 u.size=true)
  (hk:k ((S.set id (.row et u (Wk xs ys))).put d [] (.d (.int .i64) (C7 xs ys)))=some r) (H:KOk P ops Q rest X S β ρ k r):wpList P ops Q (o::rest) a w:=by
 obtain ⟨h1,h2⟩:=J7 hwd hX hr
 have hm':Qb S.flat.mem id=some (.row et u xs):=Q0 hm
 obtain ⟨l1,l2,e1,e2,e3⟩:=Jl hm'
 obtain ⟨c1,hse,⟨v0,hs2,hz0⟩,A,m,c,hρ⟩:=h.ev (Qa a) hs
 subst hs2
 have hag:(Ty.sl u).agg=xv.isAgg:=by
  cases xv with
  | d t' y'=>obtain ⟨rfl,_⟩:=Ty.cast_ok (by simpa only [asD] using hy); rfl
  | ag l=>simp [asD] at hy
  | _=>rfl
 have hiv:=h.toW.asD (Qa a) hx hy hag
 obtain ⟨A2,c2,hev,hyv⟩:=E3 (r:=rt u) hiv
 obtain ⟨cs,hcl,hyl,hyc,hA2,hc1,hc3,hc4⟩:=El (Uh.1 hyv)
 obtain ⟨i,hi,_,his,_⟩:=Kt hT he
 have hu:=(Js hT hte).2; rw [htd] at hu
 have hsu:=Nat.eq_of_beq_eq_true hsz
 obtain ⟨⟨hl0,cs0,hown0,hr0⟩,_⟩:=h.ob hm'
 have hO:Qc β ρ S.flat.mem=Qc β ρ l1++ml (ρ id) et (rt u) xs::Qc β ρ l2:=by rw [e1]; simp [Qc,Qp]
 have hgo:∀w1,Sb (fun _=>0) X [] (S.flat.env.map (enD β ρ a)) [] (Qc β ρ l1++ml (ρ id) et (rt u) (Wk xs ys)::Qc β ρ l2) a w1→wpList P ops Q rest (a.put (some d) (goInt (C7 xs ys))) w1:=by
  intro w1 hS
  have hE:(S.set id (.row et u (Wk xs ys))).flat=⟨S.flat.env,Ht S.flat.mem id (.row et u (Wk xs ys))⟩:=by
   simp only [XS.flat,XS.set]
   rw [Zf hm]
  refine H β ρ ((S.set id (.row et u (Wk xs ys))).put d [] (.d (.int .i64) (C7 xs ys))) _ _ hk ⟨rfl,rfl,rfl,agP.refl _ _ _⟩ ?_
  have hmem:Qc β ρ (l1++(id,Ob.row et u (Wk xs ys))::l2)=Qc β ρ l1++ml (ρ id) et (rt u) (Wk xs ys)::Qc β ρ l2:=by simp [Qc,Qp]
  have hRel:Rel X β ρ (S.set id (.row et u (Wk xs ys))).flat a w1:=by
   rw [hE,e2]
   exact Rel.ofSb hS hmem.symm fun e he=>by
    have:=Jf.1 hS.dat _ (List.mem_map.2 ⟨e,he,rfl⟩)
    rw [←hmem] at this
    exact this
  have:=hRel.put0 h1 (x:=.d (.int .i64) (C7 xs ys)) (c:=[.int .i64 (C7 xs ys)]) rfl
  rw [←Ze (S:=S.set id (.row et u (Wk xs ys))) h2] at this
  exact this
 have hm2:∀v,a.eval dst=v→(execOp a.eval o).run P w=((Builtin.copy_ #[t,t'] o.type #[v,.slice A2 ys.length c2]).run P w).andThen fun v w'=>.ok (.value v) w':=by
  intro v hv
  unfold execOp
  have hmm:(Array.mk [dst,src]).map a.eval=⟨[v,.slice A2 ys.length c2]⟩:=by simp [hv,hev]
  simp only [hop,resolve,hmm,invoke,builtin]
  simp
 have hzero:∀v A' m' c',a.eval dst=v→v=.slice A' m' c'→Nat.min ys.length m'=0→Nat.min ys.length xs.length=0→wpList P ops Q (o::rest) a w:=by
  intro v A' m' c' hv hv2 hn0 hn1
  refine Q8 hw (Jv (w':=w) (v:=goInt 0) (by rw [hm2 v hv,hv2,Qlf hu hi hn0]; rfl) ?_)
  rw [hd]
  have hcl0:Wk xs ys=xs:=by unfold Wk; rw [hn1]; simp
  have hcn0:C7 xs ys=0:=by unfold C7; rw [hn1]; rfl
  have:=hgo w
  rw [hcl0,hcn0,←hO] at this
  exact this h
 rcases hz0 with hz0 | ⟨h00,A0,hz0⟩
 case inr =>
  have hse':a.eval dst=.slice A0 0 0:=by rw [hse,←hz0]; rfl
  have hxs:xs.length=0:=by rw [h00] at hl0; exact hl0.symm
  exact hzero _ A0 0 0 hse' rfl (by simp [Nat.min_def]) (by rw [hxs]; simp [Nat.min_def])
 have hse':a.eval dst=.slice A m c:=by rw [hse,←hρ,←hz0]; rfl
 have hmx:m=xs.length:=by rw [hρ] at hl0; exact hl0
 by_cases hn0:Nat.min ys.length xs.length=0
 ·exact hzero _ A m c hse' rfl (by rw [hmx]; exact hn0) hn0
 have hypos:0<ys.length:=by have:=Nat.min_le_left ys.length xs.length; simp only [Nat.min_def] at hn0; split at hn0<;>omega
 have hxpos:0<xs.length:=by simp only [Nat.min_def] at hn0; split at hn0<;>omega
 obtain ⟨b2,o2,rfl,hcc⟩:=hc3 hypos
 rcases hown0.2 with ⟨hv,hn⟩ | ⟨g,cap,cur,fz,hv,_,hh,hfz,hle,hcm,hcs,hcur⟩
 ·rw [hρ] at hv; injection hv with _ hv _
  omega
 rw [hρ] at hv
 injection hv with hA hm1 hcap
 subst hA
 have hlenV:Uq (ρ id)=xs.length:=hl0
 rw [hlenV] at hle hcur
 have husz:(rt u).size=u.size:=Jh u
 have hisz:i.size=(rt u).size:=by rw [his,hsu,husz]
 have hnle:Nat.min ys.length xs.length≤xs.length:=Nat.min_le_right _ _
 have hnle2:Nat.min ys.length xs.length≤ys.length:=Nat.min_le_left _ _
 generalize hnn:Nat.min ys.length xs.length=k0 at *
 have hkm:k0*(rt u).size≤xs.length*(rt u).size:=Nat.mul_le_mul_right _ hnle
 have hkm2:k0*(rt u).size≤ys.length*(rt u).size:=Nat.mul_le_mul_right _ hnle2
 have hmc:xs.length*(rt u).size≤cap*(rt u).size:=Nat.mul_le_mul_right _ hle
 have hnl:(cs.take (k0*(rt u).size)).length=k0*(rt u).size:=by rw [List.length_take,hcl]; omega
 have hcsl:cap*(rt u).size≤cur.toList.length:=by simpa using hcs
 have hst:=Qlg (P:=P) (w:=w) (dT:=t) (sT:=t') (ty:=o.type) hu hi (dLen:=m) (dCap:=c) (sLen:=ys.length) (sCap:=c2) (a:=⟨b2,o2,none⟩) (cs:=cs.take (k0*(rt u).size)) hh hfz (by rw [hnl,hmx,hnn,hisz]) (fun j v hj=>by
   rw [Xe]
   refine (hcc j v ?_).2
   rw [List.getElem?_take] at hj
   split at hj
   ·exact hj
   ·cases hj) (by rw [hnl]; omega) (fun v hv=>hc1 v (List.mem_of_mem_take hv))
 refine Q8 hw (Jv (w':=w.setRow g (cs.take (k0*(rt u).size)++cur.toList.drop (cs.take (k0*(rt u).size)).length).toArray) (v:=goInt (C7 xs ys)) (by rw [hm2 _ hse',hst]; simp only [C7,hmx,hnn]; rfl) ?_)
 rw [hd]
 have hset:=setRow_heap w g cur (cs.take (k0*(rt u).size)++cur.toList.drop (cs.take (k0*(rt u).size)).length).toArray et _ hh
 have hsizeN:(cs.take (k0*(rt u).size)++cur.toList.drop (cs.take (k0*(rt u).size)).length).length=cur.toList.length:=by
  rw [List.length_append,List.length_drop,hnl]; omega
 have hlenC:(Wk xs ys).length=xs.length:=by
  unfold Wk
  rw [hnn,List.length_append,List.length_take,List.length_drop]; omega
 have hys:Zz (rt u) (Q5 X.ok X.w.heap.size (fun _=>0) [] (Qc β ρ S.flat.mem) w) w (ys.take k0) (cs.take (k0*(rt u).size)):=by
  have hall:Zz (rt u) (Q5 X.ok X.w.heap.size (fun _=>0) [] (Qc β ρ S.flat.mem) w) w ys cs:=Ie ys cs hcl hc4
  exact Tf k0 hall
 have hS:=Sb.upd h (O1:=Qc β ρ l1) (O2:=Qc β ρ l2) (t:=ml (ρ id) et (rt u) xs) (t':=ml (ρ id) et (rt u) (Wk xs ys)) (w':=w.setRow g (cs.take (k0*(rt u).size)++cur.toList.drop (cs.take (k0*(rt u).size)).length).toArray) hO rfl rfl rfl (by simp)
  (fun b hb hn=>setRow_other _ _ _ _ fun e=>hn (by subst e; show (ρ id).ownBlock=_; rw [hρ]; rfl)) (fun b o hb=>hb) (fun g hg=>.inl hg) fun hevo hok=>by
   refine ⟨by rw [hlenV,hlenC],_,⟨?_,.inr ⟨g,cap,_,fz,by rw [hρ,hcap]; rfl,Nat.zero_le _,hset,by rw [List.size_toArray,hsizeN]; simpa using hfz,by rw [hlenV]; exact hle,hcm,by rw [List.size_toArray,hsizeN]; exact hcsl,rfl⟩⟩,?_⟩
   ·rw [hlenV]
    show (List.take (xs.length*(rt u).size) (cs.take (k0*(rt u).size)++cur.toList.drop (cs.take (k0*(rt u).size)).length)).length=_
    rw [List.length_take,hsizeN]; omega
   ·rw [hlenV]
    show Zz (rt u) _ _ (Wk xs ys) (List.take (xs.length*(rt u).size) (cs.take (k0*(rt u).size)++cur.toList.drop (cs.take (k0*(rt u).size)).length))
    have e5:List.take (xs.length*(rt u).size) (cs.take (k0*(rt u).size)++cur.toList.drop (cs.take (k0*(rt u).size)).length)=cs.take (k0*(rt u).size)++(cs0.drop (k0*(rt u).size)):=by
     rw [List.take_append,hnl,List.take_of_length_le (by rw [hnl]; exact hkm),←hcur,List.drop_take]
    rw [e5]
    have h6:=Em (Ki (X6 hys hevo) hok) (Ki (X6 (Te k0 hr0) hevo) hok)
    have e6:Wk xs ys=ys.take k0++xs.drop k0:=by unfold Wk; rw [hnn]
    rw [←e6] at h6
    exact h6
 exact hgo _ hS
end
end Gx
