/- States, and what becomes of them: new objects, other names. -/
import Derived.Test.YtbhpbpilmejnlaaGreatXFa
namespace Gd
open Go Go.RowKit
section
variable {β:Nat→Nat} {X:Cx} {G:GL} {D:List DF} {H:HL} {O:List TL} {a:Act} {w w':World}
def Zi (t t':TL):Prop:=(∀g,t'.blks g↔t.blks g)∧(∀b o,t'.cov b o↔t.cov b o)∧∀ok w,t.p ok w→t'.p ok w
inductive Uf:List TL→List TL→Prop
 | nil:Uf [] []
 | cons {t t':TL} {l l':List TL} (h:Zi t t') (r:Uf l l'):Uf (t::l) (t'::l')
theorem Zi.refl (t:TL):Zi t t:=⟨fun _=>Iff.rfl,fun _ _=>Iff.rfl,fun _ _ h=>h⟩
theorem Uf.refl:∀l:List TL,Uf l l
 | []=>.nil
 | t::l=>.cons (Zi.refl t) (Uf.refl l)
theorem Uf.mem {l l':List TL} (h:Uf l l'):∀t'∈l',∃t∈l,Zi t t':=by
 induction h with
 | nil=>simp
 | cons h r ih =>
  intro u hu
  rcases List.mem_cons.1 hu with rfl | hu
  ·exact ⟨_,.head _,h⟩
  ·obtain ⟨t,ht,hs⟩:=ih u hu; exact ⟨t,.tail _ ht,hs⟩
theorem Uf.mem' {l l':List TL} (h:Uf l l'):∀t∈l,∃t'∈l',Zi t t':=by
 induction h with
 | nil=>simp
 | cons h r ih =>
  intro u hu
  rcases List.mem_cons.1 hu with rfl | hu
  ·exact ⟨_,.head _,h⟩
  ·obtain ⟨t,ht,hs⟩:=ih u hu; exact ⟨t,.tail _ ht,hs⟩
theorem Uf.pw {l l':List TL} (h:Uf l l') (hp:l.Pairwise fun s t=>∀g,s.blks g→¬ t.blks g):l'.Pairwise fun s t=>∀g,s.blks g→¬ t.blks g:=by
 induction h with
 | nil=>exact .nil
 | cons h r ih =>
  have:=List.pairwise_cons.1 hp
  refine List.pairwise_cons.2 ⟨fun u hu g hg hg2=>?_,ih this.2⟩
  obtain ⟨t,ht,hs⟩:=r.mem u hu
  exact this.1 t ht g ((h.1 g).1 hg) ((hs.1 g).1 hg2)
theorem Uf.append {l l' m m':List TL} (h:Uf l l') (k:Uf m m'):Uf (l++m) (l'++m'):=by
 induction h with
 | nil=>exact k
 | cons h _ ih=>exact .cons h ih
theorem Uf.ok {l l':List TL} (h:Uf l l') {ok0:Ok} {B:Nat}:∀b o,Jh ok0 B β H l w b o→Jh ok0 B β H l' w b o:=by
 rintro b o ⟨h1,h2,h3,h4⟩
 refine ⟨h1,h2,h3,fun u hu hc=>?_⟩
 obtain ⟨t,ht,hs⟩:=h.mem u hu
 exact h4 t ht ((hs.2.1 b o).1 hc)
theorem Sb.simO {O':List TL} (h:Sb β X G D H O a w) (hs:Uf O O'):Sb β X G D H O' a w :=
 { sz:=h.sz,df:=h.df,fr:=h.fr,pn:=h.pn,tm:=h.tm,bel:=h.bel,dat:=h.dat.weak hs.ok,obj:=h.obj,own:=fun u hu=>let ⟨t,ht,hst⟩:=hs.mem u hu; ⟨u.weak (hst.2.2 _ _ (h.own t ht).1) hs.ok,fun g hg=>(h.own t ht).2 g ((hst.1 g).1 hg)⟩,dHH:=h.dHH,dHO:=fun p hp u hu hg=>let ⟨t,ht,hst⟩:=hs.mem u hu; h.dHO p hp t ht ((hst.1 _).1 hg),dOO:=hs.pw h.dOO }
theorem Sb.subO {O':List TL} (h:Sb β X G D H O a w) (hs:O'.Sublist O):Sb β X G D H O' a w:=by
 have hok:∀b o,Jh X.ok X.w.heap.size β H O w b o→Jh X.ok X.w.heap.size β H O' w b o:=fun b o ⟨h1,h2,h3,h4⟩=>⟨h1,h2,h3,fun u hu=>h4 u (hs.subset hu)⟩
 exact { sz:=h.sz,df:=h.df,fr:=h.fr,pn:=h.pn,tm:=h.tm,bel:=h.bel,dat:=h.dat.weak hok,obj:=h.obj,own:=fun u hu=>⟨u.weak (h.own u (hs.subset hu)).1 hok,(h.own u (hs.subset hu)).2⟩,dHH:=h.dHH,dHO:=fun p hp u hu=>h.dHO p hp u (hs.subset hu),dOO:=h.dOO.sublist hs }
theorem H5 {O1 O1' O2:List TL} {L:List Nat} (h:Sb β X G D [] (O1++O2) a w) (_:w.heap.size≤w'.heap.size) (hL:∀g∈L,∃t∈O1,t.blks g) :
  ∀b o,Jh (okL L (Jh X.ok X.w.heap.size β [] (O1++O2) w)) w.heap.size β [] O1' w' b o→Jh X.ok X.w.heap.size β [] (O1'++O2) w' b o:=by
 rintro b o ⟨h1,h2,_,h4⟩
 have hO2:∀u∈O2,¬ u.cov b o→∀v∈O1'++O2,v=u→¬ v.cov b o:=fun u _ hn v _ e=>e▸hn
 have fin:(X.ok b o∨X.w.heap.size≤b)→(∀u∈O2,¬ u.cov b o)→Jh X.ok X.w.heap.size β [] (O1'++O2) w' b o:=by
  intro h5 h6
  refine ⟨h5,h2,by simp,fun u hu=>?_⟩
  rcases List.mem_append.1 hu with hu | hu
  ·exact h4 u hu
  ·exact h6 u hu
 rcases h1 with (h1 | h1) | h1
 ·exact fin h1.1 fun u hu=>h1.2.2.2 u (by simp [hu])
 ·obtain ⟨t,ht,hg⟩:=hL b h1
  have hm:=(h.own t (by simp [ht])).2 b hg
  refine fin (X.mine_ok hm o) fun u hu hc=>?_
  exact (List.pairwise_append.1 h.dOO).2.2 t ht u hu b hg (u.cb hc)
 ·refine fin (.inr (Nat.le_trans h.bel.size h1)) fun u hu hc=>?_
  have:=h.olt (t:=u) (by simp [hu]) (u.cb hc)
  omega
theorem Sb.callO {O1 O1' O2:List TL} {L:List Nat} (h:Sb β X G D [] (O1++O2) a w) (hb:Vz L w.heap.size w w') (hL:∀g∈L,∃t∈O1,t.blks g) (hcov:∀t∈O1,∀b o,t.blks b→t.cov b o)
  (hp:∀t∈O1',t.p (Jh (okL L (Jh X.ok X.w.heap.size β [] (O1++O2) w)) w.heap.size β [] O1' w') w'∧∀g,t.blks g→w.heap.size≤g∨g∈L) (hd:O1'.Pairwise fun s t=>∀g,s.blks g→¬ t.blks g) :
  Sb β X G D [] (O1'++O2) a w':=by
 have hpw:=List.pairwise_append.1 h.dOO
 have hsame:∀b,b<w.heap.size→(∀t∈O1,¬ t.blks b)→w'.heap[b]?=w.heap[b]?:=fun b hb' hn=>hb.block b hb' fun hm=>by obtain ⟨t,ht,hg⟩:=hL b hm; exact hn t ht hg
 have hevo:Evo (Jh X.ok X.w.heap.size β [] (O1++O2) w) w w':=Evo.of_blocks hb.size fun b o hk=>hsame b hk.2.1 fun t ht hg=>hk.2.2.2 t (by simp [ht]) (hcov t ht b o hg)
 have hok:∀b o,Jh X.ok X.w.heap.size β [] (O1++O2) w b o→Jh X.ok X.w.heap.size β [] (O1'++O2) w' b o:=by
  rintro b o ⟨h1,h2,h3,h4⟩
  refine ⟨h1,Nat.lt_of_lt_of_le h2 hb.size,h3,fun u hu hc=>?_⟩
  rcases List.mem_append.1 hu with hu | hu
  ·rcases (hp u hu).2 b (u.cb hc) with hg | hg
   ·omega
   ·obtain ⟨t,ht,hg⟩:=hL b hg
    exact h4 t (by simp [ht]) (hcov t ht b o hg)
  ·exact h4 u (by simp [hu]) hc
 have hmine:∀t∈O1',∀g,t.blks g→X.mine g:=by
  intro t ht g hg
  rcases (hp t ht).2 g hg with h1 | h1
  ·exact .inl (Nat.le_trans h.bel.size h1)
  ·obtain ⟨u,hu,hg⟩:=hL g h1
   exact (h.own u (by simp [hu])).2 g hg
 have hO2:∀u∈O2,∀g,u.blks g→w'.heap[g]?=w.heap[g]?:=fun u hu g hg=>hsame g (h.olt (by simp [hu]) hg) fun t ht hg2=>hpw.2.2 t ht u hu g hg2 hg
 refine { sz:=h.sz,df:=h.df,fr:=h.fr,pn:=h.pn,tm:=h.tm,bel:=?_,dat:=(h.dat.evo hevo).weak hok,obj:=by simp,own:=?_,dHH:=by simp,dHO:=by simp,dOO:=?_ }
 ·refine h.bel.trans ⟨hb.os,hb.tape,hb.output,hb.size,fun k hk hn=>hsame k (Nat.lt_of_lt_of_le hk h.bel.size) fun t ht hg=>?_⟩
  exact ((h.own t (by simp [ht])).2 k hg).elim (fun h=>by omega) hn
 ·intro u hu
  rcases List.mem_append.1 hu with hu | hu
  ·exact ⟨u.weak (hp u hu).1 (H5 h hb.size hL),hmine u hu⟩
  ·have:=h.own u (by simp [hu]:u∈O1++O2)
   exact ⟨u.weak (u.keep this.1 (hO2 u hu) hevo) hok,this.2⟩
 ·refine List.pairwise_append.2 ⟨hd,hpw.2.1,fun t ht u hu g hg hg2=>?_⟩
  rcases (hp t ht).2 g hg with h1 | h1
  ·have:=h.olt (t:=u) (by simp [hu]) hg2; omega
  ·obtain ⟨v,hv,hg3⟩:=hL g h1
   exact hpw.2.2 v hv u hu g hg3 hg2
end
end Gd
namespace Gx
open Go Go.RowKit Gd
set_option linter.unusedVariables false
set_option linter.unusedSimpArgs false
def upd {α:Type} (f:Nat→α) (d:Nat) (v:α):Nat→α:=fun i=>if i=d then v else f i
theorem J7 {α:Type} (f:Nat→α) (d:Nat) (v:α):upd f d v d=v:=by simp [upd]
theorem Zc {α:Type} (f:Nat→α) {d i:Nat} (v:α) (h:i≠d):upd f d v i=f i:=by simp [upd,h]
def Lm (d:Nat) (β β':Nat→Nat) (ρ ρ':Nat→Value):Prop:=∀i,i≠d→β' i=β i∧ρ' i=ρ i
theorem Xh (d:Nat) (β:Nat→Nat) (ρ:Nat→Value) (g:Nat) (v:Value):Lm d β (upd β d g) ρ (upd ρ d v):=fun i h=>⟨Zc _ _ h,Zc _ _ h⟩
theorem neB {a b:Nat} (h:(!Nat.beq a b)=true):a≠b:=by
 intro e; subst e; simp [Nat.beq_refl] at h
section
variable {β β':Nat→Nat} {ρ ρ':Nat→Value} {ok:Ok} {w:World} {d:Nat}
theorem Zu (ha:Lm d β β' ρ ρ'):∀{m:Bool} {x:AV} {cs:List Value},Uj d x=true→cr β ρ ok w m x cs→cr β' ρ' ok w m x cs
 | m,.d t x,cs,_,h=>by cases m<;>exact h
 | m,.p id path,cs,hn,h=>by
  have:=(ha id (neB (by simpa [Uj] using hn))).1
  cases m<;>(simp only [cr] at h ⊢; rw [this]; exact h)
 | m,.e id path,cs,hn,h=>by
  have:=(ha id (neB (by simpa [Uj] using hn))).2
  cases m<;>(simp only [cr] at h ⊢; rw [this]; exact h)
 | m,.s id,cs,hn,h=>by
  have:=(ha id (neB (by simpa [Uj] using hn))).2
  cases m<;>(simp only [cr] at h ⊢; rw [this]; exact h)
 | m,.m id,cs,hn,h=>by
  have:=(ha id (neB (by simpa [Uj] using hn))).1
  cases m<;>(simp only [cr] at h ⊢; rw [this]; exact h)
 | m,.w id _ _,cs,hn,h=>by
  have:=(ha id (neB (by simpa [Uj] using hn))).1
  cases m<;>(simp only [cr] at h ⊢; rw [this]; exact h)
 | m,.a t x,cs,_,h=>by cases m<;>exact h
 | m,.z,cs,_,h=>by cases m<;>exact h
 | m,.ns,cs,_,h=>by cases m<;>exact h
 | m,.np,cs,_,h=>by cases m<;>exact h
 | m,.nm,cs,_,h=>by cases m<;>exact h
 | m,.nf,cs,_,h=>by cases m<;>exact h
 | m,.f fn caps,cs,hn,h=>by cases m<;>exact let ⟨vs,h1,h2⟩:=h; ⟨vs,h1,Zu ha (by simpa [Uj] using hn) h2⟩
 | m,.ag l,cs,hn,h=>by cases m<;>exact Zu ha (m:=false) (x:=l) (by simpa [Uj] using hn) h
 | m,.tp l,cs,hn,h=>by cases m<;>exact let ⟨vs,h1,h2⟩:=h; ⟨vs,h1,Zu ha (by simpa [Uj] using hn) h2⟩
 | m,.nil,cs,_,h=>by cases m<;>exact h
 | true,.cons x r,cs,hn,h=>by
  simp only [Uj,Bool.and_eq_true] at hn
  exact let ⟨c1,vs,h1,h2,h3⟩:=h; ⟨c1,vs,h1,Zu ha hn.1 h2,Zu ha hn.2 h3⟩
 | false,.cons x r,cs,hn,h=>by
  simp only [Uj,Bool.and_eq_true] at hn
  exact let ⟨c1,vs,h1,h2,h3⟩:=h; ⟨c1,vs,h1,Zu ha hn.1 h2,Zu ha hn.2 h3⟩
def Jkt (d:Nat):Ob→Prop
 | .var _ c=>Uj d c=true
 | .mapT _ _ _ _ _ _ (some q)=>q.2≠d
 | .mapO _ _ (some q)=>q.2≠d
 | _=>True
theorem Ku:∀{M:List (Nat×Ob)},Q7 d M=true→∀q∈M,q.1≠d∧Jkt d q.2
 | [],_,q,hq=>by cases hq
 | (k,o)::l,h,q,hq=>by
  cases o with
  | var t c =>
   simp only [Q7,Bool.and_eq_true] at h
   rcases List.mem_cons.1 hq with rfl | hq
   ·exact ⟨neB h.1.1,h.1.2⟩
   ·exact Ku h.2 q hq
  | mapT k1 v path e u xs hole =>
   cases hole with
   | none =>
    simp only [Q7,Bool.and_eq_true] at h
    rcases List.mem_cons.1 hq with rfl | hq
    ·exact ⟨neB h.1,trivial⟩
    ·exact Ku h.2 q hq
   | some q0 =>
    simp only [Q7,Bool.and_eq_true] at h
    rcases List.mem_cons.1 hq with rfl | hq
    ·exact ⟨neB h.1.1,neB h.1.2⟩
    ·exact Ku h.2 q hq
  | mapO k9 xs9 hole =>
   cases hole with
   | none =>
    simp only [Q7,P0,Bool.and_true,Bool.and_eq_true] at h
    rcases List.mem_cons.1 hq with rfl | hq
    ·exact ⟨neB h.1,trivial⟩
    ·exact Ku h.2 q hq
   | some q0 =>
    simp only [Q7,P0,Bool.and_true,Bool.and_eq_true] at h
    rcases List.mem_cons.1 hq with rfl | hq
    ·exact ⟨neB h.1.1,neB h.1.2⟩
    ·exact Ku h.2 q hq
  | _ =>
   simp only [Q7,Bool.and_eq_true] at h
   rcases List.mem_cons.1 hq with rfl | hq
   ·exact ⟨neB h.1,trivial⟩
   ·exact Ku h.2 q hq
theorem Hu (ha:Lm d β β' ρ ρ'):∀{M:List (Nat×Ob)},Q7 d M=true→Uf (Qf β ρ M) (Qf β' ρ' M)
 | [],_=>.nil
 | (k,o)::l,h=>by
  have hq:=Ku h (k,o) (.head _)
  have hl:Q7 d l=true:=by
   cases o with
   | mapT k1 v path e u xs hole=>cases hole<;>simp only [Q7,Bool.and_eq_true] at h<;>exact h.2
   | mapO k9 xs9 hole=>cases hole<;>simp only [Q7,P0,Bool.and_true,Bool.and_eq_true] at h<;>exact h.2
   | _=>simp only [Q7,Bool.and_eq_true] at h; exact h.2
  refine .cons ?_ (Hu ha hl)
  obtain ⟨h1,h2⟩:=ha k hq.1
  cases o with
  | var t c =>
   refine ⟨fun g=>by simp only [Q2,G0]; rw [h1],fun b o=>by simp only [Q2,G0]; rw [h1],fun ok w hp=>?_⟩
   obtain ⟨cs,hh,hc⟩:=hp
   exact ⟨cs,by rw [h1]; exact hh,Zu ha hq.2 hc⟩
  | row e t xs=>simp only [Q2,h2]; exact Zi.refl _
  | tail e t xs=>simp only [Q2,h2]; exact Zi.refl _
  | map k v xs=>simp only [Q2,h1]; exact Zi.refl _
  | mapT k1 v path e u xs hole =>
   have hv:Ca ρ' hole=Ca ρ hole:=by
    cases hole with
    | none=>rfl
    | some q=>exact (ha q.2 hq.2).2
   simp only [Q2,h1,h2,hv]; exact Zi.refl _
  | mapO k9 xs9 hole =>
   have hv:Cb β' hole=Cb β hole:=by
    cases hole with
    | none=>rfl
    | some q=>simp only [Cb,Option.map_some,(ha q.2 hq.2).1]
   simp only [Q2,h1,hv]; exact Zi.refl _
theorem Qy9 {a:Act} (ha:Lm d β β' ρ ρ') {e:En} (hn:Uj d e.av=true) (h:(enD β ρ a e).p ok w):(enD β' ρ' a e).p ok w :=
 ⟨fun hc=>let ⟨cs,h1,h2⟩:=h.1 hc; ⟨cs,h1,Zu ha hn h2⟩,h.2⟩
theorem L3 {l:List En} {e:En} (h:e∈Ud d l):e∈l∧Uj d e.av=true:=by
 induction l with
 | nil=>cases h
 | cons x l ih =>
  simp only [Ud] at h
  cases hb:Uj d x.av with
  | true =>
   rw [hb] at h
   rcases List.mem_cons.1 h with rfl | h
   ·exact ⟨.head _,hb⟩
   ·exact ⟨.tail _ (ih h).1,(ih h).2⟩
  | false=>rw [hb] at h; exact ⟨.tail _ (ih h).1,(ih h).2⟩
theorem Eo {l:List En} (h:Dk d l=true):∀e∈l,Uj d e.av=true:=by
 induction l with
 | nil=>intro e he; cases he
 | cons x l ih =>
  simp only [Dk,Bool.and_eq_true] at h
  intro e he
  rcases List.mem_cons.1 he with rfl | he
  ·exact h.1
  ·exact ih h.2 e he
end
section
variable {X:Cx} {β β':Nat→Nat} {ρ ρ':Nat→Value} {S:St} {a:Act} {w w':World} {d:Nat}
theorem Rel.off (h:Rel X β ρ S a w) (ha:Lm d β β' ρ ρ') (hf:Q7 d S.mem=true) {env':List En} (he:∀e∈env',e∈S.env∧Uj d e.av=true):Rel X β' ρ' ⟨env',S.mem⟩ a w:=by
 have h1:=Sb.simO h (Hu ha hf)
 refine { h1 with dat:=Jw.2 fun x hx=>?_ }
 obtain ⟨e,hm,rfl⟩:=List.mem_map.1 hx
 obtain ⟨h2,h3⟩:=he e hm
 exact Qy9 ha h3 ((enD β ρ a e).weak (h.en h2) (Hu ha hf).ok)
theorem Rel.ofSb {G:GL} {D:List DF} {O:List TL} (h:Sb (fun _=>0) X G D [] O a w) {mem:List (Nat×Ob)} (hO:O=Qf β ρ mem) {env:List En}
  (he:∀e∈env,(enD β ρ a e).p (okR X β ρ mem w) w):Rel X β ρ ⟨env,mem⟩ a w:=by
 subst hO
 exact { h with tm:=by simp,dat:=Jw.2 fun x hx=>by obtain ⟨e,hm,rfl⟩:=List.mem_map.1 hx; exact he e hm }
theorem Rel.alloc (h:Rel X β ρ S a w) (ha:Lm d β β' ρ ρ') (hf:Q7 d S.mem=true) {env':List En} (he:∀e∈env',e∈S.env∧Uj d e.av=true) (hb:Below w.heap.size w w') {o:Ob}
  (ht:∀g,(Q2 β' ρ' d o).blks g→w.heap.size≤g) (hq:(Q2 β' ρ' d o).p (okR X β' ρ' ((d,o)::S.mem) w') w'):Rel X β' ρ' ⟨env',(d,o)::S.mem⟩ a w' :=
 Sb.allocTL (h.off ha hf he) hb ht hq
end
end Gx

/- States by their shapes. -/
namespace Gd
open Go Go.RowKit
section
variable {β:Nat→Nat} {X:Cx} {G:GL} {D:List DF} {H:HL} {O:List TL} {a:Act} {w w':World}
theorem Sb.remake {O':List TL} (h:Sb β X G D H O a w)
  (hp:∀t'∈O',(∃t∈O,(∀g,t'.blks g→t.blks g)∧(∀b o,t'.cov b o→t.cov b o)∧t'.p (Jh X.ok X.w.heap.size β H O w) w)∨((∀g,¬ t'.blks g)∧∀ok w,t'.p ok w))
  (hd:O'.Pairwise fun s t=>∀g,s.blks g→¬ t.blks g):Sb β X G D H O' a w:=by
 have hok:∀b o,Jh X.ok X.w.heap.size β H O w b o→Jh X.ok X.w.heap.size β H O' w b o:=by
  rintro b o ⟨h1,h2,h3,h4⟩
  refine ⟨h1,h2,h3,fun u hu hc=>?_⟩
  rcases hp u hu with ⟨t,ht,_,h6,_⟩ | ⟨h5,_⟩
  ·exact h4 t ht (h6 b o hc)
  ·exact h5 b (u.cb hc)
 refine { sz:=h.sz,df:=h.df,fr:=h.fr,pn:=h.pn,tm:=h.tm,bel:=h.bel,dat:=h.dat.weak hok,obj:=h.obj,own:=fun u hu=>?_,dHH:=h.dHH,dHO:=fun p hp' u hu hg=>?_,dOO:=hd }
 ·rcases hp u hu with ⟨t,ht,h5,_,h7⟩ | ⟨h5,h6⟩
  ·exact ⟨u.weak h7 hok,fun g hg=>(h.own t ht).2 g (h5 g hg)⟩
  ·exact ⟨h6 _ _,fun g hg=>absurd hg (h5 g)⟩
 ·rcases hp u hu with ⟨t,ht,h5,_⟩ | ⟨h5,_⟩
  ·exact h.dHO p hp' t ht (h5 _ hg)
  ·exact h5 _ hg
end
end Gd
namespace Gx
open Go Go.RowKit Gd
set_option linter.unusedVariables false
set_option linter.unusedSimpArgs false
section
variable {X:Cx} {β:Nat→Nat} {ρ:Nat→Value} {S:St} {a:Act} {w w':World}
theorem Ag:∀{M:List (Nat×Ob)} {c:Nat} {o:Ob},Qe M c=some o→(c,o)∈M
 | q::l,c,o,h=>by
  obtain ⟨l1,l2,h1,_⟩:=Yd h
  rw [h1]; simp
theorem Rel.disj (h:Rel X β ρ S a w) {c c':Nat} {o o':Ob} (h1:Qe S.mem c=some o) (h2:Qe S.mem c'=some o') (hne:c≠c'):∀g,(Q2 β ρ c o).blks g→¬ (Q2 β ρ c' o').blks g:=by
 obtain ⟨l1,l2,hl,_⟩:=Yd h1
 have hm:=Ag h2
 have hp:((l1++(c,o)::l2).map fun q=>Q2 β ρ q.1 q.2).Pairwise fun s t=>∀g,s.blks g→¬ t.blks g:=by rw [←hl]; exact h.dOO
 rw [List.map_append,List.map_cons] at hp
 have hp1:=List.pairwise_append.1 hp
 have hp2:=List.pairwise_cons.1 hp1.2.1
 rw [hl] at hm
 intro g hg hg2
 rcases List.mem_append.1 hm with hm | hm
 ·exact hp1.2.2 _ (List.mem_map.2 ⟨_,hm,rfl⟩) _ (.head _) g hg2 hg
 ·rcases List.mem_cons.1 hm with hm | hm
  ·injection hm with e _; exact hne e.symm
  ·exact hp2.1 _ (List.mem_map.2 ⟨_,hm,rfl⟩) g hg hg2
theorem Sb.toTail {β:Nat→Nat} {G:GL} {D:List DF} {O:List TL} {τ:Type} {r:RT τ} {xs:List τ} {A:Option Addr} {c e:Nat} (h:Sb β X G D [] (ml (.slice A xs.length c) e r xs::O) a w) (hs:Nat.ble 1 r.size=true) :
  Sb β X G D [] (Um (.slice A xs.length c) e r xs::O) a w:=by
 have h2:=h.freeze rfl hs
 have hiv:isV (rSl r) _ w xs (.slice A xs.length c):=h2.d 0 rfl
 have h3:={ h2 with dat:=h2.dat.2 }
 refine Sb.remake h3 (fun u hu=>?_) ?_
 ·rcases List.mem_cons.1 hu with rfl | hu
  ·exact .inl ⟨_,.head _,fun g hg=>hg,fun b o hc=>hc,hiv,(h3.own _ (.head _)).1⟩
  ·exact .inl ⟨u,.tail _ hu,fun _ hg=>hg,fun _ _ hc=>hc,(h3.own u (.tail _ hu)).1⟩
 ·have:=List.pairwise_cons.1 h3.dOO
  exact List.pairwise_cons.2 ⟨fun u hu g hg=>this.1 u hu g hg,this.2⟩
theorem Rel.freeze1 {env:List En} {l1 l2:List (Nat×Ob)} {id:Nat} {e:TypeId} {t:Ty} {xs:List t.De} (h:Rel X β ρ ⟨env,l1++(id,.row e t xs)::l2⟩ a w) (hs:Nat.ble 1 t.size=true) :
  Rel X β ρ ⟨env,l1++(id,.tail e t xs)::l2⟩ a w:=by
 unfold Rel at h ⊢
 simp only [Qf,List.map_append,List.map_cons] at h ⊢
 have h1:=h.perm (O':=Q2 β ρ id (.row e t xs)::(l1.map (fun q=>Q2 β ρ q.1 q.2)++l2.map (fun q=>Q2 β ρ q.1 q.2))) List.perm_middle
 obtain ⟨⟨hl,cs,hown,hr⟩,_⟩:=h1.own _ (.head _)
 obtain ⟨A,c,hv⟩:∃A c,ρ id=.slice A xs.length c:=by
  rcases hown.2 with ⟨hv,h0⟩ | ⟨g,cap,cur,fz,hv,_⟩
  ·exact ⟨none,0,by rw [hv,←hl,h0]⟩
  ·exact ⟨_,cap,by rw [hv,hl]⟩
 have hO:Q2 β ρ id (.row e t xs)=ml (.slice A xs.length c) e (rt t) xs:=by simp only [Q2,hv]
 rw [hO] at h1
 have h2:=h1.freeze rfl (by rw [Jv]; exact hs)
 have hiv:isV (rSl (rt t)) _ w xs (.slice A xs.length c):=h2.d 0 rfl
 have h3:={ h2 with dat:=h2.dat.2 }
 have h4:Sb (fun _=>0) X [] (List.map (enD β ρ a) env) [] (Q2 β ρ id (.tail e t xs)::(l1.map (fun q=>Q2 β ρ q.1 q.2)++l2.map (fun q=>Q2 β ρ q.1 q.2))) a w:=by
  refine Sb.remake h3 (fun u hu=>?_) ?_
  ·rcases List.mem_cons.1 hu with rfl | hu
   ·refine .inl ⟨_,.head _,fun g hg=>?_,fun b o hc=>?_,?_⟩
    ·have hg':(ρ id).ownBlock=some g:=hg
     rw [hv] at hg'; exact hg'
    ·have hc':(ρ id).ownBlock=some b∧Ur (ρ id)*(rt t).size≤o:=hc
     rw [hv] at hc'; exact hc'
    ·simp only [Q2,Um,hv]
     exact ⟨hiv,(h3.own _ (.head _)).1⟩
   ·exact .inl ⟨u,.tail _ hu,fun _ hg=>hg,fun _ _ hc=>hc,(h3.own u (.tail _ hu)).1⟩
  ·have:=List.pairwise_cons.1 h3.dOO
   refine List.pairwise_cons.2 ⟨fun u hu g hg=>this.1 u hu g ?_,this.2⟩
   have hg':(ρ id).ownBlock=some g:=hg
   rw [hv] at hg'; exact hg'
 exact h4.perm List.perm_middle.symm
theorem Rel.freeze:∀(l:List (Nat×Ob)) {l0 F:List (Nat×Ob)} {env:List En} {ks:List Nat},Rel X β ρ ⟨env,l0++l++F⟩ a w→Rel X β ρ ⟨env,l0++Vr ks l++F⟩ a w
 | [],l0,F,env,ks,h=>h
 | (id,.row e t xs)::l,l0,F,env,ks,h=>by
  simp only [Vr]
  cases hb:(Yn ks id&&Nat.ble 1 t.size) with
  | true =>
   simp only [cond_true]
   simp only [Bool.and_eq_true] at hb
   have h1:Rel X β ρ ⟨env,l0++(id,.row e t xs)::(l++F)⟩ a w:=by simpa using h
   have h2:=h1.freeze1 hb.2
   have h3:=Rel.freeze l (l0:=l0++[(id,.tail e t xs)]) (F:=F) (ks:=ks) (by simpa using h2)
   simpa using h3
  | false =>
   simp only [cond_false]
   have h3:=Rel.freeze l (l0:=l0++[(id,.row e t xs)]) (F:=F) (ks:=ks) (by simpa using h)
   simpa using h3
 | (id,.var t c)::l,l0,F,env,ks,h=>by
  have h3:=Rel.freeze l (l0:=l0++[(id,.var t c)]) (F:=F) (ks:=ks) (by simpa using h)
  simpa [Vr] using h3
 | (id,.tail e t xs)::l,l0,F,env,ks,h=>by
  have h3:=Rel.freeze l (l0:=l0++[(id,.tail e t xs)]) (F:=F) (ks:=ks) (by simpa using h)
  simpa [Vr] using h3
 | (id,.map k v xs)::l,l0,F,env,ks,h=>by
  have h3:=Rel.freeze l (l0:=l0++[(id,.map k v xs)]) (F:=F) (ks:=ks) (by simpa using h)
  simpa [Vr] using h3
 | (id,.mapT k v path e u xs hole)::l,l0,F,env,ks,h=>by
  have h3:=Rel.freeze l (l0:=l0++[(id,.mapT k v path e u xs hole)]) (F:=F) (ks:=ks) (by simpa using h)
  simpa [Vr] using h3
 | (id,.mapO k xs last)::l,l0,F,env,ks,h=>by
  have h3:=Rel.freeze l (l0:=l0++[(id,.mapO k xs last)]) (F:=F) (ks:=ks) (by simpa using h)
  simpa [Vr] using h3
theorem Tw:∀{ts:List Ty} {l:List DV} {x:Tup ts},ofL ts l=some x→toL ts x=l
 | [],l,x,h=>by
  cases l with
  | nil=>rfl
  | cons _ _=>simp [ofL] at h
 | [t],l,x,h=>by
  match l,h with
  | [v],h =>
   obtain ⟨e,hx⟩:=Ty.cast_ok (by simpa [ofL] using h)
   obtain ⟨u,y⟩:=v
   simp only at e
   subst e
   simp only at hx
   subst hx
   rfl
  | [],h=>simp [ofL] at h
  | _::_::_,h=>simp [ofL] at h
 | t::u::ts,l,x,h=>by
  match l,h with
  | [],h=>simp [ofL] at h
  | v::vs,h =>
   simp only [ofL] at h
   split at h
   ·rename_i a b ha hb
    simp at h; subst h
    obtain ⟨e,hx⟩:=Ty.cast_ok ha
    obtain ⟨s,y⟩:=v
    simp only at e
    subst e
    simp only at hx
    subst hx
    have:=Tw hb
    simp only [toL,this]
   ·cases h
def Xo (ri:List (Nat×Nat)) (β:Nat→Nat):Nat→Nat:=fun i=>match J3 ri i with
 | some c=>β c
 | none=>β i
def Xi (ri:List (Nat×Nat)) (pr:List Nat) (ρ:Nat→Value):Nat→Value:=fun i=>match J3 ri i with
 | some c=>ρ c
 | none=>bif Yn pr i then ρ i else .slice none 0 0
theorem Is {ri:List (Nat×Nat)} {i c:Nat} (h:Qka ri i c=true):J3 ri i=some c:=by
 unfold Qka at h
 split at h
 ·rename_i j hj; rw [hj,Nat.eq_of_beq_eq_true h]
 ·cases h
theorem Iu:∀{p q:List PS},Th p q=true→p=q
 | [],[],_=>rfl
 | a::l,b::m,h=>by
  simp only [Th,Bool.and_eq_true] at h
  have h2:=Iu h.2
  have h1:=h.1
  cases a<;>cases b<;>simp only [PS.beq,Bool.and_eq_true] at h1<;>first | (cases h1; done) | skip
  rw [Nat.eq_of_beq_eq_true h1.1,Nat.eq_of_beq_eq_true h1.2,h2]
 | [],_::_,h=>by cases h
 | _::_,[],h=>by cases h
theorem Iv {α:Type} {x:Option α} (h:isNone x=true):x=none:=by cases x with
 | none=>rfl
 | some _=>cases h
variable {ok:Ok} {M:List (Nat×Ob)} {ri:List (Nat×Nat)} {pr:List Nat}
theorem G2 (hM:∀id o,Qe M id=some o→(Q2 β ρ id o).p ok w) :
  ∀{sk:Sk} {m:Bool} {x:AV} {cs:List Value} {l:List DV} (rest:List DV),Ui M ri pr sk x=some l→cr β ρ ok w m x cs→(m=true→sk.isL=true) →
   ∃y,Ej sk (l++rest)=(y,rest)∧cr (Xo ri β) (Xi ri pr ρ) ok w m y cs∧y.isAgg=x.isAgg
 | .d t,true,x,cs,l,rest,h,hc,hm=>by cases hm rfl
 | .d t,false,x,cs,l,rest,h,hc,hm=>by
  simp only [Ui] at h
  split at h
  ·rename_i y hy
   obtain ⟨hb,h⟩:=bvT h
   simp at h; subst h
   exact ⟨.d t y,rfl,Ut hM hy hc,bEq hb⟩
  ·cases h
 | .p id path,true,x,cs,l,rest,h,hc,hm=>by cases hm rfl
 | .p id path,false,x,cs,l,rest,h,hc,hm=>by
  cases x<;>simp only [Ui] at h<;>first | (cases h; done) | skip
  rename_i c path'
  obtain ⟨hb,h⟩:=bvT h
  simp only [Bool.and_eq_true] at hb
  simp at h; subst h
  have h1:=Is hb.1
  have h2:=Iu hb.2
  subst h2
  refine ⟨.p id path,rfl,?_,rfl⟩
  have hc':cs=[.pointer (some ⟨β c,J4 path,none⟩)]:=hc
  show cs=[.pointer (some ⟨Xo ri β id,J4 path,none⟩)]
  rw [hc']; simp only [Xo,h1]
 | .s id,true,x,cs,l,rest,h,hc,hm=>by cases hm rfl
 | .s id,false,x,cs,l,rest,h,hc,hm=>by
  cases x<;>simp only [Ui] at h<;>first | (cases h; done) | skip
  ·rename_i c
   obtain ⟨hb,h⟩:=bvT h
   simp only [Bool.and_eq_true] at hb
   simp at h; subst h
   have h1:=Is hb.1
   refine ⟨.s id,rfl,?_,rfl⟩
   obtain ⟨h2,h3⟩:=hc
   have e:Xi ri pr ρ id=ρ c:=by simp only [Xi,h1]
   exact ⟨by rw [e]; exact h2,by rw [e]; exact h3⟩
  ·obtain ⟨hb,h⟩:=bvT h
   simp only [Bool.and_eq_true] at hb
   simp at h; subst h
   have h1:=Iv hb.1
   refine ⟨.s id,rfl,?_,rfl⟩
   have hc':cs=[.slice none 0 0]:=hc
   have e:Xi ri pr ρ id=.slice none 0 0:=by
    simp only [Xi,h1]
    have:=hb.2
    cases hp:Yn pr id with
    | true=>rw [hp] at this; cases this
    | false=>rfl
   exact ⟨⟨_,hc',.inl e.symm⟩,none,0,0,e⟩
 | .m id,true,x,cs,l,rest,h,hc,hm=>by cases hm rfl
 | .m id,false,x,cs,l,rest,h,hc,hm=>by
  cases x<;>simp only [Ui] at h<;>first | (cases h; done) | skip
  rename_i c
  obtain ⟨hb,h⟩:=bvT h
  simp at h; subst h
  have h1:=Is hb
  refine ⟨.m id,rfl,?_,rfl⟩
  have hc':cs=[.map (some (β c))]:=hc
  show cs=[.map (some (Xo ri β id))]
  rw [hc']; simp only [Xo,h1]
 | .ns,true,x,cs,l,rest,h,hc,hm=>by cases hm rfl
 | .ns,false,x,cs,l,rest,h,hc,hm=>by cases x<;>simp [Ui] at h; subst h; exact ⟨.ns,rfl,hc,rfl⟩
 | .np,true,x,cs,l,rest,h,hc,hm=>by cases hm rfl
 | .np,false,x,cs,l,rest,h,hc,hm=>by cases x<;>simp [Ui] at h; subst h; exact ⟨.np,rfl,hc,rfl⟩
 | .nm,true,x,cs,l,rest,h,hc,hm=>by cases hm rfl
 | .nm,false,x,cs,l,rest,h,hc,hm=>by cases x<;>simp [Ui] at h; subst h; exact ⟨.nm,rfl,hc,rfl⟩
 | .nf,true,x,cs,l,rest,h,hc,hm=>by cases hm rfl
 | .nf,false,x,cs,l,rest,h,hc,hm=>by cases x<;>simp [Ui] at h; subst h; exact ⟨.nf,rfl,hc,rfl⟩
 | .z,true,x,cs,l,rest,h,hc,hm=>by cases hm rfl
 | .z,false,x,cs,l,rest,h,hc,hm=>by cases x<;>simp [Ui] at h; subst h; exact ⟨.z,rfl,hc,rfl⟩
 | .f fn c,true,x,cs,l,rest,h,hc,hm=>by cases hm rfl
 | .f fn c,false,x,cs,l,rest,h,hc,hm=>by
  cases x<;>simp only [Ui] at h<;>first | (cases h; done) | skip
  rename_i fn' x'
  obtain ⟨hb,h0⟩:=bvT h
  simp only [Bool.and_eq_true] at hb
  have h1:=Nat.eq_of_beq_eq_true hb.1
  subst h1
  obtain ⟨vs,h2,h3⟩:=hc
  obtain ⟨y,h4,h5,_⟩:=G2 hM (m:=true) rest h0 h3 fun _=>hb.2
  exact ⟨.f fn y,by simp only [Ej,h4],⟨vs,h2,h5⟩,rfl⟩
 | .ag s,true,x,cs,l,rest,h,hc,hm=>by cases hm rfl
 | .ag s,false,x,cs,l,rest,h,hc,hm=>by
  simp only [Ui] at h
  split at h
  ·rename_i y hy
   obtain ⟨z0,h1,h2,_⟩:=G2 hM (m:=false) rest h (Ol hy hc) fun e=>by cases e
   refine ⟨.ag z0,by simp only [Ej,h1],h2,?_⟩
   unfold Fz at hy
   split at hy<;>first | rfl | cases hy
  ·cases h
 | .nil,m,x,cs,l,rest,h,hc,hm=>by
  cases x<;>simp [Ui] at h
  subst h
  refine ⟨.nil,rfl,?_,rfl⟩
  cases m<;>exact hc
 | .cons a b,true,x,cs,l,rest,h,hc,hm=>by
  cases x<;>simp only [Ui] at h<;>first | (cases h; done) | skip
  rename_i x r
  split at h
  ·rename_i u v hu hv
   simp at h; subst h
   obtain ⟨c1,vs,h1,h2,h3⟩:=hc
   obtain ⟨y,e1,e2,e3⟩:=G2 hM (m:=false) (v++rest) hu h2 fun e=>by cases e
   obtain ⟨z0,e4,e5,e6⟩:=G2 hM (m:=true) rest hv h3 fun _=>by simpa [Sk.isL] using hm rfl
   refine ⟨.cons y z0,by simp only [Ej,List.append_assoc,e1,e4],⟨c1,vs,?_,e2,e5⟩,rfl⟩
   rw [h1]
   simp only [AV.val,e3]
  ·cases h
 | .cons a b,false,x,cs,l,rest,h,hc,hm=>by
  cases x<;>simp only [Ui] at h<;>first | (cases h; done) | skip
  rename_i x r
  split at h
  ·rename_i u v hu hv
   simp at h; subst h
   obtain ⟨c1,c2,h1,h2,h3⟩:=hc
   obtain ⟨y,e1,e2,e3⟩:=G2 hM (m:=false) (v++rest) hu h2 fun e=>by cases e
   obtain ⟨z0,e4,e5,e6⟩:=G2 hM (m:=false) rest hv h3 fun e=>by cases e
   exact ⟨.cons y z0,by simp only [Ej,List.append_assoc,e1,e4],⟨c1,c2,h1,e2,e5⟩,rfl⟩
  ·cases h
theorem Iw (hM:∀id o,Qe M id=some o→(Q2 β ρ id o).p ok w) {env:List En} (hE:∀e∈env,(enD β ρ a e).p ok w) :
  ∀{Γe:List (Nat×Sk)} {l:List DV} (rest:List DV),Ti M ri pr env Γe=some l →
   ∃es,Ha Γe (l++rest)=(es,rest)∧∀e∈es,(enD (Xo ri β) (Xi ri pr ρ) a e).p ok w∧Nat.blt e.t 100000=true
 | [],l,rest,h=>by simp [Ti] at h; subst h; exact ⟨[],rfl,by simp⟩
 | (t,s)::g,l,rest,h=>by
  simp only [Ti] at h
  split at h
  ·rename_i t' x hx
   split at h
   ·rename_i u v hu hv
    simp at h; subst h
    obtain ⟨hm,ht⟩:=Uh hx
    simp only at ht
    subst ht
    obtain ⟨cs,h1,h2⟩:=(hE _ hm).1 (Qb a)
    obtain ⟨y,h3,h4,h5⟩:=G2 hM (v++rest) hu h2 fun e=>by cases e
    obtain ⟨es,h6,h7⟩:=Iw hM hE rest hv
    refine ⟨⟨t',[],y⟩::es,by simp only [Ha,List.append_assoc,h3,h6],fun e he=>?_⟩
    rcases List.mem_cons.1 he with rfl | he
    ·refine ⟨⟨fun _=>⟨cs,?_,h4⟩,.inl (Qb a)⟩,Aa hx⟩
     rw [h1]; simp only [AV.val,h5]
    ·exact h7 e he
   ·cases h
  ·cases h
theorem Jd {l m:List (Nat×Ob)} {c:Nat} {o:Ob} (h:Qe l c=some o):Qe (l++m) c=some o:=by
 induction l with
 | nil=>simp [Qe] at h
 | cons q l ih =>
  simp only [Qe,List.cons_append] at h ⊢
  cases hb:Nat.beq q.1 c with
  | true=>rw [hb] at h; exact h
  | false=>rw [hb] at h; exact ih h
def Jbx (β:Nat→Nat) (ρ:Nat→Value) (ri:List (Nat×Nat)) (pr:List Nat) (ok:Ok) (w:World) (M:List (Nat×Ob)) (id:Nat) (o:Ob):Prop :=
 (∃c ob,J3 ri id=some c∧Qe M c=some ob∧(∀g,(Q2 (Xo ri β) (Xi ri pr ρ) id o).blks g→(Q2 β ρ c ob).blks g)∧(∀b f,(Q2 (Xo ri β) (Xi ri pr ρ) id o).cov b f→(Q2 β ρ c ob).cov b f)∧(Q2 (Xo ri β) (Xi ri pr ρ) id o).p ok w) ∨
 (J3 ri id=none∧(∀g,¬ (Q2 (Xo ri β) (Xi ri pr ρ) id o).blks g)∧∀ok w,(Q2 (Xo ri β) (Xi ri pr ρ) id o).p ok w)
theorem Qza {v:Value} (hv:v=.slice none 0 0) {e:Nat} {τ:Type} {r:RT τ} (ok:Ok) (w:World):(ml v e r []).p ok w:=by
 subst hv
 exact ⟨rfl,[],World.ownsRowS_nil _ _ _ _,rfl⟩
theorem Qtt {v:Value} (hv:v=.slice none 0 0) {e:Nat} {τ:Type} {r:RT τ} (ok:Ok) (w:World):(Um v e r []).p ok w:=by
 subst hv
 exact ⟨Jbr,[],World.ownsRowS_nil _ _ _ _⟩
theorem Ow {M0 F:List (Nat×Ob)} (hM:∀id o,Qe (M0++F) id=some o→(Q2 β ρ id o).p ok w) :
  ∀{Γm:List (Nat×SkO)} {l:List DV},Qm0 ri pr Γm=true→F0 M0 F ri pr Γm=some l →
   (Uz Γm l).map Prod.fst=Γm.map Prod.fst∧∀q∈Uz Γm l,Jbx β ρ ri pr ok w M0 q.1 q.2
 | [],l,_,h=>by simp [F0] at h; subst h; exact ⟨rfl,by simp [Uz]⟩
 | (id,s)::g,l,hp,h=>by
  simp only [Qm0,Bool.and_eq_true] at hp
  simp only [F0] at h
  split at h
  ·rename_i o ho
   split at h
   ·rename_i u v hu hv
    simp at h; subst h
    have key:∃ob',Gb s (u++v)=some (ob',v)∧Jbx β ρ ri pr ok w M0 id ob':=by
     unfold Qmz at ho
     split at ho
     ·rename_i hn
      simp at ho; subst ho
      have hnp:Yn pr id=false:=by
       have:=hp.1
       cases hm:Yn pr id with
       | false=>rfl
       | true =>
        rw [hm] at this
        simp only [Qka,hn,Bool.not_true,Bool.or_self] at this
        cases this
      have e:Xi ri pr ρ id=.slice none 0 0:=by simp only [Xi,hn,hnp,cond_false]
      have nb:∀g,¬ (Xi ri pr ρ id).ownBlock=some g:=by rw [e]; intro g hg; cases hg
      cases s with
      | row e' t =>
       simp only [Ek] at hu
       simp at hu; subst hu
       refine ⟨.row e' t [],?_,.inr ⟨hn,nb,fun ok w=>Qza e ok w⟩⟩
       simp [Gb,Ty.cast,Ty.beq_refl]
      | tail e' t =>
       simp only [Ek] at hu
       simp at hu; subst hu
       refine ⟨.tail e' t [],?_,.inr ⟨hn,fun g hg=>nb g hg,fun ok w=>Qtt e ok w⟩⟩
       simp [Gb,Ty.cast,Ty.beq_refl]
      | var tid c=>simp [Ek] at hu
      | map k u'=>simp [Ek] at hu
      | mapT k u' path e t=>simp [Ek] at hu
      | mapO k9=>simp [Ek] at hu
     ·rename_i c hc
      split at ho
      ·rename_i ob hob
       simp at ho; subst ho
       have hpo:=hM c ob (Jd hob)
       have eR:Xi ri pr ρ id=ρ c:=by simp only [Xi,hc]
       have eB:Xo ri β id=β c:=by simp only [Xo,hc]
       cases s with
       | var tid sk =>
        cases ob<;>simp only [Ek] at hu<;>first | (cases hu; done) | skip
        rename_i tid' x
        obtain ⟨hb,hu0⟩:=bvT hu
        have:=Nat.eq_of_beq_eq_true hb
        subst this
        obtain ⟨cs,h1,h2⟩:=hpo
        obtain ⟨y,h3,h4,h5⟩:=G2 hM v hu0 h2 fun e=>by cases e
        refine ⟨.var tid y,by simp only [Gb,h3],.inl ⟨c,_,hc,hob,?_,?_,cs,by rw [eB]; exact h1,h4⟩⟩
        ·intro g hg
         have hg':g=Xo ri β id:=hg
         show g=β c
         rw [hg',eB]
        ·intro b f hg
         have hg':b=Xo ri β id:=hg
         show b=β c
         rw [hg',eB]
       | row e' t =>
        cases ob<;>simp only [Ek] at hu<;>first | (cases hu; done) | skip
        rename_i e2 t2 xs
        obtain ⟨hb,hu0⟩:=bvT hu
        clear hu
        simp only [Bool.and_eq_true] at hb
        have h1:=Nat.eq_of_beq_eq_true hb.1
        have h2:=Ty.beq_eq hb.2
        subst h1; subst h2
        simp at hu0; subst hu0
        refine ⟨.row e' t xs,by simp [Gb,Ty.cast,Ty.beq_refl],.inl ⟨c,_,hc,hob,?_,?_,?_⟩⟩<;>simp only [Q2,eR]
        ·exact fun _ hg=>hg
        ·exact fun _ _ hg=>hg
        ·exact hpo
       | tail e' t =>
        cases ob<;>simp only [Ek] at hu<;>first | (cases hu; done) | skip
        rename_i e2 t2 xs
        obtain ⟨hb,hu0⟩:=bvT hu
        clear hu
        simp only [Bool.and_eq_true] at hb
        have h1:=Nat.eq_of_beq_eq_true hb.1
        have h2:=Ty.beq_eq hb.2
        subst h1; subst h2
        simp at hu0; subst hu0
        refine ⟨.tail e' t xs,by simp [Gb,Ty.cast,Ty.beq_refl],.inl ⟨c,_,hc,hob,?_,?_,?_⟩⟩<;>simp only [Q2,eR]
        ·exact fun _ hg=>hg
        ·exact fun _ _ hg=>hg
        ·exact hpo
       | map k u' =>
        cases ob<;>simp only [Ek] at hu<;>first | (cases hu; done) | skip
        rename_i k2 u2 xs
        obtain ⟨hb,hu0⟩:=bvT hu
        clear hu
        simp only [Bool.and_eq_true] at hb
        have h1:=Ty.beq_eq hb.1
        have h2:=Ty.beq_eq hb.2
        subst h1; subst h2
        simp at hu0; subst hu0
        refine ⟨.map k u' xs,by simp [Gb,Ty.cast,Ty.beq_refl],.inl ⟨c,_,hc,hob,?_,?_,?_⟩⟩<;>simp only [Q2,eB]
        ·exact fun _ hg=>hg
        ·exact fun _ _ hg=>hg
        ·exact hpo
       | mapT k u' path e t =>
        cases ob<;>simp only [Ek] at hu<;>first | (cases hu; done) | skip
        rename_i k2 u2 path2 e2 t2 xs hole
        obtain ⟨hb,hu0⟩:=bvT hu
        clear hu
        simp only [Bool.and_eq_true] at hb
        obtain ⟨⟨⟨⟨⟨b1,b2⟩,b3⟩,b4⟩,b5⟩,b6⟩:=hb
        have h1:=Ty.beq_eq b1
        have h2:=Ty.beq_eq b2
        have h3:=Iu b3
        have h4:=Nat.eq_of_beq_eq_true b4
        have h5:=Ty.beq_eq b5
        subst h1; subst h2; subst h3; subst h4; subst h5
        have h6:=Iv b6
        subst h6
        simp at hu0; subst hu0
        refine ⟨.mapT k u' path e t xs none,by simp [Gb,Ty.cast,Ty.beq_refl],.inl ⟨c,_,hc,hob,?_,?_,?_⟩⟩<;>simp only [Q2,eB,eR]
        ·exact fun _ hg=>hg
        ·exact fun _ _ hg=>hg
        ·exact hpo
       | mapO k =>
        cases ob<;>simp only [Ek] at hu<;>first | (cases hu; done) | skip
        rename_i k2 xs last
        obtain ⟨hb,hu0⟩:=bvT hu
        clear hu
        have h1:=Ty.beq_eq hb
        subst h1
        simp at hu0; subst hu0
        refine ⟨.mapO k xs none,by simp [Gb,Ty.cast,Ty.beq_refl],.inl ⟨c,_,hc,hob,?_,?_,?_⟩⟩<;>simp only [Q2,eB]
        ·exact fun _ hg=>hg
        ·exact fun _ _ hg=>hg
        ·obtain ⟨xs',p1,p2,_⟩:=hpo
         exact ⟨xs',p1,p2,fun q hq=>by cases hq⟩
      ·cases ho
    obtain ⟨ob',h1,h2⟩:=key
    obtain ⟨h3,h4⟩:=Ow hM hp.2 hv
    simp only [Uz,h1]
    refine ⟨by simp [h3],fun q hq=>?_⟩
    rcases List.mem_cons.1 hq with rfl | hq
    ·exact h2
    ·exact h4 q hq
   ·cases h
  ·cases h
theorem Zj:∀{l:List Nat} {t:Nat},Yn l t=true↔t∈l
 | [],t=>by simp [Yn]
 | k::l,t=>by
  simp only [Yn,Bool.or_eq_true,List.mem_cons,Zj (l:=l)]
  constructor
  ·rintro (h | h)
   ·exact .inl (Nat.eq_of_beq_eq_true h).symm
   ·exact .inr h
  ·rintro (h | h)
   ·subst h; exact .inl (Nat.beq_refl _)
   ·exact .inr h
theorem Qzb {pr:List Nat} (hi:Qf5 pr ri=true):∀i∈pr,Xo ri β i=β i∧Xi ri pr ρ i=ρ i:=by
 have key:∀{ri:List (Nat×Nat)},Qf5 pr ri=true→∀i∈pr,∀c,J3 ri i=some c→c=i:=by
  intro ri
  induction ri with
  | nil=>intro _ i _ c hc; simp [J3] at hc
  | cons q l ih =>
   obtain ⟨k,x⟩:=q
   intro h i hi c hc
   simp only [Qf5,Bool.and_eq_true] at h
   simp only [J3] at hc
   cases hb:Nat.beq k i with
   | true =>
    rw [hb] at hc
    simp at hc; subst hc
    have:=Nat.eq_of_beq_eq_true hb
    subst this
    have h1:=h.1
    rw [Zj.2 hi] at h1
    exact (Nat.eq_of_beq_eq_true (by simpa using h1)).symm
   | false=>rw [hb] at hc; exact ih h.2 i hi c hc
 intro i hm
 cases hl:J3 ri i with
 | none=>exact ⟨by simp only [Xo,hl],by simp only [Xi,hl,Zj.2 hm,cond_true]⟩
 | some c =>
  have:=key hi i hm c hl
  subst this
  exact ⟨by simp only [Xo,hl],by simp only [Xi,hl]⟩
theorem Ah:∀{Γm:List (Nat×SkO)} {mem:List (Nat×Ob)} {cs:List Nat},Wj ri Γm cs=true→mem.map Prod.fst=Γm.map Prod.fst →
  (mem.Pairwise fun q q'=>∀c c',J3 ri q.1=some c→J3 ri q'.1=some c'→c≠c')∧∀q∈mem,∀c,J3 ri q.1=some c→c∉cs
 | [],mem,cs,_,hm=>by
  have:mem=[]:=by simpa using hm
  subst this; exact ⟨.nil,by simp⟩
 | (id,s)::g,mem,cs,h,hm=>by
  cases mem with
  | nil=>simp at hm
  | cons q mem =>
   simp only [List.map_cons,List.cons.injEq] at hm
   obtain ⟨h1,h2⟩:=hm
   simp only [Wj] at h
   split at h
   ·rename_i c hc
    simp only [Bool.and_eq_true] at h
    obtain ⟨h3,h4⟩:=Ah h.2 h2
    refine ⟨List.pairwise_cons.2 ⟨fun q' hq' c1 c2 e1 e2 e=>?_,h3⟩,fun q' hq' c1 e1=>?_⟩
    ·rw [h1,hc] at e1
     injection e1 with e1; subst e1; subst e
     exact h4 q' hq' c e2 (.head _)
    ·rcases List.mem_cons.1 hq' with rfl | hq'
     ·rw [h1,hc] at e1
      injection e1 with e1; subst e1
      intro hm
      have:=h.1
      rw [Zj.2 hm] at this
      cases this
     ·exact fun hm=>h4 q' hq' c1 e1 (.tail _ hm)
   ·rename_i hn
    obtain ⟨h3,h4⟩:=Ah h h2
    refine ⟨List.pairwise_cons.2 ⟨fun q' hq' c1 c2 e1 e2 e=>?_,h3⟩,fun q' hq' c1 e1=>?_⟩
    ·rw [h1,hn] at e1; cases e1
    ·rcases List.mem_cons.1 hq' with rfl | hq'
     ·rw [h1,hn] at e1; cases e1
     ·exact h4 q' hq' c1 e1
theorem Z4 {β β':Nat→Nat} {ρ ρ':Nat→Value}:∀{m:Bool} {x:AV} {cs:List Value},(∀i∈Jc x,β' i=β i∧ρ' i=ρ i)→cr β ρ ok w m x cs→cr β' ρ' ok w m x cs
 | m,.d t x,cs,_,h=>by cases m<;>exact h
 | m,.p id path,cs,hn,h=>by
  have:=(hn id (.head _)).1
  cases m<;>(simp only [cr] at h ⊢; rw [this]; exact h)
 | m,.e id path,cs,hn,h=>by
  have:=(hn id (.head _)).2
  cases m<;>(simp only [cr] at h ⊢; rw [this]; exact h)
 | m,.s id,cs,hn,h=>by
  have:=(hn id (.head _)).2
  cases m<;>(simp only [cr] at h ⊢; rw [this]; exact h)
 | m,.m id,cs,hn,h=>by
  have:=(hn id (.head _)).1
  cases m<;>(simp only [cr] at h ⊢; rw [this]; exact h)
 | m,.w id _ _,cs,hn,h=>by
  have:=(hn id (.head _)).1
  cases m<;>(simp only [cr] at h ⊢; rw [this]; exact h)
 | m,.a t x,cs,_,h=>by cases m<;>exact h
 | m,.z,cs,_,h=>by cases m<;>exact h
 | m,.ns,cs,_,h=>by cases m<;>exact h
 | m,.np,cs,_,h=>by cases m<;>exact h
 | m,.nm,cs,_,h=>by cases m<;>exact h
 | m,.nf,cs,_,h=>by cases m<;>exact h
 | m,.f fn caps,cs,hn,h=>by cases m<;>exact let ⟨vs,h1,h2⟩:=h; ⟨vs,h1,Z4 (fun i hi=>hn i (by simpa [Jc] using hi)) h2⟩
 | m,.ag l,cs,hn,h=>by cases m<;>exact Z4 (m:=false) (x:=l) (fun i hi=>hn i (by simpa [Jc] using hi)) h
 | m,.tp l,cs,hn,h=>by cases m<;>exact let ⟨vs,h1,h2⟩:=h; ⟨vs,h1,Z4 (fun i hi=>hn i (by simpa [Jc] using hi)) h2⟩
 | m,.nil,cs,_,h=>by cases m<;>exact h
 | true,.cons x r,cs,hn,h=>by
  exact let ⟨c1,vs,h1,h2,h3⟩:=h; ⟨c1,vs,h1,Z4 (fun i hi=>hn i (by simp [Jc,hi])) h2,Z4 (fun i hi=>hn i (by simp [Jc,hi])) h3⟩
 | false,.cons x r,cs,hn,h=>by
  exact let ⟨c1,vs,h1,h2,h3⟩:=h; ⟨c1,vs,h1,Z4 (fun i hi=>hn i (by simp [Jc,hi])) h2,Z4 (fun i hi=>hn i (by simp [Jc,hi])) h3⟩
theorem Qzc {β β':Nat→Nat} {ρ ρ':Nat→Value} {l:List En} (ha:∀i∈Fb l,β' i=β i∧ρ' i=ρ i):∀e∈l,(enD β ρ a e).p ok w→(enD β' ρ' a e).p ok w:=by
 intro e he h
 have h1:∀i∈Jc e.av,β' i=β i∧ρ' i=ρ i:=by
  intro i hi
  refine ha i ?_
  clear ha h
  induction l with
  | nil=>cases he
  | cons x l ih =>
   simp only [Fb,List.mem_append]
   rcases List.mem_cons.1 he with rfl | he
   ·exact .inl hi
   ·exact .inr (ih he)
 exact ⟨fun hc=>let ⟨cs,h2,h3⟩:=h.1 hc; ⟨cs,h2,Z4 h1 h3⟩,h.2⟩
theorem Ix {β β':Nat→Nat} {ρ ρ':Nat→Value}:∀{l:List (Nat×Ob)},(∀i∈Jk l,β' i=β i∧ρ' i=ρ i)→∀q∈l,(∀g,(Q2 β' ρ' q.1 q.2).blks g↔(Q2 β ρ q.1 q.2).blks g)∧(∀b o,(Q2 β' ρ' q.1 q.2).cov b o↔(Q2 β ρ q.1 q.2).cov b o) ∧
  ∀ok w,(Q2 β ρ q.1 q.2).p ok w→(Q2 β' ρ' q.1 q.2).p ok w
 | (id,o)::l,ha,q,hq=>by
  rcases List.mem_cons.1 hq with rfl | hq
  ·obtain ⟨h1,h2⟩:=ha id (by
    cases o with
    | mapT k v path e u xs hole=>cases hole<;>simp [Jk]
    | mapO k9 xs9 hole=>cases hole<;>simp [Jk,Zy]
    | _=>simp [Jk])
   cases o with
   | var t c =>
    refine ⟨fun g=>by simp only [Q2,G0]; rw [h1],fun b o=>by simp only [Q2,G0]; rw [h1],fun ok w hp=>?_⟩
    obtain ⟨cs,hh,hc⟩:=hp
    exact ⟨cs,by rw [h1]; exact hh,Z4 (fun i hi=>ha i (by simp [Jk,hi])) hc⟩
   | row e t xs=>simp only [Q2,h2]; exact ⟨fun _=>trivial,fun _ _=>trivial,fun _ _ h=>h⟩
   | tail e t xs=>simp only [Q2,h2]; exact ⟨fun _=>trivial,fun _ _=>trivial,fun _ _ h=>h⟩
   | map k v xs=>simp only [Q2,h1]; exact ⟨fun _=>trivial,fun _ _=>trivial,fun _ _ h=>h⟩
   | mapT k v path e u xs hole =>
    have hv:Ca ρ' hole=Ca ρ hole:=by
     cases hole with
     | none=>rfl
     | some q=>exact (ha q.2 (by simp [Jk])).2
    simp only [Q2,h1,h2,hv]; exact ⟨fun _=>trivial,fun _ _=>trivial,fun _ _ h=>h⟩
   | mapO k9 xs9 hole =>
    have hv:Cb β' hole=Cb β hole:=by
     cases hole with
     | none=>rfl
     | some q=>simp only [Cb,Option.map_some,(ha q.2 (by simp [Jk,Zy])).1]
    simp only [Q2,h1,hv]; exact ⟨fun _=>trivial,fun _ _=>trivial,fun _ _ h=>h⟩
  ·exact Ix (fun i hi=>ha i (by
    cases o with
    | mapT k v path e u xs hole=>cases hole<;>simp [Jk,hi]
    | mapO k9 xs9 hole=>cases hole<;>simp [Jk,Zy,hi]
    | _=>simp [Jk,hi])) q hq
theorem Rel.decF {Γ:Shp} {env fix:List En} {M F:List (Nat×Ob)} {ri:List (Nat×Nat)} {pr:List Nat} (h:Rel X β ρ ⟨env++fix,M++F⟩ a w) {x:Γ.De}
  (hd:Gx.decF Γ ri (pr++(Fb fix++Jk F)) (env++fix) M F=some x) :
  ∃β' ρ',(∀i∈pr,β' i=β i∧ρ' i=ρ i)∧Rel X β' ρ' ⟨(enc Γ x).env++fix,(enc Γ x).mem++F⟩ a w ∧
   (∀q∈(enc Γ x).mem,∀c,J3 ri q.1=some c→β' q.1=β c∧ρ' q.1=ρ c):=by
 unfold Gx.decF Qqa at hd
 obtain ⟨hb,hd⟩:=bvT hd
 simp only [Bool.and_eq_true] at hb
 obtain ⟨⟨⟨b1,b2⟩,b3⟩,b4⟩:=hb
 have h1:=Rel.freeze M (l0:=[]) (F:=F) (ks:=Qtc (env++fix) Γ.env++Qds M ri Γ.mem) h
 simp only [List.nil_append] at h1
 split at hd
 ·rename_i u v hu hv
  have hx:=Tw hd
  have hM:=h1.mm
  obtain ⟨es,e1,e2⟩:=Iw (M:=frz Γ ri (env++fix) M++F) hM (fun e he=>h1.en he) v hu
  obtain ⟨m1,m2⟩:=Ow hM b3 hv
  have henc:enc Γ x=⟨es,Uz Γ.mem v⟩:=by
   unfold enc
   rw [hx,e1]
  rw [henc]
  have hag:=Qzb (β:=β) (ρ:=ρ) b4
  have hagF:∀i∈Jk F,Xo ri β i=β i∧Xi ri (pr++(Fb fix++Jk F)) ρ i=ρ i:=fun i hi=>hag i (by simp [hi])
  have hagE:∀i∈Fb fix,Xo ri β i=β i∧Xi ri (pr++(Fb fix++Jk F)) ρ i=ρ i:=fun i hi=>hag i (by simp [hi])
  refine ⟨Xo ri β,Xi ri (pr++(Fb fix++Jk F)) ρ,fun i hi=>hag i (by simp [hi]),?_,?_⟩
  ·have hS:Sb (fun _=>0) X [] (List.map (enD β ρ a) (env++fix)) [] (Qf (Xo ri β) (Xi ri (pr++(Fb fix++Jk F)) ρ) (Uz Γ.mem v++F)) a w:=by
    have hpw:(List.map (fun q=>Q2 β ρ q.1 q.2) (frz Γ ri (env++fix) M)++List.map (fun q=>Q2 β ρ q.1 q.2) F).Pairwise fun s t=>∀g,s.blks g→¬ t.blks g:=by rw [←List.map_append]; exact h1.dOO
    have hpw':=List.pairwise_append.1 hpw
    refine Sb.remake h1 (fun t' ht'=>?_) ?_
    ·obtain ⟨q,hq,rfl⟩:=List.mem_map.1 ht'
     rcases List.mem_append.1 hq with hq | hq
     ·rcases m2 q hq with ⟨c,ob,h2,h3,h4,h5,h6⟩ | ⟨_,h4,h5⟩
      ·exact .inl ⟨_,List.mem_map.2 ⟨_,List.mem_append_left _ (Ag h3),rfl⟩,h4,h5,h6⟩
      ·exact .inr ⟨h4,h5⟩
     ·obtain ⟨f1,f2,f3⟩:=Ix hagF q hq
      exact .inl ⟨_,List.mem_map.2 ⟨q,List.mem_append_right _ hq,rfl⟩,fun g hg=>(f1 g).1 hg,fun b o hc=>(f2 b o).1 hc,f3 _ _ (h1.own _ (List.mem_map.2 ⟨q,List.mem_append_right _ hq,rfl⟩)).1⟩
    ·rw [Qf,List.map_append]
     obtain ⟨n1,_⟩:=Ah b1 m1
     refine List.pairwise_append.2 ⟨?_,?_,?_⟩
     ·rw [List.pairwise_map]
      refine List.Pairwise.imp_of_mem ?_ n1
      intro q q' hq hq' hne g hg hg'
      rcases m2 q hq with ⟨c,ob,h2,h3,h4,_⟩ | ⟨_,h4,_⟩
      ·rcases m2 q' hq' with ⟨c',ob',h2',h3',h4',_⟩ | ⟨_,h4',_⟩
       ·exact h1.disj (Jd h3) (Jd h3') (hne c c' h2 h2') g (h4 g hg) (h4' g hg')
       ·exact h4' g hg'
      ·exact h4 g hg
     ·rw [List.pairwise_map]
      have:=List.pairwise_map.1 hpw'.2.1
      refine List.Pairwise.imp_of_mem ?_ this
      intro q q' hq hq' hne g hg hg'
      exact hne g ((Ix hagF q hq).1 g |>.1 hg) ((Ix hagF q' hq').1 g |>.1 hg')
     ·intro t ht t' ht' g hg hg'
      obtain ⟨q,hq,rfl⟩:=List.mem_map.1 ht
      obtain ⟨q',hq',rfl⟩:=List.mem_map.1 ht'
      rcases m2 q hq with ⟨c,ob,h2,h3,h4,_⟩ | ⟨_,h4,_⟩
      ·exact hpw'.2.2 _ (List.mem_map.2 ⟨_,Ag h3,rfl⟩) _ (List.mem_map.2 ⟨q',hq',rfl⟩) g (h4 g hg) ((Ix hagF q' hq').1 g |>.1 hg')
      ·exact h4 g hg
   have hok:∀b o,okR X β ρ (frz Γ ri (env++fix) M++F) w b o→okR X (Xo ri β) (Xi ri (pr++(Fb fix++Jk F)) ρ) (Uz Γ.mem v++F) w b o:=by
    rintro b o ⟨o1,o2,o3,o4⟩
    refine ⟨o1,o2,o3,fun t' ht' hc=>?_⟩
    obtain ⟨q,hq,rfl⟩:=List.mem_map.1 ht'
    rcases List.mem_append.1 hq with hq | hq
    ·rcases m2 q hq with ⟨c,ob,h2,h3,h4,h5,h6⟩ | ⟨_,h4,h5⟩
     ·exact o4 _ (List.mem_map.2 ⟨_,List.mem_append_left _ (Ag h3),rfl⟩) (h5 b o hc)
     ·exact h4 b ((Q2 _ _ q.1 q.2).cb hc)
    ·exact o4 _ (List.mem_map.2 ⟨q,List.mem_append_right _ hq,rfl⟩) ((Ix hagF q hq).2.1 b o |>.1 hc)
   refine Rel.ofSb hS rfl fun e he=>?_
   rcases List.mem_append.1 he with he | he
   ·exact (enD _ _ a e).weak (e2 e he).1 hok
   ·exact (enD _ _ a e).weak (Qzc hagE e he (h1.en (List.mem_append_right _ he))) hok
  ·intro q hq c hc
   exact ⟨by simp only [Xo,hc],by simp only [Xi,hc]⟩
 ·cases hd
theorem XS.dec_ok {S:XS} {Γ:Shp} (h:Rel X β ρ S.flat a w) {x:Γ.De} (hd:S.dec Γ=some x) :
  ∃β' ρ',(∀i∈S.prot,β' i=β i∧ρ' i=ρ i)∧Rel X β' ρ' ⟨(enc Γ x).env++S.fix,(enc Γ x).mem++S.fixM⟩ a w:=by
 obtain ⟨β',ρ',h1,h2,_⟩:=Rel.decF (pr:=S.prot) h hd
 exact ⟨β',ρ',h1,h2⟩
end
end Gx

/- Operations that make or change objects. -/
namespace Gx
open Go Go.RowKit Gd
set_option linter.unusedVariables false
set_option linter.unusedSimpArgs false
def Xu (n:Nat) (a:Act):GL:=(List.range n).map fun t=>(t,Gd.AV.v (a.tmps.getD t undef))
theorem Iy {f:Nat→Gd.AV}:∀{l:List Nat} {t:Nat},t∈l→J3 (l.map fun t=>(t,f t)) t=some (f t)
 | k::l,t,h=>by
  simp only [List.map_cons,J3]
  cases hb:Nat.beq k t with
  | true=>have:=Nat.eq_of_beq_eq_true hb; subst this; rfl
  | false =>
   rcases List.mem_cons.1 h with rfl | h
   ·simp [Nat.beq_refl] at hb
   ·exact Iy h
section
variable {P:Program} {X:Cx} {β β':Nat→Nat} {ρ ρ':Nat→Value} {S:St} {a a':Act} {w w':World} {cur:Vy}
theorem Rel.toG (h:Rel X β ρ S a w):Sb (fun _=>0) X (Xu X.n a) (S.env.map (enD β ρ a)) [] (Qf β ρ S.mem) a w :=
 {sz:=h.sz,df:=h.df,fr:=h.fr,pn:=h.pn,bel:=h.bel,dat:=h.dat,obj:=h.obj,own:=h.own,dHH:=h.dHH,dHO:=h.dHO,dOO:=h.dOO,
  tm:=fun p hp=>by
   obtain ⟨t,ht,rfl⟩:=List.mem_map.1 hp
   have hlt:t<a.tmps.size:=by rw [h.sz]; exact List.mem_range.1 ht
   simp [V0,Array.getElem?_eq_getElem hlt,Array.getD_eq_getD_getElem?] }
theorem gvT (h:Rel X β ρ S a w) {t:Nat} (ht:t<X.n):gv (Xu X.n a) (.tmp t)=some (.v (a.eval (.tmp t))):=by
 simp only [gv,Xu]
 rw [Iy (f:=fun t=>Gd.AV.v (a.tmps.getD t undef)) (List.mem_range.2 ht)]
 rfl
theorem Oy (h:Rel X β ρ S a w) {t:Nat} {v:Value} (hv:a.tmps[t]?=some v):t<X.n:=by
 rw [←h.sz]
 rcases Nat.lt_or_ge t a.tmps.size with h1 | h1
 ·exact h1
 ·rw [Array.getElem?_eq_none h1] at hv; cases hv
theorem gvE (h:Rel X β ρ S a w) (hc:Ye a cur) {x:Operand} {v:AV} (hx:ev S cur x=some v):gv (Xu X.n a) x=some (.v (a.eval x)):=by
 cases x with
 | tmp t =>
  simp only [ev] at hx
  split at hx
  ·rename_i e he
   obtain ⟨hb,hx⟩:=bvT hx
   obtain ⟨cs,h1,h2⟩:=h.get he (Bd hb hc)
   exact gvT h (Oy h h1)
  ·cases hx
 | const v=>rfl
 | func f=>rfl
 | global g=>rfl
theorem Ep (h:Rel X β ρ S a w) {ops:Array Oper} {o:Oper} (hw:Region.wanted o (yielded ops a.tmps)=true):Kg ops (Xu X.n a) o=some true:=by
 unfold Kg
 unfold Region.wanted at hw
 split
 ·rfl
 ·rename_i j want hg
  rw [hg] at hw
  simp only [beq_iff_eq] at hw
  unfold yielded at hw
  split
  ·rename_i p hp
   rw [hp] at hw
   split
   ·rename_i t ht
    simp only [Option.bind_some,ht] at hw
    split at hw
    ·rename_i b hb
     simp at hw; subst hw
     have hlt:=Oy h hb
     have:=gvT h hlt
     simp only [gv] at this
     rw [this]
     simp [Act.eval,hb]
    ·cases hw
   ·rename_i ht
    simp [ht] at hw
  ·rename_i hp
   simp [hp] at hw
theorem Rel.fin {env env':List En} {mem':List (Nat×Ob)} {O':List TL} {d:Nat} {v:Value} (hn:∀e∈env,True) (h':Sb (fun _=>0) X (Zr (Xu X.n a) d (.v v)) (env.map (enD β ρ a)) [] O' a' w') (hsz:a.tmps.size=X.n) (hd:okD X d=true)
  (hO:Uf O' (Qf β' ρ' mem')) (hcr:∀e∈env',∀(ok:Ok) (w:World) (cs:List Value),cr β ρ ok w false e.av cs→cr β' ρ' ok w false e.av cs) (he:∀e∈env',e∈env∧e.t≠d∧∀c∈e.cs,c.1≠d)
  {x:AV} {c:List Value} (hv:v=x.val c) (hx:cr β' ρ' (okR X β' ρ' mem' w') w' false x c):Rel X β' ρ' ⟨⟨d,[],x⟩::env',mem'⟩ a' w':=by
 have h1:=h'.simO hO
 have hoth:∀t,t≠d→a'.tmps[t]?=a.tmps[t]?:=by
  intro t ht
  rcases Nat.lt_or_ge t X.n with hlt | hge
  ·have hm:(t,Gd.AV.v (a.tmps.getD t undef))∈Zr (Xu X.n a) d (.v v):=by
    refine .tail _ ?_
    have:∀{l:GL},(t,Gd.AV.v (a.tmps.getD t undef))∈l→(t,Gd.AV.v (a.tmps.getD t undef))∈Sl l d:=by
     intro l
     induction l with
     | nil=>intro h; cases h
     | cons q l ih =>
      intro h
      obtain ⟨k,y⟩:=q
      simp only [Sl]
      cases hb:Nat.beq k d with
      | true =>
       rcases List.mem_cons.1 h with e | h
       ·injection e with e1 _; subst e1; exact absurd (Nat.eq_of_beq_eq_true hb) ht
       ·exact ih h
      | false =>
       rcases List.mem_cons.1 h with e | h
       ·rw [e]; exact .head _
       ·exact .tail _ (ih h)
    exact this (List.mem_map.2 ⟨t,List.mem_range.2 hlt,rfl⟩)
   have:=h1.tm _ hm
   simp only [V0] at this
   rw [this]
   have hlt':t<a.tmps.size:=by omega
   simp [Array.getD_eq_getD_getElem?,Array.getElem?_eq_getElem hlt']
  ·rw [Array.getElem?_eq_none (by have:=h1.sz; omega),Array.getElem?_eq_none (by omega)]
 have hdv:rd a' d=some v:=by
  have:=h1.tm (d,.v v) (.head _)
  rw [Xq (X4 hd)]
  simpa [V0] using this
 have hrd:∀t,t≠d→rd a' t=rd a t:=fun t ht=>by unfold rd; rw [hoth t ht]
 refine Rel.ofSb h1 rfl fun e hm=>?_
 rcases List.mem_cons.1 hm with rfl | hm
 ·exact ⟨fun _=>⟨c,by rw [hdv,hv],hx⟩,.inl (Qb _)⟩
 ·obtain ⟨h2,h3,h4⟩:=he e hm
  have hp:=Jw.1 h1.dat _ (List.mem_map.2 ⟨e,h2,rfl⟩)
  have hcc:Ye a' e.cs↔Ye a e.cs:=⟨fun hc c hm=>by rw [←hoth _ (h4 c hm)]; exact hc c hm,fun hc c hm=>by rw [hoth _ (h4 c hm)]; exact hc c hm⟩
  refine ⟨fun hc=>?_,?_⟩
  ·obtain ⟨cs,h5,h6⟩:=hp.1 (hcc.1 hc)
   exact ⟨cs,by rw [hrd _ h3]; exact h5,hcr e hm _ _ _ h6⟩
  ·rw [hcc,hrd _ h3]; exact hp.2
theorem Ai {l:List En} {d:Nat} (h:Ho d l=true):∀e∈l,e.t≠d∧∀c∈e.cs,c.1≠d:=by
 induction l with
 | nil=>intro e he; cases he
 | cons x l ih =>
  simp only [Ho,Bool.and_eq_true] at h
  intro e he
  rcases List.mem_cons.1 he with rfl | he
  ·have h1:=h.1
   simp only [Bool.not_eq_true',Bool.or_eq_false_iff] at h1
   exact ⟨fun e'=>by rw [e'] at h1; simp [Nat.beq_refl] at h1,Df h1.2⟩
  ·exact ih h.2 e he
def agP (pr:List Nat) (β β':Nat→Nat) (ρ ρ':Nat→Value):Prop:=∀i∈pr,β' i=β i∧ρ' i=ρ i
theorem agP.refl (pr:List Nat) (β:Nat→Nat) (ρ:Nat→Value):agP pr β β ρ ρ:=fun _ _=>⟨rfl,rfl⟩
theorem agP.trans {pr:List Nat} {β1 β2 β3:Nat→Nat} {ρ1 ρ2 ρ3:Nat→Value} (h:agP pr β1 β2 ρ1 ρ2) (k:agP pr β2 β3 ρ2 ρ3):agP pr β1 β3 ρ1 ρ3 :=
 fun i hi=>⟨(k i hi).1.trans (h i hi).1,(k i hi).2.trans (h i hi).2⟩
theorem Ki {pr:List Nat} {d:Nat} (h:Yn pr d=false) (ha:Lm d β β' ρ ρ'):agP pr β β' ρ ρ' :=
 fun i hi=>ha i fun e=>by subst e; rw [Zj.2 hi] at h; cases h
structure Vu (S S':XS) (β β':Nat→Nat) (ρ ρ':Nat→Value):Prop where
 fix:S'.fix=S.fix
 fixM:S'.fixM=S.fixM
 prot:S'.prot=S.prot
 ag:agP S.prot β β' ρ ρ'
theorem Vu.refl (S:XS) (β:Nat→Nat) (ρ:Nat→Value):Vu S S β β ρ ρ:=⟨rfl,rfl,rfl,agP.refl _ _ _⟩
theorem Vu.trans {S1 S2 S3:XS} {β1 β2 β3:Nat→Nat} {ρ1 ρ2 ρ3:Nat→Value} (h:Vu S1 S2 β1 β2 ρ1 ρ2) (k:Vu S2 S3 β2 β3 ρ2 ρ3):Vu S1 S3 β1 β3 ρ1 ρ3 :=
 ⟨k.fix.trans h.fix,k.fixM.trans h.fixM,k.prot.trans h.prot,h.ag.trans (by rw [←h.prot]; exact k.ag)⟩
theorem Yv {n d:Nat} {S:XS} (h:okW n S d=true) (hn:X.n=n) (hr:X.res=[]):okD X d=true∧Ho d S.fix=true:=by
 simp only [okW,Bool.and_eq_true] at h
 refine ⟨?_,h.2⟩
 simp only [okD,hr,Ec,hn,Bool.true_and,Bool.and_eq_true]
 exact h.1
theorem K8 {d:Nat} {l m:List En} (h:Ho d m=true):Yu (l++m) d=Yu l d++m:=by
 induction l with
 | nil =>
  simp only [List.nil_append,Yu]
  induction m with
  | nil=>rfl
  | cons x m ih =>
   simp only [Ho,Bool.and_eq_true] at h
   have h1:=h.1
   simp only [Bool.not_eq_true'] at h1
   simp only [Yu,h1,cond_false,ih h.2]
 | cons x l ih =>
  simp only [List.cons_append,Yu,ih]
  cases (Nat.beq x.t d||Cc d x.cs)<;>rfl
theorem Kp {S:XS} {d:Nat} {cs:Vy} {x:AV} (h:Ho d S.fix=true):(S.put d cs x).flat=S.flat.put d cs x:=by
 simp only [XS.flat,XS.put,St.put,K8 h,List.cons_append]
theorem Kj {S:XS} {d:Nat} (h:okB S d=true):Q7 d (S.mem++S.fixM)=true∧Dk d S.fix=true∧Yn S.prot d=false:=by
 simp only [okB,Bool.and_eq_true] at h
 refine ⟨?_,h.1.2,by simpa using h.2⟩
 have key:∀{l m:List (Nat×Ob)},Q7 d l=true→Q7 d m=true→Q7 d (l++m)=true:=by
  intro l m hl hm
  induction l with
  | nil=>exact hm
  | cons q l ih =>
   obtain ⟨k,o⟩:=q
   cases o with
   | mapT k1 v path e u xs hole=>cases hole<;>simp only [Q7,Bool.and_eq_true,List.cons_append] at hl ⊢<;>exact ⟨hl.1,ih hl.2⟩
   | mapO k9 xs9 hole=>cases hole<;>simp only [Q7,P0,Bool.and_true,Bool.and_eq_true,List.cons_append] at hl ⊢<;>exact ⟨hl.1,ih hl.2⟩
   | _=>simp only [Q7,Bool.and_eq_true,List.cons_append] at hl ⊢; exact ⟨hl.1,ih hl.2⟩
 exact key h.1.1.1 h.1.1.2
theorem Er {S:XS} {d:Nat} (hI:Dk d S.fix=true) (hF:Ho d S.fix=true):∀e∈Yu (Ud d S.env) d++S.fix,e∈S.flat.env∧Uj d e.av=true∧e.t≠d∧∀c∈e.cs,c.1≠d:=by
 intro e he
 rcases List.mem_append.1 he with he | he
 ·obtain ⟨h1,h2,h3⟩:=Wg he
  obtain ⟨h4,h5⟩:=L3 h1
  exact ⟨List.mem_append_left _ h4,h5,h2,h3⟩
 ·obtain ⟨h1,h2⟩:=Ai hF e he
  exact ⟨List.mem_append_right _ he,Eo hI e he,h1,h2⟩
end
end Gx

/- Steps. -/
namespace Gx
open Go Go.RowKit Gd
set_option linter.unusedVariables false
set_option linter.unusedSimpArgs false
section
variable {P:Program} {Y:TX} {X:Cx} {S:XS} {β β':Nat→Nat} {ρ ρ':Nat→Value} {a a':Act} {w w':World} {n:Nat}
variable {ops:Array Oper} {Q:Exit→Act→World→Prop} {rest:List Oper} {R:Type} {k:XS→Option R} {r:R}
def KOk (P:Program) (ops:Array Oper) (Q:Exit→Act→World→Prop) (rest:List Oper) (X:Cx) (S0:XS) (β:Nat→Nat) (ρ:Nat→Value) {R:Type} (k:XS→Option R) (r:R):Prop :=
 ∀(β':Nat→Nat) (ρ':Nat→Value) (S':XS) (a':Act) (w':World),k S'=some r→Vu S0 S' β β' ρ ρ'→Rel X β' ρ' S'.flat a' w'→wpList P ops Q rest a' w'
theorem KOk.after (h:KOk P ops Q rest X S β ρ k r) {S1:XS} {β1:Nat→Nat} {ρ1:Nat→Value} (hk:Vu S S1 β β1 ρ ρ1):KOk P ops Q rest X S1 β1 ρ1 k r :=
 fun β' ρ' S' a' w' h1 h2 h3=>h β' ρ' S' a' w' h1 (hk.trans h2) h3
theorem Xj (S:XS) (d:Nat) (cs:Vy) (x:AV):Vu S (S.put d cs x) β β ρ ρ:=⟨rfl,rfl,rfl,agP.refl _ _ _⟩
theorem U2 {d:Nat} (hp:Yn S.prot d=false) (ha:Lm d β β' ρ ρ') (o:Ob) (cs:Vy) (x:AV):Vu S ((S.born d o).put d cs x) β β' ρ ρ':=⟨rfl,rfl,rfl,Ki hp ha⟩
theorem Qtu (hX:X.n=n) (hr:X.res=[]) (h:Rel X β ρ S.flat a w) {o:Oper} (hw:Region.wanted o (yielded ops a.tmps)=true) {d:Nat} (hd:o.dst=some d) (hwd:okW n S d=true) {x:AV} (hs:Pz P S.flat [] o x)
  (hk:k (S.put d [] x)=some r) (H:KOk P ops Q rest X S β ρ k r):wpList P ops Q (o::rest) a w:=by
 obtain ⟨h1,h2⟩:=Yv hwd hX hr
 obtain ⟨cs,h3,h4⟩:=hs h.toW (Qb a)
 refine Js hw (Ym h3 ?_)
 rw [hd]
 refine H β ρ _ _ _ hk (Xj S d [] x) ?_
 rw [Kp h2]
 exact h.put0 h1 h4
theorem Qtv (hX:X.n=n) (hr:X.res=[]) (h:Rel X β ρ S.flat a w) {o:Oper} (hw:Region.wanted o (yielded ops a.tmps)=true) {d:Nat} (hd:o.dst=some d) (hwd:okW n S d=true) (hb:okB S d=true) {t:TypeId} {c x:AV} {cs:List Value} {cv:Nat→List Value}
  (hrun:(execOp a.eval o).run P w=.ok (.value (x.val (cv w.heap.size))) (w.alloc (.cells cs.toArray t))) (hc:cr β ρ (okR X β ρ S.flat.mem w) w false c cs) (hn:Uj d c=true) (hx:∀(β:Nat→Nat) (ρ:Nat→Value) (ok:Ok) (w:World),cr β ρ ok w false x (cv (β d)))
  (hk:k ((S.born d (.var t c)).put d [] x)=some r) (H:KOk P ops Q rest X S β ρ k r):wpList P ops Q (o::rest) a w:=by
 obtain ⟨h1,h2⟩:=Yv hwd hX hr
 obtain ⟨f1,f2,f3⟩:=Kj hb
 refine Js hw (Ym hrun ?_)
 rw [hd]
 have ha:=Xh d β ρ w.heap.size (ρ d)
 have hbel:Below w.heap.size w (w.alloc (.cells cs.toArray t)):=(Below.refl _ _).alloc (Nat.le_refl _) _
 refine H (upd β d w.heap.size) (upd ρ d (ρ d)) _ _ _ hk (U2 f3 ha _ _ _) ?_
 have hA:Rel X (upd β d w.heap.size) (upd ρ d (ρ d)) ⟨Yu (Ud d S.env) d++S.fix,(d,.var t c)::(S.mem++S.fixM)⟩ a (w.alloc (.cells cs.toArray t)):=by
  refine Rel.alloc h ha f1 (fun e he=>let ⟨q1,q2,_⟩:=Er f2 h2 e he; ⟨q1,q2⟩) hbel (fun g hg=>?_) ?_
  ·have hg':g=upd β d w.heap.size d:=hg
   rw [J7] at hg'; omega
  ·refine ⟨cs,?_,?_⟩
   ·rw [J7]; exact heap_alloc_new w _
   ·have h5:cr (upd β d w.heap.size) (upd ρ d (ρ d)) (okR X β ρ S.flat.mem w) w false c cs:=Zu ha hn hc
    refine V1 (We h5 ((Evo.of_below hbel).mono fun b o hk=>hk.2.1)) ?_
    rintro b o ⟨o1,o2,o3,o4⟩
    refine ⟨o1,Nat.lt_of_lt_of_le o2 hbel.size,o3,fun u hu hcv=>?_⟩
    rcases List.mem_cons.1 hu with rfl | hu
    ·have hcv':b=upd β d w.heap.size d:=hcv
     rw [J7] at hcv'; omega
    ·obtain ⟨t0,ht0,hs0⟩:=(Hu ha f1).mem u hu
     exact o4 t0 ht0 ((hs0.2.1 b o).1 hcv)
 have hP:=hA.put0 h1 (x:=x) (c:=cv (upd β d w.heap.size d)) (hx _ _ _ _)
 rw [show upd β d w.heap.size d=w.heap.size from J7 _ _ _] at hP
 have he:((S.born d (.var t c)).put d [] x).flat=⟨⟨d,[],x⟩::(Yu (Ud d S.env) d++S.fix),(d,.var t c)::(S.mem++S.fixM)⟩:=rfl
 rw [he]
 refine hP.less fun e hm=>?_
 rcases List.mem_cons.1 hm with rfl | hm
 ·exact .head _
 ·refine .tail _ ?_
  have:Yu (Yu (Ud d S.env) d++S.fix) d=Yu (Ud d S.env) d++S.fix:=by
   rw [K8 h2]
   congr 1
   have idem:∀l:List En,Yu (Yu l d) d=Yu l d:=by
    intro l
    induction l with
    | nil=>rfl
    | cons y l ih =>
     simp only [Yu]
     cases hb:(Nat.beq y.t d||Cc d y.cs) with
     | true=>simpa using ih
     | false=>simp only [cond_false,Yu,hb,ih]
   exact idem _
  show e∈Yu (Yu (Ud d S.env) d++S.fix) d
  rw [this]; exact hm
theorem Jby (hX:X.n=n) (hr:X.res=[]) (h:Rel X β ρ S.flat a w) {o:Oper} (hw:Region.wanted o (yielded ops a.tmps)=true) {d:Nat} (hd:o.dst=some d) (hwd:okW n S d=true) (hb:okB S d=true) {t:TypeId} {c:AV} {cs:List Value}
  (hrun:(execOp a.eval o).run P w=.ok (.value (.pointer (some ⟨w.heap.size,0,none⟩))) (w.alloc (.cells cs.toArray t))) (hc:cr β ρ (okR X β ρ S.flat.mem w) w false c cs) (hn:Uj d c=true)
  (hk:k ((S.born d (.var t c)).put d [] (.p d []))=some r) (H:KOk P ops Q rest X S β ρ k r):wpList P ops Q (o::rest) a w :=
 Qtv (x:=.p d []) (cv:=fun g=>[.pointer (some ⟨g,0,none⟩)]) hX hr h hw hd hwd hb hrun hc hn (fun _ _ _ _=>rfl) hk H
theorem K9 {l m:List (Nat×Ob)} {id:Nat} {o o':Ob} (h:Qe l id=some o):Lu l id o'++m=Lu (l++m) id o':=by
 induction l with
 | nil=>simp [Qe] at h
 | cons q l ih =>
  simp only [Qe] at h
  simp only [Lu,List.cons_append]
  cases hb:Nat.beq q.1 id with
  | true=>rfl
  | false=>rw [hb] at h; simp only [cond_false,List.cons_append,ih h]
theorem Qm3 (hT:Jb P Y.T) (h:Rel X β ρ S.flat a w) {o:Oper} (hw:Region.wanted o (yielded ops a.tmps)=true) {t:TypeId} {p x:Operand} (hop:o.op=.store t p x) (hd:o.dst=none) {e:TE} (he:Qi Y.T t=some e)
  {id:Nat} {path:List PS} {v c c':AV} {tid:TypeId} (hp:S.ev [] p=some (.p id path)) (hx:S.ev [] x=some v) (hm:Qe S.mem id=some (.var tid c)) (hs:∀{ok:Ok} {w:World} {cs ds:List Value},(∀id o,Qe S.flat.mem id=some o→(Q2 β ρ id o).p ok w)→cr β ρ ok w false v ds→cr β ρ ok w false c cs →
   cr β ρ ok w false c' (cs.take (J4 path)++ds++cs.drop (J4 path+ds.length))∧J4 path+ds.length≤cs.length) (hsz:Nat.beq e.size v.size=true) (hval:v.isVal=true) (hin:v.inMem=true)
  (hk:k (S.set id (.var tid c'))=some r) (H:KOk P ops Q rest X S β ρ k r):wpList P ops Q (o::rest) a w:=by
 obtain ⟨c1,h1,h2⟩:=h.ev (Qb a) hp
 obtain ⟨ds,h3,h4⟩:=h.ev (Qb a) hx
 have h2':c1=_:=h2
 subst h2'
 have hm':Qe S.flat.mem id=some (.var tid c):=Jd hm
 obtain ⟨⟨cs,hh,hc⟩,hmine⟩:=h.ob hm'
 obtain ⟨h5,h6⟩:=hs h.mm h4 hc
 have hdl:=Us h4
 have hes:=Nat.eq_of_beq_eq_true hsz
 have hcells:Qm (v.val ds)=ds:=Kb h4 hval hin
 have hst:=run_storeCells_at P (β id) (J4 path) tid ds 0 cs.toArray w hh (by simp; omega) (Gr h4 hin)
 simp only [Nat.add_zero,List.toList_toArray] at hst
 have hrun:(execOp a.eval o).run P w=.ok .skip (w.setRow (β id) (cs.take (J4 path)++ds++cs.drop (J4 path+ds.length)).toArray):=by
  have h1':a.eval p=.pointer (some ⟨β id,J4 path,none⟩):=h1
  have hcc:(v.val ds).cells.toList=ds:=by rw [←Y8,hcells]
  have hcsz:(v.val ds).cells.size=e.size:=by rw [←Array.length_toList,hcc]; omega
  unfold execOp
  rw [hop]
  simp only [h1',h3]
  simp [Instr.storeAt,Instr.sureAddr,storeVar,Yg hT w he,hcsz,hcc,hst]
 refine Js hw ?_
 unfold Oper.wp
 rw [hrun]
 show wpList P ops Q rest (a.put o.dst undef) _
 rw [hd]
 obtain ⟨l1,l2,e1,e2,e3⟩:=Yd hm'
 have hO:Qf β ρ S.flat.mem=Qf β ρ l1++Q2 β ρ id (.var tid c)::Qf β ρ l2:=by rw [e1]; simp [Qf]
 have hS:=h.upd hO (t':=Q2 β ρ id (.var tid c')) (w':=w.setRow (β id) (cs.take (J4 path)++ds++cs.drop (J4 path+ds.length)).toArray) rfl rfl rfl (by simp) (fun b hb hn=>setRow_other _ _ _ _ fun e=>hn e) (fun b o hb=>hb) (fun g hg=>.inl hg) (fun hevo hok=>by
  refine ⟨_,setRow_heap _ _ _ _ _ _ hh,?_⟩
  exact V1 (We h5 hevo) hok)
 have hE:(S.set id (.var tid c')).flat=⟨S.flat.env,Lu S.flat.mem id (.var tid c')⟩:=by
  simp only [XS.flat,XS.set]
  rw [K9 hm]
 refine H β ρ _ _ _ hk ⟨rfl,rfl,rfl,agP.refl _ _ _⟩ ?_
 rw [hE,e2]
 have hmem:Qf β ρ (l1++(id,Ob.var tid c')::l2)=Qf β ρ l1++Q2 β ρ id (.var tid c')::Qf β ρ l2:=by simp [Qf]
 exact Rel.ofSb hS hmem.symm fun e he=>by
  have:=Jw.1 hS.dat _ (List.mem_map.2 ⟨e,he,rfl⟩)
  rw [←hmem] at this
  exact this
theorem Qqm (hX:X.n=n) (hr:X.res=[]) (h:Rel X β ρ S.flat a w) {o:Oper} (hw:Region.wanted o (yielded ops a.tmps)=true) {d:Nat} (hd:o.dst=some d) (hwd:okW n S d=true) (hb:okB S d=true) {t:TypeId} (hop:o.op=.makeMap t none) {kk v:Ty}
  (hk:k ((S.born d (.map kk v [])).put d [] (.m d))=some r) (H:KOk P ops Q rest X S β ρ k r):wpList P ops Q (o::rest) a w:=by
 obtain ⟨h1,h2⟩:=Yv hwd hX hr
 obtain ⟨f1,f2,f3⟩:=Kj hb
 have hrun:(execOp a.eval o).run P w=.ok (.value (.map (some w.heap.size))) (w.alloc (.map #[] 0)):=by
  unfold execOp
  rw [hop]
  simp [Instr.makeMap]
 refine Js hw (Ym hrun ?_)
 rw [hd]
 have ha:=Xh d β ρ w.heap.size (ρ d)
 have hbel:Below w.heap.size w (w.alloc (.map #[] 0)):=(Below.refl _ _).alloc (Nat.le_refl _) _
 refine H (upd β d w.heap.size) (upd ρ d (ρ d)) _ _ _ hk (U2 f3 ha _ _ _) ?_
 have hA:Rel X (upd β d w.heap.size) (upd ρ d (ρ d)) ⟨Yu (Ud d S.env) d++S.fix,(d,.map kk v [])::(S.mem++S.fixM)⟩ a (w.alloc (.map #[] 0)):=by
  refine Rel.alloc h ha f1 (fun e he=>let ⟨q1,q2,_⟩:=Er f2 h2 e he; ⟨q1,q2⟩) hbel (fun g hg=>?_) ?_
  ·have hg':g=upd β d w.heap.size d:=hg
   rw [J7] at hg'; omega
  ·refine ⟨#[],0,?_,rfl,by simp,by simp,by simp⟩
   rw [J7]; exact heap_alloc_new w _
 have hP:=hA.put0 h1 (x:=.m d) (c:=[.map (some (upd β d w.heap.size d))]) rfl
 have hv:(AV.m d).val [.map (some (upd β d w.heap.size d))]=.map (some w.heap.size):=by rw [J7]; rfl
 rw [hv] at hP
 have he:((S.born d (.map kk v [])).put d [] (.m d)).flat=⟨⟨d,[],.m d⟩::(Yu (Ud d S.env) d++S.fix),(d,.map kk v [])::(S.mem++S.fixM)⟩:=rfl
 rw [he]
 refine hP.less fun e hm=>?_
 rcases List.mem_cons.1 hm with rfl | hm
 ·exact .head _
 ·refine .tail _ ?_
  have:Yu (Yu (Ud d S.env) d++S.fix) d=Yu (Ud d S.env) d++S.fix:=by
   rw [K8 h2]
   congr 1
   have idem:∀l:List En,Yu (Yu l d) d=Yu l d:=by
    intro l
    induction l with
    | nil=>rfl
    | cons x l ih =>
     simp only [Yu]
     cases hb:(Nat.beq x.t d||Cc d x.cs) with
     | true=>simpa using ih
     | false=>simp only [cond_false,Yu,hb,ih]
   exact idem _
  show e∈Yu (Yu (Ud d S.env) d++S.fix) d
  rw [this]; exact hm
theorem Qgd (hT:Jb P Y.T) (h:Rel X β ρ S.flat a w) {o:Oper} (hw:Region.wanted o (yielded ops a.tmps)=true) {t:TypeId} {m ky x:Operand} (hop:o.op=.mapUpdate t m ky x) (hd:o.dst=none) {te tk:TE} {kt et:TypeId} (hte:Qi Y.T t=some te) (htd:te.d=.map kt et) (htk:Qi Y.T kt=some tk)
  {id:Nat} {kv xv:AV} {kk v:Ty} {xs:List (kk.De×v.De)} {key:kk.De} {y:v.De} (hm:S.ev [] m=some (.m id)) (hkv:S.ev [] ky=some kv) (hx:S.ev [] x=some xv) (hmo:Qe S.mem id=some (.map kk v xs)) (hkey:asD [] kv kk=some key) (hy:asD S.flat.mem xv v=some y)
  (hdk:Vk Y.T kk tk.d=true) (hka:(kk.agg==kv.isAgg)=true) (hva:(v.agg==xv.isAgg)=true)
  (hk:k (S.set id (.map kk v (Vq key y xs)))=some r) (H:KOk P ops Q rest X S β ρ k r):wpList P ops Q (o::rest) a w:=by
 obtain ⟨c1,h1,h2⟩:=h.ev (Qb a) hm
 have h2':c1=[.map (some (β id))]:=h2
 subst h2'
 have h1':a.eval m=.map (some (β id)):=h1
 have hxv:isV (rt v) (okR X β ρ S.flat.mem w) w y (a.eval x):=h.asD (Qb a) hx hy (bEq hva)
 obtain ⟨c3,h3,h4⟩:=h.ev (Qb a) hkv
 have hkr:isV (rt kk) (okR X β ρ S.flat.mem w) w key (a.eval ky):=by
  refine ⟨c3,Ut (M:=[]) (β:=β) (ρ:=ρ) (by simp [Qe]) hkey h4,?_⟩
  rw [h3]; simp only [AV.val,RT.val,W7,bEq hka]; cases kv.isAgg<;>rfl
 have hke:=Zx (Yc hdk) hkr
 have hm':Qe S.flat.mem id=some (.map kk v xs):=Jd hmo
 obtain ⟨⟨es,clock,hg,hp,hnd,hst1,hst2⟩,hmine⟩:=h.ob hm'
 obtain ⟨es',clock',hrun,hp',hst'⟩:=Lg hT hte htd htk hdk hg hp ⟨hst1,hst2⟩ key hxv
 have hrun':(execOp a.eval o).run P w=.ok .skip { w with heap:=w.heap.setIfInBounds (β id) (.map es' clock') }:=by
  unfold execOp
  rw [hop]
  simp only [h1',hke]
  simp [hrun]
 refine Js hw ?_
 unfold Oper.wp
 rw [hrun']
 show wpList P ops Q rest (a.put o.dst undef) _
 rw [hd]
 have hgl:=Vg hg
 obtain ⟨l1,l2,e1,e2,e3⟩:=Yd hm'
 have hO:Qf β ρ S.flat.mem=Qf β ρ l1++Q2 β ρ id (.map kk v xs)::Qf β ρ l2:=by rw [e1]; simp [Qf]
 have hS:=h.upd hO (t':=Q2 β ρ id (.map kk v (Vq key y xs))) (w':={ w with heap:=w.heap.setIfInBounds (β id) (.map es' clock') }) rfl rfl rfl (by simp) (fun b hb hn=>(MapKept.heap_set hg).2 b fun e=>hn e) (fun b o hb=>hb) (fun g hg=>.inl hg) (fun hevo hok=>by
  refine ⟨es',clock',(MapKept.heap_set hg).1,?_,(Io (Yc hdk) key y hnd).1,hst'.1,hst'.2⟩
  exact Xf (Ef hp' hevo) hok)
 have hE:(S.set id (.map kk v (Vq key y xs))).flat=⟨S.flat.env,Lu S.flat.mem id (.map kk v (Vq key y xs))⟩:=by
  simp only [XS.flat,XS.set]
  rw [K9 hmo]
 refine H β ρ _ _ _ hk ⟨rfl,rfl,rfl,agP.refl _ _ _⟩ ?_
 rw [hE,e2]
 have hmem:Qf β ρ (l1++(id,Ob.map kk v (Vq key y xs))::l2)=Qf β ρ l1++Q2 β ρ id (.map kk v (Vq key y xs))::Qf β ρ l2:=by simp [Qf]
 exact Rel.ofSb hS hmem.symm fun e he=>by
  have:=Jw.1 hS.dat _ (List.mem_map.2 ⟨e,he,rfl⟩)
  rw [←hmem] at this
  exact this
theorem Qqn (hT:Jb P Y.T) (h:Rel X β ρ S.flat a w) {o:Oper} (hw:Region.wanted o (yielded ops a.tmps)=true) {t:TypeId} {p x:Operand} (hop:o.op=.store t p x) (hd:o.dst=none) {e:TE} (he:Qi Y.T t=some e)
  {id sz:Nat} {j:Int} {path:List PS} {v c:AV} {et:TypeId} {u:Ty} {xs:List u.De} {y z:u.De} (hp:S.ev [] p=some (.e id (.i j sz::path))) (hx:S.ev [] x=some v) (hm:Qe S.mem id=some (.row et u xs)) (hy:idx xs j=some y)
  (hs:Cl path (.d u y) v=some c) (hz:asD S.flat.mem c u=some z) (hsz:Nat.beq e.size v.size=true) (hsu:Nat.beq sz u.size=true) (hpos:Nat.ble 1 u.size=true) (hval:v.isVal=true) (hin:v.inMem=true)
  (hk:k (S.set id (.row et u (xs.set j.toNat z)))=some r) (H:KOk P ops Q rest X S β ρ k r):wpList P ops Q (o::rest) a w:=by
 obtain ⟨c1,h1,g0,hg0,h2'⟩:=h.ev (Qb a) hp
 subst h2'
 obtain ⟨ds,h3,h4⟩:=h.ev (Qb a) hx
 have hm':Qe S.flat.mem id=some (.row et u xs):=Jd hm
 have hes:=Nat.eq_of_beq_eq_true hsz
 have hszu:=Nat.eq_of_beq_eq_true hsu
 subst hszu
 have hdl:=Us h4
 have hcells:Qm (v.val ds)=ds:=Kb h4 hval hin
 obtain ⟨l1,l2,e1,e2,e3⟩:=Yd hm'
 obtain ⟨⟨hl0,cs0,hown0,_⟩,_⟩:=h.ob hm'
 obtain ⟨g,c0,hv⟩:∃g c0,ρ id=.slice (some ⟨g,0,none⟩) xs.length c0:=by
  rcases hown0.2 with ⟨hv,h0⟩ | ⟨g,cap,cur,fz,hv,_⟩
  ·rw [hv] at hg0; cases hg0
  ·exact ⟨g,cap,by rw [hv,hl0]⟩
 have hgg:g0=g:=by rw [hv] at hg0; simp [Value.ownBlock] at hg0; omega
 subst hgg
 have hO:Qf β ρ S.flat.mem=Qf β ρ l1++ml (.slice (some ⟨g0,0,none⟩) xs.length c0) et (rt u) xs::Qf β ρ l2:=by rw [e1]; simp [Qf,Q2,hv]
 have hoff:J4 path+ds.length≤u.size:=by
  obtain ⟨⟨hl,csr,hown,hr⟩,_⟩:=h.ob hm'
  have hrep:=Wd hr (Ky hy).2
  obtain ⟨_,h6⟩:=Wh (β:=β) (ρ:=ρ) h4 hs (show cr β ρ _ w false (.d u y) _ from hrep)
  have:=(rt u).len hrep
  have h7:=Jv u
  omega
 obtain ⟨cur,fz,⟨hh,hfz⟩,hlen,hS⟩:=Sb.mset h (Qf β ρ l1) (Qf β ρ l2) hO hy (by rw [Jv]; exact Nat.le_of_ble_eq_true hpos) (off:=J4 path) (ds:=ds) (z:=z) (by rw [Jv]; exact hoff) (Gr h4 hin) (fun es hes=>by
  obtain ⟨h5,_⟩:=Wh (β:=β) (ρ:=ρ) h4 hs (show cr β ρ _ w false (.d u y) es from hes)
  exact Ut h.mm hz h5)
 rw [Jv] at hS hlen
 have hst:=Ub P g0 (j.toNat*u.size+J4 path) et fz ds 0 cur w hh hfz (by omega) (Gr h4 hin)
 simp only [Nat.add_zero] at hst
 have hrun:(execOp a.eval o).run P w=.ok .skip (w.setRow g0 (cur.toList.take (j.toNat*u.size+J4 path)++ds++cur.toList.drop (j.toNat*u.size+J4 path+ds.length)).toArray):=by
  have h1':a.eval p=.pointer (some ⟨g0,j.toNat*u.size+J4 path,none⟩):=h1
  have hcc:(v.val ds).cells.toList=ds:=by rw [←Y8,hcells]
  have hcsz:(v.val ds).cells.size=e.size:=by rw [←Array.length_toList,hcc]; omega
  unfold execOp
  rw [hop]
  simp only [h1',h3]
  simp [Instr.storeAt,Instr.sureAddr,storeVar,Yg hT w he,hcsz,hcc,hst]
 refine Js hw ?_
 unfold Oper.wp
 rw [hrun]
 show wpList P ops Q rest (a.put o.dst undef) _
 rw [hd]
 have hE:(S.set id (.row et u (xs.set j.toNat z))).flat=⟨S.flat.env,Lu S.flat.mem id (.row et u (xs.set j.toNat z))⟩:=by
  simp only [XS.flat,XS.set]
  rw [K9 hm]
 refine H β ρ _ _ _ hk ⟨rfl,rfl,rfl,agP.refl _ _ _⟩ ?_
 rw [hE,e2]
 have hmem:Qf β ρ (l1++(id,Ob.row et u (xs.set j.toNat z))::l2)=Qf β ρ l1++ml (.slice (some ⟨g0,0,none⟩) xs.length c0) et (rt u) (xs.set j.toNat z)::Qf β ρ l2:=by simp [Qf,Q2,hv]
 exact Rel.ofSb hS hmem.symm fun e he=>by
  have:=Jw.1 hS.dat _ (List.mem_map.2 ⟨e,he,rfl⟩)
  rw [←hmem] at this
  exact this
end
end Gx
