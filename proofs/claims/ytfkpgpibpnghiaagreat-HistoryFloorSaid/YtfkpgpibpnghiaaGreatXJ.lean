/- States by their shapes. -/
import Derived.Test.YtfkpgpibpnghiaaGreatXH
namespace Gd
open Go Go.RowKit
section
variable {β:Nat→Nat} {X:Cx} {G:GL} {D:List DF} {H:HL} {O:List TL} {a:Act} {w w':World}
theorem Sb.remake{O':List TL}(h:Sb β X G D H O a w)
  (hp:∀t'∈O',(∃t∈O,(∀g,t'.blks g→t.blks g)∧(∀b o,t'.cov b o→t.cov b o)∧t'.p (Jh X.ok X.w.heap.size β H O w) w)∨((∀g,¬ t'.blks g)∧∀ok w,t'.p ok w))
  (hd:O'.Pairwise fun s t=>∀g,s.blks g→¬ t.blks g):Sb β X G D H O' a w:=by
 have kn:∀b o,Jh X.ok X.w.heap.size β H O w b o→Jh X.ok X.w.heap.size β H O' w b o:=by
  rintro b o ⟨h1,h2,h3,h4⟩
  refine⟨h1,h2,h3,fun u hu hc=>?_⟩
  rcases hp u hu with⟨t,ht,_,h6,_⟩ | ⟨h5,_⟩
  ·grind
  ·exact h5 b (u.cb hc)
 refine { sz:=h.sz,df:=h.df,fr:=h.fr,pn:=h.pn,tm:=h.tm,bel:=h.bel,dat:=h.dat.weak kn,obj:=h.obj,own:=fun u hu=>?_,dHH:=h.dHH,dHO:=fun p xe u hu hg=>?_,dOO:=hd }
 ·rcases hp u hu with⟨t,ht,h5,_,h7⟩ | ⟨h5,h6⟩
  ·exact⟨u.weak h7 kn,fun g hg=>(h.own t ht).2 g (h5 g hg)⟩
  grind
 ·rcases hp u hu with⟨t,ht,h5,_⟩ | ⟨h5,_⟩
  ·exact h.dHO p xe t ht (h5 _ hg)
  ·exact h5 _ hg
end
end Gd
namespace Gx
open Go Go.RowKit Gd
set_option linter.unusedVariables false
set_option linter.unusedSimpArgs false
section
variable {X:Cx} {β:Nat→Nat} {ρ:Nat→Value} {S:St} {a:Act} {w w':World}
theorem Qdy:∀{M:List (Nat×Ob)} {c:Nat} {o:Ob},Qe M c=some o→(c,o)∈M
 | q::l,c,o,h=>by
  grind [Jv]
theorem Rel.disj(h:Rel X β ρ S a w){c c':Nat}{o o':Ob}(h1:Qe S.mem c=some o)(h2:Qe S.mem c'=some o')(zk:c≠c'):∀g,(Q0 β ρ c o).blks g→¬ (Q0 β ρ c' o').blks g:=by
 obtain⟨l1,l2,hl,_⟩:=Jv h1
 have hm:=Qdy h2
 have hp:((l1++(c,o)::l2).map fun q=>Q0 β ρ q.1 q.2).Pairwise fun s t=>∀g,s.blks g→¬ t.blks g:=by rw[←hl]; exact h.dOO
 rw[QB,QP]at hp
 have hp1:=QF.1 hp
 have sg:=List.pairwise_cons.1 hp1.2.1
 rw[hl]at hm
 grind
theorem Rel.freeze1{env:List En}{l1 l2:List (Nat×Ob)}{id:Nat}{e:TypeId}{t:Ty}{xs:List t.De}(h:Rel X β ρ ⟨env,l1++(id,.row e t xs)::l2⟩ a w)(hs:Nat.ble 1 t.size=true) :
  Rel X β ρ ⟨env,l1++(id,.tail e t xs)::l2⟩ a w:=by
 unfold Rel at h ⊢
 simp only[Qi,QB,QP]at h ⊢
 have h1:=h.perm (O':=Q0 β ρ id (.row e t xs)::(l1.map (fun q=>Q0 β ρ q.1 q.2)++l2.map (fun q=>Q0 β ρ q.1 q.2))) List.perm_middle
 obtain⟨⟨hl,cs,kb,hr⟩,_⟩:=h1.own _ (.head _)
 obtain⟨A,c,hv⟩:∃A c,ρ id=.slice A xs.length c:=by
  rcases kb.2 with⟨hv,h0⟩ | ⟨g,cap,cur,fz,hv,_⟩
  ·grind
  grind
 have hO:Q0 β ρ id (.row e t xs)=ml (.slice A xs.length c) e (rt t) xs:=by grind [Q0]
 rw[hO]at h1
 have h2:=h1.freeze rfl (by rw[Jf]; exact hs)
 have p7:isV (rSl (rt t)) _ w xs (.slice A xs.length c):=h2.d 0 rfl
 have h3:={ h2 with dat:=h2.dat.2 }
 have h4:Sb (fun _=>0) X [] (List.map (enD β ρ a) env) [] (Q0 β ρ id (.tail e t xs)::(l1.map (fun q=>Q0 β ρ q.1 q.2)++l2.map (fun q=>Q0 β ρ q.1 q.2))) a w:=by
  refine Sb.remake h3 (fun u hu=>?_) ?_
  ·rcases QJ.1 hu with rfl | hu
   ·refine .inl ⟨_,.head _,fun g hg=>?_,fun b o hc=>?_,?_⟩
    ·have yb:(ρ id).ownBlock=some g:=hg
     rw[hv]at yb; exact yb
    ·have y8:(ρ id).ownBlock=some b∧K2 (ρ id)*(rt t).size≤o:=hc
     rw[hv]at y8; exact y8
    grind [Q0,Qbl]
   ·exact .inl ⟨u,.tail _ hu,fun _ hg=>hg,fun _ _ hc=>hc,(h3.own u (.tail _ hu)).1⟩
  ·have:=List.pairwise_cons.1 h3.dOO
   refine List.pairwise_cons.2 ⟨fun u hu g hg=>this.1 u hu g ?_,this.2⟩
   have yb:(ρ id).ownBlock=some g:=hg
   rw[hv]at yb; exact yb
 exact h4.perm List.perm_middle.symm
theorem Rel.freeze:∀(l:List (Nat×Ob)) {l0 F:List (Nat×Ob)} {env:List En} {ks:List Nat},Rel X β ρ ⟨env,l0++l++F⟩ a w→Rel X β ρ ⟨env,l0++Va ks l++F⟩ a w
 | [],l0,F,env,ks,h=>h
 | (id,.row e t xs)::l,l0,F,env,ks,h=>by
  simp only[Va]
  cases hb:(Yd ks id&&Nat.ble 1 t.size)with
  | true =>
   simp only[cond_true]
   simp only[QQ]at hb
   have h1:Rel X β ρ ⟨env,l0++(id,.row e t xs)::(l++F)⟩ a w:=by simpa using h
   have h2:=h1.freeze1 hb.2
   have h3:=Rel.freeze l (l0:=l0++[(id,.tail e t xs)]) (F:=F) (ks:=ks) (by simpa using h2)
   simpa using h3
  | false =>
   simp only[cond_false]
   have h3:=Rel.freeze l (l0:=l0++[(id,.row e t xs)]) (F:=F) (ks:=ks) (by simpa using h)
   simpa using h3
 | (id,.var t c)::l,l0,F,env,ks,h=>by
  have h3:=Rel.freeze l (l0:=l0++[(id,.var t c)]) (F:=F) (ks:=ks) (by simpa using h)
  grind [Va]
 | (id,.tail e t xs)::l,l0,F,env,ks,h=>by
  have h3:=Rel.freeze l (l0:=l0++[(id,.tail e t xs)]) (F:=F) (ks:=ks) (by simpa using h)
  grind [Va]
 | (id,.map k v xs)::l,l0,F,env,ks,h=>by
  have h3:=Rel.freeze l (l0:=l0++[(id,.map k v xs)]) (F:=F) (ks:=ks) (by simpa using h)
  grind [Va]
 | (id,.mapC k v xs hole)::l,l0,F,env,ks,h=>by
  have h3:=Rel.freeze l (l0:=l0++[(id,.mapC k v xs hole)]) (F:=F) (ks:=ks) (by simpa using h)
  grind [Va]
theorem Qv7:∀{ts:List Ty} {l:List DV} {x:Tup ts},ofL ts l=some x→toL ts x=l
 | [],l,x,h=>by
  cases l with
  | nil=>rfl
  | cons _ _=>simp[ofL]at h
 | [t],l,x,h=>by
  match l,h with
  | [v],h =>
   obtain⟨e,hx⟩:=Ty.cast_ok (by simpa[ofL]using h)
   obtain⟨u,y⟩:=v
   simp only at e
   subst e
   simp only at hx
   subst hx
   rfl
  | [],h=>simp[ofL]at h
  | _::_::_,h=>simp[ofL]at h
 | t::u::ts,l,x,h=>by
  match l,h with
  | [],h=>simp[ofL]at h
  | v::vs,h =>
   simp only[ofL]at h
   split at h
   ·rename_i a b ha hb
    simp at h; subst h
    obtain⟨e,hx⟩:=Ty.cast_ok ha
    obtain⟨s,y⟩:=v
    simp only at e
    subst e
    simp only at hx
    subst hx
    have:=Qv7 hb
    grind [toL]
   ·cases h
def Hj(ri:List (Nat×Nat))(β:Nat→Nat):Nat→Nat:=fun i=>match Jp ri i with
 | some c=>β c
 | none=>β i
def G7(ri:List (Nat×Nat))(pr:List Nat)(ρ:Nat→Value):Nat→Value:=fun i=>match Jp ri i with
 | some c=>ρ c
 | none=>bif Yd pr i then ρ i else .slice none 0 0
theorem CK.beq_eq:∀{a b:CK},CK.beq a b=true→a=b
 | .sl e u,.sl e' u',h=>by
  simp only[CK.beq,QQ]at h
  rw[Nat.eq_of_beq_eq_true h.1,Ty.beq_eq h.2]
 | .mp k v,.mp k' v',h=>by
  simp only[CK.beq,QQ]at h
  rw[Ty.beq_eq h.1,Ty.beq_eq h.2]
 | .sl _ _,.mp _ _,h=>by cases h
 | .mp _ _,.sl _ _,h=>by cases h
theorem Qdz{ri:List (Nat×Nat)}{i c:Nat}(h:Q36 ri i c=true):Jp ri i=some c:=by
 grind [Q36,Nat.eq_of_beq_eq_true]
theorem Qjv:∀{p q:List PS},Qv0 p q=true→p=q
 | [],[],_=>rfl
 | a::l,b::m,h=>by
  simp only[Qv0,QQ]at h
  have h2:=Qjv h.2
  have h1:=h.1
  cases a<;>cases b<;>simp only[PS.beq,QQ]at h1<;>first | (cases h1; done) | skip
  rw[Nat.eq_of_beq_eq_true h1.1,Nat.eq_of_beq_eq_true h1.2,h2]
 | [],_::_,h=>by cases h
 | _::_,[],h=>by cases h
theorem Qd0{α:Type}{x:Option α}(h:isNone x=true):x=none:=by cases x with
 | none=>rfl
 | some _=>cases h
variable {ok:Ok} {M:List (Nat×Ob)} {ri:List (Nat×Nat)} {pr:List Nat}
theorem Ct(hM:∀id o,Qe M id=some o→(Q0 β ρ id o).p ok w) :
  ∀{sk:Sk} {m:Bool} {x:AV} {cs:List Value} {l:List DV} (rest:List DV),V0 M ri pr sk x=some l→cr β ρ ok w m x cs→(m=true→sk.isL=true) →
   ∃y,Lj sk (l++rest)=(y,rest)∧cr (Hj ri β) (G7 ri pr ρ) ok w m y cs∧y.isAgg=x.isAgg
 | .d t,true,x,cs,l,rest,h,hc,hm=>by cases hm rfl
 | .d t,false,x,cs,l,rest,h,hc,hm=>by
  simp only[V0]at h
  split at h
  ·rename_i y hy
   obtain⟨hb,h⟩:=bvT h
   simp at h; subst h
   exact⟨.d t y,rfl,K4 hM hy hc,bEq hb⟩
  ·cases h
 | .p id path,true,x,cs,l,rest,h,hc,hm=>by cases hm rfl
 | .p id path,false,x,cs,l,rest,h,hc,hm=>by
  cases x<;>simp only[V0]at h<;>first | (cases h; done) | skip
  rename_i c path'
  obtain⟨hb,h⟩:=bvT h
  simp only[QQ]at hb
  simp at h; subst h
  have h1:=Qdz hb.1
  have h2:=Qjv hb.2
  subst h2
  refine⟨.p id path,rfl,?_,rfl⟩
  have y8:cs=[.pointer (some ⟨β c,Yi path,none⟩)]:=hc
  show cs=[.pointer (some ⟨Hj ri β id,Yi path,none⟩)]
  rw[y8]; grind [Hj]
 | .s id,true,x,cs,l,rest,h,hc,hm=>by cases hm rfl
 | .s id,false,x,cs,l,rest,h,hc,hm=>by
  cases x<;>simp only[V0]at h<;>first | (cases h; done) | skip
  ·rename_i c
   obtain⟨hb,h⟩:=bvT h
   simp only[QQ]at hb
   simp at h; subst h
   have h1:=Qdz hb.1
   refine⟨.s id,rfl,?_,rfl⟩
   obtain⟨h2,h3⟩:=hc
   have e:G7 ri pr ρ id=ρ c:=by grind [G7]
   exact⟨by rw[e]; exact h2,by rw[e]; exact h3⟩
  ·obtain⟨hb,h⟩:=bvT h
   simp only[QQ]at hb
   simp at h; subst h
   have h1:=Qd0 hb.1
   refine⟨.s id,rfl,?_,rfl⟩
   have y8:cs=[.slice none 0 0]:=hc
   have e:G7 ri pr ρ id=.slice none 0 0:=by
    grind [G7,Yd,id]
   exact⟨⟨_,y8,.inl e.symm⟩,none,0,0,e⟩
 | .m id,true,x,cs,l,rest,h,hc,hm=>by cases hm rfl
 | .m id,false,x,cs,l,rest,h,hc,hm=>by
  cases x<;>simp only[V0]at h<;>first | (cases h; done) | skip
  rename_i c
  obtain⟨hb,h⟩:=bvT h
  simp at h; subst h
  have h1:=Qdz hb
  refine⟨.m id,rfl,?_,rfl⟩
  have y8:cs=[.map (some (β c))]:=hc
  show cs=[.map (some (Hj ri β id))]
  rw[y8]; grind [Hj]
 | .ns,true,x,cs,l,rest,h,hc,hm=>by cases hm rfl
 | .ns,false,x,cs,l,rest,h,hc,hm=>by cases x<;>simp[V0]at h; subst h; exact⟨.ns,rfl,hc,rfl⟩
 | .np,true,x,cs,l,rest,h,hc,hm=>by cases hm rfl
 | .np,false,x,cs,l,rest,h,hc,hm=>by cases x<;>simp[V0]at h; subst h; exact⟨.np,rfl,hc,rfl⟩
 | .nm,true,x,cs,l,rest,h,hc,hm=>by cases hm rfl
 | .nm,false,x,cs,l,rest,h,hc,hm=>by cases x<;>simp[V0]at h; subst h; exact⟨.nm,rfl,hc,rfl⟩
 | .nf,true,x,cs,l,rest,h,hc,hm=>by cases hm rfl
 | .nf,false,x,cs,l,rest,h,hc,hm=>by cases x<;>simp[V0]at h; subst h; exact⟨.nf,rfl,hc,rfl⟩
 | .z,true,x,cs,l,rest,h,hc,hm=>by cases hm rfl
 | .z,false,x,cs,l,rest,h,hc,hm=>by cases x<;>simp[V0]at h; subst h; exact⟨.z,rfl,hc,rfl⟩
 | .f fn c,true,x,cs,l,rest,h,hc,hm=>by cases hm rfl
 | .f fn c,false,x,cs,l,rest,h,hc,hm=>by
  cases x<;>simp only[V0]at h<;>first | (cases h; done) | skip
  rename_i fn' x'
  obtain⟨hb,h0⟩:=bvT h
  simp only[QQ]at hb
  have h1:=Nat.eq_of_beq_eq_true hb.1
  subst h1
  obtain⟨vs,h2,h3⟩:=hc
  obtain⟨y,h4,h5,_⟩:=Ct hM (m:=true) rest h0 h3 fun _=>hb.2
  exact⟨.f fn y,by grind [Lj],⟨vs,h2,h5⟩,rfl⟩
 | .ag s,true,x,cs,l,rest,h,hc,hm=>by cases hm rfl
 | .ag s,false,x,cs,l,rest,h,hc,hm=>by
  simp only[V0]at h
  split at h
  ·rename_i y hy
   obtain⟨z0,h1,h2,_⟩:=Ct hM (m:=false) rest h (Qji hy hc) fun e=>by cases e
   refine⟨.ag z0,by grind [Lj],h2,?_⟩
   unfold Sq at hy
   split at hy<;>first | rfl | cases hy
  ·cases h
 | .nil,m,x,cs,l,rest,h,hc,hm=>by
  cases x<;>simp[V0]at h
  subst h
  refine⟨.nil,rfl,?_,rfl⟩
  cases m<;>exact hc
 | .cons a b,true,x,cs,l,rest,h,hc,hm=>by
  cases x<;>simp only[V0]at h<;>first | (cases h; done) | skip
  rename_i x r
  split at h
  ·rename_i u v hu hv
   simp at h; subst h
   obtain⟨c1,vs,h1,h2,h3⟩:=hc
   obtain⟨y,e1,e2,e3⟩:=Ct hM (m:=false) (v++rest) hu h2 fun e=>by cases e
   obtain⟨z0,e4,e5,e6⟩:=Ct hM (m:=true) rest hv h3 fun _=>by simpa[Sk.isL]using hm rfl
   refine⟨.cons y z0,by grind [Lj,List.append_assoc],⟨c1,vs,?_,e2,e5⟩,rfl⟩
   rw[h1]
   grind [AV.val]
  ·cases h
 | .cons a b,false,x,cs,l,rest,h,hc,hm=>by
  cases x<;>simp only[V0]at h<;>first | (cases h; done) | skip
  rename_i x r
  split at h
  ·rename_i u v hu hv
   simp at h; subst h
   obtain⟨c1,c2,h1,h2,h3⟩:=hc
   obtain⟨y,e1,e2,e3⟩:=Ct hM (m:=false) (v++rest) hu h2 fun e=>by cases e
   obtain⟨z0,e4,e5,e6⟩:=Ct hM (m:=false) rest hv h3 fun e=>by cases e
   exact⟨.cons y z0,by grind [Lj,List.append_assoc],⟨c1,c2,h1,e2,e5⟩,rfl⟩
  ·cases h
theorem Qjw(hM:∀id o,Qe M id=some o→(Q0 β ρ id o).p ok w){env:List En}(hE:∀e∈env,(enD β ρ a e).p ok w) :
  ∀{Γe:List (Nat×Sk)} {l:List DV} (rest:List DV),Qo6 M ri pr env Γe=some l →
   ∃es,Dt Γe (l++rest)=(es,rest)∧∀e∈es,(enD (Hj ri β) (G7 ri pr ρ) a e).p ok w∧Nat.blt e.t 100000=true
 | [],l,rest,h=>by simp[Qo6]at h; subst h; exact⟨[],rfl,by simp⟩
 | (t,s)::g,l,rest,h=>by
  simp only[Qo6]at h
  split at h
  ·rename_i t' x hx
   split at h
   ·rename_i u v hu hv
    simp at h; subst h
    obtain⟨hm,ht⟩:=Uy hx
    simp only at ht
    subst ht
    obtain⟨cs,h1,h2⟩:=(hE _ hm).1 (Qd a)
    obtain⟨y,h3,h4,h5⟩:=Ct hM (v++rest) hu h2 fun e=>by cases e
    obtain⟨es,h6,h7⟩:=Qjw hM hE rest hv
    refine⟨⟨t',[],y⟩::es,by grind [Dt,List.append_assoc],fun e he=>?_⟩
    rcases QJ.1 he with rfl | he
    ·refine⟨⟨fun _=>⟨cs,?_,h4⟩,.inl (Qd a)⟩,Qbn hx⟩
     rw[h1]; grind [AV.val]
    ·exact h7 e he
   ·cases h
  ·cases h
theorem Q4{l m:List (Nat×Ob)}{c:Nat}{o:Ob}(h:Qe l c=some o):Qe (l++m) c=some o:=by
 induction l with
 | nil=>simp[Qe]at h
 | cons q l ih =>
  grind [Qe,Nat.beq]
def Jk1(β:Nat→Nat)(ρ:Nat→Value)(ri:List (Nat×Nat))(pr:List Nat)(ok:Ok)(w:World)(M:List (Nat×Ob))(id:Nat)(o:Ob):Prop :=
 (∃c ob,Jp ri id=some c∧Qe M c=some ob∧(∀g,(Q0 (Hj ri β) (G7 ri pr ρ) id o).blks g→(Q0 β ρ c ob).blks g)∧(∀b f,(Q0 (Hj ri β) (G7 ri pr ρ) id o).cov b f→(Q0 β ρ c ob).cov b f)∧(Q0 (Hj ri β) (G7 ri pr ρ) id o).p ok w) ∨
 (Jp ri id=none∧(∀g,¬ (Q0 (Hj ri β) (G7 ri pr ρ) id o).blks g)∧∀ok w,(Q0 (Hj ri β) (G7 ri pr ρ) id o).p ok w)
theorem Q64{v:Value}(hv:v=.slice none 0 0){e:Nat}{τ:Type}{r:RT τ}(ok:Ok)(w:World):(ml v e r []).p ok w:=by
 subst hv
 exact⟨rfl,[],World.ownsRowS_nil _ _ _ _,rfl⟩
theorem Jel{v:Value}(hv:v=.slice none 0 0){e:Nat}{τ:Type}{r:RT τ}(ok:Ok)(w:World):(Qbl v e r []).p ok w:=by
 subst hv
 exact⟨Jkv,[],World.ownsRowS_nil _ _ _ _⟩
theorem Qjx{M0 F:List (Nat×Ob)}(hM:∀id o,Qe (M0++F) id=some o→(Q0 β ρ id o).p ok w) :
  ∀{Γm:List (Nat×SkO)} {l:List DV},Q6z ri pr Γm=true→Oh M0 F ri pr Γm=some l →
   (Zv Γm l).map Prod.fst=Γm.map Prod.fst∧∀q∈Zv Γm l,Jk1 β ρ ri pr ok w M0 q.1 q.2
 | [],l,_,h=>by simp[Oh]at h; subst h; exact⟨rfl,by simp[Zv]⟩
 | (id,s)::g,l,hp,h=>by
  simp only[Q6z,QQ]at hp
  simp only[Oh]at h
  split at h
  ·rename_i o ho
   split at h
   ·rename_i u v hu hv
    simp at h; subst h
    have key:∃ob',Qbt s (u++v)=some (ob',v)∧Jk1 β ρ ri pr ok w M0 id ob':=by
     unfold Q6y at ho
     split at ho
     ·rename_i hn
      simp at ho; subst ho
      have hnp:Yd pr id=false:=by
       have:=hp.1
       grind [Yd,id,Q36,Bool.not_true,Bool.or_self]
      have e:G7 ri pr ρ id=.slice none 0 0:=by simp_all [G7,cond_false]
      have nb:∀g,¬ (G7 ri pr ρ id).ownBlock=some g:=by rw[e]; intro g hg; cases hg
      cases s with
      | row e' t =>
       simp only[P3]at hu
       simp at hu; subst hu
       refine⟨.row e' t [],?_,.inr ⟨hn,nb,fun ok w=>Q64 e ok w⟩⟩
       simp[Qbt,Ty.cast,Ty.beq_refl]
      | tail e' t =>
       simp only[P3]at hu
       simp at hu; subst hu
       refine⟨.tail e' t [],?_,.inr ⟨hn,fun g hg=>nb g hg,fun ok w=>Jel e ok w⟩⟩
       simp[Qbt,Ty.cast,Ty.beq_refl]
      | var tid c=>simp[P3]at hu
      | map k u'=>simp[P3]at hu
      | mapC k u'=>simp[P3]at hu
     ·rename_i c hc
      split at ho
      ·rename_i ob ui
       simp at ho; subst ho
       have lh:=hM c ob (Q4 ui)
       have eR:G7 ri pr ρ id=ρ c:=by grind [G7]
       have eB:Hj ri β id=β c:=by grind [Hj]
       cases s with
       | var tid sk =>
        cases ob<;>simp only[P3]at hu<;>first | (cases hu; done) | skip
        rename_i tid' x
        obtain⟨hb,vb⟩:=bvT hu
        have:=Nat.eq_of_beq_eq_true hb
        subst this
        obtain⟨cs,h1,h2⟩:=lh
        obtain⟨y,h3,h4,h5⟩:=Ct hM v vb h2 fun e=>by cases e
        refine⟨.var tid y,by grind [Qbt],.inl ⟨c,_,hc,ui,?_,?_,cs,by rw[eB]; exact h1,h4⟩⟩
        ·intro g hg
         have yb:g=Hj ri β id:=hg
         show g=β c
         rw[yb,eB]
        ·intro b f hg
         have yb:b=Hj ri β id:=hg
         show b=β c
         rw[yb,eB]
       | row e' t =>
        cases ob<;>simp only[P3]at hu<;>first | (cases hu; done) | skip
        rename_i e2 t2 xs
        obtain⟨hb,vb⟩:=bvT hu
        clear hu
        simp only[QQ]at hb
        have h1:=Nat.eq_of_beq_eq_true hb.1
        have h2:=Ty.beq_eq hb.2
        subst h1; subst h2
        simp at vb; subst vb
        refine⟨.row e' t xs,by simp[Qbt,Ty.cast,Ty.beq_refl],.inl ⟨c,_,hc,ui,?_,?_,?_⟩⟩<;>simp only[Q0,eR]
        ·grind
        ·grind
        ·exact lh
       | tail e' t =>
        cases ob<;>simp only[P3]at hu<;>first | (cases hu; done) | skip
        rename_i e2 t2 xs
        obtain⟨hb,vb⟩:=bvT hu
        clear hu
        simp only[QQ]at hb
        have h1:=Nat.eq_of_beq_eq_true hb.1
        have h2:=Ty.beq_eq hb.2
        subst h1; subst h2
        simp at vb; subst vb
        refine⟨.tail e' t xs,by simp[Qbt,Ty.cast,Ty.beq_refl],.inl ⟨c,_,hc,ui,?_,?_,?_⟩⟩<;>simp only[Q0,eR]
        ·grind
        ·grind
        ·exact lh
       | map k u' =>
        cases ob<;>simp only[P3]at hu<;>first | (cases hu; done) | skip
        rename_i k2 u2 xs
        obtain⟨hb,vb⟩:=bvT hu
        clear hu
        simp only[QQ]at hb
        have h1:=Ty.beq_eq hb.1
        have h2:=Ty.beq_eq hb.2
        subst h1; subst h2
        simp at vb; subst vb
        refine⟨.map k u' xs,by simp[Qbt,Ty.cast,Ty.beq_refl],.inl ⟨c,_,hc,ui,?_,?_,?_⟩⟩<;>simp only[Q0,eB]
        ·grind
        ·grind
        ·exact lh
       | mapC k u' =>
        cases ob<;>simp only[P3]at hu<;>first | (cases hu; done) | skip
        rename_i k2 u2 xs hole
        obtain⟨hb,vb⟩:=bvT hu
        clear hu
        simp only[QQ]at hb
        obtain⟨⟨b1,b2⟩,b6⟩:=hb
        have h1:=Ty.beq_eq b1
        have h2:=CK.beq_eq b2
        subst h1; subst h2
        have h6:=Qd0 b6
        subst h6
        simp at vb; subst vb
        refine⟨.mapC k u' xs none,by simp[Qbt,Ty.cast,Ty.beq_refl],.inl ⟨c,_,hc,ui,?_,?_,?_⟩⟩<;>simp only[Q0,eB,eR]
        ·exact fun _ hg=>hg
        ·exact fun _ _ hg=>hg
        ·exact lh
      ·cases ho
    obtain⟨ob',h1,h2⟩:=key
    obtain⟨h3,h4⟩:=Qjx hM hp.2 hv
    simp only[Zv,h1]
    refine⟨by simp[h3],fun q hq=>?_⟩
    rcases QJ.1 hq with rfl | hq
    ·exact h2
    ·exact h4 q hq
   ·cases h
  ·cases h
theorem Z6:∀{l:List Nat} {t:Nat},Yd l t=true↔t∈l
 | [],t=>by simp[Yd]
 | k::l,t=>by
  simp only[Yd,JZ,QJ,Z6 (l:=l)]
  grind [Nat.eq_of_beq_eq_true,Nat.beq_refl]
theorem Jje{pr:List Nat}(hi:Qy8 pr ri=true):∀i∈pr,Hj ri β i=β i∧G7 ri pr ρ i=ρ i:=by
 have key:∀{ri:List (Nat×Nat)},Qy8 pr ri=true→∀i∈pr,∀c,Jp ri i=some c→c=i:=by
  intro ri
  induction ri with
  | nil=>grind [Jp]
  | cons q l ih =>
   obtain⟨k,x⟩:=q
   intro h i hi c hc
   simp only[Qy8,QQ]at h
   grind [Jp,Nat.beq,Nat.eq_of_beq_eq_true,Z6]
 intro i hm
 cases hl:Jp ri i with
 | none=>exact⟨by grind [Hj],by simp only[G7,hl,Z6.2 hm,cond_true]⟩
 | some c =>
  have:=key hi i hm c hl
  grind [Hj,G7]
theorem P5:∀{Γm:List (Nat×SkO)} {mem:List (Nat×Ob)} {cs:List Nat},Fj ri Γm cs=true→mem.map Prod.fst=Γm.map Prod.fst →
  (mem.Pairwise fun q q'=>∀c c',Jp ri q.1=some c→Jp ri q'.1=some c'→c≠c')∧∀q∈mem,∀c,Jp ri q.1=some c→c∉cs
 | [],mem,cs,_,hm=>by
  simp_all
 | (id,s)::g,mem,cs,h,hm=>by
  cases mem with
  | nil=>simp at hm
  | cons q mem =>
   simp only[QP,List.cons.injEq]at hm
   obtain⟨h1,h2⟩:=hm
   simp only[Fj]at h
   split at h
   ·rename_i c hc
    simp only[QQ]at h
    obtain⟨h3,h4⟩:=P5 h.2 h2
    refine⟨List.pairwise_cons.2 ⟨fun q' vu c1 c2 e1 e2 e=>?_,h3⟩,fun q' vu c1 e1=>?_⟩
    ·rw[h1,hc]at e1
     grind
    ·rcases QJ.1 vu with rfl | vu
     ·rw[h1,hc]at e1
      grind [Z6]
     grind
   ·rename_i hn
    obtain⟨h3,h4⟩:=P5 h h2
    refine⟨List.pairwise_cons.2 ⟨fun q' vu c1 c2 e1 e2 e=>?_,h3⟩,fun q' vu c1 e1=>?_⟩
    ·rw[h1,hn]at e1; cases e1
    grind
theorem Wu{β β':Nat→Nat}{ρ ρ':Nat→Value}:∀{m:Bool} {x:AV} {cs:List Value},(∀i∈Jb x,β' i=β i∧ρ' i=ρ i)→cr β ρ ok w m x cs→cr β' ρ' ok w m x cs
 | m,.d t x,cs,_,h=>by cases m<;>exact h
 | m,.p id path,cs,hn,h=>by
  have:=(hn id (.head _)).1
  cases m<;>(grind [cr])
 | m,.e id path,cs,hn,h=>by
  have:=(hn id (.head _)).2
  cases m<;>(grind [cr])
 | m,.s id,cs,hn,h=>by
  have:=(hn id (.head _)).2
  cases m<;>(grind [cr])
 | m,.m id,cs,hn,h=>by
  have:=(hn id (.head _)).1
  cases m<;>(grind [cr])
 | m,.b id,cs,hn,h=>by
  have:=(hn id (.head _)).1
  cases m<;>(grind [cr])
 | m,.w id _ _,cs,hn,h=>by
  have:=(hn id (.head _)).1
  cases m<;>(grind [cr])
 | m,.a t x,cs,_,h=>by cases m<;>exact h
 | m,.z,cs,_,h=>by cases m<;>exact h
 | m,.ns,cs,_,h=>by cases m<;>exact h
 | m,.np,cs,_,h=>by cases m<;>exact h
 | m,.nm,cs,_,h=>by cases m<;>exact h
 | m,.nf,cs,_,h=>by cases m<;>exact h
 | m,.f fn caps,cs,hn,h=>by cases m<;>exact let⟨vs,h1,h2⟩:=h; ⟨vs,h1,Wu (fun i hi=>hn i (by grind [Jb])) h2⟩
 | m,.ag l,cs,hn,h=>by cases m<;>exact Wu (m:=false) (x:=l) (fun i hi=>hn i (by grind [Jb])) h
 | m,.tp l,cs,hn,h=>by cases m<;>exact let⟨vs,h1,h2⟩:=h; ⟨vs,h1,Wu (fun i hi=>hn i (by grind [Jb])) h2⟩
 | m,.nil,cs,_,h=>by cases m<;>exact h
 | true,.cons x r,cs,hn,h=>by
  exact let⟨c1,vs,h1,h2,h3⟩:=h; ⟨c1,vs,h1,Wu (fun i hi=>hn i (by simp[Jb,hi])) h2,Wu (fun i hi=>hn i (by simp[Jb,hi])) h3⟩
 | false,.cons x r,cs,hn,h=>by
  exact let⟨c1,vs,h1,h2,h3⟩:=h; ⟨c1,vs,h1,Wu (fun i hi=>hn i (by simp[Jb,hi])) h2,Wu (fun i hi=>hn i (by simp[Jb,hi])) h3⟩
theorem Jjf{β β':Nat→Nat}{ρ ρ':Nat→Value}{l:List En}(ha:∀i∈Oi l,β' i=β i∧ρ' i=ρ i):∀e∈l,(enD β ρ a e).p ok w→(enD β' ρ' a e).p ok w:=by
 intro e he h
 have h1:∀i∈Jb e.av,β' i=β i∧ρ' i=ρ i:=by
  intro i hi
  refine ha i ?_
  clear ha h
  induction l with
  | nil=>cases he
  | cons x l ih =>
   simp only[Oi,QX]
   grind
 exact⟨fun hc=>let⟨cs,h2,h3⟩:=h.1 hc; ⟨cs,h2,Wu h1 h3⟩,h.2⟩
theorem Qd1{β β':Nat→Nat}{ρ ρ':Nat→Value}:∀{l:List (Nat×Ob)},(∀i∈Jg l,β' i=β i∧ρ' i=ρ i)→∀q∈l,(∀g,(Q0 β' ρ' q.1 q.2).blks g↔(Q0 β ρ q.1 q.2).blks g)∧(∀b o,(Q0 β' ρ' q.1 q.2).cov b o↔(Q0 β ρ q.1 q.2).cov b o) ∧
  ∀ok w,(Q0 β ρ q.1 q.2).p ok w→(Q0 β' ρ' q.1 q.2).p ok w
 | (id,o)::l,ha,q,hq=>by
  rcases QJ.1 hq with rfl | hq
  ·obtain⟨h1,h2⟩:=ha id (by
    cases o with
    | mapC k v xs hole=>cases hole<;>simp[Jg]
    | _=>simp[Jg])
   cases o with
   | var t c =>
    grind [Q0,Qou,Wu,Jg]
   | row e t xs=>simp_all [Q0,trivial]
   | tail e t xs=>simp_all [Q0,trivial]
   | map k v xs=>simp_all [Q0,trivial]
   | mapC k v xs hole =>
    have hv:Lf β' ρ' v hole=Lf β ρ v hole:=by
     cases hole with
     | none=>rfl
     | some q=>cases v<;>simp only[Lf,(ha q.2 (by simp[Jg])).1,(ha q.2 (by simp[Jg])).2]
    simp_all [Q0,trivial]
  ·exact Qd1 (fun i hi=>ha i (by
    cases o with
    | mapC k v xs hole=>cases hole<;>simp[Jg,hi]
    | _=>simp[Jg,hi])) q hq
theorem Rel.decF{Γ:Shp}{env fix:List En}{M F:List (Nat×Ob)}{ri:List (Nat×Nat)}{pr:List Nat}(h:Rel X β ρ ⟨env++fix,M++F⟩ a w){x:Γ.De}
  (hd:Gx.decF Γ ri (pr++(Oi fix++Jg F)) (env++fix) M F=some x) :
  ∃β' ρ',(∀i∈pr,β' i=β i∧ρ' i=ρ i)∧Rel X β' ρ' ⟨(enc Γ x).env++fix,(enc Γ x).mem++F⟩ a w ∧
   (∀q∈(enc Γ x).mem,∀c,Jp ri q.1=some c→β' q.1=β c∧ρ' q.1=ρ c):=by
 unfold Gx.decF Ji7 at hd
 obtain⟨hb,hd⟩:=bvT hd
 simp only[QQ]at hb
 obtain⟨⟨⟨b1,b2⟩,b3⟩,b4⟩:=hb
 have h1:=Rel.freeze M (l0:=[]) (F:=F) (ks:=Jea (env++fix) Γ.env++Qv1 M ri Γ.mem) h
 simp only[QU]at h1
 split at hd
 ·rename_i u v hu hv
  have hx:=Qv7 hd
  have hM:=h1.mm
  obtain⟨es,e1,e2⟩:=Qjw (M:=frz Γ ri (env++fix) M++F) hM (fun e he=>h1.en he) v hu
  obtain⟨m1,m2⟩:=Qjx hM b3 hv
  have uj:enc Γ x=⟨es,Zv Γ.mem v⟩:=by
   grind [enc]
  rw[uj]
  have xi:=Jje (β:=β) (ρ:=ρ) b4
  have sy:∀i∈Jg F,Hj ri β i=β i∧G7 ri (pr++(Oi fix++Jg F)) ρ i=ρ i:=fun i hi=>xi i (by simp[hi])
  have hagE:∀i∈Oi fix,Hj ri β i=β i∧G7 ri (pr++(Oi fix++Jg F)) ρ i=ρ i:=fun i hi=>xi i (by simp[hi])
  refine⟨Hj ri β,G7 ri (pr++(Oi fix++Jg F)) ρ,fun i hi=>xi i (by simp[hi]),?_,?_⟩
  ·have hS:Sb (fun _=>0) X [] (List.map (enD β ρ a) (env++fix)) [] (Qi (Hj ri β) (G7 ri (pr++(Oi fix++Jg F)) ρ) (Zv Γ.mem v++F)) a w:=by
    have xu:(List.map (fun q=>Q0 β ρ q.1 q.2) (frz Γ ri (env++fix) M)++List.map (fun q=>Q0 β ρ q.1 q.2) F).Pairwise fun s t=>∀g,s.blks g→¬ t.blks g:=by rw[←QB]; exact h1.dOO
    have fh:=QF.1 xu
    refine Sb.remake h1 (fun t' k9=>?_) ?_
    ·obtain⟨q,hq,rfl⟩:=QZ.1 k9
     rcases QX.1 hq with hq | hq
     ·rcases m2 q hq with⟨c,ob,h2,h3,h4,h5,h6⟩ | ⟨_,h4,h5⟩
      ·exact .inl ⟨_,QZ.2 ⟨_,List.mem_append_left _ (Qdy h3),rfl⟩,h4,h5,h6⟩
      grind
     ·obtain⟨f1,f2,f3⟩:=Qd1 sy q hq
      exact .inl ⟨_,QZ.2 ⟨q,List.mem_append_right _ hq,rfl⟩,fun g hg=>(f1 g).1 hg,fun b o hc=>(f2 b o).1 hc,f3 _ _ (h1.own _ (QZ.2 ⟨q,List.mem_append_right _ hq,rfl⟩)).1⟩
    ·rw[Qi,QB]
     obtain⟨n1,_⟩:=P5 b1 m1
     refine QF.2 ⟨?_,?_,?_⟩
     ·rw[JB]
      refine List.Pairwise.imp_of_mem ?_ n1
      intro q q' hq vu zk g hg yb
      rcases m2 q hq with⟨c,ob,h2,h3,h4,_⟩ | ⟨_,h4,_⟩
      ·rcases m2 q' vu with⟨c',ob',zb,u5,qx,_⟩ | ⟨_,qx,_⟩
       ·exact h1.disj (Q4 h3) (Q4 u5) (zk c c' h2 zb) g (h4 g hg) (qx g yb)
       ·exact qx g yb
      ·exact h4 g hg
     ·rw[JB]
      have:=JB.1 fh.2.1
      refine List.Pairwise.imp_of_mem ?_ this
      intro q q' hq vu zk g hg yb
      exact zk g ((Qd1 sy q hq).1 g |>.1 hg) ((Qd1 sy q' vu).1 g |>.1 yb)
     ·intro t ht t' k9 g hg yb
      obtain⟨q,hq,rfl⟩:=QZ.1 ht
      obtain⟨q',vu,rfl⟩:=QZ.1 k9
      rcases m2 q hq with⟨c,ob,h2,h3,h4,_⟩ | ⟨_,h4,_⟩
      ·exact fh.2.2 _ (QZ.2 ⟨_,Qdy h3,rfl⟩) _ (QZ.2 ⟨q',vu,rfl⟩) g (h4 g hg) ((Qd1 sy q' vu).1 g |>.1 yb)
      ·exact h4 g hg
   have kn:∀b o,okR X β ρ (frz Γ ri (env++fix) M++F) w b o→okR X (Hj ri β) (G7 ri (pr++(Oi fix++Jg F)) ρ) (Zv Γ.mem v++F) w b o:=by
    rintro b o ⟨o1,o2,o3,o4⟩
    refine⟨o1,o2,o3,fun t' k9 hc=>?_⟩
    obtain⟨q,hq,rfl⟩:=QZ.1 k9
    rcases QX.1 hq with hq | hq
    ·rcases m2 q hq with⟨c,ob,h2,h3,h4,h5,h6⟩ | ⟨_,h4,h5⟩
     ·exact o4 _ (QZ.2 ⟨_,List.mem_append_left _ (Qdy h3),rfl⟩) (h5 b o hc)
     ·exact h4 b ((Q0 _ _ q.1 q.2).cb hc)
    ·exact o4 _ (QZ.2 ⟨q,List.mem_append_right _ hq,rfl⟩) ((Qd1 sy q hq).2.1 b o |>.1 hc)
   refine Rel.ofSb hS rfl fun e he=>?_
   rcases QX.1 he with he | he
   ·exact(enD _ _ a e).weak (e2 e he).1 kn
   ·exact(enD _ _ a e).weak (Jjf hagE e he (h1.en (List.mem_append_right _ he))) kn
  grind [Hj,G7]
 ·cases hd
theorem XS.dec_ok{S:XS}{Γ:Shp}(h:Rel X β ρ S.flat a w){x:Γ.De}(hd:S.dec Γ=some x) :
  ∃β' ρ',(∀i∈S.prot,β' i=β i∧ρ' i=ρ i)∧Rel X β' ρ' ⟨(enc Γ x).env++S.fix,(enc Γ x).mem++S.fixM⟩ a w:=by
 obtain⟨β',ρ',h1,h2,_⟩:=Rel.decF (pr:=S.prot) h hd
 grind
end
end Gx

/- Operations that make or change objects. -/
namespace Gx
open Go Go.RowKit Gd
set_option linter.unusedVariables false
set_option linter.unusedSimpArgs false
def Qhx(n:Nat)(a:Act):GL:=(List.range n).map fun t=>(t,Gd.AV.v (a.tmps.getD t undef))
theorem Qtc{f:Nat→Gd.AV}:∀{l:List Nat} {t:Nat},t∈l→Jp (l.map fun t=>(t,f t)) t=some (f t)
 | k::l,t,h=>by
  simp only[QP,Jp]
  cases hb:Nat.beq k t with
  | true=>have:=Nat.eq_of_beq_eq_true hb; subst this; rfl
  | false =>
   rcases QJ.1 h with rfl | h
   ·simp_all
   ·exact Qtc h
section
variable {P:Program} {X:Cx} {β β':Nat→Nat} {ρ ρ':Nat→Value} {S:St} {a a':Act} {w w':World} {cur:Y4}
theorem Rel.toG(h:Rel X β ρ S a w):Sb (fun _=>0) X (Qhx X.n a) (S.env.map (enD β ρ a)) [] (Qi β ρ S.mem) a w :=
 {sz:=h.sz,df:=h.df,fr:=h.fr,pn:=h.pn,bel:=h.bel,dat:=h.dat,obj:=h.obj,own:=h.own,dHH:=h.dHH,dHO:=h.dHO,dOO:=h.dOO,
  tm:=fun p hp=>by
   obtain⟨t,ht,rfl⟩:=QZ.1 hp
   have hlt:t<a.tmps.size:=by rw[h.sz]; grind
   simp[D8,JI hlt,QN] }
theorem gvT(h:Rel X β ρ S a w){t:Nat}(ht:t<X.n):gv (Qhx X.n a) (.tmp t)=some (.v (a.eval (.tmp t))):=by
 simp only[gv,Qhx]
 rw[Qtc (f:=fun t=>Gd.AV.v (a.tmps.getD t undef)) (JV.2 ht)]
 rfl
theorem Qtd(h:Rel X β ρ S a w){t:Nat}{v:Value}(hv:a.tmps[t]?=some v):t<X.n:=by
 rw[←h.sz]
 grind
theorem gvE(h:Rel X β ρ S a w)(hc:Js a cur){x:Operand}{v:AV}(hx:ev S cur x=some v):gv (Qhx X.n a) x=some (.v (a.eval x)):=by
 cases x with
 | tmp t =>
  simp only[ev]at hx
  split at hx
  ·rename_i e he
   obtain⟨hb,hx⟩:=bvT hx
   obtain⟨cs,h1,h2⟩:=h.get he (Qdu hb hc)
   exact gvT h (Qtd h h1)
  ·cases hx
 | const v=>rfl
 | func f=>rfl
 | global g=>rfl
theorem Ln(h:Rel X β ρ S a w){ops:Array Oper}{o:Oper}(hw:Region.wanted o (yielded ops a.tmps)=true):Bm ops (Qhx X.n a) o=some true:=by
 unfold Bm
 unfold Region.wanted at hw
 split
 ·rfl
 ·rename_i j want hg
  rw[hg]at hw
  simp only[beq_iff_eq]at hw
  unfold yielded at hw
  split
  ·rename_i p hp
   rw[hp]at hw
   split
   ·rename_i t ht
    simp only[QW,ht]at hw
    split at hw
    ·rename_i b hb
     simp at hw; subst hw
     have hlt:=Qtd h hb
     have:=gvT h hlt
     simp_all [gv,Act.eval]
    ·cases hw
   grind
  grind
theorem Rel.fin{env env':List En}{mem':List (Nat×Ob)}{O':List TL}{d:Nat}{v:Value}(hn:∀e∈env,True)(h':Sb (fun _=>0) X (Sj (Qhx X.n a) d (.v v)) (env.map (enD β ρ a)) [] O' a' w')(kg:a.tmps.size=X.n)(hd:okD X d=true)
  (hO:Xj O' (Qi β' ρ' mem')) (tt:∀e∈env',∀(ok:Ok) (w:World) (cs:List Value),cr β ρ ok w false e.av cs→cr β' ρ' ok w false e.av cs) (he:∀e∈env',e∈env∧e.t≠d∧∀c∈e.cs,c.1≠d)
  {x:AV} {c:List Value} (hv:v=x.val c) (hx:cr β' ρ' (okR X β' ρ' mem' w') w' false x c):Rel X β' ρ' ⟨⟨d,[],x⟩::env',mem'⟩ a' w':=by
 have h1:=h'.simO hO
 have sn:∀t,t≠d→a'.tmps[t]?=a.tmps[t]?:=by
  intro t ht
  rcases Nat.lt_or_ge t X.n with hlt | ti
  ·have hm:(t,Gd.AV.v (a.tmps.getD t undef))∈Sj (Qhx X.n a) d (.v v):=by
    refine .tail _ ?_
    have:∀{l:GL},(t,Gd.AV.v (a.tmps.getD t undef))∈l→(t,Gd.AV.v (a.tmps.getD t undef))∈Qyc l d:=by
     intro l
     induction l with
     | nil=>intro h; cases h
     | cons q l ih =>
      grind [Qyc,Nat.beq,absurd,Nat.eq_of_beq_eq_true]
    exact this (QZ.2 ⟨t,JV.2 hlt,rfl⟩)
   have:=h1.tm _ hm
   simp_all [D8,QN,JI]
  ·rw[Array.getElem?_eq_none (by have:=h1.sz; omega),Array.getElem?_eq_none (by omega)]
 have hdv:rd a' d=some v:=by
  have:=h1.tm (d,.v v) (.head _)
  rw[Nm (Qds hd)]
  grind [D8]
 have jv:∀t,t≠d→rd a' t=rd a t:=fun t ht=>by grind [rd]
 refine Rel.ofSb h1 rfl fun e hm=>?_
 rcases QJ.1 hm with rfl | hm
 ·exact⟨fun _=>⟨c,by rw[hdv,hv],hx⟩,.inl (Qd _)⟩
 ·obtain⟨h2,h3,h4⟩:=he e hm
  have hp:=Yc.1 h1.dat _ (QZ.2 ⟨e,h2,rfl⟩)
  have yc:Js a' e.cs↔Js a e.cs:=⟨fun hc c hm=>by rw[←sn _ (h4 c hm)]; exact hc c hm,fun hc c hm=>by rw[sn _ (h4 c hm)]; exact hc c hm⟩
  refine⟨fun hc=>?_,?_⟩
  ·obtain⟨cs,h5,h6⟩:=hp.1 (yc.1 hc)
   grind
  ·rw[yc,jv _ h3]; exact hp.2
theorem Qbx{l:List En}{d:Nat}(h:Qbv d l=true):∀e∈l,e.t≠d∧∀c∈e.cs,c.1≠d:=by
 induction l with
 | nil=>grind
 | cons x l ih =>
  simp only[Qbv,QQ]at h
  intro e he
  rcases QJ.1 he with rfl | he
  ·have h1:=h.1
   simp only[JL,JT]at h1
   exact⟨fun e'=>by rw[e']at h1; simp_all,Qbp h1.2⟩
  grind
def agP(pr:List Nat)(β β':Nat→Nat)(ρ ρ':Nat→Value):Prop:=∀i∈pr,β' i=β i∧ρ' i=ρ i
theorem agP.refl(pr:List Nat)(β:Nat→Nat)(ρ:Nat→Value):agP pr β β ρ ρ:=fun _ _=>⟨rfl,rfl⟩
theorem agP.trans{pr:List Nat}{β1 β2 β3:Nat→Nat}{ρ1 ρ2 ρ3:Nat→Value}(h:agP pr β1 β2 ρ1 ρ2)(k:agP pr β2 β3 ρ2 ρ3):agP pr β1 β3 ρ1 ρ3 :=
 fun i hi=>⟨(k i hi).1.trans (h i hi).1,(k i hi).2.trans (h i hi).2⟩
theorem Gm{pr:List Nat}{d:Nat}(h:Yd pr d=false)(ha:Qhw d β β' ρ ρ'):agP pr β β' ρ ρ' :=
 fun i hi=>ha i fun e=>by grind [Z6]
structure Yx(S S':XS)(β β':Nat→Nat)(ρ ρ':Nat→Value):Prop where
 fix:S'.fix=S.fix
 fixM:S'.fixM=S.fixM
 prot:S'.prot=S.prot
 ag:agP S.prot β β' ρ ρ'
theorem Yx.refl(S:XS)(β:Nat→Nat)(ρ:Nat→Value):Yx S S β β ρ ρ:=⟨rfl,rfl,rfl,agP.refl _ _ _⟩
theorem Yx.trans{S1 S2 S3:XS}{β1 β2 β3:Nat→Nat}{ρ1 ρ2 ρ3:Nat→Value}(h:Yx S1 S2 β1 β2 ρ1 ρ2)(k:Yx S2 S3 β2 β3 ρ2 ρ3):Yx S1 S3 β1 β3 ρ1 ρ3 :=
 ⟨k.fix.trans h.fix,k.fixM.trans h.fixM,k.prot.trans h.prot,h.ag.trans (by rw[←h.prot]; exact k.ag)⟩
theorem Vb{n d:Nat}{S:XS}(h:okW n S d=true)(hn:X.n=n)(hr:X.res=[]):okD X d=true∧Qbv d S.fix=true:=by
 simp_all [okW,QQ,okD,Qld,Bool.true_and]
theorem Cu{d:Nat}{l m:List En}(h:Qbv d m=true):Yy (l++m) d=Yy l d++m:=by
 induction l with
 | nil =>
  simp only[QU,Yy]
  induction m with
  | nil=>rfl
  | cons x m ih =>
   simp_all [Qbv,QQ,JL,Yy,cond_false]
 | cons x l ih =>
  grind [Yy,Nat.beq,Qbo]
theorem Xk{S:XS}{d:Nat}{cs:Y4}{x:AV}(h:Qbv d S.fix=true):(S.put d cs x).flat=S.flat.put d cs x:=by
 grind [XS.flat,XS.put,St.put,Cu]
theorem H3{S:XS}{d:Nat}(h:okB S d=true):J7 d (S.mem++S.fixM)=true∧Qhp d S.fix=true∧Yd S.prot d=false:=by
 simp only[okB,QQ]at h
 refine⟨?_,h.1.2,by simpa using h.2⟩
 have key:∀{l m:List (Nat×Ob)},J7 d l=true→J7 d m=true→J7 d (l++m)=true:=by
  intro l m hl hm
  induction l with
  | nil=>exact hm
  | cons q l ih =>
   obtain⟨k,o⟩:=q
   cases o with
   | mapC k1 v xs hole=>cases hole<;>simp only[J7,QQ,QA]at hl ⊢<;>exact⟨hl.1,ih hl.2⟩
   | _=>simp_all [J7,QQ,QA]
 grind
theorem Lo{S:XS}{d:Nat}(hI:Qhp d S.fix=true)(hF:Qbv d S.fix=true):∀e∈Yy (Vq d S.env) d++S.fix,e∈S.flat.env∧Uz d e.av=true∧e.t≠d∧∀c∈e.cs,c.1≠d:=by
 intro e he
 rcases QX.1 he with he | he
 ·obtain⟨h1,h2,h3⟩:=Lg he
  obtain⟨h4,h5⟩:=Qfz h1
  exact⟨List.mem_append_left _ h4,h5,h2,h3⟩
 ·obtain⟨h1,h2⟩:=Qbx hF e he
  exact⟨List.mem_append_right _ he,Qph hI e he,h1,h2⟩
end
end Gx

/- Steps. -/
namespace Gx
open Go Go.RowKit Gd
set_option linter.unusedVariables false
set_option linter.unusedSimpArgs false
section
variable {P:Program} {Y:TX} {X:Cx} {S:XS} {β β':Nat→Nat} {ρ ρ':Nat→Value} {a a':Act} {w w':World} {n:Nat}
variable {ops:Array Oper} {Q:Exit→Act→World→Prop} {rest:List Oper} {R:Type} {k:XS→Option R} {r:R}
def KOk(P:Program)(ops:Array Oper)(Q:Exit→Act→World→Prop)(rest:List Oper)(X:Cx)(S0:XS)(β:Nat→Nat)(ρ:Nat→Value){R:Type}(k:XS→Option R)(r:R):Prop :=
 ∀(β':Nat→Nat) (ρ':Nat→Value) (S':XS) (a':Act) (w':World),k S'=some r→Yx S0 S' β β' ρ ρ'→Rel X β' ρ' S'.flat a' w'→wpList P ops Q rest a' w'
theorem KOk.after(h:KOk P ops Q rest X S β ρ k r){S1:XS}{β1:Nat→Nat}{ρ1:Nat→Value}(hk:Yx S S1 β β1 ρ ρ1):KOk P ops Q rest X S1 β1 ρ1 k r :=
 fun β' ρ' S' a' w' h1 h2 h3=>h β' ρ' S' a' w' h1 (hk.trans h2) h3
theorem Gn(S:XS)(d:Nat)(cs:Y4)(x:AV):Yx S (S.put d cs x) β β ρ ρ:=⟨rfl,rfl,rfl,agP.refl _ _ _⟩
theorem U0{d:Nat}(hp:Yd S.prot d=false)(ha:Qhw d β β' ρ ρ')(o:Ob)(cs:Y4)(x:AV):Yx S ((S.born d o).put d cs x) β β' ρ ρ':=⟨rfl,rfl,rfl,Gm hp ha⟩
theorem Jem(hX:X.n=n)(hr:X.res=[])(h:Rel X β ρ S.flat a w){o:Oper}(hw:Region.wanted o (yielded ops a.tmps)=true){d:Nat}(hd:o.dst=some d)(zi:okW n S d=true){x:AV}(hs:Qo3 P S.flat [] o x)
  (hk:k (S.put d [] x)=some r) (H:KOk P ops Q rest X S β ρ k r):wpList P ops Q (o::rest) a w:=by
 obtain⟨h1,h2⟩:=Vb zi hX hr
 obtain⟨cs,h3,h4⟩:=hs h.toW (Qd a)
 refine Jr hw (Yr h3 ?_)
 rw[hd]
 refine H β ρ _ _ _ hk (Gn S d [] x) ?_
 rw[Xk h2]
 exact h.put0 h1 h4
theorem Jen(hX:X.n=n)(hr:X.res=[])(h:Rel X β ρ S.flat a w){o:Oper}(hw:Region.wanted o (yielded ops a.tmps)=true){d:Nat}(hd:o.dst=some d)(zi:okW n S d=true)(hb:okB S d=true){t:TypeId}{c x:AV}{cs:List Value}{cv:Nat→List Value}
  (ka:(execOp a.eval o).run P w=.ok (.value (x.val (cv w.heap.size))) (w.alloc (.cells cs.toArray t))) (hc:cr β ρ (okR X β ρ S.flat.mem w) w false c cs) (hn:Uz d c=true) (hx:∀(β:Nat→Nat) (ρ:Nat→Value) (ok:Ok) (w:World),cr β ρ ok w false x (cv (β d)))
  (hk:k ((S.born d (.var t c)).put d [] x)=some r) (H:KOk P ops Q rest X S β ρ k r):wpList P ops Q (o::rest) a w:=by
 obtain⟨h1,h2⟩:=Vb zi hX hr
 obtain⟨f1,f2,f3⟩:=H3 hb
 refine Jr hw (Yr ka ?_)
 rw[hd]
 have ha:=Qju d β ρ w.heap.size (ρ d)
 have zp:Below w.heap.size w (w.alloc (.cells cs.toArray t)):=(Below.refl _ _).alloc (QY _) _
 refine H (upd β d w.heap.size) (upd ρ d (ρ d)) _ _ _ hk (U0 f3 ha _ _ _) ?_
 have hA:Rel X (upd β d w.heap.size) (upd ρ d (ρ d)) ⟨Yy (Vq d S.env) d++S.fix,(d,.var t c)::(S.mem++S.fixM)⟩ a (w.alloc (.cells cs.toArray t)):=by
  refine Rel.alloc h ha f1 (fun e he=>let⟨q1,q2,_⟩:=Lo f2 h2 e he; ⟨q1,q2⟩) zp (fun g hg=>?_) ?_
  ·have yb:g=upd β d w.heap.size d:=hg
   rw[Je]at yb; omega
  ·refine⟨cs,?_,?_⟩
   ·rw[Je]; exact heap_alloc_new w _
   ·have h5:cr (upd β d w.heap.size) (upd ρ d (ρ d)) (okR X β ρ S.flat.mem w) w false c cs:=Gl ha hn hc
    refine X4 (Le h5 ((Evo.of_below zp).mono fun b o hk=>hk.2.1)) ?_
    rintro b o ⟨o1,o2,o3,o4⟩
    refine⟨o1,QC o2 zp.size,o3,fun u hu wm=>?_⟩
    rcases QJ.1 hu with rfl | hu
    ·have hcv':b=upd β d w.heap.size d:=wm
     rw[Je]at hcv'; omega
    ·obtain⟨t0,ht0,zw⟩:=(Su ha f1).mem u hu
     exact o4 t0 ht0 ((zw.2.1 b o).1 wm)
 have hP:=hA.put0 h1 (x:=x) (c:=cv (upd β d w.heap.size d)) (hx _ _ _ _)
 rw[show upd β d w.heap.size d=w.heap.size from Je _ _ _]at hP
 have he:((S.born d (.var t c)).put d [] x).flat=⟨⟨d,[],x⟩::(Yy (Vq d S.env) d++S.fix),(d,.var t c)::(S.mem++S.fixM)⟩:=rfl
 rw[he]
 refine hP.less fun e hm=>?_
 rcases QJ.1 hm with rfl | hm
 ·exact .head _
 ·refine .tail _ ?_
  have:Yy (Yy (Vq d S.env) d++S.fix) d=Yy (Vq d S.env) d++S.fix:=by
   rw[Cu h2]
   congr 1
   have idem:∀l:List En,Yy (Yy l d) d=Yy l d:=by
    intro l
    induction l with
    | nil=>rfl
    | cons y l ih =>
     simp only[Yy]
     cases hb:(Nat.beq y.t d||Qbo d y.cs)with
     | true=>simpa using ih
     | false=>simp_all [cond_false,Yy]
   exact idem _
  show e∈Yy (Yy (Vq d S.env) d++S.fix) d
  rw[this]; exact hm
theorem Jk2(hX:X.n=n)(hr:X.res=[])(h:Rel X β ρ S.flat a w){o:Oper}(hw:Region.wanted o (yielded ops a.tmps)=true){d:Nat}(hd:o.dst=some d)(zi:okW n S d=true)(hb:okB S d=true){t:TypeId}{c:AV}{cs:List Value}
  (ka:(execOp a.eval o).run P w=.ok (.value (.pointer (some ⟨w.heap.size,0,none⟩))) (w.alloc (.cells cs.toArray t))) (hc:cr β ρ (okR X β ρ S.flat.mem w) w false c cs) (hn:Uz d c=true)
  (hk:k ((S.born d (.var t c)).put d [] (.p d []))=some r) (H:KOk P ops Q rest X S β ρ k r):wpList P ops Q (o::rest) a w :=
 Jen (x:=.p d []) (cv:=fun g=>[.pointer (some ⟨g,0,none⟩)]) hX hr h hw hd zi hb ka hc hn (fun _ _ _ _=>rfl) hk H
theorem E1{l m:List (Nat×Ob)}{id:Nat}{o o':Ob}(h:Qe l id=some o):Qhf l id o'++m=Qhf (l++m) id o':=by
 induction l with
 | nil=>simp[Qe]at h
 | cons q l ih =>
  simp only[Qe]at h
  simp only[Qhf,QA]
  grind
theorem Q65(hT:Q6 P Y.T)(h:Rel X β ρ S.flat a w){o:Oper}(hw:Region.wanted o (yielded ops a.tmps)=true){t:TypeId}{p x:Operand}(ko:o.op=.store t p x)(hd:o.dst=none){e:TE}(he:Qh Y.T t=some e)
  {id:Nat} {path:List PS} {v c c':AV} {tid:TypeId} (hp:S.ev [] p=some (.p id path)) (hx:S.ev [] x=some v) (hm:Qe S.mem id=some (.var tid c)) (hs:∀{ok:Ok} {w:World} {cs ds:List Value},(∀id o,Qe S.flat.mem id=some o→(Q0 β ρ id o).p ok w)→cr β ρ ok w false v ds→cr β ρ ok w false c cs →
   cr β ρ ok w false c' (cs.take (Yi path)++ds++cs.drop (Yi path+ds.length))∧Yi path+ds.length≤cs.length) (kg:Nat.beq e.size v.size=true) (yg:v.isVal=true) (vd:v.inMem=true)
  (hk:k (S.set id (.var tid c'))=some r) (H:KOk P ops Q rest X S β ρ k r):wpList P ops Q (o::rest) a w:=by
 obtain⟨c1,h1,h2⟩:=h.ev (Qd a) hp
 obtain⟨ds,h3,h4⟩:=h.ev (Qd a) hx
 have zb:c1=_:=h2
 subst zb
 have z6:Qe S.flat.mem id=some (.var tid c):=Q4 hm
 obtain⟨⟨cs,hh,hc⟩,zg⟩:=h.ob z6
 obtain⟨h5,h6⟩:=hs h.mm h4 hc
 have hdl:=Ux h4
 have yx:=Nat.eq_of_beq_eq_true kg
 have yn:Qu (v.val ds)=ds:=Nl h4 yg vd
 have zj:=run_storeCells_at P (β id) (Yi path) tid ds 0 cs.toArray w hh (by simp; omega) (Sm h4 vd)
 simp only[JP,List.toList_toArray]at zj
 have ka:(execOp a.eval o).run P w=.ok .skip (w.setRow (β id) (cs.take (Yi path)++ds++cs.drop (Yi path+ds.length)).toArray):=by
  have k8:a.eval p=.pointer (some ⟨β id,Yi path,none⟩):=h1
  have yc:(v.val ds).cells.toList=ds:=by rw[←Vk,yn]
  have ra:(v.val ds).cells.size=e.size:=by rw[←Array.length_toList,yc]; omega
  unfold execOp
  rw[ko]
  simp only[k8,h3]
  simp[Instr.storeAt,Instr.sureAddr,storeVar,J5 hT w he,ra,yc,zj]
 refine Jr hw ?_
 unfold Oper.wp
 rw[ka]
 show wpList P ops Q rest (a.put o.dst undef) _
 rw[hd]
 obtain⟨l1,l2,e1,e2,e3⟩:=Jv z6
 have hO:Qi β ρ S.flat.mem=Qi β ρ l1++Q0 β ρ id (.var tid c)::Qi β ρ l2:=by rw[e1]; simp[Qi]
 have hS:=h.upd hO (t':=Q0 β ρ id (.var tid c')) (w':=w.setRow (β id) (cs.take (Yi path)++ds++cs.drop (Yi path+ds.length)).toArray) rfl rfl rfl (by simp) (fun b hb hn=>setRow_other _ _ _ _ fun e=>hn e) (fun b o hb=>hb) (fun g hg=>.inl hg) (fun kq kn=>by
  refine⟨_,setRow_heap _ _ _ _ _ _ hh,?_⟩
  exact X4 (Le h5 kq) kn)
 have hE:(S.set id (.var tid c')).flat=⟨S.flat.env,Qhf S.flat.mem id (.var tid c')⟩:=by
  grind [XS.flat,XS.set,E1]
 refine H β ρ _ _ _ hk ⟨rfl,rfl,rfl,agP.refl _ _ _⟩ ?_
 rw[hE,e2]
 have ke:Qi β ρ (l1++(id,Ob.var tid c')::l2)=Qi β ρ l1++Q0 β ρ id (.var tid c')::Qi β ρ l2:=by simp[Qi]
 exact Rel.ofSb hS ke.symm fun e he=>by
  have:=Yc.1 hS.dat _ (QZ.2 ⟨e,he,rfl⟩)
  rw[←ke]at this
  exact this
theorem Jab(hX:X.n=n)(hr:X.res=[])(h:Rel X β ρ S.flat a w){o:Oper}(hw:Region.wanted o (yielded ops a.tmps)=true){d:Nat}(hd:o.dst=some d)(zi:okW n S d=true)(hb:okB S d=true){t:TypeId}(ko:o.op=.makeMap t none){kk v:Ty}
  (hk:k ((S.born d (.map kk v [])).put d [] (.m d))=some r) (H:KOk P ops Q rest X S β ρ k r):wpList P ops Q (o::rest) a w:=by
 obtain⟨h1,h2⟩:=Vb zi hX hr
 obtain⟨f1,f2,f3⟩:=H3 hb
 have ka:(execOp a.eval o).run P w=.ok (.value (.map (some w.heap.size))) (w.alloc (.map #[] 0)):=by
  simp_all [execOp,Instr.makeMap]
 refine Jr hw (Yr ka ?_)
 rw[hd]
 have ha:=Qju d β ρ w.heap.size (ρ d)
 have zp:Below w.heap.size w (w.alloc (.map #[] 0)):=(Below.refl _ _).alloc (QY _) _
 refine H (upd β d w.heap.size) (upd ρ d (ρ d)) _ _ _ hk (U0 f3 ha _ _ _) ?_
 have hA:Rel X (upd β d w.heap.size) (upd ρ d (ρ d)) ⟨Yy (Vq d S.env) d++S.fix,(d,.map kk v [])::(S.mem++S.fixM)⟩ a (w.alloc (.map #[] 0)):=by
  refine Rel.alloc h ha f1 (fun e he=>let⟨q1,q2,_⟩:=Lo f2 h2 e he; ⟨q1,q2⟩) zp (fun g hg=>?_) ?_
  ·have yb:g=upd β d w.heap.size d:=hg
   rw[Je]at yb; omega
  ·refine⟨#[],0,?_,rfl,by simp,by simp,by simp⟩
   rw[Je]; exact heap_alloc_new w _
 have hP:=hA.put0 h1 (x:=.m d) (c:=[.map (some (upd β d w.heap.size d))]) rfl
 have hv:(AV.m d).val [.map (some (upd β d w.heap.size d))]=.map (some w.heap.size):=by rw[Je]; rfl
 rw[hv]at hP
 have he:((S.born d (.map kk v [])).put d [] (.m d)).flat=⟨⟨d,[],.m d⟩::(Yy (Vq d S.env) d++S.fix),(d,.map kk v [])::(S.mem++S.fixM)⟩:=rfl
 rw[he]
 refine hP.less fun e hm=>?_
 rcases QJ.1 hm with rfl | hm
 ·exact .head _
 ·refine .tail _ ?_
  have:Yy (Yy (Vq d S.env) d++S.fix) d=Yy (Vq d S.env) d++S.fix:=by
   rw[Cu h2]
   congr 1
   have idem:∀l:List En,Yy (Yy l d) d=Yy l d:=by
    intro l
    induction l with
    | nil=>rfl
    | cons x l ih =>
     simp only[Yy]
     cases hb:(Nat.beq x.t d||Qbo d x.cs)with
     | true=>simpa using ih
     | false=>simp_all [cond_false,Yy]
   exact idem _
  show e∈Yy (Yy (Vq d S.env) d++S.fix) d
  rw[this]; exact hm
theorem Qze(hT:Q6 P Y.T)(h:Rel X β ρ S.flat a w){o:Oper}(hw:Region.wanted o (yielded ops a.tmps)=true){t:TypeId}{m ky x:Operand}(ko:o.op=.mapUpdate t m ky x)(hd:o.dst=none){te tk:TE}{kt et:TypeId}(ku:Qh Y.T t=some te)(kr:te.d=.map kt et)(xz:Qh Y.T kt=some tk)
  {id:Nat} {kv xv:AV} {kk v:Ty} {xs:List (kk.De×v.De)} {key:kk.De} {y:v.De} (hm:S.ev [] m=some (.m id)) (ux:S.ev [] ky=some kv) (hx:S.ev [] x=some xv) (ug:Qe S.mem id=some (.map kk v xs)) (yi:asD [] kv kk=some key) (hy:asD S.flat.mem xv v=some y)
  (ve:Y5 Y.T kk tk.d=true) (qk:(kk.agg==kv.isAgg)=true) (hva:(v.agg==xv.isAgg)=true)
  (hk:k (S.set id (.map kk v (Yu key y xs)))=some r) (H:KOk P ops Q rest X S β ρ k r):wpList P ops Q (o::rest) a w:=by
 obtain⟨c1,h1,h2⟩:=h.ev (Qd a) hm
 have zb:c1=[.map (some (β id))]:=h2
 subst zb
 have k8:a.eval m=.map (some (β id)):=h1
 have rh:isV (rt v) (okR X β ρ S.flat.mem w) w y (a.eval x):=h.asD (Qd a) hx hy (bEq hva)
 obtain⟨c3,h3,h4⟩:=h.ev (Qd a) ux
 have mu:isV (rt kk) (okR X β ρ S.flat.mem w) w key (a.eval ky):=by
  refine⟨c3,K4 (M:=[]) (β:=β) (ρ:=ρ) (by simp[Qe]) yi h4,?_⟩
  rw[h3]; simp only[AV.val,RT.val,Ld,bEq qk]; cases kv.isAgg<;>rfl
 have pd:=Cq (Vp ve) mu
 have z6:Qe S.flat.mem id=some (.map kk v xs):=Q4 ug
 obtain⟨⟨es,clock,hg,hp,yf,lj,lk⟩,zg⟩:=h.ob z6
 obtain⟨es',clock',ka,xe,uk⟩:=Qe1 hT ku kr xz ve hg hp ⟨lj,lk⟩ key rh
 have yd:(execOp a.eval o).run P w=.ok .skip { w with heap:=w.heap.setIfInBounds (β id) (.map es' clock') }:=by
  unfold execOp
  rw[ko]
  simp only[k8,pd]
  simp[ka]
 refine Jr hw ?_
 unfold Oper.wp
 rw[yd]
 show wpList P ops Q rest (a.put o.dst undef) _
 rw[hd]
 have hgl:=Y9 hg
 obtain⟨l1,l2,e1,e2,e3⟩:=Jv z6
 have hO:Qi β ρ S.flat.mem=Qi β ρ l1++Q0 β ρ id (.map kk v xs)::Qi β ρ l2:=by rw[e1]; simp[Qi]
 have hS:=h.upd hO (t':=Q0 β ρ id (.map kk v (Yu key y xs))) (w':={ w with heap:=w.heap.setIfInBounds (β id) (.map es' clock') }) rfl rfl rfl (by simp) (fun b hb hn=>(MapKept.heap_set hg).2 b fun e=>hn e) (fun b o hb=>hb) (fun g hg=>.inl hg) (fun kq kn=>by
  refine⟨es',clock',(MapKept.heap_set hg).1,?_,(Qdv (Vp ve) key y yf).1,uk.1,uk.2⟩
  exact Gi (Pz xe kq) kn)
 have hE:(S.set id (.map kk v (Yu key y xs))).flat=⟨S.flat.env,Qhf S.flat.mem id (.map kk v (Yu key y xs))⟩:=by
  grind [XS.flat,XS.set,E1]
 refine H β ρ _ _ _ hk ⟨rfl,rfl,rfl,agP.refl _ _ _⟩ ?_
 rw[hE,e2]
 have ke:Qi β ρ (l1++(id,Ob.map kk v (Yu key y xs))::l2)=Qi β ρ l1++Q0 β ρ id (.map kk v (Yu key y xs))::Qi β ρ l2:=by simp[Qi]
 exact Rel.ofSb hS ke.symm fun e he=>by
  have:=Yc.1 hS.dat _ (QZ.2 ⟨e,he,rfl⟩)
  rw[←ke]at this
  exact this
theorem Jac(hT:Q6 P Y.T)(h:Rel X β ρ S.flat a w){o:Oper}(hw:Region.wanted o (yielded ops a.tmps)=true){t:TypeId}{p x:Operand}(ko:o.op=.store t p x)(hd:o.dst=none){e:TE}(he:Qh Y.T t=some e)
  {id sz:Nat} {j:Int} {path:List PS} {v c:AV} {et:TypeId} {u:Ty} {xs:List u.De} {y z:u.De} (hp:S.ev [] p=some (.e id (.i j sz::path))) (hx:S.ev [] x=some v) (hm:Qe S.mem id=some (.row et u xs)) (hy:idx xs j=some y)
  (hs:Qmk path (.d u y) v=some c) (hz:asD S.flat.mem c u=some z) (kg:Nat.beq e.size v.size=true) (hsu:Nat.beq sz u.size=true) (zn:Nat.ble 1 u.size=true) (yg:v.isVal=true) (vd:v.inMem=true)
  (hk:k (S.set id (.row et u (xs.set j.toNat z)))=some r) (H:KOk P ops Q rest X S β ρ k r):wpList P ops Q (o::rest) a w:=by
 obtain⟨c1,h1,g0,hg0,zb⟩:=h.ev (Qd a) hp
 subst zb
 obtain⟨ds,h3,h4⟩:=h.ev (Qd a) hx
 have z6:Qe S.flat.mem id=some (.row et u xs):=Q4 hm
 have yx:=Nat.eq_of_beq_eq_true kg
 have hszu:=Nat.eq_of_beq_eq_true hsu
 subst hszu
 have hdl:=Ux h4
 have yn:Qu (v.val ds)=ds:=Nl h4 yg vd
 obtain⟨l1,l2,e1,e2,e3⟩:=Jv z6
 obtain⟨⟨wz,cs0,xd,_⟩,_⟩:=h.ob z6
 obtain⟨g,c0,hv⟩:∃g c0,ρ id=.slice (some ⟨g,0,none⟩) xs.length c0:=by
  rcases xd.2 with⟨hv,h0⟩ | ⟨g,cap,cur,fz,hv,_⟩
  ·rw[hv]at hg0; cases hg0
  grind
 have b9:g0=g:=by rw[hv]at hg0; grind [Value.ownBlock]
 subst b9
 have hO:Qi β ρ S.flat.mem=Qi β ρ l1++ml (.slice (some ⟨g0,0,none⟩) xs.length c0) et (rt u) xs::Qi β ρ l2:=by rw[e1]; simp[Qi,Q0,hv]
 have z7:Yi path+ds.length≤u.size:=by
  obtain⟨⟨hl,csr,kb,hr⟩,_⟩:=h.ob z6
  have zr:=Fh hr (Ws hy).2
  obtain⟨_,h6⟩:=Sr (β:=β) (ρ:=ρ) h4 hs (show cr β ρ _ w false (.d u y) _ from zr)
  have:=(rt u).len zr
  have h7:=Jf u
  omega
 obtain⟨cur,fz,⟨hh,ya⟩,hlen,hS⟩:=Sb.mset h (Qi β ρ l1) (Qi β ρ l2) hO hy (by rw[Jf]; exact QK zn) (off:=Yi path) (ds:=ds) (z:=z) (by rw[Jf]; exact z7) (Sm h4 vd) (fun es yx=>by
  obtain⟨h5,_⟩:=Sr (β:=β) (ρ:=ρ) h4 hs (show cr β ρ _ w false (.d u y) es from yx)
  exact K4 h.mm hz h5)
 rw[Jf]at hS hlen
 have zj:=Uu P g0 (j.toNat*u.size+Yi path) et fz ds 0 cur w hh ya (by omega) (Sm h4 vd)
 simp only[JP]at zj
 have ka:(execOp a.eval o).run P w=.ok .skip (w.setRow g0 (cur.toList.take (j.toNat*u.size+Yi path)++ds++cur.toList.drop (j.toNat*u.size+Yi path+ds.length)).toArray):=by
  have k8:a.eval p=.pointer (some ⟨g0,j.toNat*u.size+Yi path,none⟩):=h1
  have yc:(v.val ds).cells.toList=ds:=by rw[←Vk,yn]
  have ra:(v.val ds).cells.size=e.size:=by rw[←Array.length_toList,yc]; omega
  unfold execOp
  rw[ko]
  simp only[k8,h3]
  simp[Instr.storeAt,Instr.sureAddr,storeVar,J5 hT w he,ra,yc,zj]
 refine Jr hw ?_
 unfold Oper.wp
 rw[ka]
 show wpList P ops Q rest (a.put o.dst undef) _
 rw[hd]
 have hE:(S.set id (.row et u (xs.set j.toNat z))).flat=⟨S.flat.env,Qhf S.flat.mem id (.row et u (xs.set j.toNat z))⟩:=by
  grind [XS.flat,XS.set,E1]
 refine H β ρ _ _ _ hk ⟨rfl,rfl,rfl,agP.refl _ _ _⟩ ?_
 rw[hE,e2]
 have ke:Qi β ρ (l1++(id,Ob.row et u (xs.set j.toNat z))::l2)=Qi β ρ l1++ml (.slice (some ⟨g0,0,none⟩) xs.length c0) et (rt u) (xs.set j.toNat z)::Qi β ρ l2:=by simp[Qi,Q0,hv]
 exact Rel.ofSb hS ke.symm fun e he=>by
  have:=Yc.1 hS.dat _ (QZ.2 ⟨e,he,rfl⟩)
  rw[←ke]at this
  exact this
end
end Gx

/- Maps whose values are objects of their own: a value is taken out, put back; made, frozen. -/
namespace Gd
open Go Go.RowKit
section
variable {β:Nat→Nat} {X:Cx} {G:GL} {D:List DF} {H:HL} {O:List TL} {a:Act} {w w':World}
theorem Sb.repl{A A' R:List TL}(h:Sb β X G D [] (A++R) a w)(mg:w'.os=w.os)(mh:w'.tape=w.tape)(uc:w'.output=w.output)(kg:w.heap.size=w'.heap.size){L:List Nat}
  (hblk:∀b,b∉L→w'.heap[b]?=w.heap[b]?) (hL:∀g∈L,∃t∈A,∀o,t.cov g o)
  (yu:∀t∈A',∀g,t.blks g→∃s∈A,s.blks g) (y8:∀t∈A',∀b o,t.cov b o→∃s∈A,s.cov b o)
  (hp:Evo (Jh X.ok X.w.heap.size β [] (A++R) w) w w'→(∀b o,Jh X.ok X.w.heap.size β [] (A++R) w b o→Jh X.ok X.w.heap.size β [] (A'++R) w' b o)→∀t∈A',t.p (Jh X.ok X.w.heap.size β [] (A'++R) w') w')
  (hd:A'.Pairwise fun s t=>∀g,s.blks g→¬ t.blks g):Sb β X G D [] (A'++R) a w':=by
 have xu:=QF.1 h.dOO
 have hLb:∀g∈L,∃t∈A,t.blks g:=fun g hg=>let⟨t,ht,hc⟩:=hL g hg; ⟨t,ht,t.cb (hc 0)⟩
 have kq:Evo (Jh X.ok X.w.heap.size β [] (A++R) w) w w':=Evo.of_blocks (Nat.le_of_eq kg) fun b o hk=>hblk b fun hb=>by
  obtain⟨t,ht,hc⟩:=hL b hb
  exact hk.2.2.2 t (by simp[ht]) (hc o)
 have kn:∀b o,Jh X.ok X.w.heap.size β [] (A++R) w b o→Jh X.ok X.w.heap.size β [] (A'++R) w' b o:=by
  rintro b o ⟨h1,h2,h3,h4⟩
  refine⟨h1,by omega,h3,fun u hu hc=>?_⟩
  grind
 have zg:∀t∈A',∀g,t.blks g→X.mine g:=fun t ht g hg=>let⟨s,hs,hsg⟩:=yu t ht g hg; (h.own s (by simp[hs])).2 g hsg
 refine { sz:=h.sz,df:=h.df,fr:=h.fr,pn:=h.pn,tm:=h.tm,bel:=?_,dat:=(h.dat.evo kq).weak kn,obj:=by simp,own:=?_,dHH:=by simp,dHO:=by simp,dOO:=?_ }
 ·refine h.bel.trans ⟨mg,mh,uc,Nat.le_of_eq kg,fun k hk hn=>hblk k fun hb=>?_⟩
  obtain⟨t,ht,hg⟩:=hLb k hb
  exact((h.own t (by simp[ht])).2 k hg).elim (fun h=>by omega) hn
 ·intro u hu
  rcases QX.1 hu with hu | hu
  ·grind
  ·have:=h.own u (by simp[hu]:u∈A++R)
   refine⟨u.weak (u.keep this.1 (fun g hg=>hblk g fun hb=>?_) kq) kn,this.2⟩
   grind
 grind
end
end Gd
namespace Gx
open Go Go.RowKit Gd
set_option linter.unusedVariables false
set_option linter.unusedSimpArgs false
section
variable {β:Nat→Nat} {ρ ρ':Nat→Value} {ok:Ok} {w:World}
theorem Qpi{d:Nat}:∀{l:List En},Jee d l=true→∀e∈l,noS d e.av=true
 | [],_,e,he=>by cases he
 | x::l,h,e,he=>by
  simp only[Jee,QQ]at h
  rcases QJ.1 he with rfl | he
  ·exact h.1
  ·exact Qpi h.2 e he
theorem Om{d:Nat}(ha:∀i,i≠d→ρ' i=ρ i):∀{m:Bool} {x:AV} {cs:List Value},noS d x=true→cr β ρ ok w m x cs→cr β ρ' ok w m x cs
 | m,.d t x,cs,_,h=>by cases m<;>exact h
 | m,.p id path,cs,hn,h=>by cases m<;>exact h
 | m,.e id path,cs,hn,h=>by
  have:=ha id (neB (by grind [noS]))
  cases m<;>(grind [cr])
 | m,.s id,cs,hn,h=>by
  have:=ha id (neB (by grind [noS]))
  cases m<;>(grind [cr])
 | m,.m id,cs,hn,h=>by cases m<;>exact h
 | m,.b id,cs,hn,h=>by cases m<;>exact h
 | m,.w ..,cs,hn,h=>by cases m<;>exact h
 | m,.a t x,cs,_,h=>by cases m<;>exact h
 | m,.z,cs,_,h=>by cases m<;>exact h
 | m,.ns,cs,_,h=>by cases m<;>exact h
 | m,.np,cs,_,h=>by cases m<;>exact h
 | m,.nm,cs,_,h=>by cases m<;>exact h
 | m,.nf,cs,_,h=>by cases m<;>exact h
 | m,.f fn caps,cs,hn,h=>by cases m<;>exact let⟨vs,h1,h2⟩:=h; ⟨vs,h1,Om ha (by grind [noS]) h2⟩
 | m,.ag l,cs,hn,h=>by cases m<;>exact Om ha (m:=false) (x:=l) (by grind [noS]) h
 | m,.tp l,cs,hn,h=>by cases m<;>exact let⟨vs,h1,h2⟩:=h; ⟨vs,h1,Om ha (by grind [noS]) h2⟩
 | m,.nil,cs,_,h=>by cases m<;>exact h
 | true,.cons x r,cs,hn,h=>by
  simp only[noS,QQ]at hn
  exact let⟨c1,vs,h1,h2,h3⟩:=h; ⟨c1,vs,h1,Om ha hn.1 h2,Om ha hn.2 h3⟩
 | false,.cons x r,cs,hn,h=>by
  simp only[noS,QQ]at hn
  exact let⟨c1,vs,h1,h2,h3⟩:=h; ⟨c1,vs,h1,Om ha hn.1 h2,Om ha hn.2 h3⟩
theorem Qv8{d:Nat}(ha:∀i,i≠d→ρ' i=ρ i):∀{M:List (Nat×Ob)},Qa7 d M=true→Xj (Qi β ρ M) (Qi β ρ' M)
 | [],_=>.nil
 | (k,o)::l,h=>by
  have hk:k≠d∧Qa7 d l=true:=by
   cases o with
   | mapC k1 v xs hole=>cases hole<;>simp only[Qa7,QQ]at h<;>first | grind [neB] | grind [neB]
   | var t c=>simp_all [Qa7,QQ,neB]
   | _=>simp_all [Qa7,QQ,neB]
  refine .cons ?_ (Qv8 ha hk.2)
  have h2:=ha k hk.1
  cases o with
  | var t c =>
   simp only[Qa7,QQ]at h
   refine⟨fun g=>Iff.rfl,fun b o=>Iff.rfl,fun ok w hp=>?_⟩
   obtain⟨cs,hh,hc⟩:=hp
   exact⟨cs,hh,Om ha h.1.2 hc⟩
  | row e t xs=>grind [Q0,Gk.refl]
  | tail e t xs=>grind [Q0,Gk.refl]
  | map k v xs=>exact Gk.refl _
  | mapC k1 v xs hole =>
   have hv:Lf β ρ' v hole=Lf β ρ v hole:=by
    cases hole with
    | none=>rfl
    | some q =>
     simp only[Qa7,QQ]at h
     cases v with
     | sl e u=>exact ha q.2 (neB h.1.2)
     | mp k v=>rfl
   grind [Q0,Gk.refl]
end
section
variable {X:Cx} {β β':Nat→Nat} {ρ ρ':Nat→Value} {S:XS} {a:Act} {w w':World}
theorem Rel.permM{env:List En}{m m':List (Nat×Ob)}(h:Rel X β ρ ⟨env,m⟩ a w)(hp:m.Perm m'):Rel X β ρ ⟨env,m'⟩ a w:=Sb.perm h (hp.map _)
theorem Lp{l:List (Nat×Ob)}{id:Nat}{o:Ob}(h:Qe l id=some o):l.Perm ((id,o)::Jx l id):=by
 grind [Jv,List.perm_middle]
theorem Qpj{l:List (Nat×Ob)}{id d:Nat}(zk:id≠d):Qe (Jx l d) id=Qe l id:=by
 induction l with
 | nil=>rfl
 | cons q l ih =>
  simp only[Jx]
  cases hb:Nat.beq q.1 d with
  | true =>
   have:=Nat.eq_of_beq_eq_true hb
   simp only[cond_true,Qe]
   grind [Nat.beq,id,absurd,Nat.eq_of_beq_eq_true]
  | false =>
   simp only[cond_false,Qe]
   cases Nat.beq q.1 id with
   | true=>rfl
   | false=>exact ih
theorem Rel.repl{env env':List En}{A A' R:List (Nat×Ob)}(h:Rel X β ρ ⟨env,A++R⟩ a w)(mg:w'.os=w.os)(mh:w'.tape=w.tape)(uc:w'.output=w.output)(kg:w.heap.size=w'.heap.size){L:List Nat}
  (hblk:∀b,b∉L→w'.heap[b]?=w.heap[b]?) (hL:∀g∈L,∃t∈Qi β ρ A,∀o,t.cov g o)
  (yu:∀t∈Qi β' ρ' A',∀g,t.blks g→∃s∈Qi β ρ A,s.blks g) (y8:∀t∈Qi β' ρ' A',∀b o,t.cov b o→∃s∈Qi β ρ A,s.cov b o)
  (hp:Evo (okR X β ρ (A++R) w) w w'→(∀b o,okR X β ρ (A++R) w b o→Jh X.ok X.w.heap.size (fun _=>0) [] (Qi β' ρ' A'++Qi β ρ R) w' b o)→∀t∈Qi β' ρ' A',t.p (Jh X.ok X.w.heap.size (fun _=>0) [] (Qi β' ρ' A'++Qi β ρ R) w') w')
  (hd:(Qi β' ρ' A').Pairwise fun s t=>∀g,s.blks g→¬ t.blks g) (hR:Xj (Qi β ρ R) (Qi β' ρ' R))
  (he:∀e∈env',e∈env∧∀(ok:Ok) (w:World) (cs:List Value),cr β ρ ok w false e.av cs→cr β' ρ' ok w false e.av cs):Rel X β' ρ' ⟨env',A'++R⟩ a w':=by
 have h0:Sb (fun _=>0) X [] (env.map (enD β ρ a)) [] (Qi β ρ A++Qi β ρ R) a w:=by
  have:Qi β ρ (A++R)=Qi β ρ A++Qi β ρ R:=QB
  rw[←this]; exact h
 have e0:Qi β ρ (A++R)=Qi β ρ A++Qi β ρ R:=QB
 have h1:=h0.repl (A':=Qi β' ρ' A') (w':=w') mg mh uc kg hblk hL yu y8 (fun q1 q2=>hp (by grind) (by grind)) hd
 have h2:=h1.simO ((Xj.refl _).append hR)
 have e1:Qi β' ρ' (A'++R)=Qi β' ρ' A'++Qi β' ρ' R:=QB
 refine Rel.ofSb h2 e1.symm fun e hm=>?_
 obtain⟨q1,q2⟩:=he e hm
 have hD:=Yc.1 h2.dat _ (QZ.2 ⟨e,q1,rfl⟩)
 rw[←e1]at hD
 exact⟨fun hc=>let⟨cs,r1,r2⟩:=hD.1 hc; ⟨cs,r1,q2 _ _ _ r2⟩,hD.2⟩
theorem Qpk{d:Nat}:∀{l m:List (Nat×Ob)},Qa7 d l=true→Qa7 d m=true→Qa7 d (l++m)=true
 | [],m,_,h=>h
 | (k,o)::l,m,h,hm=>by
  cases o with
  | mapC k1 v xs hole=>cases hole<;>simp only[Qa7,QQ,QA]at h ⊢<;>exact⟨h.1,Qpk h.2 hm⟩
  | _=>simp only[Qa7,QQ,QA]at h ⊢; exact⟨h.1,Qpk h.2 hm⟩
theorem Qte{id:Nat}(h:Qfw S id=true):(∀e∈S.flat.env,noS id e.av=true)∧Qa7 id (Jx S.mem id++S.fixM)=true∧Yd S.prot id=false:=by
 simp only[Qfw,QQ]at h
 refine⟨fun e he=>?_,Qpk h.1.1.2 h.1.2,by simpa using h.2⟩
 rcases QX.1 he with he | he
 ·grind [Qpi]
 grind [Qpi]
theorem Q66(h:Rel X β ρ S.flat a w){id:Nat}{o:Ob}(hm:Qe S.mem id=some o):Rel X β ρ ⟨S.flat.env,[(id,o)]++(Jx S.mem id++S.fixM)⟩ a w:=by
 have:=Rel.permM (env:=S.flat.env) (m:=S.flat.mem) (m':=((id,o)::Jx S.mem id)++S.fixM) h ((Lp hm).append_right _)
 exact this
theorem Qtf{id:Nat}{o:Ob}(hm:Qe S.mem id=some o){b f:Nat}(kp:okR X β ρ S.flat.mem w b f):okR X β ρ ([(id,o)]++(Jx S.mem id++S.fixM)) w b f :=
 ⟨kp.1,kp.2.1,kp.2.2.1,fun t ht=>kp.2.2.2 t (by
   have rj:(Qi β ρ S.flat.mem).Perm (Qi β ρ ([(id,o)]++(Jx S.mem id++S.fixM))):=List.Perm.map _ (by
    have:=(Lp hm).append_right S.fixM
    exact this)
   grind)⟩
theorem Qpl{α:Type}{f:Nat→α}{d:Nat}{v:α}:∀i,i≠d→upd f d v i=f i:=fun i h=>Bt f v h
section
variable {c:CK} {x:c.ty.De} {sv:Value} {ok:Ok} {d:Nat}
theorem Jeo(hp:(Qa4 c sv x).p ok w)(hβ:β' d=(Z5 sv).getD 0)(hρ:ρ' d=sv)(b:Nat):(Q0 β' ρ' d (obC c x)).blks b↔Z5 sv=some b:=by
 cases c with
 | sl e u =>
  obtain⟨_,cs,h2,_⟩:=hp
  grind [obC,Q0,ml,Qbm]
 | mp k v =>
  obtain⟨g,rfl,_⟩:=hp
  simp only[obC,Q0,Qhc,hβ,Z5,XE,Option.some.injEq]
  exact eq_comm
theorem Q67{b o:Nat}:(Q0 β ρ d (obC c x)).cov b o↔(Q0 β ρ d (obC c x)).blks b:=by
 cases c<;>exact Iff.rfl
theorem Jpg(hβ:β' d=(Z5 sv).getD 0)(hρ:ρ' d=sv)(hp:(Qa4 c sv x).p ok w):(Q0 β' ρ' d (obC c x)).p ok w:=by
 cases c with
 | sl e u=>simp only[obC,Q0,hρ]; exact hp
 | mp k v =>
  obtain⟨g,rfl,h⟩:=hp
  have:β' d=g:=hβ
  grind [obC,Q0]
def Qzf(β:Nat→Nat)(ρ:Nat→Value)(c:CK)(id:Nat):Value:=match c with
 | .sl _ _=>ρ id
 | .mp _ _=>.map (some (β id))
theorem Q68(h:(Q0 β ρ d (obC c x)).p ok w):(Qa4 c (Qzf β ρ c d) x).p ok w:=by
 cases c with
 | sl e u=>exact h
 | mp k v=>exact⟨_,rfl,h⟩
theorem Qpm(h:(Q0 β ρ d (obC c x)).p ok w)(b:Nat):(Q0 β ρ d (obC c x)).blks b↔Z5 (Qzf β ρ c d)=some b:=by
 cases c with
 | sl e u =>
  obtain⟨_,cs,h2,_⟩:=h
  exact Qbm h2
 | mp k v=>simp only[obC,Q0,Qhc,Qzf,Z5,Option.some.injEq]; exact eq_comm
theorem Qpn{o:Option Ob}(h:Qlm c o=some x):o=some (obC c x):=by
 unfold Qlm Jkz at h
 cases c with
 | sl e u =>
  split at h
  ·rename_i v hv
   split at hv
   ·rename_i e1 u1 e2 u2 ys h1
    injection h1 with h1 h2
    obtain⟨hb,hv⟩:=bvT hv
    injection hv with hv
    subst hv
    have h3:=Nat.eq_of_beq_eq_true hb
    obtain⟨q,hx⟩:=Ty.cast_ok h
    cases q
    subst hx; subst h1; subst h3; rfl
   ·grind
   ·cases hv
  ·cases h
 | mp k v =>
  split at h
  ·rename_i v0 hv
   split at hv
   ·grind
   ·rename_i k1 u1 k2 u2 ys h1
    injection hv with hv
    subst hv
    obtain⟨q,hx⟩:=Ty.cast_ok h
    cases q
    subst hx; rfl
   ·cases hv
  ·cases h
end
theorem Jjg{τ:Type}{r:RT τ}{e:Nat}{v:Value}{xs:List τ}{ok ok':Ok}(h:(ml v e r xs).p ok w)(hk:∀b o,ok b o→ok' b o)(kb:∀b o,v.ownBlock=some b→b<w.heap.size→ok' b o):isV (rSl r) ok' w xs v:=by
 obtain⟨hl,cs,zl,hr⟩:=h
 rcases zl.2 with⟨rfl,h0⟩ | ⟨g,cap,cur,fz,hv,_,hh,ya,hle,yw,zx,xz⟩
 ·grind [K2,List.length_eq_zero_iff,Jkv]
 ·have qy:=hv
  rw[hl]at qy
  refine Zu.2 ⟨_,xs.length,cap,qy,rfl,by rw[hl]at hle; omega,fun h0=>⟨g,0,rfl,fun i x hx=>?_⟩⟩
  have hi:=(List.getElem?_eq_some_iff.1 hx).1
  have zr:=Fh hr hx
  refine⟨_,r.weak zr hk,fun j u hu=>?_⟩
  have hj:j<r.size:=by have:=(List.getElem?_eq_some_iff.1 hu).1; rw[r.len zr]at this; exact this
  have qo:v.ownBlock=some g:=by rw[hv]; rfl
  rw[QV]
  grind [Y9,Qsz,List.getElem?_take_of_lt]
theorem Jep{τ:Type}{r:RT τ}{ok:Ok}{xs:List τ}{v u:Value}(hz:zal v u)(h:isV (rSl r) ok w xs u):isV (rSl r) ok w xs v:=by
 rcases hz with rfl | ⟨rfl,A,rfl⟩
 ·exact h
 ·obtain⟨A',n,c,h1,hl,hc,_⟩:=Zu.1 h
  injection h1 with _ h2 h3
  subst h2
  exact Zu.2 ⟨A,0,0,rfl,hl,QY _,fun h0=>by omega⟩
theorem Qtg{κ:Type}{rk:RT κ}{e:TypeId}{u:Ty}{ok ok':Ok}:∀{xs:List (κ×List u.De)} {ys:List (κ×Value)} {vs:List Value} {es:List MapEntry},Bp (.sl e u) none undef ok w xs ys vs→Dr rk Jiu ok' w ys es→(∀b o,ok b o→ok' b o) →
  (∀v∈vs,∀b o,Z5 v=some b→b<w.heap.size→ok' b o)→Dr rk (rt (.sl u)) ok' w xs es
 | [],[],[],es,_,hm,_,_=>hm
 | x::xs,y::ys,v::vs,es,⟨h1,h2,h3⟩,⟨en,es',he,m1,⟨cs,⟨zx,_⟩,m2⟩,m3⟩,hk,ho=>by
  refine⟨en,es',he,by rw[h1]; exact m1,?_,Qtg h3 m3 hk fun v hv=>ho v (.tail _ hv)⟩
  have hv:en.val=y.2:=by rw[m2,zx]; rfl
  rw[hv]
  rcases h2 with⟨q,_⟩ | ⟨_,hz,hp⟩
  ·cases q
  ·exact Jep hz (Jjg hp hk fun b o hb hlt=>ho v (.head _) b o (by obtain⟨_,cs,q,_⟩:=hp; grind [Qbm]) hlt)
 | [],[],_::_,_,h,_,_,_=>h.elim
 | [],_::_,_,_,h,_,_,_=>h.elim
 | _::_,[],_,_,h,_,_,_=>h.elim
 | _::_,_::_,[],_,h,_,_,_=>h.elim
theorem Qzg{id:Nat}{vs:List Value}:Sn (upd ρ id (.tuple vs.toArray) id)=vs:=by rw[Je]; simp[Sn]
theorem Jph{t s:TL}(h:∀g,t.blks g→¬ s.blks g):[t,s].Pairwise fun s t=>∀g,s.blks g→¬ t.blks g :=
 List.pairwise_cons.2 ⟨fun u hu=>by grind,List.pairwise_cons.2 ⟨by simp,.nil⟩⟩
theorem Qpo{d id:Nat}:∀{l m:List (Nat×Ob)},J7 d (l++m)=true→J7 d (Jx l id++m)=true
 | [],m,h=>h
 | (k0,o)::l,m,h=>by
  have hl:J7 d (l++m)=true:=by
   cases o with
   | mapC k1 v xs hole=>cases hole<;>simp only[QA,J7,QQ]at h<;>exact h.2
   | _=>simp_all [QA,J7,QQ]
  simp only[Jx]
  cases hb:Nat.beq k0 id with
  | true=>exact hl
  | false =>
   have ih:=Qpo (id:=id) hl
   simp only[cond_false]
   cases o with
   | mapC k1 v xs hole=>cases hole<;>simp only[QA,J7,QQ]at h ⊢<;>exact⟨h.1,ih⟩
   | _=>simp_all [QA,J7,QQ]
theorem Xj.trans:∀{l1 l2 l3:List TL},Xj l1 l2→Xj l2 l3→Xj l1 l3:=by
 intro l1 l2 l3 h1
 induction h1 generalizing l3 with
 | nil=>grind
 | cons h r ih =>
  intro h2
  cases h2 with
  | cons k q=>exact .cons ⟨fun g=>(k.1 g).trans (h.1 g),fun b o=>(k.2.1 b o).trans (h.2.1 b o),fun ok w hp=>k.2.2 ok w (h.2.2 ok w hp)⟩ (ih q)
theorem Qth(h:Rel X β ρ S.flat a w){id d:Nat}{kk:Ty}{c:CK}{xs:List (kk.De×c.ty.De)}(hm:Qe S.mem id=some (.mapC kk c xs none))(hq:Qfw S id=true)(hb:okB S d=true){key:kk.De}
  {ys:List (kk.De×Value)} {vs':List Value} {sv:Value} {x:c.ty.De} {es:Array MapEntry} {clock:Nat} (hg:w.heap[β id]?=some (.map es clock)) (tq:Dr (rt kk) Jiu (okR X β ρ S.flat.mem w) w ys es.toList)
  (zj:(es.toList.map MapEntry.born).Nodup∧∀e∈es.toList,e.born<clock) (yj:Bp c (some key) sv (okR X β ρ S.flat.mem w) w xs ys vs') (yf:(xs.map Prod.fst).Nodup) (uh:Qhd vs') (rl:∀v∈vs',Z5 v≠some (β id)) (um:key∉xs.map Prod.fst→sv=.slice none 0 0)
  (vd:∀s∈vs',s=undef∨s∈Sn (ρ id)) (ta:sv=.slice none 0 0∨sv∈Sn (ρ id)) (jt:∀s∈vs',∀g,Z5 s=some g→Z5 sv≠some g) (hp:(Qa4 c sv x).p (okR X β ρ S.flat.mem w) w) (hsg:Z5 sv≠some (β id)) :
  ∃β' ρ',Yx S ((S.swap id (.mapC kk c xs (some (key,d)))).born d (obC c x)) β β' ρ ρ'∧Rel X β' ρ' ((S.swap id (.mapC kk c xs (some (key,d)))).born d (obC c x)).flat a w:=by
 obtain⟨q1,q2,q3⟩:=Qte hq
 obtain⟨b1,b2,b3⟩:=H3 hb
 have hF:=Q66 h hm
 have hid:id≠d:=(Bu b1 (id,.mapC kk c xs none) (List.mem_append_left _ ((Lp hm).mem_iff.2 (.head _)))).1
 let β':=upd β d ((Z5 sv).getD 0)
 let ρ':=upd (upd ρ d sv) id (.tuple vs'.toArray)
 have hβd:β' d=(Z5 sv).getD 0:=Je _ _ _
 have hβo:∀i,i≠d→β' i=β i:=fun i h1=>Bt _ _ h1
 have hρid:Sn (ρ' id)=vs':=by grind [Je,Sn]
 have hρd:ρ' d=sv:=by grind [Bt,id,Je]
 have hρo:∀i,i≠id→i≠d→ρ' i=ρ i:=fun i h1 h2=>by grind [Bt]
 have hρo2:∀i,i≠d→ρ' i=upd ρ id (.tuple vs'.toArray) i:=fun i hi=>by
  grind [upd,id]
 have yg:Lf β' ρ' c (some (key,d))=sv:=by
  cases c with
  | sl e u=>exact hρd
  | mp k v =>
   obtain⟨g,hg,_⟩:=hp
   subst hg
   show Value.map (some (β' d))=_
   rw[hβd]; rfl
 have hblk:=Jeo (β':=β') (ρ':=ρ') (d:=d) hp hβd hρd
 have fi:∀g,Z5 sv=some g→(Q0 β ρ id (.mapC kk c xs none)).blks g:=fun g hg=>by
  rcases ta with rfl | ta
  ·cases hg
  ·exact .inr ⟨sv,ta,hg⟩
 have sq:∀g,(g=β' id∨∃v∈Sn (ρ' id),Z5 v=some g)→(Q0 β ρ id (.mapC kk c xs none)).blks g:=fun g hg=>by
  rw[hβo id hid,hρid]at hg
  rcases hg with hg | ⟨s,hs,hg⟩
  ·exact .inl hg
  ·rcases vd s hs with rfl | hs
   ·cases hg
   ·exact .inr ⟨s,hs,hg⟩
 refine⟨β',ρ',⟨rfl,rfl,rfl,fun i hi=>⟨hβo i fun e=>?_,hρo i (fun e=>?_) (fun e=>?_)⟩⟩,?_⟩
 ·grind [Z6]
 ·grind [Z6]
 ·grind [Z6]
 have hfr:=Rel.repl (β':=β') (ρ':=ρ') (env':=Vq d S.env++S.fix) (A':=[(d,obC c x),(id,.mapC kk c xs (some (key,d)))]) hF rfl rfl rfl rfl (L:=[]) (fun _ _=>rfl) (by simp)
  (fun t ht g hg=>⟨_,.head _,?_⟩) (fun t ht b o hc=>⟨_,.head _,?_⟩) (fun _ kn t ht=>?_) ?_ ?_ ?_
 ·exact hfr
 ·simp only[Qi,QP,ZY,QJ,JE,or_false]at ht
  rcases ht with rfl | rfl
  ·grind
  ·exact sq g hg
 ·simp only[Qi,QP,ZY,QJ,JE,or_false]at ht
  rcases ht with rfl | rfl
  ·exact fi b ((hblk b).1 (Q67.1 hc))
  ·exact sq b hc
 ·have wa:=fun b o kp=>kn b o (Qtf hm kp)
  simp only[Qi,QP,ZY,QJ,JE,or_false]at ht
  rcases ht with rfl | rfl
  ·exact Jpg hβd hρd ((Qa4 c sv x).weak hp wa)
  ·refine⟨ys,⟨es,clock,by rw[hβo id hid]; exact hg,Gi tq wa,zj⟩,?_,yf,?_,?_,?_⟩
   ·rw[yg,hρid]; exact P0 yj wa
   ·rw[hρid]; exact uh
   ·rw[hρid,hβo id hid]; exact rl
   ·intro k0 qj hn
    injection qj with qj
    grind
 ·refine Jph fun g hg y9=>?_
  have hg1:=(hblk g).1 hg
  have hg2':g=β' id∨∃v∈Sn (ρ' id),Z5 v=some g:=y9
  rw[hβo id hid,hρid]at hg2'
  grind
 ·exact Xj.trans (Qv8 Qpl q2) (Su (d:=d) (fun i hi=>⟨hβo i hi,hρo2 i hi⟩) (Qpo b1))
 ·intro e he
  have ke:e∈S.flat.env∧Uz d e.av=true:=by
   rcases QX.1 he with he | he
   ·obtain⟨m1,m2⟩:=Qfz he
    exact⟨List.mem_append_left _ m1,m2⟩
   ·exact⟨List.mem_append_right _ he,Qph b2 e he⟩
  refine⟨ke.1,fun ok w cs hc=>?_⟩
  exact Gl (β':=β') (ρ':=ρ') (d:=d) (fun i hi=>⟨hβo i hi,hρo2 i hi⟩) ke.2 (Om (ρ':=upd ρ id (.tuple vs'.toArray)) Qpl (q1 e ke.1) hc)
theorem Qzh{R:Type}{k:XS→Option R}{r:R}(h:Rel X β ρ S.flat a w){src:Src}{id d:Nat}(ht:Qzb S src id d k=some r):∃S' β' ρ',Yx S S' β β' ρ ρ'∧Rel X β' ρ' S'.flat a w∧k S'=some r:=by
 unfold Qzb at ht
 split at ht
 ·rename_i kk c xs hm
  split at ht
  ·split at ht
   ·rename_i key yi
    obtain⟨hb,ht⟩:=bvT ht
    simp only[QQ]at hb
    obtain⟨⟨hk,hq⟩,hb⟩:=hb
    obtain⟨⟨ys,⟨es,clock,hg,tq,zj⟩,yj,yf,uh,rl,_⟩,_⟩:=h.ob (Q4 (m:=S.fixM) hm)
    have yj:Bp c none undef (okR X β ρ S.flat.mem w) w xs ys (Sn (ρ id)):=yj
    cases c with
    | sl e u =>
     have fj:∃vs' sv x,(Qw key xs).getD []=x∧Bp (.sl e u) (some key) sv (okR X β ρ S.flat.mem w) w xs ys vs'∧(∀s∈vs',s=undef∨s∈Sn (ρ id))∧(sv=.slice none 0 0∨sv∈Sn (ρ id))∧Qhd vs' ∧
       (∀s∈vs',∀g,Z5 s=some g→Z5 sv≠some g)∧(Qa4 (.sl e u) sv x).p (okR X β ρ S.flat.mem w) w∧(key∉xs.map Prod.fst→sv=.slice none 0 0):=by
      rcases Qjp hk yj yf uh with⟨r1,r2⟩ | ⟨vs',sv,x,r1,r2,r3,r4,r5,r6,r7⟩
      ·exact⟨_,.slice none 0 0,[],by rw[r1]; rfl,r2 _,fun s hs=>.inr hs,.inl rfl,uh,(fun s _ g _ e'=>by cases e'),Q64 rfl _ _,fun _=>rfl⟩
      grind [Qjm]
     obtain⟨vs',sv,x,f1,f2,f3,f4,f5,f6,f7,f8⟩:=fj
     obtain⟨β',ρ',g1,g2⟩:=Qth h hm hq hb hg tq zj f2 yf f5 (fun v hv=>by
      rcases f3 v hv with rfl | hv
      ·intro e'; cases e'
      ·exact rl v hv) f8 f3 f4 f6 f7 (by
      rcases f4 with rfl | f4
      ·intro e'; cases e'
      ·exact rl sv f4)
     have ht:k ((S.swap id (.mapC kk (.sl e u) xs (some (key,d)))).born d (.row e u ((Qw key xs).getD [])))=some r:=ht
     rw[f1]at ht
     exact⟨_,β',ρ',g1,g2,ht⟩
    | mp k2 v2 =>
     have ht:(match Qw key xs with
      | some ys=>k ((S.swap id (.mapC kk (.mp k2 v2) xs (some (key,d)))).born d (.map k2 v2 ys))
      | none=>k S)=some r:=ht
     rcases Qjp hk yj yf uh with⟨r1,r2⟩ | ⟨vs',sv,x,r1,r2,r3,r4,r5,r6,r7⟩
     ·rw[r1]at ht
      exact⟨S,β,ρ,⟨rfl,rfl,rfl,agP.refl _ _ _⟩,h,ht⟩
     ·rw[r1]at ht
      obtain⟨β',ρ',g1,g2⟩:=Qth h hm hq hb hg tq zj r2 yf r5 (fun v hv=>by
       rcases r4 v hv with rfl | hv
       ·intro e'; cases e'
       ·exact rl v hv) (fun hn=>by rw[Qjm hk hn]at r1; cases r1) r4 (.inr r3) r6 r7 (rl sv r3)
      exact⟨_,β',ρ',g1,g2,ht⟩
   ·cases ht
  ·cases ht
 ·cases ht
theorem Qjy(h:Rel X β ρ S.flat a w){id h1:Nat}{o o1:Ob}(hm:Qe S.mem id=some o)(uo:Qe S.mem h1=some o1)(zk:id≠h1) :
  Rel X β ρ ⟨S.flat.env,[(h1,o1),(id,o)]++(Jx (Jx S.mem h1) id++S.fixM)⟩ a w∧(∀{b f:Nat},okR X β ρ S.flat.mem w b f→okR X β ρ ([(h1,o1),(id,o)]++(Jx (Jx S.mem h1) id++S.fixM)) w b f) ∧
  ∀g,(Q0 β ρ h1 o1).blks g→¬ (Q0 β ρ id o).blks g:=by
 have tn:Qe (Jx S.mem h1) id=some o:=by rw[Qpj zk]; exact hm
 have rj:S.flat.mem.Perm ([(h1,o1),(id,o)]++(Jx (Jx S.mem h1) id++S.fixM)):=((Lp uo).append_right S.fixM).trans (((Lp tn).append_right S.fixM).cons (h1,o1))
 have hF:=Rel.permM (env:=S.flat.env) (m:=S.flat.mem) h rj
 refine⟨hF,fun kp=>⟨kp.1,kp.2.1,kp.2.2.1,fun t ht=>kp.2.2.2 t ((rj.map _).mem_iff.2 ht)⟩,?_⟩
 have hOO:(Qi β ρ ([(h1,o1),(id,o)]++(Jx (Jx S.mem h1) id++S.fixM))).Pairwise fun s t=>∀g,s.blks g→¬ t.blks g:=hF.dOO
 grind
theorem Qzi(h:Rel X β ρ S.flat a w){id h1:Nat}{kk:Ty}{c:CK}{xs:List (kk.De×c.ty.De)}{hole:Option (kk.De×Nat)}{x0:c.ty.De}(hm:Qe S.mem id=some (.mapC kk c xs hole))(uo:Qe S.mem h1=some (obC c x0))(zk:id≠h1)
  (hq:Qfw { S with mem:=Jx S.mem h1 } id=true) {xs':List (kk.De×c.ty.De)} {vs':List Value} (vd:∀s∈vs',s=Qzf β ρ c h1∨s∈Sn (ρ id)) (mg:w'.os=w.os) (mh:w'.tape=w.tape) (uc:w'.output=w.output) (kg:w.heap.size=w'.heap.size) (hblk:∀b,b≠β id→w'.heap[b]?=w.heap[b]?)
  (hp:∀ok',Evo (okR X β ρ S.flat.mem w) w w'→(∀b o,okR X β ρ S.flat.mem w b o→ok' b o)→Jdx (β id) (rt kk) c vs' xs' none undef ok' w') :
  Yx S (XS.swap { S with mem:=Jx S.mem h1 } id (.mapC kk c xs' none)) β β ρ (upd ρ id (.tuple vs'.toArray))∧Rel X β (upd ρ id (.tuple vs'.toArray)) (XS.swap { S with mem:=Jx S.mem h1 } id (.mapC kk c xs' none)).flat a w':=by
 obtain⟨hF,fk,tc⟩:=Qjy h hm uo zk
 obtain⟨q1,q2,q3⟩:=Qte hq
 obtain⟨ll,_⟩:=h.ob (Q4 (m:=S.fixM) uo)
 refine⟨⟨rfl,rfl,rfl,Gm q3 fun i hi=>⟨rfl,Qpl i hi⟩⟩,?_⟩
 have wh:∀g,(g=β id∨∃v∈Sn (upd ρ id (.tuple vs'.toArray) id),Z5 v=some g)→∃s∈Qi β ρ [(h1,obC c x0),(id,.mapC kk c xs hole)],s.blks g∧∀o,s.cov g o:=by
  intro g hg
  rw[Qzg]at hg
  rcases hg with hg | ⟨s,hs,hg⟩
  ·exact⟨_,.tail _ (.head _),.inl hg,fun _=>.inl hg⟩
  ·rcases vd s hs with rfl | hs
   ·have:=(Qpm ll g).2 hg
    grind [Q67]
   ·exact⟨_,.tail _ (.head _),.inr ⟨s,hs,hg⟩,fun _=>.inr ⟨s,hs,hg⟩⟩
 refine Rel.repl (a:=a) (w':=w') (ρ':=upd ρ id (.tuple vs'.toArray)) (env':=S.flat.env) (A':=[(id,.mapC kk c xs' none)]) hF mg mh uc kg (L:=[β id]) (fun b hb=>hblk b (by simpa using hb)) ?_ ?_ ?_ ?_ (by simp) (Qv8 Qpl q2) fun e he=>⟨he,fun ok w cs hc=>Om Qpl (q1 e he) hc⟩
 ·intro g yb
  have:g=β id:=by simpa using yb
  exact⟨Q0 β ρ id (.mapC kk c xs hole),by simp[Qi],fun o=>.inl this⟩
 ·intro t ht g yb
  have:t=Q0 β (upd ρ id (.tuple vs'.toArray)) id (.mapC kk c xs' none):=by grind
  subst this
  obtain⟨s,s1,s2,_⟩:=wh g yb
  grind
 ·intro t ht b o hc
  have:t=Q0 β (upd ρ id (.tuple vs'.toArray)) id (.mapC kk c xs' none):=by grind
  subst this
  obtain⟨s,s1,_,s2⟩:=wh b hc
  grind
 ·intro kq kn t ht
  have:t=Q0 β (upd ρ id (.tuple vs'.toArray)) id (.mapC kk c xs' none):=by grind
  subst this
  have:=hp _ (kq.mono fun b o kp=>fk kp) (fun b o kp=>kn b o (fk kp))
  show Jdx _ _ _ (Sn (upd ρ id (.tuple vs'.toArray) id)) _ _ _ _ _
  rw[Qzg]; exact this
theorem Qti{R:Type}{k:XS→Option R}{r:R}(h:Rel X β ρ S.flat a w){id:Nat}(ht:Qo8 S id k=some r):∃S' ρ',Yx S S' β β ρ ρ'∧Rel X β ρ' S'.flat a w∧k S'=some r:=by
 unfold Qo8 at ht
 split at ht
 ·rename_i kk c xs q hm
  split at ht
  ·rename_i ys0 hy
   obtain⟨hb,ht⟩:=bvT ht
   simp only[QQ]at hb
   obtain⟨hb,hmp0⟩:=hb
   cases c with
   | sl e u=>cases hmp0
   | mp k2 v2 =>
   have uo:=Qpn hy
   have zk:id≠q.2:=fun e=>by rw[←e,hm]at uo; cases uo
   obtain⟨⟨ys,⟨es,clock,hg,tq,zj⟩,yj,yf,uh,rl,um⟩,_⟩:=h.ob (Q4 (m:=S.fixM) hm)
   obtain⟨ll,_⟩:=h.ob (Q4 (m:=S.fixM) uo)
   have tc:=(Qjy h hm uo zk).2.2
   have vd:q.1∈xs.map Prod.fst:=by
    apply Classical.byContradiction
    intro hn
    have:=um q.1 rfl hn
    cases this
   have wi:∀g,Z5 (Qzf β ρ (.mp k2 v2) q.2)=some g→¬ (Q0 β ρ id (.mapC kk (.mp k2 v2) xs (some q))).blks g:=fun g hg=>tc g ((Qpm ll g).2 hg)
   obtain⟨vs',r1,r2,r3⟩:=Qo2 (c:=.mp k2 v2) hb.2 (Q68 ll) (show Bp (.mp k2 v2) (some q.1) (Qzf β ρ (.mp k2 v2) q.2) _ w xs ys _ from yj) vd yf uh (fun s hs g hg y9=>wi g y9 (.inr ⟨s,hs,hg⟩))
   obtain⟨g1,g2⟩:=Qzi (w':=w) h hm uo zk hb.1 r3 rfl rfl rfl rfl (fun _ _=>rfl) (xs':=Yu q.1 ys0 xs) fun ok' _ kn =>
    ⟨ys,⟨es,clock,hg,Gi tq kn,zj⟩,P0 r1 kn,(Qdv hb.2 _ _ yf).1,r2,fun v hv e=>by
     rcases r3 v hv with rfl | hv
     ·exact wi _ e (.inl rfl)
     ·exact rl v hv e,fun _ e=>by cases e⟩
   grind
  ·cases ht
 ·exact⟨S,ρ,⟨rfl,rfl,rfl,agP.refl _ _ _⟩,h,ht⟩
 ·cases ht
theorem Qzj{R:Type}{k:XS→Option R}{r:R}(h:Rel X β ρ S.flat a w){id:Nat}(ht:Qza S id k=some r):∃S',Yx S S' β β ρ ρ∧Rel X β ρ S'.flat a w∧k S'=some r:=by
 unfold Qza at ht
 split at ht
 ·rename_i kk e u xs hm
  refine⟨S.swap id (.map kk (.sl u) xs),⟨rfl,rfl,rfl,agP.refl _ _ _⟩,?_,ht⟩
  have hF:=Q66 h hm
  obtain⟨⟨ys,⟨es,clock,hg,tq,zj⟩,yj,yf,_,rl,_⟩,zg⟩:=h.ob (Q4 (m:=S.fixM) hm)
  have yj:Bp (.sl e u) none undef (okR X β ρ S.flat.mem w) w xs ys (Sn (ρ id)):=yj
  have hOO:(Qi β ρ ([(id,.mapC kk (.sl e u) xs none)]++(Jx S.mem id++S.fixM))).Pairwise fun s t=>∀g,s.blks g→¬ t.blks g:=hF.dOO
  have tc:=(List.pairwise_cons.1 hOO).1
  refine Rel.repl (A':=[(id,.map kk (.sl u) xs)]) hF rfl rfl rfl rfl (L:=[]) (fun _ _=>rfl) (by simp) ?_ ?_ ?_ (by simp) (Xj.refl _) fun e he=>⟨he,fun ok w cs hc=>hc⟩
  ·intro t ht g hg
   have:t=Q0 β ρ id (.map kk (.sl u) xs):=by grind
   subst this
   exact⟨_,.head _,.inl hg⟩
  ·intro t ht b o hc
   have:t=Q0 β ρ id (.map kk (.sl u) xs):=by grind
   subst this
   exact⟨_,.head _,.inl hc⟩
  ·intro _ kn t ht
   have:t=Q0 β ρ id (.map kk (.sl u) xs):=by grind
   subst this
   have wa:=fun b o kp=>kn b o (Qtf hm kp)
   refine⟨es,clock,hg,?_,yf,zj⟩
   refine Qtg yj (Gi tq wa) wa fun v hv b o hb hlt=>?_
   refine⟨X.mine_ok (zg b (.inr ⟨v,hv,hb⟩)) o,hlt,by simp,fun t ht hc=>?_⟩
   rcases QX.1 ht with ht | ht
   ·have:t=Q0 β ρ id (.map kk (.sl u) xs):=by grind
    subst this
    have y8:b=β id:=hc
    grind
   ·exact tc t ht b (.inr ⟨v,hv,hb⟩) (t.cb hc)
 ·cases ht
end
section
variable {P:Program} {Y:TX} {X:Cx} {S:XS} {β β':Nat→Nat} {ρ ρ':Nat→Value} {a a':Act} {w w':World} {n:Nat}
variable {ops:Array Oper} {Q:Exit→Act→World→Prop} {rest:List Oper} {R:Type} {k:XS→Option R} {r:R}
theorem Jnw(hT:Q6 P Y.T)(h:Rel X β ρ S.flat a w){o:Oper}(hw:Region.wanted o (yielded ops a.tmps)=true){t:TypeId}{m ky x:Operand}(ko:o.op=.mapUpdate t m ky x)(hd:o.dst=none){te tk:TE}{kt et:TypeId}(ku:Qh Y.T t=some te)(kr:te.d=.map kt et)(xz:Qh Y.T kt=some tk)
  {id:Nat} {kv xv:AV} {kk:Ty} {c:CK} {xs:List (kk.De×c.ty.De)} {hole:Option (kk.De×Nat)} {key:kk.De} (hm:S.ev [] m=some (.m id)) (ux:S.ev [] ky=some kv) (hx:S.ev [] x=some xv) (ug:Qe S.mem id=some (.mapC kk c xs hole)) (yi:asD [] kv kk=some key)
  (ve:Y5 Y.T kk tk.d=true) (qk:(kk.agg==kv.isAgg)=true) (hs:Ji9 S id kk c xs hole key xv k=some r) (H:KOk P ops Q rest X S β ρ k r):wpList P ops Q (o::rest) a w:=by
 unfold Ji9 at hs
 split at hs
 ·rename_i h1 hid
  split at hs
  ·rename_i x0 n0
   obtain⟨hb,hs⟩:=bvT hs
   simp only[QQ]at hb
   have zk:id≠h1:=fun e=>by rw[e]at hb; simp at hb
   obtain⟨_,rm,hk⟩:=Yj hs
   have jw:=Vp ve
   have fl:∀kh,Qys hole=some kh→kh=key:=by
    unfold chk at rm
    have rm:=(bvT rm).1
    intro kh ab
    cases hole with
    | none=>cases ab
    | some q =>
     injection ab with ab
     subst ab
     cases c with
     | sl e u=>grind [K3]
     | mp k v=>cases rm
   have uo:=Qpn n0
   obtain⟨c1,e1,e2⟩:=h.ev (Qd a) hm
   have e2':c1=[.map (some (β id))]:=e2
   subst e2'
   have e1':a.eval m=.map (some (β id)):=e1
   obtain⟨c3,h3,h4⟩:=h.ev (Qd a) ux
   have mu:isV (rt kk) (okR X β ρ S.flat.mem w) w key (a.eval ky):=by
    refine⟨c3,K4 (M:=[]) (β:=β) (ρ:=ρ) (by simp[Qe]) yi h4,?_⟩
    rw[h3]; simp only[AV.val,RT.val,Ld,bEq qk]; cases kv.isAgg<;>rfl
   have pd:=Cq jw mu
   obtain⟨c5,h5,h6⟩:=h.ev (Qd a) hx
   obtain⟨ll,_⟩:=h.ob (Q4 (m:=S.fixM) uo)
   have hnv:zal (a.eval x) (Qzf β ρ c h1)∧(a.eval x).oneCell'=true:=by
    cases c with
    | sl e u =>
     cases xv<;>simp only[idC]at hid<;>first | (cases hid; done) | skip
     injection hid with hid
     subst hid
     obtain⟨⟨v0,rfl,hz⟩,ym⟩:=h6
     have:a.eval x=v0:=h5
     rw[this]
     obtain⟨A,n,c,rfl⟩:=hz.form ym
     exact⟨hz,rfl⟩
    | mp k v =>
     cases xv<;>simp only[idC]at hid<;>first | (cases hid; done) | skip
     injection hid with hid
     subst hid
     have h6':c5=[.map (some (β _))]:=h6
     subst h6'
     have:a.eval x=.map (some (β _)):=h5
     rw[this]; exact⟨.inl rfl,rfl⟩
   obtain⟨⟨ys,⟨es,clock,hg,tq,zj⟩,yj,yf,uh,rl,um⟩,_⟩:=h.ob (Q4 (m:=S.fixM) ug)
   have tc:=(Qjy h ug uo zk).2.2
   have wi:∀g,Z5 (Qzf β ρ c h1)=some g→¬ (Q0 β ρ id (.mapC kk c xs hole)).blks g:=fun g hg=>tc g ((Qpm ll g).2 hg)
   obtain⟨vs',r1,r2,r3⟩:=Qy6 jw hnv.1 (Q68 ll) fl yj yf uh (fun s hs g hg y9=>wi g y9 (.inr ⟨s,hs,hg⟩))
   obtain⟨es',clock',ka,xe,uk⟩:=Qe1 hT ku kr xz ve hg tq zj key (s:=Jiu) (y:=a.eval x) (v:=a.eval x) ⟨[a.eval x],⟨rfl,hnv.2⟩,rfl⟩
   have yd:(execOp a.eval o).run P w=.ok .skip { w with heap:=w.heap.setIfInBounds (β id) (.map es' clock') }:=by
    unfold execOp
    rw[ko]
    simp only[e1',pd]
    simp[ka]
   refine Jr hw ?_
   unfold Oper.wp
   rw[yd]
   show wpList P ops Q rest (a.put o.dst undef) _
   rw[hd]
   have fo:∀b,b≠β id→(w.heap.setIfInBounds (β id) (.map es' clock'))[b]?=w.heap[b]?:=fun b hb=>(MapKept.heap_set hg).2 b hb
   obtain⟨g1,g2⟩:=Qzi (w':={ w with heap:=w.heap.setIfInBounds (β id) (.map es' clock') }) h ug uo zk hb.1 r3 rfl rfl rfl (by simp) fo (xs':=Yu key x0 xs) fun ok' kq kn =>
    ⟨Yu key (a.eval x) ys,⟨es',clock',(MapKept.heap_set hg).1,Gi (Pz xe kq) kn,uk⟩,P0 (Qov r1 (fun v hv b hvb=>fo b fun e=>by
     subst e
     rcases r3 v hv with rfl | hv
     ·exact wi _ hvb (.inl rfl)
     grind) kq) kn,(Qdv jw _ _ yf).1,r2,fun v hv e=>by
     rcases r3 v hv with rfl | hv
     ·exact wi _ e (.inl rfl)
     ·exact rl v hv e,fun _ e=>by cases e⟩
   exact H β _ _ _ _ hk g1 g2
  ·cases hs
 ·cases hs
end
end Gx
