/- States by their shapes. -/
import Derived.Test.YtjjpjagokgfbdaaGreatXH
namespace Gd
open Go Go.RowKit
section
variable {β:Nat→Nat} {X:Cx} {G:GL} {D:List DF} {H:HL} {O:List TL} {a:Act} {w w':World}
theorem Sb.remake{O':List TL}(h:Sb β X G D H O a w)
  (hp:∀t'∈O',(∃t∈O,(∀g,t'.blks g→t.blks g)∧(∀b o,t'.cov b o→t.cov b o)∧t'.p (Je X.ok X.w.heap.size β H O w) w)∨((∀g,¬ t'.blks g)∧∀ok w,t'.p ok w))
  (hd:O'.Pairwise fun s t=>∀g,s.blks g→¬ t.blks g):Sb β X G D H O' a w:=by
 have hok:∀b o,Je X.ok X.w.heap.size β H O w b o→Je X.ok X.w.heap.size β H O' w b o:=by
  rintro b o ⟨h1,h2,h3,h4⟩
  refine⟨h1,h2,h3,fun u hu hc=>?_⟩
  rcases hp u hu with⟨t,ht,_,h6,_⟩ | ⟨h5,_⟩
  ·exact h4 t ht (h6 b o hc)
  ·exact h5 b (u.cb hc)
 refine { sz:=h.sz,df:=h.df,fr:=h.fr,pn:=h.pn,tm:=h.tm,bel:=h.bel,dat:=h.dat.weak hok,obj:=h.obj,own:=fun u hu=>?_,dHH:=h.dHH,dHO:=fun p hp' u hu hg=>?_,dOO:=hd }
 ·rcases hp u hu with⟨t,ht,h5,_,h7⟩ | ⟨h5,h6⟩
  ·exact⟨u.weak h7 hok,fun g hg=>(h.own t ht).2 g (h5 g hg)⟩
  ·exact⟨h6 _ _,fun g hg=>absurd hg (h5 g)⟩
 ·rcases hp u hu with⟨t,ht,h5,_⟩ | ⟨h5,_⟩
  ·exact h.dHO p hp' t ht (h5 _ hg)
  ·exact h5 _ hg
end
end Gd
namespace Gx
open Go Go.RowKit Gd
set_option linter.unusedVariables false
set_option linter.unusedSimpArgs false
section
variable {X:Cx} {β:Nat→Nat} {ρ:Nat→Value} {S:St} {a:Act} {w w':World}
theorem Rw:∀{M:List (Nat×Ob)} {c:Nat} {o:Ob},Qe M c=some o→(c,o)∈M
 | q::l,c,o,h=>by
  obtain⟨l1,l2,h1,_⟩:=Ji h
  rw[h1]; simp
theorem Rel.disj(h:Rel X β ρ S a w){c c':Nat}{o o':Ob}(h1:Qe S.mem c=some o)(h2:Qe S.mem c'=some o')(hne:c≠c'):∀g,(Qw β ρ c o).blks g→¬ (Qw β ρ c' o').blks g:=by
 obtain⟨l1,l2,hl,_⟩:=Ji h1
 have hm:=Rw h2
 have hp:((l1++(c,o)::l2).map fun q=>Qw β ρ q.1 q.2).Pairwise fun s t=>∀g,s.blks g→¬ t.blks g:=by rw[←hl]; exact h.dOO
 rw[JK,JV]at hp
 have hp1:=QM.1 hp
 have hp2:=QG.1 hp1.2.1
 rw[hl]at hm
 intro g hg hg2
 rcases QW.1 hm with hm | hm
 ·exact hp1.2.2 _ (QY.2 ⟨_,hm,rfl⟩) _ (.head _) g hg2 hg
 ·rcases QX.1 hm with hm | hm
  ·injection hm with e _; exact hne e.symm
  ·exact hp2.1 _ (QY.2 ⟨_,hm,rfl⟩) g hg hg2
theorem Rel.freeze1{env:List En}{l1 l2:List (Nat×Ob)}{id:Nat}{e:TypeId}{t:Ty}{xs:List t.De}(h:Rel X β ρ ⟨env,l1++(id,.row e t xs)::l2⟩ a w)(hs:Nat.ble 1 t.size=true) :
  Rel X β ρ ⟨env,l1++(id,.tail e t xs)::l2⟩ a w:=by
 unfold Rel at h ⊢
 simp only[Qf,JK,JV]at h ⊢
 have h1:=h.perm (O':=Qw β ρ id (.row e t xs)::(l1.map (fun q=>Qw β ρ q.1 q.2)++l2.map (fun q=>Qw β ρ q.1 q.2))) XZ
 obtain⟨⟨hl,cs,hown,hr⟩,_⟩:=h1.own _ (.head _)
 obtain⟨A,c,hv⟩:∃A c,ρ id=.slice A xs.length c:=by
  rcases hown.2 with⟨hv,h0⟩ | ⟨g,cap,cur,fz,hv,_⟩
  ·exact⟨none,0,by rw[hv,←hl,h0]⟩
  ·exact⟨_,cap,by rw[hv,hl]⟩
 have hO:Qw β ρ id (.row e t xs)=ml (.slice A xs.length c) e (rt t) xs:=by simp only[Qw,hv]
 rw[hO]at h1
 have h2:=h1.freeze rfl (by rw[Jh]; exact hs)
 have hiv:isV (rSl (rt t)) _ w xs (.slice A xs.length c):=h2.d 0 rfl
 have h3:={ h2 with dat:=h2.dat.2 }
 have h4:Sb (fun _=>0) X [] (List.map (enD β ρ a) env) [] (Qw β ρ id (.tail e t xs)::(l1.map (fun q=>Qw β ρ q.1 q.2)++l2.map (fun q=>Qw β ρ q.1 q.2))) a w:=by
  refine Sb.remake h3 (fun u hu=>?_) ?_
  ·rcases QX.1 hu with rfl | hu
   ·refine .inl ⟨_,.head _,fun g hg=>?_,fun b o hc=>?_,?_⟩
    ·have hg':(ρ id).ownBlock=some g:=hg
     rw[hv]at hg'; exact hg'
    ·have hc':(ρ id).ownBlock=some b∧Zt (ρ id)*(rt t).size≤o:=hc
     rw[hv]at hc'; exact hc'
    ·simp only[Qw,Qcg,hv]
     exact⟨hiv,(h3.own _ (.head _)).1⟩
   ·exact .inl ⟨u,.tail _ hu,fun _ hg=>hg,fun _ _ hc=>hc,(h3.own u (.tail _ hu)).1⟩
  ·have:=QG.1 h3.dOO
   refine QG.2 ⟨fun u hu g hg=>this.1 u hu g ?_,this.2⟩
   have hg':(ρ id).ownBlock=some g:=hg
   rw[hv]at hg'; exact hg'
 exact h4.perm XZ.symm
theorem Rel.freeze:∀(l:List (Nat×Ob)) {l0 F:List (Nat×Ob)} {env:List En} {ks:List Nat},Rel X β ρ ⟨env,l0++l++F⟩ a w→Rel X β ρ ⟨env,l0++Y2 ks l++F⟩ a w
 | [],l0,F,env,ks,h=>h
 | (id,.row e t xs)::l,l0,F,env,ks,h=>by
  simp only[Y2]
  cases hb:(Ya ks id&&Nat.ble 1 t.size)with
  | true =>
   simp only[cond_true]
   simp only[QQ]at hb
   have h1:Rel X β ρ ⟨env,l0++(id,.row e t xs)::(l++F)⟩ a w:=by simpa using h
   have h2:=h1.freeze1 hb.2
   have h3:=Rel.freeze l (l0:=l0++[(id,.tail e t xs)]) (F:=F) (ks:=ks) (by simpa using h2)
   simpa using h3
  | false =>
   simp only[cond_false]
   have h3:=Rel.freeze l (l0:=l0++[(id,.row e t xs)]) (F:=F) (ks:=ks) (by simpa using h)
   simpa using h3
 | (id,.var t c)::l,l0,F,env,ks,h=>by
  have h3:=Rel.freeze l (l0:=l0++[(id,.var t c)]) (F:=F) (ks:=ks) (by simpa using h)
  simpa[Y2]using h3
 | (id,.tail e t xs)::l,l0,F,env,ks,h=>by
  have h3:=Rel.freeze l (l0:=l0++[(id,.tail e t xs)]) (F:=F) (ks:=ks) (by simpa using h)
  simpa[Y2]using h3
 | (id,.map k v xs)::l,l0,F,env,ks,h=>by
  have h3:=Rel.freeze l (l0:=l0++[(id,.map k v xs)]) (F:=F) (ks:=ks) (by simpa using h)
  simpa[Y2]using h3
 | (id,.mapC k v xs hole)::l,l0,F,env,ks,h=>by
  have h3:=Rel.freeze l (l0:=l0++[(id,.mapC k v xs hole)]) (F:=F) (ks:=ks) (by simpa using h)
  simpa[Y2]using h3
 | (id,.mapE k v xs key j)::l,l0,F,env,ks,h=>by
  have h3:=Rel.freeze l (l0:=l0++[(id,.mapE k v xs key j)]) (F:=F) (ks:=ks) (by simpa using h)
  simpa[Y2]using h3
theorem Qw9:∀{ts:List Ty} {l:List DV} {x:Tup ts},ofL ts l=some x→toL ts x=l
 | [],l,x,h=>by
  cases l with
  | nil=>rfl
  | cons _ _=>simp[ofL]at h
 | [t],l,x,h=>by
  match l,h with
  | [v],h =>
   obtain⟨e,hx⟩:=Ty.cast_ok (by simpa[ofL]using h)
   obtain⟨u,y⟩:=v
   simp only at e
   subst e
   simp only at hx
   subst hx
   rfl
  | [],h=>simp[ofL]at h
  | _::_::_,h=>simp[ofL]at h
 | t::u::ts,l,x,h=>by
  match l,h with
  | [],h=>simp[ofL]at h
  | v::vs,h =>
   simp only[ofL]at h
   split at h
   ·rename_i a b ha hb
    simp at h; subst h
    obtain⟨e,hx⟩:=Ty.cast_ok ha
    obtain⟨s,y⟩:=v
    simp only at e
    subst e
    simp only at hx
    subst hx
    have:=Qw9 hb
    simp only[toL,this]
   ·cases h
def Hx(ri:List (Nat×Nat))(β:Nat→Nat):Nat→Nat:=fun i=>match Jp ri i with
 | some c=>β c
 | none=>β i
def Hm(ri:List (Nat×Nat))(pr:List Nat)(ρ:Nat→Value):Nat→Value:=fun i=>match Jp ri i with
 | some c=>ρ c
 | none=>bif Ya pr i then ρ i else .slice none 0 0
theorem CK.beq_eq:∀{a b:CK},CK.beq a b=true→a=b
 | .sl e u,.sl e' u',h=>by
  simp only[CK.beq,QQ]at h
  rw[QJ h.1,Ty.beq_eq h.2]
 | .mp k v,.mp k' v',h=>by
  simp only[CK.beq,QQ]at h
  rw[Ty.beq_eq h.1,Ty.beq_eq h.2]
 | .sl _ _,.mp _ _,h=>by cases h
 | .mp _ _,.sl _ _,h=>by cases h
theorem Qem{ri:List (Nat×Nat)}{i c:Nat}(h:Q5l ri i c=true):Jp ri i=some c:=by
 unfold Q5l at h
 split at h
 ·rename_i j hj; rw[hj,QJ h]
 ·cases h
theorem Qke:∀{p q:List PS},Qw0 p q=true→p=q
 | [],[],_=>rfl
 | a::l,b::m,h=>by
  simp only[Qw0,QQ]at h
  have h2:=Qke h.2
  have h1:=h.1
  cases a<;>cases b<;>simp only[PS.beq,QQ]at h1<;>first | (cases h1; done) | skip
  rw[QJ h1.1,QJ h1.2,h2]
 | [],_::_,h=>by cases h
 | _::_,[],h=>by cases h
theorem Qen{α:Type}{x:Option α}(h:isNone x=true):x=none:=by cases x with
 | none=>rfl
 | some _=>cases h
variable {ok:Ok} {M:List (Nat×Ob)} {ri:List (Nat×Nat)} {pr:List Nat}
theorem C6(hM:∀id o,Qe M id=some o→(Qw β ρ id o).p ok w) :
  ∀{sk:Sk} {m:Bool} {x:AV} {cs:List Value} {l:List DV} (rest:List DV),V2 M ri pr sk x=some l→cr β ρ ok w m x cs→(m=true→sk.isL=true) →
   ∃y,L3 sk (l++rest)=(y,rest)∧cr (Hx ri β) (Hm ri pr ρ) ok w m y cs∧y.isAgg=x.isAgg
 | .d t,true,x,cs,l,rest,h,hc,hm=>by cases hm rfl
 | .d t,false,x,cs,l,rest,h,hc,hm=>by
  simp only[V2]at h
  split at h
  ·rename_i y hy
   obtain⟨hb,h⟩:=bvT h
   simp at h; subst h
   exact⟨.d t y,rfl,Z4 hM hy hc,bEq hb⟩
  ·cases h
 | .p id path,true,x,cs,l,rest,h,hc,hm=>by cases hm rfl
 | .p id path,false,x,cs,l,rest,h,hc,hm=>by
  cases x<;>simp only[V2]at h<;>first | (cases h; done) | skip
  rename_i c path'
  obtain⟨hb,h⟩:=bvT h
  simp only[QQ]at hb
  simp at h; subst h
  have h1:=Qem hb.1
  have h2:=Qke hb.2
  subst h2
  refine⟨.p id path,rfl,?_,rfl⟩
  have hc':cs=[.pointer (some ⟨β c,J7 path,none⟩)]:=hc
  show cs=[.pointer (some ⟨Hx ri β id,J7 path,none⟩)]
  rw[hc']; simp only[Hx,h1]
 | .s id,true,x,cs,l,rest,h,hc,hm=>by cases hm rfl
 | .s id,false,x,cs,l,rest,h,hc,hm=>by
  cases x<;>simp only[V2]at h<;>first | (cases h; done) | skip
  ·rename_i c
   obtain⟨hb,h⟩:=bvT h
   simp only[QQ]at hb
   simp at h; subst h
   have h1:=Qem hb.1
   refine⟨.s id,rfl,?_,rfl⟩
   obtain⟨h2,h3⟩:=hc
   have e:Hm ri pr ρ id=ρ c:=by simp only[Hm,h1]
   exact⟨by rw[e]; exact h2,by rw[e]; exact h3⟩
  ·obtain⟨hb,h⟩:=bvT h
   simp only[QQ]at hb
   simp at h; subst h
   have h1:=Qen hb.1
   refine⟨.s id,rfl,?_,rfl⟩
   have hc':cs=[.slice none 0 0]:=hc
   have e:Hm ri pr ρ id=.slice none 0 0:=by
    simp only[Hm,h1]
    have:=hb.2
    cases hp:Ya pr id with
    | true=>rw[hp]at this; cases this
    | false=>rfl
   exact⟨⟨_,hc',.inl e.symm⟩,none,0,0,e⟩
 | .m id,true,x,cs,l,rest,h,hc,hm=>by cases hm rfl
 | .m id,false,x,cs,l,rest,h,hc,hm=>by
  cases x<;>simp only[V2]at h<;>first | (cases h; done) | skip
  rename_i c
  obtain⟨hb,h⟩:=bvT h
  simp at h; subst h
  have h1:=Qem hb
  refine⟨.m id,rfl,?_,rfl⟩
  have hc':cs=[.map (some (β c))]:=hc
  show cs=[.map (some (Hx ri β id))]
  rw[hc']; simp only[Hx,h1]
 | .ns,true,x,cs,l,rest,h,hc,hm=>by cases hm rfl
 | .ns,false,x,cs,l,rest,h,hc,hm=>by cases x<;>simp[V2]at h; subst h; exact⟨.ns,rfl,hc,rfl⟩
 | .np,true,x,cs,l,rest,h,hc,hm=>by cases hm rfl
 | .np,false,x,cs,l,rest,h,hc,hm=>by cases x<;>simp[V2]at h; subst h; exact⟨.np,rfl,hc,rfl⟩
 | .nm,true,x,cs,l,rest,h,hc,hm=>by cases hm rfl
 | .nm,false,x,cs,l,rest,h,hc,hm=>by cases x<;>simp[V2]at h; subst h; exact⟨.nm,rfl,hc,rfl⟩
 | .nf,true,x,cs,l,rest,h,hc,hm=>by cases hm rfl
 | .nf,false,x,cs,l,rest,h,hc,hm=>by cases x<;>simp[V2]at h; subst h; exact⟨.nf,rfl,hc,rfl⟩
 | .z,true,x,cs,l,rest,h,hc,hm=>by cases hm rfl
 | .z,false,x,cs,l,rest,h,hc,hm=>by cases x<;>simp[V2]at h; subst h; exact⟨.z,rfl,hc,rfl⟩
 | .f fn c,true,x,cs,l,rest,h,hc,hm=>by cases hm rfl
 | .f fn c,false,x,cs,l,rest,h,hc,hm=>by
  cases x<;>simp only[V2]at h<;>first | (cases h; done) | skip
  rename_i fn' x'
  obtain⟨hb,h0⟩:=bvT h
  simp only[QQ]at hb
  have h1:=QJ hb.1
  subst h1
  obtain⟨vs,h2,h3⟩:=hc
  obtain⟨y,h4,h5,_⟩:=C6 hM (m:=true) rest h0 h3 fun _=>hb.2
  exact⟨.f fn y,by simp only[L3,h4],⟨vs,h2,h5⟩,rfl⟩
 | .ag s,true,x,cs,l,rest,h,hc,hm=>by cases hm rfl
 | .ag s,false,x,cs,l,rest,h,hc,hm=>by
  simp only[V2]at h
  split at h
  ·rename_i y hy
   obtain⟨z0,h1,h2,_⟩:=C6 hM (m:=false) rest h (Qj2 hy hc) fun e=>by cases e
   refine⟨.ag z0,by simp only[L3,h1],h2,?_⟩
   unfold Tt at hy
   split at hy<;>first | rfl | cases hy
  ·cases h
 | .nil,m,x,cs,l,rest,h,hc,hm=>by
  cases x<;>simp[V2]at h
  subst h
  refine⟨.nil,rfl,?_,rfl⟩
  cases m<;>exact hc
 | .cons a b,true,x,cs,l,rest,h,hc,hm=>by
  cases x<;>simp only[V2]at h<;>first | (cases h; done) | skip
  rename_i x r
  split at h
  ·rename_i u v hu hv
   simp at h; subst h
   obtain⟨c1,vs,h1,h2,h3⟩:=hc
   obtain⟨y,e1,e2,e3⟩:=C6 hM (m:=false) (v++rest) hu h2 fun e=>by cases e
   obtain⟨z0,e4,e5,e6⟩:=C6 hM (m:=true) rest hv h3 fun _=>by simpa[Sk.isL]using hm rfl
   refine⟨.cons y z0,by simp only[L3,QH,e1,e4],⟨c1,vs,?_,e2,e5⟩,rfl⟩
   rw[h1]
   simp only[AV.val,e3]
  ·cases h
 | .cons a b,false,x,cs,l,rest,h,hc,hm=>by
  cases x<;>simp only[V2]at h<;>first | (cases h; done) | skip
  rename_i x r
  split at h
  ·rename_i u v hu hv
   simp at h; subst h
   obtain⟨c1,c2,h1,h2,h3⟩:=hc
   obtain⟨y,e1,e2,e3⟩:=C6 hM (m:=false) (v++rest) hu h2 fun e=>by cases e
   obtain⟨z0,e4,e5,e6⟩:=C6 hM (m:=false) rest hv h3 fun e=>by cases e
   exact⟨.cons y z0,by simp only[L3,QH,e1,e4],⟨c1,c2,h1,e2,e5⟩,rfl⟩
  ·cases h
theorem Qkf(hM:∀id o,Qe M id=some o→(Qw β ρ id o).p ok w){env:List En}(hE:∀e∈env,(enD β ρ a e).p ok w) :
  ∀{Γe:List (Nat×Sk)} {l:List DV} (rest:List DV),Qpy M ri pr env Γe=some l →
   ∃es,Ia Γe (l++rest)=(es,rest)∧∀e∈es,(enD (Hx ri β) (Hm ri pr ρ) a e).p ok w∧Nat.blt e.t 100000=true
 | [],l,rest,h=>by simp[Qpy]at h; subst h; exact⟨[],rfl,by simp⟩
 | (t,s)::g,l,rest,h=>by
  simp only[Qpy]at h
  split at h
  ·rename_i t' x hx
   split at h
   ·rename_i u v hu hv
    simp at h; subst h
    obtain⟨hm,ht⟩:=U1 hx
    simp only at ht
    subst ht
    obtain⟨cs,h1,h2⟩:=(hE _ hm).1 (Qc a)
    obtain⟨y,h3,h4,h5⟩:=C6 hM (v++rest) hu h2 fun e=>by cases e
    obtain⟨es,h6,h7⟩:=Qkf hM hE rest hv
    refine⟨⟨t',[],y⟩::es,by simp only[Ia,QH,h3,h6],fun e he=>?_⟩
    rcases QX.1 he with rfl | he
    ·refine⟨⟨fun _=>⟨cs,?_,h4⟩,.inl (Qc a)⟩,Qci hx⟩
     rw[h1]; simp only[AV.val,h5]
    ·exact h7 e he
   ·cases h
  ·cases h
theorem Q0{l m:List (Nat×Ob)}{c:Nat}{o:Ob}(h:Qe l c=some o):Qe (l++m) c=some o:=by
 induction l with
 | nil=>simp[Qe]at h
 | cons q l ih =>
  simp only[Qe,QA]at h ⊢
  cases hb:Nat.beq q.1 c with
  | true=>rw[hb]at h; exact h
  | false=>rw[hb]at h; exact ih h
def Jmb(β:Nat→Nat)(ρ:Nat→Value)(ri:List (Nat×Nat))(pr:List Nat)(ok:Ok)(w:World)(M:List (Nat×Ob))(id:Nat)(o:Ob):Prop :=
 (∃c ob,Jp ri id=some c∧Qe M c=some ob∧(∀g,(Qw (Hx ri β) (Hm ri pr ρ) id o).blks g→(Qw β ρ c ob).blks g)∧(∀b f,(Qw (Hx ri β) (Hm ri pr ρ) id o).cov b f→(Qw β ρ c ob).cov b f)∧(Qw (Hx ri β) (Hm ri pr ρ) id o).p ok w) ∨
 (Jp ri id=none∧(∀g,¬ (Qw (Hx ri β) (Hm ri pr ρ) id o).blks g)∧∀ok w,(Qw (Hx ri β) (Hm ri pr ρ) id o).p ok w)
theorem Q8c{v:Value}(hv:v=.slice none 0 0){e:Nat}{τ:Type}{r:RT τ}(ok:Ok)(w:World):(ml v e r []).p ok w:=by
 subst hv
 exact⟨rfl,[],World.ownsRowS_nil _ _ _ _,rfl⟩
theorem Jfx{v:Value}(hv:v=.slice none 0 0){e:Nat}{τ:Type}{r:RT τ}(ok:Ok)(w:World):(Qcg v e r []).p ok w:=by
 subst hv
 exact⟨Jl5,[],World.ownsRowS_nil _ _ _ _⟩
theorem Qkg{M0 F:List (Nat×Ob)}(hM:∀id o,Qe (M0++F) id=some o→(Qw β ρ id o).p ok w) :
  ∀{Γm:List (Nat×SkO)} {l:List DV},Q78 ri pr Γm=true→O5 M0 F ri pr Γm=some l →
   (U2 Γm l).map Prod.fst=Γm.map Prod.fst∧∀q∈U2 Γm l,Jmb β ρ ri pr ok w M0 q.1 q.2
 | [],l,_,h=>by simp[O5]at h; subst h; exact⟨rfl,by simp[U2]⟩
 | (id,s)::g,l,hp,h=>by
  simp only[Q78,QQ]at hp
  simp only[O5]at h
  split at h
  ·rename_i o ho
   split at h
   ·rename_i u v hu hv
    simp at h; subst h
    have key:∃ob',D9 s (u++v)=some (ob',v)∧Jmb β ρ ri pr ok w M0 id ob':=by
     unfold Q77 at ho
     split at ho
     ·rename_i hn
      simp at ho; subst ho
      have hnp:Ya pr id=false:=by
       have:=hp.1
       cases hm:Ya pr id with
       | false=>rfl
       | true =>
        rw[hm]at this
        simp only[Q5l,hn,WW,Bool.or_self]at this
        cases this
      have e:Hm ri pr ρ id=.slice none 0 0:=by simp only[Hm,hn,hnp,cond_false]
      have nb:∀g,¬ (Hm ri pr ρ id).ownBlock=some g:=by rw[e]; intro g hg; cases hg
      cases s with
      | row e' t =>
       simp only[Rr]at hu
       simp at hu; subst hu
       refine⟨.row e' t [],?_,.inr ⟨hn,nb,fun ok w=>Q8c e ok w⟩⟩
       simp[D9,Ty.cast,Ty.beq_refl]
      | tail e' t =>
       simp only[Rr]at hu
       simp at hu; subst hu
       refine⟨.tail e' t [],?_,.inr ⟨hn,fun g hg=>nb g hg,fun ok w=>Jfx e ok w⟩⟩
       simp[D9,Ty.cast,Ty.beq_refl]
      | var tid c=>simp[Rr]at hu
      | map k u'=>simp[Rr]at hu
      | mapC k u'=>simp[Rr]at hu
     ·rename_i c hc
      split at ho
      ·rename_i ob hob
       simp at ho; subst ho
       have hpo:=hM c ob (Q0 hob)
       have eR:Hm ri pr ρ id=ρ c:=by simp only[Hm,hc]
       have eB:Hx ri β id=β c:=by simp only[Hx,hc]
       cases s with
       | var tid sk =>
        cases ob<;>simp only[Rr]at hu<;>first | (cases hu; done) | skip
        rename_i tid' x
        obtain⟨hb,hu0⟩:=bvT hu
        have:=QJ hb
        subst this
        obtain⟨cs,h1,h2⟩:=hpo
        obtain⟨y,h3,h4,h5⟩:=C6 hM v hu0 h2 fun e=>by cases e
        refine⟨.var tid y,by simp only[D9,h3],.inl ⟨c,_,hc,hob,?_,?_,cs,by rw[eB]; exact h1,h4⟩⟩
        ·intro g hg
         have hg':g=Hx ri β id:=hg
         show g=β c
         rw[hg',eB]
        ·intro b f hg
         have hg':b=Hx ri β id:=hg
         show b=β c
         rw[hg',eB]
       | row e' t =>
        cases ob<;>simp only[Rr]at hu<;>first | (cases hu; done) | skip
        rename_i e2 t2 xs
        obtain⟨hb,hu0⟩:=bvT hu
        clear hu
        simp only[QQ]at hb
        have h1:=QJ hb.1
        have h2:=Ty.beq_eq hb.2
        subst h1; subst h2
        simp at hu0; subst hu0
        refine⟨.row e' t xs,by simp[D9,Ty.cast,Ty.beq_refl],.inl ⟨c,_,hc,hob,?_,?_,?_⟩⟩<;>simp only[Qw,eR]
        ·exact fun _ hg=>hg
        ·exact fun _ _ hg=>hg
        ·exact hpo
       | tail e' t =>
        cases ob<;>simp only[Rr]at hu<;>first | (cases hu; done) | skip
        rename_i e2 t2 xs
        obtain⟨hb,hu0⟩:=bvT hu
        clear hu
        simp only[QQ]at hb
        have h1:=QJ hb.1
        have h2:=Ty.beq_eq hb.2
        subst h1; subst h2
        simp at hu0; subst hu0
        refine⟨.tail e' t xs,by simp[D9,Ty.cast,Ty.beq_refl],.inl ⟨c,_,hc,hob,?_,?_,?_⟩⟩<;>simp only[Qw,eR]
        ·exact fun _ hg=>hg
        ·exact fun _ _ hg=>hg
        ·exact hpo
       | map k u' =>
        cases ob<;>simp only[Rr]at hu<;>first | (cases hu; done) | skip
        rename_i k2 u2 xs
        obtain⟨hb,hu0⟩:=bvT hu
        clear hu
        simp only[QQ]at hb
        have h1:=Ty.beq_eq hb.1
        have h2:=Ty.beq_eq hb.2
        subst h1; subst h2
        simp at hu0; subst hu0
        refine⟨.map k u' xs,by simp[D9,Ty.cast,Ty.beq_refl],.inl ⟨c,_,hc,hob,?_,?_,?_⟩⟩<;>simp only[Qw,eB]
        ·exact fun _ hg=>hg
        ·exact fun _ _ hg=>hg
        ·exact hpo
       | mapC k u' =>
        cases ob<;>simp only[Rr]at hu<;>first | (cases hu; done) | skip
        rename_i k2 u2 xs hole
        obtain⟨hb,hu0⟩:=bvT hu
        clear hu
        simp only[QQ]at hb
        obtain⟨⟨b1,b2⟩,b6⟩:=hb
        have h1:=Ty.beq_eq b1
        have h2:=CK.beq_eq b2
        subst h1; subst h2
        have h6:=Qen b6
        subst h6
        simp at hu0; subst hu0
        refine⟨.mapC k u' xs none,by simp[D9,Ty.cast,Ty.beq_refl],.inl ⟨c,_,hc,hob,?_,?_,?_⟩⟩<;>simp only[Qw,eB,eR]
        ·exact fun _ hg=>hg
        ·exact fun _ _ hg=>hg
        ·exact hpo
      ·cases ho
    obtain⟨ob',h1,h2⟩:=key
    obtain⟨h3,h4⟩:=Qkg hM hp.2 hv
    simp only[U2,h1]
    refine⟨by simp[h3],fun q hq=>?_⟩
    rcases QX.1 hq with rfl | hq
    ·exact h2
    ·exact h4 q hq
   ·cases h
  ·cases h
theorem Ze:∀{l:List Nat} {t:Nat},Ya l t=true↔t∈l
 | [],t=>by simp[Ya]
 | k::l,t=>by
  simp only[Ya,JS,QX,Ze (l:=l)]
  constructor
  ·rintro(h | h)
   ·exact .inl (QJ h).symm
   ·exact .inr h
  ·rintro(h | h)
   ·subst h; exact .inl (JY _)
   ·exact .inr h
theorem Jkq{pr:List Nat}(hi:Q0i pr ri=true):∀i∈pr,Hx ri β i=β i∧Hm ri pr ρ i=ρ i:=by
 have key:∀{ri:List (Nat×Nat)},Q0i pr ri=true→∀i∈pr,∀c,Jp ri i=some c→c=i:=by
  intro ri
  induction ri with
  | nil=>intro _ i _ c hc; simp[Jp]at hc
  | cons q l ih =>
   obtain⟨k,x⟩:=q
   intro h i hi c hc
   simp only[Q0i,QQ]at h
   simp only[Jp]at hc
   cases hb:Nat.beq k i with
   | true =>
    rw[hb]at hc
    simp at hc; subst hc
    have:=QJ hb
    subst this
    have h1:=h.1
    rw[Ze.2 hi]at h1
    exact(QJ (by simpa using h1)).symm
   | false=>rw[hb]at hc; exact ih h.2 i hi c hc
 intro i hm
 cases hl:Jp ri i with
 | none=>exact⟨by simp only[Hx,hl],by simp only[Hm,hl,Ze.2 hm,cond_true]⟩
 | some c =>
  have:=key hi i hm c hl
  subst this
  exact⟨by simp only[Hx,hl],by simp only[Hm,hl]⟩
theorem Rx:∀{Γm:List (Nat×SkO)} {mem:List (Nat×Ob)} {cs:List Nat},Fy ri Γm cs=true→mem.map Prod.fst=Γm.map Prod.fst →
  (mem.Pairwise fun q q'=>∀c c',Jp ri q.1=some c→Jp ri q'.1=some c'→c≠c')∧∀q∈mem,∀c,Jp ri q.1=some c→c∉cs
 | [],mem,cs,_,hm=>by
  have:mem=[]:=by simpa using hm
  subst this; exact⟨.nil,by simp⟩
 | (id,s)::g,mem,cs,h,hm=>by
  cases mem with
  | nil=>simp at hm
  | cons q mem =>
   simp only[JV,List.cons.injEq]at hm
   obtain⟨h1,h2⟩:=hm
   simp only[Fy]at h
   split at h
   ·rename_i c hc
    simp only[QQ]at h
    obtain⟨h3,h4⟩:=Rx h.2 h2
    refine⟨QG.2 ⟨fun q' hq' c1 c2 e1 e2 e=>?_,h3⟩,fun q' hq' c1 e1=>?_⟩
    ·rw[h1,hc]at e1
     injection e1 with e1; subst e1; subst e
     exact h4 q' hq' c e2 (.head _)
    ·rcases QX.1 hq' with rfl | hq'
     ·rw[h1,hc]at e1
      injection e1 with e1; subst e1
      intro hm
      have:=h.1
      rw[Ze.2 hm]at this
      cases this
     ·exact fun hm=>h4 q' hq' c1 e1 (.tail _ hm)
   ·rename_i hn
    obtain⟨h3,h4⟩:=Rx h h2
    refine⟨QG.2 ⟨fun q' hq' c1 c2 e1 e2 e=>?_,h3⟩,fun q' hq' c1 e1=>?_⟩
    ·rw[h1,hn]at e1; cases e1
    ·rcases QX.1 hq' with rfl | hq'
     ·rw[h1,hn]at e1; cases e1
     ·exact h4 q' hq' c1 e1
theorem W9{β β':Nat→Nat}{ρ ρ':Nat→Value}:∀{m:Bool} {x:AV} {cs:List Value},(∀i∈Ja x,β' i=β i∧ρ' i=ρ i)→cr β ρ ok w m x cs→cr β' ρ' ok w m x cs
 | m,.d t x,cs,_,h=>by cases m<;>exact h
 | m,.p id path,cs,hn,h=>by
  have:=(hn id (.head _)).1
  cases m<;>(simp only[cr]at h ⊢; rw[this]; exact h)
 | m,.e id path,cs,hn,h=>by
  have:=(hn id (.head _)).2
  cases m<;>(simp only[cr]at h ⊢; rw[this]; exact h)
 | m,.s id,cs,hn,h=>by
  have:=(hn id (.head _)).2
  cases m<;>(simp only[cr]at h ⊢; rw[this]; exact h)
 | m,.m id,cs,hn,h=>by
  have:=(hn id (.head _)).1
  cases m<;>(simp only[cr]at h ⊢; rw[this]; exact h)
 | m,.b id,cs,hn,h=>by
  have:=(hn id (.head _)).1
  cases m<;>(simp only[cr]at h ⊢; rw[this]; exact h)
 | m,.w id _ _,cs,hn,h=>by
  have:=(hn id (.head _)).1
  cases m<;>(simp only[cr]at h ⊢; rw[this]; exact h)
 | m,.a t x,cs,_,h=>by cases m<;>exact h
 | m,.z,cs,_,h=>by cases m<;>exact h
 | m,.ns,cs,_,h=>by cases m<;>exact h
 | m,.np,cs,_,h=>by cases m<;>exact h
 | m,.nm,cs,_,h=>by cases m<;>exact h
 | m,.nf,cs,_,h=>by cases m<;>exact h
 | m,.f fn caps,cs,hn,h=>by cases m<;>exact let⟨vs,h1,h2⟩:=h; ⟨vs,h1,W9 (fun i hi=>hn i (by simpa[Ja]using hi)) h2⟩
 | m,.ag l,cs,hn,h=>by cases m<;>exact W9 (m:=false) (x:=l) (fun i hi=>hn i (by simpa[Ja]using hi)) h
 | m,.tp l,cs,hn,h=>by cases m<;>exact let⟨vs,h1,h2⟩:=h; ⟨vs,h1,W9 (fun i hi=>hn i (by simpa[Ja]using hi)) h2⟩
 | m,.nil,cs,_,h=>by cases m<;>exact h
 | true,.cons x r,cs,hn,h=>by
  exact let⟨c1,vs,h1,h2,h3⟩:=h; ⟨c1,vs,h1,W9 (fun i hi=>hn i (by simp[Ja,hi])) h2,W9 (fun i hi=>hn i (by simp[Ja,hi])) h3⟩
 | false,.cons x r,cs,hn,h=>by
  exact let⟨c1,vs,h1,h2,h3⟩:=h; ⟨c1,vs,h1,W9 (fun i hi=>hn i (by simp[Ja,hi])) h2,W9 (fun i hi=>hn i (by simp[Ja,hi])) h3⟩
theorem Jkr{β β':Nat→Nat}{ρ ρ':Nat→Value}{l:List En}(ha:∀i∈O6 l,β' i=β i∧ρ' i=ρ i):∀e∈l,(enD β ρ a e).p ok w→(enD β' ρ' a e).p ok w:=by
 intro e he h
 have h1:∀i∈Ja e.av,β' i=β i∧ρ' i=ρ i:=by
  intro i hi
  refine ha i ?_
  clear ha h
  induction l with
  | nil=>cases he
  | cons x l ih =>
   simp only[O6,QW]
   rcases QX.1 he with rfl | he
   ·exact .inl hi
   ·exact .inr (ih he)
 exact⟨fun hc=>let⟨cs,h2,h3⟩:=h.1 hc; ⟨cs,h2,W9 h1 h3⟩,h.2⟩
theorem Qeo{β β':Nat→Nat}{ρ ρ':Nat→Value}:∀{l:List (Nat×Ob)},(∀i∈Jb l,β' i=β i∧ρ' i=ρ i)→∀q∈l,(∀g,(Qw β' ρ' q.1 q.2).blks g↔(Qw β ρ q.1 q.2).blks g)∧(∀b o,(Qw β' ρ' q.1 q.2).cov b o↔(Qw β ρ q.1 q.2).cov b o) ∧
  ∀ok w,(Qw β ρ q.1 q.2).p ok w→(Qw β' ρ' q.1 q.2).p ok w
 | (id,o)::l,ha,q,hq=>by
  rcases QX.1 hq with rfl | hq
  ·obtain⟨h1,h2⟩:=ha id (by
    cases o with
    | mapC k v xs hole=>cases hole<;>simp[Jb]
    | _=>simp[Jb])
   cases o with
   | var t c =>
    refine⟨fun g=>by simp only[Qw,Ql1]; rw[h1],fun b o=>by simp only[Qw,Ql1]; rw[h1],fun ok w hp=>?_⟩
    obtain⟨cs,hh,hc⟩:=hp
    exact⟨cs,by rw[h1]; exact hh,W9 (fun i hi=>ha i (by simp[Jb,hi])) hc⟩
   | row e t xs=>simp only[Qw,h2]; exact⟨fun _=>trivial,fun _ _=>trivial,fun _ _ h=>h⟩
   | tail e t xs=>simp only[Qw,h2]; exact⟨fun _=>trivial,fun _ _=>trivial,fun _ _ h=>h⟩
   | map k v xs=>simp only[Qw,h1]; exact⟨fun _=>trivial,fun _ _=>trivial,fun _ _ h=>h⟩
   | mapC k v xs hole =>
    have hv:Lw β' ρ' v hole=Lw β ρ v hole:=by
     cases hole with
     | none=>rfl
     | some q=>cases v<;>simp only[Lw,(ha q.2 (by simp[Jb])).1,(ha q.2 (by simp[Jb])).2]
    simp only[Qw,h1,h2,hv]; exact⟨fun _=>trivial,fun _ _=>trivial,fun _ _ h=>h⟩
   | mapE k v xs key j=>simp only[Qw,h1,(ha j (by simp[Jb])).1]; exact⟨fun _=>trivial,fun _ _=>trivial,fun _ _ h=>h⟩
  ·exact Qeo (fun i hi=>ha i (by
    cases o with
    | mapC k v xs hole=>cases hole<;>simp[Jb,hi]
    | _=>simp[Jb,hi])) q hq
theorem Rel.decF{Γ:Shp}{env fix:List En}{M F:List (Nat×Ob)}{ri:List (Nat×Nat)}{pr:List Nat}(h:Rel X β ρ ⟨env++fix,M++F⟩ a w){x:Γ.De}
  (hd:Gx.decF Γ ri (pr++(O6 fix++Jb F)) (env++fix) M F=some x) :
  ∃β' ρ',(∀i∈pr,β' i=β i∧ρ' i=ρ i)∧Rel X β' ρ' ⟨(enc Γ x).env++fix,(enc Γ x).mem++F⟩ a w ∧
   (∀q∈(enc Γ x).mem,∀c,Jp ri q.1=some c→β' q.1=β c∧ρ' q.1=ρ c):=by
 unfold Gx.decF Jkj at hd
 obtain⟨hb,hd⟩:=bvT hd
 simp only[QQ]at hb
 obtain⟨⟨⟨b1,b2⟩,b3⟩,b4⟩:=hb
 have h1:=Rel.freeze M (l0:=[]) (F:=F) (ks:=Jfl (env++fix) Γ.env++Qw1 M ri Γ.mem) h
 simp only[QD]at h1
 split at hd
 ·rename_i u v hu hv
  have hx:=Qw9 hd
  have hM:=h1.mm
  obtain⟨es,e1,e2⟩:=Qkf (M:=frz Γ ri (env++fix) M++F) hM (fun e he=>h1.en he) v hu
  obtain⟨m1,m2⟩:=Qkg hM b3 hv
  have henc:enc Γ x=⟨es,U2 Γ.mem v⟩:=by
   unfold enc
   rw[hx,e1]
  rw[henc]
  have hag:=Jkq (β:=β) (ρ:=ρ) b4
  have hagF:∀i∈Jb F,Hx ri β i=β i∧Hm ri (pr++(O6 fix++Jb F)) ρ i=ρ i:=fun i hi=>hag i (by simp[hi])
  have hagE:∀i∈O6 fix,Hx ri β i=β i∧Hm ri (pr++(O6 fix++Jb F)) ρ i=ρ i:=fun i hi=>hag i (by simp[hi])
  refine⟨Hx ri β,Hm ri (pr++(O6 fix++Jb F)) ρ,fun i hi=>hag i (by simp[hi]),?_,?_⟩
  ·have hS:Sb (fun _=>0) X [] (List.map (enD β ρ a) (env++fix)) [] (Qf (Hx ri β) (Hm ri (pr++(O6 fix++Jb F)) ρ) (U2 Γ.mem v++F)) a w:=by
    have hpw:(List.map (fun q=>Qw β ρ q.1 q.2) (frz Γ ri (env++fix) M)++List.map (fun q=>Qw β ρ q.1 q.2) F).Pairwise fun s t=>∀g,s.blks g→¬ t.blks g:=by rw[←JK]; exact h1.dOO
    have hpw':=QM.1 hpw
    refine Sb.remake h1 (fun t' ht'=>?_) ?_
    ·obtain⟨q,hq,rfl⟩:=QY.1 ht'
     rcases QW.1 hq with hq | hq
     ·rcases m2 q hq with⟨c,ob,h2,h3,h4,h5,h6⟩ | ⟨_,h4,h5⟩
      ·exact .inl ⟨_,QY.2 ⟨_,QZ _ (Rw h3),rfl⟩,h4,h5,h6⟩
      ·exact .inr ⟨h4,h5⟩
     ·obtain⟨f1,f2,f3⟩:=Qeo hagF q hq
      exact .inl ⟨_,QY.2 ⟨q,QV _ hq,rfl⟩,fun g hg=>(f1 g).1 hg,fun b o hc=>(f2 b o).1 hc,f3 _ _ (h1.own _ (QY.2 ⟨q,QV _ hq,rfl⟩)).1⟩
    ·rw[Qf,JK]
     obtain⟨n1,_⟩:=Rx b1 m1
     refine QM.2 ⟨?_,?_,?_⟩
     ·rw[XO]
      refine List.Pairwise.imp_of_mem ?_ n1
      intro q q' hq hq' hne g hg hg'
      rcases m2 q hq with⟨c,ob,h2,h3,h4,_⟩ | ⟨_,h4,_⟩
      ·rcases m2 q' hq' with⟨c',ob',h2',h3',h4',_⟩ | ⟨_,h4',_⟩
       ·exact h1.disj (Q0 h3) (Q0 h3') (hne c c' h2 h2') g (h4 g hg) (h4' g hg')
       ·exact h4' g hg'
      ·exact h4 g hg
     ·rw[XO]
      have:=XO.1 hpw'.2.1
      refine List.Pairwise.imp_of_mem ?_ this
      intro q q' hq hq' hne g hg hg'
      exact hne g ((Qeo hagF q hq).1 g |>.1 hg) ((Qeo hagF q' hq').1 g |>.1 hg')
     ·intro t ht t' ht' g hg hg'
      obtain⟨q,hq,rfl⟩:=QY.1 ht
      obtain⟨q',hq',rfl⟩:=QY.1 ht'
      rcases m2 q hq with⟨c,ob,h2,h3,h4,_⟩ | ⟨_,h4,_⟩
      ·exact hpw'.2.2 _ (QY.2 ⟨_,Rw h3,rfl⟩) _ (QY.2 ⟨q',hq',rfl⟩) g (h4 g hg) ((Qeo hagF q' hq').1 g |>.1 hg')
      ·exact h4 g hg
   have hok:∀b o,okR X β ρ (frz Γ ri (env++fix) M++F) w b o→okR X (Hx ri β) (Hm ri (pr++(O6 fix++Jb F)) ρ) (U2 Γ.mem v++F) w b o:=by
    rintro b o ⟨o1,o2,o3,o4⟩
    refine⟨o1,o2,o3,fun t' ht' hc=>?_⟩
    obtain⟨q,hq,rfl⟩:=QY.1 ht'
    rcases QW.1 hq with hq | hq
    ·rcases m2 q hq with⟨c,ob,h2,h3,h4,h5,h6⟩ | ⟨_,h4,h5⟩
     ·exact o4 _ (QY.2 ⟨_,QZ _ (Rw h3),rfl⟩) (h5 b o hc)
     ·exact h4 b ((Qw _ _ q.1 q.2).cb hc)
    ·exact o4 _ (QY.2 ⟨q,QV _ hq,rfl⟩) ((Qeo hagF q hq).2.1 b o |>.1 hc)
   refine Rel.ofSb hS rfl fun e he=>?_
   rcases QW.1 he with he | he
   ·exact(enD _ _ a e).weak (e2 e he).1 hok
   ·exact(enD _ _ a e).weak (Jkr hagE e he (h1.en (QV _ he))) hok
  ·intro q hq c hc
   exact⟨by simp only[Hx,hc],by simp only[Hm,hc]⟩
 ·cases hd
theorem XS.dec_ok{S:XS}{Γ:Shp}(h:Rel X β ρ S.flat a w){x:Γ.De}(hd:S.dec Γ=some x) :
  ∃β' ρ',(∀i∈S.prot,β' i=β i∧ρ' i=ρ i)∧Rel X β' ρ' ⟨(enc Γ x).env++S.fix,(enc Γ x).mem++S.fixM⟩ a w:=by
 obtain⟨β',ρ',h1,h2,_⟩:=Rel.decF (pr:=S.prot) h hd
 exact⟨β',ρ',h1,h2⟩
end
end Gx

/- Operations that make or change objects. -/
namespace Gx
open Go Go.RowKit Gd
set_option linter.unusedVariables false
set_option linter.unusedSimpArgs false
def Qij(n:Nat)(a:Act):GL:=(List.range n).map fun t=>(t,Gd.AV.v (a.tmps.getD t undef))
theorem Qt7{f:Nat→Gd.AV}:∀{l:List Nat} {t:Nat},t∈l→Jp (l.map fun t=>(t,f t)) t=some (f t)
 | k::l,t,h=>by
  simp only[JV,Jp]
  cases hb:Nat.beq k t with
  | true=>have:=QJ hb; subst this; rfl
  | false =>
   rcases QX.1 h with rfl | h
   ·simp[JY]at hb
   ·exact Qt7 h
section
variable {P:Program} {X:Cx} {β β':Nat→Nat} {ρ ρ':Nat→Value} {S:St} {a a':Act} {w w':World} {cur:Y8}
theorem Rel.toG(h:Rel X β ρ S a w):Sb (fun _=>0) X (Qij X.n a) (S.env.map (enD β ρ a)) [] (Qf β ρ S.mem) a w :=
 {sz:=h.sz,df:=h.df,fr:=h.fr,pn:=h.pn,bel:=h.bel,dat:=h.dat,obj:=h.obj,own:=h.own,dHH:=h.dHH,dHO:=h.dHO,dOO:=h.dOO,
  tm:=fun p hp=>by
   obtain⟨t,ht,rfl⟩:=QY.1 hp
   have hlt:t<a.tmps.size:=by rw[h.sz]; exact JT.1 ht
   simp[Iq,ZV hlt,JC] }
theorem gvT(h:Rel X β ρ S a w){t:Nat}(ht:t<X.n):gv (Qij X.n a) (.tmp t)=some (.v (a.eval (.tmp t))):=by
 simp only[gv,Qij]
 rw[Qt7 (f:=fun t=>Gd.AV.v (a.tmps.getD t undef)) (JT.2 ht)]
 rfl
theorem Qt8(h:Rel X β ρ S a w){t:Nat}{v:Value}(hv:a.tmps[t]?=some v):t<X.n:=by
 rw[←h.sz]
 rcases JL t a.tmps.size with h1 | h1
 ·exact h1
 ·rw[XI h1]at hv; cases hv
theorem gvE(h:Rel X β ρ S a w)(hc:Jt a cur){x:Operand}{v:AV}(hx:ev S cur x=some v):gv (Qij X.n a) x=some (.v (a.eval x)):=by
 cases x with
 | tmp t =>
  simp only[ev]at hx
  split at hx
  ·rename_i e he
   obtain⟨hb,hx⟩:=bvT hx
   obtain⟨cs,h1,h2⟩:=h.get he (Qej hb hc)
   exact gvT h (Qt8 h h1)
  ·cases hx
 | const v=>rfl
 | func f=>rfl
 | global g=>rfl
theorem L6(h:Rel X β ρ S a w){ops:Array Oper}{o:Oper}(hw:Region.wanted o (yielded ops a.tmps)=true):B3 ops (Qij X.n a) o=some true:=by
 unfold B3
 unfold Region.wanted at hw
 split
 ·rfl
 ·rename_i j want hg
  rw[hg]at hw
  simp only[beq_iff_eq]at hw
  unfold yielded at hw
  split
  ·rename_i p hp
   rw[hp]at hw
   split
   ·rename_i t ht
    simp only[QI,ht]at hw
    split at hw
    ·rename_i b hb
     simp at hw; subst hw
     have hlt:=Qt8 h hb
     have:=gvT h hlt
     simp only[gv]at this
     rw[this]
     simp[Act.eval,hb]
    ·cases hw
   ·rename_i ht
    simp[ht]at hw
  ·rename_i hp
   simp[hp]at hw
theorem Rel.fin{env env':List En}{mem':List (Nat×Ob)}{O':List TL}{d:Nat}{v:Value}(hn:∀e∈env,True)(h':Sb (fun _=>0) X (Tj (Qij X.n a) d (.v v)) (env.map (enD β ρ a)) [] O' a' w')(hsz:a.tmps.size=X.n)(hd:okD X d=true)
  (hO:K9 O' (Qf β' ρ' mem')) (hcr:∀e∈env',∀(ok:Ok) (w:World) (cs:List Value),cr β ρ ok w false e.av cs→cr β' ρ' ok w false e.av cs) (he:∀e∈env',e∈env∧e.t≠d∧∀c∈e.cs,c.1≠d)
  {x:AV} {c:List Value} (hv:v=x.val c) (hx:cr β' ρ' (okR X β' ρ' mem' w') w' false x c):Rel X β' ρ' ⟨⟨d,[],x⟩::env',mem'⟩ a' w':=by
 have h1:=h'.simO hO
 have hoth:∀t,t≠d→a'.tmps[t]?=a.tmps[t]?:=by
  intro t ht
  rcases JL t X.n with hlt | hge
  ·have hm:(t,Gd.AV.v (a.tmps.getD t undef))∈Tj (Qij X.n a) d (.v v):=by
    refine .tail _ ?_
    have:∀{l:GL},(t,Gd.AV.v (a.tmps.getD t undef))∈l→(t,Gd.AV.v (a.tmps.getD t undef))∈Qzm l d:=by
     intro l
     induction l with
     | nil=>intro h; cases h
     | cons q l ih =>
      intro h
      obtain⟨k,y⟩:=q
      simp only[Qzm]
      cases hb:Nat.beq k d with
      | true =>
       rcases QX.1 h with e | h
       ·injection e with e1 _; subst e1; exact absurd (QJ hb) ht
       ·exact ih h
      | false =>
       rcases QX.1 h with e | h
       ·rw[e]; exact .head _
       ·exact .tail _ (ih h)
    exact this (QY.2 ⟨t,JT.2 hlt,rfl⟩)
   have:=h1.tm _ hm
   simp only[Iq]at this
   rw[this]
   have hlt':t<a.tmps.size:=by omega
   simp[JC,ZV hlt']
  ·rw[XI (by have:=h1.sz; omega),XI (by omega)]
 have hdv:rd a' d=some v:=by
  have:=h1.tm (d,.v v) (.head _)
  rw[Lx (Rg hd)]
  simpa[Iq]using this
 have hrd:∀t,t≠d→rd a' t=rd a t:=fun t ht=>by unfold rd; rw[hoth t ht]
 refine Rel.ofSb h1 rfl fun e hm=>?_
 rcases QX.1 hm with rfl | hm
 ·exact⟨fun _=>⟨c,by rw[hdv,hv],hx⟩,.inl (Qc _)⟩
 ·obtain⟨h2,h3,h4⟩:=he e hm
  have hp:=Jf.1 h1.dat _ (QY.2 ⟨e,h2,rfl⟩)
  have hcc:Jt a' e.cs↔Jt a e.cs:=⟨fun hc c hm=>by rw[←hoth _ (h4 c hm)]; exact hc c hm,fun hc c hm=>by rw[hoth _ (h4 c hm)]; exact hc c hm⟩
  refine⟨fun hc=>?_,?_⟩
  ·obtain⟨cs,h5,h6⟩:=hp.1 (hcc.1 hc)
   exact⟨cs,by rw[hrd _ h3]; exact h5,hcr e hm _ _ _ h6⟩
  ·rw[hcc,hrd _ h3]; exact hp.2
theorem Qcp{l:List En}{d:Nat}(h:Nv d l=true):∀e∈l,e.t≠d∧∀c∈e.cs,c.1≠d:=by
 induction l with
 | nil=>intro e he; cases he
 | cons x l ih =>
  simp only[Nv,QQ]at h
  intro e he
  rcases QX.1 he with rfl | he
  ·have h1:=h.1
   simp only[XA,ZY]at h1
   exact⟨fun e'=>by rw[e']at h1; simp[JY]at h1,Qcj h1.2⟩
  ·exact ih h.2 e he
def agP(pr:List Nat)(β β':Nat→Nat)(ρ ρ':Nat→Value):Prop:=∀i∈pr,β' i=β i∧ρ' i=ρ i
theorem agP.refl(pr:List Nat)(β:Nat→Nat)(ρ:Nat→Value):agP pr β β ρ ρ:=fun _ _=>⟨rfl,rfl⟩
theorem agP.trans{pr:List Nat}{β1 β2 β3:Nat→Nat}{ρ1 ρ2 ρ3:Nat→Value}(h:agP pr β1 β2 ρ1 ρ2)(k:agP pr β2 β3 ρ2 ρ3):agP pr β1 β3 ρ1 ρ3 :=
 fun i hi=>⟨(k i hi).1.trans (h i hi).1,(k i hi).2.trans (h i hi).2⟩
theorem Wf{pr:List Nat}{d:Nat}(h:Ya pr d=false)(ha:Qfu d β β' ρ ρ'):agP pr β β' ρ ρ' :=
 fun i hi=>ha i fun e=>by subst e; rw[Ze.2 hi]at h; cases h
structure Y4(S S':XS)(β β':Nat→Nat)(ρ ρ':Nat→Value):Prop where
 fix:S'.fix=S.fix
 fixM:S'.fixM=S.fixM
 prot:S'.prot=S.prot
 ag:agP S.prot β β' ρ ρ'
theorem Y4.refl(S:XS)(β:Nat→Nat)(ρ:Nat→Value):Y4 S S β β ρ ρ:=⟨rfl,rfl,rfl,agP.refl _ _ _⟩
theorem Y4.trans{S1 S2 S3:XS}{β1 β2 β3:Nat→Nat}{ρ1 ρ2 ρ3:Nat→Value}(h:Y4 S1 S2 β1 β2 ρ1 ρ2)(k:Y4 S2 S3 β2 β3 ρ2 ρ3):Y4 S1 S3 β1 β3 ρ1 ρ3 :=
 ⟨k.fix.trans h.fix,k.fixM.trans h.fixM,k.prot.trans h.prot,h.ag.trans (by rw[←h.prot]; exact k.ag)⟩
theorem Yx{n d:Nat}{S:XS}(h:okW n S d=true)(hn:X.n=n)(hr:X.res=[]):okD X d=true∧Nv d S.fix=true:=by
 simp only[okW,QQ]at h
 refine⟨?_,h.2⟩
 simp only[okD,hr,Qlw,hn,Bool.true_and,QQ]
 exact h.1
theorem K0{d:Nat}{l m:List En}(h:Nv d m=true):Jr (l++m) d=Jr l d++m:=by
 induction l with
 | nil =>
  simp only[QD,Jr]
  induction m with
  | nil=>rfl
  | cons x m ih =>
   simp only[Nv,QQ]at h
   have h1:=h.1
   simp only[XA]at h1
   simp only[Jr,h1,cond_false,ih h.2]
 | cons x l ih =>
  simp only[QA,Jr,ih]
  cases(Nat.beq x.t d||Rn d x.cs)<;>rfl
theorem Xp{S:XS}{d:Nat}{cs:Y8}{x:AV}(h:Nv d S.fix=true):(S.put d cs x).flat=S.flat.put d cs x:=by
 simp only[XS.flat,XS.put,St.put,K0 h,QA]
theorem Ga{S:XS}{d:Nat}(h:okB S d=true):Js d (S.mem++S.fixM)=true∧Qcn d S.fix=true∧Ya S.prot d=false:=by
 simp only[okB,QQ]at h
 refine⟨?_,h.1.2,by simpa using h.2⟩
 have key:∀{l m:List (Nat×Ob)},Js d l=true→Js d m=true→Js d (l++m)=true:=by
  intro l m hl hm
  induction l with
  | nil=>exact hm
  | cons q l ih =>
   obtain⟨k,o⟩:=q
   cases o with
   | mapC k1 v xs hole=>cases hole<;>simp only[Js,QQ,QA]at hl ⊢<;>exact⟨hl.1,ih hl.2⟩
   | _=>simp only[Js,QQ,QA]at hl ⊢; exact⟨hl.1,ih hl.2⟩
 exact key h.1.1.1 h.1.1.2
theorem C7{S:XS}{d:Nat}(hI:Qcn d S.fix=true)(hF:Nv d S.fix=true):∀e∈Jr (Yu d S.env) d++S.fix,e∈S.flat.env∧Uv d e.av=true∧e.t≠d∧∀c∈e.cs,c.1≠d:=by
 intro e he
 rcases QW.1 he with he | he
 ·obtain⟨h1,h2,h3⟩:=Fv he
  obtain⟨h4,h5⟩:=Qgn h1
  exact⟨QZ _ h4,h5,h2,h3⟩
 ·obtain⟨h1,h2⟩:=Qcp hF e he
  exact⟨QV _ he,Rv hI e he,h1,h2⟩
end
end Gx

/- Steps. -/
namespace Gx
open Go Go.RowKit Gd
set_option linter.unusedVariables false
set_option linter.unusedSimpArgs false
section
variable {P:Program} {Y:TX} {X:Cx} {S:XS} {β β':Nat→Nat} {ρ ρ':Nat→Value} {a a':Act} {w w':World} {n:Nat}
variable {ops:Array Oper} {Q:Exit→Act→World→Prop} {rest:List Oper} {R:Type} {k:XS→Option R} {r:R}
def KOk(P:Program)(ops:Array Oper)(Q:Exit→Act→World→Prop)(rest:List Oper)(X:Cx)(S0:XS)(β:Nat→Nat)(ρ:Nat→Value){R:Type}(k:XS→Option R)(r:R):Prop :=
 ∀(β':Nat→Nat) (ρ':Nat→Value) (S':XS) (a':Act) (w':World),k S'=some r→Y4 S0 S' β β' ρ ρ'→Rel X β' ρ' S'.flat a' w'→wpList P ops Q rest a' w'
theorem KOk.after(h:KOk P ops Q rest X S β ρ k r){S1:XS}{β1:Nat→Nat}{ρ1:Nat→Value}(hk:Y4 S S1 β β1 ρ ρ1):KOk P ops Q rest X S1 β1 ρ1 k r :=
 fun β' ρ' S' a' w' h1 h2 h3=>h β' ρ' S' a' w' h1 (hk.trans h2) h3
theorem Gy(S:XS)(d:Nat)(cs:Y8)(x:AV):Y4 S (S.put d cs x) β β ρ ρ:=⟨rfl,rfl,rfl,agP.refl _ _ _⟩
theorem U3{d:Nat}(hp:Ya S.prot d=false)(ha:Qfu d β β' ρ ρ')(o:Ob)(cs:Y8)(x:AV):Y4 S ((S.born d o).put d cs x) β β' ρ ρ':=⟨rfl,rfl,rfl,Wf hp ha⟩
theorem Jfy(hX:X.n=n)(hr:X.res=[])(h:Rel X β ρ S.flat a w){o:Oper}(hw:Region.wanted o (yielded ops a.tmps)=true){d:Nat}(hd:o.dst=some d)(hwd:okW n S d=true){x:AV}(hs:Qpv P S.flat [] o x)
  (hk:k (S.put d [] x)=some r) (H:KOk P ops Q rest X S β ρ k r):wpList P ops Q (o::rest) a w:=by
 obtain⟨h1,h2⟩:=Yx hwd hX hr
 obtain⟨cs,h3,h4⟩:=hs h.toW (Qc a)
 refine Jk hw (Yn h3 ?_)
 rw[hd]
 refine H β ρ _ _ _ hk (Gy S d [] x) ?_
 rw[Xp h2]
 exact h.put0 h1 h4
theorem Jfz(hX:X.n=n)(hr:X.res=[])(h:Rel X β ρ S.flat a w){o:Oper}(hw:Region.wanted o (yielded ops a.tmps)=true){d:Nat}(hd:o.dst=some d)(hwd:okW n S d=true)(hb:okB S d=true){t:TypeId}{c x:AV}{cs:List Value}{cv:Nat→List Value}
  (hrun:(execOp a.eval o).run P w=.ok (.value (x.val (cv w.heap.size))) (w.alloc (.cells cs.toArray t))) (hc:cr β ρ (okR X β ρ S.flat.mem w) w false c cs) (hn:Uv d c=true) (hx:∀(β:Nat→Nat) (ρ:Nat→Value) (ok:Ok) (w:World),cr β ρ ok w false x (cv (β d)))
  (hk:k ((S.born d (.var t c)).put d [] x)=some r) (H:KOk P ops Q rest X S β ρ k r):wpList P ops Q (o::rest) a w:=by
 obtain⟨h1,h2⟩:=Yx hwd hX hr
 obtain⟨f1,f2,f3⟩:=Ga hb
 refine Jk hw (Yn hrun ?_)
 rw[hd]
 have ha:=Qel d β ρ w.heap.size (ρ d)
 have hbel:Below w.heap.size w (w.alloc (.cells cs.toArray t)):=(Below.refl _ _).alloc (QB _) _
 refine H (upd β d w.heap.size) (upd ρ d (ρ d)) _ _ _ hk (U3 f3 ha _ _ _) ?_
 have hA:Rel X (upd β d w.heap.size) (upd ρ d (ρ d)) ⟨Jr (Yu d S.env) d++S.fix,(d,.var t c)::(S.mem++S.fixM)⟩ a (w.alloc (.cells cs.toArray t)):=by
  refine Rel.alloc h ha f1 (fun e he=>let⟨q1,q2,_⟩:=C7 f2 h2 e he; ⟨q1,q2⟩) hbel (fun g hg=>?_) ?_
  ·have hg':g=upd β d w.heap.size d:=hg
   rw[Jc]at hg'; omega
  ·refine⟨cs,?_,?_⟩
   ·rw[Jc]; exact heap_alloc_new w _
   ·have h5:cr (upd β d w.heap.size) (upd ρ d (ρ d)) (okR X β ρ S.flat.mem w) w false c cs:=Gw ha hn hc
    refine Wd (Lv h5 ((Evo.of_below hbel).mono fun b o hk=>hk.2.1)) ?_
    rintro b o ⟨o1,o2,o3,o4⟩
    refine⟨o1,JG o2 hbel.size,o3,fun u hu hcv=>?_⟩
    rcases QX.1 hu with rfl | hu
    ·have hcv':b=upd β d w.heap.size d:=hcv
     rw[Jc]at hcv'; omega
    ·obtain⟨t0,ht0,hs0⟩:=(N6 ha f1).mem u hu
     exact o4 t0 ht0 ((hs0.2.1 b o).1 hcv)
 have hP:=hA.put0 h1 (x:=x) (c:=cv (upd β d w.heap.size d)) (hx _ _ _ _)
 rw[show upd β d w.heap.size d=w.heap.size from Jc _ _ _]at hP
 have he:((S.born d (.var t c)).put d [] x).flat=⟨⟨d,[],x⟩::(Jr (Yu d S.env) d++S.fix),(d,.var t c)::(S.mem++S.fixM)⟩:=rfl
 rw[he]
 refine hP.less fun e hm=>?_
 rcases QX.1 hm with rfl | hm
 ·exact .head _
 ·refine .tail _ ?_
  have:Jr (Jr (Yu d S.env) d++S.fix) d=Jr (Yu d S.env) d++S.fix:=by
   rw[K0 h2]
   congr 1
   have idem:∀l:List En,Jr (Jr l d) d=Jr l d:=by
    intro l
    induction l with
    | nil=>rfl
    | cons y l ih =>
     simp only[Jr]
     cases hb:(Nat.beq y.t d||Rn d y.cs)with
     | true=>simpa using ih
     | false=>simp only[cond_false,Jr,hb,ih]
   exact idem _
  show e∈Jr (Jr (Yu d S.env) d++S.fix) d
  rw[this]; exact hm
theorem Jmc(hX:X.n=n)(hr:X.res=[])(h:Rel X β ρ S.flat a w){o:Oper}(hw:Region.wanted o (yielded ops a.tmps)=true){d:Nat}(hd:o.dst=some d)(hwd:okW n S d=true)(hb:okB S d=true){t:TypeId}{c:AV}{cs:List Value}
  (hrun:(execOp a.eval o).run P w=.ok (.value (.pointer (some ⟨w.heap.size,0,none⟩))) (w.alloc (.cells cs.toArray t))) (hc:cr β ρ (okR X β ρ S.flat.mem w) w false c cs) (hn:Uv d c=true)
  (hk:k ((S.born d (.var t c)).put d [] (.p d []))=some r) (H:KOk P ops Q rest X S β ρ k r):wpList P ops Q (o::rest) a w :=
 Jfz (x:=.p d []) (cv:=fun g=>[.pointer (some ⟨g,0,none⟩)]) hX hr h hw hd hwd hb hrun hc hn (fun _ _ _ _=>rfl) hk H
theorem K1{l m:List (Nat×Ob)}{id:Nat}{o o':Ob}(h:Qe l id=some o):Nu l id o'++m=Nu (l++m) id o':=by
 induction l with
 | nil=>simp[Qe]at h
 | cons q l ih =>
  simp only[Qe]at h
  simp only[Nu,QA]
  cases hb:Nat.beq q.1 id with
  | true=>rfl
  | false=>rw[hb]at h; simp only[cond_false,QA,ih h]
theorem Q8d(hT:Q4 P Y.T)(h:Rel X β ρ S.flat a w){o:Oper}(hw:Region.wanted o (yielded ops a.tmps)=true){t:TypeId}{p x:Operand}(hop:o.op=.store t p x)(hd:o.dst=none){e:TE}(he:Qh Y.T t=some e)
  {id:Nat} {path:List PS} {v c c':AV} {tid:TypeId} (hp:S.ev [] p=some (.p id path)) (hx:S.ev [] x=some v) (hm:Qe S.mem id=some (.var tid c)) (hs:∀{ok:Ok} {w:World} {cs ds:List Value},(∀id o,Qe S.flat.mem id=some o→(Qw β ρ id o).p ok w)→cr β ρ ok w false v ds→cr β ρ ok w false c cs →
   cr β ρ ok w false c' (cs.take (J7 path)++ds++cs.drop (J7 path+ds.length))∧J7 path+ds.length≤cs.length) (hsz:Nat.beq e.size v.size=true) (hval:v.isVal=true) (hin:v.inMem=true)
  (hk:k (S.set id (.var tid c'))=some r) (H:KOk P ops Q rest X S β ρ k r):wpList P ops Q (o::rest) a w:=by
 obtain⟨c1,h1,h2⟩:=h.ev (Qc a) hp
 obtain⟨ds,h3,h4⟩:=h.ev (Qc a) hx
 have h2':c1=_:=h2
 subst h2'
 have hm':Qe S.flat.mem id=some (.var tid c):=Q0 hm
 obtain⟨⟨cs,hh,hc⟩,hmine⟩:=h.ob hm'
 obtain⟨h5,h6⟩:=hs h.mm h4 hc
 have hdl:=U0 h4
 have hes:=QJ hsz
 have hcells:Qu (v.val ds)=ds:=N2 h4 hval hin
 have hst:=run_storeCells_at P (β id) (J7 path) tid ds 0 cs.toArray w hh (by simp; omega) (Tn h4 hin)
 simp only[ZD,List.toList_toArray]at hst
 have hrun:(execOp a.eval o).run P w=.ok .skip (w.setRow (β id) (cs.take (J7 path)++ds++cs.drop (J7 path+ds.length)).toArray):=by
  have h1':a.eval p=.pointer (some ⟨β id,J7 path,none⟩):=h1
  have hcc:(v.val ds).cells.toList=ds:=by rw[←Vn,hcells]
  have hcsz:(v.val ds).cells.size=e.size:=by rw[←XR,hcc]; omega
  unfold execOp
  rw[hop]
  simp only[h1',h3]
  simp[Instr.storeAt,Instr.sureAddr,storeVar,J5 hT w he,hcsz,hcc,hst]
 refine Jk hw ?_
 unfold Oper.wp
 rw[hrun]
 show wpList P ops Q rest (a.put o.dst undef) _
 rw[hd]
 obtain⟨l1,l2,e1,e2,e3⟩:=Ji hm'
 have hO:Qf β ρ S.flat.mem=Qf β ρ l1++Qw β ρ id (.var tid c)::Qf β ρ l2:=by rw[e1]; simp[Qf]
 have hS:=h.upd hO (t':=Qw β ρ id (.var tid c')) (w':=w.setRow (β id) (cs.take (J7 path)++ds++cs.drop (J7 path+ds.length)).toArray) rfl rfl rfl (by simp) (fun b hb hn=>setRow_other _ _ _ _ fun e=>hn e) (fun b o hb=>hb) (fun g hg=>.inl hg) (fun hevo hok=>by
  refine⟨_,setRow_heap _ _ _ _ _ _ hh,?_⟩
  exact Wd (Lv h5 hevo) hok)
 have hE:(S.set id (.var tid c')).flat=⟨S.flat.env,Nu S.flat.mem id (.var tid c')⟩:=by
  simp only[XS.flat,XS.set]
  rw[K1 hm]
 refine H β ρ _ _ _ hk ⟨rfl,rfl,rfl,agP.refl _ _ _⟩ ?_
 rw[hE,e2]
 have hmem:Qf β ρ (l1++(id,Ob.var tid c')::l2)=Qf β ρ l1++Qw β ρ id (.var tid c')::Qf β ρ l2:=by simp[Qf]
 exact Rel.ofSb hS hmem.symm fun e he=>by
  have:=Jf.1 hS.dat _ (QY.2 ⟨e,he,rfl⟩)
  rw[←hmem]at this
  exact this
theorem Jbg(hX:X.n=n)(hr:X.res=[])(h:Rel X β ρ S.flat a w){o:Oper}(hw:Region.wanted o (yielded ops a.tmps)=true){d:Nat}(hd:o.dst=some d)(hwd:okW n S d=true)(hb:okB S d=true){t:TypeId}(hop:o.op=.makeMap t none){kk v:Ty}
  (hk:k ((S.born d (.map kk v [])).put d [] (.m d))=some r) (H:KOk P ops Q rest X S β ρ k r):wpList P ops Q (o::rest) a w:=by
 obtain⟨h1,h2⟩:=Yx hwd hX hr
 obtain⟨f1,f2,f3⟩:=Ga hb
 have hrun:(execOp a.eval o).run P w=.ok (.value (.map (some w.heap.size))) (w.alloc (.map #[] 0)):=by
  unfold execOp
  rw[hop]
  simp[Instr.makeMap]
 refine Jk hw (Yn hrun ?_)
 rw[hd]
 have ha:=Qel d β ρ w.heap.size (ρ d)
 have hbel:Below w.heap.size w (w.alloc (.map #[] 0)):=(Below.refl _ _).alloc (QB _) _
 refine H (upd β d w.heap.size) (upd ρ d (ρ d)) _ _ _ hk (U3 f3 ha _ _ _) ?_
 have hA:Rel X (upd β d w.heap.size) (upd ρ d (ρ d)) ⟨Jr (Yu d S.env) d++S.fix,(d,.map kk v [])::(S.mem++S.fixM)⟩ a (w.alloc (.map #[] 0)):=by
  refine Rel.alloc h ha f1 (fun e he=>let⟨q1,q2,_⟩:=C7 f2 h2 e he; ⟨q1,q2⟩) hbel (fun g hg=>?_) ?_
  ·have hg':g=upd β d w.heap.size d:=hg
   rw[Jc]at hg'; omega
  ·refine⟨#[],0,?_,rfl,by simp,by simp,by simp⟩
   rw[Jc]; exact heap_alloc_new w _
 have hP:=hA.put0 h1 (x:=.m d) (c:=[.map (some (upd β d w.heap.size d))]) rfl
 have hv:(AV.m d).val [.map (some (upd β d w.heap.size d))]=.map (some w.heap.size):=by rw[Jc]; rfl
 rw[hv]at hP
 have he:((S.born d (.map kk v [])).put d [] (.m d)).flat=⟨⟨d,[],.m d⟩::(Jr (Yu d S.env) d++S.fix),(d,.map kk v [])::(S.mem++S.fixM)⟩:=rfl
 rw[he]
 refine hP.less fun e hm=>?_
 rcases QX.1 hm with rfl | hm
 ·exact .head _
 ·refine .tail _ ?_
  have:Jr (Jr (Yu d S.env) d++S.fix) d=Jr (Yu d S.env) d++S.fix:=by
   rw[K0 h2]
   congr 1
   have idem:∀l:List En,Jr (Jr l d) d=Jr l d:=by
    intro l
    induction l with
    | nil=>rfl
    | cons x l ih =>
     simp only[Jr]
     cases hb:(Nat.beq x.t d||Rn d x.cs)with
     | true=>simpa using ih
     | false=>simp only[cond_false,Jr,hb,ih]
   exact idem _
  show e∈Jr (Jr (Yu d S.env) d++S.fix) d
  rw[this]; exact hm
theorem Q0q(hT:Q4 P Y.T)(h:Rel X β ρ S.flat a w){o:Oper}(hw:Region.wanted o (yielded ops a.tmps)=true){t:TypeId}{m ky x:Operand}(hop:o.op=.mapUpdate t m ky x)(hd:o.dst=none){te tk:TE}{kt et:TypeId}(hte:Qh Y.T t=some te)(htd:te.d=.map kt et)(htk:Qh Y.T kt=some tk)
  {id:Nat} {kv xv:AV} {kk v:Ty} {xs:List (kk.De×v.De)} {key:kk.De} {y:v.De} (hm:S.ev [] m=some (.m id)) (hkv:S.ev [] ky=some kv) (hx:S.ev [] x=some xv) (hmo:Qe S.mem id=some (.map kk v xs)) (hkey:asD [] kv kk=some key) (hy:asD S.flat.mem xv v=some y)
  (hdk:Yt Y.T kk tk.d=true) (hka:(kk.agg==kv.isAgg)=true) (hva:(v.agg==xv.isAgg)=true)
  (hk:k (S.set id (.map kk v (J9 key y xs)))=some r) (H:KOk P ops Q rest X S β ρ k r):wpList P ops Q (o::rest) a w:=by
 obtain⟨c1,h1,h2⟩:=h.ev (Qc a) hm
 have h2':c1=[.map (some (β id))]:=h2
 subst h2'
 have h1':a.eval m=.map (some (β id)):=h1
 have hxv:isV (rt v) (okR X β ρ S.flat.mem w) w y (a.eval x):=h.asD (Qc a) hx hy (bEq hva)
 obtain⟨c3,h3,h4⟩:=h.ev (Qc a) hkv
 have hkr:isV (rt kk) (okR X β ρ S.flat.mem w) w key (a.eval ky):=by
  refine⟨c3,Z4 (M:=[]) (β:=β) (ρ:=ρ) (by simp[Qe]) hkey h4,?_⟩
  rw[h3]; simp only[AV.val,RT.val,B6,bEq hka]; cases kv.isAgg<;>rfl
 have hke:=W7 (Jx hdk) hkr
 have hm':Qe S.flat.mem id=some (.map kk v xs):=Q0 hmo
 obtain⟨⟨es,clock,hg,hp,hnd,hst1,hst2⟩,hmine⟩:=h.ob hm'
 obtain⟨es',clock',hrun,hp',hst'⟩:=Qfq hT hte htd htk hdk hg hp ⟨hst1,hst2⟩ key hxv
 have hrun':(execOp a.eval o).run P w=.ok .skip { w with heap:=w.heap.setIfInBounds (β id) (.map es' clock') }:=by
  unfold execOp
  rw[hop]
  simp only[h1',hke]
  simp[hrun]
 refine Jk hw ?_
 unfold Oper.wp
 rw[hrun']
 show wpList P ops Q rest (a.put o.dst undef) _
 rw[hd]
 have hgl:=Yg hg
 obtain⟨l1,l2,e1,e2,e3⟩:=Ji hm'
 have hO:Qf β ρ S.flat.mem=Qf β ρ l1++Qw β ρ id (.map kk v xs)::Qf β ρ l2:=by rw[e1]; simp[Qf]
 have hS:=h.upd hO (t':=Qw β ρ id (.map kk v (J9 key y xs))) (w':={ w with heap:=w.heap.setIfInBounds (β id) (.map es' clock') }) rfl rfl rfl (by simp) (fun b hb hn=>(MapKept.heap_set hg).2 b fun e=>hn e) (fun b o hb=>hb) (fun g hg=>.inl hg) (fun hevo hok=>by
  refine⟨es',clock',(MapKept.heap_set hg).1,?_,(Lo (Jx hdk) key y hnd).1,hst'.1,hst'.2⟩
  exact Vo (W6 hp' hevo) hok)
 have hE:(S.set id (.map kk v (J9 key y xs))).flat=⟨S.flat.env,Nu S.flat.mem id (.map kk v (J9 key y xs))⟩:=by
  simp only[XS.flat,XS.set]
  rw[K1 hmo]
 refine H β ρ _ _ _ hk ⟨rfl,rfl,rfl,agP.refl _ _ _⟩ ?_
 rw[hE,e2]
 have hmem:Qf β ρ (l1++(id,Ob.map kk v (J9 key y xs))::l2)=Qf β ρ l1++Qw β ρ id (.map kk v (J9 key y xs))::Qf β ρ l2:=by simp[Qf]
 exact Rel.ofSb hS hmem.symm fun e he=>by
  have:=Jf.1 hS.dat _ (QY.2 ⟨e,he,rfl⟩)
  rw[←hmem]at this
  exact this
theorem Jbh(hT:Q4 P Y.T)(h:Rel X β ρ S.flat a w){o:Oper}(hw:Region.wanted o (yielded ops a.tmps)=true){t:TypeId}{p x:Operand}(hop:o.op=.store t p x)(hd:o.dst=none){e:TE}(he:Qh Y.T t=some e)
  {id sz:Nat} {j:Int} {path:List PS} {v c:AV} {et:TypeId} {u:Ty} {xs:List u.De} {y z:u.De} (hp:S.ev [] p=some (.e id (.i j sz::path))) (hx:S.ev [] x=some v) (hm:Qe S.mem id=some (.row et u xs)) (hy:idx xs j=some y)
  (hs:Qm7 path (.d u y) v=some c) (hz:asD S.flat.mem c u=some z) (hsz:Nat.beq e.size v.size=true) (hsu:Nat.beq sz u.size=true) (hpos:Nat.ble 1 u.size=true) (hval:v.isVal=true) (hin:v.inMem=true)
  (hk:k (S.set id (.row et u (xs.set j.toNat z)))=some r) (H:KOk P ops Q rest X S β ρ k r):wpList P ops Q (o::rest) a w:=by
 obtain⟨c1,h1,g0,hg0,h2'⟩:=h.ev (Qc a) hp
 subst h2'
 obtain⟨ds,h3,h4⟩:=h.ev (Qc a) hx
 have hm':Qe S.flat.mem id=some (.row et u xs):=Q0 hm
 have hes:=QJ hsz
 have hszu:=QJ hsu
 subst hszu
 have hdl:=U0 h4
 have hcells:Qu (v.val ds)=ds:=N2 h4 hval hin
 obtain⟨l1,l2,e1,e2,e3⟩:=Ji hm'
 obtain⟨⟨hl0,cs0,hown0,_⟩,_⟩:=h.ob hm'
 obtain⟨g,c0,hv⟩:∃g c0,ρ id=.slice (some ⟨g,0,none⟩) xs.length c0:=by
  rcases hown0.2 with⟨hv,h0⟩ | ⟨g,cap,cur,fz,hv,_⟩
  ·rw[hv]at hg0; cases hg0
  ·exact⟨g,cap,by rw[hv,hl0]⟩
 have hgg:g0=g:=by rw[hv]at hg0; simp[Value.ownBlock]at hg0; omega
 subst hgg
 have hO:Qf β ρ S.flat.mem=Qf β ρ l1++ml (.slice (some ⟨g0,0,none⟩) xs.length c0) et (rt u) xs::Qf β ρ l2:=by rw[e1]; simp[Qf,Qw,hv]
 have hoff:J7 path+ds.length≤u.size:=by
  obtain⟨⟨hl,csr,hown,hr⟩,_⟩:=h.ob hm'
  have hrep:=Fu hr (W5 hy).2
  obtain⟨_,h6⟩:=Tu (β:=β) (ρ:=ρ) h4 hs (show cr β ρ _ w false (.d u y) _ from hrep)
  have:=(rt u).len hrep
  have h7:=Jh u
  omega
 obtain⟨cur,fz,⟨hh,hfz⟩,hlen,hS⟩:=Sb.mset h (Qf β ρ l1) (Qf β ρ l2) hO hy (by rw[Jh]; exact QF hpos) (off:=J7 path) (ds:=ds) (z:=z) (by rw[Jh]; exact hoff) (Tn h4 hin) (fun es hes=>by
  obtain⟨h5,_⟩:=Tu (β:=β) (ρ:=ρ) h4 hs (show cr β ρ _ w false (.d u y) es from hes)
  exact Z4 h.mm hz h5)
 rw[Jh]at hS hlen
 have hst:=Uy P g0 (j.toNat*u.size+J7 path) et fz ds 0 cur w hh hfz (by omega) (Tn h4 hin)
 simp only[ZD]at hst
 have hrun:(execOp a.eval o).run P w=.ok .skip (w.setRow g0 (cur.toList.take (j.toNat*u.size+J7 path)++ds++cur.toList.drop (j.toNat*u.size+J7 path+ds.length)).toArray):=by
  have h1':a.eval p=.pointer (some ⟨g0,j.toNat*u.size+J7 path,none⟩):=h1
  have hcc:(v.val ds).cells.toList=ds:=by rw[←Vn,hcells]
  have hcsz:(v.val ds).cells.size=e.size:=by rw[←XR,hcc]; omega
  unfold execOp
  rw[hop]
  simp only[h1',h3]
  simp[Instr.storeAt,Instr.sureAddr,storeVar,J5 hT w he,hcsz,hcc,hst]
 refine Jk hw ?_
 unfold Oper.wp
 rw[hrun]
 show wpList P ops Q rest (a.put o.dst undef) _
 rw[hd]
 have hE:(S.set id (.row et u (xs.set j.toNat z))).flat=⟨S.flat.env,Nu S.flat.mem id (.row et u (xs.set j.toNat z))⟩:=by
  simp only[XS.flat,XS.set]
  rw[K1 hm]
 refine H β ρ _ _ _ hk ⟨rfl,rfl,rfl,agP.refl _ _ _⟩ ?_
 rw[hE,e2]
 have hmem:Qf β ρ (l1++(id,Ob.row et u (xs.set j.toNat z))::l2)=Qf β ρ l1++ml (.slice (some ⟨g0,0,none⟩) xs.length c0) et (rt u) (xs.set j.toNat z)::Qf β ρ l2:=by simp[Qf,Qw,hv]
 exact Rel.ofSb hS hmem.symm fun e he=>by
  have:=Jf.1 hS.dat _ (QY.2 ⟨e,he,rfl⟩)
  rw[←hmem]at this
  exact this
end
end Gx

/- Maps whose values are objects of their own: a value is taken out, put back; made, frozen. -/
namespace Gd
open Go Go.RowKit
section
variable {β:Nat→Nat} {X:Cx} {G:GL} {D:List DF} {H:HL} {O:List TL} {a:Act} {w w':World}
theorem Sb.repl{A A' R:List TL}(h:Sb β X G D [] (A++R) a w)(hos:w'.os=w.os)(htp:w'.tape=w.tape)(hout:w'.output=w.output)(hsz:w.heap.size=w'.heap.size){L:List Nat}
  (hblk:∀b,b∉L→w'.heap[b]?=w.heap[b]?) (hL:∀g∈L,∃t∈A,∀o,t.cov g o)
  (hb':∀t∈A',∀g,t.blks g→∃s∈A,s.blks g) (hc':∀t∈A',∀b o,t.cov b o→∃s∈A,s.cov b o)
  (hp:Evo (Je X.ok X.w.heap.size β [] (A++R) w) w w'→(∀b o,Je X.ok X.w.heap.size β [] (A++R) w b o→Je X.ok X.w.heap.size β [] (A'++R) w' b o)→∀t∈A',t.p (Je X.ok X.w.heap.size β [] (A'++R) w') w')
  (hd:A'.Pairwise fun s t=>∀g,s.blks g→¬ t.blks g):Sb β X G D [] (A'++R) a w':=by
 have hpw:=QM.1 h.dOO
 have hLb:∀g∈L,∃t∈A,t.blks g:=fun g hg=>let⟨t,ht,hc⟩:=hL g hg; ⟨t,ht,t.cb (hc 0)⟩
 have hevo:Evo (Je X.ok X.w.heap.size β [] (A++R) w) w w':=Evo.of_blocks (KZ hsz) fun b o hk=>hblk b fun hb=>by
  obtain⟨t,ht,hc⟩:=hL b hb
  exact hk.2.2.2 t (by simp[ht]) (hc o)
 have hok:∀b o,Je X.ok X.w.heap.size β [] (A++R) w b o→Je X.ok X.w.heap.size β [] (A'++R) w' b o:=by
  rintro b o ⟨h1,h2,h3,h4⟩
  refine⟨h1,by omega,h3,fun u hu hc=>?_⟩
  rcases QW.1 hu with hu | hu
  ·obtain⟨s,hs,hsc⟩:=hc' u hu b o hc
   exact h4 s (by simp[hs]) hsc
  ·exact h4 u (by simp[hu]) hc
 have hmine:∀t∈A',∀g,t.blks g→X.mine g:=fun t ht g hg=>let⟨s,hs,hsg⟩:=hb' t ht g hg; (h.own s (by simp[hs])).2 g hsg
 refine { sz:=h.sz,df:=h.df,fr:=h.fr,pn:=h.pn,tm:=h.tm,bel:=?_,dat:=(h.dat.evo hevo).weak hok,obj:=by simp,own:=?_,dHH:=by simp,dHO:=by simp,dOO:=?_ }
 ·refine h.bel.trans ⟨hos,htp,hout,KZ hsz,fun k hk hn=>hblk k fun hb=>?_⟩
  obtain⟨t,ht,hg⟩:=hLb k hb
  exact((h.own t (by simp[ht])).2 k hg).elim (fun h=>by omega) hn
 ·intro u hu
  rcases QW.1 hu with hu | hu
  ·exact⟨hp hevo hok u hu,hmine u hu⟩
  ·have:=h.own u (by simp[hu]:u∈A++R)
   refine⟨u.weak (u.keep this.1 (fun g hg=>hblk g fun hb=>?_) hevo) hok,this.2⟩
   obtain⟨t,ht,hg2⟩:=hLb g hb
   exact hpw.2.2 t ht u hu g hg2 hg
 ·refine QM.2 ⟨hd,hpw.2.1,fun t ht u hu g hg hg2=>?_⟩
  obtain⟨s,hs,hsg⟩:=hb' t ht g hg
  exact hpw.2.2 s hs u hu g hsg hg2
end
end Gd
namespace Gx
open Go Go.RowKit Gd
set_option linter.unusedVariables false
set_option linter.unusedSimpArgs false
section
variable {β:Nat→Nat} {ρ ρ':Nat→Value} {ok:Ok} {w:World}
theorem Qp9{d:Nat}:∀{l:List En},Jfp d l=true→∀e∈l,noS d e.av=true
 | [],_,e,he=>by cases he
 | x::l,h,e,he=>by
  simp only[Jfp,QQ]at h
  rcases QX.1 he with rfl | he
  ·exact h.1
  ·exact Qp9 h.2 e he
theorem O9{d:Nat}(ha:∀i,i≠d→ρ' i=ρ i):∀{m:Bool} {x:AV} {cs:List Value},noS d x=true→cr β ρ ok w m x cs→cr β ρ' ok w m x cs
 | m,.d t x,cs,_,h=>by cases m<;>exact h
 | m,.p id path,cs,hn,h=>by cases m<;>exact h
 | m,.e id path,cs,hn,h=>by
  have:=ha id (neB (by simpa[noS]using hn))
  cases m<;>(simp only[cr]at h ⊢; rw[this]; exact h)
 | m,.s id,cs,hn,h=>by
  have:=ha id (neB (by simpa[noS]using hn))
  cases m<;>(simp only[cr]at h ⊢; rw[this]; exact h)
 | m,.m id,cs,hn,h=>by cases m<;>exact h
 | m,.b id,cs,hn,h=>by cases m<;>exact h
 | m,.w ..,cs,hn,h=>by cases m<;>exact h
 | m,.a t x,cs,_,h=>by cases m<;>exact h
 | m,.z,cs,_,h=>by cases m<;>exact h
 | m,.ns,cs,_,h=>by cases m<;>exact h
 | m,.np,cs,_,h=>by cases m<;>exact h
 | m,.nm,cs,_,h=>by cases m<;>exact h
 | m,.nf,cs,_,h=>by cases m<;>exact h
 | m,.f fn caps,cs,hn,h=>by cases m<;>exact let⟨vs,h1,h2⟩:=h; ⟨vs,h1,O9 ha (by simpa[noS]using hn) h2⟩
 | m,.ag l,cs,hn,h=>by cases m<;>exact O9 ha (m:=false) (x:=l) (by simpa[noS]using hn) h
 | m,.tp l,cs,hn,h=>by cases m<;>exact let⟨vs,h1,h2⟩:=h; ⟨vs,h1,O9 ha (by simpa[noS]using hn) h2⟩
 | m,.nil,cs,_,h=>by cases m<;>exact h
 | true,.cons x r,cs,hn,h=>by
  simp only[noS,QQ]at hn
  exact let⟨c1,vs,h1,h2,h3⟩:=h; ⟨c1,vs,h1,O9 ha hn.1 h2,O9 ha hn.2 h3⟩
 | false,.cons x r,cs,hn,h=>by
  simp only[noS,QQ]at hn
  exact let⟨c1,vs,h1,h2,h3⟩:=h; ⟨c1,vs,h1,O9 ha hn.1 h2,O9 ha hn.2 h3⟩
theorem Qxa{d:Nat}(ha:∀i,i≠d→ρ' i=ρ i):∀{M:List (Nat×Ob)},Qb2 d M=true→K9 (Qf β ρ M) (Qf β ρ' M)
 | [],_=>.nil
 | (k,o)::l,h=>by
  have hk:k≠d∧Qb2 d l=true:=by
   cases o with
   | mapC k1 v xs hole=>cases hole<;>simp only[Qb2,QQ]at h<;>first | exact⟨neB h.1.1,h.2⟩ | exact⟨neB h.1,h.2⟩
   | var t c=>simp only[Qb2,QQ]at h; exact⟨neB h.1.1,h.2⟩
   | _=>simp only[Qb2,QQ]at h; exact⟨neB h.1,h.2⟩
  refine .cons ?_ (Qxa ha hk.2)
  have h2:=ha k hk.1
  cases o with
  | var t c =>
   simp only[Qb2,QQ]at h
   refine⟨fun g=>Iff.rfl,fun b o=>Iff.rfl,fun ok w hp=>?_⟩
   obtain⟨cs,hh,hc⟩:=hp
   exact⟨cs,hh,O9 ha h.1.2 hc⟩
  | row e t xs=>simp only[Qw,h2]; exact X7.refl _
  | tail e t xs=>simp only[Qw,h2]; exact X7.refl _
  | map k v xs=>exact X7.refl _
  | mapE k9 v9 xs9 key j=>exact X7.refl _
  | mapC k1 v xs hole =>
   have hv:Lw β ρ' v hole=Lw β ρ v hole:=by
    cases hole with
    | none=>rfl
    | some q =>
     simp only[Qb2,QQ]at h
     cases v with
     | sl e u=>exact ha q.2 (neB h.1.2)
     | mp k v=>rfl
   simp only[Qw,h2,hv]; exact X7.refl _
end
section
variable {X:Cx} {β β':Nat→Nat} {ρ ρ':Nat→Value} {S:XS} {a:Act} {w w':World}
theorem Rel.permM{env:List En}{m m':List (Nat×Ob)}(h:Rel X β ρ ⟨env,m⟩ a w)(hp:m.Perm m'):Rel X β ρ ⟨env,m'⟩ a w:=Sb.perm h (hp.map _)
theorem Eh{l:List (Nat×Ob)}{id:Nat}{o:Ob}(h:Qe l id=some o):l.Perm ((id,o)::Ju l id):=by
 obtain⟨l1,l2,e1,_,e3⟩:=Ji h
 rw[e3,e1]
 exact XZ
theorem Qqa{l:List (Nat×Ob)}{id d:Nat}(hne:id≠d):Qe (Ju l d) id=Qe l id:=by
 induction l with
 | nil=>rfl
 | cons q l ih =>
  simp only[Ju]
  cases hb:Nat.beq q.1 d with
  | true =>
   have:=QJ hb
   simp only[cond_true,Qe]
   cases hb2:Nat.beq q.1 id with
   | true=>exact absurd ((QJ hb2).symm.trans this) hne
   | false=>rfl
  | false =>
   simp only[cond_false,Qe]
   cases Nat.beq q.1 id with
   | true=>rfl
   | false=>exact ih
theorem Rel.repl{env env':List En}{A A' R:List (Nat×Ob)}(h:Rel X β ρ ⟨env,A++R⟩ a w)(hos:w'.os=w.os)(htp:w'.tape=w.tape)(hout:w'.output=w.output)(hsz:w.heap.size=w'.heap.size){L:List Nat}
  (hblk:∀b,b∉L→w'.heap[b]?=w.heap[b]?) (hL:∀g∈L,∃t∈Qf β ρ A,∀o,t.cov g o)
  (hb':∀t∈Qf β' ρ' A',∀g,t.blks g→∃s∈Qf β ρ A,s.blks g) (hc':∀t∈Qf β' ρ' A',∀b o,t.cov b o→∃s∈Qf β ρ A,s.cov b o)
  (hp:Evo (okR X β ρ (A++R) w) w w'→(∀b o,okR X β ρ (A++R) w b o→Je X.ok X.w.heap.size (fun _=>0) [] (Qf β' ρ' A'++Qf β ρ R) w' b o)→∀t∈Qf β' ρ' A',t.p (Je X.ok X.w.heap.size (fun _=>0) [] (Qf β' ρ' A'++Qf β ρ R) w') w')
  (hd:(Qf β' ρ' A').Pairwise fun s t=>∀g,s.blks g→¬ t.blks g) (hR:K9 (Qf β ρ R) (Qf β' ρ' R))
  (he:∀e∈env',e∈env∧∀(ok:Ok) (w:World) (cs:List Value),cr β ρ ok w false e.av cs→cr β' ρ' ok w false e.av cs):Rel X β' ρ' ⟨env',A'++R⟩ a w':=by
 have h0:Sb (fun _=>0) X [] (env.map (enD β ρ a)) [] (Qf β ρ A++Qf β ρ R) a w:=by
  have:Qf β ρ (A++R)=Qf β ρ A++Qf β ρ R:=JK
  rw[←this]; exact h
 have e0:Qf β ρ (A++R)=Qf β ρ A++Qf β ρ R:=JK
 have h1:=h0.repl (A':=Qf β' ρ' A') (w':=w') hos htp hout hsz hblk hL hb' hc' (fun q1 q2=>hp (by simpa only[okR,e0]using q1) (by simpa only[okR,e0]using q2)) hd
 have h2:=h1.simO ((K9.refl _).append hR)
 have e1:Qf β' ρ' (A'++R)=Qf β' ρ' A'++Qf β' ρ' R:=JK
 refine Rel.ofSb h2 e1.symm fun e hm=>?_
 obtain⟨q1,q2⟩:=he e hm
 have hD:=Jf.1 h2.dat _ (QY.2 ⟨e,q1,rfl⟩)
 rw[←e1]at hD
 exact⟨fun hc=>let⟨cs,r1,r2⟩:=hD.1 hc; ⟨cs,r1,q2 _ _ _ r2⟩,hD.2⟩
theorem Qqb{d:Nat}:∀{l m:List (Nat×Ob)},Qb2 d l=true→Qb2 d m=true→Qb2 d (l++m)=true
 | [],m,_,h=>h
 | (k,o)::l,m,h,hm=>by
  cases o with
  | mapC k1 v xs hole=>cases hole<;>simp only[Qb2,QQ,QA]at h ⊢<;>exact⟨h.1,Qqb h.2 hm⟩
  | _=>simp only[Qb2,QQ,QA]at h ⊢; exact⟨h.1,Qqb h.2 hm⟩
theorem Qt9{id:Nat}(h:Qgk S id=true):(∀e∈S.flat.env,noS id e.av=true)∧Qb2 id (Ju S.mem id++S.fixM)=true∧Ya S.prot id=false:=by
 simp only[Qgk,QQ]at h
 refine⟨fun e he=>?_,Qqb h.1.1.2 h.1.2,by simpa using h.2⟩
 rcases QW.1 he with he | he
 ·exact Qp9 h.1.1.1.1 e he
 ·exact Qp9 h.1.1.1.2 e he
theorem Q8e(h:Rel X β ρ S.flat a w){id:Nat}{o:Ob}(hm:Qe S.mem id=some o):Rel X β ρ ⟨S.flat.env,[(id,o)]++(Ju S.mem id++S.fixM)⟩ a w:=by
 have:=Rel.permM (env:=S.flat.env) (m:=S.flat.mem) (m':=((id,o)::Ju S.mem id)++S.fixM) h ((Eh hm).append_right _)
 exact this
theorem Qua{id:Nat}{o:Ob}(hm:Qe S.mem id=some o){b f:Nat}(hbo:okR X β ρ S.flat.mem w b f):okR X β ρ ([(id,o)]++(Ju S.mem id++S.fixM)) w b f :=
 ⟨hbo.1,hbo.2.1,hbo.2.2.1,fun t ht=>hbo.2.2.2 t (by
   have hpm:(Qf β ρ S.flat.mem).Perm (Qf β ρ ([(id,o)]++(Ju S.mem id++S.fixM))):=List.Perm.map _ (by
    have:=(Eh hm).append_right S.fixM
    exact this)
   exact hpm.mem_iff.2 ht)⟩
theorem Qqc{α:Type}{f:Nat→α}{d:Nat}{v:α}:∀i,i≠d→upd f d v i=f i:=fun i h=>Zo f v h
section
variable {c:CK} {x:c.ty.De} {sv:Value} {ok:Ok} {d:Nat}
theorem Jf0(hp:(Qbz c sv x).p ok w)(hβ:β' d=(Kb sv).getD 0)(hρ:ρ' d=sv)(b:Nat):(Qw β' ρ' d (obC c x)).blks b↔Kb sv=some b:=by
 cases c with
 | sl e u =>
  obtain⟨_,cs,h2,_⟩:=hp
  simp only[obC,Qw,ml,hρ]
  exact Qch h2
 | mp k v =>
  obtain⟨g,rfl,_⟩:=hp
  simp only[obC,Qw,Rl,hβ,Kb,ZF,Option.some.injEq]
  exact eq_comm
theorem Q8f{b o:Nat}:(Qw β ρ d (obC c x)).cov b o↔(Qw β ρ d (obC c x)).blks b:=by
 cases c<;>exact Iff.rfl
theorem Jqr(hβ:β' d=(Kb sv).getD 0)(hρ:ρ' d=sv)(hp:(Qbz c sv x).p ok w):(Qw β' ρ' d (obC c x)).p ok w:=by
 cases c with
 | sl e u=>simp only[obC,Qw,hρ]; exact hp
 | mp k v =>
  obtain⟨g,rfl,h⟩:=hp
  have:β' d=g:=hβ
  simp only[obC,Qw,this]; exact h
def Q0r(β:Nat→Nat)(ρ:Nat→Value)(c:CK)(id:Nat):Value:=match c with
 | .sl _ _=>ρ id
 | .mp _ _=>.map (some (β id))
theorem Q8g(h:(Qw β ρ d (obC c x)).p ok w):(Qbz c (Q0r β ρ c d) x).p ok w:=by
 cases c with
 | sl e u=>exact h
 | mp k v=>exact⟨_,rfl,h⟩
theorem Qqd(h:(Qw β ρ d (obC c x)).p ok w)(b:Nat):(Qw β ρ d (obC c x)).blks b↔Kb (Q0r β ρ c d)=some b:=by
 cases c with
 | sl e u =>
  obtain⟨_,cs,h2,_⟩:=h
  exact Qch h2
 | mp k v=>simp only[obC,Qw,Rl,Q0r,Kb,Option.some.injEq]; exact eq_comm
theorem Qqe{o:Option Ob}(h:Ql6 c o=some x):o=some (obC c x):=by
 unfold Ql6 Jl9 at h
 cases c with
 | sl e u =>
  split at h
  ·rename_i v hv
   split at hv
   ·rename_i e1 u1 e2 u2 ys h1
    injection h1 with h1 h2
    obtain⟨hb,hv⟩:=bvT hv
    injection hv with hv
    subst hv
    have h3:=QJ hb
    obtain⟨q,hx⟩:=Ty.cast_ok h
    cases q
    subst hx; subst h1; subst h3; rfl
   ·rename_i h0; cases h0
   ·cases hv
  ·cases h
 | mp k v =>
  split at h
  ·rename_i v0 hv
   split at hv
   ·rename_i h0; cases h0
   ·rename_i k1 u1 k2 u2 ys h1
    injection hv with hv
    subst hv
    obtain⟨q,hx⟩:=Ty.cast_ok h
    cases q
    subst hx; rfl
   ·cases hv
  ·cases h
end
theorem Jks{τ:Type}{r:RT τ}{e:Nat}{v:Value}{xs:List τ}{ok ok':Ok}(h:(ml v e r xs).p ok w)(hk:∀b o,ok b o→ok' b o)(hown:∀b o,v.ownBlock=some b→b<w.heap.size→ok' b o):isV (rSl r) ok' w xs v:=by
 obtain⟨hl,cs,hown',hr⟩:=h
 rcases hown'.2 with⟨rfl,h0⟩ | ⟨g,cap,cur,fz,hv,_,hh,hfz,hle,hcm,hcs,htk⟩
 ·simp only[Zt]at hl
  have:xs=[]:=XX.1 hl.symm
  subst this; exact Jl5
 ·have hv':=hv
  rw[hl]at hv'
  refine Z3.2 ⟨_,xs.length,cap,hv',rfl,by rw[hl]at hle; omega,fun h0=>⟨g,0,rfl,fun i x hx=>?_⟩⟩
  have hi:=(QK.1 hx).1
  have hrep:=Fu hr hx
  refine⟨_,r.weak hrep hk,fun j u hu=>?_⟩
  have hj:j<r.size:=by have:=(QK.1 hu).1; rw[r.len hrep]at this; exact this
  have hgb:v.ownBlock=some g:=by rw[hv]; rfl
  rw[QE]
  refine⟨hown g _ hgb (Yg hh),?_⟩
  rw[Qtt hh]
  rw[JQ hj,JZ,←htk,JD]at hu
  split at hu
  ·exact hu
  ·cases hu
theorem Jf1{τ:Type}{r:RT τ}{ok:Ok}{xs:List τ}{v u:Value}(hz:zal v u)(h:isV (rSl r) ok w xs u):isV (rSl r) ok w xs v:=by
 rcases hz with rfl | ⟨rfl,A,rfl⟩
 ·exact h
 ·obtain⟨A',n,c,h1,hl,hc,_⟩:=Z3.1 h
  injection h1 with _ h2 h3
  subst h2
  exact Z3.2 ⟨A,0,0,rfl,hl,QB _,fun h0=>by omega⟩
theorem Qub{κ:Type}{rk:RT κ}{e:TypeId}{u:Ty}{ok ok':Ok}:∀{xs:List (κ×List u.De)} {ys:List (κ×Value)} {vs:List Value} {es:List MapEntry},B7 (.sl e u) none undef ok w xs ys vs→Xn rk Jj6 ok' w ys es→(∀b o,ok b o→ok' b o) →
  (∀v∈vs,∀b o,Kb v=some b→b<w.heap.size→ok' b o)→Xn rk (rt (.sl u)) ok' w xs es
 | [],[],[],es,_,hm,_,_=>hm
 | x::xs,y::ys,v::vs,es,⟨h1,h2,h3⟩,⟨en,es',he,m1,⟨cs,⟨hcs,_⟩,m2⟩,m3⟩,hk,ho=>by
  refine⟨en,es',he,by rw[h1]; exact m1,?_,Qub h3 m3 hk fun v hv=>ho v (.tail _ hv)⟩
  have hv:en.val=y.2:=by rw[m2,hcs]; rfl
  rw[hv]
  rcases h2 with⟨q,_⟩ | ⟨_,hz,hp⟩
  ·cases q
  ·exact Jf1 hz (Jks hp hk fun b o hb hlt=>ho v (.head _) b o (by obtain⟨_,cs,q,_⟩:=hp; exact(Qch q).1 hb) hlt)
 | [],[],_::_,_,h,_,_,_=>h.elim
 | [],_::_,_,_,h,_,_,_=>h.elim
 | _::_,[],_,_,h,_,_,_=>h.elim
 | _::_,_::_,[],_,h,_,_,_=>h.elim
theorem Q0s{id:Nat}{vs:List Value}:To (upd ρ id (.tuple vs.toArray) id)=vs:=by rw[Jc]; simp[To]
theorem Jqs{t s:TL}(h:∀g,t.blks g→¬ s.blks g):[t,s].Pairwise fun s t=>∀g,s.blks g→¬ t.blks g :=
 QG.2 ⟨fun u hu=>by simp only[QX,XD,or_false]at hu; subst hu; exact h,QG.2 ⟨by simp,.nil⟩⟩
theorem Qqf{d id:Nat}:∀{l m:List (Nat×Ob)},Js d (l++m)=true→Js d (Ju l id++m)=true
 | [],m,h=>h
 | (k0,o)::l,m,h=>by
  have hl:Js d (l++m)=true:=by
   cases o with
   | mapC k1 v xs hole=>cases hole<;>simp only[QA,Js,QQ]at h<;>exact h.2
   | _=>simp only[QA,Js,QQ]at h; exact h.2
  simp only[Ju]
  cases hb:Nat.beq k0 id with
  | true=>exact hl
  | false =>
   have ih:=Qqf (id:=id) hl
   simp only[cond_false]
   cases o with
   | mapC k1 v xs hole=>cases hole<;>simp only[QA,Js,QQ]at h ⊢<;>exact⟨h.1,ih⟩
   | _=>simp only[QA,Js,QQ]at h ⊢; exact⟨h.1,ih⟩
theorem K9.trans:∀{l1 l2 l3:List TL},K9 l1 l2→K9 l2 l3→K9 l1 l3:=by
 intro l1 l2 l3 h1
 induction h1 generalizing l3 with
 | nil=>intro h2; exact h2
 | cons h r ih =>
  intro h2
  cases h2 with
  | cons k q=>exact .cons ⟨fun g=>(k.1 g).trans (h.1 g),fun b o=>(k.2.1 b o).trans (h.2.1 b o),fun ok w hp=>k.2.2 ok w (h.2.2 ok w hp)⟩ (ih q)
theorem Quc(h:Rel X β ρ S.flat a w){id d:Nat}{kk:Ty}{c:CK}{xs:List (kk.De×c.ty.De)}(hm:Qe S.mem id=some (.mapC kk c xs none))(hq:Qgk S id=true)(hb:okB S d=true){key:kk.De}
  {ys:List (kk.De×Value)} {vs':List Value} {sv:Value} {x:c.ty.De} {es:Array MapEntry} {clock:Nat} (hg:w.heap[β id]?=some (.map es clock)) (hmp:Xn (rt kk) Jj6 (okR X β ρ S.flat.mem w) w ys es.toList)
  (hst:(es.toList.map MapEntry.born).Nodup∧∀e∈es.toList,e.born<clock) (hrel:B7 c (some key) sv (okR X β ρ S.flat.mem w) w xs ys vs') (hnd:(xs.map Prod.fst).Nodup) (hdp:Qh0 vs') (hvg:∀v∈vs',Kb v≠some (β id)) (habs:key∉xs.map Prod.fst→sv=.slice none 0 0)
  (hin:∀s∈vs',s=undef∨s∈To (ρ id)) (hsv:sv=.slice none 0 0∨sv∈To (ρ id)) (hds:∀s∈vs',∀g,Kb s=some g→Kb sv≠some g) (hp:(Qbz c sv x).p (okR X β ρ S.flat.mem w) w) (hsg:Kb sv≠some (β id)) :
  ∃β' ρ',Y4 S ((S.swap id (.mapC kk c xs (some (key,d)))).born d (obC c x)) β β' ρ ρ'∧Rel X β' ρ' ((S.swap id (.mapC kk c xs (some (key,d)))).born d (obC c x)).flat a w:=by
 obtain⟨q1,q2,q3⟩:=Qt9 hq
 obtain⟨b1,b2,b3⟩:=Ga hb
 have hF:=Q8e h hm
 have hid:id≠d:=(Xz b1 (id,.mapC kk c xs none) (QZ _ ((Eh hm).mem_iff.2 (.head _)))).1
 let β':=upd β d ((Kb sv).getD 0)
 let ρ':=upd (upd ρ d sv) id (.tuple vs'.toArray)
 have hβd:β' d=(Kb sv).getD 0:=Jc _ _ _
 have hβo:∀i,i≠d→β' i=β i:=fun i h1=>Zo _ _ h1
 have hρid:To (ρ' id)=vs':=by simp only[ρ',Jc]; simp[To]
 have hρd:ρ' d=sv:=by simp only[ρ',Zo _ _ (fun e:d=id=>hid e.symm),Jc]
 have hρo:∀i,i≠id→i≠d→ρ' i=ρ i:=fun i h1 h2=>by simp only[ρ',Zo _ _ h1,Zo _ _ h2]
 have hρo2:∀i,i≠d→ρ' i=upd ρ id (.tuple vs'.toArray) i:=fun i hi=>by
  simp only[ρ',upd]
  by_cases h1:i=id
  ·simp[h1]
  ·simp[h1,hi]
 have hval:Lw β' ρ' c (some (key,d))=sv:=by
  cases c with
  | sl e u=>exact hρd
  | mp k v =>
   obtain⟨g,hg,_⟩:=hp
   subst hg
   show Value.map (some (β' d))=_
   rw[hβd]; rfl
 have hblk:=Jf0 (β':=β') (ρ':=ρ') (d:=d) hp hβd hρd
 have hblks:∀g,Kb sv=some g→(Qw β ρ id (.mapC kk c xs none)).blks g:=fun g hg=>by
  rcases hsv with rfl | hsv
  ·cases hg
  ·exact .inr ⟨sv,hsv,hg⟩
 have hmap:∀g,(g=β' id∨∃v∈To (ρ' id),Kb v=some g)→(Qw β ρ id (.mapC kk c xs none)).blks g:=fun g hg=>by
  rw[hβo id hid,hρid]at hg
  rcases hg with hg | ⟨s,hs,hg⟩
  ·exact .inl hg
  ·rcases hin s hs with rfl | hs
   ·cases hg
   ·exact .inr ⟨s,hs,hg⟩
 refine⟨β',ρ',⟨rfl,rfl,rfl,fun i hi=>⟨hβo i fun e=>?_,hρo i (fun e=>?_) (fun e=>?_)⟩⟩,?_⟩
 ·subst e; rw[Ze.2 hi]at b3; cases b3
 ·subst e; rw[Ze.2 hi]at q3; cases q3
 ·subst e; rw[Ze.2 hi]at b3; cases b3
 have hfr:=Rel.repl (β':=β') (ρ':=ρ') (env':=Yu d S.env++S.fix) (A':=[(d,obC c x),(id,.mapC kk c xs (some (key,d)))]) hF rfl rfl rfl rfl (L:=[]) (fun _ _=>rfl) (by simp)
  (fun t ht g hg=>⟨_,.head _,?_⟩) (fun t ht b o hc=>⟨_,.head _,?_⟩) (fun _ hok t ht=>?_) ?_ ?_ ?_
 ·exact hfr
 ·simp only[Qf,JV,VA,QX,XD,or_false]at ht
  rcases ht with rfl | rfl
  ·exact hblks g ((hblk g).1 hg)
  ·exact hmap g hg
 ·simp only[Qf,JV,VA,QX,XD,or_false]at ht
  rcases ht with rfl | rfl
  ·exact hblks b ((hblk b).1 (Q8f.1 hc))
  ·exact hmap b hc
 ·have hok':=fun b o hbo=>hok b o (Qua hm hbo)
  simp only[Qf,JV,VA,QX,XD,or_false]at ht
  rcases ht with rfl | rfl
  ·exact Jqr hβd hρd ((Qbz c sv x).weak hp hok')
  ·refine⟨ys,⟨es,clock,by rw[hβo id hid]; exact hg,Vo hmp hok',hst⟩,?_,hnd,?_,?_,?_⟩
   ·rw[hval,hρid]; exact Rm hrel hok'
   ·rw[hρid]; exact hdp
   ·rw[hρid,hβo id hid]; exact hvg
   ·intro k0 hk0 hn
    injection hk0 with hk0
    subst hk0
    rw[hval]; exact habs hn
 ·refine Jqs fun g hg hg2=>?_
  have hg1:=(hblk g).1 hg
  have hg2':g=β' id∨∃v∈To (ρ' id),Kb v=some g:=hg2
  rw[hβo id hid,hρid]at hg2'
  rcases hg2' with rfl | ⟨s,hs,hg2⟩
  ·exact hsg hg1
  ·exact hds s hs g hg2 hg1
 ·exact K9.trans (Qxa Qqc q2) (N6 (d:=d) (fun i hi=>⟨hβo i hi,hρo2 i hi⟩) (Qqf b1))
 ·intro e he
  have hmem:e∈S.flat.env∧Uv d e.av=true:=by
   rcases QW.1 he with he | he
   ·obtain⟨m1,m2⟩:=Qgn he
    exact⟨QZ _ m1,m2⟩
   ·exact⟨QV _ he,Rv b2 e he⟩
  refine⟨hmem.1,fun ok w cs hc=>?_⟩
  exact Gw (β':=β') (ρ':=ρ') (d:=d) (fun i hi=>⟨hβo i hi,hρo2 i hi⟩) hmem.2 (O9 (ρ':=upd ρ id (.tuple vs'.toArray)) Qqc (q1 e hmem.1) hc)
theorem Q0t{R:Type}{k:XS→Option R}{r:R}(h:Rel X β ρ S.flat a w){src:Src}{id d:Nat}(ht:Q0n S src id d k=some r):∃S' β' ρ',Y4 S S' β β' ρ ρ'∧Rel X β' ρ' S'.flat a w∧k S'=some r:=by
 unfold Q0n at ht
 split at ht
 ·rename_i kk c xs hm
  split at ht
  ·split at ht
   ·rename_i key hkey
    obtain⟨hb,ht⟩:=bvT ht
    simp only[QQ]at hb
    obtain⟨⟨hk,hq⟩,hb⟩:=hb
    obtain⟨⟨ys,⟨es,clock,hg,hmp,hst⟩,hrel,hnd,hdp,hvg,_⟩,_⟩:=h.ob (Q0 (m:=S.fixM) hm)
    have hrel:B7 c none undef (okR X β ρ S.flat.mem w) w xs ys (To (ρ id)):=hrel
    cases c with
    | sl e u =>
     have hfind:∃vs' sv x,(Qr key xs).getD []=x∧B7 (.sl e u) (some key) sv (okR X β ρ S.flat.mem w) w xs ys vs'∧(∀s∈vs',s=undef∨s∈To (ρ id))∧(sv=.slice none 0 0∨sv∈To (ρ id))∧Qh0 vs' ∧
       (∀s∈vs',∀g,Kb s=some g→Kb sv≠some g)∧(Qbz (.sl e u) sv x).p (okR X β ρ S.flat.mem w) w∧(key∉xs.map Prod.fst→sv=.slice none 0 0):=by
      rcases Qka hk hrel hnd hdp with⟨r1,r2⟩ | ⟨vs',sv,x,r1,r2,r3,r4,r5,r6,r7⟩
      ·exact⟨_,.slice none 0 0,[],by rw[r1]; rfl,r2 _,fun s hs=>.inr hs,.inl rfl,hdp,(fun s _ g _ e'=>by cases e'),Q8c rfl _ _,fun _=>rfl⟩
      ·exact⟨vs',sv,x,by rw[r1]; rfl,r2,r4,.inr r3,r5,r6,r7,fun hn=>by rw[Qj7 hk hn]at r1; cases r1⟩
     obtain⟨vs',sv,x,f1,f2,f3,f4,f5,f6,f7,f8⟩:=hfind
     obtain⟨β',ρ',g1,g2⟩:=Quc h hm hq hb hg hmp hst f2 hnd f5 (fun v hv=>by
      rcases f3 v hv with rfl | hv
      ·intro e'; cases e'
      ·exact hvg v hv) f8 f3 f4 f6 f7 (by
      rcases f4 with rfl | f4
      ·intro e'; cases e'
      ·exact hvg sv f4)
     have ht:k ((S.swap id (.mapC kk (.sl e u) xs (some (key,d)))).born d (.row e u ((Qr key xs).getD [])))=some r:=ht
     rw[f1]at ht
     exact⟨_,β',ρ',g1,g2,ht⟩
    | mp k2 v2 =>
     have ht:(match Qr key xs with
      | some ys=>k ((S.swap id (.mapC kk (.mp k2 v2) xs (some (key,d)))).born d (.map k2 v2 ys))
      | none=>k S)=some r:=ht
     rcases Qka hk hrel hnd hdp with⟨r1,r2⟩ | ⟨vs',sv,x,r1,r2,r3,r4,r5,r6,r7⟩
     ·rw[r1]at ht
      exact⟨S,β,ρ,⟨rfl,rfl,rfl,agP.refl _ _ _⟩,h,ht⟩
     ·rw[r1]at ht
      obtain⟨β',ρ',g1,g2⟩:=Quc h hm hq hb hg hmp hst r2 hnd r5 (fun v hv=>by
       rcases r4 v hv with rfl | hv
       ·intro e'; cases e'
       ·exact hvg v hv) (fun hn=>by rw[Qj7 hk hn]at r1; cases r1) r4 (.inr r3) r6 r7 (hvg sv r3)
      exact⟨_,β',ρ',g1,g2,ht⟩
   ·cases ht
  ·cases ht
 ·cases ht
theorem Qkh(h:Rel X β ρ S.flat a w){id h1:Nat}{o o1:Ob}(hm:Qe S.mem id=some o)(hm1:Qe S.mem h1=some o1)(hne:id≠h1) :
  Rel X β ρ ⟨S.flat.env,[(h1,o1),(id,o)]++(Ju (Ju S.mem h1) id++S.fixM)⟩ a w∧(∀{b f:Nat},okR X β ρ S.flat.mem w b f→okR X β ρ ([(h1,o1),(id,o)]++(Ju (Ju S.mem h1) id++S.fixM)) w b f) ∧
  ∀g,(Qw β ρ h1 o1).blks g→¬ (Qw β ρ id o).blks g:=by
 have hm2:Qe (Ju S.mem h1) id=some o:=by rw[Qqa hne]; exact hm
 have hpm:S.flat.mem.Perm ([(h1,o1),(id,o)]++(Ju (Ju S.mem h1) id++S.fixM)):=((Eh hm1).append_right S.fixM).trans (((Eh hm2).append_right S.fixM).cons (h1,o1))
 have hF:=Rel.permM (env:=S.flat.env) (m:=S.flat.mem) h hpm
 refine⟨hF,fun hbo=>⟨hbo.1,hbo.2.1,hbo.2.2.1,fun t ht=>hbo.2.2.2 t ((hpm.map _).mem_iff.2 ht)⟩,?_⟩
 have hOO:(Qf β ρ ([(h1,o1),(id,o)]++(Ju (Ju S.mem h1) id++S.fixM))).Pairwise fun s t=>∀g,s.blks g→¬ t.blks g:=hF.dOO
 exact(QG.1 hOO).1 (Qw β ρ id o) (.head _)
theorem Q0u(h:Rel X β ρ S.flat a w){id h1:Nat}{kk:Ty}{c:CK}{xs:List (kk.De×c.ty.De)}{hole:Option (kk.De×Nat)}{x0:c.ty.De}(hm:Qe S.mem id=some (.mapC kk c xs hole))(hm1:Qe S.mem h1=some (obC c x0))(hne:id≠h1)
  (hq:Qgk { S with mem:=Ju S.mem h1 } id=true) {xs':List (kk.De×c.ty.De)} {vs':List Value} (hin:∀s∈vs',s=Q0r β ρ c h1∨s∈To (ρ id)) (hos:w'.os=w.os) (htp:w'.tape=w.tape) (hout:w'.output=w.output) (hsz:w.heap.size=w'.heap.size) (hblk:∀b,b≠β id→w'.heap[b]?=w.heap[b]?)
  (hp:∀ok',Evo (okR X β ρ S.flat.mem w) w w'→(∀b o,okR X β ρ S.flat.mem w b o→ok' b o)→Je7 (β id) (rt kk) c vs' xs' none undef ok' w') :
  Y4 S (XS.swap { S with mem:=Ju S.mem h1 } id (.mapC kk c xs' none)) β β ρ (upd ρ id (.tuple vs'.toArray))∧Rel X β (upd ρ id (.tuple vs'.toArray)) (XS.swap { S with mem:=Ju S.mem h1 } id (.mapC kk c xs' none)).flat a w':=by
 obtain⟨hF,hokF,hdis⟩:=Qkh h hm hm1 hne
 obtain⟨q1,q2,q3⟩:=Qt9 hq
 obtain⟨hpc,_⟩:=h.ob (Q0 (m:=S.fixM) hm1)
 refine⟨⟨rfl,rfl,rfl,Wf q3 fun i hi=>⟨rfl,Qqc i hi⟩⟩,?_⟩
 have hbl:∀g,(g=β id∨∃v∈To (upd ρ id (.tuple vs'.toArray) id),Kb v=some g)→∃s∈Qf β ρ [(h1,obC c x0),(id,.mapC kk c xs hole)],s.blks g∧∀o,s.cov g o:=by
  intro g hg
  rw[Q0s]at hg
  rcases hg with hg | ⟨s,hs,hg⟩
  ·exact⟨_,.tail _ (.head _),.inl hg,fun _=>.inl hg⟩
  ·rcases hin s hs with rfl | hs
   ·have:=(Qqd hpc g).2 hg
    exact⟨_,.head _,this,fun o=>Q8f.2 this⟩
   ·exact⟨_,.tail _ (.head _),.inr ⟨s,hs,hg⟩,fun _=>.inr ⟨s,hs,hg⟩⟩
 refine Rel.repl (a:=a) (w':=w') (ρ':=upd ρ id (.tuple vs'.toArray)) (env':=S.flat.env) (A':=[(id,.mapC kk c xs' none)]) hF hos htp hout hsz (L:=[β id]) (fun b hb=>hblk b (by simpa using hb)) ?_ ?_ ?_ ?_ (by simp) (Qxa Qqc q2) fun e he=>⟨he,fun ok w cs hc=>O9 Qqc (q1 e he) hc⟩
 ·intro g hg'
  have:g=β id:=by simpa using hg'
  exact⟨Qw β ρ id (.mapC kk c xs hole),by simp[Qf],fun o=>.inl this⟩
 ·intro t ht g hg'
  have:t=Qw β (upd ρ id (.tuple vs'.toArray)) id (.mapC kk c xs' none):=by simpa[Qf]using ht
  subst this
  obtain⟨s,s1,s2,_⟩:=hbl g hg'
  exact⟨s,s1,s2⟩
 ·intro t ht b o hc
  have:t=Qw β (upd ρ id (.tuple vs'.toArray)) id (.mapC kk c xs' none):=by simpa[Qf]using ht
  subst this
  obtain⟨s,s1,_,s2⟩:=hbl b hc
  exact⟨s,s1,s2 o⟩
 ·intro hevo hok t ht
  have:t=Qw β (upd ρ id (.tuple vs'.toArray)) id (.mapC kk c xs' none):=by simpa[Qf]using ht
  subst this
  have:=hp _ (hevo.mono fun b o hbo=>hokF hbo) (fun b o hbo=>hok b o (hokF hbo))
  show Je7 _ _ _ (To (upd ρ id (.tuple vs'.toArray) id)) _ _ _ _ _
  rw[Q0s]; exact this
theorem Qud{R:Type}{k:XS→Option R}{r:R}(h:Rel X β ρ S.flat a w){id:Nat}(ht:Qp0 S id k=some r):∃S' ρ',Y4 S S' β β ρ ρ'∧Rel X β ρ' S'.flat a w∧k S'=some r:=by
 unfold Qp0 at ht
 split at ht
 ·rename_i kk c xs q hm
  split at ht
  ·rename_i ys0 hy
   obtain⟨hb,ht⟩:=bvT ht
   simp only[QQ]at hb
   obtain⟨hb,hmp0⟩:=hb
   cases c with
   | sl e u=>cases hmp0
   | mp k2 v2 =>
   have hm1:=Qqe hy
   have hne:id≠q.2:=fun e=>by rw[←e,hm]at hm1; cases hm1
   obtain⟨⟨ys,⟨es,clock,hg,hmp,hst⟩,hrel,hnd,hdp,hvg,habs⟩,_⟩:=h.ob (Q0 (m:=S.fixM) hm)
   obtain⟨hpc,_⟩:=h.ob (Q0 (m:=S.fixM) hm1)
   have hdis:=(Qkh h hm hm1 hne).2.2
   have hin:q.1∈xs.map Prod.fst:=by
    apply Classical.byContradiction
    intro hn
    have:=habs q.1 rfl hn
    cases this
   have hsd:∀g,Kb (Q0r β ρ (.mp k2 v2) q.2)=some g→¬ (Qw β ρ id (.mapC kk (.mp k2 v2) xs (some q))).blks g:=fun g hg=>hdis g ((Qqd hpc g).2 hg)
   obtain⟨vs',r1,r2,r3⟩:=Qpu (c:=.mp k2 v2) hb.2 (Q8g hpc) (show B7 (.mp k2 v2) (some q.1) (Q0r β ρ (.mp k2 v2) q.2) _ w xs ys _ from hrel) hin hnd hdp (fun s hs g hg hg2=>hsd g hg2 (.inr ⟨s,hs,hg⟩))
   obtain⟨g1,g2⟩:=Q0u (w':=w) h hm hm1 hne hb.1 r3 rfl rfl rfl rfl (fun _ _=>rfl) (xs':=J9 q.1 ys0 xs) fun ok' _ hok =>
    ⟨ys,⟨es,clock,hg,Vo hmp hok,hst⟩,Rm r1 hok,(Lo hb.2 _ _ hnd).1,r2,fun v hv e=>by
     rcases r3 v hv with rfl | hv
     ·exact hsd _ e (.inl rfl)
     ·exact hvg v hv e,fun _ e=>by cases e⟩
   exact⟨_,_,g1,g2,ht⟩
  ·cases ht
 ·exact⟨S,ρ,⟨rfl,rfl,rfl,agP.refl _ _ _⟩,h,ht⟩
 ·cases ht
theorem Q0v{R:Type}{k:XS→Option R}{r:R}(h:Rel X β ρ S.flat a w){id:Nat}(ht:Q0m S id k=some r):∃S',Y4 S S' β β ρ ρ∧Rel X β ρ S'.flat a w∧k S'=some r:=by
 unfold Q0m at ht
 split at ht
 ·rename_i kk e u xs hm
  refine⟨S.swap id (.map kk (.sl u) xs),⟨rfl,rfl,rfl,agP.refl _ _ _⟩,?_,ht⟩
  have hF:=Q8e h hm
  obtain⟨⟨ys,⟨es,clock,hg,hmp,hst⟩,hrel,hnd,_,hvg,_⟩,hmine⟩:=h.ob (Q0 (m:=S.fixM) hm)
  have hrel:B7 (.sl e u) none undef (okR X β ρ S.flat.mem w) w xs ys (To (ρ id)):=hrel
  have hOO:(Qf β ρ ([(id,.mapC kk (.sl e u) xs none)]++(Ju S.mem id++S.fixM))).Pairwise fun s t=>∀g,s.blks g→¬ t.blks g:=hF.dOO
  have hdis:=(QG.1 hOO).1
  refine Rel.repl (A':=[(id,.map kk (.sl u) xs)]) hF rfl rfl rfl rfl (L:=[]) (fun _ _=>rfl) (by simp) ?_ ?_ ?_ (by simp) (K9.refl _) fun e he=>⟨he,fun ok w cs hc=>hc⟩
  ·intro t ht g hg
   have:t=Qw β ρ id (.map kk (.sl u) xs):=by simpa[Qf]using ht
   subst this
   exact⟨_,.head _,.inl hg⟩
  ·intro t ht b o hc
   have:t=Qw β ρ id (.map kk (.sl u) xs):=by simpa[Qf]using ht
   subst this
   exact⟨_,.head _,.inl hc⟩
  ·intro _ hok t ht
   have:t=Qw β ρ id (.map kk (.sl u) xs):=by simpa[Qf]using ht
   subst this
   have hok':=fun b o hbo=>hok b o (Qua hm hbo)
   refine⟨es,clock,hg,?_,hnd,hst⟩
   refine Qub hrel (Vo hmp hok') hok' fun v hv b o hb hlt=>?_
   refine⟨X.mine_ok (hmine b (.inr ⟨v,hv,hb⟩)) o,hlt,by simp,fun t ht hc=>?_⟩
   rcases QW.1 ht with ht | ht
   ·have:t=Qw β ρ id (.map kk (.sl u) xs):=by simpa[Qf]using ht
    subst this
    have hc':b=β id:=hc
    subst hc'
    exact hvg v hv hb
   ·exact hdis t ht b (.inr ⟨v,hv,hb⟩) (t.cb hc)
 ·cases ht
end
section
variable {P:Program} {Y:TX} {X:Cx} {S:XS} {β β':Nat→Nat} {ρ ρ':Nat→Value} {a a':Act} {w w':World} {n:Nat}
variable {ops:Array Oper} {Q:Exit→Act→World→Prop} {rest:List Oper} {R:Type} {k:XS→Option R} {r:R}
theorem Jpa(hT:Q4 P Y.T)(h:Rel X β ρ S.flat a w){o:Oper}(hw:Region.wanted o (yielded ops a.tmps)=true){t:TypeId}{m ky x:Operand}(hop:o.op=.mapUpdate t m ky x)(hd:o.dst=none){te tk:TE}{kt et:TypeId}(hte:Qh Y.T t=some te)(htd:te.d=.map kt et)(htk:Qh Y.T kt=some tk)
  {id:Nat} {kv xv:AV} {kk:Ty} {c:CK} {xs:List (kk.De×c.ty.De)} {hole:Option (kk.De×Nat)} {key:kk.De} (hm:S.ev [] m=some (.m id)) (hkv:S.ev [] ky=some kv) (hx:S.ev [] x=some xv) (hmo:Qe S.mem id=some (.mapC kk c xs hole)) (hkey:asD [] kv kk=some key)
  (hdk:Yt Y.T kk tk.d=true) (hka:(kk.agg==kv.isAgg)=true) (hs:Jkl S id kk c xs hole key xv k=some r) (H:KOk P ops Q rest X S β ρ k r):wpList P ops Q (o::rest) a w:=by
 unfold Jkl at hs
 split at hs
 ·rename_i h1 hid
  split at hs
  ·rename_i x0 hx0
   obtain⟨hb,hs⟩:=bvT hs
   simp only[QQ]at hb
   have hne:id≠h1:=fun e=>by rw[e]at hb; simp at hb
   obtain⟨_,hch,hk⟩:=Yi hs
   have hkk:=Jx hdk
   have hhole:∀kh,Qz2 hole=some kh→kh=key:=by
    unfold chk at hch
    have hch:=(bvT hch).1
    intro kh hkh
    cases hole with
    | none=>cases hkh
    | some q =>
     injection hkh with hkh
     subst hkh
     cases c with
     | sl e u=>exact((Zd hkk).1 hch).symm
     | mp k v=>cases hch
   have hm1:=Qqe hx0
   obtain⟨c1,e1,e2⟩:=h.ev (Qc a) hm
   have e2':c1=[.map (some (β id))]:=e2
   subst e2'
   have e1':a.eval m=.map (some (β id)):=e1
   obtain⟨c3,h3,h4⟩:=h.ev (Qc a) hkv
   have hkr:isV (rt kk) (okR X β ρ S.flat.mem w) w key (a.eval ky):=by
    refine⟨c3,Z4 (M:=[]) (β:=β) (ρ:=ρ) (by simp[Qe]) hkey h4,?_⟩
    rw[h3]; simp only[AV.val,RT.val,B6,bEq hka]; cases kv.isAgg<;>rfl
   have hke:=W7 hkk hkr
   obtain⟨c5,h5,h6⟩:=h.ev (Qc a) hx
   obtain⟨hpc,_⟩:=h.ob (Q0 (m:=S.fixM) hm1)
   have hnv:zal (a.eval x) (Q0r β ρ c h1)∧(a.eval x).oneCell'=true:=by
    cases c with
    | sl e u =>
     cases xv<;>simp only[idC]at hid<;>first | (cases hid; done) | skip
     injection hid with hid
     subst hid
     obtain⟨⟨v0,rfl,hz⟩,hform⟩:=h6
     have:a.eval x=v0:=h5
     rw[this]
     obtain⟨A,n,c,rfl⟩:=hz.form hform
     exact⟨hz,rfl⟩
    | mp k v =>
     cases xv<;>simp only[idC]at hid<;>first | (cases hid; done) | skip
     injection hid with hid
     subst hid
     have h6':c5=[.map (some (β _))]:=h6
     subst h6'
     have:a.eval x=.map (some (β _)):=h5
     rw[this]; exact⟨.inl rfl,rfl⟩
   obtain⟨⟨ys,⟨es,clock,hg,hmp,hst⟩,hrel,hnd,hdp,hvg,habs⟩,_⟩:=h.ob (Q0 (m:=S.fixM) hmo)
   have hdis:=(Qkh h hmo hm1 hne).2.2
   have hsd:∀g,Kb (Q0r β ρ c h1)=some g→¬ (Qw β ρ id (.mapC kk c xs hole)).blks g:=fun g hg=>hdis g ((Qqd hpc g).2 hg)
   obtain⟨vs',r1,r2,r3⟩:=Q0g hkk hnv.1 (Q8g hpc) hhole hrel hnd hdp (fun s hs g hg hg2=>hsd g hg2 (.inr ⟨s,hs,hg⟩))
   obtain⟨es',clock',hrun,hp',hst'⟩:=Qfq hT hte htd htk hdk hg hmp hst key (s:=Jj6) (y:=a.eval x) (v:=a.eval x) ⟨[a.eval x],⟨rfl,hnv.2⟩,rfl⟩
   have hrun':(execOp a.eval o).run P w=.ok .skip { w with heap:=w.heap.setIfInBounds (β id) (.map es' clock') }:=by
    unfold execOp
    rw[hop]
    simp only[e1',hke]
    simp[hrun]
   refine Jk hw ?_
   unfold Oper.wp
   rw[hrun']
   show wpList P ops Q rest (a.put o.dst undef) _
   rw[hd]
   have hne2:∀b,b≠β id→(w.heap.setIfInBounds (β id) (.map es' clock'))[b]?=w.heap[b]?:=fun b hb=>(MapKept.heap_set hg).2 b hb
   obtain⟨g1,g2⟩:=Q0u (w':={ w with heap:=w.heap.setIfInBounds (β id) (.map es' clock') }) h hmo hm1 hne hb.1 r3 rfl rfl rfl (by simp) hne2 (xs':=J9 key x0 xs) fun ok' hevo hok =>
    ⟨J9 key (a.eval x) ys,⟨es',clock',(MapKept.heap_set hg).1,Vo (W6 hp' hevo) hok,hst'⟩,Rm (Qpn r1 (fun v hv b hvb=>hne2 b fun e=>by
     subst e
     rcases r3 v hv with rfl | hv
     ·exact hsd _ hvb (.inl rfl)
     ·exact hvg v hv hvb) hevo) hok,(Lo hkk _ _ hnd).1,r2,fun v hv e=>by
     rcases r3 v hv with rfl | hv
     ·exact hsd _ e (.inl rfl)
     ·exact hvg v hv e,fun _ e=>by cases e⟩
   exact H β _ _ _ _ hk g1 g2
  ·cases hs
 ·cases hs
end
end Gx
