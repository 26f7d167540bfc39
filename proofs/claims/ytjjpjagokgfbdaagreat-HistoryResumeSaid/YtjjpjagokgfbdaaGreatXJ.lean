/- States by their shapes. -/
import Derived.Test.YtjjpjagokgfbdaaGreatXH
namespace Gd
open Go Go.RowKit
section
variable {β:Nat→Nat} {X:Cx} {G:GL} {D:List DF} {H:HL} {O:List TL} {a:Act} {w w':World}
theorem Sb.remake{O':List TL}(h:Sb β X G D H O a w)
  (hp:∀t'∈O',(∃t∈O,(∀g,t'.blks g→t.blks g)∧(∀b o,t'.cov b o→t.cov b o)∧t'.p (Jf X.ok X.w.heap.size β H O w) w)∨((∀g,¬ t'.blks g)∧∀ok w,t'.p ok w))
  (hd:O'.Pairwise fun s t=>∀g,s.blks g→¬ t.blks g):Sb β X G D H O' a w:=by
 have kj:∀b o,Jf X.ok X.w.heap.size β H O w b o→Jf X.ok X.w.heap.size β H O' w b o:=by
  rintro b o ⟨h1,h2,h3,h4⟩
  refine⟨h1,h2,h3,fun u hu hc=>?_⟩
  rcases hp u hu with⟨t,ht,_,h6,_⟩ | ⟨h5,_⟩
  ·exact h4 t ht (h6 b o hc)
  ·exact h5 b (u.cb hc)
 refine { sz:=h.sz,df:=h.df,fr:=h.fr,pn:=h.pn,tm:=h.tm,bel:=h.bel,dat:=h.dat.weak kj,obj:=h.obj,own:=fun u hu=>?_,dHH:=h.dHH,dHO:=fun p xm u hu hg=>?_,dOO:=hd }
 ·rcases hp u hu with⟨t,ht,h5,_,h7⟩ | ⟨h5,h6⟩
  ·exact⟨u.weak h7 kj,fun g hg=>(h.own t ht).2 g (h5 g hg)⟩
  ·exact⟨h6 _ _,fun g hg=>absurd hg (h5 g)⟩
 ·rcases hp u hu with⟨t,ht,h5,_⟩ | ⟨h5,_⟩
  ·exact h.dHO p xm t ht (h5 _ hg)
  ·exact h5 _ hg
end
end Gd
namespace Gx
open Go Go.RowKit Gd
set_option linter.unusedVariables false
set_option linter.unusedSimpArgs false
section
variable {X:Cx} {β:Nat→Nat} {ρ:Nat→Value} {S:St} {a:Act} {w w':World}
theorem Rz:∀{M:List (Nat×Ob)} {c:Nat} {o:Ob},Qe M c=some o→(c,o)∈M
 | q::l,c,o,h=>by
  obtain⟨l1,l2,h1,_⟩:=Jj h
  rw[h1]; simp
theorem Rel.disj(h:Rel X β ρ S a w){c c':Nat}{o o':Ob}(h1:Qe S.mem c=some o)(h2:Qe S.mem c'=some o')(k8:c≠c'):∀g,(Qx β ρ c o).blks g→¬ (Qx β ρ c' o').blks g:=by
 obtain⟨l1,l2,hl,_⟩:=Jj h1
 have hm:=Rz h2
 have hp:((l1++(c,o)::l2).map fun q=>Qx β ρ q.1 q.2).Pairwise fun s t=>∀g,s.blks g→¬ t.blks g:=by rw[←hl]; exact h.dOO
 rw[JK,JW]at hp
 have eu:=QM.1 hp
 have sx:=QG.1 eu.2.1
 rw[hl]at hm
 intro g hg zt
 rcases QW.1 hm with hm | hm
 ·exact eu.2.2 _ (QY.2 ⟨_,hm,rfl⟩) _ (.head _) g zt hg
 ·rcases QX.1 hm with hm | hm
  ·injection hm with e _; exact k8 e.symm
  ·exact sx.1 _ (QY.2 ⟨_,hm,rfl⟩) g hg zt
theorem Rel.freeze1{env:List En}{l1 l2:List (Nat×Ob)}{id:Nat}{e:TypeId}{t:Ty}{xs:List t.De}(h:Rel X β ρ ⟨env,l1++(id,.row e t xs)::l2⟩ a w)(hs:Nat.ble 1 t.size=true) :
  Rel X β ρ ⟨env,l1++(id,.tail e t xs)::l2⟩ a w:=by
 unfold Rel at h ⊢
 simp only[Qg,JK,JW]at h ⊢
 have h1:=h.perm (O':=Qx β ρ id (.row e t xs)::(l1.map (fun q=>Qx β ρ q.1 q.2)++l2.map (fun q=>Qx β ρ q.1 q.2))) XK
 obtain⟨⟨hl,cs,kb,hr⟩,_⟩:=h1.own _ (.head _)
 obtain⟨A,c,hv⟩:∃A c,ρ id=.slice A xs.length c:=by
  rcases kb.2 with⟨hv,h0⟩ | ⟨g,cap,cur,fz,hv,_⟩
  ·exact⟨none,0,by rw[hv,←hl,h0]⟩
  ·exact⟨_,cap,by rw[hv,hl]⟩
 have hO:Qx β ρ id (.row e t xs)=ml (.slice A xs.length c) e (rt t) xs:=by simp only[Qx,hv]
 rw[hO]at h1
 have h2:=h1.freeze rfl (by rw[Ji]; exact hs)
 have nz:isV (rSl (rt t)) _ w xs (.slice A xs.length c):=h2.d 0 rfl
 have h3:={ h2 with dat:=h2.dat.2 }
 have h4:Sb (fun _=>0) X [] (List.map (enD β ρ a) env) [] (Qx β ρ id (.tail e t xs)::(l1.map (fun q=>Qx β ρ q.1 q.2)++l2.map (fun q=>Qx β ρ q.1 q.2))) a w:=by
  refine Sb.remake h3 (fun u hu=>?_) ?_
  ·rcases QX.1 hu with rfl | hu
   ·refine .inl ⟨_,.head _,fun g hg=>?_,fun b o hc=>?_,?_⟩
    ·have yi:(ρ id).ownBlock=some g:=hg
     rw[hv]at yi; exact yi
    ·have yp:(ρ id).ownBlock=some b∧Zv (ρ id)*(rt t).size≤o:=hc
     rw[hv]at yp; exact yp
    ·simp only[Qx,Qck,hv]
     exact⟨nz,(h3.own _ (.head _)).1⟩
   ·exact .inl ⟨u,.tail _ hu,fun _ hg=>hg,fun _ _ hc=>hc,(h3.own u (.tail _ hu)).1⟩
  ·have:=QG.1 h3.dOO
   refine QG.2 ⟨fun u hu g hg=>this.1 u hu g ?_,this.2⟩
   have yi:(ρ id).ownBlock=some g:=hg
   rw[hv]at yi; exact yi
 exact h4.perm XK.symm
theorem Rel.freeze:∀(l:List (Nat×Ob)) {l0 F:List (Nat×Ob)} {env:List En} {ks:List Nat},Rel X β ρ ⟨env,l0++l++F⟩ a w→Rel X β ρ ⟨env,l0++Y4 ks l++F⟩ a w
 | [],l0,F,env,ks,h=>h
 | (id,.row e t xs)::l,l0,F,env,ks,h=>by
  simp only[Y4]
  cases hb:(Yb ks id&&Nat.ble 1 t.size)with
  | true =>
   simp only[cond_true]
   simp only[QQ]at hb
   have h1:Rel X β ρ ⟨env,l0++(id,.row e t xs)::(l++F)⟩ a w:=by simpa using h
   have h2:=h1.freeze1 hb.2
   have h3:=Rel.freeze l (l0:=l0++[(id,.tail e t xs)]) (F:=F) (ks:=ks) (by simpa using h2)
   simpa using h3
  | false =>
   simp only[cond_false]
   have h3:=Rel.freeze l (l0:=l0++[(id,.row e t xs)]) (F:=F) (ks:=ks) (by simpa using h)
   simpa using h3
 | (id,.var t c)::l,l0,F,env,ks,h=>by
  have h3:=Rel.freeze l (l0:=l0++[(id,.var t c)]) (F:=F) (ks:=ks) (by simpa using h)
  simpa[Y4]using h3
 | (id,.tail e t xs)::l,l0,F,env,ks,h=>by
  have h3:=Rel.freeze l (l0:=l0++[(id,.tail e t xs)]) (F:=F) (ks:=ks) (by simpa using h)
  simpa[Y4]using h3
 | (id,.map k v xs)::l,l0,F,env,ks,h=>by
  have h3:=Rel.freeze l (l0:=l0++[(id,.map k v xs)]) (F:=F) (ks:=ks) (by simpa using h)
  simpa[Y4]using h3
 | (id,.mapC k v xs hole)::l,l0,F,env,ks,h=>by
  have h3:=Rel.freeze l (l0:=l0++[(id,.mapC k v xs hole)]) (F:=F) (ks:=ks) (by simpa using h)
  simpa[Y4]using h3
 | (id,.mapE k v xs key j)::l,l0,F,env,ks,h=>by
  have h3:=Rel.freeze l (l0:=l0++[(id,.mapE k v xs key j)]) (F:=F) (ks:=ks) (by simpa using h)
  simpa[Y4]using h3
theorem Qxg:∀{ts:List Ty} {l:List DV} {x:Tup ts},ofL ts l=some x→toL ts x=l
 | [],l,x,h=>by
  cases l with
  | nil=>rfl
  | cons _ _=>simp[ofL]at h
 | [t],l,x,h=>by
  match l,h with
  | [v],h =>
   obtain⟨e,hx⟩:=Ty.cast_ok (by simpa[ofL]using h)
   obtain⟨u,y⟩:=v
   simp only at e
   subst e
   simp only at hx
   subst hx
   rfl
  | [],h=>simp[ofL]at h
  | _::_::_,h=>simp[ofL]at h
 | t::u::ts,l,x,h=>by
  match l,h with
  | [],h=>simp[ofL]at h
  | v::vs,h =>
   simp only[ofL]at h
   split at h
   ·rename_i a b ha hb
    simp at h; subst h
    obtain⟨e,hx⟩:=Ty.cast_ok ha
    obtain⟨s,y⟩:=v
    simp only at e
    subst e
    simp only at hx
    subst hx
    have:=Qxg hb
    simp only[toL,this]
   ·cases h
def Hz(ri:List (Nat×Nat))(β:Nat→Nat):Nat→Nat:=fun i=>match Jq ri i with
 | some c=>β c
 | none=>β i
def Hp(ri:List (Nat×Nat))(pr:List Nat)(ρ:Nat→Value):Nat→Value:=fun i=>match Jq ri i with
 | some c=>ρ c
 | none=>bif Yb pr i then ρ i else .slice none 0 0
theorem CK.beq_eq:∀{a b:CK},CK.beq a b=true→a=b
 | .sl e u,.sl e' u',h=>by
  simp only[CK.beq,QQ]at h
  rw[QJ h.1,Ty.beq_eq h.2]
 | .mp k v,.mp k' v',h=>by
  simp only[CK.beq,QQ]at h
  rw[Ty.beq_eq h.1,Ty.beq_eq h.2]
 | .sl _ _,.mp _ _,h=>by cases h
 | .mp _ _,.sl _ _,h=>by cases h
theorem Qeq{ri:List (Nat×Nat)}{i c:Nat}(h:Q5t ri i c=true):Jq ri i=some c:=by
 unfold Q5t at h
 split at h
 ·rename_i j hj; rw[hj,QJ h]
 ·cases h
theorem Qkk:∀{p q:List PS},Qw7 p q=true→p=q
 | [],[],_=>rfl
 | a::l,b::m,h=>by
  simp only[Qw7,QQ]at h
  have h2:=Qkk h.2
  have h1:=h.1
  cases a<;>cases b<;>simp only[PS.beq,QQ]at h1<;>first | (cases h1; done) | skip
  rw[QJ h1.1,QJ h1.2,h2]
 | [],_::_,h=>by cases h
 | _::_,[],h=>by cases h
theorem Qer{α:Type}{x:Option α}(h:isNone x=true):x=none:=by cases x with
 | none=>rfl
 | some _=>cases h
variable {ok:Ok} {M:List (Nat×Ob)} {ri:List (Nat×Nat)} {pr:List Nat}
theorem C7(hM:∀id o,Qe M id=some o→(Qx β ρ id o).p ok w) :
  ∀{sk:Sk} {m:Bool} {x:AV} {cs:List Value} {l:List DV} (rest:List DV),V3 M ri pr sk x=some l→cr β ρ ok w m x cs→(m=true→sk.isL=true) →
   ∃y,L6 sk (l++rest)=(y,rest)∧cr (Hz ri β) (Hp ri pr ρ) ok w m y cs∧y.isAgg=x.isAgg
 | .d t,true,x,cs,l,rest,h,hc,hm=>by cases hm rfl
 | .d t,false,x,cs,l,rest,h,hc,hm=>by
  simp only[V3]at h
  split at h
  ·rename_i y hy
   obtain⟨hb,h⟩:=bvT h
   simp at h; subst h
   exact⟨.d t y,rfl,Z6 hM hy hc,bEq hb⟩
  ·cases h
 | .p id path,true,x,cs,l,rest,h,hc,hm=>by cases hm rfl
 | .p id path,false,x,cs,l,rest,h,hc,hm=>by
  cases x<;>simp only[V3]at h<;>first | (cases h; done) | skip
  rename_i c path'
  obtain⟨hb,h⟩:=bvT h
  simp only[QQ]at hb
  simp at h; subst h
  have h1:=Qeq hb.1
  have h2:=Qkk hb.2
  subst h2
  refine⟨.p id path,rfl,?_,rfl⟩
  have yp:cs=[.pointer (some ⟨β c,J8 path,none⟩)]:=hc
  show cs=[.pointer (some ⟨Hz ri β id,J8 path,none⟩)]
  rw[yp]; simp only[Hz,h1]
 | .s id,true,x,cs,l,rest,h,hc,hm=>by cases hm rfl
 | .s id,false,x,cs,l,rest,h,hc,hm=>by
  cases x<;>simp only[V3]at h<;>first | (cases h; done) | skip
  ·rename_i c
   obtain⟨hb,h⟩:=bvT h
   simp only[QQ]at hb
   simp at h; subst h
   have h1:=Qeq hb.1
   refine⟨.s id,rfl,?_,rfl⟩
   obtain⟨h2,h3⟩:=hc
   have e:Hp ri pr ρ id=ρ c:=by simp only[Hp,h1]
   exact⟨by rw[e]; exact h2,by rw[e]; exact h3⟩
  ·obtain⟨hb,h⟩:=bvT h
   simp only[QQ]at hb
   simp at h; subst h
   have h1:=Qer hb.1
   refine⟨.s id,rfl,?_,rfl⟩
   have yp:cs=[.slice none 0 0]:=hc
   have e:Hp ri pr ρ id=.slice none 0 0:=by
    simp only[Hp,h1]
    have:=hb.2
    cases hp:Yb pr id with
    | true=>rw[hp]at this; cases this
    | false=>rfl
   exact⟨⟨_,yp,.inl e.symm⟩,none,0,0,e⟩
 | .m id,true,x,cs,l,rest,h,hc,hm=>by cases hm rfl
 | .m id,false,x,cs,l,rest,h,hc,hm=>by
  cases x<;>simp only[V3]at h<;>first | (cases h; done) | skip
  rename_i c
  obtain⟨hb,h⟩:=bvT h
  simp at h; subst h
  have h1:=Qeq hb
  refine⟨.m id,rfl,?_,rfl⟩
  have yp:cs=[.map (some (β c))]:=hc
  show cs=[.map (some (Hz ri β id))]
  rw[yp]; simp only[Hz,h1]
 | .ns,true,x,cs,l,rest,h,hc,hm=>by cases hm rfl
 | .ns,false,x,cs,l,rest,h,hc,hm=>by cases x<;>simp[V3]at h; subst h; exact⟨.ns,rfl,hc,rfl⟩
 | .np,true,x,cs,l,rest,h,hc,hm=>by cases hm rfl
 | .np,false,x,cs,l,rest,h,hc,hm=>by cases x<;>simp[V3]at h; subst h; exact⟨.np,rfl,hc,rfl⟩
 | .nm,true,x,cs,l,rest,h,hc,hm=>by cases hm rfl
 | .nm,false,x,cs,l,rest,h,hc,hm=>by cases x<;>simp[V3]at h; subst h; exact⟨.nm,rfl,hc,rfl⟩
 | .nf,true,x,cs,l,rest,h,hc,hm=>by cases hm rfl
 | .nf,false,x,cs,l,rest,h,hc,hm=>by cases x<;>simp[V3]at h; subst h; exact⟨.nf,rfl,hc,rfl⟩
 | .z,true,x,cs,l,rest,h,hc,hm=>by cases hm rfl
 | .z,false,x,cs,l,rest,h,hc,hm=>by cases x<;>simp[V3]at h; subst h; exact⟨.z,rfl,hc,rfl⟩
 | .f fn c,true,x,cs,l,rest,h,hc,hm=>by cases hm rfl
 | .f fn c,false,x,cs,l,rest,h,hc,hm=>by
  cases x<;>simp only[V3]at h<;>first | (cases h; done) | skip
  rename_i fn' x'
  obtain⟨hb,h0⟩:=bvT h
  simp only[QQ]at hb
  have h1:=QJ hb.1
  subst h1
  obtain⟨vs,h2,h3⟩:=hc
  obtain⟨y,h4,h5,_⟩:=C7 hM (m:=true) rest h0 h3 fun _=>hb.2
  exact⟨.f fn y,by simp only[L6,h4],⟨vs,h2,h5⟩,rfl⟩
 | .ag s,true,x,cs,l,rest,h,hc,hm=>by cases hm rfl
 | .ag s,false,x,cs,l,rest,h,hc,hm=>by
  simp only[V3]at h
  split at h
  ·rename_i y hy
   obtain⟨z0,h1,h2,_⟩:=C7 hM (m:=false) rest h (Qj8 hy hc) fun e=>by cases e
   refine⟨.ag z0,by simp only[L6,h1],h2,?_⟩
   unfold Tv at hy
   split at hy<;>first | rfl | cases hy
  ·cases h
 | .nil,m,x,cs,l,rest,h,hc,hm=>by
  cases x<;>simp[V3]at h
  subst h
  refine⟨.nil,rfl,?_,rfl⟩
  cases m<;>exact hc
 | .cons a b,true,x,cs,l,rest,h,hc,hm=>by
  cases x<;>simp only[V3]at h<;>first | (cases h; done) | skip
  rename_i x r
  split at h
  ·rename_i u v hu hv
   simp at h; subst h
   obtain⟨c1,vs,h1,h2,h3⟩:=hc
   obtain⟨y,e1,e2,e3⟩:=C7 hM (m:=false) (v++rest) hu h2 fun e=>by cases e
   obtain⟨z0,e4,e5,e6⟩:=C7 hM (m:=true) rest hv h3 fun _=>by simpa[Sk.isL]using hm rfl
   refine⟨.cons y z0,by simp only[L6,QH,e1,e4],⟨c1,vs,?_,e2,e5⟩,rfl⟩
   rw[h1]
   simp only[AV.val,e3]
  ·cases h
 | .cons a b,false,x,cs,l,rest,h,hc,hm=>by
  cases x<;>simp only[V3]at h<;>first | (cases h; done) | skip
  rename_i x r
  split at h
  ·rename_i u v hu hv
   simp at h; subst h
   obtain⟨c1,c2,h1,h2,h3⟩:=hc
   obtain⟨y,e1,e2,e3⟩:=C7 hM (m:=false) (v++rest) hu h2 fun e=>by cases e
   obtain⟨z0,e4,e5,e6⟩:=C7 hM (m:=false) rest hv h3 fun e=>by cases e
   exact⟨.cons y z0,by simp only[L6,QH,e1,e4],⟨c1,c2,h1,e2,e5⟩,rfl⟩
  ·cases h
theorem Qkl(hM:∀id o,Qe M id=some o→(Qx β ρ id o).p ok w){env:List En}(hE:∀e∈env,(enD β ρ a e).p ok w) :
  ∀{Γe:List (Nat×Sk)} {l:List DV} (rest:List DV),Qp4 M ri pr env Γe=some l →
   ∃es,Ic Γe (l++rest)=(es,rest)∧∀e∈es,(enD (Hz ri β) (Hp ri pr ρ) a e).p ok w∧Nat.blt e.t 100000=true
 | [],l,rest,h=>by simp[Qp4]at h; subst h; exact⟨[],rfl,by simp⟩
 | (t,s)::g,l,rest,h=>by
  simp only[Qp4]at h
  split at h
  ·rename_i t' x hx
   split at h
   ·rename_i u v hu hv
    simp at h; subst h
    obtain⟨hm,ht⟩:=U2 hx
    simp only at ht
    subst ht
    obtain⟨cs,h1,h2⟩:=(hE _ hm).1 (Qc a)
    obtain⟨y,h3,h4,h5⟩:=C7 hM (v++rest) hu h2 fun e=>by cases e
    obtain⟨es,h6,h7⟩:=Qkl hM hE rest hv
    refine⟨⟨t',[],y⟩::es,by simp only[Ic,QH,h3,h6],fun e he=>?_⟩
    rcases QX.1 he with rfl | he
    ·refine⟨⟨fun _=>⟨cs,?_,h4⟩,.inl (Qc a)⟩,Qcm hx⟩
     rw[h1]; simp only[AV.val,h5]
    ·exact h7 e he
   ·cases h
  ·cases h
theorem Q0{l m:List (Nat×Ob)}{c:Nat}{o:Ob}(h:Qe l c=some o):Qe (l++m) c=some o:=by
 induction l with
 | nil=>simp[Qe]at h
 | cons q l ih =>
  simp only[Qe,QA]at h ⊢
  cases hb:Nat.beq q.1 c with
  | true=>rw[hb]at h; exact h
  | false=>rw[hb]at h; exact ih h
def Jmi(β:Nat→Nat)(ρ:Nat→Value)(ri:List (Nat×Nat))(pr:List Nat)(ok:Ok)(w:World)(M:List (Nat×Ob))(id:Nat)(o:Ob):Prop :=
 (∃c ob,Jq ri id=some c∧Qe M c=some ob∧(∀g,(Qx (Hz ri β) (Hp ri pr ρ) id o).blks g→(Qx β ρ c ob).blks g)∧(∀b f,(Qx (Hz ri β) (Hp ri pr ρ) id o).cov b f→(Qx β ρ c ob).cov b f)∧(Qx (Hz ri β) (Hp ri pr ρ) id o).p ok w) ∨
 (Jq ri id=none∧(∀g,¬ (Qx (Hz ri β) (Hp ri pr ρ) id o).blks g)∧∀ok w,(Qx (Hz ri β) (Hp ri pr ρ) id o).p ok w)
theorem Q8j{v:Value}(hv:v=.slice none 0 0){e:Nat}{τ:Type}{r:RT τ}(ok:Ok)(w:World):(ml v e r []).p ok w:=by
 subst hv
 exact⟨rfl,[],World.ownsRowS_nil _ _ _ _,rfl⟩
theorem Jf3{v:Value}(hv:v=.slice none 0 0){e:Nat}{τ:Type}{r:RT τ}(ok:Ok)(w:World):(Qck v e r []).p ok w:=by
 subst hv
 exact⟨Jmc,[],World.ownsRowS_nil _ _ _ _⟩
theorem Qkm{M0 F:List (Nat×Ob)}(hM:∀id o,Qe (M0++F) id=some o→(Qx β ρ id o).p ok w) :
  ∀{Γm:List (Nat×SkO)} {l:List DV},Q8f ri pr Γm=true→O6 M0 F ri pr Γm=some l →
   (U3 Γm l).map Prod.fst=Γm.map Prod.fst∧∀q∈U3 Γm l,Jmi β ρ ri pr ok w M0 q.1 q.2
 | [],l,_,h=>by simp[O6]at h; subst h; exact⟨rfl,by simp[U3]⟩
 | (id,s)::g,l,hp,h=>by
  simp only[Q8f,QQ]at hp
  simp only[O6]at h
  split at h
  ·rename_i o ho
   split at h
   ·rename_i u v hu hv
    simp at h; subst h
    have key:∃ob',Ib s (u++v)=some (ob',v)∧Jmi β ρ ri pr ok w M0 id ob':=by
     unfold Q8e at ho
     split at ho
     ·rename_i hn
      simp at ho; subst ho
      have hnp:Yb pr id=false:=by
       have:=hp.1
       cases hm:Yb pr id with
       | false=>rfl
       | true =>
        rw[hm]at this
        simp only[Q5t,hn,VG,Bool.or_self]at this
        cases this
      have e:Hp ri pr ρ id=.slice none 0 0:=by simp only[Hp,hn,hnp,cond_false]
      have nb:∀g,¬ (Hp ri pr ρ id).ownBlock=some g:=by rw[e]; intro g hg; cases hg
      cases s with
      | row e' t =>
       simp only[Ru]at hu
       simp at hu; subst hu
       refine⟨.row e' t [],?_,.inr ⟨hn,nb,fun ok w=>Q8j e ok w⟩⟩
       simp[Ib,Ty.cast,Ty.beq_refl]
      | tail e' t =>
       simp only[Ru]at hu
       simp at hu; subst hu
       refine⟨.tail e' t [],?_,.inr ⟨hn,fun g hg=>nb g hg,fun ok w=>Jf3 e ok w⟩⟩
       simp[Ib,Ty.cast,Ty.beq_refl]
      | var tid c=>simp[Ru]at hu
      | map k u'=>simp[Ru]at hu
      | mapC k u'=>simp[Ru]at hu
     ·rename_i c hc
      split at ho
      ·rename_i ob u0
       simp at ho; subst ho
       have iw:=hM c ob (Q0 u0)
       have eR:Hp ri pr ρ id=ρ c:=by simp only[Hp,hc]
       have eB:Hz ri β id=β c:=by simp only[Hz,hc]
       cases s with
       | var tid sk =>
        cases ob<;>simp only[Ru]at hu<;>first | (cases hu; done) | skip
        rename_i tid' x
        obtain⟨hb,ry⟩:=bvT hu
        have:=QJ hb
        subst this
        obtain⟨cs,h1,h2⟩:=iw
        obtain⟨y,h3,h4,h5⟩:=C7 hM v ry h2 fun e=>by cases e
        refine⟨.var tid y,by simp only[Ib,h3],.inl ⟨c,_,hc,u0,?_,?_,cs,by rw[eB]; exact h1,h4⟩⟩
        ·intro g hg
         have yi:g=Hz ri β id:=hg
         show g=β c
         rw[yi,eB]
        ·intro b f hg
         have yi:b=Hz ri β id:=hg
         show b=β c
         rw[yi,eB]
       | row e' t =>
        cases ob<;>simp only[Ru]at hu<;>first | (cases hu; done) | skip
        rename_i e2 t2 xs
        obtain⟨hb,ry⟩:=bvT hu
        clear hu
        simp only[QQ]at hb
        have h1:=QJ hb.1
        have h2:=Ty.beq_eq hb.2
        subst h1; subst h2
        simp at ry; subst ry
        refine⟨.row e' t xs,by simp[Ib,Ty.cast,Ty.beq_refl],.inl ⟨c,_,hc,u0,?_,?_,?_⟩⟩<;>simp only[Qx,eR]
        ·exact fun _ hg=>hg
        ·exact fun _ _ hg=>hg
        ·exact iw
       | tail e' t =>
        cases ob<;>simp only[Ru]at hu<;>first | (cases hu; done) | skip
        rename_i e2 t2 xs
        obtain⟨hb,ry⟩:=bvT hu
        clear hu
        simp only[QQ]at hb
        have h1:=QJ hb.1
        have h2:=Ty.beq_eq hb.2
        subst h1; subst h2
        simp at ry; subst ry
        refine⟨.tail e' t xs,by simp[Ib,Ty.cast,Ty.beq_refl],.inl ⟨c,_,hc,u0,?_,?_,?_⟩⟩<;>simp only[Qx,eR]
        ·exact fun _ hg=>hg
        ·exact fun _ _ hg=>hg
        ·exact iw
       | map k u' =>
        cases ob<;>simp only[Ru]at hu<;>first | (cases hu; done) | skip
        rename_i k2 u2 xs
        obtain⟨hb,ry⟩:=bvT hu
        clear hu
        simp only[QQ]at hb
        have h1:=Ty.beq_eq hb.1
        have h2:=Ty.beq_eq hb.2
        subst h1; subst h2
        simp at ry; subst ry
        refine⟨.map k u' xs,by simp[Ib,Ty.cast,Ty.beq_refl],.inl ⟨c,_,hc,u0,?_,?_,?_⟩⟩<;>simp only[Qx,eB]
        ·exact fun _ hg=>hg
        ·exact fun _ _ hg=>hg
        ·exact iw
       | mapC k u' =>
        cases ob<;>simp only[Ru]at hu<;>first | (cases hu; done) | skip
        rename_i k2 u2 xs hole
        obtain⟨hb,ry⟩:=bvT hu
        clear hu
        simp only[QQ]at hb
        obtain⟨⟨b1,b2⟩,b6⟩:=hb
        have h1:=Ty.beq_eq b1
        have h2:=CK.beq_eq b2
        subst h1; subst h2
        have h6:=Qer b6
        subst h6
        simp at ry; subst ry
        refine⟨.mapC k u' xs none,by simp[Ib,Ty.cast,Ty.beq_refl],.inl ⟨c,_,hc,u0,?_,?_,?_⟩⟩<;>simp only[Qx,eB,eR]
        ·exact fun _ hg=>hg
        ·exact fun _ _ hg=>hg
        ·exact iw
      ·cases ho
    obtain⟨ob',h1,h2⟩:=key
    obtain⟨h3,h4⟩:=Qkm hM hp.2 hv
    simp only[U3,h1]
    refine⟨by simp[h3],fun q hq=>?_⟩
    rcases QX.1 hq with rfl | hq
    ·exact h2
    ·exact h4 q hq
   ·cases h
  ·cases h
theorem Zg:∀{l:List Nat} {t:Nat},Yb l t=true↔t∈l
 | [],t=>by simp[Yb]
 | k::l,t=>by
  simp only[Yb,JS,QX,Zg (l:=l)]
  constructor
  ·rintro(h | h)
   ·exact .inl (QJ h).symm
   ·exact .inr h
  ·rintro(h | h)
   ·subst h; exact .inl (JY _)
   ·exact .inr h
theorem Jkw{pr:List Nat}(hi:Q0r pr ri=true):∀i∈pr,Hz ri β i=β i∧Hp ri pr ρ i=ρ i:=by
 have key:∀{ri:List (Nat×Nat)},Q0r pr ri=true→∀i∈pr,∀c,Jq ri i=some c→c=i:=by
  intro ri
  induction ri with
  | nil=>intro _ i _ c hc; simp[Jq]at hc
  | cons q l ih =>
   obtain⟨k,x⟩:=q
   intro h i hi c hc
   simp only[Q0r,QQ]at h
   simp only[Jq]at hc
   cases hb:Nat.beq k i with
   | true =>
    rw[hb]at hc
    simp at hc; subst hc
    have:=QJ hb
    subst this
    have h1:=h.1
    rw[Zg.2 hi]at h1
    exact(QJ (by simpa using h1)).symm
   | false=>rw[hb]at hc; exact ih h.2 i hi c hc
 intro i hm
 cases hl:Jq ri i with
 | none=>exact⟨by simp only[Hz,hl],by simp only[Hp,hl,Zg.2 hm,cond_true]⟩
 | some c =>
  have:=key hi i hm c hl
  subst this
  exact⟨by simp only[Hz,hl],by simp only[Hp,hl]⟩
theorem R0:∀{Γm:List (Nat×SkO)} {mem:List (Nat×Ob)} {cs:List Nat},F0 ri Γm cs=true→mem.map Prod.fst=Γm.map Prod.fst →
  (mem.Pairwise fun q q'=>∀c c',Jq ri q.1=some c→Jq ri q'.1=some c'→c≠c')∧∀q∈mem,∀c,Jq ri q.1=some c→c∉cs
 | [],mem,cs,_,hm=>by
  have:mem=[]:=by simpa using hm
  subst this; exact⟨.nil,by simp⟩
 | (id,s)::g,mem,cs,h,hm=>by
  cases mem with
  | nil=>simp at hm
  | cons q mem =>
   simp only[JW,List.cons.injEq]at hm
   obtain⟨h1,h2⟩:=hm
   simp only[F0]at h
   split at h
   ·rename_i c hc
    simp only[QQ]at h
    obtain⟨h3,h4⟩:=R0 h.2 h2
    refine⟨QG.2 ⟨fun q' wb c1 c2 e1 e2 e=>?_,h3⟩,fun q' wb c1 e1=>?_⟩
    ·rw[h1,hc]at e1
     injection e1 with e1; subst e1; subst e
     exact h4 q' wb c e2 (.head _)
    ·rcases QX.1 wb with rfl | wb
     ·rw[h1,hc]at e1
      injection e1 with e1; subst e1
      intro hm
      have:=h.1
      rw[Zg.2 hm]at this
      cases this
     ·exact fun hm=>h4 q' wb c1 e1 (.tail _ hm)
   ·rename_i hn
    obtain⟨h3,h4⟩:=R0 h h2
    refine⟨QG.2 ⟨fun q' wb c1 c2 e1 e2 e=>?_,h3⟩,fun q' wb c1 e1=>?_⟩
    ·rw[h1,hn]at e1; cases e1
    ·rcases QX.1 wb with rfl | wb
     ·rw[h1,hn]at e1; cases e1
     ·exact h4 q' wb c1 e1
theorem Gc{β β':Nat→Nat}{ρ ρ':Nat→Value}:∀{m:Bool} {x:AV} {cs:List Value},(∀i∈Jb x,β' i=β i∧ρ' i=ρ i)→cr β ρ ok w m x cs→cr β' ρ' ok w m x cs
 | m,.d t x,cs,_,h=>by cases m<;>exact h
 | m,.p id path,cs,hn,h=>by
  have:=(hn id (.head _)).1
  cases m<;>(simp only[cr]at h ⊢; rw[this]; exact h)
 | m,.e id path,cs,hn,h=>by
  have:=(hn id (.head _)).2
  cases m<;>(simp only[cr]at h ⊢; rw[this]; exact h)
 | m,.s id,cs,hn,h=>by
  have:=(hn id (.head _)).2
  cases m<;>(simp only[cr]at h ⊢; rw[this]; exact h)
 | m,.m id,cs,hn,h=>by
  have:=(hn id (.head _)).1
  cases m<;>(simp only[cr]at h ⊢; rw[this]; exact h)
 | m,.b id,cs,hn,h=>by
  have:=(hn id (.head _)).1
  cases m<;>(simp only[cr]at h ⊢; rw[this]; exact h)
 | m,.w id _ _,cs,hn,h=>by
  have:=(hn id (.head _)).1
  cases m<;>(simp only[cr]at h ⊢; rw[this]; exact h)
 | m,.a t x,cs,_,h=>by cases m<;>exact h
 | m,.z,cs,_,h=>by cases m<;>exact h
 | m,.ns,cs,_,h=>by cases m<;>exact h
 | m,.np,cs,_,h=>by cases m<;>exact h
 | m,.nm,cs,_,h=>by cases m<;>exact h
 | m,.nf,cs,_,h=>by cases m<;>exact h
 | m,.f fn caps,cs,hn,h=>by cases m<;>exact let⟨vs,h1,h2⟩:=h; ⟨vs,h1,Gc (fun i hi=>hn i (by simpa[Jb]using hi)) h2⟩
 | m,.ag l,cs,hn,h=>by cases m<;>exact Gc (m:=false) (x:=l) (fun i hi=>hn i (by simpa[Jb]using hi)) h
 | m,.tp l,cs,hn,h=>by cases m<;>exact let⟨vs,h1,h2⟩:=h; ⟨vs,h1,Gc (fun i hi=>hn i (by simpa[Jb]using hi)) h2⟩
 | m,.nil,cs,_,h=>by cases m<;>exact h
 | true,.cons x r,cs,hn,h=>by
  exact let⟨c1,vs,h1,h2,h3⟩:=h; ⟨c1,vs,h1,Gc (fun i hi=>hn i (by simp[Jb,hi])) h2,Gc (fun i hi=>hn i (by simp[Jb,hi])) h3⟩
 | false,.cons x r,cs,hn,h=>by
  exact let⟨c1,vs,h1,h2,h3⟩:=h; ⟨c1,vs,h1,Gc (fun i hi=>hn i (by simp[Jb,hi])) h2,Gc (fun i hi=>hn i (by simp[Jb,hi])) h3⟩
theorem Jkx{β β':Nat→Nat}{ρ ρ':Nat→Value}{l:List En}(ha:∀i∈O7 l,β' i=β i∧ρ' i=ρ i):∀e∈l,(enD β ρ a e).p ok w→(enD β' ρ' a e).p ok w:=by
 intro e he h
 have h1:∀i∈Jb e.av,β' i=β i∧ρ' i=ρ i:=by
  intro i hi
  refine ha i ?_
  clear ha h
  induction l with
  | nil=>cases he
  | cons x l ih =>
   simp only[O7,QW]
   rcases QX.1 he with rfl | he
   ·exact .inl hi
   ·exact .inr (ih he)
 exact⟨fun hc=>let⟨cs,h2,h3⟩:=h.1 hc; ⟨cs,h2,Gc h1 h3⟩,h.2⟩
theorem Qes{β β':Nat→Nat}{ρ ρ':Nat→Value}:∀{l:List (Nat×Ob)},(∀i∈Jc l,β' i=β i∧ρ' i=ρ i)→∀q∈l,(∀g,(Qx β' ρ' q.1 q.2).blks g↔(Qx β ρ q.1 q.2).blks g)∧(∀b o,(Qx β' ρ' q.1 q.2).cov b o↔(Qx β ρ q.1 q.2).cov b o) ∧
  ∀ok w,(Qx β ρ q.1 q.2).p ok w→(Qx β' ρ' q.1 q.2).p ok w
 | (id,o)::l,ha,q,hq=>by
  rcases QX.1 hq with rfl | hq
  ·obtain⟨h1,h2⟩:=ha id (by
    cases o with
    | mapC k v xs hole=>cases hole<;>simp[Jc]
    | _=>simp[Jc])
   cases o with
   | var t c =>
    refine⟨fun g=>by simp only[Qx,Ql6]; rw[h1],fun b o=>by simp only[Qx,Ql6]; rw[h1],fun ok w hp=>?_⟩
    obtain⟨cs,hh,hc⟩:=hp
    exact⟨cs,by rw[h1]; exact hh,Gc (fun i hi=>ha i (by simp[Jc,hi])) hc⟩
   | row e t xs=>simp only[Qx,h2]; exact⟨fun _=>trivial,fun _ _=>trivial,fun _ _ h=>h⟩
   | tail e t xs=>simp only[Qx,h2]; exact⟨fun _=>trivial,fun _ _=>trivial,fun _ _ h=>h⟩
   | map k v xs=>simp only[Qx,h1]; exact⟨fun _=>trivial,fun _ _=>trivial,fun _ _ h=>h⟩
   | mapC k v xs hole =>
    have hv:Lz β' ρ' v hole=Lz β ρ v hole:=by
     cases hole with
     | none=>rfl
     | some q=>cases v<;>simp only[Lz,(ha q.2 (by simp[Jc])).1,(ha q.2 (by simp[Jc])).2]
    simp only[Qx,h1,h2,hv]; exact⟨fun _=>trivial,fun _ _=>trivial,fun _ _ h=>h⟩
   | mapE k v xs key j=>simp only[Qx,h1,(ha j (by simp[Jc])).1]; exact⟨fun _=>trivial,fun _ _=>trivial,fun _ _ h=>h⟩
  ·exact Qes (fun i hi=>ha i (by
    cases o with
    | mapC k v xs hole=>cases hole<;>simp[Jc,hi]
    | _=>simp[Jc,hi])) q hq
theorem Rel.decF{Γ:Shp}{env fix:List En}{M F:List (Nat×Ob)}{ri:List (Nat×Nat)}{pr:List Nat}(h:Rel X β ρ ⟨env++fix,M++F⟩ a w){x:Γ.De}
  (hd:Gx.decF Γ ri (pr++(O7 fix++Jc F)) (env++fix) M F=some x) :
  ∃β' ρ',(∀i∈pr,β' i=β i∧ρ' i=ρ i)∧Rel X β' ρ' ⟨(enc Γ x).env++fix,(enc Γ x).mem++F⟩ a w ∧
   (∀q∈(enc Γ x).mem,∀c,Jq ri q.1=some c→β' q.1=β c∧ρ' q.1=ρ c):=by
 unfold Gx.decF Jkp at hd
 obtain⟨hb,hd⟩:=bvT hd
 simp only[QQ]at hb
 obtain⟨⟨⟨b1,b2⟩,b3⟩,b4⟩:=hb
 have h1:=Rel.freeze M (l0:=[]) (F:=F) (ks:=Jfr (env++fix) Γ.env++Qw8 M ri Γ.mem) h
 simp only[QC]at h1
 split at hd
 ·rename_i u v hu hv
  have hx:=Qxg hd
  have hM:=h1.mm
  obtain⟨es,e1,e2⟩:=Qkl (M:=frz Γ ri (env++fix) M++F) hM (fun e he=>h1.en he) v hu
  obtain⟨m1,m2⟩:=Qkm hM b3 hv
  have u3:enc Γ x=⟨es,U3 Γ.mem v⟩:=by
   unfold enc
   rw[hx,e1]
  rw[u3]
  have xg:=Jkw (β:=β) (ρ:=ρ) b4
  have pd:∀i∈Jc F,Hz ri β i=β i∧Hp ri (pr++(O7 fix++Jc F)) ρ i=ρ i:=fun i hi=>xg i (by simp[hi])
  have hagE:∀i∈O7 fix,Hz ri β i=β i∧Hp ri (pr++(O7 fix++Jc F)) ρ i=ρ i:=fun i hi=>xg i (by simp[hi])
  refine⟨Hz ri β,Hp ri (pr++(O7 fix++Jc F)) ρ,fun i hi=>xg i (by simp[hi]),?_,?_⟩
  ·have hS:Sb (fun _=>0) X [] (List.map (enD β ρ a) (env++fix)) [] (Qg (Hz ri β) (Hp ri (pr++(O7 fix++Jc F)) ρ) (U3 Γ.mem v++F)) a w:=by
    have xc:(List.map (fun q=>Qx β ρ q.1 q.2) (frz Γ ri (env++fix) M)++List.map (fun q=>Qx β ρ q.1 q.2) F).Pairwise fun s t=>∀g,s.blks g→¬ t.blks g:=by rw[←JK]; exact h1.dOO
    have aq:=QM.1 xc
    refine Sb.remake h1 (fun t' zb=>?_) ?_
    ·obtain⟨q,hq,rfl⟩:=QY.1 zb
     rcases QW.1 hq with hq | hq
     ·rcases m2 q hq with⟨c,ob,h2,h3,h4,h5,h6⟩ | ⟨_,h4,h5⟩
      ·exact .inl ⟨_,QY.2 ⟨_,QZ _ (Rz h3),rfl⟩,h4,h5,h6⟩
      ·exact .inr ⟨h4,h5⟩
     ·obtain⟨f1,f2,f3⟩:=Qes pd q hq
      exact .inl ⟨_,QY.2 ⟨q,QV _ hq,rfl⟩,fun g hg=>(f1 g).1 hg,fun b o hc=>(f2 b o).1 hc,f3 _ _ (h1.own _ (QY.2 ⟨q,QV _ hq,rfl⟩)).1⟩
    ·rw[Qg,JK]
     obtain⟨n1,_⟩:=R0 b1 m1
     refine QM.2 ⟨?_,?_,?_⟩
     ·rw[XO]
      refine List.Pairwise.imp_of_mem ?_ n1
      intro q q' hq wb k8 g hg yi
      rcases m2 q hq with⟨c,ob,h2,h3,h4,_⟩ | ⟨_,h4,_⟩
      ·rcases m2 q' wb with⟨c',ob',zj,ru,mi,_⟩ | ⟨_,mi,_⟩
       ·exact h1.disj (Q0 h3) (Q0 ru) (k8 c c' h2 zj) g (h4 g hg) (mi g yi)
       ·exact mi g yi
      ·exact h4 g hg
     ·rw[XO]
      have:=XO.1 aq.2.1
      refine List.Pairwise.imp_of_mem ?_ this
      intro q q' hq wb k8 g hg yi
      exact k8 g ((Qes pd q hq).1 g |>.1 hg) ((Qes pd q' wb).1 g |>.1 yi)
     ·intro t ht t' zb g hg yi
      obtain⟨q,hq,rfl⟩:=QY.1 ht
      obtain⟨q',wb,rfl⟩:=QY.1 zb
      rcases m2 q hq with⟨c,ob,h2,h3,h4,_⟩ | ⟨_,h4,_⟩
      ·exact aq.2.2 _ (QY.2 ⟨_,Rz h3,rfl⟩) _ (QY.2 ⟨q',wb,rfl⟩) g (h4 g hg) ((Qes pd q' wb).1 g |>.1 yi)
      ·exact h4 g hg
   have kj:∀b o,okR X β ρ (frz Γ ri (env++fix) M++F) w b o→okR X (Hz ri β) (Hp ri (pr++(O7 fix++Jc F)) ρ) (U3 Γ.mem v++F) w b o:=by
    rintro b o ⟨o1,o2,o3,o4⟩
    refine⟨o1,o2,o3,fun t' zb hc=>?_⟩
    obtain⟨q,hq,rfl⟩:=QY.1 zb
    rcases QW.1 hq with hq | hq
    ·rcases m2 q hq with⟨c,ob,h2,h3,h4,h5,h6⟩ | ⟨_,h4,h5⟩
     ·exact o4 _ (QY.2 ⟨_,QZ _ (Rz h3),rfl⟩) (h5 b o hc)
     ·exact h4 b ((Qx _ _ q.1 q.2).cb hc)
    ·exact o4 _ (QY.2 ⟨q,QV _ hq,rfl⟩) ((Qes pd q hq).2.1 b o |>.1 hc)
   refine Rel.ofSb hS rfl fun e he=>?_
   rcases QW.1 he with he | he
   ·exact(enD _ _ a e).weak (e2 e he).1 kj
   ·exact(enD _ _ a e).weak (Jkx hagE e he (h1.en (QV _ he))) kj
  ·intro q hq c hc
   exact⟨by simp only[Hz,hc],by simp only[Hp,hc]⟩
 ·cases hd
theorem XS.dec_ok{S:XS}{Γ:Shp}(h:Rel X β ρ S.flat a w){x:Γ.De}(hd:S.dec Γ=some x) :
  ∃β' ρ',(∀i∈S.prot,β' i=β i∧ρ' i=ρ i)∧Rel X β' ρ' ⟨(enc Γ x).env++S.fix,(enc Γ x).mem++S.fixM⟩ a w:=by
 obtain⟨β',ρ',h1,h2,_⟩:=Rel.decF (pr:=S.prot) h hd
 exact⟨β',ρ',h1,h2⟩
end
end Gx

/- Operations that make or change objects. -/
namespace Gx
open Go Go.RowKit Gd
set_option linter.unusedVariables false
set_option linter.unusedSimpArgs false
def Qio(n:Nat)(a:Act):GL:=(List.range n).map fun t=>(t,Gd.AV.v (a.tmps.getD t undef))
theorem Qud{f:Nat→Gd.AV}:∀{l:List Nat} {t:Nat},t∈l→Jq (l.map fun t=>(t,f t)) t=some (f t)
 | k::l,t,h=>by
  simp only[JW,Jq]
  cases hb:Nat.beq k t with
  | true=>have:=QJ hb; subst this; rfl
  | false =>
   rcases QX.1 h with rfl | h
   ·simp[JY]at hb
   ·exact Qud h
section
variable {P:Program} {X:Cx} {β β':Nat→Nat} {ρ ρ':Nat→Value} {S:St} {a a':Act} {w w':World} {cur:Va}
theorem Rel.toG(h:Rel X β ρ S a w):Sb (fun _=>0) X (Qio X.n a) (S.env.map (enD β ρ a)) [] (Qg β ρ S.mem) a w :=
 {sz:=h.sz,df:=h.df,fr:=h.fr,pn:=h.pn,bel:=h.bel,dat:=h.dat,obj:=h.obj,own:=h.own,dHH:=h.dHH,dHO:=h.dHO,dOO:=h.dOO,
  tm:=fun p hp=>by
   obtain⟨t,ht,rfl⟩:=QY.1 hp
   have hlt:t<a.tmps.size:=by rw[h.sz]; exact JT.1 ht
   simp[Is,ZW hlt,JC] }
theorem gvT(h:Rel X β ρ S a w){t:Nat}(ht:t<X.n):gv (Qio X.n a) (.tmp t)=some (.v (a.eval (.tmp t))):=by
 simp only[gv,Qio]
 rw[Qud (f:=fun t=>Gd.AV.v (a.tmps.getD t undef)) (JT.2 ht)]
 rfl
theorem Que(h:Rel X β ρ S a w){t:Nat}{v:Value}(hv:a.tmps[t]?=some v):t<X.n:=by
 rw[←h.sz]
 rcases JL t a.tmps.size with h1 | h1
 ·exact h1
 ·rw[XI h1]at hv; cases hv
theorem gvE(h:Rel X β ρ S a w)(hc:Ju a cur){x:Operand}{v:AV}(hx:ev S cur x=some v):gv (Qio X.n a) x=some (.v (a.eval x)):=by
 cases x with
 | tmp t =>
  simp only[ev]at hx
  split at hx
  ·rename_i e he
   obtain⟨hb,hx⟩:=bvT hx
   obtain⟨cs,h1,h2⟩:=h.get he (Qen hb hc)
   exact gvT h (Que h h1)
  ·cases hx
 | const v=>rfl
 | func f=>rfl
 | global g=>rfl
theorem L9(h:Rel X β ρ S a w){ops:Array Oper}{o:Oper}(hw:Region.wanted o (yielded ops a.tmps)=true):B4 ops (Qio X.n a) o=some true:=by
 unfold B4
 unfold Region.wanted at hw
 split
 ·rfl
 ·rename_i j want hg
  rw[hg]at hw
  simp only[beq_iff_eq]at hw
  unfold yielded at hw
  split
  ·rename_i p hp
   rw[hp]at hw
   split
   ·rename_i t ht
    simp only[QB,ht]at hw
    split at hw
    ·rename_i b hb
     simp at hw; subst hw
     have hlt:=Que h hb
     have:=gvT h hlt
     simp only[gv]at this
     rw[this]
     simp[Act.eval,hb]
    ·cases hw
   ·rename_i ht
    simp[ht]at hw
  ·rename_i hp
   simp[hp]at hw
theorem Rel.fin{env env':List En}{mem':List (Nat×Ob)}{O':List TL}{d:Nat}{v:Value}(hn:∀e∈env,True)(h':Sb (fun _=>0) X (Tl (Qio X.n a) d (.v v)) (env.map (enD β ρ a)) [] O' a' w')(ko:a.tmps.size=X.n)(hd:okD X d=true)
  (hO:Xc O' (Qg β' ρ' mem')) (rq:∀e∈env',∀(ok:Ok) (w:World) (cs:List Value),cr β ρ ok w false e.av cs→cr β' ρ' ok w false e.av cs) (he:∀e∈env',e∈env∧e.t≠d∧∀c∈e.cs,c.1≠d)
  {x:AV} {c:List Value} (hv:v=x.val c) (hx:cr β' ρ' (okR X β' ρ' mem' w') w' false x c):Rel X β' ρ' ⟨⟨d,[],x⟩::env',mem'⟩ a' w':=by
 have h1:=h'.simO hO
 have tu:∀t,t≠d→a'.tmps[t]?=a.tmps[t]?:=by
  intro t ht
  rcases JL t X.n with hlt | wx
  ·have hm:(t,Gd.AV.v (a.tmps.getD t undef))∈Tl (Qio X.n a) d (.v v):=by
    refine .tail _ ?_
    have:∀{l:GL},(t,Gd.AV.v (a.tmps.getD t undef))∈l→(t,Gd.AV.v (a.tmps.getD t undef))∈Qzv l d:=by
     intro l
     induction l with
     | nil=>intro h; cases h
     | cons q l ih =>
      intro h
      obtain⟨k,y⟩:=q
      simp only[Qzv]
      cases hb:Nat.beq k d with
      | true =>
       rcases QX.1 h with e | h
       ·injection e with e1 _; subst e1; exact absurd (QJ hb) ht
       ·exact ih h
      | false =>
       rcases QX.1 h with e | h
       ·rw[e]; exact .head _
       ·exact .tail _ (ih h)
    exact this (QY.2 ⟨t,JT.2 hlt,rfl⟩)
   have:=h1.tm _ hm
   simp only[Is]at this
   rw[this]
   have hlt':t<a.tmps.size:=by omega
   simp[JC,ZW hlt']
  ·rw[XI (by have:=h1.sz; omega),XI (by omega)]
 have hdv:rd a' d=some v:=by
  have:=h1.tm (d,.v v) (.head _)
  rw[L0 (Rj hd)]
  simpa[Is]using this
 have l9:∀t,t≠d→rd a' t=rd a t:=fun t ht=>by unfold rd; rw[tu t ht]
 refine Rel.ofSb h1 rfl fun e hm=>?_
 rcases QX.1 hm with rfl | hm
 ·exact⟨fun _=>⟨c,by rw[hdv,hv],hx⟩,.inl (Qc _)⟩
 ·obtain⟨h2,h3,h4⟩:=he e hm
  have hp:=Jg.1 h1.dat _ (QY.2 ⟨e,h2,rfl⟩)
  have yg:Ju a' e.cs↔Ju a e.cs:=⟨fun hc c hm=>by rw[←tu _ (h4 c hm)]; exact hc c hm,fun hc c hm=>by rw[tu _ (h4 c hm)]; exact hc c hm⟩
  refine⟨fun hc=>?_,?_⟩
  ·obtain⟨cs,h5,h6⟩:=hp.1 (yg.1 hc)
   exact⟨cs,by rw[l9 _ h3]; exact h5,rq e hm _ _ _ h6⟩
  ·rw[yg,l9 _ h3]; exact hp.2
theorem Qct{l:List En}{d:Nat}(h:Nw d l=true):∀e∈l,e.t≠d∧∀c∈e.cs,c.1≠d:=by
 induction l with
 | nil=>intro e he; cases he
 | cons x l ih =>
  simp only[Nw,QQ]at h
  intro e he
  rcases QX.1 he with rfl | he
  ·have h1:=h.1
   simp only[XF,ZO]at h1
   exact⟨fun e'=>by rw[e']at h1; simp[JY]at h1,Qcn h1.2⟩
  ·exact ih h.2 e he
def agP(pr:List Nat)(β β':Nat→Nat)(ρ ρ':Nat→Value):Prop:=∀i∈pr,β' i=β i∧ρ' i=ρ i
theorem agP.refl(pr:List Nat)(β:Nat→Nat)(ρ:Nat→Value):agP pr β β ρ ρ:=fun _ _=>⟨rfl,rfl⟩
theorem agP.trans{pr:List Nat}{β1 β2 β3:Nat→Nat}{ρ1 ρ2 ρ3:Nat→Value}(h:agP pr β1 β2 ρ1 ρ2)(k:agP pr β2 β3 ρ2 ρ3):agP pr β1 β3 ρ1 ρ3 :=
 fun i hi=>⟨(k i hi).1.trans (h i hi).1,(k i hi).2.trans (h i hi).2⟩
theorem Wi{pr:List Nat}{d:Nat}(h:Yb pr d=false)(ha:Qfx d β β' ρ ρ'):agP pr β β' ρ ρ' :=
 fun i hi=>ha i fun e=>by subst e; rw[Zg.2 hi]at h; cases h
structure Y6(S S':XS)(β β':Nat→Nat)(ρ ρ':Nat→Value):Prop where
 fix:S'.fix=S.fix
 fixM:S'.fixM=S.fixM
 prot:S'.prot=S.prot
 ag:agP S.prot β β' ρ ρ'
theorem Y6.refl(S:XS)(β:Nat→Nat)(ρ:Nat→Value):Y6 S S β β ρ ρ:=⟨rfl,rfl,rfl,agP.refl _ _ _⟩
theorem Y6.trans{S1 S2 S3:XS}{β1 β2 β3:Nat→Nat}{ρ1 ρ2 ρ3:Nat→Value}(h:Y6 S1 S2 β1 β2 ρ1 ρ2)(k:Y6 S2 S3 β2 β3 ρ2 ρ3):Y6 S1 S3 β1 β3 ρ1 ρ3 :=
 ⟨k.fix.trans h.fix,k.fixM.trans h.fixM,k.prot.trans h.prot,h.ag.trans (by rw[←h.prot]; exact k.ag)⟩
theorem Yy{n d:Nat}{S:XS}(h:okW n S d=true)(hn:X.n=n)(hr:X.res=[]):okD X d=true∧Nw d S.fix=true:=by
 simp only[okW,QQ]at h
 refine⟨?_,h.2⟩
 simp only[okD,hr,Ql1,hn,Bool.true_and,QQ]
 exact h.1
theorem K3{d:Nat}{l m:List En}(h:Nw d m=true):Js (l++m) d=Js l d++m:=by
 induction l with
 | nil =>
  simp only[QC,Js]
  induction m with
  | nil=>rfl
  | cons x m ih =>
   simp only[Nw,QQ]at h
   have h1:=h.1
   simp only[XF]at h1
   simp only[Js,h1,cond_false,ih h.2]
 | cons x l ih =>
  simp only[QA,Js,ih]
  cases(Nat.beq x.t d||Rq d x.cs)<;>rfl
theorem Xs{S:XS}{d:Nat}{cs:Va}{x:AV}(h:Nw d S.fix=true):(S.put d cs x).flat=S.flat.put d cs x:=by
 simp only[XS.flat,XS.put,St.put,K3 h,QA]
theorem Ge{S:XS}{d:Nat}(h:okB S d=true):Jt d (S.mem++S.fixM)=true∧Qcr d S.fix=true∧Yb S.prot d=false:=by
 simp only[okB,QQ]at h
 refine⟨?_,h.1.2,by simpa using h.2⟩
 have key:∀{l m:List (Nat×Ob)},Jt d l=true→Jt d m=true→Jt d (l++m)=true:=by
  intro l m hl hm
  induction l with
  | nil=>exact hm
  | cons q l ih =>
   obtain⟨k,o⟩:=q
   cases o with
   | mapC k1 v xs hole=>cases hole<;>simp only[Jt,QQ,QA]at hl ⊢<;>exact⟨hl.1,ih hl.2⟩
   | _=>simp only[Jt,QQ,QA]at hl ⊢; exact⟨hl.1,ih hl.2⟩
 exact key h.1.1.1 h.1.1.2
theorem C8{S:XS}{d:Nat}(hI:Qcr d S.fix=true)(hF:Nw d S.fix=true):∀e∈Js (Yv d S.env) d++S.fix,e∈S.flat.env∧Uw d e.av=true∧e.t≠d∧∀c∈e.cs,c.1≠d:=by
 intro e he
 rcases QW.1 he with he | he
 ·obtain⟨h1,h2,h3⟩:=Fx he
  obtain⟨h4,h5⟩:=Qgq h1
  exact⟨QZ _ h4,h5,h2,h3⟩
 ·obtain⟨h1,h2⟩:=Qct hF e he
  exact⟨QV _ he,Ry hI e he,h1,h2⟩
end
end Gx

/- Steps. -/
namespace Gx
open Go Go.RowKit Gd
set_option linter.unusedVariables false
set_option linter.unusedSimpArgs false
section
variable {P:Program} {Y:TX} {X:Cx} {S:XS} {β β':Nat→Nat} {ρ ρ':Nat→Value} {a a':Act} {w w':World} {n:Nat}
variable {ops:Array Oper} {Q:Exit→Act→World→Prop} {rest:List Oper} {R:Type} {k:XS→Option R} {r:R}
def KOk(P:Program)(ops:Array Oper)(Q:Exit→Act→World→Prop)(rest:List Oper)(X:Cx)(S0:XS)(β:Nat→Nat)(ρ:Nat→Value){R:Type}(k:XS→Option R)(r:R):Prop :=
 ∀(β':Nat→Nat) (ρ':Nat→Value) (S':XS) (a':Act) (w':World),k S'=some r→Y6 S0 S' β β' ρ ρ'→Rel X β' ρ' S'.flat a' w'→wpList P ops Q rest a' w'
theorem KOk.after(h:KOk P ops Q rest X S β ρ k r){S1:XS}{β1:Nat→Nat}{ρ1:Nat→Value}(hk:Y6 S S1 β β1 ρ ρ1):KOk P ops Q rest X S1 β1 ρ1 k r :=
 fun β' ρ' S' a' w' h1 h2 h3=>h β' ρ' S' a' w' h1 (hk.trans h2) h3
theorem G1(S:XS)(d:Nat)(cs:Va)(x:AV):Y6 S (S.put d cs x) β β ρ ρ:=⟨rfl,rfl,rfl,agP.refl _ _ _⟩
theorem U4{d:Nat}(hp:Yb S.prot d=false)(ha:Qfx d β β' ρ ρ')(o:Ob)(cs:Va)(x:AV):Y6 S ((S.born d o).put d cs x) β β' ρ ρ':=⟨rfl,rfl,rfl,Wi hp ha⟩
theorem Jf4(hX:X.n=n)(hr:X.res=[])(h:Rel X β ρ S.flat a w){o:Oper}(hw:Region.wanted o (yielded ops a.tmps)=true){d:Nat}(hd:o.dst=some d)(zl:okW n S d=true){x:AV}(hs:Qp1 P S.flat [] o x)
  (hk:k (S.put d [] x)=some r) (H:KOk P ops Q rest X S β ρ k r):wpList P ops Q (o::rest) a w:=by
 obtain⟨h1,h2⟩:=Yy zl hX hr
 obtain⟨cs,h3,h4⟩:=hs h.toW (Qc a)
 refine Jl hw (Yo h3 ?_)
 rw[hd]
 refine H β ρ _ _ _ hk (G1 S d [] x) ?_
 rw[Xs h2]
 exact h.put0 h1 h4
theorem Jf5(hX:X.n=n)(hr:X.res=[])(h:Rel X β ρ S.flat a w){o:Oper}(hw:Region.wanted o (yielded ops a.tmps)=true){d:Nat}(hd:o.dst=some d)(zl:okW n S d=true)(hb:okB S d=true){t:TypeId}{c x:AV}{cs:List Value}{cv:Nat→List Value}
  (ka:(execOp a.eval o).run P w=.ok (.value (x.val (cv w.heap.size))) (w.alloc (.cells cs.toArray t))) (hc:cr β ρ (okR X β ρ S.flat.mem w) w false c cs) (hn:Uw d c=true) (hx:∀(β:Nat→Nat) (ρ:Nat→Value) (ok:Ok) (w:World),cr β ρ ok w false x (cv (β d)))
  (hk:k ((S.born d (.var t c)).put d [] x)=some r) (H:KOk P ops Q rest X S β ρ k r):wpList P ops Q (o::rest) a w:=by
 obtain⟨h1,h2⟩:=Yy zl hX hr
 obtain⟨f1,f2,f3⟩:=Ge hb
 refine Jl hw (Yo ka ?_)
 rw[hd]
 have ha:=Qep d β ρ w.heap.size (ρ d)
 have zo:Below w.heap.size w (w.alloc (.cells cs.toArray t)):=(Below.refl _ _).alloc (QD _) _
 refine H (upd β d w.heap.size) (upd ρ d (ρ d)) _ _ _ hk (U4 f3 ha _ _ _) ?_
 have hA:Rel X (upd β d w.heap.size) (upd ρ d (ρ d)) ⟨Js (Yv d S.env) d++S.fix,(d,.var t c)::(S.mem++S.fixM)⟩ a (w.alloc (.cells cs.toArray t)):=by
  refine Rel.alloc h ha f1 (fun e he=>let⟨q1,q2,_⟩:=C8 f2 h2 e he; ⟨q1,q2⟩) zo (fun g hg=>?_) ?_
  ·have yi:g=upd β d w.heap.size d:=hg
   rw[Jd]at yi; omega
  ·refine⟨cs,?_,?_⟩
   ·rw[Jd]; exact heap_alloc_new w _
   ·have h5:cr (upd β d w.heap.size) (upd ρ d (ρ d)) (okR X β ρ S.flat.mem w) w false c cs:=G0 ha hn hc
    refine Wg (Ly h5 ((Evo.of_below zo).mono fun b o hk=>hk.2.1)) ?_
    rintro b o ⟨o1,o2,o3,o4⟩
    refine⟨o1,JU o2 zo.size,o3,fun u hu y7=>?_⟩
    rcases QX.1 hu with rfl | hu
    ·have hcv':b=upd β d w.heap.size d:=y7
     rw[Jd]at hcv'; omega
    ·obtain⟨t0,ht0,z6⟩:=(N7 ha f1).mem u hu
     exact o4 t0 ht0 ((z6.2.1 b o).1 y7)
 have hP:=hA.put0 h1 (x:=x) (c:=cv (upd β d w.heap.size d)) (hx _ _ _ _)
 rw[show upd β d w.heap.size d=w.heap.size from Jd _ _ _]at hP
 have he:((S.born d (.var t c)).put d [] x).flat=⟨⟨d,[],x⟩::(Js (Yv d S.env) d++S.fix),(d,.var t c)::(S.mem++S.fixM)⟩:=rfl
 rw[he]
 refine hP.less fun e hm=>?_
 rcases QX.1 hm with rfl | hm
 ·exact .head _
 ·refine .tail _ ?_
  have:Js (Js (Yv d S.env) d++S.fix) d=Js (Yv d S.env) d++S.fix:=by
   rw[K3 h2]
   congr 1
   have idem:∀l:List En,Js (Js l d) d=Js l d:=by
    intro l
    induction l with
    | nil=>rfl
    | cons y l ih =>
     simp only[Js]
     cases hb:(Nat.beq y.t d||Rq d y.cs)with
     | true=>simpa using ih
     | false=>simp only[cond_false,Js,hb,ih]
   exact idem _
  show e∈Js (Js (Yv d S.env) d++S.fix) d
  rw[this]; exact hm
theorem Jmj(hX:X.n=n)(hr:X.res=[])(h:Rel X β ρ S.flat a w){o:Oper}(hw:Region.wanted o (yielded ops a.tmps)=true){d:Nat}(hd:o.dst=some d)(zl:okW n S d=true)(hb:okB S d=true){t:TypeId}{c:AV}{cs:List Value}
  (ka:(execOp a.eval o).run P w=.ok (.value (.pointer (some ⟨w.heap.size,0,none⟩))) (w.alloc (.cells cs.toArray t))) (hc:cr β ρ (okR X β ρ S.flat.mem w) w false c cs) (hn:Uw d c=true)
  (hk:k ((S.born d (.var t c)).put d [] (.p d []))=some r) (H:KOk P ops Q rest X S β ρ k r):wpList P ops Q (o::rest) a w :=
 Jf5 (x:=.p d []) (cv:=fun g=>[.pointer (some ⟨g,0,none⟩)]) hX hr h hw hd zl hb ka hc hn (fun _ _ _ _=>rfl) hk H
theorem K4{l m:List (Nat×Ob)}{id:Nat}{o o':Ob}(h:Qe l id=some o):Nv l id o'++m=Nv (l++m) id o':=by
 induction l with
 | nil=>simp[Qe]at h
 | cons q l ih =>
  simp only[Qe]at h
  simp only[Nv,QA]
  cases hb:Nat.beq q.1 id with
  | true=>rfl
  | false=>rw[hb]at h; simp only[cond_false,QA,ih h]
theorem Q8k(hT:Q4 P Y.T)(h:Rel X β ρ S.flat a w){o:Oper}(hw:Region.wanted o (yielded ops a.tmps)=true){t:TypeId}{p x:Operand}(kg:o.op=.store t p x)(hd:o.dst=none){e:TE}(he:Qh Y.T t=some e)
  {id:Nat} {path:List PS} {v c c':AV} {tid:TypeId} (hp:S.ev [] p=some (.p id path)) (hx:S.ev [] x=some v) (hm:Qe S.mem id=some (.var tid c)) (hs:∀{ok:Ok} {w:World} {cs ds:List Value},(∀id o,Qe S.flat.mem id=some o→(Qx β ρ id o).p ok w)→cr β ρ ok w false v ds→cr β ρ ok w false c cs →
   cr β ρ ok w false c' (cs.take (J8 path)++ds++cs.drop (J8 path+ds.length))∧J8 path+ds.length≤cs.length) (ko:Nat.beq e.size v.size=true) (ym:v.isVal=true) (vg:v.inMem=true)
  (hk:k (S.set id (.var tid c'))=some r) (H:KOk P ops Q rest X S β ρ k r):wpList P ops Q (o::rest) a w:=by
 obtain⟨c1,h1,h2⟩:=h.ev (Qc a) hp
 obtain⟨ds,h3,h4⟩:=h.ev (Qc a) hx
 have zj:c1=_:=h2
 subst zj
 have zz:Qe S.flat.mem id=some (.var tid c):=Q0 hm
 obtain⟨⟨cs,hh,hc⟩,zd⟩:=h.ob zz
 obtain⟨h5,h6⟩:=hs h.mm h4 hc
 have hdl:=U1 h4
 have xe:=QJ ko
 have xb:Qu (v.val ds)=ds:=N3 h4 ym vg
 have zg:=run_storeCells_at P (β id) (J8 path) tid ds 0 cs.toArray w hh (by simp; omega) (Tp h4 vg)
 simp only[ZD,List.toList_toArray]at zg
 have ka:(execOp a.eval o).run P w=.ok .skip (w.setRow (β id) (cs.take (J8 path)++ds++cs.drop (J8 path+ds.length)).toArray):=by
  have k5:a.eval p=.pointer (some ⟨β id,J8 path,none⟩):=h1
  have yg:(v.val ds).cells.toList=ds:=by rw[←Vp,xb]
  have pf:(v.val ds).cells.size=e.size:=by rw[←XR,yg]; omega
  unfold execOp
  rw[kg]
  simp only[k5,h3]
  simp[Instr.storeAt,Instr.sureAddr,storeVar,J6 hT w he,pf,yg,zg]
 refine Jl hw ?_
 unfold Oper.wp
 rw[ka]
 show wpList P ops Q rest (a.put o.dst undef) _
 rw[hd]
 obtain⟨l1,l2,e1,e2,e3⟩:=Jj zz
 have hO:Qg β ρ S.flat.mem=Qg β ρ l1++Qx β ρ id (.var tid c)::Qg β ρ l2:=by rw[e1]; simp[Qg]
 have hS:=h.upd hO (t':=Qx β ρ id (.var tid c')) (w':=w.setRow (β id) (cs.take (J8 path)++ds++cs.drop (J8 path+ds.length)).toArray) rfl rfl rfl (by simp) (fun b hb hn=>setRow_other _ _ _ _ fun e=>hn e) (fun b o hb=>hb) (fun g hg=>.inl hg) (fun kq kj=>by
  refine⟨_,setRow_heap _ _ _ _ _ _ hh,?_⟩
  exact Wg (Ly h5 kq) kj)
 have hE:(S.set id (.var tid c')).flat=⟨S.flat.env,Nv S.flat.mem id (.var tid c')⟩:=by
  simp only[XS.flat,XS.set]
  rw[K4 hm]
 refine H β ρ _ _ _ hk ⟨rfl,rfl,rfl,agP.refl _ _ _⟩ ?_
 rw[hE,e2]
 have ke:Qg β ρ (l1++(id,Ob.var tid c')::l2)=Qg β ρ l1++Qx β ρ id (.var tid c')::Qg β ρ l2:=by simp[Qg]
 exact Rel.ofSb hS ke.symm fun e he=>by
  have:=Jg.1 hS.dat _ (QY.2 ⟨e,he,rfl⟩)
  rw[←ke]at this
  exact this
theorem Jbm(hX:X.n=n)(hr:X.res=[])(h:Rel X β ρ S.flat a w){o:Oper}(hw:Region.wanted o (yielded ops a.tmps)=true){d:Nat}(hd:o.dst=some d)(zl:okW n S d=true)(hb:okB S d=true){t:TypeId}(kg:o.op=.makeMap t none){kk v:Ty}
  (hk:k ((S.born d (.map kk v [])).put d [] (.m d))=some r) (H:KOk P ops Q rest X S β ρ k r):wpList P ops Q (o::rest) a w:=by
 obtain⟨h1,h2⟩:=Yy zl hX hr
 obtain⟨f1,f2,f3⟩:=Ge hb
 have ka:(execOp a.eval o).run P w=.ok (.value (.map (some w.heap.size))) (w.alloc (.map #[] 0)):=by
  unfold execOp
  rw[kg]
  simp[Instr.makeMap]
 refine Jl hw (Yo ka ?_)
 rw[hd]
 have ha:=Qep d β ρ w.heap.size (ρ d)
 have zo:Below w.heap.size w (w.alloc (.map #[] 0)):=(Below.refl _ _).alloc (QD _) _
 refine H (upd β d w.heap.size) (upd ρ d (ρ d)) _ _ _ hk (U4 f3 ha _ _ _) ?_
 have hA:Rel X (upd β d w.heap.size) (upd ρ d (ρ d)) ⟨Js (Yv d S.env) d++S.fix,(d,.map kk v [])::(S.mem++S.fixM)⟩ a (w.alloc (.map #[] 0)):=by
  refine Rel.alloc h ha f1 (fun e he=>let⟨q1,q2,_⟩:=C8 f2 h2 e he; ⟨q1,q2⟩) zo (fun g hg=>?_) ?_
  ·have yi:g=upd β d w.heap.size d:=hg
   rw[Jd]at yi; omega
  ·refine⟨#[],0,?_,rfl,by simp,by simp,by simp⟩
   rw[Jd]; exact heap_alloc_new w _
 have hP:=hA.put0 h1 (x:=.m d) (c:=[.map (some (upd β d w.heap.size d))]) rfl
 have hv:(AV.m d).val [.map (some (upd β d w.heap.size d))]=.map (some w.heap.size):=by rw[Jd]; rfl
 rw[hv]at hP
 have he:((S.born d (.map kk v [])).put d [] (.m d)).flat=⟨⟨d,[],.m d⟩::(Js (Yv d S.env) d++S.fix),(d,.map kk v [])::(S.mem++S.fixM)⟩:=rfl
 rw[he]
 refine hP.less fun e hm=>?_
 rcases QX.1 hm with rfl | hm
 ·exact .head _
 ·refine .tail _ ?_
  have:Js (Js (Yv d S.env) d++S.fix) d=Js (Yv d S.env) d++S.fix:=by
   rw[K3 h2]
   congr 1
   have idem:∀l:List En,Js (Js l d) d=Js l d:=by
    intro l
    induction l with
    | nil=>rfl
    | cons x l ih =>
     simp only[Js]
     cases hb:(Nat.beq x.t d||Rq d x.cs)with
     | true=>simpa using ih
     | false=>simp only[cond_false,Js,hb,ih]
   exact idem _
  show e∈Js (Js (Yv d S.env) d++S.fix) d
  rw[this]; exact hm
theorem Q0z(hT:Q4 P Y.T)(h:Rel X β ρ S.flat a w){o:Oper}(hw:Region.wanted o (yielded ops a.tmps)=true){t:TypeId}{m ky x:Operand}(kg:o.op=.mapUpdate t m ky x)(hd:o.dst=none){te tk:TE}{kt et:TypeId}(ku:Qh Y.T t=some te)(kr:te.d=.map kt et)(yu:Qh Y.T kt=some tk)
  {id:Nat} {kv xv:AV} {kk v:Ty} {xs:List (kk.De×v.De)} {key:kk.De} {y:v.De} (hm:S.ev [] m=some (.m id)) (vt:S.ev [] ky=some kv) (hx:S.ev [] x=some xv) (xt:Qe S.mem id=some (.map kk v xs)) (yf:asD [] kv kk=some key) (hy:asD S.flat.mem xv v=some y)
  (wh:Yu Y.T kk tk.d=true) (rz:(kk.agg==kv.isAgg)=true) (iy:(v.agg==xv.isAgg)=true)
  (hk:k (S.set id (.map kk v (Ya key y xs)))=some r) (H:KOk P ops Q rest X S β ρ k r):wpList P ops Q (o::rest) a w:=by
 obtain⟨c1,h1,h2⟩:=h.ev (Qc a) hm
 have zj:c1=[.map (some (β id))]:=h2
 subst zj
 have k5:a.eval m=.map (some (β id)):=h1
 have qa:isV (rt v) (okR X β ρ S.flat.mem w) w y (a.eval x):=h.asD (Qc a) hx hy (bEq iy)
 obtain⟨c3,h3,h4⟩:=h.ev (Qc a) vt
 have mn:isV (rt kk) (okR X β ρ S.flat.mem w) w key (a.eval ky):=by
  refine⟨c3,Z6 (M:=[]) (β:=β) (ρ:=ρ) (by simp[Qe]) yf h4,?_⟩
  rw[h3]; simp only[AV.val,RT.val,B7,bEq rz]; cases kv.isAgg<;>rfl
 have pg:=Ga (Jy wh) mn
 have zz:Qe S.flat.mem id=some (.map kk v xs):=Q0 xt
 obtain⟨⟨es,clock,hg,hp,ye,sf,sg⟩,zd⟩:=h.ob zz
 obtain⟨es',clock',ka,xm,wi⟩:=Qft hT ku kr yu wh hg hp ⟨sf,sg⟩ key qa
 have z8:(execOp a.eval o).run P w=.ok .skip { w with heap:=w.heap.setIfInBounds (β id) (.map es' clock') }:=by
  unfold execOp
  rw[kg]
  simp only[k5,pg]
  simp[ka]
 refine Jl hw ?_
 unfold Oper.wp
 rw[z8]
 show wpList P ops Q rest (a.put o.dst undef) _
 rw[hd]
 have hgl:=Yi hg
 obtain⟨l1,l2,e1,e2,e3⟩:=Jj zz
 have hO:Qg β ρ S.flat.mem=Qg β ρ l1++Qx β ρ id (.map kk v xs)::Qg β ρ l2:=by rw[e1]; simp[Qg]
 have hS:=h.upd hO (t':=Qx β ρ id (.map kk v (Ya key y xs))) (w':={ w with heap:=w.heap.setIfInBounds (β id) (.map es' clock') }) rfl rfl rfl (by simp) (fun b hb hn=>(MapKept.heap_set hg).2 b fun e=>hn e) (fun b o hb=>hb) (fun g hg=>.inl hg) (fun kq kj=>by
  refine⟨es',clock',(MapKept.heap_set hg).1,?_,(Lr (Jy wh) key y ye).1,wi.1,wi.2⟩
  exact Vq (W9 xm kq) kj)
 have hE:(S.set id (.map kk v (Ya key y xs))).flat=⟨S.flat.env,Nv S.flat.mem id (.map kk v (Ya key y xs))⟩:=by
  simp only[XS.flat,XS.set]
  rw[K4 xt]
 refine H β ρ _ _ _ hk ⟨rfl,rfl,rfl,agP.refl _ _ _⟩ ?_
 rw[hE,e2]
 have ke:Qg β ρ (l1++(id,Ob.map kk v (Ya key y xs))::l2)=Qg β ρ l1++Qx β ρ id (.map kk v (Ya key y xs))::Qg β ρ l2:=by simp[Qg]
 exact Rel.ofSb hS ke.symm fun e he=>by
  have:=Jg.1 hS.dat _ (QY.2 ⟨e,he,rfl⟩)
  rw[←ke]at this
  exact this
theorem Jbn(hT:Q4 P Y.T)(h:Rel X β ρ S.flat a w){o:Oper}(hw:Region.wanted o (yielded ops a.tmps)=true){t:TypeId}{p x:Operand}(kg:o.op=.store t p x)(hd:o.dst=none){e:TE}(he:Qh Y.T t=some e)
  {id sz:Nat} {j:Int} {path:List PS} {v c:AV} {et:TypeId} {u:Ty} {xs:List u.De} {y z:u.De} (hp:S.ev [] p=some (.e id (.i j sz::path))) (hx:S.ev [] x=some v) (hm:Qe S.mem id=some (.row et u xs)) (hy:idx xs j=some y)
  (hs:Qnd path (.d u y) v=some c) (hz:asD S.flat.mem c u=some z) (ko:Nat.beq e.size v.size=true) (hsu:Nat.beq sz u.size=true) (zq:Nat.ble 1 u.size=true) (ym:v.isVal=true) (vg:v.inMem=true)
  (hk:k (S.set id (.row et u (xs.set j.toNat z)))=some r) (H:KOk P ops Q rest X S β ρ k r):wpList P ops Q (o::rest) a w:=by
 obtain⟨c1,h1,g0,hg0,zj⟩:=h.ev (Qc a) hp
 subst zj
 obtain⟨ds,h3,h4⟩:=h.ev (Qc a) hx
 have zz:Qe S.flat.mem id=some (.row et u xs):=Q0 hm
 have xe:=QJ ko
 have hszu:=QJ hsu
 subst hszu
 have hdl:=U1 h4
 have xb:Qu (v.val ds)=ds:=N3 h4 ym vg
 obtain⟨l1,l2,e1,e2,e3⟩:=Jj zz
 obtain⟨⟨vi,cs0,xr,_⟩,_⟩:=h.ob zz
 obtain⟨g,c0,hv⟩:∃g c0,ρ id=.slice (some ⟨g,0,none⟩) xs.length c0:=by
  rcases xr.2 with⟨hv,h0⟩ | ⟨g,cap,cur,fz,hv,_⟩
  ·rw[hv]at hg0; cases hg0
  ·exact⟨g,cap,by rw[hv,vi]⟩
 have bf:g0=g:=by rw[hv]at hg0; simp[Value.ownBlock]at hg0; omega
 subst bf
 have hO:Qg β ρ S.flat.mem=Qg β ρ l1++ml (.slice (some ⟨g0,0,none⟩) xs.length c0) et (rt u) xs::Qg β ρ l2:=by rw[e1]; simp[Qg,Qx,hv]
 have yc:J8 path+ds.length≤u.size:=by
  obtain⟨⟨hl,csr,kb,hr⟩,_⟩:=h.ob zz
  have zy:=Fw hr (W8 hy).2
  obtain⟨_,h6⟩:=Tw (β:=β) (ρ:=ρ) h4 hs (show cr β ρ _ w false (.d u y) _ from zy)
  have:=(rt u).len zy
  have h7:=Ji u
  omega
 obtain⟨cur,fz,⟨hh,yk⟩,hlen,hS⟩:=Sb.mset h (Qg β ρ l1) (Qg β ρ l2) hO hy (by rw[Ji]; exact QF zq) (off:=J8 path) (ds:=ds) (z:=z) (by rw[Ji]; exact yc) (Tp h4 vg) (fun es xe=>by
  obtain⟨h5,_⟩:=Tw (β:=β) (ρ:=ρ) h4 hs (show cr β ρ _ w false (.d u y) es from xe)
  exact Z6 h.mm hz h5)
 rw[Ji]at hS hlen
 have zg:=Uz P g0 (j.toNat*u.size+J8 path) et fz ds 0 cur w hh yk (by omega) (Tp h4 vg)
 simp only[ZD]at zg
 have ka:(execOp a.eval o).run P w=.ok .skip (w.setRow g0 (cur.toList.take (j.toNat*u.size+J8 path)++ds++cur.toList.drop (j.toNat*u.size+J8 path+ds.length)).toArray):=by
  have k5:a.eval p=.pointer (some ⟨g0,j.toNat*u.size+J8 path,none⟩):=h1
  have yg:(v.val ds).cells.toList=ds:=by rw[←Vp,xb]
  have pf:(v.val ds).cells.size=e.size:=by rw[←XR,yg]; omega
  unfold execOp
  rw[kg]
  simp only[k5,h3]
  simp[Instr.storeAt,Instr.sureAddr,storeVar,J6 hT w he,pf,yg,zg]
 refine Jl hw ?_
 unfold Oper.wp
 rw[ka]
 show wpList P ops Q rest (a.put o.dst undef) _
 rw[hd]
 have hE:(S.set id (.row et u (xs.set j.toNat z))).flat=⟨S.flat.env,Nv S.flat.mem id (.row et u (xs.set j.toNat z))⟩:=by
  simp only[XS.flat,XS.set]
  rw[K4 hm]
 refine H β ρ _ _ _ hk ⟨rfl,rfl,rfl,agP.refl _ _ _⟩ ?_
 rw[hE,e2]
 have ke:Qg β ρ (l1++(id,Ob.row et u (xs.set j.toNat z))::l2)=Qg β ρ l1++ml (.slice (some ⟨g0,0,none⟩) xs.length c0) et (rt u) (xs.set j.toNat z)::Qg β ρ l2:=by simp[Qg,Qx,hv]
 exact Rel.ofSb hS ke.symm fun e he=>by
  have:=Jg.1 hS.dat _ (QY.2 ⟨e,he,rfl⟩)
  rw[←ke]at this
  exact this
end
end Gx

/- Maps whose values are objects of their own: a value is taken out, put back; made, frozen. -/
namespace Gd
open Go Go.RowKit
section
variable {β:Nat→Nat} {X:Cx} {G:GL} {D:List DF} {H:HL} {O:List TL} {a:Act} {w w':World}
theorem Sb.repl{A A' R:List TL}(h:Sb β X G D [] (A++R) a w)(ic:w'.os=w.os)(ie:w'.tape=w.tape)(ub:w'.output=w.output)(ko:w.heap.size=w'.heap.size){L:List Nat}
  (hblk:∀b,b∉L→w'.heap[b]?=w.heap[b]?) (hL:∀g∈L,∃t∈A,∀o,t.cov g o)
  (yo:∀t∈A',∀g,t.blks g→∃s∈A,s.blks g) (yp:∀t∈A',∀b o,t.cov b o→∃s∈A,s.cov b o)
  (hp:Evo (Jf X.ok X.w.heap.size β [] (A++R) w) w w'→(∀b o,Jf X.ok X.w.heap.size β [] (A++R) w b o→Jf X.ok X.w.heap.size β [] (A'++R) w' b o)→∀t∈A',t.p (Jf X.ok X.w.heap.size β [] (A'++R) w') w')
  (hd:A'.Pairwise fun s t=>∀g,s.blks g→¬ t.blks g):Sb β X G D [] (A'++R) a w':=by
 have xc:=QM.1 h.dOO
 have hLb:∀g∈L,∃t∈A,t.blks g:=fun g hg=>let⟨t,ht,hc⟩:=hL g hg; ⟨t,ht,t.cb (hc 0)⟩
 have kq:Evo (Jf X.ok X.w.heap.size β [] (A++R) w) w w':=Evo.of_blocks (KK ko) fun b o hk=>hblk b fun hb=>by
  obtain⟨t,ht,hc⟩:=hL b hb
  exact hk.2.2.2 t (by simp[ht]) (hc o)
 have kj:∀b o,Jf X.ok X.w.heap.size β [] (A++R) w b o→Jf X.ok X.w.heap.size β [] (A'++R) w' b o:=by
  rintro b o ⟨h1,h2,h3,h4⟩
  refine⟨h1,by omega,h3,fun u hu hc=>?_⟩
  rcases QW.1 hu with hu | hu
  ·obtain⟨s,hs,hsc⟩:=yp u hu b o hc
   exact h4 s (by simp[hs]) hsc
  ·exact h4 u (by simp[hu]) hc
 have zd:∀t∈A',∀g,t.blks g→X.mine g:=fun t ht g hg=>let⟨s,hs,ar⟩:=yo t ht g hg; (h.own s (by simp[hs])).2 g ar
 refine { sz:=h.sz,df:=h.df,fr:=h.fr,pn:=h.pn,tm:=h.tm,bel:=?_,dat:=(h.dat.evo kq).weak kj,obj:=by simp,own:=?_,dHH:=by simp,dHO:=by simp,dOO:=?_ }
 ·refine h.bel.trans ⟨ic,ie,ub,KK ko,fun k hk hn=>hblk k fun hb=>?_⟩
  obtain⟨t,ht,hg⟩:=hLb k hb
  exact((h.own t (by simp[ht])).2 k hg).elim (fun h=>by omega) hn
 ·intro u hu
  rcases QW.1 hu with hu | hu
  ·exact⟨hp kq kj u hu,zd u hu⟩
  ·have:=h.own u (by simp[hu]:u∈A++R)
   refine⟨u.weak (u.keep this.1 (fun g hg=>hblk g fun hb=>?_) kq) kj,this.2⟩
   obtain⟨t,ht,zt⟩:=hLb g hb
   exact xc.2.2 t ht u hu g zt hg
 ·refine QM.2 ⟨hd,xc.2.1,fun t ht u hu g hg zt=>?_⟩
  obtain⟨s,hs,ar⟩:=yo t ht g hg
  exact xc.2.2 s hs u hu g ar zt
end
end Gd
namespace Gx
open Go Go.RowKit Gd
set_option linter.unusedVariables false
set_option linter.unusedSimpArgs false
section
variable {β:Nat→Nat} {ρ ρ':Nat→Value} {ok:Ok} {w:World}
theorem Qqf{d:Nat}:∀{l:List En},Jfv d l=true→∀e∈l,noS d e.av=true
 | [],_,e,he=>by cases he
 | x::l,h,e,he=>by
  simp only[Jfv,QQ]at h
  rcases QX.1 he with rfl | he
  ·exact h.1
  ·exact Qqf h.2 e he
theorem Pa{d:Nat}(ha:∀i,i≠d→ρ' i=ρ i):∀{m:Bool} {x:AV} {cs:List Value},noS d x=true→cr β ρ ok w m x cs→cr β ρ' ok w m x cs
 | m,.d t x,cs,_,h=>by cases m<;>exact h
 | m,.p id path,cs,hn,h=>by cases m<;>exact h
 | m,.e id path,cs,hn,h=>by
  have:=ha id (neB (by simpa[noS]using hn))
  cases m<;>(simp only[cr]at h ⊢; rw[this]; exact h)
 | m,.s id,cs,hn,h=>by
  have:=ha id (neB (by simpa[noS]using hn))
  cases m<;>(simp only[cr]at h ⊢; rw[this]; exact h)
 | m,.m id,cs,hn,h=>by cases m<;>exact h
 | m,.b id,cs,hn,h=>by cases m<;>exact h
 | m,.w ..,cs,hn,h=>by cases m<;>exact h
 | m,.a t x,cs,_,h=>by cases m<;>exact h
 | m,.z,cs,_,h=>by cases m<;>exact h
 | m,.ns,cs,_,h=>by cases m<;>exact h
 | m,.np,cs,_,h=>by cases m<;>exact h
 | m,.nm,cs,_,h=>by cases m<;>exact h
 | m,.nf,cs,_,h=>by cases m<;>exact h
 | m,.f fn caps,cs,hn,h=>by cases m<;>exact let⟨vs,h1,h2⟩:=h; ⟨vs,h1,Pa ha (by simpa[noS]using hn) h2⟩
 | m,.ag l,cs,hn,h=>by cases m<;>exact Pa ha (m:=false) (x:=l) (by simpa[noS]using hn) h
 | m,.tp l,cs,hn,h=>by cases m<;>exact let⟨vs,h1,h2⟩:=h; ⟨vs,h1,Pa ha (by simpa[noS]using hn) h2⟩
 | m,.nil,cs,_,h=>by cases m<;>exact h
 | true,.cons x r,cs,hn,h=>by
  simp only[noS,QQ]at hn
  exact let⟨c1,vs,h1,h2,h3⟩:=h; ⟨c1,vs,h1,Pa ha hn.1 h2,Pa ha hn.2 h3⟩
 | false,.cons x r,cs,hn,h=>by
  simp only[noS,QQ]at hn
  exact let⟨c1,vs,h1,h2,h3⟩:=h; ⟨c1,vs,h1,Pa ha hn.1 h2,Pa ha hn.2 h3⟩
theorem Qxh{d:Nat}(ha:∀i,i≠d→ρ' i=ρ i):∀{M:List (Nat×Ob)},Qb6 d M=true→Xc (Qg β ρ M) (Qg β ρ' M)
 | [],_=>.nil
 | (k,o)::l,h=>by
  have hk:k≠d∧Qb6 d l=true:=by
   cases o with
   | mapC k1 v xs hole=>cases hole<;>simp only[Qb6,QQ]at h<;>first | exact⟨neB h.1.1,h.2⟩ | exact⟨neB h.1,h.2⟩
   | var t c=>simp only[Qb6,QQ]at h; exact⟨neB h.1.1,h.2⟩
   | _=>simp only[Qb6,QQ]at h; exact⟨neB h.1,h.2⟩
  refine .cons ?_ (Qxh ha hk.2)
  have h2:=ha k hk.1
  cases o with
  | var t c =>
   simp only[Qb6,QQ]at h
   refine⟨fun g=>Iff.rfl,fun b o=>Iff.rfl,fun ok w hp=>?_⟩
   obtain⟨cs,hh,hc⟩:=hp
   exact⟨cs,hh,Pa ha h.1.2 hc⟩
  | row e t xs=>simp only[Qx,h2]; exact Wa.refl _
  | tail e t xs=>simp only[Qx,h2]; exact Wa.refl _
  | map k v xs=>exact Wa.refl _
  | mapE k9 v9 xs9 key j=>exact Wa.refl _
  | mapC k1 v xs hole =>
   have hv:Lz β ρ' v hole=Lz β ρ v hole:=by
    cases hole with
    | none=>rfl
    | some q =>
     simp only[Qb6,QQ]at h
     cases v with
     | sl e u=>exact ha q.2 (neB h.1.2)
     | mp k v=>rfl
   simp only[Qx,h2,hv]; exact Wa.refl _
end
section
variable {X:Cx} {β β':Nat→Nat} {ρ ρ':Nat→Value} {S:XS} {a:Act} {w w':World}
theorem Rel.permM{env:List En}{m m':List (Nat×Ob)}(h:Rel X β ρ ⟨env,m⟩ a w)(hp:m.Perm m'):Rel X β ρ ⟨env,m'⟩ a w:=Sb.perm h (hp.map _)
theorem Ej{l:List (Nat×Ob)}{id:Nat}{o:Ob}(h:Qe l id=some o):l.Perm ((id,o)::Jv l id):=by
 obtain⟨l1,l2,e1,_,e3⟩:=Jj h
 rw[e3,e1]
 exact XK
theorem Qqg{l:List (Nat×Ob)}{id d:Nat}(k8:id≠d):Qe (Jv l d) id=Qe l id:=by
 induction l with
 | nil=>rfl
 | cons q l ih =>
  simp only[Jv]
  cases hb:Nat.beq q.1 d with
  | true =>
   have:=QJ hb
   simp only[cond_true,Qe]
   cases yd:Nat.beq q.1 id with
   | true=>exact absurd ((QJ yd).symm.trans this) k8
   | false=>rfl
  | false =>
   simp only[cond_false,Qe]
   cases Nat.beq q.1 id with
   | true=>rfl
   | false=>exact ih
theorem Rel.repl{env env':List En}{A A' R:List (Nat×Ob)}(h:Rel X β ρ ⟨env,A++R⟩ a w)(ic:w'.os=w.os)(ie:w'.tape=w.tape)(ub:w'.output=w.output)(ko:w.heap.size=w'.heap.size){L:List Nat}
  (hblk:∀b,b∉L→w'.heap[b]?=w.heap[b]?) (hL:∀g∈L,∃t∈Qg β ρ A,∀o,t.cov g o)
  (yo:∀t∈Qg β' ρ' A',∀g,t.blks g→∃s∈Qg β ρ A,s.blks g) (yp:∀t∈Qg β' ρ' A',∀b o,t.cov b o→∃s∈Qg β ρ A,s.cov b o)
  (hp:Evo (okR X β ρ (A++R) w) w w'→(∀b o,okR X β ρ (A++R) w b o→Jf X.ok X.w.heap.size (fun _=>0) [] (Qg β' ρ' A'++Qg β ρ R) w' b o)→∀t∈Qg β' ρ' A',t.p (Jf X.ok X.w.heap.size (fun _=>0) [] (Qg β' ρ' A'++Qg β ρ R) w') w')
  (hd:(Qg β' ρ' A').Pairwise fun s t=>∀g,s.blks g→¬ t.blks g) (hR:Xc (Qg β ρ R) (Qg β' ρ' R))
  (he:∀e∈env',e∈env∧∀(ok:Ok) (w:World) (cs:List Value),cr β ρ ok w false e.av cs→cr β' ρ' ok w false e.av cs):Rel X β' ρ' ⟨env',A'++R⟩ a w':=by
 have h0:Sb (fun _=>0) X [] (env.map (enD β ρ a)) [] (Qg β ρ A++Qg β ρ R) a w:=by
  have:Qg β ρ (A++R)=Qg β ρ A++Qg β ρ R:=JK
  rw[←this]; exact h
 have e0:Qg β ρ (A++R)=Qg β ρ A++Qg β ρ R:=JK
 have h1:=h0.repl (A':=Qg β' ρ' A') (w':=w') ic ie ub ko hblk hL yo yp (fun q1 q2=>hp (by simpa only[okR,e0]using q1) (by simpa only[okR,e0]using q2)) hd
 have h2:=h1.simO ((Xc.refl _).append hR)
 have e1:Qg β' ρ' (A'++R)=Qg β' ρ' A'++Qg β' ρ' R:=JK
 refine Rel.ofSb h2 e1.symm fun e hm=>?_
 obtain⟨q1,q2⟩:=he e hm
 have hD:=Jg.1 h2.dat _ (QY.2 ⟨e,q1,rfl⟩)
 rw[←e1]at hD
 exact⟨fun hc=>let⟨cs,r1,r2⟩:=hD.1 hc; ⟨cs,r1,q2 _ _ _ r2⟩,hD.2⟩
theorem Qqh{d:Nat}:∀{l m:List (Nat×Ob)},Qb6 d l=true→Qb6 d m=true→Qb6 d (l++m)=true
 | [],m,_,h=>h
 | (k,o)::l,m,h,hm=>by
  cases o with
  | mapC k1 v xs hole=>cases hole<;>simp only[Qb6,QQ,QA]at h ⊢<;>exact⟨h.1,Qqh h.2 hm⟩
  | _=>simp only[Qb6,QQ,QA]at h ⊢; exact⟨h.1,Qqh h.2 hm⟩
theorem Quf{id:Nat}(h:Qgn S id=true):(∀e∈S.flat.env,noS id e.av=true)∧Qb6 id (Jv S.mem id++S.fixM)=true∧Yb S.prot id=false:=by
 simp only[Qgn,QQ]at h
 refine⟨fun e he=>?_,Qqh h.1.1.2 h.1.2,by simpa using h.2⟩
 rcases QW.1 he with he | he
 ·exact Qqf h.1.1.1.1 e he
 ·exact Qqf h.1.1.1.2 e he
theorem Q8l(h:Rel X β ρ S.flat a w){id:Nat}{o:Ob}(hm:Qe S.mem id=some o):Rel X β ρ ⟨S.flat.env,[(id,o)]++(Jv S.mem id++S.fixM)⟩ a w:=by
 have:=Rel.permM (env:=S.flat.env) (m:=S.flat.mem) (m':=((id,o)::Jv S.mem id)++S.fixM) h ((Ej hm).append_right _)
 exact this
theorem Qug{id:Nat}{o:Ob}(hm:Qe S.mem id=some o){b f:Nat}(kn:okR X β ρ S.flat.mem w b f):okR X β ρ ([(id,o)]++(Jv S.mem id++S.fixM)) w b f :=
 ⟨kn.1,kn.2.1,kn.2.2.1,fun t ht=>kn.2.2.2 t (by
   have sj:(Qg β ρ S.flat.mem).Perm (Qg β ρ ([(id,o)]++(Jv S.mem id++S.fixM))):=List.Perm.map _ (by
    have:=(Ej hm).append_right S.fixM
    exact this)
   exact sj.mem_iff.2 ht)⟩
theorem Qqi{α:Type}{f:Nat→α}{d:Nat}{v:α}:∀i,i≠d→upd f d v i=f i:=fun i h=>Zq f v h
section
variable {c:CK} {x:c.ty.De} {sv:Value} {ok:Ok} {d:Nat}
theorem Jf6(hp:(Qb3 c sv x).p ok w)(hβ:β' d=(Ke sv).getD 0)(hρ:ρ' d=sv)(b:Nat):(Qx β' ρ' d (obC c x)).blks b↔Ke sv=some b:=by
 cases c with
 | sl e u =>
  obtain⟨_,cs,h2,_⟩:=hp
  simp only[obC,Qx,ml,hρ]
  exact Qcl h2
 | mp k v =>
  obtain⟨g,rfl,_⟩:=hp
  simp only[obC,Qx,Ro,hβ,Ke,ZF,Option.some.injEq]
  exact eq_comm
theorem Q8m{b o:Nat}:(Qx β ρ d (obC c x)).cov b o↔(Qx β ρ d (obC c x)).blks b:=by
 cases c<;>exact Iff.rfl
theorem Jqu(hβ:β' d=(Ke sv).getD 0)(hρ:ρ' d=sv)(hp:(Qb3 c sv x).p ok w):(Qx β' ρ' d (obC c x)).p ok w:=by
 cases c with
 | sl e u=>simp only[obC,Qx,hρ]; exact hp
 | mp k v =>
  obtain⟨g,rfl,h⟩:=hp
  have:β' d=g:=hβ
  simp only[obC,Qx,this]; exact h
def Q00(β:Nat→Nat)(ρ:Nat→Value)(c:CK)(id:Nat):Value:=match c with
 | .sl _ _=>ρ id
 | .mp _ _=>.map (some (β id))
theorem Q8n(h:(Qx β ρ d (obC c x)).p ok w):(Qb3 c (Q00 β ρ c d) x).p ok w:=by
 cases c with
 | sl e u=>exact h
 | mp k v=>exact⟨_,rfl,h⟩
theorem Qqj(h:(Qx β ρ d (obC c x)).p ok w)(b:Nat):(Qx β ρ d (obC c x)).blks b↔Ke (Q00 β ρ c d)=some b:=by
 cases c with
 | sl e u =>
  obtain⟨_,cs,h2,_⟩:=h
  exact Qcl h2
 | mp k v=>simp only[obC,Qx,Ro,Q00,Ke,Option.some.injEq]; exact eq_comm
theorem Qqk{o:Option Ob}(h:Qmb c o=some x):o=some (obC c x):=by
 unfold Qmb Jmg at h
 cases c with
 | sl e u =>
  split at h
  ·rename_i v hv
   split at hv
   ·rename_i e1 u1 e2 u2 ys h1
    injection h1 with h1 h2
    obtain⟨hb,hv⟩:=bvT hv
    injection hv with hv
    subst hv
    have h3:=QJ hb
    obtain⟨q,hx⟩:=Ty.cast_ok h
    cases q
    subst hx; subst h1; subst h3; rfl
   ·rename_i h0; cases h0
   ·cases hv
  ·cases h
 | mp k v =>
  split at h
  ·rename_i v0 hv
   split at hv
   ·rename_i h0; cases h0
   ·rename_i k1 u1 k2 u2 ys h1
    injection hv with hv
    subst hv
    obtain⟨q,hx⟩:=Ty.cast_ok h
    cases q
    subst hx; rfl
   ·cases hv
  ·cases h
end
theorem Jky{τ:Type}{r:RT τ}{e:Nat}{v:Value}{xs:List τ}{ok ok':Ok}(h:(ml v e r xs).p ok w)(hk:∀b o,ok b o→ok' b o)(kb:∀b o,v.ownBlock=some b→b<w.heap.size→ok' b o):isV (rSl r) ok' w xs v:=by
 obtain⟨hl,cs,zm,hr⟩:=h
 rcases zm.2 with⟨rfl,h0⟩ | ⟨g,cap,cur,fz,hv,_,hh,yk,hle,xh,zr,yu⟩
 ·simp only[Zv]at hl
  have:xs=[]:=XZ.1 hl.symm
  subst this; exact Jmc
 ·have mu:=hv
  rw[hl]at mu
  refine Z5.2 ⟨_,xs.length,cap,mu,rfl,by rw[hl]at hle; omega,fun h0=>⟨g,0,rfl,fun i x hx=>?_⟩⟩
  have hi:=(QK.1 hx).1
  have zy:=Fw hr hx
  refine⟨_,r.weak zy hk,fun j u hu=>?_⟩
  have hj:j<r.size:=by have:=(QK.1 hu).1; rw[r.len zy]at this; exact this
  have tt:v.ownBlock=some g:=by rw[hv]; rfl
  rw[QE]
  refine⟨kb g _ tt (Yi hh),?_⟩
  rw[Qtz hh]
  rw[JQ hj,JZ,←yu,JD]at hu
  split at hu
  ·exact hu
  ·cases hu
theorem Jf7{τ:Type}{r:RT τ}{ok:Ok}{xs:List τ}{v u:Value}(hz:zal v u)(h:isV (rSl r) ok w xs u):isV (rSl r) ok w xs v:=by
 rcases hz with rfl | ⟨rfl,A,rfl⟩
 ·exact h
 ·obtain⟨A',n,c,h1,hl,hc,_⟩:=Z5.1 h
  injection h1 with _ h2 h3
  subst h2
  exact Z5.2 ⟨A,0,0,rfl,hl,QD _,fun h0=>by omega⟩
theorem Quh{κ:Type}{rk:RT κ}{e:TypeId}{u:Ty}{ok ok':Ok}:∀{xs:List (κ×List u.De)} {ys:List (κ×Value)} {vs:List Value} {es:List MapEntry},B8 (.sl e u) none undef ok w xs ys vs→Xq rk Jkc ok' w ys es→(∀b o,ok b o→ok' b o) →
  (∀v∈vs,∀b o,Ke v=some b→b<w.heap.size→ok' b o)→Xq rk (rt (.sl u)) ok' w xs es
 | [],[],[],es,_,hm,_,_=>hm
 | x::xs,y::ys,v::vs,es,⟨h1,h2,h3⟩,⟨en,es',he,m1,⟨cs,⟨zr,_⟩,m2⟩,m3⟩,hk,ho=>by
  refine⟨en,es',he,by rw[h1]; exact m1,?_,Quh h3 m3 hk fun v hv=>ho v (.tail _ hv)⟩
  have hv:en.val=y.2:=by rw[m2,zr]; rfl
  rw[hv]
  rcases h2 with⟨q,_⟩ | ⟨_,hz,hp⟩
  ·cases q
  ·exact Jf7 hz (Jky hp hk fun b o hb hlt=>ho v (.head _) b o (by obtain⟨_,cs,q,_⟩:=hp; exact(Qcl q).1 hb) hlt)
 | [],[],_::_,_,h,_,_,_=>h.elim
 | [],_::_,_,_,h,_,_,_=>h.elim
 | _::_,[],_,_,h,_,_,_=>h.elim
 | _::_,_::_,[],_,h,_,_,_=>h.elim
theorem Q01{id:Nat}{vs:List Value}:Tq (upd ρ id (.tuple vs.toArray) id)=vs:=by rw[Jd]; simp[Tq]
theorem Jqv{t s:TL}(h:∀g,t.blks g→¬ s.blks g):[t,s].Pairwise fun s t=>∀g,s.blks g→¬ t.blks g :=
 QG.2 ⟨fun u hu=>by simp only[QX,XD,or_false]at hu; subst hu; exact h,QG.2 ⟨by simp,.nil⟩⟩
theorem Qql{d id:Nat}:∀{l m:List (Nat×Ob)},Jt d (l++m)=true→Jt d (Jv l id++m)=true
 | [],m,h=>h
 | (k0,o)::l,m,h=>by
  have hl:Jt d (l++m)=true:=by
   cases o with
   | mapC k1 v xs hole=>cases hole<;>simp only[QA,Jt,QQ]at h<;>exact h.2
   | _=>simp only[QA,Jt,QQ]at h; exact h.2
  simp only[Jv]
  cases hb:Nat.beq k0 id with
  | true=>exact hl
  | false =>
   have ih:=Qql (id:=id) hl
   simp only[cond_false]
   cases o with
   | mapC k1 v xs hole=>cases hole<;>simp only[QA,Jt,QQ]at h ⊢<;>exact⟨h.1,ih⟩
   | _=>simp only[QA,Jt,QQ]at h ⊢; exact⟨h.1,ih⟩
theorem Xc.trans:∀{l1 l2 l3:List TL},Xc l1 l2→Xc l2 l3→Xc l1 l3:=by
 intro l1 l2 l3 h1
 induction h1 generalizing l3 with
 | nil=>intro h2; exact h2
 | cons h r ih =>
  intro h2
  cases h2 with
  | cons k q=>exact .cons ⟨fun g=>(k.1 g).trans (h.1 g),fun b o=>(k.2.1 b o).trans (h.2.1 b o),fun ok w hp=>k.2.2 ok w (h.2.2 ok w hp)⟩ (ih q)
theorem Qui(h:Rel X β ρ S.flat a w){id d:Nat}{kk:Ty}{c:CK}{xs:List (kk.De×c.ty.De)}(hm:Qe S.mem id=some (.mapC kk c xs none))(hq:Qgn S id=true)(hb:okB S d=true){key:kk.De}
  {ys:List (kk.De×Value)} {vs':List Value} {sv:Value} {x:c.ty.De} {es:Array MapEntry} {clock:Nat} (hg:w.heap[β id]?=some (.map es clock)) (uv:Xq (rt kk) Jkc (okR X β ρ S.flat.mem w) w ys es.toList)
  (zg:(es.toList.map MapEntry.born).Nodup∧∀e∈es.toList,e.born<clock) (yj:B8 c (some key) sv (okR X β ρ S.flat.mem w) w xs ys vs') (ye:(xs.map Prod.fst).Nodup) (sd:Qh5 vs') (qb:∀v∈vs',Ke v≠some (β id)) (u4:key∉xs.map Prod.fst→sv=.slice none 0 0)
  (vg:∀s∈vs',s=undef∨s∈Tq (ρ id)) (qc:sv=.slice none 0 0∨sv∈Tq (ρ id)) (mq:∀s∈vs',∀g,Ke s=some g→Ke sv≠some g) (hp:(Qb3 c sv x).p (okR X β ρ S.flat.mem w) w) (ar:Ke sv≠some (β id)) :
  ∃β' ρ',Y6 S ((S.swap id (.mapC kk c xs (some (key,d)))).born d (obC c x)) β β' ρ ρ'∧Rel X β' ρ' ((S.swap id (.mapC kk c xs (some (key,d)))).born d (obC c x)).flat a w:=by
 obtain⟨q1,q2,q3⟩:=Quf hq
 obtain⟨b1,b2,b3⟩:=Ge hb
 have hF:=Q8l h hm
 have hid:id≠d:=(X6 b1 (id,.mapC kk c xs none) (QZ _ ((Ej hm).mem_iff.2 (.head _)))).1
 let β':=upd β d ((Ke sv).getD 0)
 let ρ':=upd (upd ρ d sv) id (.tuple vs'.toArray)
 have hβd:β' d=(Ke sv).getD 0:=Jd _ _ _
 have hβo:∀i,i≠d→β' i=β i:=fun i h1=>Zq _ _ h1
 have hρid:Tq (ρ' id)=vs':=by simp only[ρ',Jd]; simp[Tq]
 have hρd:ρ' d=sv:=by simp only[ρ',Zq _ _ (fun e:d=id=>hid e.symm),Jd]
 have hρo:∀i,i≠id→i≠d→ρ' i=ρ i:=fun i h1 h2=>by simp only[ρ',Zq _ _ h1,Zq _ _ h2]
 have hρo2:∀i,i≠d→ρ' i=upd ρ id (.tuple vs'.toArray) i:=fun i hi=>by
  simp only[ρ',upd]
  by_cases h1:i=id
  ·simp[h1]
  ·simp[h1,hi]
 have ym:Lz β' ρ' c (some (key,d))=sv:=by
  cases c with
  | sl e u=>exact hρd
  | mp k v =>
   obtain⟨g,hg,_⟩:=hp
   subst hg
   show Value.map (some (β' d))=_
   rw[hβd]; rfl
 have hblk:=Jf6 (β':=β') (ρ':=ρ') (d:=d) hp hβd hρd
 have jq:∀g,Ke sv=some g→(Qx β ρ id (.mapC kk c xs none)).blks g:=fun g hg=>by
  rcases qc with rfl | qc
  ·cases hg
  ·exact .inr ⟨sv,qc,hg⟩
 have uw:∀g,(g=β' id∨∃v∈Tq (ρ' id),Ke v=some g)→(Qx β ρ id (.mapC kk c xs none)).blks g:=fun g hg=>by
  rw[hβo id hid,hρid]at hg
  rcases hg with hg | ⟨s,hs,hg⟩
  ·exact .inl hg
  ·rcases vg s hs with rfl | hs
   ·cases hg
   ·exact .inr ⟨s,hs,hg⟩
 refine⟨β',ρ',⟨rfl,rfl,rfl,fun i hi=>⟨hβo i fun e=>?_,hρo i (fun e=>?_) (fun e=>?_)⟩⟩,?_⟩
 ·subst e; rw[Zg.2 hi]at b3; cases b3
 ·subst e; rw[Zg.2 hi]at q3; cases q3
 ·subst e; rw[Zg.2 hi]at b3; cases b3
 have iz:=Rel.repl (β':=β') (ρ':=ρ') (env':=Yv d S.env++S.fix) (A':=[(d,obC c x),(id,.mapC kk c xs (some (key,d)))]) hF rfl rfl rfl rfl (L:=[]) (fun _ _=>rfl) (by simp)
  (fun t ht g hg=>⟨_,.head _,?_⟩) (fun t ht b o hc=>⟨_,.head _,?_⟩) (fun _ kj t ht=>?_) ?_ ?_ ?_
 ·exact iz
 ·simp only[Qg,JW,VB,QX,XD,or_false]at ht
  rcases ht with rfl | rfl
  ·exact jq g ((hblk g).1 hg)
  ·exact uw g hg
 ·simp only[Qg,JW,VB,QX,XD,or_false]at ht
  rcases ht with rfl | rfl
  ·exact jq b ((hblk b).1 (Q8m.1 hc))
  ·exact uw b hc
 ·have vm:=fun b o kn=>kj b o (Qug hm kn)
  simp only[Qg,JW,VB,QX,XD,or_false]at ht
  rcases ht with rfl | rfl
  ·exact Jqu hβd hρd ((Qb3 c sv x).weak hp vm)
  ·refine⟨ys,⟨es,clock,by rw[hβo id hid]; exact hg,Vq uv vm,zg⟩,?_,ye,?_,?_,?_⟩
   ·rw[ym,hρid]; exact Rp yj vm
   ·rw[hρid]; exact sd
   ·rw[hρid,hβo id hid]; exact qb
   ·intro k0 ql hn
    injection ql with ql
    subst ql
    rw[ym]; exact u4 hn
 ·refine Jqv fun g hg zt=>?_
  have hg1:=(hblk g).1 hg
  have au:g=β' id∨∃v∈Tq (ρ' id),Ke v=some g:=zt
  rw[hβo id hid,hρid]at au
  rcases au with rfl | ⟨s,hs,zt⟩
  ·exact ar hg1
  ·exact mq s hs g zt hg1
 ·exact Xc.trans (Qxh Qqi q2) (N7 (d:=d) (fun i hi=>⟨hβo i hi,hρo2 i hi⟩) (Qql b1))
 ·intro e he
  have ke:e∈S.flat.env∧Uw d e.av=true:=by
   rcases QW.1 he with he | he
   ·obtain⟨m1,m2⟩:=Qgq he
    exact⟨QZ _ m1,m2⟩
   ·exact⟨QV _ he,Ry b2 e he⟩
  refine⟨ke.1,fun ok w cs hc=>?_⟩
  exact G0 (β':=β') (ρ':=ρ') (d:=d) (fun i hi=>⟨hβo i hi,hρo2 i hi⟩) ke.2 (Pa (ρ':=upd ρ id (.tuple vs'.toArray)) Qqi (q1 e ke.1) hc)
theorem Q02{R:Type}{k:XS→Option R}{r:R}(h:Rel X β ρ S.flat a w){src:Src}{id d:Nat}(ht:Q0w S src id d k=some r):∃S' β' ρ',Y6 S S' β β' ρ ρ'∧Rel X β' ρ' S'.flat a w∧k S'=some r:=by
 unfold Q0w at ht
 split at ht
 ·rename_i kk c xs hm
  split at ht
  ·split at ht
   ·rename_i key yf
    obtain⟨hb,ht⟩:=bvT ht
    simp only[QQ]at hb
    obtain⟨⟨hk,hq⟩,hb⟩:=hb
    obtain⟨⟨ys,⟨es,clock,hg,uv,zg⟩,yj,ye,sd,qb,_⟩,_⟩:=h.ob (Q0 (m:=S.fixM) hm)
    have yj:B8 c none undef (okR X β ρ S.flat.mem w) w xs ys (Tq (ρ id)):=yj
    cases c with
    | sl e u =>
     have aw:∃vs' sv x,(Qr key xs).getD []=x∧B8 (.sl e u) (some key) sv (okR X β ρ S.flat.mem w) w xs ys vs'∧(∀s∈vs',s=undef∨s∈Tq (ρ id))∧(sv=.slice none 0 0∨sv∈Tq (ρ id))∧Qh5 vs' ∧
       (∀s∈vs',∀g,Ke s=some g→Ke sv≠some g)∧(Qb3 (.sl e u) sv x).p (okR X β ρ S.flat.mem w) w∧(key∉xs.map Prod.fst→sv=.slice none 0 0):=by
      rcases Qkg hk yj ye sd with⟨r1,r2⟩ | ⟨vs',sv,x,r1,r2,r3,r4,r5,r6,r7⟩
      ·exact⟨_,.slice none 0 0,[],by rw[r1]; rfl,r2 _,fun s hs=>.inr hs,.inl rfl,sd,(fun s _ g _ e'=>by cases e'),Q8j rfl _ _,fun _=>rfl⟩
      ·exact⟨vs',sv,x,by rw[r1]; rfl,r2,r4,.inr r3,r5,r6,r7,fun hn=>by rw[Qkd hk hn]at r1; cases r1⟩
     obtain⟨vs',sv,x,f1,f2,f3,f4,f5,f6,f7,f8⟩:=aw
     obtain⟨β',ρ',g1,g2⟩:=Qui h hm hq hb hg uv zg f2 ye f5 (fun v hv=>by
      rcases f3 v hv with rfl | hv
      ·intro e'; cases e'
      ·exact qb v hv) f8 f3 f4 f6 f7 (by
      rcases f4 with rfl | f4
      ·intro e'; cases e'
      ·exact qb sv f4)
     have ht:k ((S.swap id (.mapC kk (.sl e u) xs (some (key,d)))).born d (.row e u ((Qr key xs).getD [])))=some r:=ht
     rw[f1]at ht
     exact⟨_,β',ρ',g1,g2,ht⟩
    | mp k2 v2 =>
     have ht:(match Qr key xs with
      | some ys=>k ((S.swap id (.mapC kk (.mp k2 v2) xs (some (key,d)))).born d (.map k2 v2 ys))
      | none=>k S)=some r:=ht
     rcases Qkg hk yj ye sd with⟨r1,r2⟩ | ⟨vs',sv,x,r1,r2,r3,r4,r5,r6,r7⟩
     ·rw[r1]at ht
      exact⟨S,β,ρ,⟨rfl,rfl,rfl,agP.refl _ _ _⟩,h,ht⟩
     ·rw[r1]at ht
      obtain⟨β',ρ',g1,g2⟩:=Qui h hm hq hb hg uv zg r2 ye r5 (fun v hv=>by
       rcases r4 v hv with rfl | hv
       ·intro e'; cases e'
       ·exact qb v hv) (fun hn=>by rw[Qkd hk hn]at r1; cases r1) r4 (.inr r3) r6 r7 (qb sv r3)
      exact⟨_,β',ρ',g1,g2,ht⟩
   ·cases ht
  ·cases ht
 ·cases ht
theorem Qkn(h:Rel X β ρ S.flat a w){id h1:Nat}{o o1:Ob}(hm:Qe S.mem id=some o)(sn:Qe S.mem h1=some o1)(k8:id≠h1) :
  Rel X β ρ ⟨S.flat.env,[(h1,o1),(id,o)]++(Jv (Jv S.mem h1) id++S.fixM)⟩ a w∧(∀{b f:Nat},okR X β ρ S.flat.mem w b f→okR X β ρ ([(h1,o1),(id,o)]++(Jv (Jv S.mem h1) id++S.fixM)) w b f) ∧
  ∀g,(Qx β ρ h1 o1).blks g→¬ (Qx β ρ id o).blks g:=by
 have uk:Qe (Jv S.mem h1) id=some o:=by rw[Qqg k8]; exact hm
 have sj:S.flat.mem.Perm ([(h1,o1),(id,o)]++(Jv (Jv S.mem h1) id++S.fixM)):=((Ej sn).append_right S.fixM).trans (((Ej uk).append_right S.fixM).cons (h1,o1))
 have hF:=Rel.permM (env:=S.flat.env) (m:=S.flat.mem) h sj
 refine⟨hF,fun kn=>⟨kn.1,kn.2.1,kn.2.2.1,fun t ht=>kn.2.2.2 t ((sj.map _).mem_iff.2 ht)⟩,?_⟩
 have hOO:(Qg β ρ ([(h1,o1),(id,o)]++(Jv (Jv S.mem h1) id++S.fixM))).Pairwise fun s t=>∀g,s.blks g→¬ t.blks g:=hF.dOO
 exact(QG.1 hOO).1 (Qx β ρ id o) (.head _)
theorem Q03(h:Rel X β ρ S.flat a w){id h1:Nat}{kk:Ty}{c:CK}{xs:List (kk.De×c.ty.De)}{hole:Option (kk.De×Nat)}{x0:c.ty.De}(hm:Qe S.mem id=some (.mapC kk c xs hole))(sn:Qe S.mem h1=some (obC c x0))(k8:id≠h1)
  (hq:Qgn { S with mem:=Jv S.mem h1 } id=true) {xs':List (kk.De×c.ty.De)} {vs':List Value} (vg:∀s∈vs',s=Q00 β ρ c h1∨s∈Tq (ρ id)) (ic:w'.os=w.os) (ie:w'.tape=w.tape) (ub:w'.output=w.output) (ko:w.heap.size=w'.heap.size) (hblk:∀b,b≠β id→w'.heap[b]?=w.heap[b]?)
  (hp:∀ok',Evo (okR X β ρ S.flat.mem w) w w'→(∀b o,okR X β ρ S.flat.mem w b o→ok' b o)→Jfd (β id) (rt kk) c vs' xs' none undef ok' w') :
  Y6 S (XS.swap { S with mem:=Jv S.mem h1 } id (.mapC kk c xs' none)) β β ρ (upd ρ id (.tuple vs'.toArray))∧Rel X β (upd ρ id (.tuple vs'.toArray)) (XS.swap { S with mem:=Jv S.mem h1 } id (.mapC kk c xs' none)).flat a w':=by
 obtain⟨hF,ax,qd⟩:=Qkn h hm sn k8
 obtain⟨q1,q2,q3⟩:=Quf hq
 obtain⟨i6,_⟩:=h.ob (Q0 (m:=S.fixM) sn)
 refine⟨⟨rfl,rfl,rfl,Wi q3 fun i hi=>⟨rfl,Qqi i hi⟩⟩,?_⟩
 have xy:∀g,(g=β id∨∃v∈Tq (upd ρ id (.tuple vs'.toArray) id),Ke v=some g)→∃s∈Qg β ρ [(h1,obC c x0),(id,.mapC kk c xs hole)],s.blks g∧∀o,s.cov g o:=by
  intro g hg
  rw[Q01]at hg
  rcases hg with hg | ⟨s,hs,hg⟩
  ·exact⟨_,.tail _ (.head _),.inl hg,fun _=>.inl hg⟩
  ·rcases vg s hs with rfl | hs
   ·have:=(Qqj i6 g).2 hg
    exact⟨_,.head _,this,fun o=>Q8m.2 this⟩
   ·exact⟨_,.tail _ (.head _),.inr ⟨s,hs,hg⟩,fun _=>.inr ⟨s,hs,hg⟩⟩
 refine Rel.repl (a:=a) (w':=w') (ρ':=upd ρ id (.tuple vs'.toArray)) (env':=S.flat.env) (A':=[(id,.mapC kk c xs' none)]) hF ic ie ub ko (L:=[β id]) (fun b hb=>hblk b (by simpa using hb)) ?_ ?_ ?_ ?_ (by simp) (Qxh Qqi q2) fun e he=>⟨he,fun ok w cs hc=>Pa Qqi (q1 e he) hc⟩
 ·intro g yi
  have:g=β id:=by simpa using yi
  exact⟨Qx β ρ id (.mapC kk c xs hole),by simp[Qg],fun o=>.inl this⟩
 ·intro t ht g yi
  have:t=Qx β (upd ρ id (.tuple vs'.toArray)) id (.mapC kk c xs' none):=by simpa[Qg]using ht
  subst this
  obtain⟨s,s1,s2,_⟩:=xy g yi
  exact⟨s,s1,s2⟩
 ·intro t ht b o hc
  have:t=Qx β (upd ρ id (.tuple vs'.toArray)) id (.mapC kk c xs' none):=by simpa[Qg]using ht
  subst this
  obtain⟨s,s1,_,s2⟩:=xy b hc
  exact⟨s,s1,s2 o⟩
 ·intro kq kj t ht
  have:t=Qx β (upd ρ id (.tuple vs'.toArray)) id (.mapC kk c xs' none):=by simpa[Qg]using ht
  subst this
  have:=hp _ (kq.mono fun b o kn=>ax kn) (fun b o kn=>kj b o (ax kn))
  show Jfd _ _ _ (Tq (upd ρ id (.tuple vs'.toArray) id)) _ _ _ _ _
  rw[Q01]; exact this
theorem Quj{R:Type}{k:XS→Option R}{r:R}(h:Rel X β ρ S.flat a w){id:Nat}(ht:Qp6 S id k=some r):∃S' ρ',Y6 S S' β β ρ ρ'∧Rel X β ρ' S'.flat a w∧k S'=some r:=by
 unfold Qp6 at ht
 split at ht
 ·rename_i kk c xs q hm
  split at ht
  ·rename_i ys0 hy
   obtain⟨hb,ht⟩:=bvT ht
   simp only[QQ]at hb
   obtain⟨hb,hmp0⟩:=hb
   cases c with
   | sl e u=>cases hmp0
   | mp k2 v2 =>
   have sn:=Qqk hy
   have k8:id≠q.2:=fun e=>by rw[←e,hm]at sn; cases sn
   obtain⟨⟨ys,⟨es,clock,hg,uv,zg⟩,yj,ye,sd,qb,u4⟩,_⟩:=h.ob (Q0 (m:=S.fixM) hm)
   obtain⟨i6,_⟩:=h.ob (Q0 (m:=S.fixM) sn)
   have qd:=(Qkn h hm sn k8).2.2
   have vg:q.1∈xs.map Prod.fst:=by
    apply Classical.byContradiction
    intro hn
    have:=u4 q.1 rfl hn
    cases this
   have wy:∀g,Ke (Q00 β ρ (.mp k2 v2) q.2)=some g→¬ (Qx β ρ id (.mapC kk (.mp k2 v2) xs (some q))).blks g:=fun g hg=>qd g ((Qqj i6 g).2 hg)
   obtain⟨vs',r1,r2,r3⟩:=Qp0 (c:=.mp k2 v2) hb.2 (Q8n i6) (show B8 (.mp k2 v2) (some q.1) (Q00 β ρ (.mp k2 v2) q.2) _ w xs ys _ from yj) vg ye sd (fun s hs g hg zt=>wy g zt (.inr ⟨s,hs,hg⟩))
   obtain⟨g1,g2⟩:=Q03 (w':=w) h hm sn k8 hb.1 r3 rfl rfl rfl rfl (fun _ _=>rfl) (xs':=Ya q.1 ys0 xs) fun ok' _ kj =>
    ⟨ys,⟨es,clock,hg,Vq uv kj,zg⟩,Rp r1 kj,(Lr hb.2 _ _ ye).1,r2,fun v hv e=>by
     rcases r3 v hv with rfl | hv
     ·exact wy _ e (.inl rfl)
     ·exact qb v hv e,fun _ e=>by cases e⟩
   exact⟨_,_,g1,g2,ht⟩
  ·cases ht
 ·exact⟨S,ρ,⟨rfl,rfl,rfl,agP.refl _ _ _⟩,h,ht⟩
 ·cases ht
theorem Q04{R:Type}{k:XS→Option R}{r:R}(h:Rel X β ρ S.flat a w){id:Nat}(ht:Q0v S id k=some r):∃S',Y6 S S' β β ρ ρ∧Rel X β ρ S'.flat a w∧k S'=some r:=by
 unfold Q0v at ht
 split at ht
 ·rename_i kk e u xs hm
  refine⟨S.swap id (.map kk (.sl u) xs),⟨rfl,rfl,rfl,agP.refl _ _ _⟩,?_,ht⟩
  have hF:=Q8l h hm
  obtain⟨⟨ys,⟨es,clock,hg,uv,zg⟩,yj,ye,_,qb,_⟩,zd⟩:=h.ob (Q0 (m:=S.fixM) hm)
  have yj:B8 (.sl e u) none undef (okR X β ρ S.flat.mem w) w xs ys (Tq (ρ id)):=yj
  have hOO:(Qg β ρ ([(id,.mapC kk (.sl e u) xs none)]++(Jv S.mem id++S.fixM))).Pairwise fun s t=>∀g,s.blks g→¬ t.blks g:=hF.dOO
  have qd:=(QG.1 hOO).1
  refine Rel.repl (A':=[(id,.map kk (.sl u) xs)]) hF rfl rfl rfl rfl (L:=[]) (fun _ _=>rfl) (by simp) ?_ ?_ ?_ (by simp) (Xc.refl _) fun e he=>⟨he,fun ok w cs hc=>hc⟩
  ·intro t ht g hg
   have:t=Qx β ρ id (.map kk (.sl u) xs):=by simpa[Qg]using ht
   subst this
   exact⟨_,.head _,.inl hg⟩
  ·intro t ht b o hc
   have:t=Qx β ρ id (.map kk (.sl u) xs):=by simpa[Qg]using ht
   subst this
   exact⟨_,.head _,.inl hc⟩
  ·intro _ kj t ht
   have:t=Qx β ρ id (.map kk (.sl u) xs):=by simpa[Qg]using ht
   subst this
   have vm:=fun b o kn=>kj b o (Qug hm kn)
   refine⟨es,clock,hg,?_,ye,zg⟩
   refine Quh yj (Vq uv vm) vm fun v hv b o hb hlt=>?_
   refine⟨X.mine_ok (zd b (.inr ⟨v,hv,hb⟩)) o,hlt,by simp,fun t ht hc=>?_⟩
   rcases QW.1 ht with ht | ht
   ·have:t=Qx β ρ id (.map kk (.sl u) xs):=by simpa[Qg]using ht
    subst this
    have yp:b=β id:=hc
    subst yp
    exact qb v hv hb
   ·exact qd t ht b (.inr ⟨v,hv,hb⟩) (t.cb hc)
 ·cases ht
end
section
variable {P:Program} {Y:TX} {X:Cx} {S:XS} {β β':Nat→Nat} {ρ ρ':Nat→Value} {a a':Act} {w w':World} {n:Nat}
variable {ops:Array Oper} {Q:Exit→Act→World→Prop} {rest:List Oper} {R:Type} {k:XS→Option R} {r:R}
theorem Jpe(hT:Q4 P Y.T)(h:Rel X β ρ S.flat a w){o:Oper}(hw:Region.wanted o (yielded ops a.tmps)=true){t:TypeId}{m ky x:Operand}(kg:o.op=.mapUpdate t m ky x)(hd:o.dst=none){te tk:TE}{kt et:TypeId}(ku:Qh Y.T t=some te)(kr:te.d=.map kt et)(yu:Qh Y.T kt=some tk)
  {id:Nat} {kv xv:AV} {kk:Ty} {c:CK} {xs:List (kk.De×c.ty.De)} {hole:Option (kk.De×Nat)} {key:kk.De} (hm:S.ev [] m=some (.m id)) (vt:S.ev [] ky=some kv) (hx:S.ev [] x=some xv) (xt:Qe S.mem id=some (.mapC kk c xs hole)) (yf:asD [] kv kk=some key)
  (wh:Yu Y.T kk tk.d=true) (rz:(kk.agg==kv.isAgg)=true) (hs:Jkr S id kk c xs hole key xv k=some r) (H:KOk P ops Q rest X S β ρ k r):wpList P ops Q (o::rest) a w:=by
 unfold Jkr at hs
 split at hs
 ·rename_i h1 hid
  split at hs
  ·rename_i x0 nt
   obtain⟨hb,hs⟩:=bvT hs
   simp only[QQ]at hb
   have k8:id≠h1:=fun e=>by rw[e]at hb; simp at hb
   obtain⟨_,qe,hk⟩:=Yk hs
   have i7:=Jy wh
   have ay:∀kh,Q0b hole=some kh→kh=key:=by
    unfold chk at qe
    have qe:=(bvT qe).1
    intro kh hkh
    cases hole with
    | none=>cases hkh
    | some q =>
     injection hkh with hkh
     subst hkh
     cases c with
     | sl e u=>exact((Zf i7).1 qe).symm
     | mp k v=>cases qe
   have sn:=Qqk nt
   obtain⟨c1,e1,e2⟩:=h.ev (Qc a) hm
   have e2':c1=[.map (some (β id))]:=e2
   subst e2'
   have e1':a.eval m=.map (some (β id)):=e1
   obtain⟨c3,h3,h4⟩:=h.ev (Qc a) vt
   have mn:isV (rt kk) (okR X β ρ S.flat.mem w) w key (a.eval ky):=by
    refine⟨c3,Z6 (M:=[]) (β:=β) (ρ:=ρ) (by simp[Qe]) yf h4,?_⟩
    rw[h3]; simp only[AV.val,RT.val,B7,bEq rz]; cases kv.isAgg<;>rfl
   have pg:=Ga i7 mn
   obtain⟨c5,h5,h6⟩:=h.ev (Qc a) hx
   obtain⟨i6,_⟩:=h.ob (Q0 (m:=S.fixM) sn)
   have hnv:zal (a.eval x) (Q00 β ρ c h1)∧(a.eval x).oneCell'=true:=by
    cases c with
    | sl e u =>
     cases xv<;>simp only[idC]at hid<;>first | (cases hid; done) | skip
     injection hid with hid
     subst hid
     obtain⟨⟨v0,rfl,hz⟩,xa⟩:=h6
     have:a.eval x=v0:=h5
     rw[this]
     obtain⟨A,n,c,rfl⟩:=hz.form xa
     exact⟨hz,rfl⟩
    | mp k v =>
     cases xv<;>simp only[idC]at hid<;>first | (cases hid; done) | skip
     injection hid with hid
     subst hid
     have h6':c5=[.map (some (β _))]:=h6
     subst h6'
     have:a.eval x=.map (some (β _)):=h5
     rw[this]; exact⟨.inl rfl,rfl⟩
   obtain⟨⟨ys,⟨es,clock,hg,uv,zg⟩,yj,ye,sd,qb,u4⟩,_⟩:=h.ob (Q0 (m:=S.fixM) xt)
   have qd:=(Qkn h xt sn k8).2.2
   have wy:∀g,Ke (Q00 β ρ c h1)=some g→¬ (Qx β ρ id (.mapC kk c xs hole)).blks g:=fun g hg=>qd g ((Qqj i6 g).2 hg)
   obtain⟨vs',r1,r2,r3⟩:=Q0p i7 hnv.1 (Q8n i6) ay yj ye sd (fun s hs g hg zt=>wy g zt (.inr ⟨s,hs,hg⟩))
   obtain⟨es',clock',ka,xm,wi⟩:=Qft hT ku kr yu wh hg uv zg key (s:=Jkc) (y:=a.eval x) (v:=a.eval x) ⟨[a.eval x],⟨rfl,hnv.2⟩,rfl⟩
   have z8:(execOp a.eval o).run P w=.ok .skip { w with heap:=w.heap.setIfInBounds (β id) (.map es' clock') }:=by
    unfold execOp
    rw[kg]
    simp only[e1',pg]
    simp[ka]
   refine Jl hw ?_
   unfold Oper.wp
   rw[z8]
   show wpList P ops Q rest (a.put o.dst undef) _
   rw[hd]
   have az:∀b,b≠β id→(w.heap.setIfInBounds (β id) (.map es' clock'))[b]?=w.heap[b]?:=fun b hb=>(MapKept.heap_set hg).2 b hb
   obtain⟨g1,g2⟩:=Q03 (w':={ w with heap:=w.heap.setIfInBounds (β id) (.map es' clock') }) h xt sn k8 hb.1 r3 rfl rfl rfl (by simp) az (xs':=Ya key x0 xs) fun ok' kq kj =>
    ⟨Ya key (a.eval x) ys,⟨es',clock',(MapKept.heap_set hg).1,Vq (W9 xm kq) kj,wi⟩,Rp (Qpt r1 (fun v hv b hvb=>az b fun e=>by
     subst e
     rcases r3 v hv with rfl | hv
     ·exact wy _ hvb (.inl rfl)
     ·exact qb v hv hvb) kq) kj,(Lr i7 _ _ ye).1,r2,fun v hv e=>by
     rcases r3 v hv with rfl | hv
     ·exact wy _ e (.inl rfl)
     ·exact qb v hv e,fun _ e=>by cases e⟩
   exact H β _ _ _ _ hk g1 g2
  ·cases hs
 ·cases hs
end
end Gx
