/- States by their shapes. -/
import Derived.Test.YtcaflpbiaeemgaaGreatXH
set_option linter.unusedVariables false
set_option linter.unusedSimpArgs false
namespace Gd
open Go Go.RowKit
section
variable {β:Nat→Nat} {X:Cx} {G:GL} {D:List DF} {H:HL} {O:List TL} {a:Act} {w w':World}
theorem Sb.remake{O':List TL}(h:Sb β X G D H O a w)
  (hp:∀t'∈O',(∃t∈O,(∀g,t'.blks g→t.blks g)∧(∀b o,t'.cov b o→t.cov b o)∧t'.p (Jr X.ok X.w.heap.size β H O w) w)∨((∀g,¬ t'.blks g)∧∀ok w,t'.p ok w))
  (hd:O'.Pairwise fun s t=>∀g,s.blks g→¬ t.blks g):Sb β X G D H O' a w:=by
 have hok:∀b o,Jr X.ok X.w.heap.size β H O w b o→Jr X.ok X.w.heap.size β H O' w b o:=by
  rintro b o ⟨h1,h2,h3,h4⟩;refine⟨h1,h2,h3,fun u hu hc=>?_⟩;rcases hp u hu with⟨t,ht,_,h6,_⟩ | ⟨h5,_⟩
  ·grind
  ·exact h5 b (u.cb hc)
 refine { sz:=h.sz,df:=h.df,fr:=h.fr,pn:=h.pn,tm:=h.tm,bel:=h.bel,dat:=h.dat.weak hok,obj:=h.obj,own:=fun u hu=>?_,dHH:=h.dHH,dHO:=fun p hp' u hu hg=>?_,dOO:=hd }
 ·rcases hp u hu with⟨t,ht,h5,_,h7⟩ | ⟨h5,h6⟩
  ·exact⟨u.weak h7 hok,fun g hg=>(h.own t ht).2 g (h5 g hg)⟩
  grind
 ·rcases hp u hu with⟨t,ht,h5,_⟩ | ⟨h5,_⟩
  ·exact h.dHO p hp' t ht (h5 _ hg)
  ·exact h5 _ hg
end
end Gd
namespace Gx
open Go Go.RowKit Gd
section
variable {X:Cx} {β:Nat→Nat} {ρ:Nat→Value} {S:St} {a:Act} {w w':World}
theorem Qlw:∀{M:List (Nat×Ob)} {c:Nat} {o:Ob},Qk M c=some o→(c,o)∈M
 | q::l,c,o,h=>by
  grind [J8]
theorem Rel.disj(h:Rel X β ρ S a w){c c':Nat}{o o':Ob}(h1:Qk S.mem c=some o)(h2:Qk S.mem c'=some o')(hne:c≠c'):∀g,(Jb β ρ c o).blks g→¬ (Jb β ρ c' o').blks g:=by
 obtain⟨l1,l2,hl,_⟩:=J8 h1;have hm:=Qlw h2;have hp:((l1++(c,o)::l2).map fun q=>Jb β ρ q.1 q.2).Pairwise fun s t=>∀g,s.blks g→¬ t.blks g:=by rw[←hl]; exact h.dOO
 rw[QC,JQ]at hp;have hp1:=QA.1 hp;have hp2:=List.pairwise_cons.1 hp1.2.1;rw[hl]at hm;grind
theorem Rel.freeze1{env:List En}{l1 l2:List (Nat×Ob)}{id:Nat}{e:TypeId}{t:Ty}{xs:List t.De}(h:Rel X β ρ ⟨env,l1++(id,.row e t xs)::l2⟩ a w)(hs:Nat.ble 1 t.size=true) :
  Rel X β ρ ⟨env,l1++(id,.tail e t xs)::l2⟩ a w:=by
 unfold Rel at h ⊢;simp only[Qq,QC,JQ]at h ⊢;have h1:=h.perm (O':=Jb β ρ id (.row e t xs)::(l1.map (fun q=>Jb β ρ q.1 q.2)++l2.map (fun q=>Jb β ρ q.1 q.2))) List.perm_middle;obtain⟨⟨hl,cs,hown,hr⟩,_⟩:=h1.own _ (.head _)
 obtain⟨A,c,hv⟩:∃A c,ρ id=.slice A xs.length c:=by
  rcases hown.2 with⟨hv,h0⟩ | ⟨g,cap,cur,fz,hv,_⟩
  ·grind
  grind
 have hO:Jb β ρ id (.row e t xs)=ml (.slice A xs.length c) e (rt t) xs:=by grind [Jb]
 rw[hO]at h1;have h2:=h1.freeze rfl (by rw[Jo]; exact hs);have hiv:isV (rSl (rt t)) _ w xs (.slice A xs.length c):=h2.d 0 rfl;have h3:={ h2 with dat:=h2.dat.2 }
 have h4:Sb (fun _=>0) X [] (List.map (enD β ρ a) env) [] (Jb β ρ id (.tail e t xs)::(l1.map (fun q=>Jb β ρ q.1 q.2)++l2.map (fun q=>Jb β ρ q.1 q.2))) a w:=by
  refine Sb.remake h3 (fun u hu=>?_) ?_
  ·rcases QX.1 hu with rfl | hu
   ·refine .inl ⟨_,.head _,fun g hg=>?_,fun b o hc=>?_,?_⟩
    ·have hg':(ρ id).ownBlock=some g:=hg
     rw[hv]at hg'; exact hg'
    ·have hc':(ρ id).ownBlock=some b∧Gj (ρ id)*(rt t).size≤o:=hc
     rw[hv]at hc'; exact hc'
    grind [Jb,Qi5]
   ·exact .inl ⟨u,.tail _ hu,fun _ hg=>hg,fun _ _ hc=>hc,(h3.own u (.tail _ hu)).1⟩
  ·have:=List.pairwise_cons.1 h3.dOO
   refine List.pairwise_cons.2 ⟨fun u hu g hg=>this.1 u hu g ?_,this.2⟩;have hg':(ρ id).ownBlock=some g:=hg;rw[hv]at hg'; exact hg'
 exact h4.perm List.perm_middle.symm
theorem Rel.freeze:∀(l:List (Nat×Ob)) {l0 F:List (Nat×Ob)} {env:List En} {ks:List Nat},Rel X β ρ ⟨env,l0++l++F⟩ a w→Rel X β ρ ⟨env,l0++Ud ks l++F⟩ a w
 | [],l0,F,env,ks,h=>h
 | (id,.row e t xs)::l,l0,F,env,ks,h=>by
  simp only[Ud];cases hb:(Yr ks id&&Nat.ble 1 t.size)with
  | true =>
   simp only[cond_true];simp only[QQ]at hb;have h1:Rel X β ρ ⟨env,l0++(id,.row e t xs)::(l++F)⟩ a w:=by simpa using h
   have h2:=h1.freeze1 hb.2;have h3:=Rel.freeze l (l0:=l0++[(id,.tail e t xs)]) (F:=F) (ks:=ks) (by simpa using h2);simpa using h3
  | false =>
   simp only[cond_false];have h3:=Rel.freeze l (l0:=l0++[(id,.row e t xs)]) (F:=F) (ks:=ks) (by simpa using h);simpa using h3
 | (id,.var t c)::l,l0,F,env,ks,h=>by
  have h3:=Rel.freeze l (l0:=l0++[(id,.var t c)]) (F:=F) (ks:=ks) (by simpa using h);grind [Ud]
 | (id,.tail e t xs)::l,l0,F,env,ks,h=>by
  have h3:=Rel.freeze l (l0:=l0++[(id,.tail e t xs)]) (F:=F) (ks:=ks) (by simpa using h);grind [Ud]
 | (id,.map k v xs)::l,l0,F,env,ks,h=>by
  have h3:=Rel.freeze l (l0:=l0++[(id,.map k v xs)]) (F:=F) (ks:=ks) (by simpa using h);grind [Ud]
 | (id,.mapC k v xs hole)::l,l0,F,env,ks,h=>by
  have h3:=Rel.freeze l (l0:=l0++[(id,.mapC k v xs hole)]) (F:=F) (ks:=ks) (by simpa using h);grind [Ud]
theorem Q63:∀{ts:List Ty} {l:List DV} {x:Tup ts},ofL ts l=some x→toL ts x=l
 | [],l,x,h=>by
  cases l with
  | nil=>rfl
  | cons _ _=>simp[ofL]at h
 | [t],l,x,h=>by
  match l,h with
  | [v],h =>
   obtain⟨e,hx⟩:=Ty.cast_ok (by simpa[ofL]using h);obtain⟨u,y⟩:=v;simp only at e;subst e;simp only at hx;subst hx;rfl
  | [],h=>simp[ofL]at h
  | _::_::_,h=>simp[ofL]at h
 | t::u::ts,l,x,h=>by
  match l,h with
  | [],h=>simp[ofL]at h
  | v::vs,h =>
   simp only[ofL]at h;split at h
   ·rename_i a b ha hb
    simp at h; subst h;obtain⟨e,hx⟩:=Ty.cast_ok ha;obtain⟨s,y⟩:=v;simp only at e;subst e;simp only at hx;subst hx;have:=Q63 hb;grind [toL]
   ·cases h
def Bm(ri:List (Nat×Nat))(β:Nat→Nat):Nat→Nat:=fun i=>match Jy ri i with
 | some c=>β c
 | none=>β i
def Au(ri:List (Nat×Nat))(pr:List Nat)(ρ:Nat→Value):Nat→Value:=fun i=>match Jy ri i with
 | some c=>ρ c
 | none=>bif Yr pr i then ρ i else .slice none 0 0
theorem CK.beq_eq:∀{a b:CK},CK.beq a b=true→a=b
 | .sl e u,.sl e' u',h=>by
  simp only[CK.beq,QQ]at h;rw[Nat.eq_of_beq_eq_true h.1,Ty.beq_eq h.2]
 | .mp k v,.mp k' v',h=>by
  simp only[CK.beq,QQ]at h;rw[Ty.beq_eq h.1,Ty.beq_eq h.2]
 | .sl _ _,.mp _ _,h=>by cases h
 | .mp _ _,.sl _ _,h=>by cases h
theorem Qlx{ri:List (Nat×Nat)}{i c:Nat}(h:Jh7 ri i c=true):Jy ri i=some c:=by
 grind [Jh7,Nat.eq_of_beq_eq_true]
theorem Qr8:∀{p q:List PS},Q6w p q=true→p=q
 | [],[],_=>rfl
 | a::l,b::m,h=>by
  simp only[Q6w,QQ]at h;have h2:=Qr8 h.2;have h1:=h.1;cases a<;>cases b<;>simp only[PS.beq,QQ]at h1<;>first | (cases h1; done) | skip
  rw[Nat.eq_of_beq_eq_true h1.1,Nat.eq_of_beq_eq_true h1.2,h2]
 | [],_::_,h=>by cases h
 | _::_,[],h=>by cases h
theorem Qly{α:Type}{x:Option α}(h:isNone x=true):x=none:=by cases x with
 | none=>rfl
 | some _=>cases h
variable {ok:Ok} {M:List (Nat×Ob)} {ri:List (Nat×Nat)} {pr:List Nat}
theorem Pd(hM:∀id o,Qk M id=some o→(Jb β ρ id o).p ok w) :
  ∀{sk:Sk} {m:Bool} {x:AV} {cs:List Value} {l:List DV} (rest:List DV),Zi M ri pr sk x=some l→cr β ρ ok w m x cs→(m=true→sk.isL=true) →
   ∃y,Tx sk (l++rest)=(y,rest)∧cr (Bm ri β) (Au ri pr ρ) ok w m y cs∧y.isAgg=x.isAgg
 | .d t,true,x,cs,l,rest,h,hc,hm=>by cases hm rfl
 | .d t,false,x,cs,l,rest,h,hc,hm=>by
  simp only[Zi]at h;split at h
  ·rename_i y hy
   obtain⟨hb,h⟩:=bvT h;simp at h; subst h;exact⟨.d t y,rfl,Gl hM hy hc,bEq hb⟩
  ·cases h
 | .p id path,true,x,cs,l,rest,h,hc,hm=>by cases hm rfl
 | .p id path,false,x,cs,l,rest,h,hc,hm=>by
  cases x<;>simp only[Zi]at h<;>first | (cases h; done) | skip
  rename_i c path';obtain⟨hb,h⟩:=bvT h;simp only[QQ]at hb;simp at h; subst h;have h1:=Qlx hb.1;have h2:=Qr8 hb.2;subst h2;refine⟨.p id path,rfl,?_,rfl⟩;have hc':cs=[.pointer (some ⟨β c,Yx path,none⟩)]:=hc;show cs=[.pointer (some ⟨Bm ri β id,Yx path,none⟩)]
  rw[hc']; grind [Bm]
 | .s id,true,x,cs,l,rest,h,hc,hm=>by cases hm rfl
 | .s id,false,x,cs,l,rest,h,hc,hm=>by
  cases x<;>simp only[Zi]at h<;>first | (cases h; done) | skip
  ·rename_i c
   obtain⟨hb,h⟩:=bvT h;simp only[QQ]at hb;simp at h; subst h;have h1:=Qlx hb.1;refine⟨.s id,rfl,?_,rfl⟩;obtain⟨h2,h3⟩:=hc;have e:Au ri pr ρ id=ρ c:=by grind [Au]
   exact⟨by rw[e]; exact h2,by rw[e]; exact h3⟩
  ·obtain⟨hb,h⟩:=bvT h
   simp only[QQ]at hb;simp at h; subst h;have h1:=Qly hb.1;refine⟨.s id,rfl,?_,rfl⟩;have hc':cs=[.slice none 0 0]:=hc
   have e:Au ri pr ρ id=.slice none 0 0:=by
    grind [Au,Yr,id]
   exact⟨⟨_,hc',.inl e.symm⟩,none,0,0,e⟩
 | .m id,true,x,cs,l,rest,h,hc,hm=>by cases hm rfl
 | .m id,false,x,cs,l,rest,h,hc,hm=>by
  cases x<;>simp only[Zi]at h<;>first | (cases h; done) | skip
  rename_i c;obtain⟨hb,h⟩:=bvT h;simp at h; subst h;have h1:=Qlx hb;refine⟨.m id,rfl,?_,rfl⟩;have hc':cs=[.map (some (β c))]:=hc;show cs=[.map (some (Bm ri β id))]
  rw[hc']; grind [Bm]
 | .ns,true,x,cs,l,rest,h,hc,hm=>by cases hm rfl
 | .ns,false,x,cs,l,rest,h,hc,hm=>by cases x<;>simp[Zi]at h; subst h; exact⟨.ns,rfl,hc,rfl⟩
 | .np,true,x,cs,l,rest,h,hc,hm=>by cases hm rfl
 | .np,false,x,cs,l,rest,h,hc,hm=>by cases x<;>simp[Zi]at h; subst h; exact⟨.np,rfl,hc,rfl⟩
 | .nm,true,x,cs,l,rest,h,hc,hm=>by cases hm rfl
 | .nm,false,x,cs,l,rest,h,hc,hm=>by cases x<;>simp[Zi]at h; subst h; exact⟨.nm,rfl,hc,rfl⟩
 | .nf,true,x,cs,l,rest,h,hc,hm=>by cases hm rfl
 | .nf,false,x,cs,l,rest,h,hc,hm=>by cases x<;>simp[Zi]at h; subst h; exact⟨.nf,rfl,hc,rfl⟩
 | .z,true,x,cs,l,rest,h,hc,hm=>by cases hm rfl
 | .z,false,x,cs,l,rest,h,hc,hm=>by cases x<;>simp[Zi]at h; subst h; exact⟨.z,rfl,hc,rfl⟩
 | .f fn c,true,x,cs,l,rest,h,hc,hm=>by cases hm rfl
 | .f fn c,false,x,cs,l,rest,h,hc,hm=>by
  cases x<;>simp only[Zi]at h<;>first | (cases h; done) | skip
  rename_i fn' x';obtain⟨hb,h0⟩:=bvT h;simp only[QQ]at hb;have h1:=Nat.eq_of_beq_eq_true hb.1;subst h1;obtain⟨vs,h2,h3⟩:=hc;obtain⟨y,h4,h5,_⟩:=Pd hM (m:=true) rest h0 h3 fun _=>hb.2;exact⟨.f fn y,by grind [Tx],⟨vs,h2,h5⟩,rfl⟩
 | .ag s,true,x,cs,l,rest,h,hc,hm=>by cases hm rfl
 | .ag s,false,x,cs,l,rest,h,hc,hm=>by
  simp only[Zi]at h;split at h
  ·rename_i y hy
   obtain⟨z0,h1,h2,_⟩:=Pd hM (m:=false) rest h (Qrv hy hc) fun e=>by cases e
   refine⟨.ag z0,by grind [Tx],h2,?_⟩;unfold Qfv at hy;split at hy<;>first | rfl | cases hy
  ·cases h
 | .nil,m,x,cs,l,rest,h,hc,hm=>by
  cases x<;>simp[Zi]at h;subst h;refine⟨.nil,rfl,?_,rfl⟩;cases m<;>exact hc
 | .cons a b,true,x,cs,l,rest,h,hc,hm=>by
  cases x<;>simp only[Zi]at h<;>first | (cases h; done) | skip
  rename_i x r;split at h
  ·rename_i u v hu hv
   simp at h; subst h;obtain⟨c1,vs,h1,h2,h3⟩:=hc;obtain⟨y,e1,e2,e3⟩:=Pd hM (m:=false) (v++rest) hu h2 fun e=>by cases e
   obtain⟨z0,e4,e5,e6⟩:=Pd hM (m:=true) rest hv h3 fun _=>by simpa[Sk.isL]using hm rfl
   refine⟨.cons y z0,by grind [Tx,List.append_assoc],⟨c1,vs,?_,e2,e5⟩,rfl⟩;rw[h1];grind [AV.val]
  ·cases h
 | .cons a b,false,x,cs,l,rest,h,hc,hm=>by
  cases x<;>simp only[Zi]at h<;>first | (cases h; done) | skip
  rename_i x r;split at h
  ·rename_i u v hu hv
   simp at h; subst h;obtain⟨c1,c2,h1,h2,h3⟩:=hc;obtain⟨y,e1,e2,e3⟩:=Pd hM (m:=false) (v++rest) hu h2 fun e=>by cases e
   obtain⟨z0,e4,e5,e6⟩:=Pd hM (m:=false) rest hv h3 fun e=>by cases e
   exact⟨.cons y z0,by grind [Tx,List.append_assoc],⟨c1,c2,h1,e2,e5⟩,rfl⟩
  ·cases h
theorem Qr9(hM:∀id o,Qk M id=some o→(Jb β ρ id o).p ok w){env:List En}(hE:∀e∈env,(enD β ρ a e).p ok w) :
  ∀{Γe:List (Nat×Sk)} {l:List DV} (rest:List DV),Qxq M ri pr env Γe=some l →
   ∃es,Rk Γe (l++rest)=(es,rest)∧∀e∈es,(enD (Bm ri β) (Au ri pr ρ) a e).p ok w∧Nat.blt e.t 100000=true
 | [],l,rest,h=>by simp[Qxq]at h; subst h; exact⟨[],rfl,by simp⟩
 | (t,s)::g,l,rest,h=>by
  simp only[Qxq]at h;split at h
  ·rename_i t' x hx
   split at h
   ·rename_i u v hu hv
    simp at h; subst h;obtain⟨hm,ht⟩:=Kl hx;simp only at ht;subst ht;obtain⟨cs,h1,h2⟩:=(hE _ hm).1 (Qi a);obtain⟨y,h3,h4,h5⟩:=Pd hM (v++rest) hu h2 fun e=>by cases e
    obtain⟨es,h6,h7⟩:=Qr9 hM hE rest hv;refine⟨⟨t',[],y⟩::es,by grind [Rk,List.append_assoc],fun e he=>?_⟩;rcases QX.1 he with rfl | he
    ·refine⟨⟨fun _=>⟨cs,?_,h4⟩,.inl (Qi a)⟩,Qi7 hx⟩
     rw[h1]; grind [AV.val]
    ·exact h7 e he
   ·cases h
  ·cases h
theorem Jd{l m:List (Nat×Ob)}{c:Nat}{o:Ob}(h:Qk l c=some o):Qk (l++m) c=some o:=by
 induction l with
 | nil=>simp[Qk]at h
 | cons q l ih =>
  grind [Qk,Nat.beq]
def J1v(β:Nat→Nat)(ρ:Nat→Value)(ri:List (Nat×Nat))(pr:List Nat)(ok:Ok)(w:World)(M:List (Nat×Ob))(id:Nat)(o:Ob):Prop :=
 (∃c ob,Jy ri id=some c∧Qk M c=some ob∧(∀g,(Jb (Bm ri β) (Au ri pr ρ) id o).blks g→(Jb β ρ c ob).blks g)∧(∀b f,(Jb (Bm ri β) (Au ri pr ρ) id o).cov b f→(Jb β ρ c ob).cov b f)∧(Jb (Bm ri β) (Au ri pr ρ) id o).p ok w) ∨
 (Jy ri id=none∧(∀g,¬ (Jb (Bm ri β) (Au ri pr ρ) id o).blks g)∧∀ok w,(Jb (Bm ri β) (Au ri pr ρ) id o).p ok w)
theorem Jld{v:Value}(hv:v=.slice none 0 0){e:Nat}{τ:Type}{r:RT τ}(ok:Ok)(w:World):(ml v e r []).p ok w:=by
 subst hv;exact⟨rfl,[],World.ownsRowS_nil _ _ _ _,rfl⟩
theorem Jty{v:Value}(hv:v=.slice none 0 0){e:Nat}{τ:Type}{r:RT τ}(ok:Ok)(w:World):(Qi5 v e r []).p ok w:=by
 subst hv;exact⟨J1p,[],World.ownsRowS_nil _ _ _ _⟩
theorem Qsa{M0 F:List (Nat×Ob)}(hM:∀id o,Qk (M0++F) id=some o→(Jb β ρ id o).p ok w) :
  ∀{Γm:List (Nat×SkO)} {l:List DV},Jk8 ri pr Γm=true→Qcr M0 F ri pr Γm=some l →
   (Xw Γm l).map Prod.fst=Γm.map Prod.fst∧∀q∈Xw Γm l,J1v β ρ ri pr ok w M0 q.1 q.2
 | [],l,_,h=>by simp[Qcr]at h; subst h; exact⟨rfl,by simp[Xw]⟩
 | (id,s)::g,l,hp,h=>by
  simp only[Jk8,QQ]at hp;simp only[Qcr]at h;split at h
  ·rename_i o ho
   split at h
   ·rename_i u v hu hv
    simp at h; subst h
    have key:∃ob',Qjd s (u++v)=some (ob',v)∧J1v β ρ ri pr ok w M0 id ob':=by
     unfold Jk7 at ho;split at ho
     ·rename_i hn
      simp at ho; subst ho
      have hnp:Yr pr id=false:=by
       have:=hp.1;grind [Yr,id,Jh7,Bool.not_true,Bool.or_self]
      have e:Au ri pr ρ id=.slice none 0 0:=by simp_all [Au,cond_false]
      have nb:∀g,¬ (Au ri pr ρ id).ownBlock=some g:=by rw[e]; intro g hg; cases hg
      cases s with
      | row e' t =>
       simp only[Qd6]at hu;simp at hu; subst hu;refine⟨.row e' t [],?_,.inr ⟨hn,nb,fun ok w=>Jld e ok w⟩⟩;simp[Qjd,Ty.cast,Ty.beq_refl]
      | tail e' t =>
       simp only[Qd6]at hu;simp at hu; subst hu;refine⟨.tail e' t [],?_,.inr ⟨hn,fun g hg=>nb g hg,fun ok w=>Jty e ok w⟩⟩;simp[Qjd,Ty.cast,Ty.beq_refl]
      | var tid c=>simp[Qd6]at hu
      | map k u'=>simp[Qd6]at hu
      | mapC k u'=>simp[Qd6]at hu
     ·rename_i c hc
      split at ho
      ·rename_i ob hob
       simp at ho; subst ho;have hpo:=hM c ob (Jd hob);have eR:Au ri pr ρ id=ρ c:=by grind [Au]
       have eB:Bm ri β id=β c:=by grind [Bm]
       cases s with
       | var tid sk =>
        cases ob<;>simp only[Qd6]at hu<;>first | (cases hu; done) | skip
        rename_i tid' x;obtain⟨hb,hu0⟩:=bvT hu;have:=Nat.eq_of_beq_eq_true hb;subst this;obtain⟨cs,h1,h2⟩:=hpo;obtain⟨y,h3,h4,h5⟩:=Pd hM v hu0 h2 fun e=>by cases e
        refine⟨.var tid y,by grind [Qjd],.inl ⟨c,_,hc,hob,?_,?_,cs,by rw[eB]; exact h1,h4⟩⟩
        ·intro g hg
         have hg':g=Bm ri β id:=hg;show g=β c;rw[hg',eB]
        ·intro b f hg
         have hg':b=Bm ri β id:=hg;show b=β c;rw[hg',eB]
       | row e' t =>
        cases ob<;>simp only[Qd6]at hu<;>first | (cases hu; done) | skip
        rename_i e2 t2 xs;obtain⟨hb,hu0⟩:=bvT hu;clear hu;simp only[QQ]at hb;have h1:=Nat.eq_of_beq_eq_true hb.1;have h2:=Ty.beq_eq hb.2;subst h1; subst h2;simp at hu0; subst hu0;refine⟨.row e' t xs,by simp[Qjd,Ty.cast,Ty.beq_refl],.inl ⟨c,_,hc,hob,?_,?_,?_⟩⟩<;>simp only[Jb,eR]
        ·grind
        ·grind
        ·exact hpo
       | tail e' t =>
        cases ob<;>simp only[Qd6]at hu<;>first | (cases hu; done) | skip
        rename_i e2 t2 xs;obtain⟨hb,hu0⟩:=bvT hu;clear hu;simp only[QQ]at hb;have h1:=Nat.eq_of_beq_eq_true hb.1;have h2:=Ty.beq_eq hb.2;subst h1; subst h2;simp at hu0; subst hu0;refine⟨.tail e' t xs,by simp[Qjd,Ty.cast,Ty.beq_refl],.inl ⟨c,_,hc,hob,?_,?_,?_⟩⟩<;>simp only[Jb,eR]
        ·grind
        ·grind
        ·exact hpo
       | map k u' =>
        cases ob<;>simp only[Qd6]at hu<;>first | (cases hu; done) | skip
        rename_i k2 u2 xs;obtain⟨hb,hu0⟩:=bvT hu;clear hu;simp only[QQ]at hb;have h1:=Ty.beq_eq hb.1;have h2:=Ty.beq_eq hb.2;subst h1; subst h2;simp at hu0; subst hu0;refine⟨.map k u' xs,by simp[Qjd,Ty.cast,Ty.beq_refl],.inl ⟨c,_,hc,hob,?_,?_,?_⟩⟩<;>simp only[Jb,eB]
        ·grind
        ·grind
        ·exact hpo
       | mapC k u' =>
        cases ob<;>simp only[Qd6]at hu<;>first | (cases hu; done) | skip
        rename_i k2 u2 xs hole;obtain⟨hb,hu0⟩:=bvT hu;clear hu;simp only[QQ]at hb;obtain⟨⟨b1,b2⟩,b6⟩:=hb;have h1:=Ty.beq_eq b1;have h2:=CK.beq_eq b2;subst h1; subst h2;have h6:=Qly b6;subst h6;simp at hu0; subst hu0;refine⟨.mapC k u' xs none,by simp[Qjd,Ty.cast,Ty.beq_refl],.inl ⟨c,_,hc,hob,?_,?_,?_⟩⟩<;>simp only[Jb,eB,eR]
        ·exact fun _ hg=>hg
        ·exact fun _ _ hg=>hg
        ·exact hpo
      ·cases ho
    obtain⟨ob',h1,h2⟩:=key;obtain⟨h3,h4⟩:=Qsa hM hp.2 hv;simp only[Xw,h1];refine⟨by simp[h3],fun q hq=>?_⟩;rcases QX.1 hq with rfl | hq
    ·exact h2
    ·exact h4 q hq
   ·cases h
  ·cases h
theorem Wb:∀{l:List Nat} {t:Nat},Yr l t=true↔t∈l
 | [],t=>by simp[Yr]
 | k::l,t=>by
  simp only[Yr,JZ,QX,Wb (l:=l)];grind [Nat.eq_of_beq_eq_true,Nat.beq_refl]
theorem Jzy{pr:List Nat}(hi:Jbv pr ri=true):∀i∈pr,Bm ri β i=β i∧Au ri pr ρ i=ρ i:=by
 have key:∀{ri:List (Nat×Nat)},Jbv pr ri=true→∀i∈pr,∀c,Jy ri i=some c→c=i:=by
  intro ri
  induction ri with
  | nil=>grind [Jy]
  | cons q l ih =>
   obtain⟨k,x⟩:=q;intro h i hi c hc;simp only[Jbv,QQ]at h;grind [Jy,Nat.beq,Nat.eq_of_beq_eq_true,Wb]
 intro i hm;cases hl:Jy ri i with
 | none=>exact⟨by grind [Bm],by simp only[Au,hl,Wb.2 hm,cond_true]⟩
 | some c =>
  have:=key hi i hm c hl;grind [Bm,Au]
theorem Qd8:∀{Γm:List (Nat×SkO)} {mem:List (Nat×Ob)} {cs:List Nat},Ij ri Γm cs=true→mem.map Prod.fst=Γm.map Prod.fst →
  (mem.Pairwise fun q q'=>∀c c',Jy ri q.1=some c→Jy ri q'.1=some c'→c≠c')∧∀q∈mem,∀c,Jy ri q.1=some c→c∉cs
 | [],mem,cs,_,hm=>by
  simp_all
 | (id,s)::g,mem,cs,h,hm=>by
  cases mem with
  | nil=>simp at hm
  | cons q mem =>
   simp only[JQ,List.cons.injEq]at hm;obtain⟨h1,h2⟩:=hm;simp only[Ij]at h;split at h
   ·rename_i c hc
    simp only[QQ]at h;obtain⟨h3,h4⟩:=Qd8 h.2 h2;refine⟨List.pairwise_cons.2 ⟨fun q' hq' c1 c2 e1 e2 e=>?_,h3⟩,fun q' hq' c1 e1=>?_⟩
    ·rw[h1,hc]at e1
     grind
    ·rcases QX.1 hq' with rfl | hq'
     ·rw[h1,hc]at e1
      grind [Wb]
     grind
   ·rename_i hn
    obtain⟨h3,h4⟩:=Qd8 h h2;refine⟨List.pairwise_cons.2 ⟨fun q' hq' c1 c2 e1 e2 e=>?_,h3⟩,fun q' hq' c1 e1=>?_⟩
    ·rw[h1,hn]at e1; cases e1
    grind
theorem Eo{β β':Nat→Nat}{ρ ρ':Nat→Value}:∀{m:Bool} {x:AV} {cs:List Value},(∀i∈Jk x,β' i=β i∧ρ' i=ρ i)→cr β ρ ok w m x cs→cr β' ρ' ok w m x cs
 | m,.d t x,cs,_,h=>by cases m<;>exact h
 | m,.p id path,cs,hn,h=>by
  have:=(hn id (.head _)).1;cases m<;>(grind [cr])
 | m,.e id path,cs,hn,h=>by
  have:=(hn id (.head _)).2;cases m<;>(grind [cr])
 | m,.s id,cs,hn,h=>by
  have:=(hn id (.head _)).2;cases m<;>(grind [cr])
 | m,.m id,cs,hn,h=>by
  have:=(hn id (.head _)).1;cases m<;>(grind [cr])
 | m,.b id,cs,hn,h=>by
  have:=(hn id (.head _)).1;cases m<;>(grind [cr])
 | m,.w id _ _,cs,hn,h=>by
  have:=(hn id (.head _)).1;cases m<;>(grind [cr])
 | m,.a t x,cs,_,h=>by cases m<;>exact h
 | m,.z,cs,_,h=>by cases m<;>exact h
 | m,.ns,cs,_,h=>by cases m<;>exact h
 | m,.np,cs,_,h=>by cases m<;>exact h
 | m,.nm,cs,_,h=>by cases m<;>exact h
 | m,.nf,cs,_,h=>by cases m<;>exact h
 | m,.f fn caps,cs,hn,h=>by cases m<;>exact let⟨vs,h1,h2⟩:=h; ⟨vs,h1,Eo (fun i hi=>hn i (by grind [Jk])) h2⟩
 | m,.ag l,cs,hn,h=>by cases m<;>exact Eo (m:=false) (x:=l) (fun i hi=>hn i (by grind [Jk])) h
 | m,.tp l,cs,hn,h=>by cases m<;>exact let⟨vs,h1,h2⟩:=h; ⟨vs,h1,Eo (fun i hi=>hn i (by grind [Jk])) h2⟩
 | m,.nil,cs,_,h=>by cases m<;>exact h
 | true,.cons x r,cs,hn,h=>by
  exact let⟨c1,vs,h1,h2,h3⟩:=h; ⟨c1,vs,h1,Eo (fun i hi=>hn i (by simp[Jk,hi])) h2,Eo (fun i hi=>hn i (by simp[Jk,hi])) h3⟩
 | false,.cons x r,cs,hn,h=>by
  exact let⟨c1,vs,h1,h2,h3⟩:=h; ⟨c1,vs,h1,Eo (fun i hi=>hn i (by simp[Jk,hi])) h2,Eo (fun i hi=>hn i (by simp[Jk,hi])) h3⟩
theorem Jzz{β β':Nat→Nat}{ρ ρ':Nat→Value}{l:List En}(ha:∀i∈Qcs l,β' i=β i∧ρ' i=ρ i):∀e∈l,(enD β ρ a e).p ok w→(enD β' ρ' a e).p ok w:=by
 intro e he h
 have h1:∀i∈Jk e.av,β' i=β i∧ρ' i=ρ i:=by
  intro i hi;refine ha i ?_;clear ha h
  induction l with
  | nil=>cases he
  | cons x l ih =>
   simp only[Qcs,QZ];grind
 exact⟨fun hc=>let⟨cs,h2,h3⟩:=h.1 hc; ⟨cs,h2,Eo h1 h3⟩,h.2⟩
theorem Qlz{β β':Nat→Nat}{ρ ρ':Nat→Value}:∀{l:List (Nat×Ob)},(∀i∈Jq l,β' i=β i∧ρ' i=ρ i)→∀q∈l,(∀g,(Jb β' ρ' q.1 q.2).blks g↔(Jb β ρ q.1 q.2).blks g)∧(∀b o,(Jb β' ρ' q.1 q.2).cov b o↔(Jb β ρ q.1 q.2).cov b o) ∧
  ∀ok w,(Jb β ρ q.1 q.2).p ok w→(Jb β' ρ' q.1 q.2).p ok w
 | (id,o)::l,ha,q,hq=>by
  rcases QX.1 hq with rfl | hq
  ·obtain⟨h1,h2⟩:=ha id (by
    cases o with
    | mapC k v xs hole=>cases hole<;>simp[Jq]
    | _=>simp[Jq])
   cases o with
   | var t c =>
    grind [Jb,Qxe,Eo,Jq]
   | row e t xs=>simp_all [Jb,trivial]
   | tail e t xs=>simp_all [Jb,trivial]
   | map k v xs=>simp_all [Jb,trivial]
   | mapC k v xs hole =>
    have hv:Tt β' ρ' v hole=Tt β ρ v hole:=by
     cases hole with
     | none=>rfl
     | some q=>cases v<;>simp only[Tt,(ha q.2 (by simp[Jq])).1,(ha q.2 (by simp[Jq])).2]
    simp_all [Jb,trivial]
  ·exact Qlz (fun i hi=>ha i (by
    cases o with
    | mapC k v xs hole=>cases hole<;>simp[Jq,hi]
    | _=>simp[Jq,hi])) q hq
theorem Rel.decF{Γ:Shp}{env fix:List En}{M F:List (Nat×Ob)}{ri:List (Nat×Nat)}{pr:List Nat}(h:Rel X β ρ ⟨env++fix,M++F⟩ a w){x:Γ.De}
  (hd:Gx.decF Γ ri (pr++(Qcs fix++Jq F)) (env++fix) M F=some x) :
  ∃β' ρ',(∀i∈pr,β' i=β i∧ρ' i=ρ i)∧Rel X β' ρ' ⟨(enc Γ x).env++fix,(enc Γ x).mem++F⟩ a w ∧
   (∀q∈(enc Γ x).mem,∀c,Jy ri q.1=some c→β' q.1=β c∧ρ' q.1=ρ c):=by
 unfold Gx.decF Jzr at hd;obtain⟨hb,hd⟩:=bvT hd;simp only[QQ]at hb;obtain⟨⟨⟨b1,b2⟩,b3⟩,b4⟩:=hb;have h1:=Rel.freeze M (l0:=[]) (F:=F) (ks:=Jto (env++fix) Γ.env++Q6x M ri Γ.mem) h;simp only[QE]at h1;split at hd
 ·rename_i u v hu hv
  have hx:=Q63 hd;have hM:=h1.mm;obtain⟨es,e1,e2⟩:=Qr9 (M:=frz Γ ri (env++fix) M++F) hM (fun e he=>h1.en he) v hu;obtain⟨m1,m2⟩:=Qsa hM b3 hv
  have henc:enc Γ x=⟨es,Xw Γ.mem v⟩:=by
   grind [enc]
  rw[henc];have hag:=Jzy (β:=β) (ρ:=ρ) b4;have hagF:∀i∈Jq F,Bm ri β i=β i∧Au ri (pr++(Qcs fix++Jq F)) ρ i=ρ i:=fun i hi=>hag i (by simp[hi]);have hagE:∀i∈Qcs fix,Bm ri β i=β i∧Au ri (pr++(Qcs fix++Jq F)) ρ i=ρ i:=fun i hi=>hag i (by simp[hi]);refine⟨Bm ri β,Au ri (pr++(Qcs fix++Jq F)) ρ,fun i hi=>hag i (by simp[hi]),?_,?_⟩
  ·have hS:Sb (fun _=>0) X [] (List.map (enD β ρ a) (env++fix)) [] (Qq (Bm ri β) (Au ri (pr++(Qcs fix++Jq F)) ρ) (Xw Γ.mem v++F)) a w:=by
    have hpw:(List.map (fun q=>Jb β ρ q.1 q.2) (frz Γ ri (env++fix) M)++List.map (fun q=>Jb β ρ q.1 q.2) F).Pairwise fun s t=>∀g,s.blks g→¬ t.blks g:=by rw[←QC]; exact h1.dOO
    have hpw':=QA.1 hpw;refine Sb.remake h1 (fun t' ht'=>?_) ?_
    ·obtain⟨q,hq,rfl⟩:=QK.1 ht'
     rcases QZ.1 hq with hq | hq
     ·rcases m2 q hq with⟨c,ob,h2,h3,h4,h5,h6⟩ | ⟨_,h4,h5⟩
      ·exact .inl ⟨_,QK.2 ⟨_,List.mem_append_left _ (Qlw h3),rfl⟩,h4,h5,h6⟩
      grind
     ·obtain⟨f1,f2,f3⟩:=Qlz hagF q hq
      exact .inl ⟨_,QK.2 ⟨q,List.mem_append_right _ hq,rfl⟩,fun g hg=>(f1 g).1 hg,fun b o hc=>(f2 b o).1 hc,f3 _ _ (h1.own _ (QK.2 ⟨q,List.mem_append_right _ hq,rfl⟩)).1⟩
    ·rw[Qq,QC]
     obtain⟨n1,_⟩:=Qd8 b1 m1;refine QA.2 ⟨?_,?_,?_⟩
     ·rw[JL]
      refine List.Pairwise.imp_of_mem ?_ n1;intro q q' hq hq' hne g hg hg';rcases m2 q hq with⟨c,ob,h2,h3,h4,_⟩ | ⟨_,h4,_⟩
      ·rcases m2 q' hq' with⟨c',ob',h2',h3',h4',_⟩ | ⟨_,h4',_⟩
       ·exact h1.disj (Jd h3) (Jd h3') (hne c c' h2 h2') g (h4 g hg) (h4' g hg')
       ·exact h4' g hg'
      ·exact h4 g hg
     ·rw[JL]
      have:=JL.1 hpw'.2.1;refine List.Pairwise.imp_of_mem ?_ this;intro q q' hq hq' hne g hg hg';exact hne g ((Qlz hagF q hq).1 g |>.1 hg) ((Qlz hagF q' hq').1 g |>.1 hg')
     ·intro t ht t' ht' g hg hg'
      obtain⟨q,hq,rfl⟩:=QK.1 ht;obtain⟨q',hq',rfl⟩:=QK.1 ht';rcases m2 q hq with⟨c,ob,h2,h3,h4,_⟩ | ⟨_,h4,_⟩
      ·exact hpw'.2.2 _ (QK.2 ⟨_,Qlw h3,rfl⟩) _ (QK.2 ⟨q',hq',rfl⟩) g (h4 g hg) ((Qlz hagF q' hq').1 g |>.1 hg')
      ·exact h4 g hg
   have hok:∀b o,okR X β ρ (frz Γ ri (env++fix) M++F) w b o→okR X (Bm ri β) (Au ri (pr++(Qcs fix++Jq F)) ρ) (Xw Γ.mem v++F) w b o:=by
    rintro b o ⟨o1,o2,o3,o4⟩;refine⟨o1,o2,o3,fun t' ht' hc=>?_⟩;obtain⟨q,hq,rfl⟩:=QK.1 ht';rcases QZ.1 hq with hq | hq
    ·rcases m2 q hq with⟨c,ob,h2,h3,h4,h5,h6⟩ | ⟨_,h4,h5⟩
     ·exact o4 _ (QK.2 ⟨_,List.mem_append_left _ (Qlw h3),rfl⟩) (h5 b o hc)
     ·exact h4 b ((Jb _ _ q.1 q.2).cb hc)
    ·exact o4 _ (QK.2 ⟨q,List.mem_append_right _ hq,rfl⟩) ((Qlz hagF q hq).2.1 b o |>.1 hc)
   refine Rel.ofSb hS rfl fun e he=>?_;rcases QZ.1 he with he | he
   ·exact(enD _ _ a e).weak (e2 e he).1 hok
   ·exact(enD _ _ a e).weak (Jzz hagE e he (h1.en (List.mem_append_right _ he))) hok
  grind [Bm,Au]
 ·cases hd
theorem XS.dec_ok{S:XS}{Γ:Shp}(h:Rel X β ρ S.flat a w){x:Γ.De}(hd:S.dec Γ=some x) :
  ∃β' ρ',(∀i∈S.prot,β' i=β i∧ρ' i=ρ i)∧Rel X β' ρ' ⟨(enc Γ x).env++S.fix,(enc Γ x).mem++S.fixM⟩ a w:=by
 obtain⟨β',ρ',h1,h2,_⟩:=Rel.decF (pr:=S.prot) h hd;grind
end
end Gx

/- Operations that make or change objects. -/
namespace Gx
open Go Go.RowKit Gd
def Qqa(n:Nat)(a:Act):GL:=(List.range n).map fun t=>(t,Gd.AV.v (a.tmps.getD t undef))
theorem Q3c{f:Nat→Gd.AV}:∀{l:List Nat} {t:Nat},t∈l→Jy (l.map fun t=>(t,f t)) t=some (f t)
 | k::l,t,h=>by
  simp only[JQ,Jy];cases hb:Nat.beq k t with
  | true=>have:=Nat.eq_of_beq_eq_true hb; subst this; rfl
  | false =>
   rcases QX.1 h with rfl | h
   ·simp_all
   ·exact Q3c h
section
variable {P:Program} {X:Cx} {β β':Nat→Nat} {ρ ρ':Nat→Value} {S:St} {a a':Act} {w w':World} {cur:V5}
theorem Rel.toG(h:Rel X β ρ S a w):Sb (fun _=>0) X (Qqa X.n a) (S.env.map (enD β ρ a)) [] (Qq β ρ S.mem) a w :=
 {sz:=h.sz,df:=h.df,fr:=h.fr,pn:=h.pn,bel:=h.bel,dat:=h.dat,obj:=h.obj,own:=h.own,dHH:=h.dHH,dHO:=h.dHO,dOO:=h.dOO,
  tm:=fun p hp=>by
   obtain⟨t,ht,rfl⟩:=QK.1 hp;have hlt:t<a.tmps.size:=by rw[h.sz]; grind
   simp[R4,JN hlt,QP] }
theorem gvT(h:Rel X β ρ S a w){t:Nat}(ht:t<X.n):gv (Qqa X.n a) (.tmp t)=some (.v (a.eval (.tmp t))):=by
 simp only[gv,Qqa];rw[Q3c (f:=fun t=>Gd.AV.v (a.tmps.getD t undef)) (JU.2 ht)];rfl
theorem Q3d(h:Rel X β ρ S a w){t:Nat}{v:Value}(hv:a.tmps[t]?=some v):t<X.n:=by
 rw[←h.sz];grind
theorem gvE(h:Rel X β ρ S a w)(hc:J6 a cur){x:Operand}{v:AV}(hx:ev S cur x=some v):gv (Qqa X.n a) x=some (.v (a.eval x)):=by
 cases x with
 | tmp t =>
  simp only[ev]at hx;split at hx
  ·rename_i e he
   obtain⟨hb,hx⟩:=bvT hx;obtain⟨cs,h1,h2⟩:=h.get he (Qls hb hc);exact gvT h (Q3d h h1)
  ·cases hx
 | const v=>rfl
 | func f=>rfl
 | global g=>rfl
theorem T2(h:Rel X β ρ S a w){ops:Array Oper}{o:Oper}(hw:Region.wanted o (yielded ops a.tmps)=true):Nu ops (Qqa X.n a) o=some true:=by
 unfold Nu;unfold Region.wanted at hw;split
 ·rfl
 ·rename_i j want hg
  rw[hg]at hw;simp only[beq_iff_eq]at hw;unfold yielded at hw;split
  ·rename_i p hp
   rw[hp]at hw;split
   ·rename_i t ht
    simp only[QJ,ht]at hw;split at hw
    ·rename_i b hb
     simp at hw; subst hw;have hlt:=Q3d h hb;have:=gvT h hlt;simp_all [gv,Act.eval]
    ·cases hw
   grind
  grind
theorem Rel.fin{env env':List En}{mem':List (Nat×Ob)}{O':List TL}{d:Nat}{v:Value}(hn:∀e∈env,True)(h':Sb (fun _=>0) X (Qfp (Qqa X.n a) d (.v v)) (env.map (enD β ρ a)) [] O' a' w')(hsz:a.tmps.size=X.n)(hd:okD X d=true)
  (hO:Ha O' (Qq β' ρ' mem')) (hcr:∀e∈env',∀(ok:Ok) (w:World) (cs:List Value),cr β ρ ok w false e.av cs→cr β' ρ' ok w false e.av cs) (he:∀e∈env',e∈env∧e.t≠d∧∀c∈e.cs,c.1≠d)
  {x:AV} {c:List Value} (hv:v=x.val c) (hx:cr β' ρ' (okR X β' ρ' mem' w') w' false x c):Rel X β' ρ' ⟨⟨d,[],x⟩::env',mem'⟩ a' w':=by
 have h1:=h'.simO hO
 have hoth:∀t,t≠d→a'.tmps[t]?=a.tmps[t]?:=by
  intro t ht;rcases Nat.lt_or_ge t X.n with hlt | hge
  ·have hm:(t,Gd.AV.v (a.tmps.getD t undef))∈Qfp (Qqa X.n a) d (.v v):=by
    refine .tail _ ?_
    have:∀{l:GL},(t,Gd.AV.v (a.tmps.getD t undef))∈l→(t,Gd.AV.v (a.tmps.getD t undef))∈Jay l d:=by
     intro l
     induction l with
     | nil=>intro h; cases h
     | cons q l ih =>
      grind [Jay,Nat.beq,absurd,Nat.eq_of_beq_eq_true]
    exact this (QK.2 ⟨t,JU.2 hlt,rfl⟩)
   have:=h1.tm _ hm;simp_all [R4,QP,JN]
  ·rw[Array.getElem?_eq_none (by have:=h1.sz; omega),Array.getElem?_eq_none (by omega)]
 have hdv:rd a' d=some v:=by
  have:=h1.tm (d,.v v) (.head _);rw[Qbx (Qlq hd)];grind [R4]
 have hrd:∀t,t≠d→rd a' t=rd a t:=fun t ht=>by grind [rd]
 refine Rel.ofSb h1 rfl fun e hm=>?_;rcases QX.1 hm with rfl | hm
 ·exact⟨fun _=>⟨c,by rw[hdv,hv],hx⟩,.inl (Qi _)⟩
 ·obtain⟨h2,h3,h4⟩:=he e hm
  have hp:=Yq.1 h1.dat _ (QK.2 ⟨e,h2,rfl⟩);have hcc:J6 a' e.cs↔J6 a e.cs:=⟨fun hc c hm=>by rw[←hoth _ (h4 c hm)]; exact hc c hm,fun hc c hm=>by rw[hoth _ (h4 c hm)]; exact hc c hm⟩
  refine⟨fun hc=>?_,?_⟩
  ·obtain⟨cs,h5,h6⟩:=hp.1 (hcc.1 hc)
   grind
  ·rw[hcc,hrd _ h3]; exact hp.2
theorem Qjh{l:List En}{d:Nat}(h:Qjf d l=true):∀e∈l,e.t≠d∧∀c∈e.cs,c.1≠d:=by
 induction l with
 | nil=>grind
 | cons x l ih =>
  simp only[Qjf,QQ]at h;intro e he;rcases QX.1 he with rfl | he
  ·have h1:=h.1
   simp only[JP,JO]at h1;exact⟨fun e'=>by rw[e']at h1; simp_all,Qi9 h1.2⟩
  grind
def agP(pr:List Nat)(β β':Nat→Nat)(ρ ρ':Nat→Value):Prop:=∀i∈pr,β' i=β i∧ρ' i=ρ i
theorem agP.refl(pr:List Nat)(β:Nat→Nat)(ρ:Nat→Value):agP pr β β ρ ρ:=fun _ _=>⟨rfl,rfl⟩
theorem agP.trans{pr:List Nat}{β1 β2 β3:Nat→Nat}{ρ1 ρ2 ρ3:Nat→Value}(h:agP pr β1 β2 ρ1 ρ2)(k:agP pr β2 β3 ρ2 ρ3):agP pr β1 β3 ρ1 ρ3 :=
 fun i hi=>⟨(k i hi).1.trans (h i hi).1,(k i hi).2.trans (h i hi).2⟩
theorem Fz{pr:List Nat}{d:Nat}(h:Yr pr d=false)(ha:Qp9 d β β' ρ ρ'):agP pr β β' ρ ρ' :=
 fun i hi=>ha i fun e=>by grind [Wb]
structure Vv(S S':XS)(β β':Nat→Nat)(ρ ρ':Nat→Value):Prop where
 fix:S'.fix=S.fix
 fixM:S'.fixM=S.fixM
 prot:S'.prot=S.prot
 ag:agP S.prot β β' ρ ρ'
theorem Vv.refl(S:XS)(β:Nat→Nat)(ρ:Nat→Value):Vv S S β β ρ ρ:=⟨rfl,rfl,rfl,agP.refl _ _ _⟩
theorem Vv.trans{S1 S2 S3:XS}{β1 β2 β3:Nat→Nat}{ρ1 ρ2 ρ3:Nat→Value}(h:Vv S1 S2 β1 β2 ρ1 ρ2)(k:Vv S2 S3 β2 β3 ρ2 ρ3):Vv S1 S3 β1 β3 ρ1 ρ3 :=
 ⟨k.fix.trans h.fix,k.fixM.trans h.fixM,k.prot.trans h.prot,h.ag.trans (by rw[←h.prot]; exact k.ag)⟩
theorem Ue{n d:Nat}{S:XS}(h:okW n S d=true)(hn:X.n=n)(hr:X.res=[]):okD X d=true∧Qjf d S.fix=true:=by
 simp_all [okW,QQ,okD,Qtt,Bool.true_and]
theorem Pe{d:Nat}{l m:List En}(h:Qjf d m=true):Vw (l++m) d=Vw l d++m:=by
 induction l with
 | nil =>
  simp only[QE,Vw]
  induction m with
  | nil=>rfl
  | cons x m ih =>
   simp_all [Qjf,QQ,JP,Vw,cond_false]
 | cons x l ih =>
  grind [Vw,Nat.beq,Qi8]
theorem Hb{S:XS}{d:Nat}{cs:V5}{x:AV}(h:Qjf d S.fix=true):(S.put d cs x).flat=S.flat.put d cs x:=by
 grind [XS.flat,XS.put,St.put,Pe]
theorem Ch{S:XS}{d:Nat}(h:okB S d=true):Yo d (S.mem++S.fixM)=true∧Qp2 d S.fix=true∧Yr S.prot d=false:=by
 simp only[okB,QQ]at h;refine⟨?_,h.1.2,by simpa using h.2⟩
 have key:∀{l m:List (Nat×Ob)},Yo d l=true→Yo d m=true→Yo d (l++m)=true:=by
  intro l m hl hm
  induction l with
  | nil=>exact hm
  | cons q l ih =>
   obtain⟨k,o⟩:=q;cases o with
   | mapC k1 v xs hole=>cases hole<;>simp only[Yo,QQ,QD]at hl ⊢<;>exact⟨hl.1,ih hl.2⟩
   | _=>simp_all [Yo,QQ,QD]
 grind
theorem T3{S:XS}{d:Nat}(hI:Qp2 d S.fix=true)(hF:Qjf d S.fix=true):∀e∈Vw (Ux d S.env) d++S.fix,e∈S.flat.env∧Km d e.av=true∧e.t≠d∧∀c∈e.cs,c.1≠d:=by
 intro e he;rcases QZ.1 he with he | he
 ·obtain⟨h1,h2,h3⟩:=Tu he
  obtain⟨h4,h5⟩:=Qn8 h1;exact⟨List.mem_append_left _ h4,h5,h2,h3⟩
 ·obtain⟨h1,h2⟩:=Qjh hF e he
  exact⟨List.mem_append_right _ he,Qx1 hI e he,h1,h2⟩
end
end Gx

/- Steps. -/
namespace Gx
open Go Go.RowKit Gd
section
variable {P:Program} {Y:TX} {X:Cx} {S:XS} {β β':Nat→Nat} {ρ ρ':Nat→Value} {a a':Act} {w w':World} {n:Nat}
variable {ops:Array Oper} {Q:Exit→Act→World→Prop} {rest:List Oper} {R:Type} {k:XS→Option R} {r:R}
def KOk(P:Program)(ops:Array Oper)(Q:Exit→Act→World→Prop)(rest:List Oper)(X:Cx)(S0:XS)(β:Nat→Nat)(ρ:Nat→Value){R:Type}(k:XS→Option R)(r:R):Prop :=
 ∀(β':Nat→Nat) (ρ':Nat→Value) (S':XS) (a':Act) (w':World),k S'=some r→Vv S0 S' β β' ρ ρ'→Rel X β' ρ' S'.flat a' w'→wpList P ops Q rest a' w'
theorem KOk.after(h:KOk P ops Q rest X S β ρ k r){S1:XS}{β1:Nat→Nat}{ρ1:Nat→Value}(hk:Vv S S1 β β1 ρ ρ1):KOk P ops Q rest X S1 β1 ρ1 k r :=
 fun β' ρ' S' a' w' h1 h2 h3=>h β' ρ' S' a' w' h1 (hk.trans h2) h3
theorem F0(S:XS)(d:Nat)(cs:V5)(x:AV):Vv S (S.put d cs x) β β ρ ρ:=⟨rfl,rfl,rfl,agP.refl _ _ _⟩
theorem Kn{d:Nat}(hp:Yr S.prot d=false)(ha:Qp9 d β β' ρ ρ')(o:Ob)(cs:V5)(x:AV):Vv S ((S.born d o).put d cs x) β β' ρ ρ':=⟨rfl,rfl,rfl,Fz hp ha⟩
theorem Jtz(hX:X.n=n)(hr:X.res=[])(h:Rel X β ρ S.flat a w){o:Oper}(hw:Region.wanted o (yielded ops a.tmps)=true){d:Nat}(hd:o.dst=some d)(hwd:okW n S d=true){x:AV}(hs:Qxn P S.flat [] o x)
  (hk:k (S.put d [] x)=some r) (H:KOk P ops Q rest X S β ρ k r):wpList P ops Q (o::rest) a w:=by
 obtain⟨h1,h2⟩:=Ue hwd hX hr;obtain⟨cs,h3,h4⟩:=hs h.toW (Qi a);refine J5 hw (Vi h3 ?_);rw[hd];refine H β ρ _ _ _ hk (F0 S d [] x) ?_;rw[Hb h2];exact h.put0 h1 h4
theorem Jt0(hX:X.n=n)(hr:X.res=[])(h:Rel X β ρ S.flat a w){o:Oper}(hw:Region.wanted o (yielded ops a.tmps)=true){d:Nat}(hd:o.dst=some d)(hwd:okW n S d=true)(hb:okB S d=true){t:TypeId}{c x:AV}{cs:List Value}{cv:Nat→List Value}
  (hrun:(execOp a.eval o).run P w=.ok (.value (x.val (cv w.heap.size))) (w.alloc (.cells cs.toArray t))) (hc:cr β ρ (okR X β ρ S.flat.mem w) w false c cs) (hn:Km d c=true) (hx:∀(β:Nat→Nat) (ρ:Nat→Value) (ok:Ok) (w:World),cr β ρ ok w false x (cv (β d)))
  (hk:k ((S.born d (.var t c)).put d [] x)=some r) (H:KOk P ops Q rest X S β ρ k r):wpList P ops Q (o::rest) a w:=by
 obtain⟨h1,h2⟩:=Ue hwd hX hr;obtain⟨f1,f2,f3⟩:=Ch hb;refine J5 hw (Vi hrun ?_);rw[hd];have ha:=Qr7 d β ρ w.heap.size (ρ d);have hbel:Below w.heap.size w (w.alloc (.cells cs.toArray t)):=(Below.refl _ _).alloc (QY _) _;refine H (upd β d w.heap.size) (upd ρ d (ρ d)) _ _ _ hk (Kn f3 ha _ _ _) ?_
 have hA:Rel X (upd β d w.heap.size) (upd ρ d (ρ d)) ⟨Vw (Ux d S.env) d++S.fix,(d,.var t c)::(S.mem++S.fixM)⟩ a (w.alloc (.cells cs.toArray t)):=by
  refine Rel.alloc h ha f1 (fun e he=>let⟨q1,q2,_⟩:=T3 f2 h2 e he; ⟨q1,q2⟩) hbel (fun g hg=>?_) ?_
  ·have hg':g=upd β d w.heap.size d:=hg
   rw[Jm]at hg'; omega
  ·refine⟨cs,?_,?_⟩
   ·rw[Jm]; exact heap_alloc_new w _
   ·have h5:cr (upd β d w.heap.size) (upd ρ d (ρ d)) (okR X β ρ S.flat.mem w) w false c cs:=Fy ha hn hc
    refine Hr (Tr h5 ((Evo.of_below hbel).mono fun b o hk=>hk.2.1)) ?_;rintro b o ⟨o1,o2,o3,o4⟩;refine⟨o1,QI o2 hbel.size,o3,fun u hu hcv=>?_⟩;rcases QX.1 hu with rfl | hu
    ·have hcv':b=upd β d w.heap.size d:=hcv
     rw[Jm]at hcv'; omega
    ·obtain⟨t0,ht0,hs0⟩:=(Qfy ha f1).mem u hu
     exact o4 t0 ht0 ((hs0.2.1 b o).1 hcv)
 have hP:=hA.put0 h1 (x:=x) (c:=cv (upd β d w.heap.size d)) (hx _ _ _ _);rw[show upd β d w.heap.size d=w.heap.size from Jm _ _ _]at hP;have he:((S.born d (.var t c)).put d [] x).flat=⟨⟨d,[],x⟩::(Vw (Ux d S.env) d++S.fix),(d,.var t c)::(S.mem++S.fixM)⟩:=rfl;rw[he];refine hP.less fun e hm=>?_;rcases QX.1 hm with rfl | hm
 ·exact .head _
 ·refine .tail _ ?_
  have:Vw (Vw (Ux d S.env) d++S.fix) d=Vw (Ux d S.env) d++S.fix:=by
   rw[Pe h2];congr 1
   have idem:∀l:List En,Vw (Vw l d) d=Vw l d:=by
    intro l
    induction l with
    | nil=>rfl
    | cons y l ih =>
     simp only[Vw];cases hb:(Nat.beq y.t d||Qi8 d y.cs)with
     | true=>simpa using ih
     | false=>simp_all [cond_false,Vw]
   exact idem _
  show e∈Vw (Vw (Ux d S.env) d++S.fix) d;rw[this]; exact hm
theorem J1w(hX:X.n=n)(hr:X.res=[])(h:Rel X β ρ S.flat a w){o:Oper}(hw:Region.wanted o (yielded ops a.tmps)=true){d:Nat}(hd:o.dst=some d)(hwd:okW n S d=true)(hb:okB S d=true){t:TypeId}{c:AV}{cs:List Value}
  (hrun:(execOp a.eval o).run P w=.ok (.value (.pointer (some ⟨w.heap.size,0,none⟩))) (w.alloc (.cells cs.toArray t))) (hc:cr β ρ (okR X β ρ S.flat.mem w) w false c cs) (hn:Km d c=true)
  (hk:k ((S.born d (.var t c)).put d [] (.p d []))=some r) (H:KOk P ops Q rest X S β ρ k r):wpList P ops Q (o::rest) a w :=
 Jt0 (x:=.p d []) (cv:=fun g=>[.pointer (some ⟨g,0,none⟩)]) hX hr h hw hd hwd hb hrun hc hn (fun _ _ _ _=>rfl) hk H
theorem Dk{l m:List (Nat×Ob)}{id:Nat}{o o':Ob}(h:Qk l id=some o):Qps l id o'++m=Qps (l++m) id o':=by
 induction l with
 | nil=>simp[Qk]at h
 | cons q l ih =>
  simp only[Qk]at h;simp only[Qps,QD];grind
theorem Jle(hT:Jg P Y.T)(h:Rel X β ρ S.flat a w){o:Oper}(hw:Region.wanted o (yielded ops a.tmps)=true){t:TypeId}{p x:Operand}(hop:o.op=.store t p x)(hd:o.dst=none){e:TE}(he:Qo Y.T t=some e)
  {id:Nat} {path:List PS} {v c c':AV} {tid:TypeId} (hp:S.ev [] p=some (.p id path)) (hx:S.ev [] x=some v) (hm:Qk S.mem id=some (.var tid c)) (hs:∀{ok:Ok} {w:World} {cs ds:List Value},(∀id o,Qk S.flat.mem id=some o→(Jb β ρ id o).p ok w)→cr β ρ ok w false v ds→cr β ρ ok w false c cs →
   cr β ρ ok w false c' (cs.take (Yx path)++ds++cs.drop (Yx path+ds.length))∧Yx path+ds.length≤cs.length) (hsz:Nat.beq e.size v.size=true) (hval:v.isVal=true) (hin:v.inMem=true)
  (hk:k (S.set id (.var tid c'))=some r) (H:KOk P ops Q rest X S β ρ k r):wpList P ops Q (o::rest) a w:=by
 obtain⟨c1,h1,h2⟩:=h.ev (Qi a) hp;obtain⟨ds,h3,h4⟩:=h.ev (Qi a) hx;have h2':c1=_:=h2;subst h2';have hm':Qk S.flat.mem id=some (.var tid c):=Jd hm;obtain⟨⟨cs,hh,hc⟩,hmine⟩:=h.ob hm';obtain⟨h5,h6⟩:=hs h.mm h4 hc;have hdl:=Kk h4;have hes:=Nat.eq_of_beq_eq_true hsz;have hcells:Q4 (v.val ds)=ds:=Qbw h4 hval hin;have hst:=run_storeCells_at P (β id) (Yx path) tid ds 0 cs.toArray w hh (by simp; omega) (Qfr h4 hin);simp only[XQ,List.toList_toArray]at hst
 have hrun:(execOp a.eval o).run P w=.ok .skip (w.setRow (β id) (cs.take (Yx path)++ds++cs.drop (Yx path+ds.length)).toArray):=by
  have h1':a.eval p=.pointer (some ⟨β id,Yx path,none⟩):=h1;have hcc:(v.val ds).cells.toList=ds:=by rw[←Uk,hcells]
  have hcsz:(v.val ds).cells.size=e.size:=by rw[←Array.length_toList,hcc]; omega
  unfold execOp;rw[hop];simp only[h1',h3];simp[Instr.storeAt,Instr.sureAddr,storeVar,Yn hT w he,hcsz,hcc,hst]
 refine J5 hw ?_;unfold Oper.wp;rw[hrun];show wpList P ops Q rest (a.put o.dst undef) _;rw[hd];obtain⟨l1,l2,e1,e2,e3⟩:=J8 hm';have hO:Qq β ρ S.flat.mem=Qq β ρ l1++Jb β ρ id (.var tid c)::Qq β ρ l2:=by rw[e1]; simp[Qq]
 have hS:=h.upd hO (t':=Jb β ρ id (.var tid c')) (w':=w.setRow (β id) (cs.take (Yx path)++ds++cs.drop (Yx path+ds.length)).toArray) rfl rfl rfl (by simp) (fun b hb hn=>setRow_other _ _ _ _ fun e=>hn e) (fun b o hb=>hb) (fun g hg=>.inl hg) (fun hevo hok=>by
  refine⟨_,setRow_heap _ _ _ _ _ _ hh,?_⟩
  exact Hr (Tr h5 hevo) hok)
 have hE:(S.set id (.var tid c')).flat=⟨S.flat.env,Qps S.flat.mem id (.var tid c')⟩:=by
  grind [XS.flat,XS.set,Dk]
 refine H β ρ _ _ _ hk ⟨rfl,rfl,rfl,agP.refl _ _ _⟩ ?_;rw[hE,e2];have hmem:Qq β ρ (l1++(id,Ob.var tid c')::l2)=Qq β ρ l1++Jb β ρ id (.var tid c')::Qq β ρ l2:=by simp[Qq]
 exact Rel.ofSb hS hmem.symm fun e he=>by
  have:=Yq.1 hS.dat _ (QK.2 ⟨e,he,rfl⟩);rw[←hmem]at this;exact this
theorem Jpp(hX:X.n=n)(hr:X.res=[])(h:Rel X β ρ S.flat a w){o:Oper}(hw:Region.wanted o (yielded ops a.tmps)=true){d:Nat}(hd:o.dst=some d)(hwd:okW n S d=true)(hb:okB S d=true){t:TypeId}(hop:o.op=.makeMap t none){kk v:Ty}
  (hk:k ((S.born d (.map kk v [])).put d [] (.m d))=some r) (H:KOk P ops Q rest X S β ρ k r):wpList P ops Q (o::rest) a w:=by
 obtain⟨h1,h2⟩:=Ue hwd hX hr;obtain⟨f1,f2,f3⟩:=Ch hb
 have hrun:(execOp a.eval o).run P w=.ok (.value (.map (some w.heap.size))) (w.alloc (.map #[] 0)):=by
  simp_all [execOp,Instr.makeMap]
 refine J5 hw (Vi hrun ?_);rw[hd];have ha:=Qr7 d β ρ w.heap.size (ρ d);have hbel:Below w.heap.size w (w.alloc (.map #[] 0)):=(Below.refl _ _).alloc (QY _) _;refine H (upd β d w.heap.size) (upd ρ d (ρ d)) _ _ _ hk (Kn f3 ha _ _ _) ?_
 have hA:Rel X (upd β d w.heap.size) (upd ρ d (ρ d)) ⟨Vw (Ux d S.env) d++S.fix,(d,.map kk v [])::(S.mem++S.fixM)⟩ a (w.alloc (.map #[] 0)):=by
  refine Rel.alloc h ha f1 (fun e he=>let⟨q1,q2,_⟩:=T3 f2 h2 e he; ⟨q1,q2⟩) hbel (fun g hg=>?_) ?_
  ·have hg':g=upd β d w.heap.size d:=hg
   rw[Jm]at hg'; omega
  ·refine⟨#[],0,?_,rfl,by simp,by simp,by simp⟩
   rw[Jm]; exact heap_alloc_new w _
 have hP:=hA.put0 h1 (x:=.m d) (c:=[.map (some (upd β d w.heap.size d))]) rfl;have hv:(AV.m d).val [.map (some (upd β d w.heap.size d))]=.map (some w.heap.size):=by rw[Jm]; rfl
 rw[hv]at hP;have he:((S.born d (.map kk v [])).put d [] (.m d)).flat=⟨⟨d,[],.m d⟩::(Vw (Ux d S.env) d++S.fix),(d,.map kk v [])::(S.mem++S.fixM)⟩:=rfl;rw[he];refine hP.less fun e hm=>?_;rcases QX.1 hm with rfl | hm
 ·exact .head _
 ·refine .tail _ ?_
  have:Vw (Vw (Ux d S.env) d++S.fix) d=Vw (Ux d S.env) d++S.fix:=by
   rw[Pe h2];congr 1
   have idem:∀l:List En,Vw (Vw l d) d=Vw l d:=by
    intro l
    induction l with
    | nil=>rfl
    | cons x l ih =>
     simp only[Vw];cases hb:(Nat.beq x.t d||Qi8 d x.cs)with
     | true=>simpa using ih
     | false=>simp_all [cond_false,Vw]
   exact idem _
  show e∈Vw (Vw (Ux d S.env) d++S.fix) d;rw[this]; exact hm
theorem Jb1(hT:Jg P Y.T)(h:Rel X β ρ S.flat a w){o:Oper}(hw:Region.wanted o (yielded ops a.tmps)=true){t:TypeId}{m ky x:Operand}(hop:o.op=.mapUpdate t m ky x)(hd:o.dst=none){te tk:TE}{kt et:TypeId}(hte:Qo Y.T t=some te)(htd:te.d=.map kt et)(htk:Qo Y.T kt=some tk)
  {id:Nat} {kv xv:AV} {kk v:Ty} {xs:List (kk.De×v.De)} {key:kk.De} {y:v.De} (hm:S.ev [] m=some (.m id)) (hkv:S.ev [] ky=some kv) (hx:S.ev [] x=some xv) (hmo:Qk S.mem id=some (.map kk v xs)) (hkey:asD [] kv kk=some key) (hy:asD S.flat.mem xv v=some y)
  (hdk:V6 Y.T kk tk.d=true) (hka:(kk.agg==kv.isAgg)=true) (hva:(v.agg==xv.isAgg)=true)
  (hk:k (S.set id (.map kk v (Va key y xs)))=some r) (H:KOk P ops Q rest X S β ρ k r):wpList P ops Q (o::rest) a w:=by
 obtain⟨c1,h1,h2⟩:=h.ev (Qi a) hm;have h2':c1=[.map (some (β id))]:=h2;subst h2';have h1':a.eval m=.map (some (β id)):=h1;have hxv:isV (rt v) (okR X β ρ S.flat.mem w) w y (a.eval x):=h.asD (Qi a) hx hy (bEq hva);obtain⟨c3,h3,h4⟩:=h.ev (Qi a) hkv
 have hkr:isV (rt kk) (okR X β ρ S.flat.mem w) w key (a.eval ky):=by
  refine⟨c3,Gl (M:=[]) (β:=β) (ρ:=ρ) (by simp[Qk]) hkey h4,?_⟩;rw[h3]; simp only[AV.val,RT.val,Tq,bEq hka]; cases kv.isAgg<;>rfl
 have hke:=O9 (Uw hdk) hkr;have hm':Qk S.flat.mem id=some (.map kk v xs):=Jd hmo;obtain⟨⟨es,clock,hg,hp,hnd,hst1,hst2⟩,hmine⟩:=h.ob hm';obtain⟨es',clock',hrun,hp',hst'⟩:=Qna hT hte htd htk hdk hg hp ⟨hst1,hst2⟩ key hxv
 have hrun':(execOp a.eval o).run P w=.ok .skip { w with heap:=w.heap.setIfInBounds (β id) (.map es' clock') }:=by
  unfold execOp;rw[hop];simp only[h1',hke];simp[hrun]
 refine J5 hw ?_;unfold Oper.wp;rw[hrun'];show wpList P ops Q rest (a.put o.dst undef) _;rw[hd];have hgl:=Uc hg;obtain⟨l1,l2,e1,e2,e3⟩:=J8 hm';have hO:Qq β ρ S.flat.mem=Qq β ρ l1++Jb β ρ id (.map kk v xs)::Qq β ρ l2:=by rw[e1]; simp[Qq]
 have hS:=h.upd hO (t':=Jb β ρ id (.map kk v (Va key y xs))) (w':={ w with heap:=w.heap.setIfInBounds (β id) (.map es' clock') }) rfl rfl rfl (by simp) (fun b hb hn=>(MapKept.heap_set hg).2 b fun e=>hn e) (fun b o hb=>hb) (fun g hg=>.inl hg) (fun hevo hok=>by
  refine⟨es',clock',(MapKept.heap_set hg).1,?_,(Qlt (Uw hdk) key y hnd).1,hst'.1,hst'.2⟩
  exact Fv (Qd2 hp' hevo) hok)
 have hE:(S.set id (.map kk v (Va key y xs))).flat=⟨S.flat.env,Qps S.flat.mem id (.map kk v (Va key y xs))⟩:=by
  grind [XS.flat,XS.set,Dk]
 refine H β ρ _ _ _ hk ⟨rfl,rfl,rfl,agP.refl _ _ _⟩ ?_;rw[hE,e2];have hmem:Qq β ρ (l1++(id,Ob.map kk v (Va key y xs))::l2)=Qq β ρ l1++Jb β ρ id (.map kk v (Va key y xs))::Qq β ρ l2:=by simp[Qq]
 exact Rel.ofSb hS hmem.symm fun e he=>by
  have:=Yq.1 hS.dat _ (QK.2 ⟨e,he,rfl⟩);rw[←hmem]at this;exact this
theorem Jpq(hT:Jg P Y.T)(h:Rel X β ρ S.flat a w){o:Oper}(hw:Region.wanted o (yielded ops a.tmps)=true){t:TypeId}{p x:Operand}(hop:o.op=.store t p x)(hd:o.dst=none){e:TE}(he:Qo Y.T t=some e)
  {id sz:Nat} {j:Int} {path:List PS} {v c:AV} {et:TypeId} {u:Ty} {xs:List u.De} {y z:u.De} (hp:S.ev [] p=some (.e id (.i j sz::path))) (hx:S.ev [] x=some v) (hm:Qk S.mem id=some (.row et u xs)) (hy:idx xs j=some y)
  (hs:Qu0 path (.d u y) v=some c) (hz:asD S.flat.mem c u=some z) (hsz:Nat.beq e.size v.size=true) (hsu:Nat.beq sz u.size=true) (hpos:Nat.ble 1 u.size=true) (hval:v.isVal=true) (hin:v.inMem=true)
  (hk:k (S.set id (.row et u (xs.set j.toNat z)))=some r) (H:KOk P ops Q rest X S β ρ k r):wpList P ops Q (o::rest) a w:=by
 obtain⟨c1,h1,g0,hg0,h2'⟩:=h.ev (Qi a) hp;subst h2';obtain⟨ds,h3,h4⟩:=h.ev (Qi a) hx;have hm':Qk S.flat.mem id=some (.row et u xs):=Jd hm;have hes:=Nat.eq_of_beq_eq_true hsz;have hszu:=Nat.eq_of_beq_eq_true hsu;subst hszu;have hdl:=Kk h4;have hcells:Q4 (v.val ds)=ds:=Qbw h4 hval hin;obtain⟨l1,l2,e1,e2,e3⟩:=J8 hm';obtain⟨⟨hl0,cs0,hown0,_⟩,_⟩:=h.ob hm'
 obtain⟨g,c0,hv⟩:∃g c0,ρ id=.slice (some ⟨g,0,none⟩) xs.length c0:=by
  rcases hown0.2 with⟨hv,h0⟩ | ⟨g,cap,cur,fz,hv,_⟩
  ·rw[hv]at hg0; cases hg0
  grind
 have hgg:g0=g:=by rw[hv]at hg0; grind [Value.ownBlock]
 subst hgg;have hO:Qq β ρ S.flat.mem=Qq β ρ l1++ml (.slice (some ⟨g0,0,none⟩) xs.length c0) et (rt u) xs::Qq β ρ l2:=by rw[e1]; simp[Qq,Jb,hv]
 have hoff:Yx path+ds.length≤u.size:=by
  obtain⟨⟨hl,csr,hown,hr⟩,_⟩:=h.ob hm';have hrep:=Ih hr (El hy).2;obtain⟨_,h6⟩:=Qfw (β:=β) (ρ:=ρ) h4 hs (show cr β ρ _ w false (.d u y) _ from hrep);have:=(rt u).len hrep;have h7:=Jo u;omega
 obtain⟨cur,fz,⟨hh,hfz⟩,hlen,hS⟩:=Sb.mset h (Qq β ρ l1) (Qq β ρ l2) hO hy (by rw[Jo]; exact QV hpos) (off:=Yx path) (ds:=ds) (z:=z) (by rw[Jo]; exact hoff) (Qfr h4 hin) (fun es hes=>by
  obtain⟨h5,_⟩:=Qfw (β:=β) (ρ:=ρ) h4 hs (show cr β ρ _ w false (.d u y) es from hes)
  exact Gl h.mm hz h5)
 rw[Jo]at hS hlen;have hst:=Kh P g0 (j.toNat*u.size+Yx path) et fz ds 0 cur w hh hfz (by omega) (Qfr h4 hin);simp only[XQ]at hst
 have hrun:(execOp a.eval o).run P w=.ok .skip (w.setRow g0 (cur.toList.take (j.toNat*u.size+Yx path)++ds++cur.toList.drop (j.toNat*u.size+Yx path+ds.length)).toArray):=by
  have h1':a.eval p=.pointer (some ⟨g0,j.toNat*u.size+Yx path,none⟩):=h1;have hcc:(v.val ds).cells.toList=ds:=by rw[←Uk,hcells]
  have hcsz:(v.val ds).cells.size=e.size:=by rw[←Array.length_toList,hcc]; omega
  unfold execOp;rw[hop];simp only[h1',h3];simp[Instr.storeAt,Instr.sureAddr,storeVar,Yn hT w he,hcsz,hcc,hst]
 refine J5 hw ?_;unfold Oper.wp;rw[hrun];show wpList P ops Q rest (a.put o.dst undef) _;rw[hd]
 have hE:(S.set id (.row et u (xs.set j.toNat z))).flat=⟨S.flat.env,Qps S.flat.mem id (.row et u (xs.set j.toNat z))⟩:=by
  grind [XS.flat,XS.set,Dk]
 refine H β ρ _ _ _ hk ⟨rfl,rfl,rfl,agP.refl _ _ _⟩ ?_;rw[hE,e2];have hmem:Qq β ρ (l1++(id,Ob.row et u (xs.set j.toNat z))::l2)=Qq β ρ l1++ml (.slice (some ⟨g0,0,none⟩) xs.length c0) et (rt u) (xs.set j.toNat z)::Qq β ρ l2:=by simp[Qq,Jb,hv]
 exact Rel.ofSb hS hmem.symm fun e he=>by
  have:=Yq.1 hS.dat _ (QK.2 ⟨e,he,rfl⟩);rw[←hmem]at this;exact this
end
end Gx

/- Maps whose values are objects of their own: a value is taken out, put back; made, frozen. -/
namespace Gd
open Go Go.RowKit
section
variable {β:Nat→Nat} {X:Cx} {G:GL} {D:List DF} {H:HL} {O:List TL} {a:Act} {w w':World}
theorem Sb.repl{A A' R:List TL}(h:Sb β X G D [] (A++R) a w)(hos:w'.os=w.os)(htp:w'.tape=w.tape)(hout:w'.output=w.output)(hsz:w.heap.size=w'.heap.size){L:List Nat}
  (hblk:∀b,b∉L→w'.heap[b]?=w.heap[b]?) (hL:∀g∈L,∃t∈A,∀o,t.cov g o)
  (hb':∀t∈A',∀g,t.blks g→∃s∈A,s.blks g) (hc':∀t∈A',∀b o,t.cov b o→∃s∈A,s.cov b o)
  (hp:Evo (Jr X.ok X.w.heap.size β [] (A++R) w) w w'→(∀b o,Jr X.ok X.w.heap.size β [] (A++R) w b o→Jr X.ok X.w.heap.size β [] (A'++R) w' b o)→∀t∈A',t.p (Jr X.ok X.w.heap.size β [] (A'++R) w') w')
  (hd:A'.Pairwise fun s t=>∀g,s.blks g→¬ t.blks g):Sb β X G D [] (A'++R) a w':=by
 have hpw:=QA.1 h.dOO;have hLb:∀g∈L,∃t∈A,t.blks g:=fun g hg=>let⟨t,ht,hc⟩:=hL g hg; ⟨t,ht,t.cb (hc 0)⟩
 have hevo:Evo (Jr X.ok X.w.heap.size β [] (A++R) w) w w':=Evo.of_blocks (Nat.le_of_eq hsz) fun b o hk=>hblk b fun hb=>by
  obtain⟨t,ht,hc⟩:=hL b hb;exact hk.2.2.2 t (by simp[ht]) (hc o)
 have hok:∀b o,Jr X.ok X.w.heap.size β [] (A++R) w b o→Jr X.ok X.w.heap.size β [] (A'++R) w' b o:=by
  rintro b o ⟨h1,h2,h3,h4⟩;refine⟨h1,by omega,h3,fun u hu hc=>?_⟩;grind
 have hmine:∀t∈A',∀g,t.blks g→X.mine g:=fun t ht g hg=>let⟨s,hs,hsg⟩:=hb' t ht g hg; (h.own s (by simp[hs])).2 g hsg
 refine { sz:=h.sz,df:=h.df,fr:=h.fr,pn:=h.pn,tm:=h.tm,bel:=?_,dat:=(h.dat.evo hevo).weak hok,obj:=by simp,own:=?_,dHH:=by simp,dHO:=by simp,dOO:=?_ }
 ·refine h.bel.trans ⟨hos,htp,hout,Nat.le_of_eq hsz,fun k hk hn=>hblk k fun hb=>?_⟩
  obtain⟨t,ht,hg⟩:=hLb k hb;exact((h.own t (by simp[ht])).2 k hg).elim (fun h=>by omega) hn
 ·intro u hu
  rcases QZ.1 hu with hu | hu
  ·grind
  ·have:=h.own u (by simp[hu]:u∈A++R)
   refine⟨u.weak (u.keep this.1 (fun g hg=>hblk g fun hb=>?_) hevo) hok,this.2⟩;grind
 grind
end
end Gd
namespace Gx
open Go Go.RowKit Gd
section
variable {β:Nat→Nat} {ρ ρ':Nat→Value} {ok:Ok} {w:World}
theorem Qx2{d:Nat}:∀{l:List En},Jts d l=true→∀e∈l,noS d e.av=true
 | [],_,e,he=>by cases he
 | x::l,h,e,he=>by
  simp only[Jts,QQ]at h;rcases QX.1 he with rfl | he
  ·exact h.1
  ·exact Qx2 h.2 e he
theorem Qcv{d:Nat}(ha:∀i,i≠d→ρ' i=ρ i):∀{m:Bool} {x:AV} {cs:List Value},noS d x=true→cr β ρ ok w m x cs→cr β ρ' ok w m x cs
 | m,.d t x,cs,_,h=>by cases m<;>exact h
 | m,.p id path,cs,hn,h=>by cases m<;>exact h
 | m,.e id path,cs,hn,h=>by
  have:=ha id (neB (by grind [noS]));cases m<;>(grind [cr])
 | m,.s id,cs,hn,h=>by
  have:=ha id (neB (by grind [noS]));cases m<;>(grind [cr])
 | m,.m id,cs,hn,h=>by cases m<;>exact h
 | m,.b id,cs,hn,h=>by cases m<;>exact h
 | m,.w ..,cs,hn,h=>by cases m<;>exact h
 | m,.a t x,cs,_,h=>by cases m<;>exact h
 | m,.z,cs,_,h=>by cases m<;>exact h
 | m,.ns,cs,_,h=>by cases m<;>exact h
 | m,.np,cs,_,h=>by cases m<;>exact h
 | m,.nm,cs,_,h=>by cases m<;>exact h
 | m,.nf,cs,_,h=>by cases m<;>exact h
 | m,.f fn caps,cs,hn,h=>by cases m<;>exact let⟨vs,h1,h2⟩:=h; ⟨vs,h1,Qcv ha (by grind [noS]) h2⟩
 | m,.ag l,cs,hn,h=>by cases m<;>exact Qcv ha (m:=false) (x:=l) (by grind [noS]) h
 | m,.tp l,cs,hn,h=>by cases m<;>exact let⟨vs,h1,h2⟩:=h; ⟨vs,h1,Qcv ha (by grind [noS]) h2⟩
 | m,.nil,cs,_,h=>by cases m<;>exact h
 | true,.cons x r,cs,hn,h=>by
  simp only[noS,QQ]at hn;exact let⟨c1,vs,h1,h2,h3⟩:=h; ⟨c1,vs,h1,Qcv ha hn.1 h2,Qcv ha hn.2 h3⟩
 | false,.cons x r,cs,hn,h=>by
  simp only[noS,QQ]at hn;exact let⟨c1,vs,h1,h2,h3⟩:=h; ⟨c1,vs,h1,Qcv ha hn.1 h2,Qcv ha hn.2 h3⟩
theorem Q64{d:Nat}(ha:∀i,i≠d→ρ' i=ρ i):∀{M:List (Nat×Ob)},Qib d M=true→Ha (Qq β ρ M) (Qq β ρ' M)
 | [],_=>.nil
 | (k,o)::l,h=>by
  have hk:k≠d∧Qib d l=true:=by
   cases o with
   | mapC k1 v xs hole=>cases hole<;>simp only[Qib,QQ]at h<;>first | grind [neB] | grind [neB]
   | var t c=>simp_all [Qib,QQ,neB]
   | _=>simp_all [Qib,QQ,neB]
  refine .cons ?_ (Q64 ha hk.2);have h2:=ha k hk.1;cases o with
  | var t c =>
   simp only[Qib,QQ]at h;refine⟨fun g=>Iff.rfl,fun b o=>Iff.rfl,fun ok w hp=>?_⟩;obtain⟨cs,hh,hc⟩:=hp;exact⟨cs,hh,Qcv ha h.1.2 hc⟩
  | row e t xs=>grind [Jb,Fx.refl]
  | tail e t xs=>grind [Jb,Fx.refl]
  | map k v xs=>exact Fx.refl _
  | mapC k1 v xs hole =>
   have hv:Tt β ρ' v hole=Tt β ρ v hole:=by
    cases hole with
    | none=>rfl
    | some q =>
     simp only[Qib,QQ]at h;cases v with
     | sl e u=>exact ha q.2 (neB h.1.2)
     | mp k v=>rfl
   grind [Jb,Fx.refl]
end
section
variable {X:Cx} {β β':Nat→Nat} {ρ ρ':Nat→Value} {S:XS} {a:Act} {w w':World}
theorem Rel.permM{env:List En}{m m':List (Nat×Ob)}(h:Rel X β ρ ⟨env,m⟩ a w)(hp:m.Perm m'):Rel X β ρ ⟨env,m'⟩ a w:=Sb.perm h (hp.map _)
theorem T4{l:List (Nat×Ob)}{id:Nat}{o:Ob}(h:Qk l id=some o):l.Perm ((id,o)::Ya l id):=by
 grind [J8,List.perm_middle]
theorem Qx3{l:List (Nat×Ob)}{id d:Nat}(hne:id≠d):Qk (Ya l d) id=Qk l id:=by
 induction l with
 | nil=>rfl
 | cons q l ih =>
  simp only[Ya];cases hb:Nat.beq q.1 d with
  | true =>
   have:=Nat.eq_of_beq_eq_true hb;simp only[cond_true,Qk];grind [Nat.beq,id,absurd,Nat.eq_of_beq_eq_true]
  | false =>
   simp only[cond_false,Qk];cases Nat.beq q.1 id with
   | true=>rfl
   | false=>exact ih
theorem Rel.repl{env env':List En}{A A' R:List (Nat×Ob)}(h:Rel X β ρ ⟨env,A++R⟩ a w)(hos:w'.os=w.os)(htp:w'.tape=w.tape)(hout:w'.output=w.output)(hsz:w.heap.size=w'.heap.size){L:List Nat}
  (hblk:∀b,b∉L→w'.heap[b]?=w.heap[b]?) (hL:∀g∈L,∃t∈Qq β ρ A,∀o,t.cov g o)
  (hb':∀t∈Qq β' ρ' A',∀g,t.blks g→∃s∈Qq β ρ A,s.blks g) (hc':∀t∈Qq β' ρ' A',∀b o,t.cov b o→∃s∈Qq β ρ A,s.cov b o)
  (hp:Evo (okR X β ρ (A++R) w) w w'→(∀b o,okR X β ρ (A++R) w b o→Jr X.ok X.w.heap.size (fun _=>0) [] (Qq β' ρ' A'++Qq β ρ R) w' b o)→∀t∈Qq β' ρ' A',t.p (Jr X.ok X.w.heap.size (fun _=>0) [] (Qq β' ρ' A'++Qq β ρ R) w') w')
  (hd:(Qq β' ρ' A').Pairwise fun s t=>∀g,s.blks g→¬ t.blks g) (hR:Ha (Qq β ρ R) (Qq β' ρ' R))
  (he:∀e∈env',e∈env∧∀(ok:Ok) (w:World) (cs:List Value),cr β ρ ok w false e.av cs→cr β' ρ' ok w false e.av cs):Rel X β' ρ' ⟨env',A'++R⟩ a w':=by
 have h0:Sb (fun _=>0) X [] (env.map (enD β ρ a)) [] (Qq β ρ A++Qq β ρ R) a w:=by
  have:Qq β ρ (A++R)=Qq β ρ A++Qq β ρ R:=QC;rw[←this]; exact h
 have e0:Qq β ρ (A++R)=Qq β ρ A++Qq β ρ R:=QC;have h1:=h0.repl (A':=Qq β' ρ' A') (w':=w') hos htp hout hsz hblk hL hb' hc' (fun q1 q2=>hp (by grind) (by grind)) hd;have h2:=h1.simO ((Ha.refl _).append hR);have e1:Qq β' ρ' (A'++R)=Qq β' ρ' A'++Qq β' ρ' R:=QC;refine Rel.ofSb h2 e1.symm fun e hm=>?_;obtain⟨q1,q2⟩:=he e hm;have hD:=Yq.1 h2.dat _ (QK.2 ⟨e,q1,rfl⟩);rw[←e1]at hD;exact⟨fun hc=>let⟨cs,r1,r2⟩:=hD.1 hc; ⟨cs,r1,q2 _ _ _ r2⟩,hD.2⟩
theorem Qx4{d:Nat}:∀{l m:List (Nat×Ob)},Qib d l=true→Qib d m=true→Qib d (l++m)=true
 | [],m,_,h=>h
 | (k,o)::l,m,h,hm=>by
  cases o with
  | mapC k1 v xs hole=>cases hole<;>simp only[Qib,QQ,QD]at h ⊢<;>exact⟨h.1,Qx4 h.2 hm⟩
  | _=>simp only[Qib,QQ,QD]at h ⊢; exact⟨h.1,Qx4 h.2 hm⟩
theorem Q3e{id:Nat}(h:Qn5 S id=true):(∀e∈S.flat.env,noS id e.av=true)∧Qib id (Ya S.mem id++S.fixM)=true∧Yr S.prot id=false:=by
 simp only[Qn5,QQ]at h;refine⟨fun e he=>?_,Qx4 h.1.1.2 h.1.2,by simpa using h.2⟩;rcases QZ.1 he with he | he
 ·grind [Qx2]
 grind [Qx2]
theorem Jlf(h:Rel X β ρ S.flat a w){id:Nat}{o:Ob}(hm:Qk S.mem id=some o):Rel X β ρ ⟨S.flat.env,[(id,o)]++(Ya S.mem id++S.fixM)⟩ a w:=by
 have:=Rel.permM (env:=S.flat.env) (m:=S.flat.mem) (m':=((id,o)::Ya S.mem id)++S.fixM) h ((T4 hm).append_right _);exact this
theorem Q3f{id:Nat}{o:Ob}(hm:Qk S.mem id=some o){b f:Nat}(hbo:okR X β ρ S.flat.mem w b f):okR X β ρ ([(id,o)]++(Ya S.mem id++S.fixM)) w b f :=
 ⟨hbo.1,hbo.2.1,hbo.2.2.1,fun t ht=>hbo.2.2.2 t (by
   have hpm:(Qq β ρ S.flat.mem).Perm (Qq β ρ ([(id,o)]++(Ya S.mem id++S.fixM))):=List.Perm.map _ (by
    have:=(T4 hm).append_right S.fixM
    exact this)
   grind)⟩
theorem Qx5{α:Type}{f:Nat→α}{d:Nat}{v:α}:∀i,i≠d→upd f d v i=f i:=fun i h=>N2 f v h
section
variable {c:CK} {x:c.ty.De} {sv:Value} {ok:Ok} {d:Nat}
theorem Jt1(hp:(Qh8 c sv x).p ok w)(hβ:β' d=(Wa sv).getD 0)(hρ:ρ' d=sv)(b:Nat):(Jb β' ρ' d (obC c x)).blks b↔Wa sv=some b:=by
 cases c with
 | sl e u =>
  obtain⟨_,cs,h2,_⟩:=hp;grind [obC,Jb,ml,Qi6]
 | mp k v =>
  obtain⟨g,rfl,_⟩:=hp;simp only[obC,Jb,Qpp,hβ,Wa,XK,Option.some.injEq];exact eq_comm
theorem Jlg{b o:Nat}:(Jb β ρ d (obC c x)).cov b o↔(Jb β ρ d (obC c x)).blks b:=by
 cases c<;>exact Iff.rfl
theorem J70(hβ:β' d=(Wa sv).getD 0)(hρ:ρ' d=sv)(hp:(Qh8 c sv x).p ok w):(Jb β' ρ' d (obC c x)).p ok w:=by
 cases c with
 | sl e u=>simp only[obC,Jb,hρ]; exact hp
 | mp k v =>
  obtain⟨g,rfl,h⟩:=hp;have:β' d=g:=hβ;grind [obC,Jb]
def Jb2(β:Nat→Nat)(ρ:Nat→Value)(c:CK)(id:Nat):Value:=match c with
 | .sl _ _=>ρ id
 | .mp _ _=>.map (some (β id))
theorem Jlh(h:(Jb β ρ d (obC c x)).p ok w):(Qh8 c (Jb2 β ρ c d) x).p ok w:=by
 cases c with
 | sl e u=>exact h
 | mp k v=>exact⟨_,rfl,h⟩
theorem Qx6(h:(Jb β ρ d (obC c x)).p ok w)(b:Nat):(Jb β ρ d (obC c x)).blks b↔Wa (Jb2 β ρ c d)=some b:=by
 cases c with
 | sl e u =>
  obtain⟨_,cs,h2,_⟩:=h;exact Qi6 h2
 | mp k v=>simp only[obC,Jb,Qpp,Jb2,Wa,Option.some.injEq]; exact eq_comm
theorem Qx7{o:Option Ob}(h:Qt2 c o=some x):o=some (obC c x):=by
 unfold Qt2 J1t at h;cases c with
 | sl e u =>
  split at h
  ·rename_i v hv
   split at hv
   ·rename_i e1 u1 e2 u2 ys h1
    injection h1 with h1 h2
    obtain⟨hb,hv⟩:=bvT hv;injection hv with hv
    subst hv;have h3:=Nat.eq_of_beq_eq_true hb;obtain⟨q,hx⟩:=Ty.cast_ok h;cases q;subst hx; subst h1; subst h3; rfl
   ·grind
   ·cases hv
  ·cases h
 | mp k v =>
  split at h
  ·rename_i v0 hv
   split at hv
   ·grind
   ·rename_i k1 u1 k2 u2 ys h1
    injection hv with hv
    subst hv;obtain⟨q,hx⟩:=Ty.cast_ok h;cases q;subst hx; rfl
   ·cases hv
  ·cases h
end
theorem Jz0{τ:Type}{r:RT τ}{e:Nat}{v:Value}{xs:List τ}{ok ok':Ok}(h:(ml v e r xs).p ok w)(hk:∀b o,ok b o→ok' b o)(hown:∀b o,v.ownBlock=some b→b<w.heap.size→ok' b o):isV (rSl r) ok' w xs v:=by
 obtain⟨hl,cs,hown',hr⟩:=h;rcases hown'.2 with⟨rfl,h0⟩ | ⟨g,cap,cur,fz,hv,_,hh,hfz,hle,hcm,hcs,htk⟩
 ·grind [Gj,List.length_eq_zero_iff,J1p]
 ·have hv':=hv
  rw[hl]at hv';refine Xv.2 ⟨_,xs.length,cap,hv',rfl,by rw[hl]at hle; omega,fun h0=>⟨g,0,rfl,fun i x hx=>?_⟩⟩;have hi:=(List.getElem?_eq_some_iff.1 hx).1;have hrep:=Ih hr hx;refine⟨_,r.weak hrep hk,fun j u hu=>?_⟩;have hj:j<r.size:=by have:=(List.getElem?_eq_some_iff.1 hu).1; rw[r.len hrep]at this; exact this
  have hgb:v.ownBlock=some g:=by rw[hv]; rfl
  rw[QW];grind [Uc,Q2z,List.getElem?_take_of_lt]
theorem Jt2{τ:Type}{r:RT τ}{ok:Ok}{xs:List τ}{v u:Value}(hz:zal v u)(h:isV (rSl r) ok w xs u):isV (rSl r) ok w xs v:=by
 rcases hz with rfl | ⟨rfl,A,rfl⟩
 ·exact h
 ·obtain⟨A',n,c,h1,hl,hc,_⟩:=Xv.1 h
  injection h1 with _ h2 h3
  subst h2;exact Xv.2 ⟨A,0,0,rfl,hl,QY _,fun h0=>by omega⟩
theorem Q3g{κ:Type}{rk:RT κ}{e:TypeId}{u:Ty}{ok ok':Ok}:∀{xs:List (κ×List u.De)} {ys:List (κ×Value)} {vs:List Value} {es:List MapEntry},Ny (.sl e u) none undef ok w xs ys vs→Ri rk Jze ok' w ys es→(∀b o,ok b o→ok' b o) →
  (∀v∈vs,∀b o,Wa v=some b→b<w.heap.size→ok' b o)→Ri rk (rt (.sl u)) ok' w xs es
 | [],[],[],es,_,hm,_,_=>hm
 | x::xs,y::ys,v::vs,es,⟨h1,h2,h3⟩,⟨en,es',he,m1,⟨cs,⟨hcs,_⟩,m2⟩,m3⟩,hk,ho=>by
  refine⟨en,es',he,by rw[h1]; exact m1,?_,Q3g h3 m3 hk fun v hv=>ho v (.tail _ hv)⟩;have hv:en.val=y.2:=by rw[m2,hcs]; rfl
  rw[hv];rcases h2 with⟨q,_⟩ | ⟨_,hz,hp⟩
  ·cases q
  ·exact Jt2 hz (Jz0 hp hk fun b o hb hlt=>ho v (.head _) b o (by obtain⟨_,cs,q,_⟩:=hp; grind [Qi6]) hlt)
 | [],[],_::_,_,h,_,_,_=>h.elim
 | [],_::_,_,_,h,_,_,_=>h.elim
 | _::_,[],_,_,h,_,_,_=>h.elim
 | _::_,_::_,[],_,h,_,_,_=>h.elim
theorem Jb3{id:Nat}{vs:List Value}:Qfs (upd ρ id (.tuple vs.toArray) id)=vs:=by rw[Jm]; simp[Qfs]
theorem J71{t s:TL}(h:∀g,t.blks g→¬ s.blks g):[t,s].Pairwise fun s t=>∀g,s.blks g→¬ t.blks g :=
 List.pairwise_cons.2 ⟨fun u hu=>by grind,List.pairwise_cons.2 ⟨by simp,.nil⟩⟩
theorem Qx8{d id:Nat}:∀{l m:List (Nat×Ob)},Yo d (l++m)=true→Yo d (Ya l id++m)=true
 | [],m,h=>h
 | (k0,o)::l,m,h=>by
  have hl:Yo d (l++m)=true:=by
   cases o with
   | mapC k1 v xs hole=>cases hole<;>simp only[QD,Yo,QQ]at h<;>exact h.2
   | _=>simp_all [QD,Yo,QQ]
  simp only[Ya];cases hb:Nat.beq k0 id with
  | true=>exact hl
  | false =>
   have ih:=Qx8 (id:=id) hl;simp only[cond_false];cases o with
   | mapC k1 v xs hole=>cases hole<;>simp only[QD,Yo,QQ]at h ⊢<;>exact⟨h.1,ih⟩
   | _=>simp_all [QD,Yo,QQ]
theorem Ha.trans:∀{l1 l2 l3:List TL},Ha l1 l2→Ha l2 l3→Ha l1 l3:=by
 intro l1 l2 l3 h1
 induction h1 generalizing l3 with
 | nil=>grind
 | cons h r ih =>
  intro h2;cases h2 with
  | cons k q=>exact .cons ⟨fun g=>(k.1 g).trans (h.1 g),fun b o=>(k.2.1 b o).trans (h.2.1 b o),fun ok w hp=>k.2.2 ok w (h.2.2 ok w hp)⟩ (ih q)
theorem Q3h(h:Rel X β ρ S.flat a w){id d:Nat}{kk:Ty}{c:CK}{xs:List (kk.De×c.ty.De)}(hm:Qk S.mem id=some (.mapC kk c xs none))(hq:Qn5 S id=true)(hb:okB S d=true){key:kk.De}
  {ys:List (kk.De×Value)} {vs':List Value} {sv:Value} {x:c.ty.De} {es:Array MapEntry} {clock:Nat} (hg:w.heap[β id]?=some (.map es clock)) (hmp:Ri (rt kk) Jze (okR X β ρ S.flat.mem w) w ys es.toList)
  (hst:(es.toList.map MapEntry.born).Nodup∧∀e∈es.toList,e.born<clock) (hrel:Ny c (some key) sv (okR X β ρ S.flat.mem w) w xs ys vs') (hnd:(xs.map Prod.fst).Nodup) (hdp:Qpq vs') (hvg:∀v∈vs',Wa v≠some (β id)) (habs:key∉xs.map Prod.fst→sv=.slice none 0 0)
  (hin:∀s∈vs',s=undef∨s∈Qfs (ρ id)) (hsv:sv=.slice none 0 0∨sv∈Qfs (ρ id)) (hds:∀s∈vs',∀g,Wa s=some g→Wa sv≠some g) (hp:(Qh8 c sv x).p (okR X β ρ S.flat.mem w) w) (hsg:Wa sv≠some (β id)) :
  ∃β' ρ',Vv S ((S.swap id (.mapC kk c xs (some (key,d)))).born d (obC c x)) β β' ρ ρ'∧Rel X β' ρ' ((S.swap id (.mapC kk c xs (some (key,d)))).born d (obC c x)).flat a w:=by
 obtain⟨q1,q2,q3⟩:=Q3e hq;obtain⟨b1,b2,b3⟩:=Ch hb;have hF:=Jlf h hm;have hid:id≠d:=(N3 b1 (id,.mapC kk c xs none) (List.mem_append_left _ ((T4 hm).mem_iff.2 (.head _)))).1
 let β':=upd β d ((Wa sv).getD 0)
 let ρ':=upd (upd ρ d sv) id (.tuple vs'.toArray)
 have hβd:β' d=(Wa sv).getD 0:=Jm _ _ _;have hβo:∀i,i≠d→β' i=β i:=fun i h1=>N2 _ _ h1;have hρid:Qfs (ρ' id)=vs':=by grind [Jm,Qfs]
 have hρd:ρ' d=sv:=by grind [N2,id,Jm]
 have hρo:∀i,i≠id→i≠d→ρ' i=ρ i:=fun i h1 h2=>by grind [N2]
 have hρo2:∀i,i≠d→ρ' i=upd ρ id (.tuple vs'.toArray) i:=fun i hi=>by
  grind [upd,id]
 have hval:Tt β' ρ' c (some (key,d))=sv:=by
  cases c with
  | sl e u=>exact hρd
  | mp k v =>
   obtain⟨g,hg,_⟩:=hp;subst hg;show Value.map (some (β' d))=_;rw[hβd]; rfl
 have hblk:=Jt1 (β':=β') (ρ':=ρ') (d:=d) hp hβd hρd
 have hblks:∀g,Wa sv=some g→(Jb β ρ id (.mapC kk c xs none)).blks g:=fun g hg=>by
  rcases hsv with rfl | hsv
  ·cases hg
  ·exact .inr ⟨sv,hsv,hg⟩
 have hmap:∀g,(g=β' id∨∃v∈Qfs (ρ' id),Wa v=some g)→(Jb β ρ id (.mapC kk c xs none)).blks g:=fun g hg=>by
  rw[hβo id hid,hρid]at hg;rcases hg with hg | ⟨s,hs,hg⟩
  ·exact .inl hg
  ·rcases hin s hs with rfl | hs
   ·cases hg
   ·exact .inr ⟨s,hs,hg⟩
 refine⟨β',ρ',⟨rfl,rfl,rfl,fun i hi=>⟨hβo i fun e=>?_,hρo i (fun e=>?_) (fun e=>?_)⟩⟩,?_⟩
 ·grind [Wb]
 ·grind [Wb]
 ·grind [Wb]
 have hfr:=Rel.repl (β':=β') (ρ':=ρ') (env':=Ux d S.env++S.fix) (A':=[(d,obC c x),(id,.mapC kk c xs (some (key,d)))]) hF rfl rfl rfl rfl (L:=[]) (fun _ _=>rfl) (by simp)
  (fun t ht g hg=>⟨_,.head _,?_⟩) (fun t ht b o hc=>⟨_,.head _,?_⟩) (fun _ hok t ht=>?_) ?_ ?_ ?_
 ·exact hfr
 ·simp only[Qq,JQ,ZC,QX,QT,or_false]at ht
  rcases ht with rfl | rfl
  ·grind
  ·exact hmap g hg
 ·simp only[Qq,JQ,ZC,QX,QT,or_false]at ht
  rcases ht with rfl | rfl
  ·exact hblks b ((hblk b).1 (Jlg.1 hc))
  ·exact hmap b hc
 ·have hok':=fun b o hbo=>hok b o (Q3f hm hbo)
  simp only[Qq,JQ,ZC,QX,QT,or_false]at ht;rcases ht with rfl | rfl
  ·exact J70 hβd hρd ((Qh8 c sv x).weak hp hok')
  ·refine⟨ys,⟨es,clock,by rw[hβo id hid]; exact hg,Fv hmp hok',hst⟩,?_,hnd,?_,?_,?_⟩
   ·rw[hval,hρid]; exact Qd3 hrel hok'
   ·rw[hρid]; exact hdp
   ·rw[hρid,hβo id hid]; exact hvg
   ·intro k0 hk0 hn
    injection hk0 with hk0
    grind
 ·refine J71 fun g hg hg2=>?_
  have hg1:=(hblk g).1 hg;have hg2':g=β' id∨∃v∈Qfs (ρ' id),Wa v=some g:=hg2;rw[hβo id hid,hρid]at hg2';grind
 ·exact Ha.trans (Q64 Qx5 q2) (Qfy (d:=d) (fun i hi=>⟨hβo i hi,hρo2 i hi⟩) (Qx8 b1))
 ·intro e he
  have hmem:e∈S.flat.env∧Km d e.av=true:=by
   rcases QZ.1 he with he | he
   ·obtain⟨m1,m2⟩:=Qn8 he
    exact⟨List.mem_append_left _ m1,m2⟩
   ·exact⟨List.mem_append_right _ he,Qx1 b2 e he⟩
  refine⟨hmem.1,fun ok w cs hc=>?_⟩;exact Fy (β':=β') (ρ':=ρ') (d:=d) (fun i hi=>⟨hβo i hi,hρo2 i hi⟩) hmem.2 (Qcv (ρ':=upd ρ id (.tuple vs'.toArray)) Qx5 (q1 e hmem.1) hc)
theorem Jb4{R:Type}{k:XS→Option R}{r:R}(h:Rel X β ρ S.flat a w){src:Src}{id d:Nat}(ht:Jby S src id d k=some r):∃S' β' ρ',Vv S S' β β' ρ ρ'∧Rel X β' ρ' S'.flat a w∧k S'=some r:=by
 unfold Jby at ht;split at ht
 ·rename_i kk c xs hm
  split at ht
  ·split at ht
   ·rename_i key hkey
    obtain⟨hb,ht⟩:=bvT ht;simp only[QQ]at hb;obtain⟨⟨hk,hq⟩,hb⟩:=hb;obtain⟨⟨ys,⟨es,clock,hg,hmp,hst⟩,hrel,hnd,hdp,hvg,_⟩,_⟩:=h.ob (Jd (m:=S.fixM) hm);have hrel:Ny c none undef (okR X β ρ S.flat.mem w) w xs ys (Qfs (ρ id)):=hrel;cases c with
    | sl e u =>
     have hfind:∃vs' sv x,(Qz key xs).getD []=x∧Ny (.sl e u) (some key) sv (okR X β ρ S.flat.mem w) w xs ys vs'∧(∀s∈vs',s=undef∨s∈Qfs (ρ id))∧(sv=.slice none 0 0∨sv∈Qfs (ρ id))∧Qpq vs' ∧
       (∀s∈vs',∀g,Wa s=some g→Wa sv≠some g)∧(Qh8 (.sl e u) sv x).p (okR X β ρ S.flat.mem w) w∧(key∉xs.map Prod.fst→sv=.slice none 0 0):=by
      rcases Qr2 hk hrel hnd hdp with⟨r1,r2⟩ | ⟨vs',sv,x,r1,r2,r3,r4,r5,r6,r7⟩
      ·exact⟨_,.slice none 0 0,[],by rw[r1]; rfl,r2 _,fun s hs=>.inr hs,.inl rfl,hdp,(fun s _ g _ e'=>by cases e'),Jld rfl _ _,fun _=>rfl⟩
      grind [Qrz]
     obtain⟨vs',sv,x,f1,f2,f3,f4,f5,f6,f7,f8⟩:=hfind
     obtain⟨β',ρ',g1,g2⟩:=Q3h h hm hq hb hg hmp hst f2 hnd f5 (fun v hv=>by
      rcases f3 v hv with rfl | hv
      ·intro e'; cases e'
      ·exact hvg v hv) f8 f3 f4 f6 f7 (by
      rcases f4 with rfl | f4
      ·intro e'; cases e'
      ·exact hvg sv f4)
     have ht:k ((S.swap id (.mapC kk (.sl e u) xs (some (key,d)))).born d (.row e u ((Qz key xs).getD [])))=some r:=ht;rw[f1]at ht;exact⟨_,β',ρ',g1,g2,ht⟩
    | mp k2 v2 =>
     have ht:(match Qz key xs with
      | some ys=>k ((S.swap id (.mapC kk (.mp k2 v2) xs (some (key,d)))).born d (.map k2 v2 ys))
      | none=>k S)=some r:=ht
     rcases Qr2 hk hrel hnd hdp with⟨r1,r2⟩ | ⟨vs',sv,x,r1,r2,r3,r4,r5,r6,r7⟩
     ·rw[r1]at ht
      exact⟨S,β,ρ,⟨rfl,rfl,rfl,agP.refl _ _ _⟩,h,ht⟩
     ·rw[r1]at ht
      obtain⟨β',ρ',g1,g2⟩:=Q3h h hm hq hb hg hmp hst r2 hnd r5 (fun v hv=>by
       rcases r4 v hv with rfl | hv
       ·intro e'; cases e'
       ·exact hvg v hv) (fun hn=>by rw[Qrz hk hn]at r1; cases r1) r4 (.inr r3) r6 r7 (hvg sv r3)
      exact⟨_,β',ρ',g1,g2,ht⟩
   ·cases ht
  ·cases ht
 ·cases ht
theorem Qsb(h:Rel X β ρ S.flat a w){id h1:Nat}{o o1:Ob}(hm:Qk S.mem id=some o)(hm1:Qk S.mem h1=some o1)(hne:id≠h1) :
  Rel X β ρ ⟨S.flat.env,[(h1,o1),(id,o)]++(Ya (Ya S.mem h1) id++S.fixM)⟩ a w∧(∀{b f:Nat},okR X β ρ S.flat.mem w b f→okR X β ρ ([(h1,o1),(id,o)]++(Ya (Ya S.mem h1) id++S.fixM)) w b f) ∧
  ∀g,(Jb β ρ h1 o1).blks g→¬ (Jb β ρ id o).blks g:=by
 have hm2:Qk (Ya S.mem h1) id=some o:=by rw[Qx3 hne]; exact hm
 have hpm:S.flat.mem.Perm ([(h1,o1),(id,o)]++(Ya (Ya S.mem h1) id++S.fixM)):=((T4 hm1).append_right S.fixM).trans (((T4 hm2).append_right S.fixM).cons (h1,o1));have hF:=Rel.permM (env:=S.flat.env) (m:=S.flat.mem) h hpm;refine⟨hF,fun hbo=>⟨hbo.1,hbo.2.1,hbo.2.2.1,fun t ht=>hbo.2.2.2 t ((hpm.map _).mem_iff.2 ht)⟩,?_⟩;have hOO:(Qq β ρ ([(h1,o1),(id,o)]++(Ya (Ya S.mem h1) id++S.fixM))).Pairwise fun s t=>∀g,s.blks g→¬ t.blks g:=hF.dOO;grind
theorem Jb5(h:Rel X β ρ S.flat a w){id h1:Nat}{kk:Ty}{c:CK}{xs:List (kk.De×c.ty.De)}{hole:Option (kk.De×Nat)}{x0:c.ty.De}(hm:Qk S.mem id=some (.mapC kk c xs hole))(hm1:Qk S.mem h1=some (obC c x0))(hne:id≠h1)
  (hq:Qn5 { S with mem:=Ya S.mem h1 } id=true) {xs':List (kk.De×c.ty.De)} {vs':List Value} (hin:∀s∈vs',s=Jb2 β ρ c h1∨s∈Qfs (ρ id)) (hos:w'.os=w.os) (htp:w'.tape=w.tape) (hout:w'.output=w.output) (hsz:w.heap.size=w'.heap.size) (hblk:∀b,b≠β id→w'.heap[b]?=w.heap[b]?)
  (hp:∀ok',Evo (okR X β ρ S.flat.mem w) w w'→(∀b o,okR X β ρ S.flat.mem w b o→ok' b o)→Jtb (β id) (rt kk) c vs' xs' none undef ok' w') :
  Vv S (XS.swap { S with mem:=Ya S.mem h1 } id (.mapC kk c xs' none)) β β ρ (upd ρ id (.tuple vs'.toArray))∧Rel X β (upd ρ id (.tuple vs'.toArray)) (XS.swap { S with mem:=Ya S.mem h1 } id (.mapC kk c xs' none)).flat a w':=by
 obtain⟨hF,hokF,hdis⟩:=Qsb h hm hm1 hne;obtain⟨q1,q2,q3⟩:=Q3e hq;obtain⟨hpc,_⟩:=h.ob (Jd (m:=S.fixM) hm1);refine⟨⟨rfl,rfl,rfl,Fz q3 fun i hi=>⟨rfl,Qx5 i hi⟩⟩,?_⟩
 have hbl:∀g,(g=β id∨∃v∈Qfs (upd ρ id (.tuple vs'.toArray) id),Wa v=some g)→∃s∈Qq β ρ [(h1,obC c x0),(id,.mapC kk c xs hole)],s.blks g∧∀o,s.cov g o:=by
  intro g hg;rw[Jb3]at hg;rcases hg with hg | ⟨s,hs,hg⟩
  ·exact⟨_,.tail _ (.head _),.inl hg,fun _=>.inl hg⟩
  ·rcases hin s hs with rfl | hs
   ·have:=(Qx6 hpc g).2 hg
    grind [Jlg]
   ·exact⟨_,.tail _ (.head _),.inr ⟨s,hs,hg⟩,fun _=>.inr ⟨s,hs,hg⟩⟩
 refine Rel.repl (a:=a) (w':=w') (ρ':=upd ρ id (.tuple vs'.toArray)) (env':=S.flat.env) (A':=[(id,.mapC kk c xs' none)]) hF hos htp hout hsz (L:=[β id]) (fun b hb=>hblk b (by simpa using hb)) ?_ ?_ ?_ ?_ (by simp) (Q64 Qx5 q2) fun e he=>⟨he,fun ok w cs hc=>Qcv Qx5 (q1 e he) hc⟩
 ·intro g hg'
  have:g=β id:=by simpa using hg'
  exact⟨Jb β ρ id (.mapC kk c xs hole),by simp[Qq],fun o=>.inl this⟩
 ·intro t ht g hg'
  have:t=Jb β (upd ρ id (.tuple vs'.toArray)) id (.mapC kk c xs' none):=by grind
  subst this;obtain⟨s,s1,s2,_⟩:=hbl g hg';grind
 ·intro t ht b o hc
  have:t=Jb β (upd ρ id (.tuple vs'.toArray)) id (.mapC kk c xs' none):=by grind
  subst this;obtain⟨s,s1,_,s2⟩:=hbl b hc;grind
 ·intro hevo hok t ht
  have:t=Jb β (upd ρ id (.tuple vs'.toArray)) id (.mapC kk c xs' none):=by grind
  subst this;have:=hp _ (hevo.mono fun b o hbo=>hokF hbo) (fun b o hbo=>hok b o (hokF hbo));show Jtb _ _ _ (Qfs (upd ρ id (.tuple vs'.toArray) id)) _ _ _ _ _;rw[Jb3]; exact this
theorem Q3i{R:Type}{k:XS→Option R}{r:R}(h:Rel X β ρ S.flat a w){id:Nat}(ht:Qxs S id k=some r):∃S' ρ',Vv S S' β β ρ ρ'∧Rel X β ρ' S'.flat a w∧k S'=some r:=by
 unfold Qxs at ht;split at ht
 ·rename_i kk c xs q hm
  split at ht
  ·rename_i ys0 hy
   obtain⟨hb,ht⟩:=bvT ht;simp only[QQ]at hb;obtain⟨hb,hmp0⟩:=hb;cases c with
   | sl e u=>cases hmp0
   | mp k2 v2 =>
   have hm1:=Qx7 hy;have hne:id≠q.2:=fun e=>by rw[←e,hm]at hm1; cases hm1
   obtain⟨⟨ys,⟨es,clock,hg,hmp,hst⟩,hrel,hnd,hdp,hvg,habs⟩,_⟩:=h.ob (Jd (m:=S.fixM) hm);obtain⟨hpc,_⟩:=h.ob (Jd (m:=S.fixM) hm1);have hdis:=(Qsb h hm hm1 hne).2.2
   have hin:q.1∈xs.map Prod.fst:=by
    apply Classical.byContradiction;intro hn;have:=habs q.1 rfl hn;cases this
   have hsd:∀g,Wa (Jb2 β ρ (.mp k2 v2) q.2)=some g→¬ (Jb β ρ id (.mapC kk (.mp k2 v2) xs (some q))).blks g:=fun g hg=>hdis g ((Qx6 hpc g).2 hg);obtain⟨vs',r1,r2,r3⟩:=Qxm (c:=.mp k2 v2) hb.2 (Jlh hpc) (show Ny (.mp k2 v2) (some q.1) (Jb2 β ρ (.mp k2 v2) q.2) _ w xs ys _ from hrel) hin hnd hdp (fun s hs g hg hg2=>hsd g hg2 (.inr ⟨s,hs,hg⟩))
   obtain⟨g1,g2⟩:=Jb5 (w':=w) h hm hm1 hne hb.1 r3 rfl rfl rfl rfl (fun _ _=>rfl) (xs':=Va q.1 ys0 xs) fun ok' _ hok =>
    ⟨ys,⟨es,clock,hg,Fv hmp hok,hst⟩,Qd3 r1 hok,(Qlt hb.2 _ _ hnd).1,r2,fun v hv e=>by
     rcases r3 v hv with rfl | hv
     ·exact hsd _ e (.inl rfl)
     ·exact hvg v hv e,fun _ e=>by cases e⟩
   grind
  ·cases ht
 ·exact⟨S,ρ,⟨rfl,rfl,rfl,agP.refl _ _ _⟩,h,ht⟩
 ·cases ht
theorem Jb6{R:Type}{k:XS→Option R}{r:R}(h:Rel X β ρ S.flat a w){id:Nat}(ht:Jbx S id k=some r):∃S',Vv S S' β β ρ ρ∧Rel X β ρ S'.flat a w∧k S'=some r:=by
 unfold Jbx at ht;split at ht
 ·rename_i kk e u xs hm
  refine⟨S.swap id (.map kk (.sl u) xs),⟨rfl,rfl,rfl,agP.refl _ _ _⟩,?_,ht⟩;have hF:=Jlf h hm;obtain⟨⟨ys,⟨es,clock,hg,hmp,hst⟩,hrel,hnd,_,hvg,_⟩,hmine⟩:=h.ob (Jd (m:=S.fixM) hm);have hrel:Ny (.sl e u) none undef (okR X β ρ S.flat.mem w) w xs ys (Qfs (ρ id)):=hrel;have hOO:(Qq β ρ ([(id,.mapC kk (.sl e u) xs none)]++(Ya S.mem id++S.fixM))).Pairwise fun s t=>∀g,s.blks g→¬ t.blks g:=hF.dOO;have hdis:=(List.pairwise_cons.1 hOO).1;refine Rel.repl (A':=[(id,.map kk (.sl u) xs)]) hF rfl rfl rfl rfl (L:=[]) (fun _ _=>rfl) (by simp) ?_ ?_ ?_ (by simp) (Ha.refl _) fun e he=>⟨he,fun ok w cs hc=>hc⟩
  ·intro t ht g hg
   have:t=Jb β ρ id (.map kk (.sl u) xs):=by grind
   subst this;exact⟨_,.head _,.inl hg⟩
  ·intro t ht b o hc
   have:t=Jb β ρ id (.map kk (.sl u) xs):=by grind
   subst this;exact⟨_,.head _,.inl hc⟩
  ·intro _ hok t ht
   have:t=Jb β ρ id (.map kk (.sl u) xs):=by grind
   subst this;have hok':=fun b o hbo=>hok b o (Q3f hm hbo);refine⟨es,clock,hg,?_,hnd,hst⟩;refine Q3g hrel (Fv hmp hok') hok' fun v hv b o hb hlt=>?_;refine⟨X.mine_ok (hmine b (.inr ⟨v,hv,hb⟩)) o,hlt,by simp,fun t ht hc=>?_⟩;rcases QZ.1 ht with ht | ht
   ·have:t=Jb β ρ id (.map kk (.sl u) xs):=by grind
    subst this;have hc':b=β id:=hc;grind
   ·exact hdis t ht b (.inr ⟨v,hv,hb⟩) (t.cb hc)
 ·cases ht
end
section
variable {P:Program} {Y:TX} {X:Cx} {S:XS} {β β':Nat→Nat} {ρ ρ':Nat→Value} {a a':Act} {w w':World} {n:Nat}
variable {ops:Array Oper} {Q:Exit→Act→World→Prop} {rest:List Oper} {R:Type} {k:XS→Option R} {r:R}
theorem J55(hT:Jg P Y.T)(h:Rel X β ρ S.flat a w){o:Oper}(hw:Region.wanted o (yielded ops a.tmps)=true){t:TypeId}{m ky x:Operand}(hop:o.op=.mapUpdate t m ky x)(hd:o.dst=none){te tk:TE}{kt et:TypeId}(hte:Qo Y.T t=some te)(htd:te.d=.map kt et)(htk:Qo Y.T kt=some tk)
  {id:Nat} {kv xv:AV} {kk:Ty} {c:CK} {xs:List (kk.De×c.ty.De)} {hole:Option (kk.De×Nat)} {key:kk.De} (hm:S.ev [] m=some (.m id)) (hkv:S.ev [] ky=some kv) (hx:S.ev [] x=some xv) (hmo:Qk S.mem id=some (.mapC kk c xs hole)) (hkey:asD [] kv kk=some key)
  (hdk:V6 Y.T kk tk.d=true) (hka:(kk.agg==kv.isAgg)=true) (hs:Jzt S id kk c xs hole key xv k=some r) (H:KOk P ops Q rest X S β ρ k r):wpList P ops Q (o::rest) a w:=by
 unfold Jzt at hs;split at hs
 ·rename_i h1 hid
  split at hs
  ·rename_i x0 hx0
   obtain⟨hb,hs⟩:=bvT hs;simp only[QQ]at hb;have hne:id≠h1:=fun e=>by rw[e]at hb; simp at hb
   obtain⟨_,hch,hk⟩:=Y0 hs;have hkk:=Uw hdk
   have hhole:∀kh,Jbf hole=some kh→kh=key:=by
    unfold chk at hch;have hch:=(bvT hch).1;intro kh hkh;cases hole with
    | none=>cases hkh
    | some q =>
     injection hkh with hkh
     subst hkh;cases c with
     | sl e u=>grind [Gk]
     | mp k v=>cases hch
   have hm1:=Qx7 hx0;obtain⟨c1,e1,e2⟩:=h.ev (Qi a) hm;have e2':c1=[.map (some (β id))]:=e2;subst e2';have e1':a.eval m=.map (some (β id)):=e1;obtain⟨c3,h3,h4⟩:=h.ev (Qi a) hkv
   have hkr:isV (rt kk) (okR X β ρ S.flat.mem w) w key (a.eval ky):=by
    refine⟨c3,Gl (M:=[]) (β:=β) (ρ:=ρ) (by simp[Qk]) hkey h4,?_⟩;rw[h3]; simp only[AV.val,RT.val,Tq,bEq hka]; cases kv.isAgg<;>rfl
   have hke:=O9 hkk hkr;obtain⟨c5,h5,h6⟩:=h.ev (Qi a) hx;obtain⟨hpc,_⟩:=h.ob (Jd (m:=S.fixM) hm1)
   have hnv:zal (a.eval x) (Jb2 β ρ c h1)∧(a.eval x).oneCell'=true:=by
    cases c with
    | sl e u =>
     cases xv<;>simp only[idC]at hid<;>first | (cases hid; done) | skip
     injection hid with hid
     subst hid;obtain⟨⟨v0,rfl,hz⟩,hform⟩:=h6;have:a.eval x=v0:=h5;rw[this];obtain⟨A,n,c,rfl⟩:=hz.form hform;exact⟨hz,rfl⟩
    | mp k v =>
     cases xv<;>simp only[idC]at hid<;>first | (cases hid; done) | skip
     injection hid with hid
     subst hid;have h6':c5=[.map (some (β _))]:=h6;subst h6';have:a.eval x=.map (some (β _)):=h5;rw[this]; exact⟨.inl rfl,rfl⟩
   obtain⟨⟨ys,⟨es,clock,hg,hmp,hst⟩,hrel,hnd,hdp,hvg,habs⟩,_⟩:=h.ob (Jd (m:=S.fixM) hmo);have hdis:=(Qsb h hmo hm1 hne).2.2;have hsd:∀g,Wa (Jb2 β ρ c h1)=some g→¬ (Jb β ρ id (.mapC kk c xs hole)).blks g:=fun g hg=>hdis g ((Qx6 hpc g).2 hg);obtain⟨vs',r1,r2,r3⟩:=Jbt hkk hnv.1 (Jlh hpc) hhole hrel hnd hdp (fun s hs g hg hg2=>hsd g hg2 (.inr ⟨s,hs,hg⟩));obtain⟨es',clock',hrun,hp',hst'⟩:=Qna hT hte htd htk hdk hg hmp hst key (s:=Jze) (y:=a.eval x) (v:=a.eval x) ⟨[a.eval x],⟨rfl,hnv.2⟩,rfl⟩
   have hrun':(execOp a.eval o).run P w=.ok .skip { w with heap:=w.heap.setIfInBounds (β id) (.map es' clock') }:=by
    unfold execOp;rw[hop];simp only[e1',hke];simp[hrun]
   refine J5 hw ?_;unfold Oper.wp;rw[hrun'];show wpList P ops Q rest (a.put o.dst undef) _;rw[hd];have hne2:∀b,b≠β id→(w.heap.setIfInBounds (β id) (.map es' clock'))[b]?=w.heap[b]?:=fun b hb=>(MapKept.heap_set hg).2 b hb
   obtain⟨g1,g2⟩:=Jb5 (w':={ w with heap:=w.heap.setIfInBounds (β id) (.map es' clock') }) h hmo hm1 hne hb.1 r3 rfl rfl rfl (by simp) hne2 (xs':=Va key x0 xs) fun ok' hevo hok =>
    ⟨Va key (a.eval x) ys,⟨es',clock',(MapKept.heap_set hg).1,Fv (Qd2 hp' hevo) hok,hst'⟩,Qd3 (Qxf r1 (fun v hv b hvb=>hne2 b fun e=>by
     subst e;rcases r3 v hv with rfl | hv
     ·exact hsd _ hvb (.inl rfl)
     grind) hevo) hok,(Qlt hkk _ _ hnd).1,r2,fun v hv e=>by
     rcases r3 v hv with rfl | hv
     ·exact hsd _ e (.inl rfl)
     ·exact hvg v hv e,fun _ e=>by cases e⟩
   exact H β _ _ _ _ hk g1 g2
  ·cases hs
 ·cases hs
end
end Gx
