/- Regions whose order is open, in which rows are made. -/
import Derived.Test.YtgnpojenbefoiaaGreatXO
namespace Gx
open Go Go.RowKit Gd
set_option linter.unusedVariables false
set_option linter.unusedSimpArgs false
abbrev Qa8 (l0:List Oper) (ds:List Nat) (Zs:List (Nat×Ob)) (S0:XS) (i:Nat) (acc:Got) (o:Oper):St:=Ba l0 ds Zs S0 i acc o
def Q9s:Gk→Bool
 | .u=>false
 | _=>true
def Qpx (Y:TX) (L:St) (o:Oper) (u:Ty) (e:TypeId) (zs:List u.De) (c:Nat):Prop :=
 ∃(t:TypeId) (lo co:Operand) (te ee:TE) (lv cv:AV) (k1 k2:IntKind) (nl nc:Int) (za:AV) (z:u.De),o.op=.makeSlice t lo co∧Qe Y.T t=some te∧te.d=.slice e∧Qe Y.T e=some ee ∧
  ev L [] lo=some lv∧ev L [] co=some cv∧Za lv=some (k1,nl)∧Za cv=some (k2,nc)∧Xr u ee.z=some za∧asD [] za u=some z∧Nat.beq ee.size u.size=true∧Nat.beq (Qh ee.z).length ee.size=true ∧
  Nat.ble 1 ee.bytes=true∧mkL ee.bytes nl nc z=some zs∧c=nc.toNat
def Qpy (Y:TX) (C:Nat→Option Ob) (L:St) (o:Oper) (u:Ty) (e:TypeId) (zs:List u.De) (h:Nat):Prop :=
 ∃(t:TypeId) (s x:Operand) (te ee:TE) (xv:AV) (xs ys:List u.De),o.op=.call ⟨.builtin .append,⟨[s,x]⟩,⟨[t,t]⟩⟩∧C h=some (.tail e u xs)∧Qe Y.T t=some te∧te.d=.slice e∧Qe Y.T e=some ee ∧
  ev L [] s=some (.s h)∧ev L [] x=some xv∧asD L.mem xv (.sl u)=some ys∧Nat.ble 1 ee.size=true∧Nat.ble 1 ee.bytes=true∧Nat.beq (Qh ee.z).length ee.size=true∧Nat.beq ee.size u.size=true∧Gt ys=false∧app ee.bytes xs ys=some zs
def Q4h (Y:TX) (L:St) (o:Oper) (u:Ty) (e:TypeId) (zs:List u.De):Prop :=
 ∃(t:TypeId) (s x:Operand) (te ee:TE) (xv:AV) (ys:List u.De),o.op=.call ⟨.builtin .append,⟨[s,x]⟩,⟨[t,t]⟩⟩∧Qe Y.T t=some te∧te.d=.slice e∧Qe Y.T e=some ee ∧
  ev L [] s=some .ns∧ev L [] x=some xv∧asD L.mem xv (.sl u)=some ys∧Nat.ble 1 ee.size=true∧Nat.ble 1 ee.bytes=true∧Nat.beq (Qh ee.z).length ee.size=true∧Nat.beq ee.size u.size=true∧app ee.bytes [] ys=some zs
def Qpz (Y:TX) (o:Oper) (t:TypeId) (c:AV):Prop:=∃(e:TE) (ty:Ty),o.op=.alloc t∧Qe Y.T t=some e∧Xr ty e.z=some c∧Q2 c=[]
def Qp0 (Y:TX) (l0:List Oper) (ds:List Nat) (Zs:List (Nat×Ob)) (L:St) (i:Nat) (acc:Got) (o:Oper) (id:Nat) (ob:Ob):Prop :=
  ∃(t:TypeId) (p x:Operand) (e:TE) (v:AV),o.op=.store t p x∧Qe Y.T t=some e∧ev L [] x=some v∧Nat.beq e.size v.size=true∧v.isVal=true∧v.inMem=true ∧
    ((∃path tid c c',Qkz l0 Zs i acc id=some (.var tid c)∧Be path c v=some c'∧Wr ds c'=true∧ob=.var tid c'∧((ev L [] p=some (.p id path)∧Zk (Qb Zs id)=true)∨(p=.tmp id∧path=[]∧B3 acc id=true∧Ku l0 i (ds.idxOf id)=true))) ∨
     (∃(j:Int) (sz:Nat) (ps:List PS) (et:TypeId) (u:Ty) (xs:List u.De) (y:u.De) (c:AV) (z:u.De),ev L [] p=some (.e id (.i j sz::ps))∧Qkz l0 Zs i acc id=some (.row et u xs)∧idx xs j=some y∧Be ps (.d u y) v=some c∧asD L.mem c u=some z∧Nat.beq sz u.size=true∧Nat.ble 1 u.size=true∧Zk (Qb Zs id)=true∧ob=.row et u (xs.set j.toNat z)))
def Qt9 (P:Program) (Y:TX) (Zs:List (Nat×Ob)) (l0:List Oper) (ds:List Nat) (S0:XS) (o:Oper) (i:Nat) (acc:Got):Nat×AV×Gk→Prop
 | (d,v,.v)=>Pr Y.gl P l0 (Qa8 l0 ds Zs S0 i acc o) o v∧Wr ds v=true
 | (d,v,.u)=>v=.tp .nil
 | (d,v,.r u e zs c)=>v=.s d∧okZ Zs S0 d acc=true∧(Qpx Y (Qa8 l0 ds Zs S0 i acc o) o u e zs c∨Q4h Y (Qa8 l0 ds Zs S0 i acc o) o u e zs)
 | (d,v,.c)=>∃t,v=.s t∧Wq acc t=true∧Ku l0 i (ds.idxOf t)=true∧(o.op=.move (.tmp t)∨o.op=.assign (.tmp t))
 | (d,v,.t u e zs h)=>v=.s d∧okZ Zs S0 d acc=true∧Qpy Y (Qtt l0 Zs i acc) (Qa8 l0 ds Zs S0 i acc o) o u e zs h
 | (d,v,.o t c)=>v=.p d []∧okZ Zs S0 d acc=true∧Qpz Y o t c
 | (d,v,.b ns)=>Pr Y.gl P l0 (Q44 ds ns (Qa8 l0 ds Zs S0 i acc o)) o v∧(∀t∈ns,Wq acc t=true∧Ku l0 i (ds.idxOf t)=true)∧∀j∈Q2 v,j∈ds→j∈ns
 | (d,v,.w id ob)=>Qp0 Y l0 ds Zs (Qa8 l0 ds Zs S0 i acc o) i acc o id ob
def isW:Gk→Bool
 | .w _ _=>true
 | _=>false
structure Ps (P:Program) (Y:TX) (Zs:List (Nat×Ob)) (n:Nat) (l0:List Oper) (ds:List Nat) (S0:XS) (o:Oper) (i:Nat) (acc:Got) (g:Nat×AV×Gk):Prop where
 gd:Oy l0 ds i acc o=some (Q9s g.2.2)
 wr:isW g.2.2=false→okW n S0 g.1=true
 dst:isW g.2.2=false→o.dst=some g.1
 ndst:isW g.2.2=true→o.dst=none∧g.1=1000000000+i
 ix:ds.getD i 0=g.1
 fnd:Qt9 P Y Zs l0 ds S0 o i acc g
theorem Qp1 {l0:List Oper} {ds:List Nat} {i:Nat} {acc:Got} {op:Op} {t:Nat} (h:Qo7 l0 ds i acc op=some t):Wq acc t=true∧Ku l0 i (ds.idxOf t)=true∧(op=.move (.tmp t)∨op=.assign (.tmp t)):=by
 unfold Qo7 at h
 split at h
 ·obtain ⟨hb,h⟩:=bvT h
  simp only [Bool.and_eq_true] at hb
  simp at h; subst h
  exact ⟨hb.1,hb.2,.inl rfl⟩
 ·obtain ⟨hb,h⟩:=bvT h
  simp only [Bool.and_eq_true] at hb
  simp at h; subst h
  exact ⟨hb.1,hb.2,.inr rfl⟩
 ·cases h
theorem Qll {a b:Nat} (h:a≠b):(!Nat.beq a b)=true:=by
 cases hb:Nat.beq a b with
 | true=>exact absurd (Nat.eq_of_beq_eq_true hb) h
 | false=>rfl
theorem Cz {d:Nat}:∀{x:AV},(∀i∈Q2 x,i≠d)→V1 d x=true
 | .d ..,_=>rfl | .a ..,_=>rfl | .z,_=>rfl | .ns,_=>rfl | .np,_=>rfl | .nm,_=>rfl | .nf,_=>rfl | .nil,_=>rfl
 | .p id _,h=>Qll (h id (by simp [Q2]))
 | .e id _,h=>Qll (h id (by simp [Q2]))
 | .s id,h=>Qll (h id (by simp [Q2]))
 | .m id,h=>Qll (h id (by simp [Q2]))
 | .b id,h=>Qll (h id (by simp [Q2]))
 | .w id _ _,h=>Qll (h id (by simp [Q2]))
 | .f _ c,h=>Cz (x:=c) h
 | .ag l,h=>Cz (x:=l) h
 | .tp l,h=>Cz (x:=l) h
 | .cons x y,h=>by
  simp only [V1,Bool.and_eq_true]
  exact ⟨Cz fun i hi=>h i (List.mem_append_left _ hi),Cz fun i hi=>h i (List.mem_append_right _ hi)⟩
theorem Dv {ds:List Nat} {x:AV} (h:Q2 x=[]):Wr ds x=true:=by
 unfold Wr
 rw [List.all_eq_true]
 exact fun d _=>Cz fun i hi=>by rw [h] at hi; cases hi
section
variable {P:Program} {Y:TX} {Zs:List (Nat×Ob)} {n:Nat} {l0:List Oper} {ds:List Nat} {S0:XS} {R:Type} {r:R}
theorem Qp2 {L:St} {o:Oper} {k:(u:Ty)→TypeId→List u.De→Nat→Option R} (h:Qpc Y L o.op k=some r):∃u e zs c,k u e zs c=some r∧Qpx Y L o u e zs c:=by
 unfold Qpc at h
 split at h
 ·rename_i t lo co hop
  split at h
  ·rename_i te lv cv hte hl hc
   split at h
   ·rename_i e k1 nl k2 nc htd hli hci
    split at h
    ·rename_i ee u he hu
     split at h
     ·rename_i za hza
      split at h
      ·rename_i z hz
       obtain ⟨hb2,h⟩:=bvT h
       simp only [Bool.and_eq_true] at hb2
       obtain ⟨zs,hzs,h⟩:=Yh h
       exact ⟨u,e,zs,nc.toNat,h,t,lo,co,te,ee,lv,cv,k1,k2,nl,nc,za,z,hop,hte,J6 htd,he,hl,hc,hli,hci,hza,hz,hb2.1.1,hb2.1.2,hb2.2,hzs,rfl⟩
      ·cases h
     ·cases h
    ·cases h
   ·cases h
  ·cases h
 ·cases h
theorem Qua {C:Nat→Option Ob} {L:St} {o:Oper} {k:(u:Ty)→TypeId→List u.De→Nat→Option R} (h:Q42 Y C L o.op k=some r):∃u e zs c,k u e zs c=some r∧Qpy Y C L o u e zs c:=by
 unfold Q42 at h
 split at h
 ·rename_i s x t t' hop
  split at h
  ·rename_i te id xv hte hs hx
   split at h
   ·rename_i e' u xs hC
    split at h
    ·rename_i e htd
     split at h
     ·rename_i ee ys he hys
      have hb:=(bvT h).1
      obtain ⟨zs,hzs,hkk⟩:=Yh (bvT h).2
      simp only [Bool.and_eq_true] at hb
      obtain ⟨⟨⟨⟨⟨⟨b2,b3⟩,b4⟩,b5⟩,b6⟩,b7⟩,b8⟩:=hb
      clear h
      have e2:=Nat.eq_of_beq_eq_true b2
      have e3:=Nat.eq_of_beq_eq_true b7
      subst e2; subst e3
      exact ⟨u,e,zs,id,hkk,t,s,x,te,ee,xv,xs,ys,hop,hC,hte,J6 htd,he,hs,hx,hys,b3,b4,b5,b6,by simpa using b8,hzs⟩
     ·cases h
    ·cases h
   ·cases h
  ·cases h
 ·cases h
theorem Qub {L:St} {o:Oper} {k:(u:Ty)→TypeId→List u.De→Nat→Option R} (h:Q43 Y L o.op k=some r):∃u e zs c,k u e zs c=some r∧Q4h Y L o u e zs:=by
 unfold Q43 at h
 split at h
 ·rename_i s x t t' hop
  split at h
  ·rename_i te xv hte hs hx
   split at h
   ·rename_i e htd
    split at h
    ·rename_i ee u he hu
     split at h
     ·rename_i ys hys
      have hb:=(bvT h).1
      obtain ⟨zs,hzs,hkk⟩:=Yh (bvT h).2
      simp only [Bool.and_eq_true] at hb
      obtain ⟨⟨⟨⟨b2,b3⟩,b4⟩,b5⟩,b6⟩:=hb
      clear h
      have e2:=Nat.eq_of_beq_eq_true b2
      subst e2
      exact ⟨u,e,zs,0,hkk,t,s,x,te,ee,xv,ys,hop,hte,J6 htd,he,hs,hx,hys,b3,b4,b5,b6,hzs⟩
     ·cases h
    ·cases h
   ·cases h
  ·cases h
 ·cases h
theorem Qlm {o:Oper} {k:TypeId→AV→Option R} (h:Qf7 Y o.op k=some r):∃t c,k t c=some r∧Qpz Y o t c:=by
 unfold Qf7 at h
 split at h
 ·rename_i t hop
  split at h
  ·rename_i e ty he hty
   split at h
   ·rename_i c hc
    obtain ⟨hb,h⟩:=bvT h
    simp only [Bool.and_eq_true] at hb
    exact ⟨t,c,h,e,ty,hop,he,hc,Cy hb.2⟩
   ·cases h
  ·cases h
 ·cases h
theorem Lr {acc:Got}:∀{ts:List Nat} {t:Nat},t∈C9 acc ts→Wq acc t=true
 | [],t,h=>by cases h
 | x::ts,t,h=>by
  simp only [C9] at h
  cases hb:Wq acc x with
  | true =>
   rw [hb] at h
   rcases List.mem_cons.1 h with rfl | h
   ·exact hb
   ·exact Lr h
  | false=>rw [hb] at h; exact Lr h
theorem Tn {l0:List Oper} {ds:List Nat} {i:Nat}:∀{ts:List Nat},Qav l0 ds i ts=true→∀t∈ts,Ku l0 i (ds.idxOf t)=true
 | [],_,t,h=>by cases h
 | x::ts,hp,t,h=>by
  simp only [Qav,Bool.and_eq_true] at hp
  rcases List.mem_cons.1 h with rfl | h
  ·exact hp.1
  ·exact Tn hp.2 t h
theorem Ke:∀{l:List Nat} {t:Nat},J9 l t=true→t∈l
 | [],t,h=>by cases h
 | k::l,t,h=>by
  simp only [J9] at h
  cases hb:Nat.beq k t with
  | true=>rw [Nat.eq_of_beq_eq_true hb]; exact .head _
  | false=>rw [hb] at h; exact .tail _ (Ke (by simpa using h))
theorem Qgj {L:St} {i:Nat} {acc:Got} {p:Operand} {b el:Bool} {id:Nat} {path:List PS} (h:Qaw l0 ds L i acc p=some (b,el,id,path)) :
  (ev L [] p=some (.p id path)∧b=true∧el=false)∨(ev L [] p=some (.e id path)∧b=true∧el=true)∨(p=.tmp id∧path=[]∧b=false∧el=false∧B3 acc id=true∧Ku l0 i (ds.idxOf id)=true):=by
 unfold Qaw at h
 split at h
 ·rename_i hp
  simp only [Option.some.injEq,Prod.mk.injEq] at h
  obtain ⟨rfl,rfl,rfl,rfl⟩:=h
  exact .inl ⟨hp,rfl,rfl⟩
 ·rename_i hp
  simp only [Option.some.injEq,Prod.mk.injEq] at h
  obtain ⟨rfl,rfl,rfl,rfl⟩:=h
  exact .inr (.inl ⟨hp,rfl,rfl⟩)
 ·cases h
 ·split at h
  ·obtain ⟨hb,h⟩:=bvT h
   simp only [Bool.and_eq_true] at hb
   simp only [Option.some.injEq,Prod.mk.injEq] at h
   obtain ⟨rfl,rfl,rfl,rfl⟩:=h
   exact .inr (.inr ⟨rfl,rfl,rfl,rfl,hb.1,hb.2⟩)
  ·cases h
theorem Qln {L:St} {i:Nat} {acc:Got} {o:Oper} {k:Nat→Ob→Option R} (h:Qf8 Y l0 ds Zs L i acc o.op k=some r):∃id ob,k id ob=some r∧Qp0 Y l0 ds Zs L i acc o id ob:=by
 unfold Qf8 at h
 split at h
 ·rename_i t p x hop
  split at h
  ·rename_i e b el id path0 v he ht hx
   obtain ⟨hb,h⟩:=bvT h
   simp only [Bool.and_eq_true] at hb
   have htt:=Qgj ht
   split at h
   ·rename_i _ et u xs j sz ps hC _
    obtain ⟨y,hy,h⟩:=Yh h
    split at h
    ·rename_i c hc
     split at h
     ·rename_i z hz
      obtain ⟨hb2,h⟩:=bvT h
      simp only [Bool.and_eq_true] at hb2
      rcases htt with ⟨_,_,h3⟩ | ⟨h1,_,_⟩ | ⟨_,h2,_⟩
      ·rw [h3] at hb2; simp at hb2
      ·exact ⟨_,_,h,t,p,x,e,v,hop,he,hx,hb.1.1,hb.1.2,hb.2,.inr ⟨j,sz,ps,et,u,xs,y,c,z,h1,hC,hy,hc,hz,hb2.1.1.2,hb2.1.2,hb2.2,rfl⟩⟩
      ·cases h2
     ·cases h
    ·cases h
   ·rename_i path0 _ _ tid c hC _
    split at h
    ·rename_i c' hc'
     obtain ⟨hb2,h⟩:=bvT h
     simp only [Bool.and_eq_true,Bool.or_eq_true,Bool.not_eq_true'] at hb2
     rcases htt with ⟨h1,h2,h3⟩ | ⟨h1,_,h3⟩ | ⟨h1,h2,h3,_,h4,h5⟩
     ·exact ⟨_,_,h,t,p,x,e,v,hop,he,hx,hb.1.1,hb.1.2,hb.2,.inl ⟨path0,tid,c,c',hC,hc',hb2.1.1,rfl,.inl ⟨h1,hb2.2.resolve_left (by rw [h2]; simp)⟩⟩⟩
     ·rw [h3] at hb2; simp at hb2
     ·exact ⟨_,_,h,t,p,x,e,v,hop,he,hx,hb.1.1,hb.1.2,hb.2,.inl ⟨path0,tid,c,c',hC,hc',hb2.1.1,rfl,.inr ⟨h1,h2,h4,h5⟩⟩⟩
    ·cases h
   ·cases h
  ·cases h
 ·cases h
theorem Qp3 (hT:Qy P Y.T) {o:Oper} {i:Nat} {acc:Got} {k:Nat×AV×Gk→Option R} (h:Qpe Y n l0 ds Zs S0 o i acc k=some r):∃g,k g=some r∧Ps P Y Zs n l0 ds S0 o i acc g:=by
 unfold Qpe at h
 split at h
 ·rename_i hd
  obtain ⟨hb,h⟩:=bvT h
  have hix:=Nat.eq_of_beq_eq_true hb
  split at h
  ·rename_i hg
   obtain ⟨id,ob,h,hm⟩:=Qln h
   exact ⟨_,h,hg,(fun h=>by cases h),(fun h=>by cases h),fun _=>⟨hd,rfl⟩,hix,hm⟩
  ·cases h
 ·rename_i d hd
  obtain ⟨hb,h⟩:=bvT h
  simp only [Bool.and_eq_true] at hb
  have hix:=Nat.eq_of_beq_eq_true hb.2
  split at h
  ·rename_i hg
   exact ⟨_,h,hg,fun _=>hb.1,fun _=>hd,(fun h=>by cases h),hix,rfl⟩
  ·rename_i hg
   split at h
   ·rename_i t hcp
    obtain ⟨c1,c2,c3⟩:=Qp1 hcp
    exact ⟨_,h,hg,fun _=>hb.1,fun _=>hd,(fun h=>by cases h),hix,t,rfl,c1,c2,c3⟩
   ·split at h
    ·obtain ⟨u,e,zs,c,h,hm⟩:=Qp2 h
     obtain ⟨hb2,h⟩:=bvT h
     exact ⟨_,h,hg,fun _=>hb.1,fun _=>hd,(fun h=>by cases h),hix,rfl,hb2,.inl hm⟩
    ·obtain ⟨v,h,hv,hs⟩:=Q5f (P:=P) (l0:=l0) hT h
     exact ⟨_,h,hg,fun _=>hb.1,fun _=>hd,(fun h=>by cases h),hix,hs,Dv hv⟩
    ·cases hns:Q9m (Ba l0 ds Zs S0 i acc o) o.op with
     | true =>
      rw [hns] at h
      simp only [cond_true] at h
      obtain ⟨u,e,zs,c,h,hm⟩:=Qub h
      obtain ⟨hb2,h⟩:=bvT h
      exact ⟨_,h,hg,fun _=>hb.1,fun _=>hd,(fun h=>by cases h),hix,rfl,hb2,.inr hm⟩
     | false =>
      rw [hns] at h
      simp only [cond_false] at h
      obtain ⟨u,e,zs,h0,h,hm⟩:=Qua h
      obtain ⟨hb2,h⟩:=bvT h
      exact ⟨_,h,hg,fun _=>hb.1,fun _=>hd,(fun h=>by cases h),hix,rfl,hb2,hm⟩
    ·obtain ⟨t,c,h,hm⟩:=Qlm h
     obtain ⟨hb2,h⟩:=bvT h
     exact ⟨_,h,hg,fun _=>hb.1,fun _=>hd,(fun h=>by cases h),hix,rfl,hb2,hm⟩
    ·cases hni:Gt (C9 acc (E8 o)) with
     | true =>
      rw [hni] at h
      obtain ⟨av,h1,h2⟩:=Bz (P:=P) hT rfl h
      obtain ⟨hb2,h1⟩:=bvT h1
      exact ⟨_,h1,hg,fun _=>hb.1,fun _=>hd,(fun h=>by cases h),hix,Q5e h2,hb2⟩
     | false =>
      rw [hni] at h
      simp only [cond_false] at h
      obtain ⟨hpr,h⟩:=bvT h
      obtain ⟨av,h1,h2⟩:=Bz (P:=P) hT rfl h
      obtain ⟨hb2,h1⟩:=bvT h1
      refine ⟨_,h1,hg,fun _=>hb.1,fun _=>hd,(fun h=>by cases h),hix,Q5e h2,fun t ht=>⟨Lr ht,Tn hpr t ht⟩,fun j hj hjd=>?_⟩
      have:=List.all_eq_true.1 hb2 j hj
      simp only [Bool.or_eq_true] at this
      rcases this with h3 | h3
      ·exact absurd hjd (Bp h3)
      ·exact Ke h3
    ·obtain ⟨av,h1,h2⟩:=Bz (P:=P) hT rfl h
     obtain ⟨hb2,h1⟩:=bvT h1
     exact ⟨_,h1,hg,fun _=>hb.1,fun _=>hd,(fun h=>by cases h),hix,Q5e h2,hb2⟩
  ·cases h
def Tr (P:Program) (Y:TX) (Zs:List (Nat×Ob)) (n:Nat) (l0:List Oper) (ds:List Nat) (S0:XS):List Oper→Nat→Got→Got→Prop
 | [],_,_,[]=>True
 | o::l,i,acc,g::acc2=>Ps P Y Zs n l0 ds S0 o i acc g∧Tr P Y Zs n l0 ds S0 l (i+1) (acc++[g]) acc2
 | _,_,_,_=>False
theorem Tr.get:∀{l:List Oper} {i:Nat} {acc acc2:Got},Tr P Y Zs n l0 ds S0 l i acc acc2→acc2.length=l.length∧∀(j:Nat) o,l[j]?=some o→∃g,acc2[j]?=some g∧Ps P Y Zs n l0 ds S0 o (i+j) (acc++acc2.take j) g
 | [],i,acc,[],_=>⟨rfl,by simp⟩
 | o::l,i,acc,[],h=>h.elim
 | [],i,acc,_::_,h=>h.elim
 | o::l,i,acc,g::acc2,h=>by
  obtain ⟨h2,h3⟩:=Tr.get h.2
  refine ⟨by simp [h2],fun j o' ho=>?_⟩
  cases j with
  | zero =>
   simp at ho; subst ho
   exact ⟨g,rfl,by simpa using h.1⟩
  | succ j =>
   obtain ⟨g',q1,q2⟩:=h3 j o' (by simpa using ho)
   refine ⟨g',by simpa using q1,?_⟩
   rw [show i+(j+1)=i+1+j by omega]
   simpa using q2
theorem Qc8 (hT:Qy P Y.T) {D:Got→Prop}:∀{m:Nat} {l:List Oper} {i:Nat} {acc:Got} {k:List Oper→Nat→Got→Option R},Qcn Y n l0 ds Zs S0 m l i acc k=some r →
  (∀l' i' acc',k l' i' acc'=some r→∃acc2,D (acc'++acc2)∧Tr P Y Zs n l0 ds S0 l' i' acc' acc2)→∃acc2,D (acc++acc2)∧Tr P Y Zs n l0 ds S0 l i acc acc2
 | 0,l,i,acc,k,h,H=>H l i acc h
 | m+1,[],i,acc,k,h,H=>by simp [Qcn] at h
 | m+1,o::l,i,acc,k,h,H=>by
  simp only [Qcn] at h
  obtain ⟨g,h1,h2⟩:=Qp3 hT h
  obtain ⟨acc2,h3,h4⟩:=Qc8 hT h1 H
  exact ⟨g::acc2,by simpa using h3,h2,h4⟩
theorem Ls:∀{acc:Got} {t:Nat} {b:Bool},A9 acc t=some (.d .bool b)→Qpf acc t b=acc
 | [],t,b,h=>by simp [A9] at h
 | (d,v,q)::l,t,b,h=>by
  simp only [Qpf]
  cases q<;>simp only [A9] at h<;>cases hb:Nat.beq d t<;>rw [hb] at h
  all_goals first | (simp only [cond_false]; rw [Ls (acc:=l) h]; done) | skip
  all_goals first | (cases h; done) | skip
  simp at h; subst h
  rfl
theorem Iz (hT:Qy P Y.T) {K:List Con} (hK:∀c∈K,Qi P Y.gl c∧Runs P c.f):∀{h:Hn} {l:List Oper} {i:Nat} {acc:Got} {k:Hn→Got→Option R},Fu Y n l0 ds Zs S0 K h l i acc k=some r →
  ∃acc2,(∃h',k h' (acc++acc2)=some r)∧Tr P Y Zs n l0 ds S0 l i acc acc2
 | .tl h,l,i,acc,k,hs=>by
  simp only [Fu] at hs
  split at hs
  ·exact ⟨[],⟨h,by simpa using hs⟩,trivial⟩
  ·cases hs
 | .n m g,l,i,acc,k,hs=>by
  simp only [Fu] at hs
  exact Qc8 hT (D:=fun a=>∃h',k h' a=some r) hs fun l' i' acc' h'=>Iz hT hK h'
 | .call c g,l,i,acc,k,hs=>by
  simp only [Fu] at hs
  split at hs
  ·rename_i con o l' hc
   split at hs
   ·rename_i d hd
    obtain ⟨hb,hs⟩:=bvT hs
    simp only [Bool.and_eq_true] at hb
    have hix:=Nat.eq_of_beq_eq_true hb.2
    split at hs
    ·rename_i hg
     have hcm:=hK con (List.mem_of_getElem? hc)
     obtain ⟨v,h1,h2,h3⟩:=Qt8 (l0:=l0) hcm.1 hcm.2 hs
     obtain ⟨acc2,⟨h',h4⟩,h5⟩:=Iz hT hK h1
     exact ⟨(d,v,.v)::acc2,⟨h',by simpa using h4⟩,⟨hg,fun _=>hb.1,fun _=>hd,(fun h=>by cases h),hix,h3,Dv h2⟩,h5⟩
    ·cases hs
   ·cases hs
  ·cases hs
 | .so t x y,l,i,acc,k,hs=>by
  simp only [Fu] at hs
  split at hs
  ·rename_i v hv
   cases v with
   | true =>
    rw [if_pos rfl,Ls hv] at hs
    exact Iz hT hK hs
   | false =>
    rw [if_neg (by simp),Ls hv] at hs
    exact Iz hT hK hs
  ·cases hs
 | .done,l,i,acc,k,hs=>by simp [Fu] at hs
 | .nl m g,l,i,acc,k,hs=>by simp [Fu] at hs
 | .md m g,l,i,acc,k,hs=>by simp [Fu] at hs
 | .mt _ _ _ _,l,i,acc,k,hs=>by simp [Fu] at hs
 | .op _ _ _ _,l,i,acc,k,hs=>by simp [Fu] at hs
 | .fm _ _,l,i,acc,k,hs=>by simp [Fu] at hs
 | .keep m g,l,i,acc,k,hs=>by simp [Fu] at hs
 | .fz m g,l,i,acc,k,hs=>by simp [Fu] at hs
 | .sp _ _ _ _ _ _ _ _,l,i,acc,k,hs=>by simp [Fu] at hs
def Qc9:Value→Nat
 | .pointer (some a)=>a.block
 | _=>0
def Pt (a:Act):List Nat→(Nat→Value)→Nat→Value
 | [],ρ=>ρ
 | d::l,ρ=>Pt a l (upd ρ d (a.tmps.getD d undef))
def B6 (a:Act):List Nat→(Nat→Nat)→Nat→Nat
 | [],β=>β
 | d::l,β=>B6 a l (upd β d (Qc9 (a.tmps.getD d undef)))
theorem Gi {a:Act} {C:(Nat→Nat)→(Nat→Value)→Prop}:∀{l:List Nat} {β:Nat→Nat} {ρ:Nat→Value},C β ρ→(∀d∈l,∀β ρ,C β ρ→C (upd β d (Qc9 (a.tmps.getD d undef))) (upd ρ d (a.tmps.getD d undef)))→C (B6 a l β) (Pt a l ρ)
 | [],β,ρ,h,_=>h
 | d::l,β,ρ,h,hs=>Gi (l:=l) (hs d (.head _) β ρ h) fun d' hd=>hs d' (.tail _ hd)
theorem Pu {a:Act} {l:List Nat} {β:Nat→Nat} {ρ:Nat→Value} {d:Nat} (h:d∉l):B6 a l β d=β d∧Pt a l ρ d=ρ d :=
 Gi (C:=fun β' ρ'=>β' d=β d∧ρ' d=ρ d) ⟨rfl,rfl⟩ fun e he β' ρ' h'=>by
  have hne:d≠e:=fun q=>h (q▸he)
  rw [Uv _ _ hne,Uv _ _ hne]; exact h'
theorem Eu {a:Act}:∀{l:List Nat} {β:Nat→Nat} {ρ:Nat→Value} {d:Nat},d∈l→B6 a l β d=Qc9 (a.tmps.getD d undef)∧Pt a l ρ d=a.tmps.getD d undef
 | e::l,β,ρ,d,h=>by
  by_cases hm:d∈l
  ·exact Eu (l:=l) hm
  ·rcases List.mem_cons.1 h with rfl | h
   ·have:=Pu (a:=a) (l:=l) (β:=upd β d (Qc9 (a.tmps.getD d undef))) (ρ:=upd ρ d (a.tmps.getD d undef)) hm
    rw [Jn,Jn] at this
    exact this
   ·exact absurd h hm
theorem Dw {a a':Act}:∀{l:List Nat} {β:Nat→Nat} {ρ:Nat→Value},(∀t∈l,a'.tmps.getD t undef=a.tmps.getD t undef)→B6 a' l β=B6 a l β∧Pt a' l ρ=Pt a l ρ
 | [],β,ρ,_=>⟨rfl,rfl⟩
 | d::l,β,ρ,h=>by
  simp only [B6,Pt,h d (.head _)]
  exact Dw (l:=l) fun t ht=>h t (.tail _ ht)
def Qlo (β:Nat→Nat) (ρ:Nat→Value):Nat×AV×Gk→FA
 | (d,v,.v)=>⟨fun ok w a=>∃cs,a.tmps.getD d undef=v.val cs∧cr β ρ ok w false v cs,fun ⟨cs,h1,h2⟩ he=>⟨cs,h1,X8 h2 he⟩,fun ⟨cs,h1,h2⟩ hk=>⟨cs,h1,Vt h2 hk⟩⟩
 | (d,_,.r _ _ zs _)=>⟨fun _ _ a=>∃A c,a.tmps.getD d undef=.slice A zs.length c,fun h _=>h,fun h _=>h⟩
 | (d,_,.o _ _)=>⟨fun _ _ a=>∃b,a.tmps.getD d undef=.pointer (some ⟨b,0,none⟩),fun h _=>h,fun h _=>h⟩
 | (d,v,.b ns)=>⟨fun ok w a=>∃cs,a.tmps.getD d undef=v.val cs∧cr (B6 a ns β) (Pt a ns ρ) ok w false v cs,fun ⟨cs,h1,h2⟩ he=>⟨cs,h1,X8 h2 he⟩,fun ⟨cs,h1,h2⟩ hk=>⟨cs,h1,Vt h2 hk⟩⟩
 | (d,.s t,.c)=>⟨fun _ _ a=>a.tmps.getD d undef=a.tmps.getD t undef,fun h _=>h,fun h _=>h⟩
 | (_,_,.c)=>⟨fun _ _ _=>True,fun h _=>h,fun h _=>h⟩
 | (_,_,.w _ _)=>⟨fun _ _ _=>True,fun h _=>h,fun h _=>h⟩
 | (d,_,.u)=>⟨fun _ _ a=>a.tmps.getD d undef=undef,fun h _=>h,fun h _=>h⟩
 | (d,_,.t _ _ zs _)=>⟨fun _ _ a=>∃A c,a.tmps.getD d undef=.slice A zs.length c,fun h _=>h,fun h _=>h⟩
def Sc (β:Nat→Nat) (ρ:Nat→Value) (v:Value) (id:Nat):Ob→TL
 | .var t c=>Xf β ρ (Qc9 v) t c
 | .row e t xs=>ml v e (rt t) xs
 | .tail e t xs=>Ui v e (rt t) xs
 | o=>Qp β ρ id o
def tlX (β:Nat→Nat) (ρ:Nat→Value) (acc:Got) (a:Act) (id:Nat) (ob:Ob):TL:=bif J9 (Jm acc) id then Sc β ρ (a.tmps.getD id undef) id ob else Qp β ρ id ob
def B7 (Zs:List (Nat×Ob)) (acc:Got):List Nat:=Ym Zs++Jm acc
def fX (β:Nat→Nat) (ρ:Nat→Value) (Zs:List (Nat×Ob)) (acc:Got) (E:Nat→Bool) (a:Act) (id:Nat):Option TL:=(Uy E id acc 0 (Qb Zs id)).map (tlX β ρ acc a id)
def OWx (β:Nat→Nat) (ρ:Nat→Value) (Zs:List (Nat×Ob)) (acc:Got) (E:Nat→Bool) (a:Act):List TL:=(B7 Zs acc).filterMap (fX β ρ Zs acc E a)
theorem Lt:∀{acc:Got} {t:Nat} {v:AV},A9 acc t=some v→(t,v,.v)∈acc
 | [],t,v,h=>by simp [A9] at h
 | (d,u,q)::l,t,v,h=>by
  cases q<;>simp only [A9] at h<;>cases hb:Nat.beq d t<;>rw [hb] at h
  all_goals first | exact .tail _ (Lt (acc:=l) h) | skip
  all_goals first | (cases h; done) | skip
  have:=Nat.eq_of_beq_eq_true hb
  simp at h; subst h; subst this
  exact .head _
theorem B8:∀{env:List En} {e:En},e∈Qcm env→e.cs=[]∧e∈env∧Nat.blt e.t 100000=false
 | [],e,h=>by simp [Qcm] at h
 | x::l,e,h=>by
  simp only [Qcm] at h
  cases hb:Nat.blt x.t 100000 with
  | true =>
   rw [hb] at h
   obtain ⟨h1,h2,h3⟩:=B8 (env:=l) h
   exact ⟨h1,.tail _ h2,h3⟩
  | false =>
   rw [hb] at h
   simp only [cond_false] at h
   split at h
   ·rename_i hc
    rcases List.mem_cons.1 h with rfl | h
    ·exact ⟨hc,.head _,hb⟩
    ·obtain ⟨h1,h2,h3⟩:=B8 (env:=l) h
     exact ⟨h1,.tail _ h2,h3⟩
   ·obtain ⟨h1,h2,h3⟩:=B8 (env:=l) h
    exact ⟨h1,.tail _ h2,h3⟩
theorem F0 {l0:List Oper} {i:Nat} {acc:Got} {env:List En}:∀{ts:List Nat} {e:En},e∈Qau l0 ds i acc env ts →
  e.cs=[]∧((A9 acc e.t=some e.av∧Ku l0 i (ds.idxOf e.t)=true)∨(Hp ds e.t=true∧e∈env∧Nat.blt e.t 100000=true)∨(e∈env∧Nat.blt e.t 100000=false))
 | [],e,h=>by
  obtain ⟨h1,h2,h3⟩:=B8 (by simpa [Qau] using h)
  exact ⟨h1,.inr (.inr ⟨h2,h3⟩)⟩
 | t::ts,e,h=>by
  simp only [Qau] at h
  split at h
  ·rename_i v hv
   cases hp:Ku l0 i (ds.idxOf t) with
   | true =>
    rw [hp] at h
    rcases List.mem_cons.1 h with rfl | h
    ·exact ⟨rfl,.inl ⟨hv,hp⟩⟩
    ·exact F0 h
   | false=>rw [hp] at h; exact F0 h
  ·cases hb:Hp ds t with
   | true =>
    rw [hb] at h
    simp only [cond_true] at h
    split at h
    ·rename_i t' v he
     obtain ⟨h1,h2⟩:=V6 he
     rcases List.mem_cons.1 h with rfl | h
     ·simp only at h2
      subst h2
      exact ⟨rfl,.inr (.inl ⟨hb,h1,Fp he⟩)⟩
     ·exact F0 h
    ·exact F0 h
   | false=>rw [hb] at h; exact F0 h
def B9 (a:Act) (acc:Got) (ρ:Nat→Value):Nat→Value:=Pt a (Jm acc) ρ
def Dy (a:Act) (acc:Got) (β:Nat→Nat):Nat→Nat:=B6 a (Jm acc) β
def Sd:Gk→Bool
 | .r _ _ _ _=>true
 | .t _ _ _ _=>true
 | .o _ _=>true
 | _=>false
theorem Uk {acc:Got} {d:Nat}:d∈Jm acc↔∃v q,(d,v,q)∈acc∧Sd q=true:=by
 induction acc with
 | nil=>simp [Jm]
 | cons g l ih =>
  obtain ⟨d',v',q'⟩:=g
  have key:Sd q'=false→((∃v q,(d,v,q)∈l∧Sd q=true)↔∃v q,(d,v,q)∈(d',v',q')::l∧Sd q=true):=by
   intro hq
   constructor
   ·rintro ⟨v,q,h,hn⟩; exact ⟨v,q,.tail _ h,hn⟩
   ·rintro ⟨v,q,h,hn⟩
    rcases List.mem_cons.1 h with h | h
    ·injection h with _ h; injection h with _ h; subst h; rw [hq] at hn; cases hn
    ·exact ⟨v,q,h,hn⟩
  have key2:Sd q'=true→((d=d'∨∃v q,(d,v,q)∈l∧Sd q=true)↔∃v q,(d,v,q)∈(d',v',q')::l∧Sd q=true):=by
   intro hq
   constructor
   ·rintro (rfl | ⟨v,q,h,hn⟩)
    ·exact ⟨v',q',.head _,hq⟩
    ·exact ⟨v,q,.tail _ h,hn⟩
   ·rintro ⟨v,q,h,hn⟩
    rcases List.mem_cons.1 h with h | h
    ·injection h with h _; exact .inl h
    ·exact .inr ⟨v,q,h,hn⟩
  cases q' with
  | v=>simp only [Jm,ih]; exact key rfl
  | c=>simp only [Jm,ih]; exact key rfl
  | u=>simp only [Jm,ih]; exact key rfl
  | b ns=>simp only [Jm,ih]; exact key rfl
  | w j0 b0=>simp only [Jm,ih]; exact key rfl
  | o t0 c0 =>
   show d∈d'::Jm l↔_
   rw [List.mem_cons,ih]; exact key2 rfl
  | r u0 e0 zs0 c0 =>
   show d∈d'::Jm l↔_
   rw [List.mem_cons,ih]; exact key2 rfl
  | t u0 e0 zs0 c0 =>
   show d∈d'::Jm l↔_
   rw [List.mem_cons,ih]; exact key2 rfl
theorem Vw:∀{acc:Got} {t:Nat},Wq acc t=true→∃v u e zs c,(t,v,Gk.r u e zs c)∈acc
 | [],t,h=>by simp [Wq] at h
 | (d,v,.v)::l,t,h=>let ⟨v,u,e,zs,c,h⟩:=Vw (acc:=l) h; ⟨v,u,e,zs,c,.tail _ h⟩
 | (d,v,.c)::l,t,h=>let ⟨v,u,e,zs,c,h⟩:=Vw (acc:=l) h; ⟨v,u,e,zs,c,.tail _ h⟩
 | (d,v,.u)::l,t,h=>let ⟨v,u,e,zs,c,h⟩:=Vw (acc:=l) h; ⟨v,u,e,zs,c,.tail _ h⟩
 | (d,v,.t _ _ _ _)::l,t,h=>let ⟨v,u,e,zs,c,h⟩:=Vw (acc:=l) h; ⟨v,u,e,zs,c,.tail _ h⟩
 | (d,v,.o _ _)::l,t,h=>let ⟨v,u,e,zs,c,h⟩:=Vw (acc:=l) h; ⟨v,u,e,zs,c,.tail _ h⟩
 | (d,v,.b _)::l,t,h=>let ⟨v,u,e,zs,c,h⟩:=Vw (acc:=l) h; ⟨v,u,e,zs,c,.tail _ h⟩
 | (d,v,.w _ _)::l,t,h=>let ⟨v,u,e,zs,c,h⟩:=Vw (acc:=l) h; ⟨v,u,e,zs,c,.tail _ h⟩
 | (d,v,.r u e zs c)::l,t,h=>by
  simp only [Wq,Bool.or_eq_true] at h
  rcases h with h | h
  ·rw [←Nat.eq_of_beq_eq_true h]; exact ⟨v,u,e,zs,c,.head _⟩
  ·obtain ⟨v,u,e,zs,c,h⟩:=Vw (acc:=l) h; exact ⟨v,u,e,zs,c,.tail _ h⟩
theorem Dz:∀{acc:Got} {t:Nat},B3 acc t=true→∃v ty c,(t,v,Gk.o ty c)∈acc
 | [],t,h=>by simp [B3] at h
 | (d,v,q)::l,t,h=>by
  cases q<;>simp only [B3] at h
  case o ty c =>
   simp only [Bool.or_eq_true] at h
   rcases h with h | h
   ·rw [←Nat.eq_of_beq_eq_true h]; exact ⟨v,ty,c,.head _⟩
   ·obtain ⟨v,ty,c,h⟩:=Dz (acc:=l) h; exact ⟨v,ty,c,.tail _ h⟩
  all_goals
   obtain ⟨v,ty,c,h⟩:=Dz (acc:=l) h
   exact ⟨v,ty,c,.tail _ h⟩
theorem Qda {C:Nat→Prop}:∀{n:Nat},(∀i,i<n→C i)→Qof C n
 | 0,_=>trivial
 | n+1,h=>⟨Qda fun i hi=>h i (by omega),h n (by omega)⟩
theorem Qdb {l:List Nat} {t:Nat} (h:t∉l):Hp l t=true:=by
 induction l with
 | nil=>rfl
 | cons k l ih =>
  simp only [Hp]
  cases hb:Nat.beq k t with
  | true=>exact absurd (Nat.eq_of_beq_eq_true hb▸List.mem_cons_self) h
  | false=>exact ih fun hm=>h (.tail _ hm)
theorem Ns {d:Nat}:∀{ks:List Nat},d∉Dk ks d
 | [],h=>by cases h
 | k::ks,h=>by
  simp only [Dk] at h
  cases hb:Nat.beq k d with
  | true=>rw [hb] at h; exact Ns (ks:=ks) h
  | false =>
   rw [hb] at h
   rcases List.mem_cons.1 h with rfl | h
   ·simp [Nat.beq_refl] at hb
   ·exact Ns (ks:=ks) h
section
variable {X:Cx} {β:Nat→Nat} {ρ:Nat→Value} {a0:Act} {w0:World} {acc:Got}
def Mu (X:Cx) (ds:List Nat) (a:Act):GL:=(Xs X.n a).filter fun p=>Hp ds p.1
theorem Tp {ds:List Nat} {t:Nat} (ht:t<X.n) (hn:t∉ds) (a:Act):(t,Gd.AV.v (a.tmps.getD t undef))∈Mu X ds a :=
 List.mem_filter.2 ⟨List.mem_map.2 ⟨t,List.mem_range.2 ht,rfl⟩,Qdb hn⟩
theorem Lu {ds:List Nat} {a:Act} {p:Nat×Gd.AV} (h:p∈Mu X ds a):p.1∉ds∧p.1<X.n∧p.2=.v (a.tmps.getD p.1 undef):=by
 obtain ⟨h1,h2⟩:=List.mem_filter.1 h
 obtain ⟨t,ht,rfl⟩:=List.mem_map.1 h1
 exact ⟨Bp h2,List.mem_range.1 ht,rfl⟩
theorem getD_some {l:List Nat} {i d:Nat} (h:l[i]?=some d):l.getD i 0=d:=by simp [List.getD_eq_getElem?_getD,h]
theorem C0 {l:List Nat} {i d:Nat} (hi:i<l.length) (h:l.getD i 0=d):l[i]?=some d:=by
 rw [List.getD_eq_getElem?_getD,List.getElem?_eq_getElem hi] at h
 rw [List.getElem?_eq_getElem hi]; exact congrArg some h
def Tq (P:Program) (Y:TX) (Zs:List (Nat×Ob)) (n:Nat) (l0:List Oper) (ds:List Nat) (S0:XS) (acc:Got):Prop :=
 acc.length=ds.length∧∀(i:Nat) g,acc[i]?=some g→∃o,l0[i]?=some o∧Ps P Y Zs n l0 ds S0 o i (acc.take i) g
theorem Lv {acc:Got} {i:Nat} {g:Nat×AV×Gk} (h:acc[i]?=some g):i<acc.length:=by
 rcases Nat.lt_or_ge i acc.length with q | q
 ·exact q
 ·rw [List.getElem?_eq_none q] at h; cases h
theorem Ev (hnd:ds.Nodup) (hA:Tq P Y Zs n l0 ds S0 acc) {i:Nat} {g:Nat×AV×Gk} (hg:g∈acc.take i):∃j,acc[j]?=some g∧ds[j]?=some g.1∧ds.idxOf g.1=j∧(isW g.2.2=false→okW n S0 g.1=true):=by
 obtain ⟨j,hj⟩:=List.getElem?_of_mem hg
 have hj':acc[j]?=some g:=by
  rw [List.getElem?_take] at hj
  split at hj
  ·exact hj
  ·cases hj
 obtain ⟨oj,hoj,hGj⟩:=hA.2 j _ hj'
 have hjd:j<ds.length:=by rw [←hA.1]; exact Lv hj'
 have hdj:=C0 hjd hGj.ix
 refine ⟨j,hj',hdj,?_,hGj.wr⟩
 have:=hnd.idxOf_getElem j hjd
 rw [List.getElem?_eq_getElem hjd] at hdj
 injection hdj with hdj
 rw [hdj] at this
 exact this
theorem Qp4 (hA:Tq P Y Zs n l0 ds S0 acc) (hnd:ds.Nodup):∀(i:Nat) fv,(acc.map (Qlo β ρ))[i]?=some fv→∀(a a':Act) ok w,(∀j e:Nat,(j=i∨Ku l0 i j=true)→ds[j]?=some e→a'.tmps.getD e undef=a.tmps.getD e undef)→fv.p ok w a→fv.p ok w a':=by
 intro i fv hf a a' ok w hsame hp
 rw [List.getElem?_map] at hf
 obtain ⟨g,hg,hfv⟩:=Option.map_eq_some_iff.1 hf
 obtain ⟨o,ho,hG⟩:=hA.2 i g hg
 have hd:ds[i]?=some g.1:=C0 (by rw [←hA.1]; exact Lv hg) hG.ix
 have h1:=hsame i g.1 (.inl rfl) hd
 subst hfv
 obtain ⟨d,v,q⟩:=g
 cases q with
 | v=>obtain ⟨cs,h2,h3⟩:=hp; exact ⟨cs,h1.trans h2,h3⟩
 | r u e zs c=>obtain ⟨b,c',h2⟩:=hp; exact ⟨b,c',h1.trans h2⟩
 | o t c=>obtain ⟨b,h2⟩:=hp; exact ⟨b,h1.trans h2⟩
 | b ns =>
  obtain ⟨cs,h2,h3⟩:=hp
  obtain ⟨_,hns,_⟩:=hG.fnd
  have hcg:=Dw (a:=a) (a':=a') (l:=ns) (β:=β) (ρ:=ρ) fun t ht=>by
   obtain ⟨c1,c2⟩:=hns t ht
   obtain ⟨v',u,e,zs,c,hm⟩:=Vw c1
   obtain ⟨j,hj,hdj,hix,_⟩:=Ev hnd hA hm
   simp only at hix hdj
   rw [hix] at c2
   exact hsame j t (.inr c2) hdj
  exact ⟨cs,h1.trans h2,by rw [hcg.1,hcg.2]; exact h3⟩
 | t u e zs c=>obtain ⟨b,c',h2⟩:=hp; exact ⟨b,c',h1.trans h2⟩
 | u=>exact h1.trans hp
 | w id ob=>trivial
 | c =>
  obtain ⟨t,rfl,c1,c2,c3⟩:=hG.fnd
  obtain ⟨v',u,e,zs,c,hm⟩:=Vw c1
  obtain ⟨j,hj,hdj,hix,_⟩:=Ev hnd hA hm
  simp only at hix hdj
  rw [hix] at c2
  have h2:=hsame j t (.inr c2) hdj
  have hp':a.tmps.getD d undef=a.tmps.getD t undef:=hp
  show a'.tmps.getD d undef=a'.tmps.getD t undef
  rw [h2,←hp']; exact h1
theorem Qa9 {ops:Array Oper} {o:Oper} {a:Act} {N:Nat} (hs:a.tmps.size=N) (hw:Region.wanted o (yielded ops a.tmps)=true):Ka ops (Xs N a) o=some true:=by
 unfold Ka
 unfold Region.wanted at hw
 split
 ·rfl
 ·rename_i j want hg
  rw [hg] at hw
  simp only [beq_iff_eq] at hw
  unfold yielded at hw
  split
  ·rename_i p hp
   rw [hp] at hw
   split
   ·rename_i t ht
    simp only [Option.bind_some,ht] at hw
    split at hw
    ·rename_i b hb
     simp at hw; subst hw
     have hlt:t<N:=by
      rw [←hs]
      rcases Nat.lt_or_ge t a.tmps.size with h1 | h1
      ·exact h1
      ·rw [Array.getElem?_eq_none h1] at hb; cases hb
     have e:Jo (Xs N a) t=some (.v (a.tmps.getD t undef)):=by
      simp only [Xs]
      rw [Cu (f:=fun t=>Gd.AV.v (a.tmps.getD t undef)) (List.mem_range.2 hlt)]
     rw [e]
     simp [Array.getD_eq_getD_getElem?,hb]
    ·cases hw
   ·rename_i ht
    simp [ht] at hw
  ·rename_i hp
   simp [hp] at hw
theorem Ca:∀{acc:Got} {t:Nat},Co acc t=true→∃v,(t,v,.u)∈acc
 | [],t,h=>by simp [Co] at h
 | (d,v,q)::l,t,h=>by
  cases q<;>simp only [Co] at h
  case u =>
   simp only [Bool.or_eq_true] at h
   rcases h with h | h
   ·rw [←Nat.eq_of_beq_eq_true h]; exact ⟨v,.head _⟩
   ·obtain ⟨v',h'⟩:=Ca (acc:=l) h; exact ⟨v',.tail _ h'⟩
  all_goals
   cases hb:Nat.beq d t<;>rw [hb] at h
   ·obtain ⟨v',h'⟩:=Ca (acc:=l) h; exact ⟨v',.tail _ h'⟩
   ·cases h
theorem Qlp (hT:Qy P Y.T) {X:Cx} {β:Nat→Nat} {G:GL} {D:List DF} {O2:List TL} {a:Act} {w:World} {ops:Array Oper} {Q:Exit→Act→World→Prop} {rest:List Oper} {u:Ty} {A:Option Addr} {m c:Nat} {e:TypeId} {xs ys zs:List u.De}
  (h:Sb β X G D [] (Ui (.slice A m c) e (rt u) xs::O2) a w) {t:TypeId} {s x:Operand} {d:Nat} {ps:String} {af:Array Edge} {ty:TypeId} {gd:Option (Nat×Bool)}
  (hg:Ka ops G ⟨some d,.call ⟨.builtin .append,⟨[s,x]⟩,⟨[t,t]⟩⟩,ty,ps,af,gd⟩=some true) (hlt:okD X d=true) {te ee:TE} (hte:Qe Y.T t=some te) (htd:te.d=.slice e) (he:Qe Y.T e=some ee) (hsz:Nat.beq ee.size u.size=true)
  (hpos:Nat.ble 1 ee.size=true) (hby:Nat.ble 1 ee.bytes=true) (hzl:Nat.beq (Qh ee.z).length ee.size=true) {A2:Option Addr} {m2 c2:Nat} (hs1:gv G s=some (.v (.slice A m c))) (hx1:gv G x=some (.v (.slice A2 m2 c2)))
  (hDy:isV (rSl (rt u)) (Q5 X.ok X.w.heap.size β [] (Ui (.slice A m c) e (rt u) xs::O2) w) w ys (.slice A2 m2 c2)) (happ:app ee.bytes xs ys=some zs)
  (hk:∀A' c' a' w',Sb β X (Zi G d (.v (.slice A' zs.length c'))) D [] (Ui (.slice A' zs.length c') e (rt u) zs::O2) a' w'→wpList P ops Q rest a' w') :
  wpList P ops Q (⟨some d,.call ⟨.builtin .append,⟨[s,x]⟩,⟨[t,t]⟩⟩,ty,ps,af,gd⟩::rest) a w:=by
 have hes:ee.size=(rt u).size:=by rw [Jh]; exact Nat.eq_of_beq_eq_true hsz
 have hxv:isV (rSl (rt u)) (Q5 X.ok X.w.heap.size β [] (Ui (.slice A m c) e (rt u) xs::O2) w) w xs (.slice A m c):=(h.own _ (.head _)).1.1
 have hsim:V2 (Ui (.slice A m c) e (rt u) xs::O2) (tl (.slice A m c) e ee.size::O2) :=
  .cons ⟨fun _=>Iff.rfl,fun _ _=>by rw [hes]; exact Iff.rfl,fun _ _ hp=>by rw [hes]; exact hp.2⟩ (V2.refl _)
 have hG2:=Sb.simO h hsim
 have hok:∀b o,Q5 X.ok X.w.heap.size β [] (Ui (.slice A m c) e (rt u) xs::O2) w b o→Q5 X.ok X.w.heap.size β [] (tl (.slice A m c) e ee.size::O2) w b o:=hsim.ok
 have hG3:=hG2.addD (d:=DF.v (rSl (rt u)) xs (.slice A m c)) (hxv.weak hok)
 refine L9 hT hG3 0 0 [] O2 (r:=rt u) hg hlt hte htd he hes hzl hpos hby rfl hs1 hx1 rfl (hDy.weak hok) happ fun A' c' a' w' hv' hS=>hk A' c' a' w' ?_
 simp only [List.nil_append] at hS hv'
 have hS1:Sb β X (Zi G d (.v (.slice A' zs.length c'))) D [] (tl (.slice A' zs.length c') e ee.size::O2) a' w':={ hS with dat:=hS.dat.2 }
 have hpw:=List.pairwise_cons.1 hS1.dOO
 refine Sb.remake hS1 (fun t' ht'=>?_) ?_
 ·rcases List.mem_cons.1 ht' with rfl | ht'
  ·refine .inl ⟨tl (.slice A' zs.length c') e ee.size,.head _,fun _ hg=>hg,fun _ _ hc=>by rw [hes]; exact hc,hv',?_⟩
   have:=(hS1.own (tl (.slice A' zs.length c') e ee.size) (.head _)).1
   rw [hes] at this
   exact this
  ·exact .inl ⟨t',.tail _ ht',fun _ hg=>hg,fun _ _ hc=>hc,(hS1.own t' (.tail _ ht')).1⟩
 ·exact List.pairwise_cons.2 ⟨fun t ht=>hpw.1 t ht,hpw.2⟩
end
end
end Gx

/- Objects of an open region. -/
namespace Gx
open Go Go.RowKit Gd
set_option linter.unusedVariables false
set_option linter.unusedSimpArgs false
theorem Qba {id d:Nat} {q:Gk} {c:Option Ob} (h:J4 id d q=false):H0 id d q c=c:=by
 cases q<;>simp only [J4,Bool.or_eq_false_iff] at h<;>simp only [H0]
 ·rw [h]; rfl
 ·rw [h.1,h.2]; rfl
 ·rw [h]; rfl
 ·rw [h]; rfl
theorem Ew {E:Nat→Bool} {id:Nat}:∀{l1 l2:Got} {j:Nat} {c:Option Ob},Uy E id (l1++l2) j c=Uy E id l2 (j+l1.length) (Uy E id l1 j c)
 | [],l2,j,c=>rfl
 | (d,v,q)::l1,l2,j,c=>by
  simp only [List.cons_append,Uy,Ew (l1:=l1),List.length_cons]
  rw [show j+1+l1.length=j+(l1.length+1) by omega]
theorem H7 {E E':Nat→Bool} {id:Nat}:∀{l:Got} {j:Nat} {c:Option Ob},(∀k g,l[k]?=some g→J4 id g.1 g.2.2=true→E (j+k)=E' (j+k))→Uy E id l j c=Uy E' id l j c
 | [],j,c,_=>rfl
 | (d,v,q)::l,j,c,h=>by
  simp only [Uy]
  have e:(bif E j then H0 id d q c else c)=(bif E' j then H0 id d q c else c):=by
   cases ht:J4 id d q with
   | true=>rw [show E j=E' j from h 0 _ rfl ht]
   | false=>rw [Qba ht]; cases E j<;>cases E' j<;>rfl
  rw [e]
  exact H7 fun k g hk ht=>by
   have:=h (k+1) g (by simpa using hk) ht
   rw [show j+1+k=j+(k+1) by omega]; exact this
theorem Hi {E:Nat→Bool} {id:Nat}:∀{l:Got} {j:Nat} {c:Option Ob},(∀k g,l[k]?=some g→J4 id g.1 g.2.2=true→E (j+k)=false)→Uy E id l j c=c
 | [],j,c,_=>rfl
 | (d,v,q)::l,j,c,h=>by
  simp only [Uy]
  have e:(bif E j then H0 id d q c else c)=c:=by
   cases ht:J4 id d q with
   | true=>rw [show E j=false from h 0 _ rfl ht]; rfl
   | false=>rw [Qba ht]; cases E j<;>rfl
  rw [e]
  exact Hi fun k g hk ht=>by
   have:=h (k+1) g (by simpa using hk) ht
   rw [show j+1+k=j+(k+1) by omega]; exact this
abbrev Zh (E:Nat→Bool) (i:Nat):Nat→Bool:=fun j=>j==i||E j
theorem Tt {acc:Got} {i:Nat} {g:Nat×AV×Gk} (hg:acc[i]?=some g):acc=acc.take i++g::acc.drop (i+1)∧(acc.take i).length=i:=by
 have hi:i<acc.length:=Lv hg
 rw [List.getElem?_eq_getElem hi] at hg
 injection hg with hg
 refine ⟨?_,by rw [List.length_take]; omega⟩
 rw [←hg,←List.drop_eq_getElem_cons hi,List.take_append_drop]
section
variable {E:Nat→Bool} {acc:Got} {i id:Nat} {g:Nat×AV×Gk} {c:Option Ob}
theorem I0 (hg:acc[i]?=some g) (hi:E i=false) (he:∀j g',acc[j]?=some g'→j<i→J4 id g'.1 g'.2.2=true→E j=true) (hl:∀j g',acc[j]?=some g'→i<j→J4 id g'.1 g'.2.2=true→E j=false) :
  Uy E id acc 0 c=Uy Us id (acc.take i) 0 c:=by
 obtain ⟨e1,e2⟩:=Tt hg
 have e3:Uy E id acc 0 c=Uy E id (acc.take i++g::acc.drop (i+1)) 0 c:=by rw [←e1]
 rw [e3,Ew,e2,Nat.zero_add]
 obtain ⟨d,v,q⟩:=g
 simp only [Uy,hi,cond_false]
 rw [Hi fun k g' hk ht=>hl (i+1+k) g' (by rw [List.getElem?_drop] at hk; exact hk) (by omega) ht]
 refine H7 fun k g' hk ht=>?_
 rw [List.getElem?_take] at hk
 split at hk
 ·rw [Nat.zero_add,he k g' hk (by omega) ht]; rfl
 ·cases hk
theorem Cb (hg:acc[i]?=some g) (hi:E i=false) (hl:∀j g',acc[j]?=some g'→i<j→J4 id g'.1 g'.2.2=true→E j=false) :
  Uy (Zh E i) id acc 0 c=H0 id g.1 g.2.2 (Uy E id acc 0 c):=by
 obtain ⟨e1,e2⟩:=Tt hg
 have e3:∀E,Uy E id acc 0 c=Uy E id (acc.take i++g::acc.drop (i+1)) 0 c:=fun E=>by rw [←e1]
 rw [e3,e3,Ew,Ew,e2,Nat.zero_add]
 obtain ⟨d,v,q⟩:=g
 simp only [Uy,hi,cond_false,BEq.rfl,Bool.true_or,cond_true]
 have h1:Uy (Zh E i) id (acc.take i) 0 c=Uy E id (acc.take i) 0 c:=H7 fun k g' hk ht=>by
  have:k<i:=by have:=Lv hk; omega
  simp only [Zh,Nat.zero_add]
  rw [show (k==i)=false by simp; omega]; rfl
 have h2:∀c',Uy (Zh E i) id (acc.drop (i+1)) (i+1) c'=c':=fun c'=>Hi fun k g' hk ht=>by
  simp only [Zh]
  rw [show (i+1+k==i)=false by simp; omega]
  exact hl (i+1+k) g' (by rw [List.getElem?_drop] at hk; exact hk) (by omega) ht
 have h3:∀c',Uy E id (acc.drop (i+1)) (i+1) c'=c':=fun c'=>Hi fun k g' hk ht=>hl (i+1+k) g' (by rw [List.getElem?_drop] at hk; exact hk) (by omega) ht
 rw [h2,h3,h1]
 simp only [Zh,BEq.rfl,Bool.true_or,cond_true]
theorem Qp5 (hg:acc[i]?=some g) (ht:J4 id g.1 g.2.2=false):Uy (Zh E i) id acc 0 c=Uy E id acc 0 c :=
 H7 fun k g' hk ht'=>by
  rw [Nat.zero_add]
  by_cases e:k=i
  ·subst e
   rw [hg] at hk; injection hk with hk; subst hk
   rw [ht] at ht'; cases ht'
  ·simp only [Zh]
   rw [show (k==i)=false by simp; omega]; rfl
end
theorem K5 {α β:Type} {f f':α→Option β} {x0:α}:∀{l:List α},l.Nodup→x0∈l→(∀j∈l,j≠x0→f' j=f j)→∃rest,(l.filterMap f).Perm ((f x0).toList++rest)∧(l.filterMap f').Perm ((f' x0).toList++rest)
 | y::ys,hn,hi,h=>by
  have hn':=List.nodup_cons.1 hn
  rcases List.mem_cons.1 hi with rfl | hi
  ·have:ys.filterMap f'=ys.filterMap f:=Yb fun j hj=>h j (.tail _ hj) fun e=>hn'.1 (e▸hj)
   refine ⟨ys.filterMap f,?_,?_⟩
   ·simp only [List.filterMap_cons]
    cases f x0<;>exact List.Perm.refl _
   ·simp only [List.filterMap_cons,this]
    cases f' x0<;>exact List.Perm.refl _
  ·have hy:y≠x0:=fun e=>hn'.1 (e▸hi)
   obtain ⟨rest,h1,h2⟩:=K5 hn'.2 hi fun j hj=>h j (.tail _ hj)
   simp only [List.filterMap_cons,h y (.head _) hy]
   cases f y with
   | none=>exact ⟨rest,h1,h2⟩
   | some z=>exact ⟨z::rest,(List.Perm.cons z h1).trans List.perm_middle.symm,(List.Perm.cons z h2).trans List.perm_middle.symm⟩
theorem Se {α β:Type} [DecidableEq α] {f:α→Option β} {x y:α} {l:List α} (hn:l.Nodup) (hx:x∈l) (hy:y∈l) (hxy:x≠y) (hfy:f y=none) :
  ∃rest,(l.filterMap f).Perm ((f x).toList++rest)∧∀f':α→Option β,f' x=none→(∀j∈l,j≠x→j≠y→f' j=f j)→(l.filterMap f').Perm ((f' y).toList++rest):=by
 obtain ⟨r1,p1,p2⟩:=K5 (f:=f) (f':=fun z=>if z=x then none else f z) hn hx fun j _ hj=>if_neg hj
 refine ⟨r1,p1,fun f' hfx h=>?_⟩
 obtain ⟨r2,p3,p4⟩:=K5 (f:=fun z=>if z=x then none else f z) (f':=f') hn hy fun j hj hjy=>by
  by_cases e:j=x
  ·rw [e,if_pos rfl,hfx]
  ·rw [if_neg e,h j hj e hjy]
 rw [if_pos rfl] at p2
 rw [if_neg (Ne.symm hxy),hfy] at p3
 exact p4.trans (List.Perm.append_left _ (p3.symm.trans p2))
section
variable {β:Nat→Nat} {ρ:Nat→Value} {Zs:List (Nat×Ob)} {acc:Got} {E:Nat→Bool} {a a':Act} {i:Nat} {g:Nat×AV×Gk}
theorem W9 {l:List Nat} {t:Nat} (h:t∈l):J9 l t=true:=by
 induction l with
 | nil=>cases h
 | cons k l ih =>
  simp only [J9,Bool.or_eq_true]
  rcases List.mem_cons.1 h with rfl | h
  ·exact .inl (Nat.beq_refl _)
  ·exact .inr (ih h)
theorem Nt {ds:List Nat} (hds:ds=acc.map (·.1)) (hnd:ds.Nodup) (hg:acc[i]?=some g) (hgd:∀(j e:Nat),j≠i→ds[j]?=some e→a'.tmps.getD e undef=a.tmps.getD e undef) {id:Nat} (ht:J4 id g.1 g.2.2=false) :
  fX β ρ Zs acc (Zh E i) a' id=fX β ρ Zs acc E a id:=by
 unfold fX
 rw [Qp5 hg ht]
 cases hm:J9 (Jm acc) id with
 | false =>
  congr 1; funext ob; simp only [tlX,hm,cond_false]
 | true =>
  obtain ⟨v,q,hmem,hq⟩:=Uk.1 (Ke hm)
  obtain ⟨j,hj⟩:=List.getElem?_of_mem hmem
  have hji:j≠i:=fun e=>by
   subst e
   rw [hg] at hj; injection hj with hj; subst hj
   cases q<;>simp [Sd] at hq<;>simp [J4,Nat.beq_refl] at ht
  have:=hgd j id hji (by rw [hds,List.getElem?_map,hj]; rfl)
  congr 1; funext ob; simp only [tlX,hm,cond_true,this]
theorem Nu {ds:List Nat} (hds:ds=acc.map (·.1)) (hnd:ds.Nodup) (hg:acc[i]?=some g) (hgd:∀(j e:Nat),j≠i→ds[j]?=some e→a'.tmps.getD e undef=a.tmps.getD e undef) (ht:∀id,J4 id g.1 g.2.2=false) :
  OWx β ρ Zs acc (Zh E i) a'=OWx β ρ Zs acc E a:=Yb fun id _=>Nt hds hnd hg hgd (ht id)
end
theorem Qbb {l0:List Oper} {i id:Nat}:∀{acc:Got} {j k:Nat} {g:Nat×AV×Gk},Nd l0 i id acc j=true→acc[k]?=some g→J4 id g.1 g.2.2=true→Zj l0 l0.length i (j+k)=true
 | [],j,k,g,_,hk,_=>by simp at hk
 | (d,v,q)::l,j,k,g,h,hk,ht=>by
  simp only [Nd,Bool.and_eq_true,Bool.or_eq_true,Bool.not_eq_true'] at h
  cases k with
  | zero =>
   simp at hk; subst hk
   rcases h.1 with h1 | h1
   ·rw [h1] at ht; cases ht
   ·exact h1
  | succ k =>
   have:=Qbb h.2 (by simpa using hk) ht
   rw [show j+(k+1)=j+1+k by omega]; exact this
theorem Pv {id:Nat}:∀{acc:Got} {k:Nat} {g:Nat×AV×Gk},G7 id acc=true→acc[k]?=some g→J4 id g.1 g.2.2=false
 | [],k,g,_,hk=>by simp at hk
 | (d,v,q)::l,k,g,h,hk=>by
  simp only [G7,Bool.and_eq_true,Bool.not_eq_true'] at h
  cases k with
  | zero=>simp at hk; subst hk; exact h.1
  | succ k=>exact Pv h.2 (by simpa using hk)
theorem Nv {l0:List Oper} {i id:Nat}:∀{acc:Got} {j:Nat},G7 id acc=true→Nd l0 i id acc j=true
 | [],_,_=>rfl
 | (d,v,q)::l,j,h=>by
  simp only [G7,Bool.and_eq_true,Bool.not_eq_true'] at h
  simp only [Nd,h.1,Bool.not_false,Bool.true_or,Bool.true_and]
  exact Nv h.2
section
variable {P:Program} {Y:TX} {Zs:List (Nat×Ob)} {n:Nat} {l0:List Oper} {ds:List Nat} {S0:XS} {o:Oper} {i:Nat} {acc:Got} {g:Nat×AV×Gk} {id:Nat}
theorem I1 {ob:Ob} (h:Qkz l0 Zs i acc id=some ob):Nd l0 i id acc 0=true∧Uy Us id acc 0 (Qb Zs id)=some ob:=by
 unfold Qkz at h
 exact bvT h
theorem Qi0 {ob:Ob} (h:Qtt l0 Zs i acc id=some ob):Zk (Qb Zs id)=true∧Nd l0 i id acc 0=true∧Uy Us id acc 0 (Qb Zs id)=some ob:=by
 unfold Qtt at h
 obtain ⟨h1,h2⟩:=bvT h
 exact ⟨h1,I1 h2⟩
theorem Wv {d:Nat} (h:okZ Zs S0 d acc=true):okB S0 d=true∧Qv d Zs=true∧G7 d acc=true:=by
 unfold okZ at h
 simp only [Bool.and_eq_true] at h
 exact ⟨h.1.1,h.1.2,h.2⟩
theorem Q9t (hG:Ps P Y Zs n l0 ds S0 o i acc g) (ht:J4 id g.1 g.2.2=true):Nd l0 i id acc 0=true:=by
 obtain ⟨d,v,q⟩:=g
 have hf:=hG.fnd
 cases q with
 | v=>cases ht
 | u=>cases ht
 | c=>cases ht
 | b ns=>cases ht
 | r u e zs c =>
  have:=Nat.eq_of_beq_eq_true (show Nat.beq d id=true from ht)
  subst this
  exact Nv (Wv hf.2.1).2.2
 | o t c =>
  have:=Nat.eq_of_beq_eq_true (show Nat.beq d id=true from ht)
  subst this
  exact Nv (Wv hf.2.1).2.2
 | t u e zs h =>
  have ht':(Nat.beq d id||Nat.beq h id)=true:=ht
  simp only [Bool.or_eq_true] at ht'
  rcases ht' with h1 | h1
  ·rw [←Nat.eq_of_beq_eq_true h1]
   exact Nv (Wv hf.2.1).2.2
  ·rw [←Nat.eq_of_beq_eq_true h1]
   obtain ⟨_,_,_,_,_,_,_,_,_,hC,_⟩:=hf.2.2
   exact (Qi0 hC).2.1
 | w j ob =>
  have:=Nat.eq_of_beq_eq_true (show Nat.beq j id=true from ht)
  subst this
  obtain ⟨_,_,_,_,_,_,_,_,_,_,_,hc⟩:=hf
  rcases hc with ⟨_,_,_,_,hc,_⟩ | ⟨_,_,_,_,_,_,_,_,_,_,hc,_⟩
  ·exact (I1 hc).1
  ·exact (I1 hc).1
theorem Ey {d:Nat}:∀{M:List (Nat×Ob)},Qv d M=true→Qb M d=none∧d∉Ym M
 | [],_=>⟨rfl,by simp [Ym]⟩
 | (k,ob)::l,h=>by
  have h':Nat.beq k d=false∧Qv d l=true:=by
   cases ob with
   | mapT k v path e u xs hole =>
    cases hole<;>simp only [Qv,Bool.and_eq_true,Bool.not_eq_true'] at h
    ·exact ⟨h.1,h.2⟩
    ·exact ⟨h.1.1,h.2⟩
   | mapO k9 xs9 hole =>
    cases hole<;>simp only [Qv,Mj,Bool.and_true,Bool.and_eq_true,Bool.not_eq_true'] at h
    ·exact ⟨h.1,h.2⟩
    ·exact ⟨h.1.1,h.2⟩
   | _ =>
    simp only [Qv,Bool.and_eq_true,Bool.not_eq_true'] at h
    first | exact ⟨h.1,h.2⟩ | exact ⟨h.1.1,h.2⟩
  obtain ⟨h1,h2⟩:=Ey h'.2
  refine ⟨by simp only [Qb,h'.1,cond_false]; exact h1,fun hm=>?_⟩
  rcases List.mem_cons.1 (show d∈k::Ym l from hm) with rfl | hm
  ·simp [Nat.beq_refl] at h'
  ·exact h2 hm
theorem Kx:∀{M:List (Nat×Ob)} {id:Nat},Zk (Qb M id)=true→id∈Ym M
 | [],id,h=>by simp [Qb,Zk] at h
 | (k,ob)::l,id,h=>by
  simp only [Qb] at h
  cases hb:Nat.beq k id with
  | true=>rw [Nat.eq_of_beq_eq_true hb]; exact .head _
  | false=>rw [hb] at h; exact .tail _ (Kx h)
end
end Gx

/- One operation of an open region. -/
namespace Gx
open Go Go.RowKit Gd
set_option linter.unusedVariables false
set_option linter.unusedSimpArgs false
theorem Pw {a b:Nat} (h:a≠b):Nat.beq a b=false:=by
 cases hb:Nat.beq a b with
 | true=>exact absurd (Nat.eq_of_beq_eq_true hb) h
 | false=>rfl
theorem Qp6 {l0:List Oper} {p i:Nat} {acc:Got} {Zs:List (Nat×Ob)} {id:Nat} {ob:Ob} (h:(id,ob)∈Qpb l0 p i acc Zs) :
  Qiq l0 p i=true∧Nd l0 i id acc 0=true∧id∈Ym Zs∧Uy Us id acc 0 (Qb Zs id)=some ob:=by
 unfold Qpb at h
 split at h
 ·cases h
 ·rename_i hZ
  cases hl:Qiq l0 p i with
  | false=>rw [hl] at h; cases h
  | true =>
   rw [hl] at h
   simp only [cond_true] at h
   obtain ⟨q,hq,hf⟩:=List.mem_filterMap.1 h
   obtain ⟨hb,hf⟩:=bvT hf
   split at hf
   ·rename_i ob' hc
    injection hf with hf
    injection hf with h1 h2
    subst h1; subst h2
    exact ⟨rfl,hb,List.mem_map.2 ⟨q,hq,rfl⟩,hc⟩
   ·cases hf
theorem Qp7 {l0:List Oper} {p i k:Nat} {o:Oper} (h:Qiq l0 p i=true) (hk:k<p) (hi:i<k) (ho:l0[k]?=some o) (hm:Qpa o=true):Zj l0 l0.length k i=true:=by
 have:=List.all_eq_true.1 h k (List.mem_range.2 hk)
 rw [ho] at this
 simp only [hm,Bool.not_true,Bool.or_false,Bool.or_eq_true] at this
 rcases this with h1 | h1
 ·have:=Nat.le_of_ble_eq_true h1; omega
 ·exact h1
section
variable {P:Program} {Y:TX} {Zs:List (Nat×Ob)} {n:Nat} {l0:List Oper} {ds:List Nat} {S0:XS} {R:Type} {r:R}
theorem Quc {o:Oper} {i:Nat} {acc:Got} {g:Nat×AV×Gk} {id:Nat} (hG:Ps P Y Zs n l0 ds S0 o i acc g) (ht:J4 id g.1 g.2.2=true) (hne:Sd g.2.2=true→g.1≠id):Qpa o=true:=by
 obtain ⟨d,v,q⟩:=g
 have hf:=hG.fnd
 cases q with
 | v=>cases ht
 | u=>cases ht
 | c=>cases ht
 | b ns=>cases ht
 | r u e zs c=>exact absurd (Nat.eq_of_beq_eq_true (show Nat.beq d id=true from ht)) (hne rfl)
 | o t c=>exact absurd (Nat.eq_of_beq_eq_true (show Nat.beq d id=true from ht)) (hne rfl)
 | t u e zs h =>
  obtain ⟨t,s,x,_,_,_,_,_,hop,_⟩:=hf.2.2
  unfold Qpa
  rw [hG.dst rfl,hop]
 | w j ob =>
  unfold Qpa
  rw [(hG.ndst rfl).1]
section
variable {X:Cx} {β:Nat→Nat} {ρ:Nat→Value} {a0:Act} {w0:World} {acc:Got}
theorem Tu {E:Nat→Bool} {i gt:Nat} {g:Nat×AV×Gk} (hg:acc[i]?=some g) (hi:E i=false) (hz:okB S0 gt=true∧Qv gt Zs=true∧G7 gt (acc.take i)=true)
  (hl:∀j g',acc[j]?=some g'→i<j→J4 gt g'.1 g'.2.2=true→E j=false):Uy E gt acc 0 (Qb Zs gt)=none:=by
 rw [Hi fun k g' hk ht=>?_]
 ·exact (Ey hz.2.1).1
 ·rw [Nat.zero_add]
  rcases Nat.lt_trichotomy k i with h1 | h1 | h1
  ·have:=Pv hz.2.2 (k:=k) (g:=g') (by rw [List.getElem?_take,if_pos h1]; exact hk)
   rw [this] at ht; cases ht
  ·rw [h1]; exact hi
  ·exact hl k g' hk h1 ht
theorem Qbc {E:Nat→Bool} {a a':Act} {i gt:Nat} {v:AV} {q:Gk} {Ox:List TL} {ob:Ob} {t:TL} (hdsE:ds=acc.map (·.1)) (hN:(B7 Zs acc).Nodup) (hnd:ds.Nodup) (hg:acc[i]?=some (gt,v,q)) (hq:Sd q=true) (hi:E i=false)
  (hz:okB S0 gt=true∧Qv gt Zs=true∧G7 gt (acc.take i)=true) (ht:∀id,gt≠id→J4 id gt q=false) (hl:∀j g',acc[j]?=some g'→i<j→J4 gt g'.1 g'.2.2=true→E j=false)
  (_hr:True=True) (hOX:Ox.Perm (OWx β ρ Zs acc E a)) (hgd:∀(j e:Nat),j≠i→ds[j]?=some e→a'.tmps.getD e undef=a.tmps.getD e undef) (hc:H0 gt gt q none=some ob) (htl:Sc β ρ (a'.tmps.getD gt undef) gt ob=t) :
  (OWx β ρ Zs acc (Zh E i) a').Perm (t::Ox):=by
 have hgr:gt∈Jm acc:=Uk.2 ⟨_,_,List.mem_of_getElem? hg,hq⟩
 have hcg:Uy E gt acc 0 (Qb Zs gt)=none:=Tu hg hi hz hl
 obtain ⟨rest,p1,p2⟩:=K5 (f:=fX β ρ Zs acc E a) (f':=fX β ρ Zs acc (Zh E i) a') hN (List.mem_append_right _ hgr) fun j _ hj=>Nt hdsE hnd hg hgd (ht j (Ne.symm hj))
 simp only [fX,hcg,Option.map_none,Option.toList_none,List.nil_append] at p1
 refine p2.trans ?_
 simp only [fX]
 rw [Cb hg hi hl,hcg]
 simp only [hc,Option.map_some,Option.toList_some,tlX,W9 hgr,cond_true,htl]
 exact List.Perm.cons _ (hOX.trans p1).symm
theorem Qp8 (hT:Qy P Y.T) (hG0:Vf Y.gl (okN X) X.w) (hX:X.n=n) (hr:X.res=[]) (h:Rel X β ρ S0.flat a0 w0) (hnd:ds.Nodup) (hA:Tq P Y Zs n l0 ds S0 acc) (hdsE:ds=acc.map (·.1)) (hN:(B7 Zs acc).Nodup) (hZf:∀d∈Jm acc,d∉Ym Zs) (i:Nat) :
  Qiy (OWx β ρ Zs acc) (fun _=>0) P l0 X (Mu X ds a0) (S0.flat.env.map (enD β ρ a0)) [] (Qc β ρ S0.flat.mem) ds (acc.map (Qlo β ρ)) i:=by
 unfold Qiy
 split
 ·rename_i d fv o hd hf ho
  rw [List.getElem?_map] at hf
  obtain ⟨g,hg,hfv⟩:=Option.map_eq_some_iff.1 hf
  obtain ⟨o',ho',hG⟩:=hA.2 i g hg
  rw [ho] at ho'; injection ho' with ho'; subst ho'
  have hgd:g.1=d:=by rw [←hG.ix]; exact getD_some hd
  subst hgd
  intro E β1 a w dX Ox Q hcl hEi hpre hS hOX hpred hend
  have hlateB:∀k,Zj l0 l0.length k i=true→E k=false:=fun k hb=>by
   cases hE:E k with
   | false=>rfl
   | true =>
    have:E i=true:=K0 hcl l0.length k i hb fun o' ho' e he hb'=>hcl k o' hE ho' e he hb'
    rw [hEi] at this; cases this
  have hearly:∀{id:Nat},Nd l0 i id (acc.take i) 0=true→∀j g',acc[j]?=some g'→j<i→J4 id g'.1 g'.2.2=true→E j=true:=fun hb j g' hj hji ht=>by
   have h1:=Qbb hb (k:=j) (g:=g') (by rw [List.getElem?_take,if_pos hji]; exact hj) ht
   rw [Nat.zero_add] at h1
   exact K0 hcl l0.length i j h1 fun o' ho' e he hb'=>by rw [ho] at ho'; injection ho' with ho'; subst ho'; exact hpre e he hb'
  have hlate:∀{id:Nat},J4 id g.1 g.2.2=true→∀j g',acc[j]?=some g'→i<j→J4 id g'.1 g'.2.2=true→E j=false:=fun hti j g' hj hij ht=>by
   obtain ⟨oj,_,hGj⟩:=hA.2 j g' hj
   have h1:=Qbb (Q9t hGj ht) (k:=i) (g:=g) (by rw [List.getElem?_take,if_pos hij]; exact hg) hti
   rw [Nat.zero_add] at h1
   exact hlateB j h1
  have hsz0:a.tmps.size=X.n:=hS.sz
  have hdin:g.1∈ds:=List.mem_of_getElem? hd
  have hwant:Region.wanted o (yielded ⟨l0⟩ a.tmps)=Q9s g.2.2:=by
   have hgd:=hG.gd
   unfold Oy at hgd
   split at hgd
   ·cases hgd
   ·rename_i hgt
    injection hgd with hgd
    rw [←hgd]; exact Ua (Wt hgt) _
   ·rename_i t want hgt
    obtain ⟨hp,hgd⟩:=bvT hgd
    have hiff:=Vv (a:=a) hgt
    split at hgd
    ·rename_i b hlk
     injection hgd with hgd
     obtain ⟨j,hj',hdj,hix,hwr⟩:=Ev hnd hA (Lt hlk)
     simp only at hix hdj
     rw [hix] at hp
     obtain ⟨cs,q1,q2⟩:=hpred j _ hp (by rw [List.getElem?_map,hj']; rfl)
     have hlt:t<a.tmps.size:=by rw [hsz0]; exact Kl (J7 (hwr rfl) hX hr).1
     have q2':cs=[.bool b]:=q2
     subst q2'
     have q3:a.tmps[t]?=some (.bool b):=by
      have:a.tmps.getD t undef=.bool b:=q1
      rw [←this]; simp [Array.getD_eq_getD_getElem?,hlt]
     rw [←hgd]
     cases hw:Region.wanted o (yielded ⟨l0⟩ a.tmps) with
     | true =>
      have:=hiff.1 hw
      rw [q3] at this
      injection this with this
      injection this with this
      subst this; simp
     | false =>
      cases hbw:(b==want) with
      | false=>rfl
      | true =>
       have:b=want:=by simpa using hbw
       subst this
       rw [hiff.2 q3] at hw; cases hw
    ·cases hgd
    ·obtain ⟨hsk,hgd⟩:=bvT hgd
     injection hgd with hgd
     rw [←hgd]
     obtain ⟨v',hm⟩:=Ca hsk
     obtain ⟨j,hj',hdj,hix,hwr⟩:=Ev hnd hA hm
     simp only at hix hdj
     rw [hix] at hp
     have q1:=hpred j _ hp (by rw [List.getElem?_map,hj']; rfl)
     have q1':a.tmps.getD t undef=undef:=q1
     cases hw:Region.wanted o (yielded ⟨l0⟩ a.tmps) with
     | false=>rfl
     | true =>
      have:=hiff.1 hw
      rw [Array.getD_eq_getD_getElem?,this] at q1'
      cases q1'
  have hloc:Xc β ρ (Q5 X.ok X.w.heap.size β1 [] (Ox++Qc β ρ S0.flat.mem) w) (Qa8 l0 ds Zs S0 i (acc.take i) o) a w:=by
   refine ⟨fun e he=>?_,fun id ob hob=>?_⟩
   ·obtain ⟨hcs,hlook⟩:=F0 he
    refine ⟨fun _=>?_,.inl (by rw [hcs]; exact Qa a)⟩
    rcases hlook with ⟨h1,h2⟩ | ⟨h1,h2,hlt0⟩ | ⟨h2,hlt0⟩
    ·obtain ⟨j,hj',hdj,hix,hwr⟩:=Ev hnd hA (Lt h1)
     simp only at hix hdj
     rw [hix] at h2
     obtain ⟨cs,q1,q2⟩:=hpred j _ h2 (by rw [List.getElem?_map,hj']; rfl)
     have hlt:e.t<a.tmps.size:=by rw [hsz0]; exact Kl (J7 (hwr rfl) hX hr).1
     refine ⟨cs,?_,q2⟩
     rw [←q1,Xh (Xw (J7 (hwr rfl) hX hr).1)]
     simp [Array.getD_eq_getD_getElem?,hlt]
    ·have hD:=Jf.1 hS.dat _ (.tail _ (List.mem_map.2 ⟨e,h2,rfl⟩))
     obtain ⟨cs,q1,q2⟩:=hD.1 (by rw [hcs]; exact Qa a0)
     rw [Xh hlt0] at q1
     have hlt:e.t<X.n:=Lo h q1
     have:=hS.tm _ (Tp hlt (Bp h1) a0)
     simp only [Vs] at this
     refine ⟨cs,?_,q2⟩
     rw [Xh hlt0,this,←q1]
     have hlt':e.t<a0.tmps.size:=by rw [h.sz]; exact hlt
     simp [Array.getD_eq_getD_getElem?,hlt']
    ·have hD:=Jf.1 hS.dat _ (.tail _ (List.mem_map.2 ⟨e,h2,rfl⟩))
     obtain ⟨cs,q1,q2⟩:=hD.1 (by rw [hcs]; exact Qa a0)
     refine ⟨cs,?_,q2⟩
     rw [←q1]
     unfold rd
     rw [hlt0]; rfl
   ·obtain ⟨l1,l2,e1,_⟩:=Jl hob
    have hmem:(id,ob)∈S0.flat.mem++Qpb l0 ds.length i (acc.take i) Zs:=by
     have e1':S0.flat.mem++Qpb l0 ds.length i (acc.take i) Zs=l1++(id,ob)::l2:=e1
     rw [e1']; simp
    rcases List.mem_append.1 hmem with hmem | hmem
    ·exact (hS.own _ (List.mem_append_right _ (List.mem_map.2 ⟨_,hmem,rfl⟩))).1
    ·obtain ⟨hlt,hbt,hkey,hcur⟩:=Qp6 hmem
     have hcE:Uy E id acc 0 (Qb Zs id)=some ob:=by
      rw [I0 hg hEi (hearly hbt) fun j g' hj hij ht=>?_,hcur]
      obtain ⟨oj,hoj,hGj⟩:=hA.2 j g' hj
      refine hlateB j (Qp7 hlt (by rw [←hA.1]; exact Lv hj) hij hoj (Quc hGj ht fun hq e=>?_))
      subst e
      exact hZf _ (Uk.2 ⟨_,_,List.mem_of_getElem? (by rw [hj]),hq⟩) hkey
     have hin:tlX β ρ acc a id ob∈Ox:=hOX.mem_iff.2 (List.mem_filterMap.2 ⟨id,List.mem_append_left _ hkey,by simp only [fX,hcE,Option.map_some]⟩)
     have:=(hS.own _ (List.mem_append_left _ hin)).1
     have htx:tlX β ρ acc a id ob=Qp β ρ id ob:=by
      unfold tlX
      cases hm:J9 (Jm acc) id with
      | false=>rfl
      | true=>exact absurd hkey (hZf _ (Ke hm))
     rw [htx] at this
     exact this
  have hGd:∀p∈Mu X ds a0,p.1≠g.1:=fun p hp e=>(Lu hp).1 (e▸hdin)
  have hput:∀v,Sb β1 ⟨X.n,X.ok,X.w,Dk ds g.1,a,some (fun _=>0),X.lent,X.lok,X.dfs⟩ (Mu X ds a0) (dX::S0.flat.env.map (enD β ρ a0)) [] (Ox++Qc β ρ S0.flat.mem) (a.put (some g.1) v) w:=fun v =>
   {sz:=by simp [Act.put,hsz0],df:=hS.df,fr:=fun t ht=>(Y2 (fun e=>Ns (e▸ht)) _).trans (hS.fr t ht),pn:=hS.pn,
    tm:=fun p hp=>(Y2 (hGd p hp) _).trans (hS.tm p hp),bel:=hS.bel,dat:=hS.dat,obj:=hS.obj,own:=hS.own,dHH:=hS.dHH,dHO:=hS.dHO,dOO:=hS.dOO }
  obtain ⟨gt,gv0,gq⟩:=g
  simp only at hdin hput
  have hok:isW gq=false→okD X gt=true:=fun hq=>(J7 (hG.wr hq) hX hr).1
  have hdlt:isW gq=false→gt<a.tmps.size:=fun hq=>by rw [hsz0]; exact Kl (hok hq)
  have hpv:isW gq=false→∀v,(a.put (some gt) v).tmps.getD gt undef=v:=fun hq v=>by simp [Act.put,Array.getD_eq_getD_getElem?,hdlt hq]
  have hSG:Sb β1 ⟨X.n,X.ok,X.w,Dk ds gt,a,some (fun _=>0),X.lent,X.lok,X.dfs⟩ (Xs X.n a) (dX::S0.flat.env.map (enD β ρ a0)) [] (Ox++Qc β ρ S0.flat.mem) a w :=
   {sz:=hS.sz,df:=hS.df,fr:=hS.fr,pn:=hS.pn,bel:=hS.bel,dat:=hS.dat,obj:=hS.obj,own:=hS.own,dHH:=hS.dHH,dHO:=hS.dHO,dOO:=hS.dOO,
    tm:=fun p hp=>by
     obtain ⟨t,ht,rfl⟩:=List.mem_map.1 hp
     have hlt:t<a.tmps.size:=by rw [hsz0]; exact List.mem_range.1 ht
     simp [Vs,Array.getElem?_eq_getElem hlt,Array.getD_eq_getD_getElem?] }
  have hokd:isW gq=false→okD ⟨X.n,X.ok,X.w,Dk ds gt,a,some (fun _=>0),X.lent,X.lok,X.dfs⟩ gt=true:=fun hq=>by
   have hok:=hok hq
   simp only [okD,Bool.and_eq_true] at hok ⊢
   exact ⟨hok.1,Qdb Ns,hok.2.2⟩
  have hback:∀{v:Value} {O':List TL} {a':Act} {w':World},Sb β1 ⟨X.n,X.ok,X.w,Dk ds gt,a,some (fun _=>0),X.lent,X.lok,X.dfs⟩ (Zi (Xs X.n a) gt (.v v)) (dX::S0.flat.env.map (enD β ρ a0)) [] O' a' w' →
    Sb β1 ⟨X.n,X.ok,X.w,Dk ds gt,a,some (fun _=>0),X.lent,X.lok,X.dfs⟩ (Mu X ds a0) (dX::S0.flat.env.map (enD β ρ a0)) [] O' a' w'∧a'.tmps.getD gt undef=v:=by
   intro v O' a' w' hS'
   refine ⟨Sb.lessG hS' fun p hp=>?_,?_⟩
   ·obtain ⟨r1,r2,r3⟩:=Lu hp
    have r4:=hS.tm p hp
    refine .tail _ ?_
    have hne:=hGd p hp
    have hm:p∈Xs X.n a:=by
     refine List.mem_map.2 ⟨p.1,List.mem_range.2 r2,?_⟩
     obtain ⟨p1,p2⟩:=p
     simp only at r3 r4 ⊢
     subst r3
     simp only [Vs] at r4
     rw [Array.getD_eq_getD_getElem?,r4]; rfl
    have:∀{l:GL},p∈l→p∈N2 l gt:=by
     intro l
     induction l with
     | nil=>intro h; cases h
     | cons x l ih =>
      intro h
      obtain ⟨k,y⟩:=x
      simp only [N2]
      cases hb:Nat.beq k gt with
      | true =>
       rcases List.mem_cons.1 h with e | h
       ·subst e; exact absurd (Nat.eq_of_beq_eq_true hb) hne
       ·exact ih h
      | false =>
       rcases List.mem_cons.1 h with e | h
       ·rw [e]; exact .head _
       ·exact .tail _ (ih h)
    exact this hm
   ·have:=hS'.tm _ (.head _)
    simp only [Vs] at this
    simp [Array.getD_eq_getD_getElem?,this]
  cases gq with
  | v =>
   have hw:Region.wanted o (yielded ⟨l0⟩ a.tmps)=true:=hwant
   obtain ⟨h1,h2⟩:=hG.fnd
   refine h1 (show Vf Y.gl (okN ⟨X.n,X.ok,X.w,Dk ds gt,a,some (fun _=>0),X.lent,X.lok,X.dfs⟩) X.w from hG0) hSG hloc hw (Qa9 hsz0 hw) (hG.dst rfl) (hokd rfl) fun a' w' cs hS' hcr=>?_
   obtain ⟨q1,q2⟩:=hback hS'
   refine hend β1 a' w' Ox q1 ?_ ?_
   ·rw [←hfv]
    exact ⟨cs,q2,hcr⟩
   ·intro hgd
    show Ox.Perm (OWx β ρ Zs acc (Zh E i) _)
    rw [Nu hdsE hnd hg hgd (fun _=>rfl)]
    exact hOX
  | u =>
   have hw:Region.wanted o (yielded ⟨l0⟩ a.tmps)=false:=hwant
   unfold wpList
   rw [if_neg (by rw [hw]; simp)]
   show Q .normal (a.put o.dst undef) w
   rw [hG.dst rfl]
   refine hend β1 _ w Ox (hput _) ?_ ?_
   ·rw [←hfv]
    exact hpv rfl _
   ·intro hgd
    show Ox.Perm (OWx β ρ Zs acc (Zh E i) _)
    rw [Nu hdsE hnd hg hgd (fun _=>rfl)]
    exact hOX
  | c =>
   have hw:Region.wanted o (yielded ⟨l0⟩ a.tmps)=true:=hwant
   obtain ⟨t,rfl,c1,c2,c3⟩:=hG.fnd
   obtain ⟨v',u,e,zs,c,hm⟩:=Vw c1
   obtain ⟨j,hj,hdj,hix,_⟩:=Ev hnd hA hm
   simp only at hix hdj
   rw [hix] at c2
   have hrun:(execOp a.eval o).run P w=.ok (.value (a.eval (.tmp t))) w:=by
    unfold execOp
    rcases c3 with c3 | c3<;>rw [c3]<;>rfl
   refine Q8 hw (Jv hrun ?_)
   rw [hG.dst rfl]
   have hne:t≠gt:=fun e=>by
    subst e
    have h2:=(List.getElem?_eq_some_iff.1 hd)
    have h3:=hnd.idxOf_getElem i h2.1
    rw [h2.2] at h3
    simp only at h3
    rw [hix] at h3
    subst h3
    rw [hj] at hg
    injection hg with hg
    injection hg with _ hg
    injection hg with _ hg
    cases hg
   refine hend β1 _ w Ox (hput _) ?_ ?_
   ·rw [←hfv]
    show (a.put (some gt) _).tmps.getD gt undef=(a.put (some gt) _).tmps.getD t undef
    rw [hpv rfl,Array.getD_eq_getD_getElem?,Y2 hne]
    simp [Act.eval,Array.getD_eq_getD_getElem?]
   ·intro hgd
    show Ox.Perm (OWx β ρ Zs acc (Zh E i) _)
    rw [Nu hdsE hnd hg hgd (fun _=>rfl)]
    exact hOX
  | r u e zs c =>
   have hw:Region.wanted o (yielded ⟨l0⟩ a.tmps)=true:=hwant
   have hgv:=Qa9 (ops:=⟨l0⟩) hsz0 hw
   obtain ⟨h1,hb,hmade⟩:=hG.fnd
   rcases hmade with ⟨t,lo,co,te,ee,lv,cv,k1,k2,nl,nc,za,z,hop,hte,htd,he,hl,hc,hli,hci,hza,hz,hsz,hzl,hby,hmk,hqn⟩ | ⟨t,s,x,te,ee,xv,ys,hop,hte,htd,he,hs,hx,hy,hpos,hby,hzl,hsz,happ⟩
   rotate_left
   ·obtain ⟨c1,hse,hs2⟩:=hloc.ev (Qa a) hs
    have hs2':c1=_:=hs2
    subst hs2'
    have hse':a.eval s=.slice none 0 0:=hse
    have hag:(Ty.sl u).agg=xv.isAgg:=by
     cases xv with
     | d t' y'=>obtain ⟨rfl,_⟩:=Ty.cast_ok (by simpa only [asD] using hy); rfl
     | ag l=>simp [asD] at hy
     | _=>rfl
    have hiv:=hloc.asD (Qa a) hx hy hag
    obtain ⟨A2,c2,hev,hyv⟩:=E3 (r:=rt u) hiv
    have hnil:=Sb.addNilM hSG e (rt u)
    rw [Kw o,hG.dst rfl,hop] at hgv ⊢
    refine Ad hT hnil [] (Ox++Qc β ρ S0.flat.mem) (r:=rt u) hgv (hokd rfl) hte htd he (by rw [Jh]; exact Nat.eq_of_beq_eq_true hsz) hzl hpos hby rfl (by rw [gvW hloc hsz0 hs,hse']) (by rw [gvW hloc hsz0 hx,hev]) ((Nj hyv).weak ?_) happ fun A' c' a' w' hS'=>?_
    ·rintro b o ⟨o1,o2,o3,o4⟩
     refine ⟨o1,o2,o3,fun t ht hc=>?_⟩
     rcases List.mem_cons.1 ht with rfl | ht
     ·cases hc
     ·exact o4 t ht hc
    ·obtain ⟨q1,q2⟩:=hback hS'
     refine hend β1 a' w' (ml (.slice A' zs.length c') e (rt u) zs::Ox) q1 ?_ ?_
     ·rw [←hfv]
      exact ⟨A',c',q2⟩
     ·intro hgd
      refine (Qbc (ob:=.row e u zs) hdsE hN hnd hg rfl hEi (Wv hb) (fun id hi=>by simp [J4,Pw hi]) (hlate (Nat.beq_refl _)) rfl hOX hgd (by rw [show H0 gt gt (Gk.r u e zs c) none=some (.row e u zs) by simp [H0,Nat.beq_refl]]) ?_).symm
      simp only [Sc,q2]
   rw [Kw o,hG.dst rfl,hop] at hgv ⊢
   refine Sn hT hSG (r:=rt u) hgv (hokd rfl) hte htd he (by rw [Jh]; exact Nat.eq_of_beq_eq_true hsz) hzl hby (fun ok w=>V8 (β:=β) (ρ:=ρ) (M:=[]) (by simp [Qb]) hz (K2 hza))
    (by rw [gvW hloc hsz0 hl,hloc.int (Qa a) hl hli]) (by rw [gvW hloc hsz0 hc,hloc.int (Qa a) hc hci]) hmk fun b a' w' hS'=>?_
   obtain ⟨q1,q2⟩:=hback hS'
   refine hend β1 a' w' (ml (.slice (some ⟨b,0,none⟩) zs.length nc.toNat) e (rt u) zs::Ox) q1 ?_ ?_
   ·rw [←hfv]
    exact ⟨_,_,q2⟩
   ·intro hgd
    refine (Qbc (ob:=.row e u zs) hdsE hN hnd hg rfl hEi (Wv hb) (fun id hi=>by simp [J4,Pw hi]) (hlate (Nat.beq_refl _)) rfl hOX hgd (by rw [show H0 gt gt (Gk.r u e zs c) none=some (.row e u zs) by simp [H0,Nat.beq_refl]]) ?_).symm
    simp only [Sc,q2]
  | o t c =>
   have hw:Region.wanted o (yielded ⟨l0⟩ a.tmps)=true:=hwant
   obtain ⟨h1,hb,e,ty,hop,he,hc,hids⟩:=hG.fnd
   have hrun:(execOp a.eval o).run P w=.ok (.value (.pointer (some ⟨w.heap.size,0,none⟩))) (w.alloc (.cells (Qh e.z).toArray t)):=by
    unfold execOp
    simp only [hop]
    simp [Instr.alloc,Y9 hT w he,newVar,newRow,Yq]
   refine Q8 hw (Jv hrun ?_)
   rw [hG.dst rfl]
   have hbel:Below w.heap.size w (w.alloc (.cells (Qh e.z).toArray t)):=(Below.refl _ _).alloc (Nat.le_refl _) _
   refine hend β1 _ _ (Xf β ρ w.heap.size t c::Ox) ((hput _).allocTL hbel (fun g hg=>?_) ⟨Qh e.z,heap_alloc_new w _,K2 hc⟩) ?_ ?_
   ·have hg':g=w.heap.size:=hg
    omega
   ·rw [←hfv]
    exact ⟨w.heap.size,hpv rfl _⟩
   ·intro hgd
    refine (Qbc (ob:=.var t c) hdsE hN hnd hg rfl hEi (Wv hb) (fun id hi=>by simp [J4,Pw hi]) (hlate (Nat.beq_refl _)) rfl hOX hgd (by rw [show H0 gt gt (Gk.o t c) none=some (.var t c) by simp [H0,Nat.beq_refl]]) ?_).symm
    simp only [Sc,hpv rfl,Qc9]
  | b ns =>
   have hw:Region.wanted o (yielded ⟨l0⟩ a.tmps)=true:=hwant
   obtain ⟨h1,hns,_⟩:=hG.fnd
   have hrows:∀t∈ns,t∈ds∧t<X.n∧t<100000∧t≠gt∧∃A m c,a.tmps.getD t undef=.slice A m c:=fun t ht=>by
    obtain ⟨c1,c2⟩:=hns t ht
    obtain ⟨v',u,e,zs,c,hm⟩:=Vw c1
    obtain ⟨j,hj,hdj,hix,hwr⟩:=Ev hnd hA hm
    simp only at hix hdj
    rw [hix] at c2
    obtain ⟨A,c',q1⟩:=hpred j _ c2 (by rw [List.getElem?_map,hj]; rfl)
    have hok':=(J7 (hwr rfl) hX hr).1
    refine ⟨List.mem_of_getElem? hdj,Kl hok',?_,fun e=>?_,A,_,c',q1⟩
    ·have:=Xw hok'
     exact Nat.lt_of_succ_le (Nat.le_of_ble_eq_true this)
    ·subst e
     have h2:=(List.getElem?_eq_some_iff.1 hd)
     have h3:=hnd.idxOf_getElem i h2.1
     rw [h2.2] at h3
     simp only at h3
     rw [hix] at h3
     subst h3
     rw [hj] at hg
     injection hg with hg
     injection hg with _ hg
     injection hg with _ hg
     cases hg
   have hlocB:Xc (B6 a ns β) (Pt a ns ρ) (Q5 X.ok X.w.heap.size β1 [] (Ox++Qc β ρ S0.flat.mem) w) (Q44 ds ns (Qa8 l0 ds Zs S0 i (acc.take i) o)) a w:=by
    refine ⟨fun e he=>?_,fun id ob hob=>by cases hob⟩
    rcases List.mem_append.1 he with he | he
    ·obtain ⟨t,ht,rfl⟩:=List.mem_map.1 he
     obtain ⟨r1,r2,r3,_,A,m,c,r4⟩:=hrows t ht
     refine ⟨fun _=>⟨[a.tmps.getD t undef],?_,?_⟩,.inl (Qa a)⟩
     ·have hlt:t<a.tmps.size:=by rw [hsz0]; exact r2
      show rd a t=_
      unfold rd
      rw [show Nat.blt t 100000=true from Nat.ble_eq_true_of_le r3]
      simp [Array.getD_eq_getD_getElem?,hlt]
      rfl
     ·exact ⟨⟨_,rfl,.inl (by rw [(Eu (β:=β) ht).2])⟩,by rw [(Eu (β:=β) ht).2]; exact ⟨A,m,c,r4⟩⟩
    ·have hfil:∀{l:List En},e∈Qpd ds l→e∈l∧Wr ds e.av=true:=by
      intro l
      induction l with
      | nil=>intro h; cases h
      | cons x l ih =>
       intro h
       simp only [Qpd] at h
       cases hb:Wr ds x.av with
       | true =>
        rw [hb] at h
        rcases List.mem_cons.1 h with rfl | h
        ·exact ⟨.head _,hb⟩
        ·exact ⟨.tail _ (ih h).1,(ih h).2⟩
       | false=>rw [hb] at h; exact ⟨.tail _ (ih h).1,(ih h).2⟩
     obtain ⟨hm,hn⟩:=hfil he
     obtain ⟨g1,g2⟩:=hloc.1 e hm
     refine ⟨fun hc=>?_,g2⟩
     obtain ⟨cs,q1,q2⟩:=g1 hc
     unfold Wr at hn
     rw [List.all_eq_true] at hn
     refine ⟨cs,q1,Gi (C:=fun β' ρ'=>cr β' ρ' _ w false e.av cs) q2 fun d hd β' ρ' h'=>Zl (Kj d β' ρ' _ _) (hn d (hrows d hd).1) h'⟩
   refine h1 (show Vf Y.gl (okN ⟨X.n,X.ok,X.w,Dk ds gt,a,some (fun _=>0),X.lent,X.lok,X.dfs⟩) X.w from hG0) hSG hlocB hw (Qa9 hsz0 hw) (hG.dst rfl) (hokd rfl) fun a' w' cs hS' hcr=>?_
   obtain ⟨q1,q2⟩:=hback hS'
   have hcg:=Dw (a:=a) (a':=a') (l:=ns) (β:=β) (ρ:=ρ) fun t ht=>by
    obtain ⟨r1,r2,r3,r5,A,m,c,r4⟩:=hrows t ht
    have hm:(t,Gd.AV.v (a.tmps.getD t undef))∈Zi (Xs X.n a) gt (.v (gv0.val cs)):=by
     refine .tail _ ?_
     have h0:(t,Gd.AV.v (a.tmps.getD t undef))∈Xs X.n a:=List.mem_map.2 ⟨t,List.mem_range.2 r2,rfl⟩
     revert h0
     generalize Xs X.n a=l
     intro h0
     induction l with
     | nil=>cases h0
     | cons x l ih =>
      obtain ⟨k,y⟩:=x
      simp only [N2]
      cases hb:Nat.beq k gt with
      | true =>
       rcases List.mem_cons.1 h0 with e | h0
       ·injection e with e _; exact absurd (e.trans (Nat.eq_of_beq_eq_true hb)) r5
       ·exact ih h0
      | false =>
       rcases List.mem_cons.1 h0 with e | h0
       ·rw [e]; exact .head _
       ·exact .tail _ (ih h0)
    have:=hS'.tm _ hm
    simp only [Vs] at this
    rw [Array.getD_eq_getD_getElem?,this]; rfl
   refine hend β1 a' w' Ox q1 ?_ ?_
   ·rw [←hfv]
    exact ⟨cs,q2,by rw [hcg.1,hcg.2]; exact hcr⟩
   ·intro hgd
    show Ox.Perm (OWx β ρ Zs acc (Zh E i) _)
    rw [Nu hdsE hnd hg hgd (fun _=>rfl)]
    exact hOX
  | t u e zs h0 =>
   have hw:Region.wanted o (yielded ⟨l0⟩ a.tmps)=true:=hwant
   obtain ⟨h1,hb,t,s,x,te,ee,xv,xs,ys,hop,hC,hte,htd,he,hs,hx,hy,hpos,hby,hzl,hsz,hyn,happ⟩:=hG.fnd
   obtain ⟨hsm,hbt,hcu⟩:=Qi0 hC
   have hkey:=Kx hsm
   have hgr:gt∈Jm acc:=Uk.2 ⟨_,_,List.mem_of_getElem? hg,rfl⟩
   have hne:h0≠gt:=fun e=>hZf gt hgr (e▸hkey)
   have hth:J4 h0 gt (Gk.t u e zs h0)=true:=by simp [J4,Nat.beq_refl]
   have htg:J4 gt gt (Gk.t u e zs h0)=true:=by simp [J4,Nat.beq_refl]
   have hch:Uy E h0 acc 0 (Qb Zs h0)=some (.tail e u xs):=by rw [I0 hg hEi (hearly hbt) (hlate hth),hcu]
   have hcg:Uy E gt acc 0 (Qb Zs gt)=none:=Tu hg hEi (Wv hb) (hlate htg)
   have hth0:tlX β ρ acc a h0 (.tail e u xs)=Qp β ρ h0 (.tail e u xs):=by
    unfold tlX
    cases hm:J9 (Jm acc) h0 with
    | false=>rfl
    | true=>exact absurd hkey (hZf _ (Ke hm))
   obtain ⟨Oz,hOz0,hOz1⟩:=Se (f:=fX β ρ Zs acc E a) hN (x:=h0) (y:=gt) (List.mem_append_left _ hkey) (List.mem_append_right _ hgr) hne (by simp only [fX,hcg,Option.map_none])
   have hOz:Ox.Perm (Qp β ρ h0 (.tail e u xs)::Oz):=by
    refine hOX.trans (hOz0.trans ?_)
    simp only [fX,hch,Option.map_some,hth0]
    exact List.Perm.refl _
   have hfinT:∀{a':Act} {A':Option Addr} {c':Nat},a'.tmps.getD gt undef=.slice A' zs.length c'→(∀(j e:Nat),j≠i→ds[j]?=some e→a'.tmps.getD e undef=a.tmps.getD e undef)→(Ui (.slice A' zs.length c') e (rt u) zs::Oz).Perm (OWx β ρ Zs acc (Zh E i) a'):=fun {a' A' c'} q2 hgd=>by
    have h1:=hOz1 (fX β ρ Zs acc (Zh E i) a') (by
     simp only [fX]
     rw [Cb hg hEi (hlate hth),hch]
     simp [H0,Pw (Ne.symm hne),Nat.beq_refl]) fun j hj hjh hjg=>Nt hdsE hnd hg hgd (by simp [J4,Pw (Ne.symm hjg),Pw (Ne.symm hjh)])
    refine (h1.trans ?_).symm
    simp only [fX]
    rw [Cb hg hEi (hlate htg),hcg]
    simp only [H0,Nat.beq_refl,cond_true,Option.map_some,tlX,W9 hgr,Sc,q2]
    exact List.Perm.refl _
   have hpm:(Ox++Qc β ρ S0.flat.mem).Perm (Qp β ρ h0 (.tail e u xs)::(Oz++Qc β ρ S0.flat.mem)):=hOz.append_right _
   have hSP:=hSG.perm hpm
   have hgv:=Qa9 (ops:=⟨l0⟩) hsz0 hw
   obtain ⟨c1,hse,⟨v0,hs2,hz0⟩,A,m,c,hρ⟩:=hloc.ev (Qa a) hs
   subst hs2
   have hag:(Ty.sl u).agg=xv.isAgg:=by
    cases xv with
    | d t' y'=>obtain ⟨rfl,_⟩:=Ty.cast_ok (by simpa only [asD] using hy); rfl
    | ag l=>simp [asD] at hy
    | _=>rfl
   have hiv:=hloc.asD (Qa a) hx hy hag
   obtain ⟨A2,c2,hev,hyv⟩:=E3 (r:=rt u) hiv
   have htl:Qp β ρ h0 (.tail e u xs)=Ui (.slice A m c) e (rt u) xs:=by simp only [Qp,hρ]
   rw [htl] at hSP
   have hokp:∀b o,Q5 X.ok X.w.heap.size β1 [] (Ox++Qc β ρ S0.flat.mem) w b o→Q5 X.ok X.w.heap.size β1 [] (Ui (.slice A m c) e (rt u) xs::(Oz++Qc β ρ S0.flat.mem)) w b o:=fun b o ⟨q1,q2,q3,q4⟩=>⟨q1,q2,q3,fun u hu=>q4 u (by rw [←htl] at hu; exact hpm.mem_iff.2 hu)⟩
   rw [Kw o,hG.dst rfl,hop] at hgv ⊢
   rcases hz0 with hz0 | ⟨h00,A0,hz0⟩
   case inr =>
    have hse':a.eval s=.slice A0 0 0:=by rw [hse,←hz0]; rfl
    have hxs:xs=[]:=by
     have:=(hSP.own _ (.head _)).1.1
     rw [←hρ,h00] at this
     obtain ⟨A',c',q1,_⟩:=E3 this
     injection q1 with _ q2
     exact List.length_eq_zero_iff.1 q2.symm
    subst hxs
    have hSD:=Sb.remake (O':=Oz++Qc β ρ S0.flat.mem) hSP (fun t' ht'=>.inl ⟨t',.tail _ ht',fun _ hg=>hg,fun _ _ hc=>hc,(hSP.own t' (.tail _ ht')).1⟩) (List.pairwise_cons.1 hSP.dOO).2
    refine G8 (a:=a) hT hSD (r:=rt u) hgv (hokd rfl) hte htd he (by rw [Jh]; exact Nat.eq_of_beq_eq_true hsz) hzl hpos hby (by rw [gvW hloc hsz0 hs,hse']) (by rw [gvW hloc hsz0 hx,hev]) ?_ happ (fun hz _ _=>?_) fun A' c' a' w' hS'=>?_
    ·refine (Nj hyv).weak fun b o hk=>?_
     obtain ⟨q1,q2,q3,q4⟩:=hokp b o hk
     exact ⟨q1,q2,q3,fun u hu=>q4 u (.tail _ hu)⟩
    ·have:=(Di happ).2
     rw [hz] at this
     simp only [List.nil_append] at this
     rw [←this] at hyn
     cases hyn
    ·have hS2:=Sb.toTail hS' (by rw [Jh,←Nat.eq_of_beq_eq_true hsz]; exact hpos)
     obtain ⟨q1,q2⟩:=hback hS2
     refine hend β1 a' w' (Ui (.slice A' zs.length c') e (rt u) zs::Oz) q1 ?_ ?_
     ·rw [←hfv]
      exact ⟨A',c',q2⟩
     ·exact fun hgd=>hfinT q2 hgd
   have hse':a.eval s=.slice A m c:=by rw [hse,←hρ,←hz0]; rfl
   refine Qlp hT hSP hgv (hokd rfl) hte htd he hsz hpos hby hzl (by rw [gvW hloc hsz0 hs,hse']) (by rw [gvW hloc hsz0 hx,hev]) ?_ happ fun A' c' a' w' hS'=>?_
   ·exact hyv.weak hokp
   ·obtain ⟨q1,q2⟩:=hback hS'
    refine hend β1 a' w' (Ui (.slice A' zs.length c') e (rt u) zs::Oz) q1 ?_ ?_
    ·rw [←hfv]
     exact ⟨A',c',q2⟩
    ·exact fun hgd=>hfinT q2 hgd
  | w id ob =>
   have hw:Region.wanted o (yielded ⟨l0⟩ a.tmps)=true:=hwant
   obtain ⟨hdn,_⟩:=hG.ndst rfl
   obtain ⟨t,p,x,e,v,hop,he,hx,hsz,hval,hin,hcase⟩:=hG.fnd
   have hti:J4 id gt (Gk.w id ob)=true:=Nat.beq_refl _
   obtain ⟨dv,h3,h4⟩:=hloc.ev (Qa a) hx
   have hdl:=Ur h4
   have hes:=Nat.eq_of_beq_eq_true hsz
   have hcells:Qh (v.val dv)=dv:=Z3 h4 hval hin
   have hcc:(v.val dv).cells.toList=dv:=by rw [←Yq,hcells]
   have hcsz:(v.val dv).cells.size=e.size:=by rw [←Array.length_toList,hcc]; omega
   have hsame:∀j∈B7 Zs acc,j≠id→fX β ρ Zs acc (Zh E i) a j=fX β ρ Zs acc E a j:=fun j _ hj=>Nt hdsE hnd hg (fun _ _ _ _=>rfl) (by simp [J4,Pw (Ne.symm hj)])
   have hput0:a.put o.dst undef=a:=by rw [hdn]; rfl
   rcases hcase with ⟨path,tid,c,c',hcu,hset,hno,rfl,htgt⟩ | ⟨j,sz,ps,et,u,xs,y,c,z,hpe,hcu,hy,hset,hz,hsu,hpos,hsm,rfl⟩
   ·obtain ⟨hbt,hcu⟩:=I1 hcu
    have hcE:Uy E id acc 0 (Qb Zs id)=some (.var tid c):=by rw [I0 hg hEi (hearly hbt) (hlate hti),hcu]
    have hcI:Uy (Zh E i) id acc 0 (Qb Zs id)=some (.var tid c'):=by
     rw [Cb hg hEi (hlate hti)]
     simp only [H0,Nat.beq_refl,cond_true]
    obtain ⟨hidn,gb,hpa,htl⟩:id∈B7 Zs acc∧∃gb,a.eval p=.pointer (some ⟨gb,Jp path,none⟩)∧∀c0,tlX β ρ acc a id (.var tid c0)=Xf β ρ gb tid c0:=by
     rcases htgt with ⟨hpe,hsm⟩ | ⟨rfl,rfl,hvar,hpr⟩
     ·have hkey:=Kx hsm
      obtain ⟨c1,h1,h2⟩:=hloc.ev (Qa a) hpe
      have h2':c1=_:=h2
      subst h2'
      refine ⟨List.mem_append_left _ hkey,β id,h1,fun c0=>?_⟩
      unfold tlX
      cases hm:J9 (Jm acc) id with
      | false=>rfl
      | true=>exact absurd hkey (hZf _ (Ke hm))
     ·obtain ⟨v',ty,c0,hm⟩:=Dz hvar
      obtain ⟨j,hj,hdj,hix,hwr⟩:=Ev hnd hA hm
      simp only at hix hdj
      rw [hix] at hpr
      obtain ⟨b,q1⟩:=hpred j _ hpr (by rw [List.getElem?_map,hj]; rfl)
      have hgr:id∈Jm acc:=Uk.2 ⟨_,_,List.mem_of_getElem? hj,rfl⟩
      have q1':a.tmps.getD id undef=.pointer (some ⟨b,0,none⟩):=q1
      refine ⟨List.mem_append_right _ hgr,b,?_,fun c0=>?_⟩
      ·show a.tmps.getD id undef=_
       rw [q1']; rfl
      ·unfold tlX
       rw [W9 hgr]
       simp only [cond_true,Sc,q1',Qc9]
    obtain ⟨Oz,p1,p2⟩:=K5 (f:=fX β ρ Zs acc E a) (f':=fX β ρ Zs acc (Zh E i) a) hN hidn hsame
    simp only [fX,hcE,Option.map_some,Option.toList_some,htl] at p1
    have p2':(OWx β ρ Zs acc (Zh E i) a).Perm (Xf β ρ gb tid c'::Oz):=by
     refine p2.trans ?_
     simp only [fX,hcI,Option.map_some,Option.toList_some,htl]
     exact List.Perm.refl _
    have hpm:(Ox++Qc β ρ S0.flat.mem).Perm (Xf β ρ gb tid c::(Oz++Qc β ρ S0.flat.mem)):=(hOX.trans p1).append_right _
    have hSP:=hS.perm hpm
    obtain ⟨cs,hh,hc⟩:=(hSP.own _ (.head _)).1
    have hokp:∀b o,Q5 X.ok X.w.heap.size β1 [] (Ox++Qc β ρ S0.flat.mem) w b o→Q5 X.ok X.w.heap.size β1 [] (Xf β ρ gb tid c::(Oz++Qc β ρ S0.flat.mem)) w b o:=fun b o ⟨q1,q2,q3,q4⟩=>⟨q1,q2,q3,fun u hu=>q4 u (hpm.mem_iff.2 hu)⟩
    have h4':=Vt h4 hokp
    obtain ⟨h5,h6⟩:=Wa (β:=β) (ρ:=ρ) h4' hset hc
    have hst:=run_storeCells_at P gb (Jp path) tid dv 0 cs.toArray w hh (by simp; omega) (W5 h4 hin)
    simp only [Nat.add_zero,List.toList_toArray] at hst
    have hrun:(execOp a.eval o).run P w=.ok .skip (w.setRow gb (cs.take (Jp path)++dv++cs.drop (Jp path+dv.length)).toArray):=by
     unfold execOp
     rw [hop]
     simp only [hpa,h3]
     simp [Instr.storeAt,Instr.sureAddr,storeVar,Jy hT w he,hcsz,hcc,hst]
    refine Q8 hw ?_
    unfold Oper.wp
    rw [hrun]
    show wpList P ⟨l0⟩ Q [] (a.put o.dst undef) _
    rw [hput0]
    have hSU:=hSP.upd (O1:=[]) (O2:=Oz++Qc β ρ S0.flat.mem) (t:=Xf β ρ gb tid c) rfl (t':=Xf β ρ gb tid c') (w':=w.setRow gb (cs.take (Jp path)++dv++cs.drop (Jp path+dv.length)).toArray) rfl rfl rfl (by simp) (fun b hb hn=>setRow_other _ _ _ _ fun e=>hn e) (fun b o hb=>hb) (fun g hg=>.inl hg) (fun hevo hok=>by
     refine ⟨_,setRow_heap _ _ _ _ _ _ hh,?_⟩
     exact Vt (X8 h5 hevo) hok)
    refine hend β1 a _ (Xf β ρ gb tid c'::Oz) hSU ?_ fun _=>p2'.symm
    rw [←hfv]; trivial
   ·obtain ⟨hbt,hcu⟩:=I1 hcu
    have hkey:=Kx hsm
    have hcE:Uy E id acc 0 (Qb Zs id)=some (.row et u xs):=by rw [I0 hg hEi (hearly hbt) (hlate hti),hcu]
    have hcI:Uy (Zh E i) id acc 0 (Qb Zs id)=some (.row et u (xs.set j.toNat z)):=by
     rw [Cb hg hEi (hlate hti)]
     simp only [H0,Nat.beq_refl,cond_true]
    have htl:∀zs:List u.De,tlX β ρ acc a id (.row et u zs)=ml (ρ id) et (rt u) zs:=fun zs=>by
     unfold tlX
     cases hm:J9 (Jm acc) id with
     | false=>rfl
     | true=>exact absurd hkey (hZf _ (Ke hm))
    obtain ⟨Oz,p1,p2⟩:=K5 (f:=fX β ρ Zs acc E a) (f':=fX β ρ Zs acc (Zh E i) a) hN (List.mem_append_left _ hkey) hsame
    simp only [fX,hcE,Option.map_some,Option.toList_some,htl] at p1
    have p2':(OWx β ρ Zs acc (Zh E i) a).Perm (ml (ρ id) et (rt u) (xs.set j.toNat z)::Oz):=by
     refine p2.trans ?_
     simp only [fX,hcI,Option.map_some,Option.toList_some,htl]
     exact List.Perm.refl _
    have hpm:(Ox++Qc β ρ S0.flat.mem).Perm (ml (ρ id) et (rt u) xs::(Oz++Qc β ρ S0.flat.mem)):=(hOX.trans p1).append_right _
    have hSP:=hS.perm hpm
    have hokp:∀b o,Q5 X.ok X.w.heap.size β1 [] (Ox++Qc β ρ S0.flat.mem) w b o→Q5 X.ok X.w.heap.size β1 [] (ml (ρ id) et (rt u) xs::(Oz++Qc β ρ S0.flat.mem)) w b o:=fun b o ⟨q1,q2,q3,q4⟩=>⟨q1,q2,q3,fun u hu=>q4 u (hpm.mem_iff.2 hu)⟩
    obtain ⟨c1,h1,g0,hg0,h2'⟩:=hloc.ev (Qa a) hpe
    subst h2'
    have hszu:=Nat.eq_of_beq_eq_true hsu
    subst hszu
    have h4':=Vt h4 hokp
    obtain ⟨hl0,cs0,hown0,hr0⟩:=(hSP.own _ (.head _)).1
    obtain ⟨g,c0,hv⟩:∃g c0,ρ id=.slice (some ⟨g,0,none⟩) xs.length c0:=by
     rcases hown0.2 with ⟨hv,h0⟩ | ⟨g,cap,cur,fz,hv,_⟩
     ·rw [hv] at hg0; cases hg0
     ·exact ⟨g,cap,by rw [hv,hl0]⟩
    have hgg:g0=g:=by rw [hv] at hg0; simp [Value.ownBlock] at hg0; omega
    subst hgg
    have hoff:Jp ps+dv.length≤u.size:=by
     have hrep:=X7 hr0 (Km hy).2
     obtain ⟨_,h6⟩:=Wa (β:=β) (ρ:=ρ) h4' hset (show cr β ρ _ w false (.d u y) _ from hrep)
     have:=(rt u).len hrep
     have h7:=Jh u
     omega
    have hmm:∀id' ob',Qb (Qa8 l0 ds Zs S0 i (acc.take i) o).mem id'=some ob'→(Qp β ρ id' ob').p (Q5 X.ok X.w.heap.size β1 [] (ml (ρ id) et (rt u) xs::(Oz++Qc β ρ S0.flat.mem)) w) w:=fun id' ob' ho'=>(Qp β ρ id' ob').weak (hloc.2 id' ob' ho') hokp
    rw [hv] at hSP
    obtain ⟨cur,fz,⟨hh,hfz⟩,hlen,hSU⟩:=Sb.mset hSP [] (Oz++Qc β ρ S0.flat.mem) rfl hy (by rw [Jh]; exact Nat.le_of_ble_eq_true hpos) (off:=Jp ps) (ds:=dv) (z:=z) (by rw [Jh]; exact hoff) (W5 h4 hin) (fun es hes=>by
     rw [←hv] at hes ⊢
     obtain ⟨h5,_⟩:=Wa (β:=β) (ρ:=ρ) h4' hset (show cr β ρ _ w false (.d u y) es from hes)
     exact V8 hmm hz h5)
    rw [Jh] at hSU hlen
    have hst:=Vz P g0 (j.toNat*u.size+Jp ps) et fz dv 0 cur w hh hfz (by omega) (W5 h4 hin)
    simp only [Nat.add_zero] at hst
    have hrun:(execOp a.eval o).run P w=.ok .skip (w.setRow g0 (cur.toList.take (j.toNat*u.size+Jp ps)++dv++cur.toList.drop (j.toNat*u.size+Jp ps+dv.length)).toArray):=by
     have h1':a.eval p=.pointer (some ⟨g0,j.toNat*u.size+Jp ps,none⟩):=h1
     unfold execOp
     rw [hop]
     simp only [h1',h3]
     simp [Instr.storeAt,Instr.sureAddr,storeVar,Jy hT w he,hcsz,hcc,hst]
    refine Q8 hw ?_
    unfold Oper.wp
    rw [hrun]
    show wpList P ⟨l0⟩ Q [] (a.put o.dst undef) _
    rw [hput0]
    refine hend β1 a _ (ml (ρ id) et (rt u) (xs.set j.toNat z)::Oz) (by rw [hv]; exact hSU) ?_ fun _=>p2'.symm
    rw [←hfv]; trivial
 ·trivial
end
end
end Gx
