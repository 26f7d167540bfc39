/- Regions whose order is open, in which rows are made. -/
import Derived.Test.YtbhpbpilmejnlaaGreatXO
namespace Gx
open Go Go.RowKit Gd
set_option linter.unusedVariables false
set_option linter.unusedSimpArgs false
abbrev Qea (l0:List Oper) (ds:List Nat) (Zs:List (Nat×Ob)) (S0:XS) (i:Nat) (acc:Got) (o:Oper):St:=Cg l0 ds Zs S0 i acc o
def Jkw:Gk→Bool
 | .u=>false
 | _=>true
def Qt7 (Y:TX) (L:St) (o:Oper) (u:Ty) (e:TypeId) (zs:List u.De) (c:Nat):Prop :=
 ∃(t:TypeId) (lo co:Operand) (te ee:TE) (lv cv:AV) (k1 k2:IntKind) (nl nc:Int) (za:AV) (z:u.De),o.op=.makeSlice t lo co∧Qi Y.T t=some te∧te.d=.slice e∧Qi Y.T e=some ee ∧
  ev L [] lo=some lv∧ev L [] co=some cv∧Zf lv=some (k1,nl)∧Zf cv=some (k2,nc)∧Ga u ee.z=some za∧asD [] za u=some z∧Nat.beq ee.size u.size=true∧Nat.beq (Qm ee.z).length ee.size=true ∧
  Nat.ble 1 ee.bytes=true∧mkL ee.bytes nl nc z=some zs∧c=nc.toNat
def Qt8 (Y:TX) (C:Nat→Option Ob) (L:St) (o:Oper) (u:Ty) (e:TypeId) (zs:List u.De) (h:Nat):Prop :=
 ∃(t:TypeId) (s x:Operand) (te ee:TE) (xv:AV) (xs ys:List u.De),o.op=.call ⟨.builtin .append,⟨[s,x]⟩,⟨[t,t]⟩⟩∧C h=some (.tail e u xs)∧Qi Y.T t=some te∧te.d=.slice e∧Qi Y.T e=some ee ∧
  ev L [] s=some (.s h)∧ev L [] x=some xv∧asD L.mem xv (.sl u)=some ys∧Nat.ble 1 ee.size=true∧Nat.ble 1 ee.bytes=true∧Nat.beq (Qm ee.z).length ee.size=true∧Nat.beq ee.size u.size=true∧Hb ys=false∧app ee.bytes xs ys=some zs
def Jb4 (Y:TX) (L:St) (o:Oper) (u:Ty) (e:TypeId) (zs:List u.De):Prop :=
 ∃(t:TypeId) (s x:Operand) (te ee:TE) (xv:AV) (ys:List u.De),o.op=.call ⟨.builtin .append,⟨[s,x]⟩,⟨[t,t]⟩⟩∧Qi Y.T t=some te∧te.d=.slice e∧Qi Y.T e=some ee ∧
  ev L [] s=some .ns∧ev L [] x=some xv∧asD L.mem xv (.sl u)=some ys∧Nat.ble 1 ee.size=true∧Nat.ble 1 ee.bytes=true∧Nat.beq (Qm ee.z).length ee.size=true∧Nat.beq ee.size u.size=true∧app ee.bytes [] ys=some zs
def Qt9 (Y:TX) (o:Oper) (t:TypeId) (c:AV):Prop:=∃(e:TE) (ty:Ty),o.op=.alloc t∧Qi Y.T t=some e∧Ga ty e.z=some c∧Jc c=[]
def Qua (Y:TX) (l0:List Oper) (ds:List Nat) (Zs:List (Nat×Ob)) (L:St) (i:Nat) (acc:Got) (o:Oper) (id:Nat) (ob:Ob):Prop :=
  ∃(t:TypeId) (p x:Operand) (e:TE) (v:AV),o.op=.store t p x∧Qi Y.T t=some e∧ev L [] x=some v∧Nat.beq e.size v.size=true∧v.isVal=true∧v.inMem=true ∧
    ((∃path tid c c',Qqc l0 Zs i acc id=some (.var tid c)∧Cl path c v=some c'∧Gf ds c'=true∧ob=.var tid c'∧((ev L [] p=some (.p id path)∧Kh (Qe Zs id)=true)∨(p=.tmp id∧path=[]∧Dm acc id=true∧K6 l0 i (ds.idxOf id)=true))) ∨
     (∃(j:Int) (sz:Nat) (ps:List PS) (et:TypeId) (u:Ty) (xs:List u.De) (y:u.De) (c:AV) (z:u.De),ev L [] p=some (.e id (.i j sz::ps))∧Qqc l0 Zs i acc id=some (.row et u xs)∧idx xs j=some y∧Cl ps (.d u y) v=some c∧asD L.mem c u=some z∧Nat.beq sz u.size=true∧Nat.ble 1 u.size=true∧Kh (Qe Zs id)=true∧ob=.row et u (xs.set j.toNat z)))
def Qzi (P:Program) (Y:TX) (Zs:List (Nat×Ob)) (l0:List Oper) (ds:List Nat) (S0:XS) (o:Oper) (i:Nat) (acc:Got):Nat×AV×Gk→Prop
 | (d,v,.v)=>Qaa Y.gl P l0 (Qea l0 ds Zs S0 i acc o) o v∧Gf ds v=true
 | (d,v,.u)=>v=.tp .nil
 | (d,v,.r u e zs c)=>v=.s d∧okZ Zs S0 d acc=true∧(Qt7 Y (Qea l0 ds Zs S0 i acc o) o u e zs c∨Jb4 Y (Qea l0 ds Zs S0 i acc o) o u e zs)
 | (d,v,.c)=>∃t,v=.s t∧Ge acc t=true∧K6 l0 i (ds.idxOf t)=true∧(o.op=.move (.tmp t)∨o.op=.assign (.tmp t))
 | (d,v,.t u e zs h)=>v=.s d∧okZ Zs S0 d acc=true∧Qt8 Y (Qy2 l0 Zs i acc) (Qea l0 ds Zs S0 i acc o) o u e zs h
 | (d,v,.o t c)=>v=.p d []∧okZ Zs S0 d acc=true∧Qt9 Y o t c
 | (d,v,.b ns)=>Qaa Y.gl P l0 (Jcr ds ns (Qea l0 ds Zs S0 i acc o)) o v∧(∀t∈ns,Ge acc t=true∧K6 l0 i (ds.idxOf t)=true)∧∀j∈Jc v,j∈ds→j∈ns
 | (d,v,.w id ob)=>Qua Y l0 ds Zs (Qea l0 ds Zs S0 i acc o) i acc o id ob
def isW:Gk→Bool
 | .w _ _=>true
 | _=>false
structure Qab (P:Program) (Y:TX) (Zs:List (Nat×Ob)) (n:Nat) (l0:List Oper) (ds:List Nat) (S0:XS) (o:Oper) (i:Nat) (acc:Got) (g:Nat×AV×Gk):Prop where
 gd:Tk l0 ds i acc o=some (Jkw g.2.2)
 wr:isW g.2.2=false→okW n S0 g.1=true
 dst:isW g.2.2=false→o.dst=some g.1
 ndst:isW g.2.2=true→o.dst=none∧g.1=1000000000+i
 ix:ds.getD i 0=g.1
 fnd:Qzi P Y Zs l0 ds S0 o i acc g
theorem Qub {l0:List Oper} {ds:List Nat} {i:Nat} {acc:Got} {op:Op} {t:Nat} (h:Qth l0 ds i acc op=some t):Ge acc t=true∧K6 l0 i (ds.idxOf t)=true∧(op=.move (.tmp t)∨op=.assign (.tmp t)):=by
 unfold Qth at h
 split at h
 ·obtain ⟨hb,h⟩:=bvT h
  simp only [Bool.and_eq_true] at hb
  simp at h; subst h
  exact ⟨hb.1,hb.2,.inl rfl⟩
 ·obtain ⟨hb,h⟩:=bvT h
  simp only [Bool.and_eq_true] at hb
  simp at h; subst h
  exact ⟨hb.1,hb.2,.inr rfl⟩
 ·cases h
theorem Quc {a b:Nat} (h:a≠b):(!Nat.beq a b)=true:=by
 cases hb:Nat.beq a b with
 | true=>exact absurd (Nat.eq_of_beq_eq_true hb) h
 | false=>rfl
theorem I2 {d:Nat}:∀{x:AV},(∀i∈Jc x,i≠d)→Uj d x=true
 | .d ..,_=>rfl | .a ..,_=>rfl | .z,_=>rfl | .ns,_=>rfl | .np,_=>rfl | .nm,_=>rfl | .nf,_=>rfl | .nil,_=>rfl
 | .p id _,h=>Quc (h id (by simp [Jc]))
 | .e id _,h=>Quc (h id (by simp [Jc]))
 | .s id,h=>Quc (h id (by simp [Jc]))
 | .m id,h=>Quc (h id (by simp [Jc]))
 | .w id _ _,h=>Quc (h id (by simp [Jc]))
 | .f _ c,h=>I2 (x:=c) h
 | .ag l,h=>I2 (x:=l) h
 | .tp l,h=>I2 (x:=l) h
 | .cons x y,h=>by
  simp only [Uj,Bool.and_eq_true]
  exact ⟨I2 fun i hi=>h i (List.mem_append_left _ hi),I2 fun i hi=>h i (List.mem_append_right _ hi)⟩
theorem L5 {ds:List Nat} {x:AV} (h:Jc x=[]):Gf ds x=true:=by
 unfold Gf
 rw [List.all_eq_true]
 exact fun d _=>I2 fun i hi=>by rw [h] at hi; cases hi
section
variable {P:Program} {Y:TX} {Zs:List (Nat×Ob)} {n:Nat} {l0:List Oper} {ds:List Nat} {S0:XS} {R:Type} {r:R}
theorem Qud {L:St} {o:Oper} {k:(u:Ty)→TypeId→List u.De→Nat→Option R} (h:Qtm Y L o.op k=some r):∃u e zs c,k u e zs c=some r∧Qt7 Y L o u e zs c:=by
 unfold Qtm at h
 split at h
 ·rename_i t lo co hop
  split at h
  ·rename_i te lv cv hte hl hc
   split at h
   ·rename_i e k1 nl k2 nc htd hli hci
    split at h
    ·rename_i ee u he hu
     split at h
     ·rename_i za hza
      split at h
      ·rename_i z hz
       obtain ⟨hb2,h⟩:=bvT h
       simp only [Bool.and_eq_true] at hb2
       obtain ⟨zs,hzs,h⟩:=Yy h
       exact ⟨u,e,zs,nc.toNat,h,t,lo,co,te,ee,lv,cv,k1,k2,nl,nc,za,z,hop,hte,Yr htd,he,hl,hc,hli,hci,hza,hz,hb2.1.1,hb2.1.2,hb2.2,hzs,rfl⟩
      ·cases h
     ·cases h
    ·cases h
   ·cases h
  ·cases h
 ·cases h
theorem Qzj {C:Nat→Option Ob} {L:St} {o:Oper} {k:(u:Ty)→TypeId→List u.De→Nat→Option R} (h:Jcp Y C L o.op k=some r):∃u e zs c,k u e zs c=some r∧Qt8 Y C L o u e zs c:=by
 unfold Jcp at h
 split at h
 ·rename_i s x t t' hop
  split at h
  ·rename_i te id xv hte hs hx
   split at h
   ·rename_i e' u xs hC
    split at h
    ·rename_i e htd
     split at h
     ·rename_i ee ys he hys
      have hb:=(bvT h).1
      obtain ⟨zs,hzs,hkk⟩:=Yy (bvT h).2
      simp only [Bool.and_eq_true] at hb
      obtain ⟨⟨⟨⟨⟨⟨b2,b3⟩,b4⟩,b5⟩,b6⟩,b7⟩,b8⟩:=hb
      clear h
      have e2:=Nat.eq_of_beq_eq_true b2
      have e3:=Nat.eq_of_beq_eq_true b7
      subst e2; subst e3
      exact ⟨u,e,zs,id,hkk,t,s,x,te,ee,xv,xs,ys,hop,hC,hte,Yr htd,he,hs,hx,hys,b3,b4,b5,b6,by simpa using b8,hzs⟩
     ·cases h
    ·cases h
   ·cases h
  ·cases h
 ·cases h
theorem Qzk {L:St} {o:Oper} {k:(u:Ty)→TypeId→List u.De→Nat→Option R} (h:Jcq Y L o.op k=some r):∃u e zs c,k u e zs c=some r∧Jb4 Y L o u e zs:=by
 unfold Jcq at h
 split at h
 ·rename_i s x t t' hop
  split at h
  ·rename_i te xv hte hs hx
   split at h
   ·rename_i e htd
    split at h
    ·rename_i ee u he hu
     split at h
     ·rename_i ys hys
      have hb:=(bvT h).1
      obtain ⟨zs,hzs,hkk⟩:=Yy (bvT h).2
      simp only [Bool.and_eq_true] at hb
      obtain ⟨⟨⟨⟨b2,b3⟩,b4⟩,b5⟩,b6⟩:=hb
      clear h
      have e2:=Nat.eq_of_beq_eq_true b2
      subst e2
      exact ⟨u,e,zs,0,hkk,t,s,x,te,ee,xv,ys,hop,hte,Yr htd,he,hs,hx,hys,b3,b4,b5,b6,hzs⟩
     ·cases h
    ·cases h
   ·cases h
  ·cases h
 ·cases h
theorem Qqx {o:Oper} {k:TypeId→AV→Option R} (h:Qkd Y o.op k=some r):∃t c,k t c=some r∧Qt9 Y o t c:=by
 unfold Qkd at h
 split at h
 ·rename_i t hop
  split at h
  ·rename_i e ty he hty
   split at h
   ·rename_i c hc
    obtain ⟨hb,h⟩:=bvT h
    simp only [Bool.and_eq_true] at hb
    exact ⟨t,c,h,e,ty,hop,he,hc,I1 hb.2⟩
   ·cases h
  ·cases h
 ·cases h
theorem O5 {acc:Got}:∀{ts:List Nat} {t:Nat},t∈Lj acc ts→Ge acc t=true
 | [],t,h=>by cases h
 | x::ts,t,h=>by
  simp only [Lj] at h
  cases hb:Ge acc x with
  | true =>
   rw [hb] at h
   rcases List.mem_cons.1 h with rfl | h
   ·exact hb
   ·exact O5 h
  | false=>rw [hb] at h; exact O5 h
theorem Qcu {l0:List Oper} {ds:List Nat} {i:Nat}:∀{ts:List Nat},Qdy l0 ds i ts=true→∀t∈ts,K6 l0 i (ds.idxOf t)=true
 | [],_,t,h=>by cases h
 | x::ts,hp,t,h=>by
  simp only [Qdy,Bool.and_eq_true] at hp
  rcases List.mem_cons.1 h with rfl | h
  ·exact hp.1
  ·exact Qcu hp.2 t h
theorem Kq:∀{l:List Nat} {t:Nat},Yn l t=true→t∈l
 | [],t,h=>by cases h
 | k::l,t,h=>by
  simp only [Yn] at h
  cases hb:Nat.beq k t with
  | true=>rw [Nat.eq_of_beq_eq_true hb]; exact .head _
  | false=>rw [hb] at h; exact .tail _ (Kq (by simpa using h))
theorem Qko {L:St} {i:Nat} {acc:Got} {p:Operand} {b el:Bool} {id:Nat} {path:List PS} (h:Qdz l0 ds L i acc p=some (b,el,id,path)) :
  (ev L [] p=some (.p id path)∧b=true∧el=false)∨(ev L [] p=some (.e id path)∧b=true∧el=true)∨(p=.tmp id∧path=[]∧b=false∧el=false∧Dm acc id=true∧K6 l0 i (ds.idxOf id)=true):=by
 unfold Qdz at h
 split at h
 ·rename_i hp
  simp only [Option.some.injEq,Prod.mk.injEq] at h
  obtain ⟨rfl,rfl,rfl,rfl⟩:=h
  exact .inl ⟨hp,rfl,rfl⟩
 ·rename_i hp
  simp only [Option.some.injEq,Prod.mk.injEq] at h
  obtain ⟨rfl,rfl,rfl,rfl⟩:=h
  exact .inr (.inl ⟨hp,rfl,rfl⟩)
 ·cases h
 ·split at h
  ·obtain ⟨hb,h⟩:=bvT h
   simp only [Bool.and_eq_true] at hb
   simp only [Option.some.injEq,Prod.mk.injEq] at h
   obtain ⟨rfl,rfl,rfl,rfl⟩:=h
   exact .inr (.inr ⟨rfl,rfl,rfl,rfl,hb.1,hb.2⟩)
  ·cases h
theorem Qqy {L:St} {i:Nat} {acc:Got} {o:Oper} {k:Nat→Ob→Option R} (h:Qke Y l0 ds Zs L i acc o.op k=some r):∃id ob,k id ob=some r∧Qua Y l0 ds Zs L i acc o id ob:=by
 unfold Qke at h
 split at h
 ·rename_i t p x hop
  split at h
  ·rename_i e b el id path0 v he ht hx
   obtain ⟨hb,h⟩:=bvT h
   simp only [Bool.and_eq_true] at hb
   have htt:=Qko ht
   split at h
   ·rename_i _ et u xs j sz ps hC _
    obtain ⟨y,hy,h⟩:=Yy h
    split at h
    ·rename_i c hc
     split at h
     ·rename_i z hz
      obtain ⟨hb2,h⟩:=bvT h
      simp only [Bool.and_eq_true] at hb2
      rcases htt with ⟨_,_,h3⟩ | ⟨h1,_,_⟩ | ⟨_,h2,_⟩
      ·rw [h3] at hb2; simp at hb2
      ·exact ⟨_,_,h,t,p,x,e,v,hop,he,hx,hb.1.1,hb.1.2,hb.2,.inr ⟨j,sz,ps,et,u,xs,y,c,z,h1,hC,hy,hc,hz,hb2.1.1.2,hb2.1.2,hb2.2,rfl⟩⟩
      ·cases h2
     ·cases h
    ·cases h
   ·rename_i path0 _ _ tid c hC _
    split at h
    ·rename_i c' hc'
     obtain ⟨hb2,h⟩:=bvT h
     simp only [Bool.and_eq_true,Bool.or_eq_true,Bool.not_eq_true'] at hb2
     rcases htt with ⟨h1,h2,h3⟩ | ⟨h1,_,h3⟩ | ⟨h1,h2,h3,_,h4,h5⟩
     ·exact ⟨_,_,h,t,p,x,e,v,hop,he,hx,hb.1.1,hb.1.2,hb.2,.inl ⟨path0,tid,c,c',hC,hc',hb2.1.1,rfl,.inl ⟨h1,hb2.2.resolve_left (by rw [h2]; simp)⟩⟩⟩
     ·rw [h3] at hb2; simp at hb2
     ·exact ⟨_,_,h,t,p,x,e,v,hop,he,hx,hb.1.1,hb.1.2,hb.2,.inl ⟨path0,tid,c,c',hC,hc',hb2.1.1,rfl,.inr ⟨h1,h2,h4,h5⟩⟩⟩
    ·cases h
   ·cases h
  ·cases h
 ·cases h
theorem Que (hT:Jb P Y.T) {o:Oper} {i:Nat} {acc:Got} {k:Nat×AV×Gk→Option R} (h:Qto Y n l0 ds Zs S0 o i acc k=some r):∃g,k g=some r∧Qab P Y Zs n l0 ds S0 o i acc g:=by
 unfold Qto at h
 split at h
 ·rename_i hd
  obtain ⟨hb,h⟩:=bvT h
  have hix:=Nat.eq_of_beq_eq_true hb
  split at h
  ·rename_i hg
   obtain ⟨id,ob,h,hm⟩:=Qqy h
   exact ⟨_,h,hg,(fun h=>by cases h),(fun h=>by cases h),fun _=>⟨hd,rfl⟩,hix,hm⟩
  ·cases h
 ·rename_i d hd
  obtain ⟨hb,h⟩:=bvT h
  simp only [Bool.and_eq_true] at hb
  have hix:=Nat.eq_of_beq_eq_true hb.2
  split at h
  ·rename_i hg
   exact ⟨_,h,hg,fun _=>hb.1,fun _=>hd,(fun h=>by cases h),hix,rfl⟩
  ·rename_i hg
   split at h
   ·rename_i t hcp
    obtain ⟨c1,c2,c3⟩:=Qub hcp
    exact ⟨_,h,hg,fun _=>hb.1,fun _=>hd,(fun h=>by cases h),hix,t,rfl,c1,c2,c3⟩
   ·split at h
    ·obtain ⟨u,e,zs,c,h,hm⟩:=Qud h
     obtain ⟨hb2,h⟩:=bvT h
     exact ⟨_,h,hg,fun _=>hb.1,fun _=>hd,(fun h=>by cases h),hix,rfl,hb2,.inl hm⟩
    ·obtain ⟨v,h,hv,hs⟩:=Jc2 (P:=P) (l0:=l0) hT h
     exact ⟨_,h,hg,fun _=>hb.1,fun _=>hd,(fun h=>by cases h),hix,hs,L5 hv⟩
    ·cases hns:Jkq (Cg l0 ds Zs S0 i acc o) o.op with
     | true =>
      rw [hns] at h
      simp only [cond_true] at h
      obtain ⟨u,e,zs,c,h,hm⟩:=Qzk h
      obtain ⟨hb2,h⟩:=bvT h
      exact ⟨_,h,hg,fun _=>hb.1,fun _=>hd,(fun h=>by cases h),hix,rfl,hb2,.inr hm⟩
     | false =>
      rw [hns] at h
      simp only [cond_false] at h
      obtain ⟨u,e,zs,h0,h,hm⟩:=Qzj h
      obtain ⟨hb2,h⟩:=bvT h
      exact ⟨_,h,hg,fun _=>hb.1,fun _=>hd,(fun h=>by cases h),hix,rfl,hb2,hm⟩
    ·obtain ⟨t,c,h,hm⟩:=Qqx h
     obtain ⟨hb2,h⟩:=bvT h
     exact ⟨_,h,hg,fun _=>hb.1,fun _=>hd,(fun h=>by cases h),hix,rfl,hb2,hm⟩
    ·cases hni:Hb (Lj acc (F3 o)) with
     | true =>
      rw [hni] at h
      obtain ⟨av,h1,h2⟩:=Dj (P:=P) hT rfl h
      obtain ⟨hb2,h1⟩:=bvT h1
      exact ⟨_,h1,hg,fun _=>hb.1,fun _=>hd,(fun h=>by cases h),hix,Jc1 h2,hb2⟩
     | false =>
      rw [hni] at h
      simp only [cond_false] at h
      obtain ⟨hpr,h⟩:=bvT h
      obtain ⟨av,h1,h2⟩:=Dj (P:=P) hT rfl h
      obtain ⟨hb2,h1⟩:=bvT h1
      refine ⟨_,h1,hg,fun _=>hb.1,fun _=>hd,(fun h=>by cases h),hix,Jc1 h2,fun t ht=>⟨O5 ht,Qcu hpr t ht⟩,fun j hj hjd=>?_⟩
      have:=List.all_eq_true.1 hb2 j hj
      simp only [Bool.or_eq_true] at this
      rcases this with h3 | h3
      ·exact absurd hjd (Da h3)
      ·exact Kq h3
    ·obtain ⟨av,h1,h2⟩:=Dj (P:=P) hT rfl h
     obtain ⟨hb2,h1⟩:=bvT h1
     exact ⟨_,h1,hg,fun _=>hb.1,fun _=>hd,(fun h=>by cases h),hix,Jc1 h2,hb2⟩
  ·cases h
def Tr (P:Program) (Y:TX) (Zs:List (Nat×Ob)) (n:Nat) (l0:List Oper) (ds:List Nat) (S0:XS):List Oper→Nat→Got→Got→Prop
 | [],_,_,[]=>True
 | o::l,i,acc,g::acc2=>Qab P Y Zs n l0 ds S0 o i acc g∧Tr P Y Zs n l0 ds S0 l (i+1) (acc++[g]) acc2
 | _,_,_,_=>False
theorem Tr.get:∀{l:List Oper} {i:Nat} {acc acc2:Got},Tr P Y Zs n l0 ds S0 l i acc acc2→acc2.length=l.length∧∀(j:Nat) o,l[j]?=some o→∃g,acc2[j]?=some g∧Qab P Y Zs n l0 ds S0 o (i+j) (acc++acc2.take j) g
 | [],i,acc,[],_=>⟨rfl,by simp⟩
 | o::l,i,acc,[],h=>h.elim
 | [],i,acc,_::_,h=>h.elim
 | o::l,i,acc,g::acc2,h=>by
  obtain ⟨h2,h3⟩:=Tr.get h.2
  refine ⟨by simp [h2],fun j o' ho=>?_⟩
  cases j with
  | zero =>
   simp at ho; subst ho
   exact ⟨g,rfl,by simpa using h.1⟩
  | succ j =>
   obtain ⟨g',q1,q2⟩:=h3 j o' (by simpa using ho)
   refine ⟨g',by simpa using q1,?_⟩
   rw [show i+(j+1)=i+1+j by omega]
   simpa using q2
theorem Qgu (hT:Jb P Y.T) {D:Got→Prop}:∀{m:Nat} {l:List Oper} {i:Nat} {acc:Got} {k:List Oper→Nat→Got→Option R},Qgb Y n l0 ds Zs S0 m l i acc k=some r →
  (∀l' i' acc',k l' i' acc'=some r→∃acc2,D (acc'++acc2)∧Tr P Y Zs n l0 ds S0 l' i' acc' acc2)→∃acc2,D (acc++acc2)∧Tr P Y Zs n l0 ds S0 l i acc acc2
 | 0,l,i,acc,k,h,H=>H l i acc h
 | m+1,[],i,acc,k,h,H=>by simp [Qgb] at h
 | m+1,o::l,i,acc,k,h,H=>by
  simp only [Qgb] at h
  obtain ⟨g,h1,h2⟩:=Que hT h
  obtain ⟨acc2,h3,h4⟩:=Qgu hT h1 H
  exact ⟨g::acc2,by simpa using h3,h2,h4⟩
theorem O6:∀{acc:Got} {t:Nat} {b:Bool},Cf acc t=some (.d .bool b)→Qtp acc t b=acc
 | [],t,b,h=>by simp [Cf] at h
 | (d,v,q)::l,t,b,h=>by
  simp only [Qtp]
  cases q<;>simp only [Cf] at h<;>cases hb:Nat.beq d t<;>rw [hb] at h
  all_goals first | (simp only [cond_false]; rw [O6 (acc:=l) h]; done) | skip
  all_goals first | (cases h; done) | skip
  simp at h; subst h
  rfl
theorem Nk (hT:Jb P Y.T) {K:List Con} (hK:∀c∈K,Qn P Y.gl c∧Runs P c.f):∀{h:Hn} {l:List Oper} {i:Nat} {acc:Got} {k:Hn→Got→Option R},Af Y n l0 ds Zs S0 K h l i acc k=some r →
  ∃acc2,(∃h',k h' (acc++acc2)=some r)∧Tr P Y Zs n l0 ds S0 l i acc acc2
 | .tl h,l,i,acc,k,hs=>by
  simp only [Af] at hs
  split at hs
  ·exact ⟨[],⟨h,by simpa using hs⟩,trivial⟩
  ·cases hs
 | .n m g,l,i,acc,k,hs=>by
  simp only [Af] at hs
  exact Qgu hT (D:=fun a=>∃h',k h' a=some r) hs fun l' i' acc' h'=>Nk hT hK h'
 | .call c g,l,i,acc,k,hs=>by
  simp only [Af] at hs
  split at hs
  ·rename_i con o l' hc
   split at hs
   ·rename_i d hd
    obtain ⟨hb,hs⟩:=bvT hs
    simp only [Bool.and_eq_true] at hb
    have hix:=Nat.eq_of_beq_eq_true hb.2
    split at hs
    ·rename_i hg
     have hcm:=hK con (List.mem_of_getElem? hc)
     obtain ⟨v,h1,h2,h3⟩:=Qzh (l0:=l0) hcm.1 hcm.2 hs
     obtain ⟨acc2,⟨h',h4⟩,h5⟩:=Nk hT hK h1
     exact ⟨(d,v,.v)::acc2,⟨h',by simpa using h4⟩,⟨hg,fun _=>hb.1,fun _=>hd,(fun h=>by cases h),hix,h3,L5 h2⟩,h5⟩
    ·cases hs
   ·cases hs
  ·cases hs
 | .so t x y,l,i,acc,k,hs=>by
  simp only [Af] at hs
  split at hs
  ·rename_i v hv
   cases v with
   | true =>
    rw [if_pos rfl,O6 hv] at hs
    exact Nk hT hK hs
   | false =>
    rw [if_neg (by simp),O6 hv] at hs
    exact Nk hT hK hs
  ·cases hs
 | .done,l,i,acc,k,hs=>by simp [Af] at hs
 | .nl m g,l,i,acc,k,hs=>by simp [Af] at hs
 | .md m g,l,i,acc,k,hs=>by simp [Af] at hs
 | .mt _ _ _ _,l,i,acc,k,hs=>by simp [Af] at hs
 | .op _ _ _ _,l,i,acc,k,hs=>by simp [Af] at hs
 | .fm _ _,l,i,acc,k,hs=>by simp [Af] at hs
 | .keep m g,l,i,acc,k,hs=>by simp [Af] at hs
 | .fz m g,l,i,acc,k,hs=>by simp [Af] at hs
 | .sp _ _ _ _ _ _ _ _,l,i,acc,k,hs=>by simp [Af] at hs
def Qgv:Value→Nat
 | .pointer (some a)=>a.block
 | _=>0
def Qac (a:Act):List Nat→(Nat→Value)→Nat→Value
 | [],ρ=>ρ
 | d::l,ρ=>Qac a l (upd ρ d (a.tmps.getD d undef))
def Dp (a:Act):List Nat→(Nat→Nat)→Nat→Nat
 | [],β=>β
 | d::l,β=>Dp a l (upd β d (Qgv (a.tmps.getD d undef)))
theorem G3 {a:Act} {C:(Nat→Nat)→(Nat→Value)→Prop}:∀{l:List Nat} {β:Nat→Nat} {ρ:Nat→Value},C β ρ→(∀d∈l,∀β ρ,C β ρ→C (upd β d (Qgv (a.tmps.getD d undef))) (upd ρ d (a.tmps.getD d undef)))→C (Dp a l β) (Qac a l ρ)
 | [],β,ρ,h,_=>h
 | d::l,β,ρ,h,hs=>G3 (l:=l) (hs d (.head _) β ρ h) fun d' hd=>hs d' (.tail _ hd)
theorem Qad {a:Act} {l:List Nat} {β:Nat→Nat} {ρ:Nat→Value} {d:Nat} (h:d∉l):Dp a l β d=β d∧Qac a l ρ d=ρ d :=
 G3 (C:=fun β' ρ'=>β' d=β d∧ρ' d=ρ d) ⟨rfl,rfl⟩ fun e he β' ρ' h'=>by
  have hne:d≠e:=fun q=>h (q▸he)
  rw [Zc _ _ hne,Zc _ _ hne]; exact h'
theorem Fl {a:Act}:∀{l:List Nat} {β:Nat→Nat} {ρ:Nat→Value} {d:Nat},d∈l→Dp a l β d=Qgv (a.tmps.getD d undef)∧Qac a l ρ d=a.tmps.getD d undef
 | e::l,β,ρ,d,h=>by
  by_cases hm:d∈l
  ·exact Fl (l:=l) hm
  ·rcases List.mem_cons.1 h with rfl | h
   ·have:=Qad (a:=a) (l:=l) (β:=upd β d (Qgv (a.tmps.getD d undef))) (ρ:=upd ρ d (a.tmps.getD d undef)) hm
    rw [J7,J7] at this
    exact this
   ·exact absurd h hm
theorem L6 {a a':Act}:∀{l:List Nat} {β:Nat→Nat} {ρ:Nat→Value},(∀t∈l,a'.tmps.getD t undef=a.tmps.getD t undef)→Dp a' l β=Dp a l β∧Qac a' l ρ=Qac a l ρ
 | [],β,ρ,_=>⟨rfl,rfl⟩
 | d::l,β,ρ,h=>by
  simp only [Dp,Qac,h d (.head _)]
  exact L6 (l:=l) fun t ht=>h t (.tail _ ht)
def Qqz (β:Nat→Nat) (ρ:Nat→Value):Nat×AV×Gk→FA
 | (d,v,.v)=>⟨fun ok w a=>∃cs,a.tmps.getD d undef=v.val cs∧cr β ρ ok w false v cs,fun ⟨cs,h1,h2⟩ he=>⟨cs,h1,We h2 he⟩,fun ⟨cs,h1,h2⟩ hk=>⟨cs,h1,V1 h2 hk⟩⟩
 | (d,_,.r _ _ zs _)=>⟨fun _ _ a=>∃A c,a.tmps.getD d undef=.slice A zs.length c,fun h _=>h,fun h _=>h⟩
 | (d,_,.o _ _)=>⟨fun _ _ a=>∃b,a.tmps.getD d undef=.pointer (some ⟨b,0,none⟩),fun h _=>h,fun h _=>h⟩
 | (d,v,.b ns)=>⟨fun ok w a=>∃cs,a.tmps.getD d undef=v.val cs∧cr (Dp a ns β) (Qac a ns ρ) ok w false v cs,fun ⟨cs,h1,h2⟩ he=>⟨cs,h1,We h2 he⟩,fun ⟨cs,h1,h2⟩ hk=>⟨cs,h1,V1 h2 hk⟩⟩
 | (d,.s t,.c)=>⟨fun _ _ a=>a.tmps.getD d undef=a.tmps.getD t undef,fun h _=>h,fun h _=>h⟩
 | (_,_,.c)=>⟨fun _ _ _=>True,fun h _=>h,fun h _=>h⟩
 | (_,_,.w _ _)=>⟨fun _ _ _=>True,fun h _=>h,fun h _=>h⟩
 | (d,_,.u)=>⟨fun _ _ a=>a.tmps.getD d undef=undef,fun h _=>h,fun h _=>h⟩
 | (d,_,.t _ _ zs _)=>⟨fun _ _ a=>∃A c,a.tmps.getD d undef=.slice A zs.length c,fun h _=>h,fun h _=>h⟩
def Qbr (β:Nat→Nat) (ρ:Nat→Value) (v:Value) (id:Nat):Ob→TL
 | .var t c=>G0 β ρ (Qgv v) t c
 | .row e t xs=>ml v e (rt t) xs
 | .tail e t xs=>Um v e (rt t) xs
 | o=>Q2 β ρ id o
def tlX (β:Nat→Nat) (ρ:Nat→Value) (acc:Got) (a:Act) (id:Nat) (ob:Ob):TL:=bif Yn (J0 acc) id then Qbr β ρ (a.tmps.getD id undef) id ob else Q2 β ρ id ob
def Dq (Zs:List (Nat×Ob)) (acc:Got):List Nat:=Y0 Zs++J0 acc
def fX (β:Nat→Nat) (ρ:Nat→Value) (Zs:List (Nat×Ob)) (acc:Got) (E:Nat→Bool) (a:Act) (id:Nat):Option TL:=(U0 E id acc 0 (Qe Zs id)).map (tlX β ρ acc a id)
def OWx (β:Nat→Nat) (ρ:Nat→Value) (Zs:List (Nat×Ob)) (acc:Got) (E:Nat→Bool) (a:Act):List TL:=(Dq Zs acc).filterMap (fX β ρ Zs acc E a)
theorem O7:∀{acc:Got} {t:Nat} {v:AV},Cf acc t=some v→(t,v,.v)∈acc
 | [],t,v,h=>by simp [Cf] at h
 | (d,u,q)::l,t,v,h=>by
  cases q<;>simp only [Cf] at h<;>cases hb:Nat.beq d t<;>rw [hb] at h
  all_goals first | exact .tail _ (O7 (acc:=l) h) | skip
  all_goals first | (cases h; done) | skip
  have:=Nat.eq_of_beq_eq_true hb
  simp at h; subst h; subst this
  exact .head _
theorem Dr:∀{env:List En} {e:En},e∈Qga env→e.cs=[]∧e∈env∧Nat.blt e.t 100000=false
 | [],e,h=>by simp [Qga] at h
 | x::l,e,h=>by
  simp only [Qga] at h
  cases hb:Nat.blt x.t 100000 with
  | true =>
   rw [hb] at h
   obtain ⟨h1,h2,h3⟩:=Dr (env:=l) h
   exact ⟨h1,.tail _ h2,h3⟩
  | false =>
   rw [hb] at h
   simp only [cond_false] at h
   split at h
   ·rename_i hc
    rcases List.mem_cons.1 h with rfl | h
    ·exact ⟨hc,.head _,hb⟩
    ·obtain ⟨h1,h2,h3⟩:=Dr (env:=l) h
     exact ⟨h1,.tail _ h2,h3⟩
   ·obtain ⟨h1,h2,h3⟩:=Dr (env:=l) h
    exact ⟨h1,.tail _ h2,h3⟩
theorem Al {l0:List Oper} {i:Nat} {acc:Got} {env:List En}:∀{ts:List Nat} {e:En},e∈Qdx l0 ds i acc env ts →
  e.cs=[]∧((Cf acc e.t=some e.av∧K6 l0 i (ds.idxOf e.t)=true)∨(Ec ds e.t=true∧e∈env∧Nat.blt e.t 100000=true)∨(e∈env∧Nat.blt e.t 100000=false))
 | [],e,h=>by
  obtain ⟨h1,h2,h3⟩:=Dr (by simpa [Qdx] using h)
  exact ⟨h1,.inr (.inr ⟨h2,h3⟩)⟩
 | t::ts,e,h=>by
  simp only [Qdx] at h
  split at h
  ·rename_i v hv
   cases hp:K6 l0 i (ds.idxOf t) with
   | true =>
    rw [hp] at h
    rcases List.mem_cons.1 h with rfl | h
    ·exact ⟨rfl,.inl ⟨hv,hp⟩⟩
    ·exact Al h
   | false=>rw [hp] at h; exact Al h
  ·cases hb:Ec ds t with
   | true =>
    rw [hb] at h
    simp only [cond_true] at h
    split at h
    ·rename_i t' v he
     obtain ⟨h1,h2⟩:=Uh he
     rcases List.mem_cons.1 h with rfl | h
     ·simp only at h2
      subst h2
      exact ⟨rfl,.inr (.inl ⟨hb,h1,Aa he⟩)⟩
     ·exact Al h
    ·exact Al h
   | false=>rw [hb] at h; exact Al h
def Ds (a:Act) (acc:Got) (ρ:Nat→Value):Nat→Value:=Qac a (J0 acc) ρ
def L7 (a:Act) (acc:Got) (β:Nat→Nat):Nat→Nat:=Dp a (J0 acc) β
def Qbs:Gk→Bool
 | .r _ _ _ _=>true
 | .t _ _ _ _=>true
 | .o _ _=>true
 | _=>false
theorem Uo {acc:Got} {d:Nat}:d∈J0 acc↔∃v q,(d,v,q)∈acc∧Qbs q=true:=by
 induction acc with
 | nil=>simp [J0]
 | cons g l ih =>
  obtain ⟨d',v',q'⟩:=g
  have key:Qbs q'=false→((∃v q,(d,v,q)∈l∧Qbs q=true)↔∃v q,(d,v,q)∈(d',v',q')::l∧Qbs q=true):=by
   intro hq
   constructor
   ·rintro ⟨v,q,h,hn⟩; exact ⟨v,q,.tail _ h,hn⟩
   ·rintro ⟨v,q,h,hn⟩
    rcases List.mem_cons.1 h with h | h
    ·injection h with _ h; injection h with _ h; subst h; rw [hq] at hn; cases hn
    ·exact ⟨v,q,h,hn⟩
  have key2:Qbs q'=true→((d=d'∨∃v q,(d,v,q)∈l∧Qbs q=true)↔∃v q,(d,v,q)∈(d',v',q')::l∧Qbs q=true):=by
   intro hq
   constructor
   ·rintro (rfl | ⟨v,q,h,hn⟩)
    ·exact ⟨v',q',.head _,hq⟩
    ·exact ⟨v,q,.tail _ h,hn⟩
   ·rintro ⟨v,q,h,hn⟩
    rcases List.mem_cons.1 h with h | h
    ·injection h with h _; exact .inl h
    ·exact .inr ⟨v,q,h,hn⟩
  cases q' with
  | v=>simp only [J0,ih]; exact key rfl
  | c=>simp only [J0,ih]; exact key rfl
  | u=>simp only [J0,ih]; exact key rfl
  | b ns=>simp only [J0,ih]; exact key rfl
  | w j0 b0=>simp only [J0,ih]; exact key rfl
  | o t0 c0 =>
   show d∈d'::J0 l↔_
   rw [List.mem_cons,ih]; exact key2 rfl
  | r u0 e0 zs0 c0 =>
   show d∈d'::J0 l↔_
   rw [List.mem_cons,ih]; exact key2 rfl
  | t u0 e0 zs0 c0 =>
   show d∈d'::J0 l↔_
   rw [List.mem_cons,ih]; exact key2 rfl
theorem V4:∀{acc:Got} {t:Nat},Ge acc t=true→∃v u e zs c,(t,v,Gk.r u e zs c)∈acc
 | [],t,h=>by simp [Ge] at h
 | (d,v,.v)::l,t,h=>let ⟨v,u,e,zs,c,h⟩:=V4 (acc:=l) h; ⟨v,u,e,zs,c,.tail _ h⟩
 | (d,v,.c)::l,t,h=>let ⟨v,u,e,zs,c,h⟩:=V4 (acc:=l) h; ⟨v,u,e,zs,c,.tail _ h⟩
 | (d,v,.u)::l,t,h=>let ⟨v,u,e,zs,c,h⟩:=V4 (acc:=l) h; ⟨v,u,e,zs,c,.tail _ h⟩
 | (d,v,.t _ _ _ _)::l,t,h=>let ⟨v,u,e,zs,c,h⟩:=V4 (acc:=l) h; ⟨v,u,e,zs,c,.tail _ h⟩
 | (d,v,.o _ _)::l,t,h=>let ⟨v,u,e,zs,c,h⟩:=V4 (acc:=l) h; ⟨v,u,e,zs,c,.tail _ h⟩
 | (d,v,.b _)::l,t,h=>let ⟨v,u,e,zs,c,h⟩:=V4 (acc:=l) h; ⟨v,u,e,zs,c,.tail _ h⟩
 | (d,v,.w _ _)::l,t,h=>let ⟨v,u,e,zs,c,h⟩:=V4 (acc:=l) h; ⟨v,u,e,zs,c,.tail _ h⟩
 | (d,v,.r u e zs c)::l,t,h=>by
  simp only [Ge,Bool.or_eq_true] at h
  rcases h with h | h
  ·rw [←Nat.eq_of_beq_eq_true h]; exact ⟨v,u,e,zs,c,.head _⟩
  ·obtain ⟨v,u,e,zs,c,h⟩:=V4 (acc:=l) h; exact ⟨v,u,e,zs,c,.tail _ h⟩
theorem L8:∀{acc:Got} {t:Nat},Dm acc t=true→∃v ty c,(t,v,Gk.o ty c)∈acc
 | [],t,h=>by simp [Dm] at h
 | (d,v,q)::l,t,h=>by
  cases q<;>simp only [Dm] at h
  case o ty c =>
   simp only [Bool.or_eq_true] at h
   rcases h with h | h
   ·rw [←Nat.eq_of_beq_eq_true h]; exact ⟨v,ty,c,.head _⟩
   ·obtain ⟨v,ty,c,h⟩:=L8 (acc:=l) h; exact ⟨v,ty,c,.tail _ h⟩
  all_goals
   obtain ⟨v,ty,c,h⟩:=L8 (acc:=l) h
   exact ⟨v,ty,c,.tail _ h⟩
theorem Qgw {C:Nat→Prop}:∀{n:Nat},(∀i,i<n→C i)→Qsp C n
 | 0,_=>trivial
 | n+1,h=>⟨Qgw fun i hi=>h i (by omega),h n (by omega)⟩
theorem Qgx {l:List Nat} {t:Nat} (h:t∉l):Ec l t=true:=by
 induction l with
 | nil=>rfl
 | cons k l ih =>
  simp only [Ec]
  cases hb:Nat.beq k t with
  | true=>exact absurd (Nat.eq_of_beq_eq_true hb▸List.mem_cons_self) h
  | false=>exact ih fun hm=>h (.tail _ hm)
theorem R8 {d:Nat}:∀{ks:List Nat},d∉Ls ks d
 | [],h=>by cases h
 | k::ks,h=>by
  simp only [Ls] at h
  cases hb:Nat.beq k d with
  | true=>rw [hb] at h; exact R8 (ks:=ks) h
  | false =>
   rw [hb] at h
   rcases List.mem_cons.1 h with rfl | h
   ·simp [Nat.beq_refl] at hb
   ·exact R8 (ks:=ks) h
section
variable {X:Cx} {β:Nat→Nat} {ρ:Nat→Value} {a0:Act} {w0:World} {acc:Got}
def P6 (X:Cx) (ds:List Nat) (a:Act):GL:=(Xu X.n a).filter fun p=>Ec ds p.1
theorem Qcv {ds:List Nat} {t:Nat} (ht:t<X.n) (hn:t∉ds) (a:Act):(t,Gd.AV.v (a.tmps.getD t undef))∈P6 X ds a :=
 List.mem_filter.2 ⟨List.mem_map.2 ⟨t,List.mem_range.2 ht,rfl⟩,Qgx hn⟩
theorem O8 {ds:List Nat} {a:Act} {p:Nat×Gd.AV} (h:p∈P6 X ds a):p.1∉ds∧p.1<X.n∧p.2=.v (a.tmps.getD p.1 undef):=by
 obtain ⟨h1,h2⟩:=List.mem_filter.1 h
 obtain ⟨t,ht,rfl⟩:=List.mem_map.1 h1
 exact ⟨Da h2,List.mem_range.1 ht,rfl⟩
theorem getD_some {l:List Nat} {i d:Nat} (h:l[i]?=some d):l.getD i 0=d:=by simp [List.getD_eq_getElem?_getD,h]
theorem I3 {l:List Nat} {i d:Nat} (hi:i<l.length) (h:l.getD i 0=d):l[i]?=some d:=by
 rw [List.getD_eq_getElem?_getD,List.getElem?_eq_getElem hi] at h
 rw [List.getElem?_eq_getElem hi]; exact congrArg some h
def Qcw (P:Program) (Y:TX) (Zs:List (Nat×Ob)) (n:Nat) (l0:List Oper) (ds:List Nat) (S0:XS) (acc:Got):Prop :=
 acc.length=ds.length∧∀(i:Nat) g,acc[i]?=some g→∃o,l0[i]?=some o∧Qab P Y Zs n l0 ds S0 o i (acc.take i) g
theorem O9 {acc:Got} {i:Nat} {g:Nat×AV×Gk} (h:acc[i]?=some g):i<acc.length:=by
 rcases Nat.lt_or_ge i acc.length with q | q
 ·exact q
 ·rw [List.getElem?_eq_none q] at h; cases h
theorem Fn (hnd:ds.Nodup) (hA:Qcw P Y Zs n l0 ds S0 acc) {i:Nat} {g:Nat×AV×Gk} (hg:g∈acc.take i):∃j,acc[j]?=some g∧ds[j]?=some g.1∧ds.idxOf g.1=j∧(isW g.2.2=false→okW n S0 g.1=true):=by
 obtain ⟨j,hj⟩:=List.getElem?_of_mem hg
 have hj':acc[j]?=some g:=by
  rw [List.getElem?_take] at hj
  split at hj
  ·exact hj
  ·cases hj
 obtain ⟨oj,hoj,hGj⟩:=hA.2 j _ hj'
 have hjd:j<ds.length:=by rw [←hA.1]; exact O9 hj'
 have hdj:=I3 hjd hGj.ix
 refine ⟨j,hj',hdj,?_,hGj.wr⟩
 have:=hnd.idxOf_getElem j hjd
 rw [List.getElem?_eq_getElem hjd] at hdj
 injection hdj with hdj
 rw [hdj] at this
 exact this
theorem Quf (hA:Qcw P Y Zs n l0 ds S0 acc) (hnd:ds.Nodup):∀(i:Nat) fv,(acc.map (Qqz β ρ))[i]?=some fv→∀(a a':Act) ok w,(∀j e:Nat,(j=i∨K6 l0 i j=true)→ds[j]?=some e→a'.tmps.getD e undef=a.tmps.getD e undef)→fv.p ok w a→fv.p ok w a':=by
 intro i fv hf a a' ok w hsame hp
 rw [List.getElem?_map] at hf
 obtain ⟨g,hg,hfv⟩:=Option.map_eq_some_iff.1 hf
 obtain ⟨o,ho,hG⟩:=hA.2 i g hg
 have hd:ds[i]?=some g.1:=I3 (by rw [←hA.1]; exact O9 hg) hG.ix
 have h1:=hsame i g.1 (.inl rfl) hd
 subst hfv
 obtain ⟨d,v,q⟩:=g
 cases q with
 | v=>obtain ⟨cs,h2,h3⟩:=hp; exact ⟨cs,h1.trans h2,h3⟩
 | r u e zs c=>obtain ⟨b,c',h2⟩:=hp; exact ⟨b,c',h1.trans h2⟩
 | o t c=>obtain ⟨b,h2⟩:=hp; exact ⟨b,h1.trans h2⟩
 | b ns =>
  obtain ⟨cs,h2,h3⟩:=hp
  obtain ⟨_,hns,_⟩:=hG.fnd
  have hcg:=L6 (a:=a) (a':=a') (l:=ns) (β:=β) (ρ:=ρ) fun t ht=>by
   obtain ⟨c1,c2⟩:=hns t ht
   obtain ⟨v',u,e,zs,c,hm⟩:=V4 c1
   obtain ⟨j,hj,hdj,hix,_⟩:=Fn hnd hA hm
   simp only at hix hdj
   rw [hix] at c2
   exact hsame j t (.inr c2) hdj
  exact ⟨cs,h1.trans h2,by rw [hcg.1,hcg.2]; exact h3⟩
 | t u e zs c=>obtain ⟨b,c',h2⟩:=hp; exact ⟨b,c',h1.trans h2⟩
 | u=>exact h1.trans hp
 | w id ob=>trivial
 | c =>
  obtain ⟨t,rfl,c1,c2,c3⟩:=hG.fnd
  obtain ⟨v',u,e,zs,c,hm⟩:=V4 c1
  obtain ⟨j,hj,hdj,hix,_⟩:=Fn hnd hA hm
  simp only at hix hdj
  rw [hix] at c2
  have h2:=hsame j t (.inr c2) hdj
  have hp':a.tmps.getD d undef=a.tmps.getD t undef:=hp
  show a'.tmps.getD d undef=a'.tmps.getD t undef
  rw [h2,←hp']; exact h1
theorem Qeb {ops:Array Oper} {o:Oper} {a:Act} {N:Nat} (hs:a.tmps.size=N) (hw:Region.wanted o (yielded ops a.tmps)=true):Kg ops (Xu N a) o=some true:=by
 unfold Kg
 unfold Region.wanted at hw
 split
 ·rfl
 ·rename_i j want hg
  rw [hg] at hw
  simp only [beq_iff_eq] at hw
  unfold yielded at hw
  split
  ·rename_i p hp
   rw [hp] at hw
   split
   ·rename_i t ht
    simp only [Option.bind_some,ht] at hw
    split at hw
    ·rename_i b hb
     simp at hw; subst hw
     have hlt:t<N:=by
      rw [←hs]
      rcases Nat.lt_or_ge t a.tmps.size with h1 | h1
      ·exact h1
      ·rw [Array.getElem?_eq_none h1] at hb; cases hb
     have e:J3 (Xu N a) t=some (.v (a.tmps.getD t undef)):=by
      simp only [Xu]
      rw [Iy (f:=fun t=>Gd.AV.v (a.tmps.getD t undef)) (List.mem_range.2 hlt)]
     rw [e]
     simp [Array.getD_eq_getD_getElem?,hb]
    ·cases hw
   ·rename_i ht
    simp [ht] at hw
  ·rename_i hp
   simp [hp] at hw
theorem Dt:∀{acc:Got} {t:Nat},Ir acc t=true→∃v,(t,v,.u)∈acc
 | [],t,h=>by simp [Ir] at h
 | (d,v,q)::l,t,h=>by
  cases q<;>simp only [Ir] at h
  case u =>
   simp only [Bool.or_eq_true] at h
   rcases h with h | h
   ·rw [←Nat.eq_of_beq_eq_true h]; exact ⟨v,.head _⟩
   ·obtain ⟨v',h'⟩:=Dt (acc:=l) h; exact ⟨v',.tail _ h'⟩
  all_goals
   cases hb:Nat.beq d t<;>rw [hb] at h
   ·obtain ⟨v',h'⟩:=Dt (acc:=l) h; exact ⟨v',.tail _ h'⟩
   ·cases h
theorem Qq0 (hT:Jb P Y.T) {X:Cx} {β:Nat→Nat} {G:GL} {D:List DF} {O2:List TL} {a:Act} {w:World} {ops:Array Oper} {Q:Exit→Act→World→Prop} {rest:List Oper} {u:Ty} {A:Option Addr} {m c:Nat} {e:TypeId} {xs ys zs:List u.De}
  (h:Sb β X G D [] (Um (.slice A m c) e (rt u) xs::O2) a w) {t:TypeId} {s x:Operand} {d:Nat} {ps:String} {af:Array Edge} {ty:TypeId} {gd:Option (Nat×Bool)}
  (hg:Kg ops G ⟨some d,.call ⟨.builtin .append,⟨[s,x]⟩,⟨[t,t]⟩⟩,ty,ps,af,gd⟩=some true) (hlt:okD X d=true) {te ee:TE} (hte:Qi Y.T t=some te) (htd:te.d=.slice e) (he:Qi Y.T e=some ee) (hsz:Nat.beq ee.size u.size=true)
  (hpos:Nat.ble 1 ee.size=true) (hby:Nat.ble 1 ee.bytes=true) (hzl:Nat.beq (Qm ee.z).length ee.size=true) {A2:Option Addr} {m2 c2:Nat} (hs1:gv G s=some (.v (.slice A m c))) (hx1:gv G x=some (.v (.slice A2 m2 c2)))
  (hDy:isV (rSl (rt u)) (Jh X.ok X.w.heap.size β [] (Um (.slice A m c) e (rt u) xs::O2) w) w ys (.slice A2 m2 c2)) (happ:app ee.bytes xs ys=some zs)
  (hk:∀A' c' a' w',Sb β X (Zr G d (.v (.slice A' zs.length c'))) D [] (Um (.slice A' zs.length c') e (rt u) zs::O2) a' w'→wpList P ops Q rest a' w') :
  wpList P ops Q (⟨some d,.call ⟨.builtin .append,⟨[s,x]⟩,⟨[t,t]⟩⟩,ty,ps,af,gd⟩::rest) a w:=by
 have hes:ee.size=(rt u).size:=by rw [Jv]; exact Nat.eq_of_beq_eq_true hsz
 have hxv:isV (rSl (rt u)) (Jh X.ok X.w.heap.size β [] (Um (.slice A m c) e (rt u) xs::O2) w) w xs (.slice A m c):=(h.own _ (.head _)).1.1
 have hsim:Uf (Um (.slice A m c) e (rt u) xs::O2) (tl (.slice A m c) e ee.size::O2) :=
  .cons ⟨fun _=>Iff.rfl,fun _ _=>by rw [hes]; exact Iff.rfl,fun _ _ hp=>by rw [hes]; exact hp.2⟩ (Uf.refl _)
 have hG2:=Sb.simO h hsim
 have hok:∀b o,Jh X.ok X.w.heap.size β [] (Um (.slice A m c) e (rt u) xs::O2) w b o→Jh X.ok X.w.heap.size β [] (tl (.slice A m c) e ee.size::O2) w b o:=hsim.ok
 have hG3:=hG2.addD (d:=DF.v (rSl (rt u)) xs (.slice A m c)) (hxv.weak hok)
 refine Ps hT hG3 0 0 [] O2 (r:=rt u) hg hlt hte htd he hes hzl hpos hby rfl hs1 hx1 rfl (hDy.weak hok) happ fun A' c' a' w' hv' hS=>hk A' c' a' w' ?_
 simp only [List.nil_append] at hS hv'
 have hS1:Sb β X (Zr G d (.v (.slice A' zs.length c'))) D [] (tl (.slice A' zs.length c') e ee.size::O2) a' w':={ hS with dat:=hS.dat.2 }
 have hpw:=List.pairwise_cons.1 hS1.dOO
 refine Sb.remake hS1 (fun t' ht'=>?_) ?_
 ·rcases List.mem_cons.1 ht' with rfl | ht'
  ·refine .inl ⟨tl (.slice A' zs.length c') e ee.size,.head _,fun _ hg=>hg,fun _ _ hc=>by rw [hes]; exact hc,hv',?_⟩
   have:=(hS1.own (tl (.slice A' zs.length c') e ee.size) (.head _)).1
   rw [hes] at this
   exact this
  ·exact .inl ⟨t',.tail _ ht',fun _ hg=>hg,fun _ _ hc=>hc,(hS1.own t' (.tail _ ht')).1⟩
 ·exact List.pairwise_cons.2 ⟨fun t ht=>hpw.1 t ht,hpw.2⟩
end
end
end Gx

/- Objects of an open region. -/
namespace Gx
open Go Go.RowKit Gd
set_option linter.unusedVariables false
set_option linter.unusedSimpArgs false
theorem Qec {id d:Nat} {q:Gk} {c:Option Ob} (h:Yj id d q=false):Em id d q c=c:=by
 cases q<;>simp only [Yj,Bool.or_eq_false_iff] at h<;>simp only [Em]
 ·rw [h]; rfl
 ·rw [h.1,h.2]; rfl
 ·rw [h]; rfl
 ·rw [h]; rfl
theorem Fo {E:Nat→Bool} {id:Nat}:∀{l1 l2:Got} {j:Nat} {c:Option Ob},U0 E id (l1++l2) j c=U0 E id l2 (j+l1.length) (U0 E id l1 j c)
 | [],l2,j,c=>rfl
 | (d,v,q)::l1,l2,j,c=>by
  simp only [List.cons_append,U0,Fo (l1:=l1),List.length_cons]
  rw [show j+1+l1.length=j+(l1.length+1) by omega]
theorem Ev {E E':Nat→Bool} {id:Nat}:∀{l:Got} {j:Nat} {c:Option Ob},(∀k g,l[k]?=some g→Yj id g.1 g.2.2=true→E (j+k)=E' (j+k))→U0 E id l j c=U0 E' id l j c
 | [],j,c,_=>rfl
 | (d,v,q)::l,j,c,h=>by
  simp only [U0]
  have e:(bif E j then Em id d q c else c)=(bif E' j then Em id d q c else c):=by
   cases ht:Yj id d q with
   | true=>rw [show E j=E' j from h 0 _ rfl ht]
   | false=>rw [Qec ht]; cases E j<;>cases E' j<;>rfl
  rw [e]
  exact Ev fun k g hk ht=>by
   have:=h (k+1) g (by simpa using hk) ht
   rw [show j+1+k=j+(k+1) by omega]; exact this
theorem H7 {E:Nat→Bool} {id:Nat}:∀{l:Got} {j:Nat} {c:Option Ob},(∀k g,l[k]?=some g→Yj id g.1 g.2.2=true→E (j+k)=false)→U0 E id l j c=c
 | [],j,c,_=>rfl
 | (d,v,q)::l,j,c,h=>by
  simp only [U0]
  have e:(bif E j then Em id d q c else c)=c:=by
   cases ht:Yj id d q with
   | true=>rw [show E j=false from h 0 _ rfl ht]; rfl
   | false=>rw [Qec ht]; cases E j<;>rfl
  rw [e]
  exact H7 fun k g hk ht=>by
   have:=h (k+1) g (by simpa using hk) ht
   rw [show j+1+k=j+(k+1) by omega]; exact this
abbrev Zm (E:Nat→Bool) (i:Nat):Nat→Bool:=fun j=>j==i||E j
theorem Qcx {acc:Got} {i:Nat} {g:Nat×AV×Gk} (hg:acc[i]?=some g):acc=acc.take i++g::acc.drop (i+1)∧(acc.take i).length=i:=by
 have hi:i<acc.length:=O9 hg
 rw [List.getElem?_eq_getElem hi] at hg
 injection hg with hg
 refine ⟨?_,by rw [List.length_take]; omega⟩
 rw [←hg,←List.drop_eq_getElem_cons hi,List.take_append_drop]
section
variable {E:Nat→Bool} {acc:Got} {i id:Nat} {g:Nat×AV×Gk} {c:Option Ob}
theorem Nl (hg:acc[i]?=some g) (hi:E i=false) (he:∀j g',acc[j]?=some g'→j<i→Yj id g'.1 g'.2.2=true→E j=true) (hl:∀j g',acc[j]?=some g'→i<j→Yj id g'.1 g'.2.2=true→E j=false) :
  U0 E id acc 0 c=U0 Uu id (acc.take i) 0 c:=by
 obtain ⟨e1,e2⟩:=Qcx hg
 have e3:U0 E id acc 0 c=U0 E id (acc.take i++g::acc.drop (i+1)) 0 c:=by rw [←e1]
 rw [e3,Fo,e2,Nat.zero_add]
 obtain ⟨d,v,q⟩:=g
 simp only [U0,hi,cond_false]
 rw [H7 fun k g' hk ht=>hl (i+1+k) g' (by rw [List.getElem?_drop] at hk; exact hk) (by omega) ht]
 refine Ev fun k g' hk ht=>?_
 rw [List.getElem?_take] at hk
 split at hk
 ·rw [Nat.zero_add,he k g' hk (by omega) ht]; rfl
 ·cases hk
theorem Du (hg:acc[i]?=some g) (hi:E i=false) (hl:∀j g',acc[j]?=some g'→i<j→Yj id g'.1 g'.2.2=true→E j=false) :
  U0 (Zm E i) id acc 0 c=Em id g.1 g.2.2 (U0 E id acc 0 c):=by
 obtain ⟨e1,e2⟩:=Qcx hg
 have e3:∀E,U0 E id acc 0 c=U0 E id (acc.take i++g::acc.drop (i+1)) 0 c:=fun E=>by rw [←e1]
 rw [e3,e3,Fo,Fo,e2,Nat.zero_add]
 obtain ⟨d,v,q⟩:=g
 simp only [U0,hi,cond_false,BEq.rfl,Bool.true_or,cond_true]
 have h1:U0 (Zm E i) id (acc.take i) 0 c=U0 E id (acc.take i) 0 c:=Ev fun k g' hk ht=>by
  have:k<i:=by have:=O9 hk; omega
  simp only [Zm,Nat.zero_add]
  rw [show (k==i)=false by simp; omega]; rfl
 have h2:∀c',U0 (Zm E i) id (acc.drop (i+1)) (i+1) c'=c':=fun c'=>H7 fun k g' hk ht=>by
  simp only [Zm]
  rw [show (i+1+k==i)=false by simp; omega]
  exact hl (i+1+k) g' (by rw [List.getElem?_drop] at hk; exact hk) (by omega) ht
 have h3:∀c',U0 E id (acc.drop (i+1)) (i+1) c'=c':=fun c'=>H7 fun k g' hk ht=>hl (i+1+k) g' (by rw [List.getElem?_drop] at hk; exact hk) (by omega) ht
 rw [h2,h3,h1]
 simp only [Zm,BEq.rfl,Bool.true_or,cond_true]
theorem Qug (hg:acc[i]?=some g) (ht:Yj id g.1 g.2.2=false):U0 (Zm E i) id acc 0 c=U0 E id acc 0 c :=
 Ev fun k g' hk ht'=>by
  rw [Nat.zero_add]
  by_cases e:k=i
  ·subst e
   rw [hg] at hk; injection hk with hk; subst hk
   rw [ht] at ht'; cases ht'
  ·simp only [Zm]
   rw [show (k==i)=false by simp; omega]; rfl
end
theorem Xk {α β:Type} {f f':α→Option β} {x0:α}:∀{l:List α},l.Nodup→x0∈l→(∀j∈l,j≠x0→f' j=f j)→∃rest,(l.filterMap f).Perm ((f x0).toList++rest)∧(l.filterMap f').Perm ((f' x0).toList++rest)
 | y::ys,hn,hi,h=>by
  have hn':=List.nodup_cons.1 hn
  rcases List.mem_cons.1 hi with rfl | hi
  ·have:ys.filterMap f'=ys.filterMap f:=Yq fun j hj=>h j (.tail _ hj) fun e=>hn'.1 (e▸hj)
   refine ⟨ys.filterMap f,?_,?_⟩
   ·simp only [List.filterMap_cons]
    cases f x0<;>exact List.Perm.refl _
   ·simp only [List.filterMap_cons,this]
    cases f' x0<;>exact List.Perm.refl _
  ·have hy:y≠x0:=fun e=>hn'.1 (e▸hi)
   obtain ⟨rest,h1,h2⟩:=Xk hn'.2 hi fun j hj=>h j (.tail _ hj)
   simp only [List.filterMap_cons,h y (.head _) hy]
   cases f y with
   | none=>exact ⟨rest,h1,h2⟩
   | some z=>exact ⟨z::rest,(List.Perm.cons z h1).trans List.perm_middle.symm,(List.Perm.cons z h2).trans List.perm_middle.symm⟩
theorem Qbt {α β:Type} [DecidableEq α] {f:α→Option β} {x y:α} {l:List α} (hn:l.Nodup) (hx:x∈l) (hy:y∈l) (hxy:x≠y) (hfy:f y=none) :
  ∃rest,(l.filterMap f).Perm ((f x).toList++rest)∧∀f':α→Option β,f' x=none→(∀j∈l,j≠x→j≠y→f' j=f j)→(l.filterMap f').Perm ((f' y).toList++rest):=by
 obtain ⟨r1,p1,p2⟩:=Xk (f:=f) (f':=fun z=>if z=x then none else f z) hn hx fun j _ hj=>if_neg hj
 refine ⟨r1,p1,fun f' hfx h=>?_⟩
 obtain ⟨r2,p3,p4⟩:=Xk (f:=fun z=>if z=x then none else f z) (f':=f') hn hy fun j hj hjy=>by
  by_cases e:j=x
  ·rw [e,if_pos rfl,hfx]
  ·rw [if_neg e,h j hj e hjy]
 rw [if_pos rfl] at p2
 rw [if_neg (Ne.symm hxy),hfy] at p3
 exact p4.trans (List.Perm.append_left _ (p3.symm.trans p2))
section
variable {β:Nat→Nat} {ρ:Nat→Value} {Zs:List (Nat×Ob)} {acc:Got} {E:Nat→Bool} {a a':Act} {i:Nat} {g:Nat×AV×Gk}
theorem Gu {l:List Nat} {t:Nat} (h:t∈l):Yn l t=true:=by
 induction l with
 | nil=>cases h
 | cons k l ih =>
  simp only [Yn,Bool.or_eq_true]
  rcases List.mem_cons.1 h with rfl | h
  ·exact .inl (Nat.beq_refl _)
  ·exact .inr (ih h)
theorem R9 {ds:List Nat} (hds:ds=acc.map (·.1)) (hnd:ds.Nodup) (hg:acc[i]?=some g) (hgd:∀(j e:Nat),j≠i→ds[j]?=some e→a'.tmps.getD e undef=a.tmps.getD e undef) {id:Nat} (ht:Yj id g.1 g.2.2=false) :
  fX β ρ Zs acc (Zm E i) a' id=fX β ρ Zs acc E a id:=by
 unfold fX
 rw [Qug hg ht]
 cases hm:Yn (J0 acc) id with
 | false =>
  congr 1; funext ob; simp only [tlX,hm,cond_false]
 | true =>
  obtain ⟨v,q,hmem,hq⟩:=Uo.1 (Kq hm)
  obtain ⟨j,hj⟩:=List.getElem?_of_mem hmem
  have hji:j≠i:=fun e=>by
   subst e
   rw [hg] at hj; injection hj with hj; subst hj
   cases q<;>simp [Qbs] at hq<;>simp [Yj,Nat.beq_refl] at ht
  have:=hgd j id hji (by rw [hds,List.getElem?_map,hj]; rfl)
  congr 1; funext ob; simp only [tlX,hm,cond_true,this]
theorem Sa {ds:List Nat} (hds:ds=acc.map (·.1)) (hnd:ds.Nodup) (hg:acc[i]?=some g) (hgd:∀(j e:Nat),j≠i→ds[j]?=some e→a'.tmps.getD e undef=a.tmps.getD e undef) (ht:∀id,Yj id g.1 g.2.2=false) :
  OWx β ρ Zs acc (Zm E i) a'=OWx β ρ Zs acc E a:=Yq fun id _=>R9 hds hnd hg hgd (ht id)
end
theorem Qed {l0:List Oper} {i id:Nat}:∀{acc:Got} {j k:Nat} {g:Nat×AV×Gk},Rp l0 i id acc j=true→acc[k]?=some g→Yj id g.1 g.2.2=true→Zt l0 l0.length i (j+k)=true
 | [],j,k,g,_,hk,_=>by simp at hk
 | (d,v,q)::l,j,k,g,h,hk,ht=>by
  simp only [Rp,Bool.and_eq_true,Bool.or_eq_true,Bool.not_eq_true'] at h
  cases k with
  | zero =>
   simp at hk; subst hk
   rcases h.1 with h1 | h1
   ·rw [h1] at ht; cases ht
   ·exact h1
  | succ k =>
   have:=Qed h.2 (by simpa using hk) ht
   rw [show j+(k+1)=j+1+k by omega]; exact this
theorem Qae {id:Nat}:∀{acc:Got} {k:Nat} {g:Nat×AV×Gk},Ht id acc=true→acc[k]?=some g→Yj id g.1 g.2.2=false
 | [],k,g,_,hk=>by simp at hk
 | (d,v,q)::l,k,g,h,hk=>by
  simp only [Ht,Bool.and_eq_true,Bool.not_eq_true'] at h
  cases k with
  | zero=>simp at hk; subst hk; exact h.1
  | succ k=>exact Qae h.2 (by simpa using hk)
theorem Sc {l0:List Oper} {i id:Nat}:∀{acc:Got} {j:Nat},Ht id acc=true→Rp l0 i id acc j=true
 | [],_,_=>rfl
 | (d,v,q)::l,j,h=>by
  simp only [Ht,Bool.and_eq_true,Bool.not_eq_true'] at h
  simp only [Rp,h.1,Bool.not_false,Bool.true_or,Bool.true_and]
  exact Sc h.2
section
variable {P:Program} {Y:TX} {Zs:List (Nat×Ob)} {n:Nat} {l0:List Oper} {ds:List Nat} {S0:XS} {o:Oper} {i:Nat} {acc:Got} {g:Nat×AV×Gk} {id:Nat}
theorem Nm {ob:Ob} (h:Qqc l0 Zs i acc id=some ob):Rp l0 i id acc 0=true∧U0 Uu id acc 0 (Qe Zs id)=some ob:=by
 unfold Qqc at h
 exact bvT h
theorem Qnb {ob:Ob} (h:Qy2 l0 Zs i acc id=some ob):Kh (Qe Zs id)=true∧Rp l0 i id acc 0=true∧U0 Uu id acc 0 (Qe Zs id)=some ob:=by
 unfold Qy2 at h
 obtain ⟨h1,h2⟩:=bvT h
 exact ⟨h1,Nm h2⟩
theorem Gj {d:Nat} (h:okZ Zs S0 d acc=true):okB S0 d=true∧Q7 d Zs=true∧Ht d acc=true:=by
 unfold okZ at h
 simp only [Bool.and_eq_true] at h
 exact ⟨h.1.1,h.1.2,h.2⟩
theorem Jkx (hG:Qab P Y Zs n l0 ds S0 o i acc g) (ht:Yj id g.1 g.2.2=true):Rp l0 i id acc 0=true:=by
 obtain ⟨d,v,q⟩:=g
 have hf:=hG.fnd
 cases q with
 | v=>cases ht
 | u=>cases ht
 | c=>cases ht
 | b ns=>cases ht
 | r u e zs c =>
  have:=Nat.eq_of_beq_eq_true (show Nat.beq d id=true from ht)
  subst this
  exact Sc (Gj hf.2.1).2.2
 | o t c =>
  have:=Nat.eq_of_beq_eq_true (show Nat.beq d id=true from ht)
  subst this
  exact Sc (Gj hf.2.1).2.2
 | t u e zs h =>
  have ht':(Nat.beq d id||Nat.beq h id)=true:=ht
  simp only [Bool.or_eq_true] at ht'
  rcases ht' with h1 | h1
  ·rw [←Nat.eq_of_beq_eq_true h1]
   exact Sc (Gj hf.2.1).2.2
  ·rw [←Nat.eq_of_beq_eq_true h1]
   obtain ⟨_,_,_,_,_,_,_,_,_,hC,_⟩:=hf.2.2
   exact (Qnb hC).2.1
 | w j ob =>
  have:=Nat.eq_of_beq_eq_true (show Nat.beq j id=true from ht)
  subst this
  obtain ⟨_,_,_,_,_,_,_,_,_,_,_,hc⟩:=hf
  rcases hc with ⟨_,_,_,_,hc,_⟩ | ⟨_,_,_,_,_,_,_,_,_,_,hc,_⟩
  ·exact (Nm hc).1
  ·exact (Nm hc).1
theorem Fp {d:Nat}:∀{M:List (Nat×Ob)},Q7 d M=true→Qe M d=none∧d∉Y0 M
 | [],_=>⟨rfl,by simp [Y0]⟩
 | (k,ob)::l,h=>by
  have h':Nat.beq k d=false∧Q7 d l=true:=by
   cases ob with
   | mapT k v path e u xs hole =>
    cases hole<;>simp only [Q7,Bool.and_eq_true,Bool.not_eq_true'] at h
    ·exact ⟨h.1,h.2⟩
    ·exact ⟨h.1.1,h.2⟩
   | mapO k9 xs9 hole =>
    cases hole<;>simp only [Q7,P0,Bool.and_true,Bool.and_eq_true,Bool.not_eq_true'] at h
    ·exact ⟨h.1,h.2⟩
    ·exact ⟨h.1.1,h.2⟩
   | _ =>
    simp only [Q7,Bool.and_eq_true,Bool.not_eq_true'] at h
    first | exact ⟨h.1,h.2⟩ | exact ⟨h.1.1,h.2⟩
  obtain ⟨h1,h2⟩:=Fp h'.2
  refine ⟨by simp only [Qe,h'.1,cond_false]; exact h1,fun hm=>?_⟩
  rcases List.mem_cons.1 (show d∈k::Y0 l from hm) with rfl | hm
  ·simp [Nat.beq_refl] at h'
  ·exact h2 hm
theorem Xb:∀{M:List (Nat×Ob)} {id:Nat},Kh (Qe M id)=true→id∈Y0 M
 | [],id,h=>by simp [Qe,Kh] at h
 | (k,ob)::l,id,h=>by
  simp only [Qe] at h
  cases hb:Nat.beq k id with
  | true=>rw [Nat.eq_of_beq_eq_true hb]; exact .head _
  | false=>rw [hb] at h; exact .tail _ (Xb h)
end
end Gx

/- One operation of an open region. -/
namespace Gx
open Go Go.RowKit Gd
set_option linter.unusedVariables false
set_option linter.unusedSimpArgs false
theorem Qaf {a b:Nat} (h:a≠b):Nat.beq a b=false:=by
 cases hb:Nat.beq a b with
 | true=>exact absurd (Nat.eq_of_beq_eq_true hb) h
 | false=>rfl
theorem Quh {l0:List Oper} {p i:Nat} {acc:Got} {Zs:List (Nat×Ob)} {id:Nat} {ob:Ob} (h:(id,ob)∈Qtl l0 p i acc Zs) :
  Qm2 l0 p i=true∧Rp l0 i id acc 0=true∧id∈Y0 Zs∧U0 Uu id acc 0 (Qe Zs id)=some ob:=by
 unfold Qtl at h
 split at h
 ·cases h
 ·rename_i hZ
  cases hl:Qm2 l0 p i with
  | false=>rw [hl] at h; cases h
  | true =>
   rw [hl] at h
   simp only [cond_true] at h
   obtain ⟨q,hq,hf⟩:=List.mem_filterMap.1 h
   obtain ⟨hb,hf⟩:=bvT hf
   split at hf
   ·rename_i ob' hc
    injection hf with hf
    injection hf with h1 h2
    subst h1; subst h2
    exact ⟨rfl,hb,List.mem_map.2 ⟨q,hq,rfl⟩,hc⟩
   ·cases hf
theorem Qui {l0:List Oper} {p i k:Nat} {o:Oper} (h:Qm2 l0 p i=true) (hk:k<p) (hi:i<k) (ho:l0[k]?=some o) (hm:Qtk o=true):Zt l0 l0.length k i=true:=by
 have:=List.all_eq_true.1 h k (List.mem_range.2 hk)
 rw [ho] at this
 simp only [hm,Bool.not_true,Bool.or_false,Bool.or_eq_true] at this
 rcases this with h1 | h1
 ·have:=Nat.le_of_ble_eq_true h1; omega
 ·exact h1
section
variable {P:Program} {Y:TX} {Zs:List (Nat×Ob)} {n:Nat} {l0:List Oper} {ds:List Nat} {S0:XS} {R:Type} {r:R}
theorem Qzl {o:Oper} {i:Nat} {acc:Got} {g:Nat×AV×Gk} {id:Nat} (hG:Qab P Y Zs n l0 ds S0 o i acc g) (ht:Yj id g.1 g.2.2=true) (hne:Qbs g.2.2=true→g.1≠id):Qtk o=true:=by
 obtain ⟨d,v,q⟩:=g
 have hf:=hG.fnd
 cases q with
 | v=>cases ht
 | u=>cases ht
 | c=>cases ht
 | b ns=>cases ht
 | r u e zs c=>exact absurd (Nat.eq_of_beq_eq_true (show Nat.beq d id=true from ht)) (hne rfl)
 | o t c=>exact absurd (Nat.eq_of_beq_eq_true (show Nat.beq d id=true from ht)) (hne rfl)
 | t u e zs h =>
  obtain ⟨t,s,x,_,_,_,_,_,hop,_⟩:=hf.2.2
  unfold Qtk
  rw [hG.dst rfl,hop]
 | w j ob =>
  unfold Qtk
  rw [(hG.ndst rfl).1]
section
variable {X:Cx} {β:Nat→Nat} {ρ:Nat→Value} {a0:Act} {w0:World} {acc:Got}
theorem Qcy {E:Nat→Bool} {i gt:Nat} {g:Nat×AV×Gk} (hg:acc[i]?=some g) (hi:E i=false) (hz:okB S0 gt=true∧Q7 gt Zs=true∧Ht gt (acc.take i)=true)
  (hl:∀j g',acc[j]?=some g'→i<j→Yj gt g'.1 g'.2.2=true→E j=false):U0 E gt acc 0 (Qe Zs gt)=none:=by
 rw [H7 fun k g' hk ht=>?_]
 ·exact (Fp hz.2.1).1
 ·rw [Nat.zero_add]
  rcases Nat.lt_trichotomy k i with h1 | h1 | h1
  ·have:=Qae hz.2.2 (k:=k) (g:=g') (by rw [List.getElem?_take,if_pos h1]; exact hk)
   rw [this] at ht; cases ht
  ·rw [h1]; exact hi
  ·exact hl k g' hk h1 ht
theorem Qee {E:Nat→Bool} {a a':Act} {i gt:Nat} {v:AV} {q:Gk} {Ox:List TL} {ob:Ob} {t:TL} (hdsE:ds=acc.map (·.1)) (hN:(Dq Zs acc).Nodup) (hnd:ds.Nodup) (hg:acc[i]?=some (gt,v,q)) (hq:Qbs q=true) (hi:E i=false)
  (hz:okB S0 gt=true∧Q7 gt Zs=true∧Ht gt (acc.take i)=true) (ht:∀id,gt≠id→Yj id gt q=false) (hl:∀j g',acc[j]?=some g'→i<j→Yj gt g'.1 g'.2.2=true→E j=false)
  (_hr:True=True) (hOX:Ox.Perm (OWx β ρ Zs acc E a)) (hgd:∀(j e:Nat),j≠i→ds[j]?=some e→a'.tmps.getD e undef=a.tmps.getD e undef) (hc:Em gt gt q none=some ob) (htl:Qbr β ρ (a'.tmps.getD gt undef) gt ob=t) :
  (OWx β ρ Zs acc (Zm E i) a').Perm (t::Ox):=by
 have hgr:gt∈J0 acc:=Uo.2 ⟨_,_,List.mem_of_getElem? hg,hq⟩
 have hcg:U0 E gt acc 0 (Qe Zs gt)=none:=Qcy hg hi hz hl
 obtain ⟨rest,p1,p2⟩:=Xk (f:=fX β ρ Zs acc E a) (f':=fX β ρ Zs acc (Zm E i) a') hN (List.mem_append_right _ hgr) fun j _ hj=>R9 hdsE hnd hg hgd (ht j (Ne.symm hj))
 simp only [fX,hcg,Option.map_none,Option.toList_none,List.nil_append] at p1
 refine p2.trans ?_
 simp only [fX]
 rw [Du hg hi hl,hcg]
 simp only [hc,Option.map_some,Option.toList_some,tlX,Gu hgr,cond_true,htl]
 exact List.Perm.cons _ (hOX.trans p1).symm
theorem Quj (hT:Jb P Y.T) (hG0:Vl Y.gl (okN X) X.w) (hX:X.n=n) (hr:X.res=[]) (h:Rel X β ρ S0.flat a0 w0) (hnd:ds.Nodup) (hA:Qcw P Y Zs n l0 ds S0 acc) (hdsE:ds=acc.map (·.1)) (hN:(Dq Zs acc).Nodup) (hZf:∀d∈J0 acc,d∉Y0 Zs) (i:Nat) :
  Qm9 (OWx β ρ Zs acc) (fun _=>0) P l0 X (P6 X ds a0) (S0.flat.env.map (enD β ρ a0)) [] (Qf β ρ S0.flat.mem) ds (acc.map (Qqz β ρ)) i:=by
 unfold Qm9
 split
 ·rename_i d fv o hd hf ho
  rw [List.getElem?_map] at hf
  obtain ⟨g,hg,hfv⟩:=Option.map_eq_some_iff.1 hf
  obtain ⟨o',ho',hG⟩:=hA.2 i g hg
  rw [ho] at ho'; injection ho' with ho'; subst ho'
  have hgd:g.1=d:=by rw [←hG.ix]; exact getD_some hd
  subst hgd
  intro E β1 a w dX Ox Q hcl hEi hpre hS hOX hpred hend
  have hlateB:∀k,Zt l0 l0.length k i=true→E k=false:=fun k hb=>by
   cases hE:E k with
   | false=>rfl
   | true =>
    have:E i=true:=Xe hcl l0.length k i hb fun o' ho' e he hb'=>hcl k o' hE ho' e he hb'
    rw [hEi] at this; cases this
  have hearly:∀{id:Nat},Rp l0 i id (acc.take i) 0=true→∀j g',acc[j]?=some g'→j<i→Yj id g'.1 g'.2.2=true→E j=true:=fun hb j g' hj hji ht=>by
   have h1:=Qed hb (k:=j) (g:=g') (by rw [List.getElem?_take,if_pos hji]; exact hj) ht
   rw [Nat.zero_add] at h1
   exact Xe hcl l0.length i j h1 fun o' ho' e he hb'=>by rw [ho] at ho'; injection ho' with ho'; subst ho'; exact hpre e he hb'
  have hlate:∀{id:Nat},Yj id g.1 g.2.2=true→∀j g',acc[j]?=some g'→i<j→Yj id g'.1 g'.2.2=true→E j=false:=fun hti j g' hj hij ht=>by
   obtain ⟨oj,_,hGj⟩:=hA.2 j g' hj
   have h1:=Qed (Jkx hGj ht) (k:=i) (g:=g) (by rw [List.getElem?_take,if_pos hij]; exact hg) hti
   rw [Nat.zero_add] at h1
   exact hlateB j h1
  have hsz0:a.tmps.size=X.n:=hS.sz
  have hdin:g.1∈ds:=List.mem_of_getElem? hd
  have hwant:Region.wanted o (yielded ⟨l0⟩ a.tmps)=Jkw g.2.2:=by
   have hgd:=hG.gd
   unfold Tk at hgd
   split at hgd
   ·cases hgd
   ·rename_i hgt
    injection hgd with hgd
    rw [←hgd]; exact Zl (Gh hgt) _
   ·rename_i t want hgt
    obtain ⟨hp,hgd⟩:=bvT hgd
    have hiff:=V3 (a:=a) hgt
    split at hgd
    ·rename_i b hlk
     injection hgd with hgd
     obtain ⟨j,hj',hdj,hix,hwr⟩:=Fn hnd hA (O7 hlk)
     simp only at hix hdj
     rw [hix] at hp
     obtain ⟨cs,q1,q2⟩:=hpred j _ hp (by rw [List.getElem?_map,hj']; rfl)
     have hlt:t<a.tmps.size:=by rw [hsz0]; exact Kx (Yv (hwr rfl) hX hr).1
     have q2':cs=[.bool b]:=q2
     subst q2'
     have q3:a.tmps[t]?=some (.bool b):=by
      have:a.tmps.getD t undef=.bool b:=q1
      rw [←this]; simp [Array.getD_eq_getD_getElem?,hlt]
     rw [←hgd]
     cases hw:Region.wanted o (yielded ⟨l0⟩ a.tmps) with
     | true =>
      have:=hiff.1 hw
      rw [q3] at this
      injection this with this
      injection this with this
      subst this; simp
     | false =>
      cases hbw:(b==want) with
      | false=>rfl
      | true =>
       have:b=want:=by simpa using hbw
       subst this
       rw [hiff.2 q3] at hw; cases hw
    ·cases hgd
    ·obtain ⟨hsk,hgd⟩:=bvT hgd
     injection hgd with hgd
     rw [←hgd]
     obtain ⟨v',hm⟩:=Dt hsk
     obtain ⟨j,hj',hdj,hix,hwr⟩:=Fn hnd hA hm
     simp only at hix hdj
     rw [hix] at hp
     have q1:=hpred j _ hp (by rw [List.getElem?_map,hj']; rfl)
     have q1':a.tmps.getD t undef=undef:=q1
     cases hw:Region.wanted o (yielded ⟨l0⟩ a.tmps) with
     | false=>rfl
     | true =>
      have:=hiff.1 hw
      rw [Array.getD_eq_getD_getElem?,this] at q1'
      cases q1'
  have hloc:Xn β ρ (Jh X.ok X.w.heap.size β1 [] (Ox++Qf β ρ S0.flat.mem) w) (Qea l0 ds Zs S0 i (acc.take i) o) a w:=by
   refine ⟨fun e he=>?_,fun id ob hob=>?_⟩
   ·obtain ⟨hcs,hlook⟩:=Al he
    refine ⟨fun _=>?_,.inl (by rw [hcs]; exact Qb a)⟩
    rcases hlook with ⟨h1,h2⟩ | ⟨h1,h2,hlt0⟩ | ⟨h2,hlt0⟩
    ·obtain ⟨j,hj',hdj,hix,hwr⟩:=Fn hnd hA (O7 h1)
     simp only at hix hdj
     rw [hix] at h2
     obtain ⟨cs,q1,q2⟩:=hpred j _ h2 (by rw [List.getElem?_map,hj']; rfl)
     have hlt:e.t<a.tmps.size:=by rw [hsz0]; exact Kx (Yv (hwr rfl) hX hr).1
     refine ⟨cs,?_,q2⟩
     rw [←q1,Xq (X4 (Yv (hwr rfl) hX hr).1)]
     simp [Array.getD_eq_getD_getElem?,hlt]
    ·have hD:=Jw.1 hS.dat _ (.tail _ (List.mem_map.2 ⟨e,h2,rfl⟩))
     obtain ⟨cs,q1,q2⟩:=hD.1 (by rw [hcs]; exact Qb a0)
     rw [Xq hlt0] at q1
     have hlt:e.t<X.n:=Oy h q1
     have:=hS.tm _ (Qcv hlt (Da h1) a0)
     simp only [V0] at this
     refine ⟨cs,?_,q2⟩
     rw [Xq hlt0,this,←q1]
     have hlt':e.t<a0.tmps.size:=by rw [h.sz]; exact hlt
     simp [Array.getD_eq_getD_getElem?,hlt']
    ·have hD:=Jw.1 hS.dat _ (.tail _ (List.mem_map.2 ⟨e,h2,rfl⟩))
     obtain ⟨cs,q1,q2⟩:=hD.1 (by rw [hcs]; exact Qb a0)
     refine ⟨cs,?_,q2⟩
     rw [←q1]
     unfold rd
     rw [hlt0]; rfl
   ·obtain ⟨l1,l2,e1,_⟩:=Yd hob
    have hmem:(id,ob)∈S0.flat.mem++Qtl l0 ds.length i (acc.take i) Zs:=by
     have e1':S0.flat.mem++Qtl l0 ds.length i (acc.take i) Zs=l1++(id,ob)::l2:=e1
     rw [e1']; simp
    rcases List.mem_append.1 hmem with hmem | hmem
    ·exact (hS.own _ (List.mem_append_right _ (List.mem_map.2 ⟨_,hmem,rfl⟩))).1
    ·obtain ⟨hlt,hbt,hkey,hcur⟩:=Quh hmem
     have hcE:U0 E id acc 0 (Qe Zs id)=some ob:=by
      rw [Nl hg hEi (hearly hbt) fun j g' hj hij ht=>?_,hcur]
      obtain ⟨oj,hoj,hGj⟩:=hA.2 j g' hj
      refine hlateB j (Qui hlt (by rw [←hA.1]; exact O9 hj) hij hoj (Qzl hGj ht fun hq e=>?_))
      subst e
      exact hZf _ (Uo.2 ⟨_,_,List.mem_of_getElem? (by rw [hj]),hq⟩) hkey
     have hin:tlX β ρ acc a id ob∈Ox:=hOX.mem_iff.2 (List.mem_filterMap.2 ⟨id,List.mem_append_left _ hkey,by simp only [fX,hcE,Option.map_some]⟩)
     have:=(hS.own _ (List.mem_append_left _ hin)).1
     have htx:tlX β ρ acc a id ob=Q2 β ρ id ob:=by
      unfold tlX
      cases hm:Yn (J0 acc) id with
      | false=>rfl
      | true=>exact absurd hkey (hZf _ (Kq hm))
     rw [htx] at this
     exact this
  have hGd:∀p∈P6 X ds a0,p.1≠g.1:=fun p hp e=>(O8 hp).1 (e▸hdin)
  have hput:∀v,Sb β1 ⟨X.n,X.ok,X.w,Ls ds g.1,a,some (fun _=>0),X.lent,X.lok,X.dfs⟩ (P6 X ds a0) (dX::S0.flat.env.map (enD β ρ a0)) [] (Ox++Qf β ρ S0.flat.mem) (a.put (some g.1) v) w:=fun v =>
   {sz:=by simp [Act.put,hsz0],df:=hS.df,fr:=fun t ht=>(Vd (fun e=>R8 (e▸ht)) _).trans (hS.fr t ht),pn:=hS.pn,
    tm:=fun p hp=>(Vd (hGd p hp) _).trans (hS.tm p hp),bel:=hS.bel,dat:=hS.dat,obj:=hS.obj,own:=hS.own,dHH:=hS.dHH,dHO:=hS.dHO,dOO:=hS.dOO }
  obtain ⟨gt,gv0,gq⟩:=g
  simp only at hdin hput
  have hok:isW gq=false→okD X gt=true:=fun hq=>(Yv (hG.wr hq) hX hr).1
  have hdlt:isW gq=false→gt<a.tmps.size:=fun hq=>by rw [hsz0]; exact Kx (hok hq)
  have hpv:isW gq=false→∀v,(a.put (some gt) v).tmps.getD gt undef=v:=fun hq v=>by simp [Act.put,Array.getD_eq_getD_getElem?,hdlt hq]
  have hSG:Sb β1 ⟨X.n,X.ok,X.w,Ls ds gt,a,some (fun _=>0),X.lent,X.lok,X.dfs⟩ (Xu X.n a) (dX::S0.flat.env.map (enD β ρ a0)) [] (Ox++Qf β ρ S0.flat.mem) a w :=
   {sz:=hS.sz,df:=hS.df,fr:=hS.fr,pn:=hS.pn,bel:=hS.bel,dat:=hS.dat,obj:=hS.obj,own:=hS.own,dHH:=hS.dHH,dHO:=hS.dHO,dOO:=hS.dOO,
    tm:=fun p hp=>by
     obtain ⟨t,ht,rfl⟩:=List.mem_map.1 hp
     have hlt:t<a.tmps.size:=by rw [hsz0]; exact List.mem_range.1 ht
     simp [V0,Array.getElem?_eq_getElem hlt,Array.getD_eq_getD_getElem?] }
  have hokd:isW gq=false→okD ⟨X.n,X.ok,X.w,Ls ds gt,a,some (fun _=>0),X.lent,X.lok,X.dfs⟩ gt=true:=fun hq=>by
   have hok:=hok hq
   simp only [okD,Bool.and_eq_true] at hok ⊢
   exact ⟨hok.1,Qgx R8,hok.2.2⟩
  have hback:∀{v:Value} {O':List TL} {a':Act} {w':World},Sb β1 ⟨X.n,X.ok,X.w,Ls ds gt,a,some (fun _=>0),X.lent,X.lok,X.dfs⟩ (Zr (Xu X.n a) gt (.v v)) (dX::S0.flat.env.map (enD β ρ a0)) [] O' a' w' →
    Sb β1 ⟨X.n,X.ok,X.w,Ls ds gt,a,some (fun _=>0),X.lent,X.lok,X.dfs⟩ (P6 X ds a0) (dX::S0.flat.env.map (enD β ρ a0)) [] O' a' w'∧a'.tmps.getD gt undef=v:=by
   intro v O' a' w' hS'
   refine ⟨Sb.lessG hS' fun p hp=>?_,?_⟩
   ·obtain ⟨r1,r2,r3⟩:=O8 hp
    have r4:=hS.tm p hp
    refine .tail _ ?_
    have hne:=hGd p hp
    have hm:p∈Xu X.n a:=by
     refine List.mem_map.2 ⟨p.1,List.mem_range.2 r2,?_⟩
     obtain ⟨p1,p2⟩:=p
     simp only at r3 r4 ⊢
     subst r3
     simp only [V0] at r4
     rw [Array.getD_eq_getD_getElem?,r4]; rfl
    have:∀{l:GL},p∈l→p∈Sl l gt:=by
     intro l
     induction l with
     | nil=>intro h; cases h
     | cons x l ih =>
      intro h
      obtain ⟨k,y⟩:=x
      simp only [Sl]
      cases hb:Nat.beq k gt with
      | true =>
       rcases List.mem_cons.1 h with e | h
       ·subst e; exact absurd (Nat.eq_of_beq_eq_true hb) hne
       ·exact ih h
      | false =>
       rcases List.mem_cons.1 h with e | h
       ·rw [e]; exact .head _
       ·exact .tail _ (ih h)
    exact this hm
   ·have:=hS'.tm _ (.head _)
    simp only [V0] at this
    simp [Array.getD_eq_getD_getElem?,this]
  cases gq with
  | v =>
   have hw:Region.wanted o (yielded ⟨l0⟩ a.tmps)=true:=hwant
   obtain ⟨h1,h2⟩:=hG.fnd
   refine h1 (show Vl Y.gl (okN ⟨X.n,X.ok,X.w,Ls ds gt,a,some (fun _=>0),X.lent,X.lok,X.dfs⟩) X.w from hG0) hSG hloc hw (Qeb hsz0 hw) (hG.dst rfl) (hokd rfl) fun a' w' cs hS' hcr=>?_
   obtain ⟨q1,q2⟩:=hback hS'
   refine hend β1 a' w' Ox q1 ?_ ?_
   ·rw [←hfv]
    exact ⟨cs,q2,hcr⟩
   ·intro hgd
    show Ox.Perm (OWx β ρ Zs acc (Zm E i) _)
    rw [Sa hdsE hnd hg hgd (fun _=>rfl)]
    exact hOX
  | u =>
   have hw:Region.wanted o (yielded ⟨l0⟩ a.tmps)=false:=hwant
   unfold wpList
   rw [if_neg (by rw [hw]; simp)]
   show Q .normal (a.put o.dst undef) w
   rw [hG.dst rfl]
   refine hend β1 _ w Ox (hput _) ?_ ?_
   ·rw [←hfv]
    exact hpv rfl _
   ·intro hgd
    show Ox.Perm (OWx β ρ Zs acc (Zm E i) _)
    rw [Sa hdsE hnd hg hgd (fun _=>rfl)]
    exact hOX
  | c =>
   have hw:Region.wanted o (yielded ⟨l0⟩ a.tmps)=true:=hwant
   obtain ⟨t,rfl,c1,c2,c3⟩:=hG.fnd
   obtain ⟨v',u,e,zs,c,hm⟩:=V4 c1
   obtain ⟨j,hj,hdj,hix,_⟩:=Fn hnd hA hm
   simp only at hix hdj
   rw [hix] at c2
   have hrun:(execOp a.eval o).run P w=.ok (.value (a.eval (.tmp t))) w:=by
    unfold execOp
    rcases c3 with c3 | c3<;>rw [c3]<;>rfl
   refine Js hw (Ym hrun ?_)
   rw [hG.dst rfl]
   have hne:t≠gt:=fun e=>by
    subst e
    have h2:=(List.getElem?_eq_some_iff.1 hd)
    have h3:=hnd.idxOf_getElem i h2.1
    rw [h2.2] at h3
    simp only at h3
    rw [hix] at h3
    subst h3
    rw [hj] at hg
    injection hg with hg
    injection hg with _ hg
    injection hg with _ hg
    cases hg
   refine hend β1 _ w Ox (hput _) ?_ ?_
   ·rw [←hfv]
    show (a.put (some gt) _).tmps.getD gt undef=(a.put (some gt) _).tmps.getD t undef
    rw [hpv rfl,Array.getD_eq_getD_getElem?,Vd hne]
    simp [Act.eval,Array.getD_eq_getD_getElem?]
   ·intro hgd
    show Ox.Perm (OWx β ρ Zs acc (Zm E i) _)
    rw [Sa hdsE hnd hg hgd (fun _=>rfl)]
    exact hOX
  | r u e zs c =>
   have hw:Region.wanted o (yielded ⟨l0⟩ a.tmps)=true:=hwant
   have hgv:=Qeb (ops:=⟨l0⟩) hsz0 hw
   obtain ⟨h1,hb,hmade⟩:=hG.fnd
   rcases hmade with ⟨t,lo,co,te,ee,lv,cv,k1,k2,nl,nc,za,z,hop,hte,htd,he,hl,hc,hli,hci,hza,hz,hsz,hzl,hby,hmk,hqn⟩ | ⟨t,s,x,te,ee,xv,ys,hop,hte,htd,he,hs,hx,hy,hpos,hby,hzl,hsz,happ⟩
   rotate_left
   ·obtain ⟨c1,hse,hs2⟩:=hloc.ev (Qb a) hs
    have hs2':c1=_:=hs2
    subst hs2'
    have hse':a.eval s=.slice none 0 0:=hse
    have hag:(Ty.sl u).agg=xv.isAgg:=by
     cases xv with
     | d t' y'=>obtain ⟨rfl,_⟩:=Ty.cast_ok (by simpa only [asD] using hy); rfl
     | ag l=>simp [asD] at hy
     | _=>rfl
    have hiv:=hloc.asD (Qb a) hx hy hag
    obtain ⟨A2,c2,hev,hyv⟩:=Fx (r:=rt u) hiv
    have hnil:=Sb.addNilM hSG e (rt u)
    rw [Xa o,hG.dst rfl,hop] at hgv ⊢
    refine Ba hT hnil [] (Ox++Qf β ρ S0.flat.mem) (r:=rt u) hgv (hokd rfl) hte htd he (by rw [Jv]; exact Nat.eq_of_beq_eq_true hsz) hzl hpos hby rfl (by rw [gvW hloc hsz0 hs,hse']) (by rw [gvW hloc hsz0 hx,hev]) ((Ry hyv).weak ?_) happ fun A' c' a' w' hS'=>?_
    ·rintro b o ⟨o1,o2,o3,o4⟩
     refine ⟨o1,o2,o3,fun t ht hc=>?_⟩
     rcases List.mem_cons.1 ht with rfl | ht
     ·cases hc
     ·exact o4 t ht hc
    ·obtain ⟨q1,q2⟩:=hback hS'
     refine hend β1 a' w' (ml (.slice A' zs.length c') e (rt u) zs::Ox) q1 ?_ ?_
     ·rw [←hfv]
      exact ⟨A',c',q2⟩
     ·intro hgd
      refine (Qee (ob:=.row e u zs) hdsE hN hnd hg rfl hEi (Gj hb) (fun id hi=>by simp [Yj,Qaf hi]) (hlate (Nat.beq_refl _)) rfl hOX hgd (by rw [show Em gt gt (Gk.r u e zs c) none=some (.row e u zs) by simp [Em,Nat.beq_refl]]) ?_).symm
      simp only [Qbr,q2]
   rw [Xa o,hG.dst rfl,hop] at hgv ⊢
   refine Qb2 hT hSG (r:=rt u) hgv (hokd rfl) hte htd he (by rw [Jv]; exact Nat.eq_of_beq_eq_true hsz) hzl hby (fun ok w=>Ut (β:=β) (ρ:=ρ) (M:=[]) (by simp [Qe]) hz (X5 hza))
    (by rw [gvW hloc hsz0 hl,hloc.int (Qb a) hl hli]) (by rw [gvW hloc hsz0 hc,hloc.int (Qb a) hc hci]) hmk fun b a' w' hS'=>?_
   obtain ⟨q1,q2⟩:=hback hS'
   refine hend β1 a' w' (ml (.slice (some ⟨b,0,none⟩) zs.length nc.toNat) e (rt u) zs::Ox) q1 ?_ ?_
   ·rw [←hfv]
    exact ⟨_,_,q2⟩
   ·intro hgd
    refine (Qee (ob:=.row e u zs) hdsE hN hnd hg rfl hEi (Gj hb) (fun id hi=>by simp [Yj,Qaf hi]) (hlate (Nat.beq_refl _)) rfl hOX hgd (by rw [show Em gt gt (Gk.r u e zs c) none=some (.row e u zs) by simp [Em,Nat.beq_refl]]) ?_).symm
    simp only [Qbr,q2]
  | o t c =>
   have hw:Region.wanted o (yielded ⟨l0⟩ a.tmps)=true:=hwant
   obtain ⟨h1,hb,e,ty,hop,he,hc,hids⟩:=hG.fnd
   have hrun:(execOp a.eval o).run P w=.ok (.value (.pointer (some ⟨w.heap.size,0,none⟩))) (w.alloc (.cells (Qm e.z).toArray t)):=by
    unfold execOp
    simp only [hop]
    simp [Instr.alloc,Vp hT w he,newVar,newRow,Y8]
   refine Js hw (Ym hrun ?_)
   rw [hG.dst rfl]
   have hbel:Below w.heap.size w (w.alloc (.cells (Qm e.z).toArray t)):=(Below.refl _ _).alloc (Nat.le_refl _) _
   refine hend β1 _ _ (G0 β ρ w.heap.size t c::Ox) ((hput _).allocTL hbel (fun g hg=>?_) ⟨Qm e.z,heap_alloc_new w _,X5 hc⟩) ?_ ?_
   ·have hg':g=w.heap.size:=hg
    omega
   ·rw [←hfv]
    exact ⟨w.heap.size,hpv rfl _⟩
   ·intro hgd
    refine (Qee (ob:=.var t c) hdsE hN hnd hg rfl hEi (Gj hb) (fun id hi=>by simp [Yj,Qaf hi]) (hlate (Nat.beq_refl _)) rfl hOX hgd (by rw [show Em gt gt (Gk.o t c) none=some (.var t c) by simp [Em,Nat.beq_refl]]) ?_).symm
    simp only [Qbr,hpv rfl,Qgv]
  | b ns =>
   have hw:Region.wanted o (yielded ⟨l0⟩ a.tmps)=true:=hwant
   obtain ⟨h1,hns,_⟩:=hG.fnd
   have hrows:∀t∈ns,t∈ds∧t<X.n∧t<100000∧t≠gt∧∃A m c,a.tmps.getD t undef=.slice A m c:=fun t ht=>by
    obtain ⟨c1,c2⟩:=hns t ht
    obtain ⟨v',u,e,zs,c,hm⟩:=V4 c1
    obtain ⟨j,hj,hdj,hix,hwr⟩:=Fn hnd hA hm
    simp only at hix hdj
    rw [hix] at c2
    obtain ⟨A,c',q1⟩:=hpred j _ c2 (by rw [List.getElem?_map,hj]; rfl)
    have hok':=(Yv (hwr rfl) hX hr).1
    refine ⟨List.mem_of_getElem? hdj,Kx hok',?_,fun e=>?_,A,_,c',q1⟩
    ·have:=X4 hok'
     exact Nat.lt_of_succ_le (Nat.le_of_ble_eq_true this)
    ·subst e
     have h2:=(List.getElem?_eq_some_iff.1 hd)
     have h3:=hnd.idxOf_getElem i h2.1
     rw [h2.2] at h3
     simp only at h3
     rw [hix] at h3
     subst h3
     rw [hj] at hg
     injection hg with hg
     injection hg with _ hg
     injection hg with _ hg
     cases hg
   have hlocB:Xn (Dp a ns β) (Qac a ns ρ) (Jh X.ok X.w.heap.size β1 [] (Ox++Qf β ρ S0.flat.mem) w) (Jcr ds ns (Qea l0 ds Zs S0 i (acc.take i) o)) a w:=by
    refine ⟨fun e he=>?_,fun id ob hob=>by cases hob⟩
    rcases List.mem_append.1 he with he | he
    ·obtain ⟨t,ht,rfl⟩:=List.mem_map.1 he
     obtain ⟨r1,r2,r3,_,A,m,c,r4⟩:=hrows t ht
     refine ⟨fun _=>⟨[a.tmps.getD t undef],?_,?_⟩,.inl (Qb a)⟩
     ·have hlt:t<a.tmps.size:=by rw [hsz0]; exact r2
      show rd a t=_
      unfold rd
      rw [show Nat.blt t 100000=true from Nat.ble_eq_true_of_le r3]
      simp [Array.getD_eq_getD_getElem?,hlt]
      rfl
     ·exact ⟨⟨_,rfl,.inl (by rw [(Fl (β:=β) ht).2])⟩,by rw [(Fl (β:=β) ht).2]; exact ⟨A,m,c,r4⟩⟩
    ·have hfil:∀{l:List En},e∈Qtn ds l→e∈l∧Gf ds e.av=true:=by
      intro l
      induction l with
      | nil=>intro h; cases h
      | cons x l ih =>
       intro h
       simp only [Qtn] at h
       cases hb:Gf ds x.av with
       | true =>
        rw [hb] at h
        rcases List.mem_cons.1 h with rfl | h
        ·exact ⟨.head _,hb⟩
        ·exact ⟨.tail _ (ih h).1,(ih h).2⟩
       | false=>rw [hb] at h; exact ⟨.tail _ (ih h).1,(ih h).2⟩
     obtain ⟨hm,hn⟩:=hfil he
     obtain ⟨g1,g2⟩:=hloc.1 e hm
     refine ⟨fun hc=>?_,g2⟩
     obtain ⟨cs,q1,q2⟩:=g1 hc
     unfold Gf at hn
     rw [List.all_eq_true] at hn
     refine ⟨cs,q1,G3 (C:=fun β' ρ'=>cr β' ρ' _ w false e.av cs) q2 fun d hd β' ρ' h'=>Zu (Xh d β' ρ' _ _) (hn d (hrows d hd).1) h'⟩
   refine h1 (show Vl Y.gl (okN ⟨X.n,X.ok,X.w,Ls ds gt,a,some (fun _=>0),X.lent,X.lok,X.dfs⟩) X.w from hG0) hSG hlocB hw (Qeb hsz0 hw) (hG.dst rfl) (hokd rfl) fun a' w' cs hS' hcr=>?_
   obtain ⟨q1,q2⟩:=hback hS'
   have hcg:=L6 (a:=a) (a':=a') (l:=ns) (β:=β) (ρ:=ρ) fun t ht=>by
    obtain ⟨r1,r2,r3,r5,A,m,c,r4⟩:=hrows t ht
    have hm:(t,Gd.AV.v (a.tmps.getD t undef))∈Zr (Xu X.n a) gt (.v (gv0.val cs)):=by
     refine .tail _ ?_
     have h0:(t,Gd.AV.v (a.tmps.getD t undef))∈Xu X.n a:=List.mem_map.2 ⟨t,List.mem_range.2 r2,rfl⟩
     revert h0
     generalize Xu X.n a=l
     intro h0
     induction l with
     | nil=>cases h0
     | cons x l ih =>
      obtain ⟨k,y⟩:=x
      simp only [Sl]
      cases hb:Nat.beq k gt with
      | true =>
       rcases List.mem_cons.1 h0 with e | h0
       ·injection e with e _; exact absurd (e.trans (Nat.eq_of_beq_eq_true hb)) r5
       ·exact ih h0
      | false =>
       rcases List.mem_cons.1 h0 with e | h0
       ·rw [e]; exact .head _
       ·exact .tail _ (ih h0)
    have:=hS'.tm _ hm
    simp only [V0] at this
    rw [Array.getD_eq_getD_getElem?,this]; rfl
   refine hend β1 a' w' Ox q1 ?_ ?_
   ·rw [←hfv]
    exact ⟨cs,q2,by rw [hcg.1,hcg.2]; exact hcr⟩
   ·intro hgd
    show Ox.Perm (OWx β ρ Zs acc (Zm E i) _)
    rw [Sa hdsE hnd hg hgd (fun _=>rfl)]
    exact hOX
  | t u e zs h0 =>
   have hw:Region.wanted o (yielded ⟨l0⟩ a.tmps)=true:=hwant
   obtain ⟨h1,hb,t,s,x,te,ee,xv,xs,ys,hop,hC,hte,htd,he,hs,hx,hy,hpos,hby,hzl,hsz,hyn,happ⟩:=hG.fnd
   obtain ⟨hsm,hbt,hcu⟩:=Qnb hC
   have hkey:=Xb hsm
   have hgr:gt∈J0 acc:=Uo.2 ⟨_,_,List.mem_of_getElem? hg,rfl⟩
   have hne:h0≠gt:=fun e=>hZf gt hgr (e▸hkey)
   have hth:Yj h0 gt (Gk.t u e zs h0)=true:=by simp [Yj,Nat.beq_refl]
   have htg:Yj gt gt (Gk.t u e zs h0)=true:=by simp [Yj,Nat.beq_refl]
   have hch:U0 E h0 acc 0 (Qe Zs h0)=some (.tail e u xs):=by rw [Nl hg hEi (hearly hbt) (hlate hth),hcu]
   have hcg:U0 E gt acc 0 (Qe Zs gt)=none:=Qcy hg hEi (Gj hb) (hlate htg)
   have hth0:tlX β ρ acc a h0 (.tail e u xs)=Q2 β ρ h0 (.tail e u xs):=by
    unfold tlX
    cases hm:Yn (J0 acc) h0 with
    | false=>rfl
    | true=>exact absurd hkey (hZf _ (Kq hm))
   obtain ⟨Oz,hOz0,hOz1⟩:=Qbt (f:=fX β ρ Zs acc E a) hN (x:=h0) (y:=gt) (List.mem_append_left _ hkey) (List.mem_append_right _ hgr) hne (by simp only [fX,hcg,Option.map_none])
   have hOz:Ox.Perm (Q2 β ρ h0 (.tail e u xs)::Oz):=by
    refine hOX.trans (hOz0.trans ?_)
    simp only [fX,hch,Option.map_some,hth0]
    exact List.Perm.refl _
   have hfinT:∀{a':Act} {A':Option Addr} {c':Nat},a'.tmps.getD gt undef=.slice A' zs.length c'→(∀(j e:Nat),j≠i→ds[j]?=some e→a'.tmps.getD e undef=a.tmps.getD e undef)→(Um (.slice A' zs.length c') e (rt u) zs::Oz).Perm (OWx β ρ Zs acc (Zm E i) a'):=fun {a' A' c'} q2 hgd=>by
    have h1:=hOz1 (fX β ρ Zs acc (Zm E i) a') (by
     simp only [fX]
     rw [Du hg hEi (hlate hth),hch]
     simp [Em,Qaf (Ne.symm hne),Nat.beq_refl]) fun j hj hjh hjg=>R9 hdsE hnd hg hgd (by simp [Yj,Qaf (Ne.symm hjg),Qaf (Ne.symm hjh)])
    refine (h1.trans ?_).symm
    simp only [fX]
    rw [Du hg hEi (hlate htg),hcg]
    simp only [Em,Nat.beq_refl,cond_true,Option.map_some,tlX,Gu hgr,Qbr,q2]
    exact List.Perm.refl _
   have hpm:(Ox++Qf β ρ S0.flat.mem).Perm (Q2 β ρ h0 (.tail e u xs)::(Oz++Qf β ρ S0.flat.mem)):=hOz.append_right _
   have hSP:=hSG.perm hpm
   have hgv:=Qeb (ops:=⟨l0⟩) hsz0 hw
   obtain ⟨c1,hse,⟨v0,hs2,hz0⟩,A,m,c,hρ⟩:=hloc.ev (Qb a) hs
   subst hs2
   have hag:(Ty.sl u).agg=xv.isAgg:=by
    cases xv with
    | d t' y'=>obtain ⟨rfl,_⟩:=Ty.cast_ok (by simpa only [asD] using hy); rfl
    | ag l=>simp [asD] at hy
    | _=>rfl
   have hiv:=hloc.asD (Qb a) hx hy hag
   obtain ⟨A2,c2,hev,hyv⟩:=Fx (r:=rt u) hiv
   have htl:Q2 β ρ h0 (.tail e u xs)=Um (.slice A m c) e (rt u) xs:=by simp only [Q2,hρ]
   rw [htl] at hSP
   have hokp:∀b o,Jh X.ok X.w.heap.size β1 [] (Ox++Qf β ρ S0.flat.mem) w b o→Jh X.ok X.w.heap.size β1 [] (Um (.slice A m c) e (rt u) xs::(Oz++Qf β ρ S0.flat.mem)) w b o:=fun b o ⟨q1,q2,q3,q4⟩=>⟨q1,q2,q3,fun u hu=>q4 u (by rw [←htl] at hu; exact hpm.mem_iff.2 hu)⟩
   rw [Xa o,hG.dst rfl,hop] at hgv ⊢
   rcases hz0 with hz0 | ⟨h00,A0,hz0⟩
   case inr =>
    have hse':a.eval s=.slice A0 0 0:=by rw [hse,←hz0]; rfl
    have hxs:xs=[]:=by
     have:=(hSP.own _ (.head _)).1.1
     rw [←hρ,h00] at this
     obtain ⟨A',c',q1,_⟩:=Fx this
     injection q1 with _ q2
     exact List.length_eq_zero_iff.1 q2.symm
    subst hxs
    have hSD:=Sb.remake (O':=Oz++Qf β ρ S0.flat.mem) hSP (fun t' ht'=>.inl ⟨t',.tail _ ht',fun _ hg=>hg,fun _ _ hc=>hc,(hSP.own t' (.tail _ ht')).1⟩) (List.pairwise_cons.1 hSP.dOO).2
    refine Hv (a:=a) hT hSD (r:=rt u) hgv (hokd rfl) hte htd he (by rw [Jv]; exact Nat.eq_of_beq_eq_true hsz) hzl hpos hby (by rw [gvW hloc hsz0 hs,hse']) (by rw [gvW hloc hsz0 hx,hev]) ?_ happ (fun hz _ _=>?_) fun A' c' a' w' hS'=>?_
    ·refine (Ry hyv).weak fun b o hk=>?_
     obtain ⟨q1,q2,q3,q4⟩:=hokp b o hk
     exact ⟨q1,q2,q3,fun u hu=>q4 u (.tail _ hu)⟩
    ·have:=(Lq happ).2
     rw [hz] at this
     simp only [List.nil_append] at this
     rw [←this] at hyn
     cases hyn
    ·have hS2:=Sb.toTail hS' (by rw [Jv,←Nat.eq_of_beq_eq_true hsz]; exact hpos)
     obtain ⟨q1,q2⟩:=hback hS2
     refine hend β1 a' w' (Um (.slice A' zs.length c') e (rt u) zs::Oz) q1 ?_ ?_
     ·rw [←hfv]
      exact ⟨A',c',q2⟩
     ·exact fun hgd=>hfinT q2 hgd
   have hse':a.eval s=.slice A m c:=by rw [hse,←hρ,←hz0]; rfl
   refine Qq0 hT hSP hgv (hokd rfl) hte htd he hsz hpos hby hzl (by rw [gvW hloc hsz0 hs,hse']) (by rw [gvW hloc hsz0 hx,hev]) ?_ happ fun A' c' a' w' hS'=>?_
   ·exact hyv.weak hokp
   ·obtain ⟨q1,q2⟩:=hback hS'
    refine hend β1 a' w' (Um (.slice A' zs.length c') e (rt u) zs::Oz) q1 ?_ ?_
    ·rw [←hfv]
     exact ⟨A',c',q2⟩
    ·exact fun hgd=>hfinT q2 hgd
  | w id ob =>
   have hw:Region.wanted o (yielded ⟨l0⟩ a.tmps)=true:=hwant
   obtain ⟨hdn,_⟩:=hG.ndst rfl
   obtain ⟨t,p,x,e,v,hop,he,hx,hsz,hval,hin,hcase⟩:=hG.fnd
   have hti:Yj id gt (Gk.w id ob)=true:=Nat.beq_refl _
   obtain ⟨dv,h3,h4⟩:=hloc.ev (Qb a) hx
   have hdl:=Us h4
   have hes:=Nat.eq_of_beq_eq_true hsz
   have hcells:Qm (v.val dv)=dv:=Kb h4 hval hin
   have hcc:(v.val dv).cells.toList=dv:=by rw [←Y8,hcells]
   have hcsz:(v.val dv).cells.size=e.size:=by rw [←Array.length_toList,hcc]; omega
   have hsame:∀j∈Dq Zs acc,j≠id→fX β ρ Zs acc (Zm E i) a j=fX β ρ Zs acc E a j:=fun j _ hj=>R9 hdsE hnd hg (fun _ _ _ _=>rfl) (by simp [Yj,Qaf (Ne.symm hj)])
   have hput0:a.put o.dst undef=a:=by rw [hdn]; rfl
   rcases hcase with ⟨path,tid,c,c',hcu,hset,hno,rfl,htgt⟩ | ⟨j,sz,ps,et,u,xs,y,c,z,hpe,hcu,hy,hset,hz,hsu,hpos,hsm,rfl⟩
   ·obtain ⟨hbt,hcu⟩:=Nm hcu
    have hcE:U0 E id acc 0 (Qe Zs id)=some (.var tid c):=by rw [Nl hg hEi (hearly hbt) (hlate hti),hcu]
    have hcI:U0 (Zm E i) id acc 0 (Qe Zs id)=some (.var tid c'):=by
     rw [Du hg hEi (hlate hti)]
     simp only [Em,Nat.beq_refl,cond_true]
    obtain ⟨hidn,gb,hpa,htl⟩:id∈Dq Zs acc∧∃gb,a.eval p=.pointer (some ⟨gb,J4 path,none⟩)∧∀c0,tlX β ρ acc a id (.var tid c0)=G0 β ρ gb tid c0:=by
     rcases htgt with ⟨hpe,hsm⟩ | ⟨rfl,rfl,hvar,hpr⟩
     ·have hkey:=Xb hsm
      obtain ⟨c1,h1,h2⟩:=hloc.ev (Qb a) hpe
      have h2':c1=_:=h2
      subst h2'
      refine ⟨List.mem_append_left _ hkey,β id,h1,fun c0=>?_⟩
      unfold tlX
      cases hm:Yn (J0 acc) id with
      | false=>rfl
      | true=>exact absurd hkey (hZf _ (Kq hm))
     ·obtain ⟨v',ty,c0,hm⟩:=L8 hvar
      obtain ⟨j,hj,hdj,hix,hwr⟩:=Fn hnd hA hm
      simp only at hix hdj
      rw [hix] at hpr
      obtain ⟨b,q1⟩:=hpred j _ hpr (by rw [List.getElem?_map,hj]; rfl)
      have hgr:id∈J0 acc:=Uo.2 ⟨_,_,List.mem_of_getElem? hj,rfl⟩
      have q1':a.tmps.getD id undef=.pointer (some ⟨b,0,none⟩):=q1
      refine ⟨List.mem_append_right _ hgr,b,?_,fun c0=>?_⟩
      ·show a.tmps.getD id undef=_
       rw [q1']; rfl
      ·unfold tlX
       rw [Gu hgr]
       simp only [cond_true,Qbr,q1',Qgv]
    obtain ⟨Oz,p1,p2⟩:=Xk (f:=fX β ρ Zs acc E a) (f':=fX β ρ Zs acc (Zm E i) a) hN hidn hsame
    simp only [fX,hcE,Option.map_some,Option.toList_some,htl] at p1
    have p2':(OWx β ρ Zs acc (Zm E i) a).Perm (G0 β ρ gb tid c'::Oz):=by
     refine p2.trans ?_
     simp only [fX,hcI,Option.map_some,Option.toList_some,htl]
     exact List.Perm.refl _
    have hpm:(Ox++Qf β ρ S0.flat.mem).Perm (G0 β ρ gb tid c::(Oz++Qf β ρ S0.flat.mem)):=(hOX.trans p1).append_right _
    have hSP:=hS.perm hpm
    obtain ⟨cs,hh,hc⟩:=(hSP.own _ (.head _)).1
    have hokp:∀b o,Jh X.ok X.w.heap.size β1 [] (Ox++Qf β ρ S0.flat.mem) w b o→Jh X.ok X.w.heap.size β1 [] (G0 β ρ gb tid c::(Oz++Qf β ρ S0.flat.mem)) w b o:=fun b o ⟨q1,q2,q3,q4⟩=>⟨q1,q2,q3,fun u hu=>q4 u (hpm.mem_iff.2 hu)⟩
    have h4':=V1 h4 hokp
    obtain ⟨h5,h6⟩:=Wh (β:=β) (ρ:=ρ) h4' hset hc
    have hst:=run_storeCells_at P gb (J4 path) tid dv 0 cs.toArray w hh (by simp; omega) (Gr h4 hin)
    simp only [Nat.add_zero,List.toList_toArray] at hst
    have hrun:(execOp a.eval o).run P w=.ok .skip (w.setRow gb (cs.take (J4 path)++dv++cs.drop (J4 path+dv.length)).toArray):=by
     unfold execOp
     rw [hop]
     simp only [hpa,h3]
     simp [Instr.storeAt,Instr.sureAddr,storeVar,Yg hT w he,hcsz,hcc,hst]
    refine Js hw ?_
    unfold Oper.wp
    rw [hrun]
    show wpList P ⟨l0⟩ Q [] (a.put o.dst undef) _
    rw [hput0]
    have hSU:=hSP.upd (O1:=[]) (O2:=Oz++Qf β ρ S0.flat.mem) (t:=G0 β ρ gb tid c) rfl (t':=G0 β ρ gb tid c') (w':=w.setRow gb (cs.take (J4 path)++dv++cs.drop (J4 path+dv.length)).toArray) rfl rfl rfl (by simp) (fun b hb hn=>setRow_other _ _ _ _ fun e=>hn e) (fun b o hb=>hb) (fun g hg=>.inl hg) (fun hevo hok=>by
     refine ⟨_,setRow_heap _ _ _ _ _ _ hh,?_⟩
     exact V1 (We h5 hevo) hok)
    refine hend β1 a _ (G0 β ρ gb tid c'::Oz) hSU ?_ fun _=>p2'.symm
    rw [←hfv]; trivial
   ·obtain ⟨hbt,hcu⟩:=Nm hcu
    have hkey:=Xb hsm
    have hcE:U0 E id acc 0 (Qe Zs id)=some (.row et u xs):=by rw [Nl hg hEi (hearly hbt) (hlate hti),hcu]
    have hcI:U0 (Zm E i) id acc 0 (Qe Zs id)=some (.row et u (xs.set j.toNat z)):=by
     rw [Du hg hEi (hlate hti)]
     simp only [Em,Nat.beq_refl,cond_true]
    have htl:∀zs:List u.De,tlX β ρ acc a id (.row et u zs)=ml (ρ id) et (rt u) zs:=fun zs=>by
     unfold tlX
     cases hm:Yn (J0 acc) id with
     | false=>rfl
     | true=>exact absurd hkey (hZf _ (Kq hm))
    obtain ⟨Oz,p1,p2⟩:=Xk (f:=fX β ρ Zs acc E a) (f':=fX β ρ Zs acc (Zm E i) a) hN (List.mem_append_left _ hkey) hsame
    simp only [fX,hcE,Option.map_some,Option.toList_some,htl] at p1
    have p2':(OWx β ρ Zs acc (Zm E i) a).Perm (ml (ρ id) et (rt u) (xs.set j.toNat z)::Oz):=by
     refine p2.trans ?_
     simp only [fX,hcI,Option.map_some,Option.toList_some,htl]
     exact List.Perm.refl _
    have hpm:(Ox++Qf β ρ S0.flat.mem).Perm (ml (ρ id) et (rt u) xs::(Oz++Qf β ρ S0.flat.mem)):=(hOX.trans p1).append_right _
    have hSP:=hS.perm hpm
    have hokp:∀b o,Jh X.ok X.w.heap.size β1 [] (Ox++Qf β ρ S0.flat.mem) w b o→Jh X.ok X.w.heap.size β1 [] (ml (ρ id) et (rt u) xs::(Oz++Qf β ρ S0.flat.mem)) w b o:=fun b o ⟨q1,q2,q3,q4⟩=>⟨q1,q2,q3,fun u hu=>q4 u (hpm.mem_iff.2 hu)⟩
    obtain ⟨c1,h1,g0,hg0,h2'⟩:=hloc.ev (Qb a) hpe
    subst h2'
    have hszu:=Nat.eq_of_beq_eq_true hsu
    subst hszu
    have h4':=V1 h4 hokp
    obtain ⟨hl0,cs0,hown0,hr0⟩:=(hSP.own _ (.head _)).1
    obtain ⟨g,c0,hv⟩:∃g c0,ρ id=.slice (some ⟨g,0,none⟩) xs.length c0:=by
     rcases hown0.2 with ⟨hv,h0⟩ | ⟨g,cap,cur,fz,hv,_⟩
     ·rw [hv] at hg0; cases hg0
     ·exact ⟨g,cap,by rw [hv,hl0]⟩
    have hgg:g0=g:=by rw [hv] at hg0; simp [Value.ownBlock] at hg0; omega
    subst hgg
    have hoff:J4 ps+dv.length≤u.size:=by
     have hrep:=Wd hr0 (Ky hy).2
     obtain ⟨_,h6⟩:=Wh (β:=β) (ρ:=ρ) h4' hset (show cr β ρ _ w false (.d u y) _ from hrep)
     have:=(rt u).len hrep
     have h7:=Jv u
     omega
    have hmm:∀id' ob',Qe (Qea l0 ds Zs S0 i (acc.take i) o).mem id'=some ob'→(Q2 β ρ id' ob').p (Jh X.ok X.w.heap.size β1 [] (ml (ρ id) et (rt u) xs::(Oz++Qf β ρ S0.flat.mem)) w) w:=fun id' ob' ho'=>(Q2 β ρ id' ob').weak (hloc.2 id' ob' ho') hokp
    rw [hv] at hSP
    obtain ⟨cur,fz,⟨hh,hfz⟩,hlen,hSU⟩:=Sb.mset hSP [] (Oz++Qf β ρ S0.flat.mem) rfl hy (by rw [Jv]; exact Nat.le_of_ble_eq_true hpos) (off:=J4 ps) (ds:=dv) (z:=z) (by rw [Jv]; exact hoff) (Gr h4 hin) (fun es hes=>by
     rw [←hv] at hes ⊢
     obtain ⟨h5,_⟩:=Wh (β:=β) (ρ:=ρ) h4' hset (show cr β ρ _ w false (.d u y) es from hes)
     exact Ut hmm hz h5)
    rw [Jv] at hSU hlen
    have hst:=Ub P g0 (j.toNat*u.size+J4 ps) et fz dv 0 cur w hh hfz (by omega) (Gr h4 hin)
    simp only [Nat.add_zero] at hst
    have hrun:(execOp a.eval o).run P w=.ok .skip (w.setRow g0 (cur.toList.take (j.toNat*u.size+J4 ps)++dv++cur.toList.drop (j.toNat*u.size+J4 ps+dv.length)).toArray):=by
     have h1':a.eval p=.pointer (some ⟨g0,j.toNat*u.size+J4 ps,none⟩):=h1
     unfold execOp
     rw [hop]
     simp only [h1',h3]
     simp [Instr.storeAt,Instr.sureAddr,storeVar,Yg hT w he,hcsz,hcc,hst]
    refine Js hw ?_
    unfold Oper.wp
    rw [hrun]
    show wpList P ⟨l0⟩ Q [] (a.put o.dst undef) _
    rw [hput0]
    refine hend β1 a _ (ml (ρ id) et (rt u) (xs.set j.toNat z)::Oz) (by rw [hv]; exact hSU) ?_ fun _=>p2'.symm
    rw [←hfv]; trivial
 ·trivial
end
end
end Gx
