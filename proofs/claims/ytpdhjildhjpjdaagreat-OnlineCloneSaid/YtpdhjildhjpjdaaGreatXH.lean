/- Shapes of states; the interpreter. -/
import Derived.Test.YtpdhjildhjpjdaaGreatXE
import Derived.StillTail
import Derived.Test.YtpdhjildhjpjdaaGreatGCore
namespace Gx
open Go Go.RowKit Gd
set_option linter.unusedVariables false
set_option linter.unusedSimpArgs false
inductive Sk where
 | d (t:Ty)
 | p (id:Nat) (path:List PS)
 | s (id:Nat) | m (id:Nat)
 | ns | np | nm | nf | z
 | f (fn:FuncId) (caps:Sk)
 | ag (l:Sk) | nil | cons (x r:Sk)
inductive SkO where
 | var (tid:TypeId) (c:Sk)
 | row (e:TypeId) (t:Ty)
 | tail (e:TypeId) (t:Ty)
 | map (k v:Ty)
 | mapC (k:Ty) (c:CK)
structure Shp where
 env:List (Nat×Sk)
 mem:List (Nat×SkO)
abbrev DV:=Σ t:Ty,t.De
def Sk.tys:Sk→List Ty
 | .d t=>[t]
 | .f _ c=>c.tys
 | .ag l=>l.tys
 | .cons x r=>x.tys++r.tys
 | _=>[]
def SkO.tys:SkO→List Ty
 | .var _ c=>c.tys
 | .row _ t=>[.sl t]
 | .tail _ t=>[.sl t]
 | .map k v=>[.sl (.pr k v)]
 | .mapC k c=>[.sl (.pr k c.ty)]
def Jii:List (Nat×Sk)→List Ty
 | []=>[]
 | q::l=>q.2.tys++Jii l
def Jij:List (Nat×SkO)→List Ty
 | []=>[]
 | q::l=>q.2.tys++Jij l
def Shp.tys(Γ:Shp):List Ty:=Jii Γ.env++Jij Γ.mem
@[reducible] def Tup:List Ty→Type
 | []=>Unit
 | [t]=>t.De
 | t::u::ts=>t.De×Tup (u::ts)
abbrev Shp.De(Γ:Shp):Type:=Tup Γ.tys
def toL:(ts:List Ty)→Tup ts→List DV
 | [],_=>[]
 | [t],x=>[⟨t,x⟩]
 | t::u::ts,x=>⟨t,x.1⟩::toL (u::ts) x.2
def ofL:(ts:List Ty)→List DV→Option (Tup ts)
 | [],[]=>some ()
 | [t],[v]=>Ty.cast v.1 t v.2
 | t::u::ts,v::vs=>match Ty.cast v.1 t v.2,ofL (u::ts) vs with
  | some a,some b=>some (a,b)
  | _,_=>none
 | _,_=>none
def Ov:Sk→List DV→AV×List DV
 | .d t,v::vs=>(.d v.1 v.2,vs)
 | .d _,[]=>(.nil,[])
 | .p id path,vs=>(.p id path,vs)
 | .s id,vs=>(.s id,vs)
 | .m id,vs=>(.m id,vs)
 | .ns,vs=>(.ns,vs)
 | .np,vs=>(.np,vs)
 | .nm,vs=>(.nm,vs)
 | .nf,vs=>(.nf,vs)
 | .z,vs=>(.z,vs)
 | .f fn c,vs=>match Ov c vs with
  | (x,r)=>(.f fn x,r)
 | .ag l,vs=>match Ov l vs with
  | (x,r)=>(.ag x,r)
 | .nil,vs=>(.nil,vs)
 | .cons a b,vs=>match Ov a vs with
  | (x,r)=>match Ov b r with
   | (y,r')=>(.cons x y,r')
def L7:SkO→List DV→Option (Ob×List DV)
 | .var tid c,vs=>match Ov c vs with
  | (x,r)=>some (.var tid x,r)
 | .row e t,v::vs=>match Ty.cast v.1 (.sl t) v.2 with
  | some xs=>some (.row e t xs,vs)
  | none=>none
 | .tail e t,v::vs=>match Ty.cast v.1 (.sl t) v.2 with
  | some xs=>some (.tail e t xs,vs)
  | none=>none
 | .map k u,v::vs=>match Ty.cast v.1 (.sl (.pr k u)) v.2 with
  | some xs=>some (.map k u xs,vs)
  | none=>none
 | .mapC k c,v::vs=>match Ty.cast v.1 (.sl (.pr k c.ty)) v.2 with
  | some xs=>some (.mapC k c xs none,vs)
  | none=>none
 | _,[]=>none
def L8:List (Nat×Sk)→List DV→List En×List DV
 | [],vs=>([],vs)
 | (t,s)::l,vs=>match Ov s vs with
  | (x,r)=>match L8 l r with
   | (es,r')=>(⟨t,[],x⟩::es,r')
def Zu:List (Nat×SkO)→List DV→List (Nat×Ob)
 | [],_=>[]
 | (t,s)::l,vs=>match L7 s vs with
  | some (x,r)=>(t,x)::Zu l r
  | none=>[]
structure XS where
 env:List En
 fix:List En
 mem:List (Nat×Ob)
 fixM:List (Nat×Ob)
 prot:List Nat
def XS.flat(S:XS):St:=⟨S.env++S.fix,S.mem++S.fixM⟩
abbrev XS.ev(S:XS)(cur:Vz)(x:Operand):Option AV:=Gx.ev S.flat cur x
def enc(Γ:Shp)(x:Γ.De):St:=match L8 Γ.env (toL Γ.tys x)with
 | (es,r)=>⟨es,Zu Γ.mem r⟩
def PS.beq:PS→PS→Bool
 | .f k o,.f k' o'=>Nat.beq k k'&&Nat.beq o o'
 | _,_=>false
def Qzg:List PS→List PS→Bool
 | [],[]=>true
 | a::l,b::m=>PS.beq a b&&Qzg l m
 | _,_=>false
def isNone{α:Type}:Option α→Bool
 | none=>true
 | some _=>false
def CK.beq:CK→CK→Bool
 | .sl e u,.sl e' u'=>Nat.beq e e'&&Ty.beq u u'
 | .mp k v,.mp k' v'=>Ty.beq k k'&&Ty.beq v v'
 | _,_=>false
def Jeo:Sk→AV→List (Nat×Nat)
 | .s id,.s c=>[(id,c)]
 | .p id _,.p c _=>[(id,c)]
 | .m id,.m c=>[(id,c)]
 | .f _ x,.f _ y=>Jeo x y
 | .ag l,x=>match Qcn x with
  | some y=>Jeo l y
  | none=>[]
 | .cons a b,.cons x y=>Jeo a x++Jeo b y
 | _,_=>[]
def Jbf(env:List En):List (Nat×Sk)→List (Nat×Nat)
 | []=>[]
 | (t,s)::l=>match Xn env t with
  | some e=>Jeo s e.av++Jbf env l
  | none=>Jbf env l
def Qwf(M:List (Nat×Ob)):List (Nat×SkO)→List (Nat×Nat)→List (Nat×Nat)
 | [],ri=>ri
 | (id,.var _ c)::l,ri=>match Jv ri id with
  | some i=>match Qh M i with
   | some (.var _ x)=>Qwf M l (ri++Jeo c x)
   | _=>Qwf M l ri
  | none=>Qwf M l ri
 | _::l,ri=>Qwf M l ri
def Jpr(Γ:Shp)(S:St):List (Nat×Nat):=Qwf S.mem Γ.mem (Jbf S.env Γ.env)
def Yj:List Nat→Nat→Bool
 | [],_=>false
 | k::l,t=>Nat.beq k t||Yj l t
def Qwg:AV→List Nat
 | .s id=>[id]
 | .ag l=>Qwg l
 | .cons x r=>Qwg x++Qwg r
 | _=>[]
def Jep:Sk→AV→List Nat
 | .d _,x=>Qwg x
 | .f _ a,.f _ x=>Jep a x
 | .ag l,x=>match Qcn x with
  | some y=>Jep l y
  | none=>[]
 | .cons a b,.cons x y=>Jep a x++Jep b y
 | _,_=>[]
def Jik(env:List En):List (Nat×Sk)→List Nat
 | []=>[]
 | (t,s)::l=>match Xn env t with
  | some e=>Jep s e.av++Jik env l
  | none=>Jik env l
def Qzh(M:List (Nat×Ob))(ri:List (Nat×Nat)):List (Nat×SkO)→List Nat
 | []=>[]
 | (id,.var _ c)::l=>match Jv ri id with
  | some i=>match Qh M i with
   | some (.var _ x)=>Jep c x++Qzh M ri l
   | _=>Qzh M ri l
  | none=>Qzh M ri l
 | (id,.tail _ _)::l=>match Jv ri id with
  | some i=>i::Qzh M ri l
  | none=>Qzh M ri l
 | _::l=>Qzh M ri l
def Vp(ks:List Nat):List (Nat×Ob)→List (Nat×Ob)
 | []=>[]
 | (id,.row e t xs)::l=>(bif Yj ks id&&Nat.ble 1 t.size then(id,.tail e t xs)else(id,.row e t xs))::Vp ks l
 | q::l=>q::Vp ks l
def Q8n(ri:List (Nat×Nat))(id c:Nat):Bool:=match Jv ri id with
 | some i=>Nat.beq i c
 | none=>false
def Sk.isL:Sk→Bool
 | .nil=>true
 | .cons _ b=>b.isL
 | _=>false
def Uv(M:List (Nat×Ob))(ri:List (Nat×Nat))(pr:List Nat):Sk→AV→Option (List DV)
 | .d t,v=>match asD M v t with
  | some x=>bif t.agg==v.isAgg then some [⟨t,x⟩]else none
  | none=>none
 | .p id path,.p c path'=>bif Q8n ri id c&&Qzg path path' then some []else none
 | .s id,.s c=>bif Q8n ri id c&&!isNone (Qh M c)then some []else none
 | .s id,.ns=>bif isNone (Jv ri id)&&!Yj pr id then some []else none
 | .m id,.m c=>bif Q8n ri id c then some []else none
 | .ns,.ns=>some []
 | .np,.np=>some []
 | .nm,.nm=>some []
 | .nf,.nf=>some []
 | .z,.z=>some []
 | .f fn c,.f fn' x=>bif Nat.beq fn fn'&&c.isL then Uv M ri pr c x else none
 | .ag l,x=>match Qcn x with
  | some y=>Uv M ri pr l y
  | none=>none
 | .nil,.nil=>some []
 | .cons a b,.cons x y=>match Uv M ri pr a x,Uv M ri pr b y with
  | some u,some v=>some (u++v)
  | _,_=>none
 | _,_=>none
def Qr7(M:List (Nat×Ob))(ri:List (Nat×Nat))(pr:List Nat)(env:List En):List (Nat×Sk)→Option (List DV)
 | []=>some []
 | (t,s)::l=>match Xn env t with
  | some ⟨_,[],x⟩=>match Uv M ri pr s x,Qr7 M ri pr env l with
   | some u,some v=>some (u++v)
   | _,_=>none
  | _=>none
def Qa5(M:List (Nat×Ob))(ri:List (Nat×Nat))(pr:List Nat):SkO→Option Ob→Option (List DV)
 | .var tid c,some (.var tid' x)=>bif Nat.beq tid tid' then Uv M ri pr c x else none
 | .row e t,some (.row e' t' xs)=>bif Nat.beq e e'&&Ty.beq t t' then some [⟨.sl t',xs⟩]else none
 | .row e t,none=>some [⟨.sl t,[]⟩]
 | .tail e t,some (.tail e' t' xs)=>bif Nat.beq e e'&&Ty.beq t t' then some [⟨.sl t',xs⟩]else none
 | .tail e t,none=>some [⟨.sl t,[]⟩]
 | .map k u,some (.map k' u' xs)=>bif Ty.beq k k'&&Ty.beq u u' then some [⟨.sl (.pr k' u'),xs⟩]else none
 | .mapC k c,some (.mapC k' c' xs hole)=>bif Ty.beq k k'&&CK.beq c c'&&isNone hole then some [⟨.sl (.pr k' c'.ty),xs⟩]else none
 | _,_=>none
def Jbg(M:List (Nat×Ob))(ri:List (Nat×Nat))(id:Nat):Option (Option Ob):=match Jv ri id with
 | none=>some none
 | some c=>match Qh M c with
  | some o=>some (some o)
  | none=>none
def Tm(M F:List (Nat×Ob))(ri:List (Nat×Nat))(pr:List Nat):List (Nat×SkO)→Option (List DV)
 | []=>some []
 | (t,s)::l=>match Jbg M ri t with
  | some o=>match Qa5 (M++F) ri pr s o,Tm M F ri pr l with
   | some u,some v=>some (u++v)
   | _,_=>none
  | none=>none
def Bl(ri:List (Nat×Nat)):List (Nat×SkO)→List Nat→Bool
 | [],_=>true
 | (id,_)::l,cs=>match Jv ri id with
  | some c=>!Yj cs c&&Bl ri l (c::cs)
  | none=>Bl ri l cs
def Jil:List (Nat×SkO)→List Nat→Bool
 | [],_=>true
 | (id,_)::l,cs=>!Yj cs id&&Jil l (id::cs)
def frz(Γ:Shp)(ri:List (Nat×Nat))(env:List En)(M:List (Nat×Ob)):List (Nat×Ob):=Vp (Jik env Γ.env++Qzh M ri Γ.mem) M
def Jbh(ri:List (Nat×Nat))(pr:List Nat):List (Nat×SkO)→Bool
 | []=>true
 | (id,_)::l=>(!Yj pr id||Q8n ri id id)&&Jbh ri pr l
def Q3e(pr:List Nat):List (Nat×Nat)→Bool
 | []=>true
 | (id,c)::l=>(!Yj pr id||Nat.beq id c)&&Q3e pr l
def Jn3(Γ:Shp)(ri:List (Nat×Nat))(pr:List Nat)(env:List En)(M F:List (Nat×Ob)):Option Γ.De :=
 bif Bl ri Γ.mem []&&Jil Γ.mem []&&Jbh ri pr Γ.mem&&Q3e pr ri then
  match Qr7 (M++F) ri pr env Γ.env,Tm M F ri pr Γ.mem with
  | some u,some v=>ofL Γ.tys (u++v)
  | _,_=>none
 else none
def decF(Γ:Shp)(ri:List (Nat×Nat))(pr:List Nat)(env:List En)(M F:List (Nat×Ob)):Option Γ.De:=Jn3 Γ ri pr env (frz Γ ri env M) F
def Jb:AV→List Nat
 | .p id _=>[id]
 | .e id _=>[id]
 | .s id=>[id]
 | .m id=>[id]
 | .b id=>[id]
 | .w id _ _=>[id]
 | .f _ c=>Jb c
 | .ag l=>Jb l
 | .tp l=>Jb l
 | .cons x r=>Jb x++Jb r
 | _=>[]
def Tn:List En→List Nat
 | []=>[]
 | e::l=>Jb e.av++Tn l
def Jc:List (Nat×Ob)→List Nat
 | []=>[]
 | (id,.var _ c)::l=>id::(Jb c++Jc l)
 | (id,.mapC _ _ _ (some q))::l=>id::q.2::Jc l
 | (id,.mapE _ _ _ _ j)::l=>id::j::Jc l
 | (id,_)::l=>id::Jc l
def Jim(pr:List Nat):List (Nat×SkO)→List (Nat×Nat)
 | []=>[]
 | (id,_)::l=>bif Yj pr id then(id,id)::Jim pr l else Jim pr l
def XS.dec(S:XS)(Γ:Shp):Option Γ.De:=decF Γ (Qwf S.mem Γ.mem (Jbf (S.env++S.fix) Γ.env++Jim (S.prot++(Tn S.fix++Jc S.fixM)) Γ.mem)) (S.prot++(Tn S.fix++Jc S.fixM)) (S.env++S.fix) S.mem S.fixM
def Qpx(env:List En):List Nat→List En
 | []=>[]
 | t::ts=>match Xn env t with
  | some e=>e::Qpx env ts
  | none=>Qpx env ts
def Jp:List (Nat×Ob)→List Nat→List (Nat×Ob)×List (Nat×Ob)
 | M,[]=>(M,[])
 | M,t::ts=>match Qh M t with
  | some o=>((Jp (J4 M t) ts).1,(t,o)::(Jp (J4 M t) ts).2)
  | none=>Jp M ts
def XS.ent(S:XS)(ks ms:List Nat):XS:=⟨S.env,Qpx S.env ks++S.fix,(Jp S.mem ms).1,(Jp S.mem ms).2++S.fixM,S.prot⟩
def XS.re(S:XS)(S1:St):XS:=⟨S1.env,S.fix,S1.mem,S.fixM,S.prot⟩
def XS.out(S:XS)(ks ms:List Nat)(S1:St):XS:=⟨S1.env++Qpx S.env ks,S.fix,S1.mem++(Jp S.mem ms).2,S.fixM,S.prot⟩
inductive Ex where
 | n | x (id:Nat) | r
def Ex.beq:Ex→Ex→Bool
 | .n,.n=>true
 | .r,.r=>true
 | .x a,.x b=>Nat.beq a b
 | _,_=>false
abbrev Exs:=List (Ex×Shp)
@[reducible] def Qet:Exs→Type
 | []=>Empty
 | [q]=>q.2.De
 | q::r::l=>q.2.De⊕Qet (r::l)
def inj:(l:Exs)→Ex→XS→Option (Qet l)
 | [],_,_=>none
 | [q],e,S=>bif Ex.beq q.1 e then S.dec q.2 else none
 | q::r::l,e,S=>bif Ex.beq q.1 e then(match S.dec q.2 with
   | some x=>some (.inl x)
   | none=>none)else(match inj (r::l) e S with
   | some x=>some (.inr x)
   | none=>none)
def Q3f{R:Type}(S:XS)(ks ms:List Nat)(k:Ex→XS→Option R):(l:Exs)→Qet l→Option R
 | [],_=>none
 | [q],x=>k q.1 (S.out ks ms (enc q.2 x))
 | q::r::l,x=>match x with
  | .inl y=>k q.1 (S.out ks ms (enc q.2 y))
  | .inr z=>Q3f S ks ms k (r::l) z
def Ql{σ τ:Type}(f:σ→Option (σ⊕τ)):Nat→σ→Option τ
 | 0,_=>none
 | n+1,s=>(f s).bind fun
  | .inl s'=>Ql f n s'
  | .inr r=>some r
@[reducible] def Qa6:List Shp→Type
 | []=>Empty
 | [s]=>s.De
 | s::r::l=>s.De⊕Qa6 (r::l)
def Qh1:(l:List Shp)→Qa6 l→St
 | [],y=>nomatch y
 | [s],y=>enc s y
 | s::r::l,y=>match y with
  | .inl a=>enc s a
  | .inr b=>Qh1 (r::l) b
def Jsq{R:Type}:(l:List Shp)→Qa6 l→(St→Option R)→Option R
 | [],_,_=>none
 | [s],y,k=>k (enc s y)
 | s::r::l,y,k=>match y with
  | .inl a=>k (enc s a)
  | .inr b=>Jsq (r::l) b k
theorem Qq0{R:Type}:∀(l:List Shp) (y:Qa6 l) (k:St→Option R),Jsq l y k=k (Qh1 l y)
 | [],y,_=>nomatch y
 | [_],_,_=>rfl
 | _::_::_,.inl _,_=>rfl
 | _::r::l,.inr b,k=>Qq0 (r::l) b k
structure Con where
 f:FuncId
 Γ:Shp
 Δ:List Shp
 fn:Γ.De→Option (Qa6 Δ)
 ro:List Nat
def V0(Zs:List (Nat×Ob)):List Nat:=Zs.map Prod.fst
def wrM(ro:List Nat)(M:List (Nat×Ob)):List (Nat×Ob):=M.filter fun q=>!Yj ro q.1
def rdM(ro:List Nat)(M:List (Nat×Ob)):List (Nat×Ob):=M.filter fun q=>Yj ro q.1
def wrG(ro:List Nat)(M:List (Nat×SkO)):List (Nat×SkO):=M.filter fun q=>!Yj ro q.1
def rdG(ro:List Nat)(M:List (Nat×SkO)):List (Nat×SkO):=M.filter fun q=>Yj ro q.1
def roM(c:Con)(x:c.Γ.De):List (Nat×Ob):=rdM c.ro (enc c.Γ x).mem
def Qjt:Sk→AV→Bool
 | .d _,.d _ _=>true
 | .p _ _,.p _ _=>true
 | .s _,.s _=>true
 | .m _,.m _=>true
 | .ns,.ns=>true
 | .np,.np=>true
 | .nm,.nm=>true
 | .nf,.nf=>true
 | .z,.z=>true
 | .f _ c,.f _ x=>Qjt c x
 | .ag l,.ag y=>Qjt l y
 | .nil,.nil=>true
 | .cons a b,.cons x y=>Qjt a x&&Qjt b y
 | _,_=>false
def Jps:SkO→Ob→Bool
 | .var _ c,.var _ x=>Qjt c x
 | .row _ _,.row _ _ _=>true
 | .map _ _,.map _ _ _=>true
 | _,_=>false
def Qwh(ri:List (Nat×Nat))(M:List (Nat×Ob)):List (Nat×SkO)→Bool
 | []=>true
 | (id,s)::l=>(match Jv ri id with
  | some c=>(match Qh M c with
   | some ob=>Jps s ob
   | none=>false)
  | none=>false)&&Qwh ri M l
def Wd(g:Nat→Nat):AV→AV
 | .p id path=>.p (g id) path
 | .e id path=>.e (g id) path
 | .s id=>.s (g id)
 | .m id=>.m (g id)
 | .b id=>.b (g id)
 | .w id j n=>.w (g id) j n
 | .f fn c=>.f fn (Wd g c)
 | .ag l=>.ag (Wd g l)
 | .tp l=>.tp (Wd g l)
 | .cons x r=>.cons (Wd g x) (Wd g r)
 | x=>x
def Qli(g:Nat→Nat):Ob→Ob
 | .var tid c=>.var tid (Wd g c)
 | .mapC k c xs (some q)=>.mapC k c xs (some (q.1,g q.2))
 | .mapE k v xs key j=>.mapE k v xs key (g j)
 | o=>o
def Jq(ri:List (Nat×Nat))(d j:Nat):Nat:=match Jv ri j with
 | some c=>c
 | none=>10000+100*d+j
def Q3g(S:XS):List Operand→Nat→Option (List En)
 | [],_=>some []
 | x::l,i=>match S.ev [] x,Q3g S l (i+1)with
  | some v,some r=>bif Nat.blt i 100000 then some (⟨i,[],v⟩::r)else none
  | _,_=>none
def Jin:AV→Nat→Option (List En)
 | .nil,_=>some []
 | .cons x r,i=>match Jin r (i+1)with
  | some l=>bif Nat.blt i 100000 then some (⟨i,[],x⟩::l)else none
  | none=>none
 | _,_=>none
def Qwi:List En→AV
 | []=>.nil
 | e::l=>.cons e.av (Qwi l)
def Qa7(es:List En):AV:=match es with
 | [e]=>e.av
 | es=>.tp (Qwi es)
def Ye(ri:List (Nat×Nat)):List (Nat×SkO)→List Nat
 | []=>[]
 | (id,_)::l=>match Jv ri id with
  | some c=>c::Ye ri l
  | none=>Ye ri l
def Qnm:List (Nat×SkO)→Bool
 | []=>true
 | (_,.tail _ _)::_=>false
 | (_,.mapC _ _)::_=>false
 | _::l=>Qnm l
def Hh(ks:List Nat):List Nat→Bool
 | []=>true
 | i::l=>Yj ks i&&Hh ks l
def Ow:List Nat→Bool
 | []=>true
 | i::l=>!Yj l i&&Ow l
def Eb{α:Type}:Option α→Bool
 | some _=>true
 | none=>false
def Wm(g:Nat→Nat)(M:List (Nat×Ob)):List (Nat×Ob):=M.map fun q=>(g q.1,Qli g q.2)
inductive Src where
 | t (n:Nat)
 | v (id:Nat) (path:List PS)
inductive Hn where
 | done
 | n (m:Nat) (r:Hn)
 | nl (m:Nat) (r:Hn)
 | md (mode:Nat) (r:Hn)
 | keep (ts:List Nat) (r:Hn)
 | fz (id:Nat) (r:Hn)
 | sp (t:Nat) (m:Nat) (ks ms:List Nat) (Γ:Shp) (a b r:Hn)
 | call (c:Nat) (r:Hn)
 | tl (h:Hn)
 | so (t:Nat) (a b:Hn)
 | op (src:Src) (id d:Nat) (r:Hn)
 | cl (id:Nat) (r:Hn)
 | fm (id:Nat) (r:Hn)
 | dt (id:Nat) (r:Hn)
 | si (t:Nat) (n:Int) (a b:Hn)
 | br (r:Hn)
structure HD where
 h:Hn
 tch:List Nat
 ro:List Nat
 bs:List Nat
 nm:List Nat
inductive HT where
 | tl (h:Hn)
 | op (h:HD) (r:HT)
 | so (t:Nat) (a b:HT)
def Mz{ε σ τ:Type}(f:ε→σ→Option (σ⊕τ)):List ε→σ→Option (σ⊕τ)
 | [],s=>some (.inl s)
 | e::l,s=>match f e s with
  | some (.inl s')=>Mz f l s'
  | some (.inr x)=>some (.inr x)
  | none=>none
open Classical in
noncomputable def Qr8{ε σ τ:Type}(f:ε→σ→Option (σ⊕τ))(l:List ε)(s:σ):Option (σ⊕τ) :=
 if ∀ys:List ε,ys.Perm l→Mz f ys s=Mz f l s then Mz f l s else none
noncomputable def Ih{ε σ τ:Type}(f:ε→σ→Option (σ⊕τ)):List ε→σ→Option (σ⊕τ)
 | [],s=>some (.inl s)
 | [e],s=>f e s
 | e::e'::l,s=>Qr8 f (e::e'::l) s
inductive An where
 | nil
 | mp (h:Hn) (ks ms:List Nat) (Γ:Shp) (exs:Exs) (h3:Hn) (a:An)
 | reg (h:Hn)
 | two (a b:An)
 | un (a:An)
 | lp (ks ms:List Nat) (Γ:Shp) (exs:Exs) (a:An)
 | jn (ks ms:List Nat) (exs:Exs) (a:An)
 | dr (m:Nat) (h1 h2:Hn)
 | dc (m:Nat) (ds zs zf:List Nat) (ht:HT)
 | ch (t n:Nat) (a b:An)
 | cn (t:Nat) (a b:An)
 | gh (g:Hn) (a:An)
def Qju(ops:List Oper)(o:Oper):Option (Option (Nat×Bool)):=match o.guard with
 | none=>some none
 | some (j,want)=>match ops[j]? with
  | some p=>match p.dst with
   | some t=>some (some (t,want))
   | none=>none
  | none=>none
def Zv(d:Nat):AV→Bool
 | .p id _=>!Nat.beq id d
 | .e id _=>!Nat.beq id d
 | .s id=>!Nat.beq id d
 | .m id=>!Nat.beq id d
 | .b id=>!Nat.beq id d
 | .w id _ _=>!Nat.beq id d
 | .f _ c=>Zv d c
 | .ag l=>Zv d l
 | .tp l=>Zv d l
 | .cons x r=>Zv d x&&Zv d r
 | _=>true
def Jy(d:Nat):List (Nat×Ob)→Bool
 | []=>true
 | (k,.var _ c)::l=>!Nat.beq k d&&Zv d c&&Jy d l
 | (k,.mapC _ _ _ (some q))::l=>!Nat.beq k d&&!Nat.beq q.2 d&&Jy d l
 | (k,.mapE _ _ _ _ j)::l=>!Nat.beq k d&&!Nat.beq j d&&Jy d l
 | (k,_)::l=>!Nat.beq k d&&Jy d l
def Y7(d:Nat):List En→List En
 | []=>[]
 | e::l=>bif Zv d e.av then e::Y7 d l else Y7 d l
def Rr(d:Nat):List En→Bool
 | []=>true
 | e::l=>!(Nat.beq e.t d||Qa1 d e.cs)&&Rr d l
def Qfk(d:Nat):List En→Bool
 | []=>true
 | e::l=>Zv d e.av&&Qfk d l
def Jbi(ri:List (Nat×Nat))(d:Nat)(Γk:List Nat)(S:XS)(M:List (Nat×Ob)):List Nat→Bool
 | []=>true
 | j::l=>(bif Eb (Jv ri j)then Yj Γk j else
   Jy (Jq ri d j) M&&Jy (Jq ri d j) S.fixM&&Qfk (Jq ri d j) S.fix&&Qfk (Jq ri d j) S.env&&!Yj S.prot (Jq ri d j)&&!Yj Γk j)&&Jbi ri d Γk S M l
def XS.put(S:XS)(d:Nat)(cs:Vz)(x:AV):XS:={ S with env:=⟨d,cs,x⟩::Jx S.env d }
def XS.born(S:XS)(d:Nat)(o:Ob):XS:={ S with env:=Y7 d S.env,mem:=(d,o)::S.mem }
def XS.set(S:XS)(id:Nat)(o:Ob):XS:={ S with mem:=Rq S.mem id o }
def noS(d:Nat):AV→Bool
 | .e id _=>!Nat.beq id d
 | .s id=>!Nat.beq id d
 | .f _ c=>noS d c
 | .ag l=>noS d l
 | .tp l=>noS d l
 | .cons x r=>noS d x&&noS d r
 | _=>true
def Jio(d:Nat):List En→Bool
 | []=>true
 | e::l=>noS d e.av&&Jio d l
def Qeu(d:Nat):List (Nat×Ob)→Bool
 | []=>true
 | (k,.var _ c)::l=>!Nat.beq k d&&noS d c&&Qeu d l
 | (k,.mapC _ _ _ (some q))::l=>!Nat.beq k d&&!Nat.beq q.2 d&&Qeu d l
 | (k,_)::l=>!Nat.beq k d&&Qeu d l
def XS.swap(S:XS)(id:Nat)(o:Ob):XS:={ S with mem:=(id,o)::J4 S.mem id }
def Qjv(S:XS)(id:Nat):Bool:=Jio id S.env&&Jio id S.fix&&Qeu id (J4 S.mem id)&&Qeu id S.fixM&&!Yj S.prot id
def Jwg(S:XS):Src→Option AV
 | .t n=>S.ev [] (.tmp n)
 | .v id path=>match Qh S.flat.mem id with
  | some (.var _ c)=>nav path c
  | _=>none
section
variable {R:Type} (Y:TX) (n:Nat)
def okW(S:XS)(d:Nat):Bool:=Nat.blt d n&&Nat.blt d 100000&&Rr d S.fix
def okB(S:XS)(d:Nat):Bool:=Jy d S.mem&&Jy d S.fixM&&Qfk d S.fix&&!Yj S.prot d
def asR(M:List (Nat×Ob))(xv:AV)(u:Ty):Option (List u.De):=match asD M xv (.sl u)with
 | some ys=>some ys
 | none=>match xv with
  | .s id=>match Qh M id with
   | some (.row _ t ys)=>Ty.cast (.sl t) (.sl u) ys
   | _=>none
  | _=>none
def Qjw(o:Oper)(S:XS)(k:XS→Option R):Option R :=
 match o.op,o.dst with
 | .alloc t,some d=>match Qk Y.T t,Jv Y.tys t with
  | some e,some ty=>match Ou ty e.z with
   | some c=>bif okW n S d&&okB S d&&c.isVal&&Zv d c then k ((S.born d (.var t c)).put d [] (.p d []))else none
   | none=>none
  | _,_=>none
 | .box t x,some d=>match S.ev [] x with
  | some c=>bif okW n S d&&okB S d&&c.isVal&&c.inMem&&Zv d c then k ((S.born d (.var t c)).put d [] (.p d []))else none
  | none=>none
 | .store t p x,none=>match Qk Y.T t,S.ev [] p,S.ev [] x with
  | some e,some (.p id path),some v=>match Qh S.mem id with
   | some (.var tid c)=>match Qpv path c v with
    | some c'=>bif Nat.beq e.size v.size&&v.isVal&&v.inMem then k (S.set id (.var tid c'))else none
    | none=>none
   | _=>none
  | some e,some (.e id (.i j sz::ps)),some v=>match Qh S.mem id with
   | some (.row et u xs)=>(idx xs j).bind fun y=>match Qpv ps (.d u y) v with
    | some c=>match asD S.flat.mem c u with
     | some z=>bif Nat.beq e.size v.size&&Nat.beq sz u.size&&Nat.ble 1 u.size&&v.isVal&&v.inMem then k (S.set id (.row et u (xs.set j.toNat z)))else none
     | none=>none
    | none=>none
   | _=>none
  | _,_,_=>none
 | .makeMap t rs,some d=>match Qk Y.T t with
  | some te=>match te.d with
   | .map kt et=>match Jv Y.tys kt,Jv Y.tys et with
    | some kk,some v=>bif okW n S d&&okB S d&&isNone rs then k ((S.born d (.map kk v [])).put d [] (.m d))else none
    | _,_=>none
   | _=>none
  | none=>none
 | .mapUpdate t m ky x,none=>match Qk Y.T t,S.ev [] m,S.ev [] ky,S.ev [] x with
  | some te,some (.m id),some kv,some xv=>match te.d,Qh S.mem id with
   | .map kt et,some (.map kk v xs)=>match Qk Y.T kt,asD [] kv kk,asD S.flat.mem xv v with
    | some tk,some key,some y=>bif Y6 Y.T kk tk.d&&(kk.agg==kv.isAgg)&&(v.agg==xv.isAgg)then k (S.set id (.map kk v (Jj key y xs)))else none
    | _,_,_=>none
   | _,_=>none
  | _,_,_,_=>none
 | .makeSlice t l c,some d=>match Qk Y.T t,S.ev [] l,S.ev [] c with
  | some te,some lv,some cv=>match Yy te.d,W9 lv,W9 cv with
   | some e,some (_,nl),some (_,nc)=>match Qk Y.T e,Jv Y.tys e with
    | some ee,some u=>match Ou u ee.z with
     | some za=>match asD [] za u with
      | some z=>bif okW n S d&&okB S d&&Nat.beq ee.size u.size&&Nat.beq (Qu ee.z).length ee.size&&Nat.ble 1 ee.bytes then
        (mkL ee.bytes nl nc z).bind fun zs=>k ((S.born d (.row e u zs)).put d [] (.s d))else none
      | none=>none
     | none=>none
    | _,_=>none
   | _,_,_=>none
  | _,_,_=>none
 | .buildSlice t len ⟨parts⟩,some d=>match Qk Y.T t with
  | some te=>match Yy te.d with
   | some e=>match Qk Y.T e,Jv Y.tys e with
    | some ee,some u=>bif okW n S d&&Nat.beq ee.size u.size then(match len,parts with
     | 0,[]=>bif okB S d then k ((S.born d (.row e u [])).put d [] (.s d))else none
     | 0,_=>none
     | m+1,ps=>match Vt S.flat [] ps with
      | some vs=>match asLs S.flat.mem u vs 0 with
       | some xs=>bif Nat.beq xs.length (m+1)&&Nat.ble ((m+1)*ee.size) 16777216&&Nat.ble 1 ee.size&&Nat.beq (Qu ee.z).length ee.size then k (S.put d [] (.d (.sl u) xs))else none
       | none=>none
      | none=>none)else none
    | _,_=>none
   | none=>none
  | none=>none
 | .call ⟨.builtin .append,⟨[s,x]⟩,⟨[t,t']⟩⟩,some d=>match Qk Y.T t,S.ev [] s,S.ev [] x with
  | some te,some sv,some xv=>match Yy te.d with
   | some e=>match Qk Y.T e with
    | some ee=>bif okW n S d&&Nat.beq t t'&&Nat.ble 1 ee.size&&Nat.ble 1 ee.bytes&&Nat.beq (Qu ee.z).length ee.size then(match sv with
     | .ns=>match Jv Y.tys e with
      | some u=>match asR S.flat.mem xv u with
       | some ys=>bif okB S d&&Nat.beq ee.size u.size then(app ee.bytes [] ys).bind fun zs=>k ((S.born d (.row e u zs)).put d [] (.s d))else none
       | none=>none
      | none=>none
     | .z=>match Jv Y.tys e with
      | some u=>match asR S.flat.mem xv u with
       | some ys=>bif okB S d&&Nat.beq ee.size u.size then(app ee.bytes [] ys).bind fun zs=>k ((S.born d (.row e u zs)).put d [] (.s d))else none
       | none=>none
      | none=>none
     | .s id=>match Qh S.mem id with
      | some (.row e' u xs)=>match asR S.flat.mem xv u with
       | some ys=>bif okB ⟨S.env,S.fix,J4 S.mem id,S.fixM,S.prot⟩ d&&Nat.beq ee.size u.size&&Nat.beq e e' then
         (app ee.bytes xs ys).bind fun zs=>k (({ S with mem:=J4 S.mem id }.born d (.row e u zs)).put d [] (.s d))else none
       | none=>none
      | some (.tail e' u xs)=>match asD S.flat.mem xv (.sl u)with
       | some ys=>bif okB ⟨S.env,S.fix,J4 S.mem id,S.fixM,S.prot⟩ d&&Nat.beq ee.size u.size&&Nat.beq e e' then
         (app ee.bytes xs ys).bind fun zs=>k (({ S with mem:=J4 S.mem id }.born d (.tail e u zs)).put d [] (.s d))else none
       | none=>none
      | _=>none
     | _=>none)else none
    | none=>none
   | none=>none
  | _,_,_=>none
 | op,some d=>bif okW n S d then Qlh Y S.flat [] op fun v=>k (S.put d [] v)else none
 | _,none=>none
def Jsr:AV→Bool
 | .np=>true
 | .p _ _=>true
 | _=>false
def Jeq:List (Nat×AV)→Nat→Option AV
 | [],_=>some .nil
 | (i,v)::l,j=>bif Nat.beq i j&&Jsr v then(match Jeq l (j+1)with
  | some r=>some (.cons v r)
  | none=>none)else none
def Ga{k:Ty}{ν:Type}(key:k.De):List (k.De×ν)→List (k.De×ν)
 | []=>[]
 | x::l=>bif eqK k key x.1 then l else x::Ga key l
def Iu{α:Type}(xs ys:List α):List α:=ys.take (Nat.min ys.length xs.length)++xs.drop (Nat.min ys.length xs.length)
def Qiy{α:Type}(xs ys:List α):Int:=(Nat.min ys.length xs.length:Nat)
def Jn4(o:Oper)(S:XS):Nat:=match o.op with
 | .call ⟨.builtin .append,⟨[_,x]⟩,_⟩=>match S.ev [] x with
  | some (.d .str _)=>1
  | _=>0
 | .convert _ t x=>match S.ev [] x with
  | some (.d .str _)=>match Qk Y.T t with
   | some te=>match Yy te.d with
    | some _=>2
    | none=>0
   | none=>0
  | _=>0
 | .store _ p _=>match S.ev [] p with
  | some (.p _ path)=>bif Jsp path then 3 else 0
  | _=>0
 | .call ⟨.builtin .copy,_,_⟩=>4
 | .call ⟨.builtin .delete,_,_⟩=>5
 | .buildSlice t (_+1) _=>match Qk Y.T t with
  | some te=>match Yy te.d with
   | some e=>match Jv Y.tys e with
    | none=>7
    | some u=>bif Ty.beq u .ref then 7 else 0
   | none=>0
  | none=>0
 | .slice _ x none _ none=>match S.ev [] x with
  | some (.s id)=>match Qh S.mem id with
   | some (.row _ _ _)=>6
   | _=>0
  | _=>0
 | .slice _ x none (some _) (some _)=>match S.ev [] x with
  | some (.s id)=>match Qh S.mem id with
   | some (.row _ _ _)=>8
   | _=>0
  | _=>0
 | _=>0
def Jss:Value→Bool
 | .int .u8 0=>true
 | _=>false
def Jst:TypeDesc→Bool
 | .int .u8=>true
 | _=>false
def Q8o:TypeDesc→Bool
 | .string=>true
 | _=>false
def K9(l:Str):List Int:=l.map fun b=>(b.toNat:Int)
def Qwj(o:Oper)(S:XS)(k:XS→Option R):Option R:=match o.op,o.dst with
 | .call ⟨.builtin .append,⟨[s,x]⟩,⟨[t,t']⟩⟩,some d=>match Qk Y.T t,Qk Y.T t',S.ev [] s,S.ev [] x with
  | some te,some te',some sv,some (.d .str l)=>match Yy te.d with
   | some e=>match Qk Y.T e with
    | some ee=>bif okW n S d&&Q8o te'.d&&Jss ee.z&&Nat.beq ee.size 1&&Nat.beq ee.bytes 1 then(match sv with
     | .ns=>bif okB S d then(app 1 [] (K9 l)).bind fun zs=>k ((S.born d (.row e (.int .u8) zs)).put d [] (.s d))else none
     | .s id=>match Qh S.mem id with
      | some (.row e' (.int .u8) xs)=>bif okB ⟨S.env,S.fix,J4 S.mem id,S.fixM,S.prot⟩ d&&Nat.beq e e' then
        (app 1 xs (K9 l)).bind fun zs=>k (({ S with mem:=J4 S.mem id }.born d (.row e (.int .u8) zs)).put d [] (.s d))else none
      | _=>none
     | _=>none)else none
    | none=>none
   | none=>none
  | _,_,_,_=>none
 | .convert s t x,some d=>match Qk Y.T s,Qk Y.T t,S.ev [] x with
  | some se,some te,some (.d .str l)=>match Yy te.d with
   | some e=>match Qk Y.T e with
    | some ee=>bif okW n S d&&okB S d&&Jst ee.d then(app 1 [] (K9 l)).bind fun zs=>k ((S.born d (.row e (.int .u8) zs)).put d [] (.s d))else none
    | none=>none
   | none=>none
  | _,_,_=>none
 | .store t p x,none=>match Qk Y.T t,S.ev [] p,S.ev [] x with
  | some e,some (.p id path),some v=>match Qh S.mem id with
   | some (.var tid c)=>Qpw S.flat.mem path c v fun c'=>bif Nat.beq e.size v.size&&v.isVal&&v.inMem then k (S.set id (.var tid c'))else none
   | _=>none
  | _,_,_=>none
 | .call ⟨.builtin .copy,⟨[dst,src]⟩,⟨[t,t']⟩⟩,some d=>match Qk Y.T t,S.ev [] dst,S.ev [] src with
  | some te,some (.s id),some xv=>match Yy te.d with
   | some e=>match Qk Y.T e,Qh S.mem id with
    | some ee,some (.row et u xs)=>match asD S.flat.mem xv (.sl u)with
     | some ys=>bif okW n S d&&Nat.beq ee.size u.size&&Nat.ble 1 u.size then k ((S.set id (.row et u (Iu xs ys))).put d [] (.d (.int .i64) (Qiy xs ys)))else none
     | none=>none
    | _,_=>none
   | none=>none
  | _,_,_=>none
 | .call ⟨.builtin .delete,⟨[m,ky]⟩,⟨[t,t']⟩⟩,none=>match Qk Y.T t,S.ev [] m,S.ev [] ky with
  | some te,some (.m id),some kv=>match te.d,Qh S.mem id with
   | .map kt et,some (.map kk v xs)=>match Qk Y.T kt,asD [] kv kk with
    | some tk,some key=>bif Y6 Y.T kk tk.d&&(kk.agg==kv.isAgg)then k (S.set id (.map kk v (Ga key xs)))else none
    | _,_=>none
   | _,_=>none
  | _,_,_=>none
 | .buildSlice t (m+1) ⟨ps⟩,some d=>match Qk Y.T t with
  | some te=>match Yy te.d with
   | some e=>match Qk Y.T e,Vt S.flat [] ps with
    | some ee,some vs=>match Jeq vs 0 with
     | some c=>bif okW n S d&&okB S d&&Zv d c&&Nat.beq vs.length (m+1)&&Nat.beq ee.size 1&&Nat.beq (Qu ee.z).length 1&&Nat.ble (m+1) 16777216 then k ((S.born d (.var e (.ag c))).put d [] (.w d 0 ((m+1:Nat):Int)))else none
     | none=>none
    | _,_=>none
   | none=>none
  | none=>none
 | .slice t x none hi none,some d=>match Qk Y.T t,S.ev [] x with
  | some te,some (.s id)=>match Yy te.d,Qh S.mem id with
   | some e,some (.row e' u xs)=>match Qk Y.T e,bnd S.flat [] xs.length hi with
    | some ee,some q=>bif okW n S d&&okB ⟨S.env,S.fix,J4 S.mem id,S.fixM,S.prot⟩ d&&Nat.beq ee.size u.size&&Nat.beq e e' then
      (slc xs 0 q).bind fun ys=>k (({ S with mem:=J4 S.mem id }.born d (.row e u ys)).put d [] (.s d))else none
    | _,_=>none
   | _,_=>none
  | _,_=>none
 | .slice t x none (some hi) (some mx),some d=>match Qk Y.T t,S.ev [] x,S.ev [] hi,S.ev [] mx with
  | some te,some (.s id),some hv,some mv=>match Yy te.d,Qh S.mem id,W9 hv,W9 mv with
   | some e,some (.row e' u xs),some (_,q),some (_,m)=>match Qk Y.T e with
    | some ee=>bif okW n S d&&okB ⟨S.env,S.fix,J4 S.mem id,S.fixM,S.prot⟩ d&&Nat.beq ee.size u.size&&Nat.beq e e' then
      (chk (decide (q≤m)&&decide (m≤(xs.length:Int)))).bind fun _=>(slc xs 0 q).bind fun ys=>k (({ S with mem:=J4 S.mem id }.born d (.row e u ys)).put d [] (.s d))else none
    | _=>none
   | _,_,_,_=>none
  | _,_,_,_=>none
 | _,_=>none
def Qoz(o:Oper)(S:XS)(k:XS→Option R):Option R:=match Jn4 Y o S with
 | 0=>Qjw Y n o S k
 | _+1=>Qwj Y n o S k
def Qr9:Value→Bool
 | .map none=>true
 | _=>false
def Qzi:Value→Bool
 | .slice none 0 0=>true
 | _=>false
def Q8p:CK→Value→Bool
 | .sl _ _,v=>Qzi v
 | .mp _ _,v=>Qr9 v
def Jwh(Y:TX)(et:TypeId):Option CK:=match Qk Y.T et with
 | some te=>match te.d with
  | .slice e=>match Jv Y.tys e with
   | some u=>some (.sl e u)
   | none=>none
  | .map k v=>match Jv Y.tys k,Jv Y.tys v with
   | some k,some v=>some (.mp k v)
   | _,_=>none
  | _=>none
 | none=>none
def Jpt:CK→Option Ob→Option (Σ t:Ty,t.De)
 | .sl e _,some (.row e' u' ys)=>bif Nat.beq e e' then some ⟨.sl u',ys⟩else none
 | .mp _ _,some (.map k' v' ys)=>some ⟨.sl (.pr k' v'),ys⟩
 | _,_=>none
def Qo0(c:CK)(o:Option Ob):Option c.ty.De:=match Jpt c o with
 | some v=>Ty.cast v.1 c.ty v.2
 | none=>none
def obC:(c:CK)→c.ty.De→Ob
 | .sl e u,ys=>.row e u ys
 | .mp k v,ys=>.map k v ys
def avC:CK→Nat→AV
 | .sl _ _,id=>.s id
 | .mp _ _,id=>.m id
def idC:CK→AV→Option Nat
 | .sl _ _,.s id=>some id
 | .mp _ _,.m id=>some id
 | _,_=>none
def Jn5(S:XS)(id:Nat)(kk:Ty)(c:CK)(xs:List (kk.De×c.ty.De))(hole:Option (kk.De×Nat))(key:kk.De)(xv:AV)(k:XS→Option R):Option R:=match idC c xv with
 | some h1=>match Qo0 c (Qh S.mem h1)with
  | some ys=>bif Qjv { S with mem:=J4 S.mem h1 } id&&!Nat.beq h1 id then(chk (match hole,c with
    | some q,.sl _ _=>eqK kk key q.1
    | none,.mp _ _=>true
    | _,_=>false)).bind fun _=>k (XS.swap { S with mem:=J4 S.mem h1 } id (.mapC kk c (Yu key ys xs) none))else none
  | none=>none
 | none=>none
def Q8q(M:List (Nat×Ob))(kk:Ty)(c:CK)(xs:List (kk.De×c.ty.De))(hole:Option (kk.De×Nat))(key:kk.De)(k:AV→Option R):Option R:=match hole,c with
 | some q,c=>bif Eb (Qo0 c (Qh M q.2))then(chk (eqK kk key q.1)).bind fun _=>k (avC c q.2)else none
 | none,.mp _ _=>(chk (isNone (Qg key xs))).bind fun _=>k .nm
 | none,.sl _ _=>none
def Jpu(S:XS)(id d:Nat)(kk:Ty)(key:kk.De)(k:XS→Option R):(c:CK)→List (kk.De×c.ty.De)→Option R
 | .sl e u,xs=>k ((S.swap id (.mapC kk (.sl e u) xs (some (key,d)))).born d (.row e u ((Qg key xs).getD [])))
 | .mp k2 v2,xs=>match Qg key xs with
  | some ys=>k ((S.swap id (.mapC kk (.mp k2 v2) xs (some (key,d)))).born d (.map k2 v2 ys))
  | none=>k S
def Jwi:CK→Bool
 | .sl _ _=>false
 | .mp _ _=>true
def Qsa(S:XS)(id:Nat)(k:XS→Option R):Option R:=match Qh S.mem id with
 | some (.mapC kk c xs (some q))=>match Qo0 c (Qh S.mem q.2)with
  | some ys=>bif Qjv { S with mem:=J4 S.mem q.2 } id&&Ir kk&&Jwi c then k (XS.swap { S with mem:=J4 S.mem q.2 } id (.mapC kk c (Yu q.1 ys xs) none))else none
  | none=>none
 | some (.mapC _ _ _ none)=>k S
 | _=>none
def Q3h(S:XS)(id:Nat)(k:XS→Option R):Option R:=match Qh S.mem id with
 | some (.mapC kk (.sl _ u) xs none)=>k (S.swap id (.map kk (.sl u) xs))
 | _=>none
def Q3i(S:XS)(src:Src)(id d:Nat)(k:XS→Option R):Option R:=match Qh S.mem id with
 | some (.mapC kk c xs none)=>match Jwg S src with
  | some av=>match asD S.flat.mem av kk with
   | some key=>bif Ir kk&&Qjv S id&&okB S d then Jpu S id d kk key k c xs else none
   | none=>none
  | none=>none
 | _=>none
def Qiz(o:Oper)(S:XS)(k:XS→Option R):Option R:=match o.op,o.dst with
 | .buildSlice t (m+1) ⟨ps⟩,some d=>match Qk Y.T t with
  | some te=>match Yy te.d with
   | some e=>match Qk Y.T e,Jv Y.tys e,Vt S.flat [] ps with
    | some ee,some u,some vs=>match asLs S.flat.mem u vs 0 with
     | some xs=>bif okW n S d&&okB S d&&Nat.beq ee.size u.size&&Nat.beq xs.length (m+1)&&Nat.ble ((m+1)*ee.size) 16777216&&Nat.ble 1 ee.size&&Nat.beq (Qu ee.z).length ee.size then k ((S.born d (.row e u xs)).put d [] (.s d))else none
     | none=>none
    | _,_,_=>none
   | none=>none
  | none=>none
 | .makeMap t rs,some d=>match Qk Y.T t with
  | some te=>match te.d with
   | .map kt et=>match Jv Y.tys kt,Jwh Y et with
    | some kk,some c=>bif okW n S d&&okB S d&&isNone rs then k ((S.born d (.mapC kk c [] none)).put d [] (.m d))else none
    | _,_=>none
   | _=>none
  | none=>none
 | .mapUpdate t m ky x,none=>match Qk Y.T t,S.ev [] m,S.ev [] ky,S.ev [] x with
  | some te,some (.m id),some kv,some xv=>match te.d,Qh S.mem id with
   | .map kt _,some (.mapC kk c xs hole)=>match Qk Y.T kt,asD [] kv kk with
    | some tk,some key=>bif Y6 Y.T kk tk.d&&(kk.agg==kv.isAgg)then Jn5 S id kk c xs hole key xv k else none
    | _,_=>none
   | _,_=>none
  | _,_,_,_=>none
 | .mapEntry t m ky,some d=>match Qk Y.T t,S.ev [] m,S.ev [] ky with
  | some te,some (.m id),some kv=>match te.d,Qh S.mem id with
   | .map kt et,some (.map kk v xs)=>match Qk Y.T kt,Qk Y.T et,asD [] kv kk with
    | some tk,some tz,some key=>match Ou v tz.z with
     | some za=>match asD [] za v with
      | some z=>bif okW n S d&&okB S d&&Y6 Y.T kk tk.d&&(kk.agg==kv.isAgg)&&(v.agg==Qjr tz.z)then
        k ((XS.mk (Y7 d S.env) S.fix (Rq S.mem id (.mapE kk v (Jj key ((Qg key xs).getD z) xs) key d)) S.fixM S.prot).put d [] (.tp (.cons (.d v ((Qg key xs).getD z)) (.cons (.b d) .nil))))else none
      | none=>none
     | none=>none
    | _,_,_=>none
   | _,_=>none
  | _,_,_=>none
 | .entryStore t m st x,none=>match S.ev [] m,S.ev [] st,S.ev [] x with
  | some (.m id),some (.b j),some xv=>match Qh S.mem id with
   | some (.mapE kk v xs key j')=>match Qk Y.T t with
    | some te=>match te.d with
     | .map kt et=>match Qk Y.T kt,asD S.flat.mem xv v with
      | some tk,some y=>bif Nat.beq j j'&&Y6 Y.T kk tk.d&&(v.agg==xv.isAgg)then k (S.set id (.map kk v (Jj key y xs)))else none
      | _,_=>none
     | _=>none
    | none=>none
   | _=>none
  | _,_,_=>none
 | .lookup t m ky false,some d=>match Qk Y.T t,S.ev [] ky with
  | some te,some kv=>match te.d with
   | .map kt et=>match Qk Y.T kt,Qk Y.T et,S.ev [] m with
    | some tk,some tz,some (.m id)=>match Qh S.flat.mem id with
     | some (.mapC kk c xs hole)=>match asD [] kv kk with
      | some key=>bif okW n S d&&Y6 Y.T kk tk.d&&(kk.agg==kv.isAgg)&&Q8p c tz.z then Q8q S.flat.mem kk c xs hole key fun v=>k (S.put d [] v)else none
      | none=>none
     | _=>Qjw Y n o S k
    | some tk,some tz,some .nm=>match Jv Y.tys kt,Jv Y.tys et with
     | some kk,some v=>match asD [] kv kk,Ou v tz.z with
      | some key,some za=>match asD [] za v with
       | some z=>bif okW n S d&&Y6 Y.T kk tk.d&&(kk.agg==kv.isAgg)&&(v.agg==Qjr tz.z)then k (S.put d [] (.d v z))else none
       | none=>none
      | _,_=>none
     | _,_=>none
    | _,_,_=>none
   | _=>none
  | _,_=>none
 | _,_=>none
def Ku(c:Con)(o:Oper)(S:XS)(k:XS→Option R):Option R :=
 match o.op,o.dst with
 | .call ⟨.value x,⟨xs⟩,_⟩,some d=>match S.ev [] x with
  | some (.f f caps)=>bif Nat.beq c.f f&&okW n S d then(match Q3g S xs 0,Jin caps xs.length with
   | some es0,some cs=>callE c d S (es0++cs) (Jpr c.Γ ⟨es0++cs,S.mem++S.fixM⟩) k
   | _,_=>none)else none
  | _=>none
 | _,_=>none
where
 callE (c:Con) (d:Nat) (S:XS) (es:List En) (ri:List (Nat×Nat)) (k:XS→Option R):Option R :=
  match Jn3 c.Γ ri [] es (frz c.Γ ri es S.mem++S.fixM) []with
  | some x=>bif Qnm c.Γ.mem&&Nat.beq es.length c.Γ.env.length&&Hh (V0 S.mem) (Ye ri (wrG c.ro c.Γ.mem))&&Qwh ri (frz c.Γ ri es S.mem++S.fixM) (rdG c.ro c.Γ.mem)then
   (c.fn x).bind fun y=>Jsq c.Δ y fun S1=>callR c d S ri (Jp (frz c.Γ ri es S.mem) (Ye ri (wrG c.ro c.Γ.mem))).1 S1 (roM c x) k else none
  | none=>none
 callR (c:Con) (d:Nat) (S:XS) (ri:List (Nat×Nat)) (M:List (Nat×Ob)) (S1:St) (RO:List (Nat×Ob)) (k:XS→Option R):Option R :=
  bif Jbi ri d (c.Γ.mem.map Prod.fst) S M (S1.mem.map Prod.fst)&&Ow ((S1.mem++RO).map fun q=>Jq ri d q.1)&&Hh ((S1.mem++RO).map Prod.fst) (Tn S1.env)&&Hh ((S1.mem++RO).map Prod.fst) (Jc (S1.mem++RO))then
   k (XS.put ⟨S.env,S.fix,Wm (Jq ri d) S1.mem++M,S.fixM,S.prot⟩ d [] (Wd (Jq ri d) (Qa7 S1.env)))else none
def Qlj(t:Nat)(want:Bool)(o:Oper)(S:XS)(k:XS→Option R):Option R :=
 match Xn S.flat.env t,o.dst with
 | some ⟨_,cs,.d .bool _⟩,some d=>bif okW n S d&&!Nat.beq t d&&!Qa1 d cs then(match Qle Y S.flat ((t,want)::cs) o.op with
   | some v=>k (S.put d ((t,want)::cs) v)
   | none=>none)else none
 | _,_=>none
def Qlk(ops:List Oper)(o:Oper)(S:XS)(k:XS→Option R):Option R:=match Qju ops o with
 | some none=>Qoz Y n o S k
 | some (some (t,want))=>Qlj Y n t want o S k
 | none=>none
def Qfl(o:Oper)(S:XS)(k:XS→Option R):Option R:=match o.dst with
 | some d=>bif okW n S d then k (S.put d [] (.tp .nil))else none
 | none=>k S
def stepL(ops:List Oper)(o:Oper)(S:XS)(k:XS→Option R):Option R:=match Qju ops o with
 | some none=>Qoz Y n o S k
 | some (some (t,want))=>match Xn S.flat.env t with
  | some ⟨_,[],.d .bool b⟩=>match b==want with
   | true=>Qoz Y n o S k
   | false=>Qfl n o S k
  | some ⟨_,[],.tp .nil⟩=>Qfl n o S k
  | _=>none
 | none=>none
def Qpy(st:Oper→XS→(XS→Option R)→Option R):List Oper→XS→(XS→Option R)→Option R
 | [],S,k=>k S
 | o::l,S,k=>st o S fun S'=>Qpy st l S' k
end
def Va(Y:TX)(K:List Con)(n:Nat)(ops:List Oper){R:Type}:Hn→List Oper→XS→(XS→Option R)→Option R
 | .done,l,S,k=>match l with
  | []=>k S
  | _::_=>none
 | .n m r,l,S,k=>Qpy (Qlk Y n ops) (l.take m) S fun S'=>Va Y K n ops r (l.drop m) S' k
 | .nl m r,l,S,k=>Qpy (stepL Y n ops) (l.take m) S fun S'=>Va Y K n ops r (l.drop m) S' k
 | .call c r,l,S,k=>match K[c]?,l with
  | some con,o::l'=>match Qju ops o with
   | some none=>Ku n con o S fun S'=>Va Y K n ops r l' S' k
   | some (some (t,want))=>match Xn S.flat.env t with
    | some ⟨_,[],.d .bool b⟩=>match b==want with
     | true=>Ku n con o S fun S'=>Va Y K n ops r l' S' k
     | false=>none
    | _=>none
   | none=>none
  | _,_=>none
 | .br r,l,S,k=>match l with
  | o::l'=>match Qju ops o with
   | some none=>Qiz Y n o S fun S'=>Va Y K n ops r l' S' k
   | some (some (t,want))=>match Xn S.flat.env t with
    | some ⟨_,[],.d .bool b⟩=>match b==want with
     | true=>Qiz Y n o S fun S'=>Va Y K n ops r l' S' k
     | false=>none
    | _=>none
   | none=>none
  | []=>none
 | .fz id r,l,S,k=>Va Y K n ops r l { S with mem:=Vp [id] S.mem } k
 | .keep ts r,l,S,k=>Va Y K n ops r l { S with env:=Qpx S.env ts } k
 | .si t i a b,l,S,k=>match Xn S.env t with
  | some ⟨_,[],.d (.int kd) v⟩=>bif Rr t S.fix then(if v=i then Va Y K n ops a l (S.put t [] (.d (.int kd) i)) k else Va Y K n ops b l S k)else none
  | _=>none
 | .op src id d r,l,S,k=>Q3i S src id d fun S'=>Va Y K n ops r l S' k
 | .cl id r,l,S,k=>Qsa S id fun S'=>Va Y K n ops r l S' k
 | .fm id r,l,S,k=>Q3h S id fun S'=>Va Y K n ops r l S' k
 | .sp t m ks ms Γ a b r,l,S,k=>match Xn S.env t with
  | some ⟨_,[],.d .bool v⟩=>bif Rr t S.fix then
    (if v=true then Va Y K n ops (R:=Γ.De) a (l.take m) ((XS.put S t [] (.d .bool true)).ent ks ms) (fun S'=>S'.dec Γ)
     else Va Y K n ops (R:=Γ.De) b (l.take m) ((XS.put S t [] (.d .bool false)).ent ks ms) (fun S'=>S'.dec Γ)).bind
     fun y=>Va Y K n ops r (l.drop m) (XS.out (XS.put S t [] (.d .bool v)) ks ms (enc Γ y)) k else none
  | _=>none
 | _,_,_,_=>none
section
variable {R:Type} (Y:TX) (n:Nat)
def Q3j(o:Oper)(S:XS)(k:XS→Option R):Option R:=match o.dst with
 | some d=>bif okW n S d then Qlh Y S.flat [] o.op fun v=>k (S.put d [] v)else none
 | none=>none
def Qzj(ops:List Oper)(o:Oper)(S:XS)(k:XS→Option R):Option R:=match Qju ops o with
 | some none=>Q3j Y n o S k
 | some (some (t,want))=>Qlj Y n t want o S k
 | none=>none
def Qzk(ops:List Oper)(o:Oper)(S:XS)(k:XS→Option R):Option R:=match Qju ops o with
 | some none=>Q3j Y n o S k
 | some (some (t,want))=>match Xn S.flat.env t with
  | some ⟨_,[],.d .bool b⟩=>match b==want with
   | true=>Q3j Y n o S k
   | false=>Qfl n o S k
  | some ⟨_,[],.tp .nil⟩=>Qfl n o S k
  | _=>none
 | none=>none
end
def Ox(Y:TX)(n:Nat)(ops:List Oper){R:Type}:Hn→List Oper→XS→(XS→Option R)→Option R
 | .done,l,S,k=>match l with
  | []=>k S
  | _::_=>none
 | .n m r,l,S,k=>Qpy (Qzj Y n ops) (l.take m) S fun S'=>Ox Y n ops r (l.drop m) S' k
 | .nl m r,l,S,k=>Qpy (Qzk Y n ops) (l.take m) S fun S'=>Ox Y n ops r (l.drop m) S' k
 | .sp t m ks ms Γ a b r,l,S,k=>match Xn S.env t with
  | some ⟨_,[],.d .bool v⟩=>bif Rr t S.fix then
    (if v=true then Ox Y n ops (R:=Γ.De) a (l.take m) ((XS.put S t [] (.d .bool true)).ent ks ms) (fun S'=>S'.dec Γ)
     else Ox Y n ops (R:=Γ.De) b (l.take m) ((XS.put S t [] (.d .bool false)).ent ks ms) (fun S'=>S'.dec Γ)).bind
     fun y=>Ox Y n ops r (l.drop m) (XS.out (XS.put S t [] (.d .bool v)) ks ms (enc Γ y)) k else none
  | _=>none
 | _,_,_,_=>none
def Q8r(o:Oper):List Nat:=o.op.operands.toList.filterMap fun x=>match x with
 | .tmp t=>some t
 | _=>none
def Q8s:List En→List En
 | []=>[]
 | e::l=>bif Nat.blt e.t 100000 then Q8s l else(match e.cs with
  | []=>e::Q8s l
  | _::_=>Q8s l)
def Jip{α:Type}:List α→Bool
 | []=>true
 | _=>false
def Hc:Nat→Bool:=fun _=>true
def Qo1(env:List En):List Nat→List En
 | []=>env
 | d::ds=>Qo1 (Jx (Y7 d env) d) ds
def Jsu(l:List Oper)(p:Nat):Bool:=(List.range l.length).all fun k=>Nat.blt k p||(List.range k).all fun i=>Bg l l.length k i
def Jbj(l:List Oper)(p:Nat)(ds:List Nat):Bool:=Nat.ble p l.length&&Nat.beq ds.length p&&backB l&&Jsu l p&&Qy4 ds
def Jiq(l:List Oper)(n:Nat):Bool:=bif Nat.blt n l.length then Region.lexTailB .any l.toArray n else Nat.beq n l.length&&Region.lexB .any l.toArray
def V2:List (Nat×Ob)→Bool
 | []=>true
 | (_,.tail _ _ _)::_=>false
 | _::l=>V2 l
structure EC where
 d:Nat
 av:AV
 has:Bool
 ups:List (Nat×Option Ob)
def Qo2:List (Nat×Option Ob)→Nat→Option (Option Ob)
 | [],_=>none
 | (k,x)::l,id=>bif Nat.beq k id then some x else Qo2 l id
def upC(id:Nat)(e:EC)(c:Option Ob):Option Ob:=match Qo2 e.ups id with
 | some x=>x
 | none=>c
def Y0(E:Nat→Bool)(id:Nat):List EC→Nat→Option Ob→Option Ob
 | [],_,c=>c
 | e::l,j,c=>Y0 E id l (j+1) (bif E j then upC id e c else c)
def Kk(id:Nat)(e:EC):Bool:=Eb (Qo2 e.ups id)
def L9(E:Nat→Bool):List EC→Nat→List En
 | [],_=>[]
 | e::l,j=>bif E j&&e.has then⟨e.d,[],e.av⟩::L9 E l (j+1)else L9 E l (j+1)
def Kv(id:Nat):Option Ob→Option (Nat×Ob)
 | some ob=>some (id,ob)
 | none=>none
def Bn(names:List Nat)(Zs:List (Nat×Ob))(acc:List EC)(E:Nat→Bool):List (Nat×Ob):=names.filterMap fun id=>Kv id (Y0 E id acc 0 (Qh Zs id))
def HD.wr(h:HD):List Nat:=h.tch++h.bs
def HD.al(h:HD):List Nat:=h.tch++h.ro++h.bs
def Qll:List EC→Nat→Option AV
 | [],_=>none
 | g::l,t=>bif Nat.beq g.d t&&g.has then some g.av else Qll l t
def Qsb(l0:List Oper)(ds:List Nat)(i:Nat)(acc:List EC)(B:List En):List Nat→List En
 | []=>Q8s B
 | t::ts=>match Qll acc t with
  | some v=>bif Ja4 l0 i (ds.idxOf t)then⟨t,[],v⟩::Qsb l0 ds i acc B ts else Qsb l0 ds i acc B ts
  | none=>bif Qos ds t then(match Xn B t with
   | some ⟨t',[],v⟩=>⟨t',[],v⟩::Qsb l0 ds i acc B ts
   | _=>Qsb l0 ds i acc B ts)else Qsb l0 ds i acc B ts
def gTs(l0:List Oper)(o:Oper):List Nat:=match Qju l0 o with
 | some (some (t,_))=>[t]
 | _=>[]
def Qd6(l m:List Nat):Bool:=l.all fun x=>!Yj m x
def Qlm(l0:List Oper)(i j:Nat)(hi hj:HD):Bool:=((Qd6 hj.wr hi.al&&Qd6 hj.ro hi.wr)||Bg l0 l0.length i j)&&Qd6 hi.bs hj.wr
def Juz(l0:List Oper)(hs:List HD):Bool:=(List.range hs.length).all fun i=>(List.range i).all fun j=>match hs[i]?,hs[j]? with
 | some hi,some hj=>Qlm l0 i j hi hj
 | _,_=>true
def nmB(l0:List Oper)(hs:List HD):Bool:=(List.range hs.length).all fun i=>(List.range hs.length).all fun j=>Nat.beq i j||(match hs[i]?,hs[j]? with
 | some hi,some hj=>Qd6 hi.bs hj.nm||Bg l0 l0.length j i
 | _,_=>true)
def Xo:List HD→List Nat
 | []=>[]
 | h::l=>h.bs++Xo l
def Do:HT→List Nat
 | .tl _=>[]
 | .op h r=>h.bs++Do r
 | .so _ a b=>Do a++Do b
def Qln(l m:List Nat):List Nat:=l.filter fun x=>!Yj m x
def Qi0(ids:List Nat)(Zs:List (Nat×Ob))(acc:List EC):List (Nat×Ob):=ids.filterMap fun id=>Kv id (Y0 Hc id acc 0 (Qh Zs id))
def Q3k:List EC→Nat→Bool→List EC
 | [],_,_=>[]
 | g::l,t,b=>bif Nat.beq g.d t&&g.has then⟨g.d,.d .bool b,g.has,g.ups⟩::l else g::Q3k l t b
def To(M:List (Nat×Ob)):AV→AV
 | .s id=>match Qh M id with
  | some (.tail _ t xs)=>.d (.sl t) xs
  | _=>.s id
 | .ag l=>.ag (To M l)
 | .cons x r=>.cons (To M x) (To M r)
 | x=>x
def Qzl(M:List (Nat×Ob)):List Nat→Bool
 | []=>false
 | id::l=>match Qh M id with
  | some (.tail _ _ _)=>true
  | _=>Qzl M l
def Jer(M:List (Nat×Ob)):List En→List En
 | []=>[]
 | e::l=>bif Qzl M (Qwg e.av)then⟨e.t,e.cs,To M e.av⟩::Jer M l else Jer M l
section
variable {R:Type} (Y:TX) (K:List Con) (n:Nat) (l0:List Oper) (ds:List Nat) (Zs:List (Nat×Ob)) (B:List En) (prA:List Nat)
def Qsc(hc:HD)(o:Oper)(i:Nat)(acc:List EC):XS:=⟨Qsb l0 ds i acc B (Q8r o++gTs l0 o),[],Qi0 hc.tch Zs acc,Qi0 hc.ro Zs acc,Qln prA hc.bs⟩
def Qjx(hc:HD)(o:Oper)(i:Nat)(acc:List EC)(S1:XS):Option EC :=
 bif V2 (Qi0 hc.tch Zs acc++Qi0 hc.ro Zs acc)&&Hh hc.nm (Jc S1.mem)then(match o.dst with
  | some d=>match Xn S1.env d with
   | some ⟨_,[],av⟩=>bif Nat.beq (ds.getD i 0) d&&Hh hc.nm (Jb av)&&Nat.blt d n then some ⟨d,av,true,(hc.tch++hc.bs).map fun id=>(id,Qh S1.mem id)⟩else none
   | _=>none
  | none=>bif Nat.beq (ds.getD i 0) (1000000000+i)then some ⟨1000000000+i,.tp .nil,false,(hc.tch++hc.bs).map fun id=>(id,Qh S1.mem id)⟩else none)else none
def Qsd:HT→List Oper→Nat→List HD→List EC→(Hn→List HD→List EC→Option R)→Option R
 | .tl h,l,_,hs,acc,k=>match l with
  | []=>k h hs acc
  | _::_=>none
 | .op hc r,l,i,hs,acc,k=>match l with
  | o::l'=>Va Y K n l0 hc.h [o] (Qsc l0 ds Zs B prA hc o i acc) fun S1=>match Qjx n ds Zs hc o i acc S1 with
   | some g=>Qsd r l' (i+1) (hs++[hc]) (acc++[g]) k
   | none=>none
  | []=>none
 | .so t a b,l,i,hs,acc,k=>match Qll acc t with
  | some (.d .bool v)=>if v=true then Qsd a l i hs (Q3k acc t true) k else Qsd b l i hs (Q3k acc t false) k
  | _=>none
end
def Jn6(l0:List Oper)(ks:List Nat)(prB prA:List Nat)(hs:List HD):Bool:=Juz l0 hs&&nmB l0 hs&&Ow (ks++Xo hs)&&Qd6 prB (Xo hs)&&Hh prA (ks++Xo hs) &&
 hs.all fun hc=>Ow hc.al&&Hh (ks++Xo hs) hc.al&&Hh prA hc.nm
def kfC(zf:List Nat)(hs:List HD):Bool:=hs.all fun hc=>Qd6 hc.wr zf
def Jwj(S:XS)(ds:List Nat)(Z1 Z2 M1:List (Nat×Ob))(bsA:List Nat)(hs:List HD)(acc:List EC):XS:=⟨L9 Hc acc 0++Qo1 S.env (ds++bsA),S.fix,Bn (V0 Z1++Xo hs) (Z1++Z2) acc Hc++M1,S.fixM,S.prot⟩
def Tp{R:Type}:Hn→XS→(XS→Option R)→Option R
 | .done,S,k=>k S
 | .fz id r,S,k=>Tp r { S with mem:=Vp [id] S.mem } k
 | .op src id d r,S,k=>Q3i S src id d fun S'=>Tp r S' k
 | .cl id r,S,k=>Qsa S id fun S'=>Tp r S' k
 | .fm id r,S,k=>Q3h S id fun S'=>Tp r S' k
 | .dt id r,S,k=>match Qh S.mem id with
  | some (.var tid c)=>Tp r (S.set id (.var tid (To S.flat.mem c))) k
  | _=>none
 | _,_,_=>none
def Jir(S:XS)(t i:Nat):Bool:=match Xn S.env t with
 | some ⟨_,[],.d (.int _) v⟩=>match Jel v with
  | some j=>Nat.beq j i
  | none=>false
 | _=>false
def Jbk:AV→Bool
 | .nm=>true
 | .np=>true
 | .tp l=>Jbk l
 | .cons x r=>Jbk x||Jbk r
 | _=>false
def Jis(S:XS)(t:Nat):Bool:=match Xn S.env t with
 | some e=>Jbk e.av
 | none=>false
def dcR(Y:TX)(K:List Con)(n:Nat){R:Type}(ops:List Oper)(p:Nat)(ds:List Nat)(Z1 Z2 M1 F1:List (Nat×Ob))(ht:HT)(S:XS)(B:List En)(prB:List Nat)(k:Hn→XS→Option R):Option R :=
 Qsd Y K n ops ds (Z1++Z2) (Jer (M1++F1) B++B) (prB++V0 (Z1++Z2)++Do ht) ht (ops.take p) 0 [] [] fun h hs acc =>
  bif Jn6 ops (V0 (Z1++Z2)) prB (prB++V0 (Z1++Z2)++Do ht) hs&&kfC (V0 Z2) hs then k h (Jwj S ds Z1 Z2 M1 (Do ht) hs acc)else none
def dcI(Y:TX)(K:List Con)(n:Nat){R:Type}(ops:List Oper)(p:Nat)(ds:List Nat)(Z1 Z2 M1 F1:List (Nat×Ob))(ht:HT)(S:XS)(B:List En)(k:Hn→XS→Option R):Option R :=
 dcR Y K n ops p ds Z1 Z2 M1 F1 ht S B (Tn B++Jc ((Z1++Z2)++(M1++F1))++S.prot) k
def Q8t(ops:List Oper)(o1 o2 o3:Oper)(mo:Nat):Option (TypeId×Nat×Nat×Nat×Nat):=match ops.getLast?,o1,o2,o3 with
 | some ⟨some it,.range t (.tmp mt),_,_,_,none⟩,⟨some nx,.next (.tmp it1) false,_,_,_,none⟩,⟨some mo1,.extract (.tmp nx1) 0,_,_,_,none⟩,⟨some pr,.entry (.tmp it2),_,_,_,none⟩ =>
  bif Nat.beq it it1&&Nat.beq it it2&&Nat.beq nx nx1&&Nat.beq mo mo1 then some (t,mt,it,nx,pr)else none
 | _,_,_,_=>none
def mpE(S:XS)(ks ms:List Nat)(m:Nat):XS:=XS.ent ⟨S.env,S.fix,S.mem,S.fixM,m::S.prot⟩ ks ms
def mpB(E:XS)(it m:Nat):XS:=⟨[],⟨it,[],.p it []⟩::E.fix,[],J4 E.fixM m,it::E.prot⟩
def Qzm(S:XS)(ks ms:List Nat)(nx mo:Nat)(S':St):XS:=S.out ks ms ⟨Jx (Jx S'.env nx) mo,S'.mem⟩
def Jsv(B:XS)(nx mo pr:Nat)(x:AV):XS:=⟨⟨pr,[],x⟩::Jx (Jx (Jx B.env nx) mo) pr,B.fix,B.mem,B.fixM,B.prot⟩
def Qq1:List (Nat×SkO)→Bool
 | []=>true
 | (_,.tail _ _)::_=>false
 | _::l=>Qq1 l
def Jsw:TypeDesc→Bool
 | .map _ _=>true
 | _=>false
def Qlo(out:Nat):Ex→Ex
 | .x i=>bif Nat.beq i out then .n else .x i
 | e=>e
def Ju0(n:Nat)(E B0:XS)(x0:St)(tk:TE)(it nx mo pr:Nat)(Γ:Shp):Bool:=Jsw tk.d&&(okW n E it&&Rr it x0.env)&&(Qfk it x0.env&&Qfk it E.fix)&&(Jy it x0.mem&&Jy it E.fixM&&!Yj E.prot it)&&(okW n B0 nx&&okW n B0 mo&&okW n B0 pr)&&Qq1 Γ.mem&&V2 B0.fixM&&!Nat.beq mo nx
def Qq2{Γ:Shp}{exs:Exs}(nxt:Nat)(body:XS→(Ex→XS→Option (Γ.De⊕Qet exs))→Option (Γ.De⊕Qet exs))(B0:XS)(nx mo pr:Nat)(kk vv:Ty)(e:kk.De×vv.De)(s:Γ.De):Option (Γ.De⊕Qet exs) :=
 body (Jsv (B0.re (enc Γ s)) nx mo pr (.tp (.cons (.d kk e.1) (.cons (.d vv e.2) .nil)))) fun e S'=>match Qlo nxt e with
  | .n=>(match S'.dec Γ with
   | some s'=>some (.inl s')
   | none=>none)
  | .x i=>(match inj exs (.x i) S' with
   | some x=>some (.inr x)
   | none=>none)
  | .r=>(match inj exs .r S' with
   | some x=>some (.inr x)
   | none=>none)
noncomputable def Jit{R:Type}(n:Nat)(S1:XS)(m it nx mo pr:Nat)(ks ms:List Nat)(Γ:Shp)(exs:Exs)(out nxt:Nat)(kk vv:Ty)(xs:List (kk.De×vv.De))(tk:TE)
  (body:XS→(Ex→XS→Option (Γ.De⊕Qet exs))→Option (Γ.De⊕Qet exs)) (k:Ex→XS→Option R):Option R :=
 match (mpE S1 ks ms m).dec Γ with
 | some s0=>bif Ju0 n (mpE S1 ks ms m) (mpB (mpE S1 ks ms m) it m) (enc Γ s0) tk it nx mo pr Γ then((Ih (Qq2 nxt body (mpB (mpE S1 ks ms m) it m) nx mo pr kk vv) xs s0).bind fun z=>match z with
  | .inl s=>k .n (Qzm S1 ks ms nx mo (enc Γ s))
  | .inr y=>Q3f (mpB (mpE S1 ks ms m) it m) [] [] (fun e S'=>k (Qlo out e) (Qzm S1 ks ms nx mo ⟨S'.env,S'.mem⟩)) exs y)else none
 | none=>none
noncomputable def Up(Y:TX)(K:List Con)(n N:Nat){R:Type}:An→Code→XS→(Ex→XS→Option R)→Option R
 | .nil,.skip,S,k=>k .n S
 | .nil,.ret,S,k=>k .r S
 | .nil,.exit id,S,k=>k (.x id) S
 | .nil,.label _,S,k=>k .n S
 | .reg h,.region _ ⟨ops⟩ false,S,k=>Va Y K n ops h ops S (k .n)
 | .dr m h1 h2,.region _ ⟨ops⟩ true,S,k=>bif Jiq ops m then Ox Y n ops h1 (ops.take m) S fun S'=>Va Y K n ops h2 (ops.drop m) S' (k .n)else none
 | .dc p ds zs zf ht,.region _ ⟨ops⟩ true,S,k =>
  bif Jbj ops p ds&&ds.all (fun d=>Rr d S.fix)then
   dcI Y K n ops p ds (Jp S.mem zs).2 (Jp S.fixM zf).2 (Jp S.mem zs).1 (Jp S.fixM zf).1 ht S
    (Qo1 S.env (ds++Do ht)++S.fix) fun h3 S'=>Va Y K n ops h3 (ops.drop p) S' (k .n)else none
 | .gh g a,c,S,k=>Tp g S fun S'=>Up Y K n N a c S' k
 | .ch t i a b,c,S,k=>bif Jir S t i then Up Y K n N a c S k else Up Y K n N b c S k
 | .cn t a b,c,S,k=>bif Jis S t then Up Y K n N a c S k else Up Y K n N b c S k
 | .two a b,.seq x y,S,k=>Up Y K n N a x S fun e S'=>match e with
  | .n=>Up Y K n N b y S' k
  | .x i=>k (.x i) S'
  | .r=>k .r S'
 | .two a b,.cond c x y,S,k=>match S.ev [] c with
  | some (.d .bool v)=>if v=true then Up Y K n N a x S k else Up Y K n N b y S k
  | _=>none
 | .un a,.block id c,S,k=>Up Y K n N a c S fun e S'=>match e with
  | .n=>k .n S'
  | .x i=>bif Nat.beq i id then k .n S' else k (.x i) S'
  | .r=>k .r S'
 | .un a,.scope c,S,k=>Up Y K n N a c S k
 | .lp ks ms Γ exs a,.loop c,S,k=>match (S.ent ks ms).dec Γ with
  | some s0=>(Ql (fun s=>Up Y K n N (R:=Γ.De⊕Qet exs) a c ((S.ent ks ms).re (enc Γ s)) fun e S'=>match e with
    | .n=>(match S'.dec Γ with
     | some s'=>some (.inl s')
     | none=>none)
    | .x i=>(match inj exs (.x i) S' with
     | some x=>some (.inr x)
     | none=>none)
    | .r=>(match inj exs .r S' with
     | some x=>some (.inr x)
     | none=>none)) N s0).bind fun x=>Q3f S ks ms k exs x
  | none=>none
 | .jn ks ms exs a,c,S,k=>(Up Y K n N a c (S.ent ks ms) (inj exs)).bind fun x=>Q3f S ks ms k exs x
 | .mp h ks ms Γ exs h3 a,.seq (.region _ ⟨ops⟩ false) (.block out (.loop (.seq (.region _ ⟨[o1,o2]⟩ false) (.seq (.cond (.tmp mo) .skip (.exit out')) (.block nxt (.seq (.region _ ⟨o3::ops3⟩ false) c)))))),S,k=>match Q8t ops o1 o2 o3 mo with
  | some (t,mt,it,nx,pr)=>bif Nat.beq out out' then Va Y K n ops h ops.dropLast S fun S1=>match S1.ev [] (.tmp mt),Qk Y.T t with
   | some (.m m),some tk=>match Qh (mpE S1 ks ms m).fixM m with
    | some (.map kk vv xs)=>Jit n S1 m it nx mo pr ks ms Γ exs out nxt kk vv xs tk (fun S3 k1=>Va (R:=Γ.De⊕Qet exs) Y K n (o3::ops3) h3 ops3 S3 fun S4=>Up Y K n N a c S4 k1) k
    | _=>none
   | _,_=>none else none
  | none=>none
 | _,_,_,_=>none
def Q8u(Y:TX)(S:XS):List ResultVar→Nat→Option (List En)
 | [],_=>some []
 | .cell ad t::l,i=>match Qle Y S.flat [] (.load t (.tmp ad)),Q8u Y S l (i+1)with
  | some v,some r=>bif Nat.blt i 100000 then some (⟨i,[],v⟩::r)else none
  | _,_=>none
 | .tmp t::l,i=>match S.ev [] (.tmp t),Q8u Y S l (i+1)with
  | some v,some r=>bif Nat.blt i 100000 then some (⟨i,[],v⟩::r)else none
  | _,_=>none
def Dp:List (Nat×Sk)→Nat→Bool
 | [],_=>true
 | (t,_)::l,i=>Nat.beq t i&&Dp l (i+1)
def Jiu(es:List En)(S:XS):(l:List Shp)→Option (Qa6 l)
 | []=>none
 | [s]=>bif Dp s.env 0&&Nat.beq es.length s.env.length then XS.dec S s else none
 | s::r::l=>match (bif Dp s.env 0&&Nat.beq es.length s.env.length then XS.dec S s else none)with
  | some x=>some (.inl x)
  | none=>match Jiu es S (r::l)with
   | some y=>some (.inr y)
   | none=>none
def fin(Y:TX)(fn:Func)(Δ:List Shp)(S:XS):Option (Qa6 Δ):=match Q8u Y S fn.results.toList 0 with
 | some es=>bif Nat.blt es.length 100000 then Jiu es ⟨es,[],S.mem,S.fixM,S.prot⟩ Δ else none
 | none=>none
def Qi1(gl:List (Nat×Σ t:Ty,t.De)):List En:=gl.map fun q=>⟨100000+q.1,[],.a q.2.1 q.2.2⟩
noncomputable def Jiv(Y:TX)(K:List Con)(N:Nat)(fn:Func)(an:An)(ro:List Nat)(Γ:Shp)(Δ:List Shp)(x:Γ.De):Option (Qa6 Δ):=match fn.body with
 | some c=>bif Nat.ble Γ.env.length fn.ntmps&&(Dp Γ.env 0&&Nat.blt Γ.env.length 100000)then Up Y K fn.ntmps N an c ⟨(enc Γ x).env,Qi1 Y.gl,wrM ro (enc Γ x).mem,rdM ro (enc Γ x).mem,Γ.mem.map Prod.fst⟩ fun e S=>match e with
  | .x _=>none
  | .n=>fin Y fn Δ S
  | .r=>fin Y fn Δ S else none
 | none=>none
end Gx

/- What a step gives does not depend on what comes behind it. -/
namespace Gx
open Go Go.RowKit Gd
set_option linter.unusedVariables false
set_option linter.unusedSimpArgs false
theorem Xp{R A:Type}{b:Bool}{x:Option R}{y:Option A}{k:A→Option R}(h:x=y.bind k):(bif b then x else none)=(bif b then y else none).bind k:=by
 grind
theorem Bo{T R A:Type}{x:Option T}{f:T→Option R}{g:T→Option A}{k:A→Option R}(h:∀t,f t=(g t).bind k):x.bind f=(x.bind g).bind k:=by
 cases x
 ·rfl
 ·exact h _
section
variable {R:Type} {Y:TX} {n:Nat}
theorem Jn7{S:St}{cur:Vz}{op:Op}{k:AV→Option R}:tot Y S cur op k=(tot Y S cur op some).bind k:=by
 grind [tot]
theorem Qse{A:Type}{k:A→Option R}:∀{ps:List PS} {x:AV} {f:AV→Option R} {g:AV→Option A},(∀y,f y=(g y).bind k)→Qr6 ps x f=(Qr6 ps x g).bind k
 | [],x,f,g,h=>h x
 | .f i off::ps,x,f,g,h=>by
  simp only[Qr6]
  split
  ·exact Qse h
  ·rfl
 | .i j sz::ps,x,f,g,h=>by
  simp only[Qr6]
  split
  ·exact Xp (Bo fun _=>Qse h)
  ·rfl
theorem Qsf{A:Type}{k:A→Option R}{M:List (Nat×Ob)}:∀{ps:List PS} {x v:AV} {f:AV→Option R} {g:AV→Option A},(∀y,f y=(g y).bind k)→Qpw M ps x v f=(Qpw M ps x v g).bind k
 | [],x,v,f,g,h=>by
  simp only[Qpw]
  grind
 | .f i off::ps,x,v,f,g,h=>by
  simp only[Qpw]
  split
  ·refine Qsf fun x1=>?_
   grind
  ·rfl
 | .i j sz::ps,x,v,f,g,h=>by
  simp only[Qpw]
  split
  ·refine Xp (Bo fun _=>Qsf fun x1=>?_)
   grind
  ·rfl
theorem Q8v{S:St}{cur:Vz}{op:Op}{k:AV→Option R}:Qnk Y S cur op k=(Qnk Y S cur op some).bind k:=by
 unfold Qnk
 repeat' (first | rfl | exact Jn7 | (refine Xp ?_) | (refine Bo fun _=>?_) | split)
theorem Jes{S:St}{cur:Vz}{op:Op}{k:AV→Option R}:Qwe Y S cur op k=(Qwe Y S cur op some).bind k:=by
 unfold Qwe
 repeat' (first | rfl | (refine Xp ?_) | (refine Bo fun _=>?_) | (refine Qse fun _=>?_) | split)
theorem Qwk{S:St}{cur:Vz}{op:Op}{k:AV→Option R}:Qlh Y S cur op k=(Qlh Y S cur op some).bind k:=by
 grind [Qlh,Q8v,Jes]
theorem Q8w{A:Type}{S:St}{cur:Vz}{op:Op}{f:AV→Option R}{g:AV→Option A}{k:A→Option R}(h:∀y,f y=(g y).bind k):Qlh Y S cur op f=(Qlh Y S cur op g).bind k:=by
 rw[Qwk (k:=f),Qwk (k:=g),Option.bind_assoc]
 exact congrArg _ (funext h)
theorem Qsg{o:Oper}{S:XS}{k:XS→Option R}:Qjw Y n o S k=(Qjw Y n o S some).bind k:=by
 unfold Qjw
 repeat' (first | rfl | (refine Xp ?_) | (refine Bo fun _=>?_) | (refine Q8w fun _=>?_) | split)
theorem Jet{o:Oper}{S:XS}{k:XS→Option R}:Qwj Y n o S k=(Qwj Y n o S some).bind k:=by
 unfold Qwj
 repeat' (first | rfl | (refine Xp ?_) | (refine Bo fun _=>?_) | (refine Qsf fun _=>?_) | split)
theorem Qwl{o:Oper}{S:XS}{k:XS→Option R}:Qoz Y n o S k=(Qoz Y n o S some).bind k:=by
 grind [Qoz,Qsg,Jet]
theorem Qzn{c:Con}{o:Oper}{S:XS}{k:XS→Option R}:Ku n c o S k=(Ku n c o S some).bind k:=by
 unfold Ku Ku.callE Ku.callR
 repeat' (first | rfl | (refine Xp ?_) | (refine Bo fun _=>?_) | (rw[Qq0,Qq0]) | split)
theorem Jeu{o:Oper}{S:XS}{k:XS→Option R}:Qiz Y n o S k=(Qiz Y n o S some).bind k:=by
 unfold Qiz Jn5 Q8q
 repeat' (first | rfl | exact Qsg | (refine Xp ?_) | (refine Bo fun _=>?_) | split)
theorem Jev{t:Nat}{want:Bool}{o:Oper}{S:XS}{k:XS→Option R}:Qlj Y n t want o S k=(Qlj Y n t want o S some).bind k:=by
 unfold Qlj
 grind
theorem Jew{o:Oper}{S:XS}{k:XS→Option R}:Qfl n o S k=(Qfl n o S some).bind k:=by
 unfold Qfl
 grind
theorem Jex{ops:List Oper}{o:Oper}{S:XS}{k:XS→Option R}:Qlk Y n ops o S k=(Qlk Y n ops o S some).bind k:=by
 grind [Qlk,Qwl,Jev]
theorem Jey{ops:List Oper}{o:Oper}{S:XS}{k:XS→Option R}:stepL Y n ops o S k=(stepL Y n ops o S some).bind k:=by
 grind [stepL,Qwl,Jew]
theorem Qsh{st:{R:Type}→Oper→XS→(XS→Option R)→Option R}(hst:∀{R A:Type} (o:Oper) (S:XS) (f:XS→Option R) (g:XS→Option A) (k:A→Option R),(∀S',f S'=(g S').bind k)→st o S f=(st o S g).bind k) :
  ∀{A:Type} {k:A→Option R} {l:List Oper} {S:XS} {f:XS→Option R} {g:XS→Option A},(∀S',f S'=(g S').bind k)→Qpy st l S f=(Qpy st l S g).bind k
 | A,k,[],S,f,g,h=>h S
 | A,k,o::l,S,f,g,h=>by
  simp only[Qpy]
  exact hst o S _ _ k fun S'=>Qsh hst h
theorem Jn8{A:Type}{st:{R:Type}→Oper→XS→(XS→Option R)→Option R}{o:Oper}{S:XS}(h:∀{R:Type} {k:XS→Option R},st o S k=(st o S some).bind k){f:XS→Option R}{g:XS→Option A}{k:A→Option R}(h2:∀S',f S'=(g S').bind k):st o S f=(st o S g).bind k:=by
 rw[h (k:=f),h (k:=g),Option.bind_assoc]
 exact congrArg _ (funext h2)
end
theorem Xq{Y:TX}{K:List Con}{n:Nat}{ops:List Oper}:∀{R A:Type} {h:Hn} {l:List Oper} {S:XS} {f:XS→Option R} {g:XS→Option A} {k:A→Option R},(∀S',f S'=(g S').bind k)→Va Y K n ops h l S f=(Va Y K n ops h l S g).bind k
 | R,A,.done,l,S,f,g,k,hk=>by
  simp only[Va]
  grind
 | R,A,.n m r,l,S,f,g,k,hk=>by
  simp only[Va]
  exact Qsh (st:=fun {R}=>Qlk Y n ops) (fun o S f g k h=>Jn8 (st:=fun {R}=>Qlk Y n ops) Jex h) fun S'=>Xq hk
 | R,A,.nl m r,l,S,f,g,k,hk=>by
  simp only[Va]
  exact Qsh (st:=fun {R}=>stepL Y n ops) (fun o S f g k h=>Jn8 (st:=fun {R}=>stepL Y n ops) Jey h) fun S'=>Xq hk
 | R,A,.call c r,l,S,f,g,k,hk=>by
  simp only[Va]
  have hc:∀{con:Con} {o:Oper} {l':List Oper},Ku n con o S (fun S'=>Va Y K n ops r l' S' f)=(Ku n con o S (fun S'=>Va Y K n ops r l' S' g)).bind k:=fun {con o l'}=>Jn8 (st:=fun {R}=>Ku n con) Qzn fun S'=>Xq hk
  repeat' (first | rfl | exact hc | split)
 | R,A,.br r,l,S,f,g,k,hk=>by
  simp only[Va]
  have hc:∀{o:Oper} {l':List Oper},Qiz Y n o S (fun S'=>Va Y K n ops r l' S' f)=(Qiz Y n o S (fun S'=>Va Y K n ops r l' S' g)).bind k:=fun {o l'}=>Jn8 (st:=fun {R}=>Qiz Y n) Jeu fun S'=>Xq hk
  repeat' (first | rfl | exact hc | split)
 | R,A,.fz id r,l,S,f,g,k,hk=>by
  simp only[Va]
  exact Xq hk
 | R,A,.keep ts r,l,S,f,g,k,hk=>by
  simp only[Va]
  exact Xq hk
 | R,A,.op src id d r,l,S,f,g,k,hk=>by
  simp only[Va]
  unfold Q3i Jpu
  repeat' (first | rfl | exact Xq hk | (refine Xp ?_) | split)
 | R,A,.cl id r,l,S,f,g,k,hk=>by
  simp only[Va]
  unfold Qsa
  repeat' (first | rfl | exact Xq hk | (refine Xp ?_) | split)
 | R,A,.fm id r,l,S,f,g,k,hk=>by
  simp only[Va]
  unfold Q3h
  repeat' (first | rfl | exact Xq hk | (refine Xp ?_) | split)
 | R,A,.sp t m ks ms Γ a b r,l,S,f,g,k,hk=>by
  simp only[Va]
  split
  ·exact Xp (Bo fun _=>Xq hk)
  ·rfl
 | R,A,.si t i a b,l,S,f,g,k,hk=>by
  simp only[Va]
  split
  ·refine Xp ?_
   split
   ·exact Xq hk
   ·exact Xq hk
  ·rfl
 | R,A,.md _ _,l,S,f,g,k,hk=>by simp_all [Va]
 | R,A,.tl _,l,S,f,g,k,hk=>by simp_all [Va]
 | R,A,.dt _ _,l,S,f,g,k,hk=>by simp_all [Va]
 | R,A,.so _ _ _,l,S,f,g,k,hk=>by simp_all [Va]
theorem Qsi{Y:TX}{K:List Con}{n:Nat}{ops:List Oper}{R:Type}{r:R}{h:Hn}{l:List Oper}{S:XS}{k:XS→Option R}(hs:Va Y K n ops h l S k=some r):∃S1,k S1=some r∧Va (R:=XS) Y K n ops h l S some=some S1:=by
 have e:=Xq (Y:=Y) (K:=K) (n:=n) (ops:=ops) (h:=h) (l:=l) (S:=S) (f:=k) (g:=some) (k:=k) fun S'=>rfl
 rw[e]at hs
 grind [Option.bind_eq_some_iff]
end Gx

/- States, and what becomes of them: new objects, other names. -/
namespace Gd
open Go Go.RowKit
section
variable {β:Nat→Nat} {X:Cx} {G:GL} {D:List DF} {H:HL} {O:List TL} {a:Act} {w w':World}
def Gp(t t':TL):Prop:=(∀g,t'.blks g↔t.blks g)∧(∀b o,t'.cov b o↔t.cov b o)∧∀ok w,t.p ok w→t'.p ok w
inductive Wn:List TL→List TL→Prop
 | nil:Wn [] []
 | cons {t t':TL} {l l':List TL} (h:Gp t t') (r:Wn l l'):Wn (t::l) (t'::l')
theorem Gp.refl(t:TL):Gp t t:=⟨fun _=>Iff.rfl,fun _ _=>Iff.rfl,fun _ _ h=>h⟩
theorem Wn.refl:∀l:List TL,Wn l l
 | []=>.nil
 | t::l=>.cons (Gp.refl t) (Wn.refl l)
theorem Wn.mem{l l':List TL}(h:Wn l l'):∀t'∈l',∃t∈l,Gp t t':=by
 induction h with
 | nil=>simp
 | cons h r ih =>
  grind
theorem Wn.pw{l l':List TL}(h:Wn l l')(hp:l.Pairwise fun s t=>∀g,s.blks g→¬ t.blks g):l'.Pairwise fun s t=>∀g,s.blks g→¬ t.blks g:=by
 induction h with
 | nil=>exact .nil
 | cons h r ih =>
  have:=List.pairwise_cons.1 hp
  refine List.pairwise_cons.2 ⟨fun u hu g hg hg2=>?_,ih this.2⟩
  obtain⟨t,ht,hs⟩:=r.mem u hu
  exact this.1 t ht g ((h.1 g).1 hg) ((hs.1 g).1 hg2)
theorem Wn.append{l l' m m':List TL}(h:Wn l l')(k:Wn m m'):Wn (l++m) (l'++m'):=by
 induction h with
 | nil=>exact k
 | cons h _ ih=>exact .cons h ih
theorem Wn.ok{l l':List TL}(h:Wn l l'){ok0:Ok}{B:Nat}:∀b o,Je ok0 B β H l w b o→Je ok0 B β H l' w b o:=by
 rintro b o ⟨h1,h2,h3,h4⟩
 refine⟨h1,h2,h3,fun u hu hc=>?_⟩
 obtain⟨t,ht,hs⟩:=h.mem u hu
 exact h4 t ht ((hs.2.1 b o).1 hc)
theorem Sb.simO{O':List TL}(h:Sb β X G D H O a w)(hs:Wn O O'):Sb β X G D H O' a w :=
 { sz:=h.sz,df:=h.df,fr:=h.fr,pn:=h.pn,tm:=h.tm,bel:=h.bel,dat:=h.dat.weak hs.ok,obj:=h.obj,own:=fun u hu=>let⟨t,ht,hst⟩:=hs.mem u hu; ⟨u.weak (hst.2.2 _ _ (h.own t ht).1) hs.ok,fun g hg=>(h.own t ht).2 g ((hst.1 g).1 hg)⟩,dHH:=h.dHH,dHO:=fun p hp u hu hg=>let⟨t,ht,hst⟩:=hs.mem u hu; h.dHO p hp t ht ((hst.1 _).1 hg),dOO:=hs.pw h.dOO }
theorem Sb.subO{O':List TL}(h:Sb β X G D H O a w)(hs:O'.Sublist O):Sb β X G D H O' a w:=by
 have hok:∀b o,Je X.ok X.w.heap.size β H O w b o→Je X.ok X.w.heap.size β H O' w b o:=fun b o ⟨h1,h2,h3,h4⟩=>⟨h1,h2,h3,fun u hu=>h4 u (hs.subset hu)⟩
 exact { sz:=h.sz,df:=h.df,fr:=h.fr,pn:=h.pn,tm:=h.tm,bel:=h.bel,dat:=h.dat.weak hok,obj:=h.obj,own:=fun u hu=>⟨u.weak (h.own u (hs.subset hu)).1 hok,(h.own u (hs.subset hu)).2⟩,dHH:=h.dHH,dHO:=fun p hp u hu=>h.dHO p hp u (hs.subset hu),dOO:=h.dOO.sublist hs }
theorem Qa8{O1 O1' O2:List TL}{L:List Nat}(h:Sb β X G D [] (O1++O2) a w)(_:w.heap.size≤w'.heap.size)(hL:∀g∈L,∃t∈O1,t.blks g) :
  ∀b o,Je (okL L (Je X.ok X.w.heap.size β [] (O1++O2) w)) w.heap.size β [] O1' w' b o→Je X.ok X.w.heap.size β [] (O1'++O2) w' b o:=by
 rintro b o ⟨h1,h2,_,h4⟩
 have hO2:∀u∈O2,¬ u.cov b o→∀v∈O1'++O2,v=u→¬ v.cov b o:=fun u _ hn v _ e=>e▸hn
 have fin:(X.ok b o∨X.w.heap.size≤b)→(∀u∈O2,¬ u.cov b o)→Je X.ok X.w.heap.size β [] (O1'++O2) w' b o:=by
  intro h5 h6
  refine⟨h5,h2,by simp,fun u hu=>?_⟩
  grind
 rcases h1 with(h1 | h1) | h1
 ·exact fin h1.1 fun u hu=>h1.2.2.2 u (by simp[hu])
 ·obtain⟨t,ht,hg⟩:=hL b h1
  have hm:=(h.own t (by simp[ht])).2 b hg
  refine fin (X.mine_ok hm o) fun u hu hc=>?_
  exact(QG.1 h.dOO).2.2 t ht u hu b hg (u.cb hc)
 ·refine fin (.inr (QW h.bel.size h1)) fun u hu hc=>?_
  have:=h.olt (t:=u) (by simp[hu]) (u.cb hc)
  omega
theorem Sb.callO{O1 O1' O2:List TL}{L:List Nat}(h:Sb β X G D [] (O1++O2) a w)(hb:Uz L w.heap.size w w')(hL:∀g∈L,∃t∈O1,t.blks g)(hcov:∀t∈O1,∀b o,t.blks b→t.cov b o)
  (hp:∀t∈O1',t.p (Je (okL L (Je X.ok X.w.heap.size β [] (O1++O2) w)) w.heap.size β [] O1' w') w'∧∀g,t.blks g→w.heap.size≤g∨g∈L) (hd:O1'.Pairwise fun s t=>∀g,s.blks g→¬ t.blks g) :
  Sb β X G D [] (O1'++O2) a w':=by
 have hpw:=QG.1 h.dOO
 have hsame:∀b,b<w.heap.size→(∀t∈O1,¬ t.blks b)→w'.heap[b]?=w.heap[b]?:=fun b hb' hn=>hb.block b hb' fun hm=>by grind
 have hevo:Evo (Je X.ok X.w.heap.size β [] (O1++O2) w) w w':=Evo.of_blocks hb.size fun b o hk=>hsame b hk.2.1 fun t ht hg=>hk.2.2.2 t (by simp[ht]) (hcov t ht b o hg)
 have hok:∀b o,Je X.ok X.w.heap.size β [] (O1++O2) w b o→Je X.ok X.w.heap.size β [] (O1'++O2) w' b o:=by
  rintro b o ⟨h1,h2,h3,h4⟩
  refine⟨h1,QB h2 hb.size,h3,fun u hu hc=>?_⟩
  rcases QX.1 hu with hu | hu
  ·rcases(hp u hu).2 b (u.cb hc)with hg | hg
   ·omega
   ·obtain⟨t,ht,hg⟩:=hL b hg
    exact h4 t (by simp[ht]) (hcov t ht b o hg)
  grind
 have hmine:∀t∈O1',∀g,t.blks g→X.mine g:=by
  intro t ht g hg
  rcases(hp t ht).2 g hg with h1 | h1
  ·exact .inl (QW h.bel.size h1)
  ·obtain⟨u,hu,hg⟩:=hL g h1
   exact(h.own u (by simp[hu])).2 g hg
 have hO2:∀u∈O2,∀g,u.blks g→w'.heap[g]?=w.heap[g]?:=fun u hu g hg=>hsame g (h.olt (by simp[hu]) hg) fun t ht hg2=>hpw.2.2 t ht u hu g hg2 hg
 refine { sz:=h.sz,df:=h.df,fr:=h.fr,pn:=h.pn,tm:=h.tm,bel:=?_,dat:=(h.dat.evo hevo).weak hok,obj:=by simp,own:=?_,dHH:=by simp,dHO:=by simp,dOO:=?_ }
 ·refine h.bel.trans ⟨hb.os,hb.tape,hb.output,hb.size,fun k hk hn=>hsame k (QB hk h.bel.size) fun t ht hg=>?_⟩
  exact((h.own t (by simp[ht])).2 k hg).elim (fun h=>by omega) hn
 ·intro u hu
  rcases QX.1 hu with hu | hu
  ·exact⟨u.weak (hp u hu).1 (Qa8 h hb.size hL),hmine u hu⟩
  ·have:=h.own u (by simp[hu]:u∈O1++O2)
   exact⟨u.weak (u.keep this.1 (hO2 u hu) hevo) hok,this.2⟩
 ·refine QG.2 ⟨hd,hpw.2.1,fun t ht u hu g hg hg2=>?_⟩
  rcases(hp t ht).2 g hg with h1 | h1
  ·have:=h.olt (t:=u) (by simp[hu]) hg2; omega
  grind
end
end Gd
namespace Gx
open Go Go.RowKit Gd
set_option linter.unusedVariables false
set_option linter.unusedSimpArgs false
def upd{α:Type}(f:Nat→α)(d:Nat)(v:α):Nat→α:=fun i=>if i=d then v else f i
theorem Jd{α:Type}(f:Nat→α)(d:Nat)(v:α):upd f d v d=v:=by simp[upd]
theorem Xr{α:Type}(f:Nat→α){d i:Nat}(v:α)(h:i≠d):upd f d v i=f i:=by simp[upd,h]
def Qi2(d:Nat)(β β':Nat→Nat)(ρ ρ':Nat→Value):Prop:=∀i,i≠d→β' i=β i∧ρ' i=ρ i
theorem Qho(d:Nat)(β:Nat→Nat)(ρ:Nat→Value)(g:Nat)(v:Value):Qi2 d β (upd β d g) ρ (upd ρ d v):=fun i h=>⟨Xr _ _ h,Xr _ _ h⟩
theorem neB{a b:Nat}(h:(!Nat.beq a b)=true):a≠b:=by
 grind [Nat.beq_refl]
section
variable {β β':Nat→Nat} {ρ ρ':Nat→Value} {ok:Ok} {w:World} {d:Nat}
theorem Ec(ha:Qi2 d β β' ρ ρ'):∀{m:Bool} {x:AV} {cs:List Value},Zv d x=true→cr β ρ ok w m x cs→cr β' ρ' ok w m x cs
 | m,.d t x,cs,_,h=>by cases m<;>exact h
 | m,.p id path,cs,hn,h=>by
  have:=(ha id (neB (by grind [Zv]))).1
  cases m<;>(grind [cr])
 | m,.e id path,cs,hn,h=>by
  have:=(ha id (neB (by grind [Zv]))).2
  cases m<;>(grind [cr])
 | m,.s id,cs,hn,h=>by
  have:=(ha id (neB (by grind [Zv]))).2
  cases m<;>(grind [cr])
 | m,.m id,cs,hn,h=>by
  have:=(ha id (neB (by grind [Zv]))).1
  cases m<;>(grind [cr])
 | m,.b id,cs,hn,h=>by
  have:=(ha id (neB (by grind [Zv]))).1
  cases m<;>(grind [cr])
 | m,.w id _ _,cs,hn,h=>by
  have:=(ha id (neB (by grind [Zv]))).1
  cases m<;>(grind [cr])
 | m,.a t x,cs,_,h=>by cases m<;>exact h
 | m,.z,cs,_,h=>by cases m<;>exact h
 | m,.ns,cs,_,h=>by cases m<;>exact h
 | m,.np,cs,_,h=>by cases m<;>exact h
 | m,.nm,cs,_,h=>by cases m<;>exact h
 | m,.nf,cs,_,h=>by cases m<;>exact h
 | m,.f fn caps,cs,hn,h=>by cases m<;>exact let⟨vs,h1,h2⟩:=h; ⟨vs,h1,Ec ha (by grind [Zv]) h2⟩
 | m,.ag l,cs,hn,h=>by cases m<;>exact Ec ha (m:=false) (x:=l) (by grind [Zv]) h
 | m,.tp l,cs,hn,h=>by cases m<;>exact let⟨vs,h1,h2⟩:=h; ⟨vs,h1,Ec ha (by grind [Zv]) h2⟩
 | m,.nil,cs,_,h=>by cases m<;>exact h
 | true,.cons x r,cs,hn,h=>by
  simp only[Zv,QQ]at hn
  exact let⟨c1,vs,h1,h2,h3⟩:=h; ⟨c1,vs,h1,Ec ha hn.1 h2,Ec ha hn.2 h3⟩
 | false,.cons x r,cs,hn,h=>by
  simp only[Zv,QQ]at hn
  exact let⟨c1,vs,h1,h2,h3⟩:=h; ⟨c1,vs,h1,Ec ha hn.1 h2,Ec ha hn.2 h3⟩
def Ju1(d:Nat):Ob→Prop
 | .var _ c=>Zv d c=true
 | .mapC _ _ _ (some q)=>q.2≠d
 | .mapE _ _ _ _ j=>j≠d
 | _=>True
theorem Gk:∀{M:List (Nat×Ob)},Jy d M=true→∀q∈M,q.1≠d∧Ju1 d q.2
 | [],_,q,hq=>by cases hq
 | (k,o)::l,h,q,hq=>by
  cases o with
  | var t c =>
   simp only[Jy,QQ]at h
   rcases QJ.1 hq with rfl | hq
   ·exact⟨neB h.1.1,h.1.2⟩
   ·exact Gk h.2 q hq
  | mapC k1 v xs hole =>
   cases hole with
   | none =>
    simp only[Jy,QQ]at h
    rcases QJ.1 hq with rfl | hq
    ·exact⟨neB h.1,trivial⟩
    ·exact Gk h.2 q hq
   | some q0 =>
    simp only[Jy,QQ]at h
    rcases QJ.1 hq with rfl | hq
    ·exact⟨neB h.1.1,neB h.1.2⟩
    ·exact Gk h.2 q hq
  | mapE k1 v xs key j =>
   simp only[Jy,QQ]at h
   rcases QJ.1 hq with rfl | hq
   ·exact⟨neB h.1.1,neB h.1.2⟩
   ·exact Gk h.2 q hq
  | _ =>
   simp only[Jy,QQ]at h
   rcases QJ.1 hq with rfl | hq
   ·exact⟨neB h.1,trivial⟩
   ·exact Gk h.2 q hq
theorem Sj(ha:Qi2 d β β' ρ ρ'):∀{M:List (Nat×Ob)},Jy d M=true→Wn (Qj β ρ M) (Qj β' ρ' M)
 | [],_=>.nil
 | (k,o)::l,h=>by
  have hq:=Gk h (k,o) (.head _)
  have hl:Jy d l=true:=by
   cases o with
   | mapC k1 v xs hole=>cases hole<;>simp only[Jy,QQ]at h<;>exact h.2
   | _=>simp_all [Jy,QQ]
  refine .cons ?_ (Sj ha hl)
  obtain⟨h1,h2⟩:=ha k hq.1
  cases o with
  | var t c =>
   refine⟨fun g=>by grind [Qv,Qfc],fun b o=>by grind [Qv,Qfc],fun ok w hp=>?_⟩
   obtain⟨cs,hh,hc⟩:=hp
   exact⟨cs,by rw[h1]; exact hh,Ec ha hq.2 hc⟩
  | row e t xs=>grind [Qv,Gp.refl]
  | tail e t xs=>grind [Qv,Gp.refl]
  | map k v xs=>grind [Qv,Gp.refl]
  | mapC k1 v xs hole =>
   have hv:Ol β' ρ' v hole=Ol β ρ v hole:=by
    cases hole with
    | none=>rfl
    | some q=>cases v<;>simp only[Ol,(ha q.2 hq.2).1,(ha q.2 hq.2).2]
   grind [Qv,Gp.refl]
  | mapE k1 v xs key j =>
   simp only[Qv,h1,(ha j hq.2).1]; exact Gp.refl _
theorem Jn9{a:Act}(ha:Qi2 d β β' ρ ρ'){e:En}(hn:Zv d e.av=true)(h:(enD β ρ a e).p ok w):(enD β' ρ' a e).p ok w :=
 ⟨fun hc=>let⟨cs,h1,h2⟩:=h.1 hc; ⟨cs,h1,Ec ha hn h2⟩,h.2⟩
theorem Qjy{l:List En}{e:En}(h:e∈Y7 d l):e∈l∧Zv d e.av=true:=by
 induction l with
 | nil=>cases h
 | cons x l ih =>
  simp only[Y7]at h
  grind
theorem Qlp{l:List En}(h:Qfk d l=true):∀e∈l,Zv d e.av=true:=by
 induction l with
 | nil=>grind
 | cons x l ih =>
  simp only[Qfk,QQ]at h
  intro e he
  rcases QJ.1 he with rfl | he
  ·exact h.1
  ·exact ih h.2 e he
end
section
variable {X:Cx} {β β':Nat→Nat} {ρ ρ':Nat→Value} {S:St} {a:Act} {w w':World} {d:Nat}
theorem Rel.off(h:Rel X β ρ S a w)(ha:Qi2 d β β' ρ ρ')(hf:Jy d S.mem=true){env':List En}(he:∀e∈env',e∈S.env∧Zv d e.av=true):Rel X β' ρ' ⟨env',S.mem⟩ a w:=by
 have h1:=Sb.simO h (Sj ha hf)
 refine { h1 with dat:=Jh.2 fun x hx=>?_ }
 obtain⟨e,hm,rfl⟩:=QZ.1 hx
 obtain⟨h2,h3⟩:=he e hm
 exact Jn9 ha h3 ((enD β ρ a e).weak (h.en h2) (Sj ha hf).ok)
theorem Rel.ofSb{G:GL}{D:List DF}{O:List TL}(h:Sb (fun _=>0) X G D [] O a w){mem:List (Nat×Ob)}(hO:O=Qj β ρ mem){env:List En}
  (he:∀e∈env,(enD β ρ a e).p (okR X β ρ mem w) w):Rel X β ρ ⟨env,mem⟩ a w:=by
 subst hO
 exact { h with tm:=by simp,dat:=Jh.2 fun x hx=>by grind }
theorem Rel.alloc(h:Rel X β ρ S a w)(ha:Qi2 d β β' ρ ρ')(hf:Jy d S.mem=true){env':List En}(he:∀e∈env',e∈S.env∧Zv d e.av=true)(hb:Below w.heap.size w w'){o:Ob}
  (ht:∀g,(Qv β' ρ' d o).blks g→w.heap.size≤g) (hq:(Qv β' ρ' d o).p (okR X β' ρ' ((d,o)::S.mem) w') w'):Rel X β' ρ' ⟨env',(d,o)::S.mem⟩ a w' :=
 Sb.allocTL (h.off ha hf he) hb ht hq
end
end Gx
