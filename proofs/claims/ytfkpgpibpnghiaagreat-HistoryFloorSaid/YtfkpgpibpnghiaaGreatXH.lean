/- Shapes of states; the interpreter. -/
import Derived.Test.YtfkpgpibpnghiaaGreatXMc
import Derived.StillTail
import Derived.Test.YtfkpgpibpnghiaaGreatGCore
namespace Gx
open Go Go.RowKit Gd
set_option linter.unusedVariables false
set_option linter.unusedSimpArgs false
inductive Sk where
 | d (t:Ty)
 | p (id:Nat) (path:List PS)
 | s (id:Nat) | m (id:Nat)
 | ns | np | nm | nf | z
 | f (fn:FuncId) (caps:Sk)
 | ag (l:Sk) | nil | cons (x r:Sk)
inductive SkO where
 | var (tid:TypeId) (c:Sk)
 | row (e:TypeId) (t:Ty)
 | tail (e:TypeId) (t:Ty)
 | map (k v:Ty)
 | mapC (k:Ty) (c:CK)
structure Shp where
 env:List (Nat×Sk)
 mem:List (Nat×SkO)
abbrev DV:=Σ t:Ty,t.De
def Sk.tys:Sk→List Ty
 | .d t=>[t]
 | .f _ c=>c.tys
 | .ag l=>l.tys
 | .cons x r=>x.tys++r.tys
 | _=>[]
def SkO.tys:SkO→List Ty
 | .var _ c=>c.tys
 | .row _ t=>[.sl t]
 | .tail _ t=>[.sl t]
 | .map k v=>[.sl (.pr k v)]
 | .mapC k c=>[.sl (.pr k c.ty)]
def Jd8:List (Nat×Sk)→List Ty
 | []=>[]
 | q::l=>q.2.tys++Jd8 l
def Jd9:List (Nat×SkO)→List Ty
 | []=>[]
 | q::l=>q.2.tys++Jd9 l
def Shp.tys(Γ:Shp):List Ty:=Jd8 Γ.env++Jd9 Γ.mem
@[reducible] def Tup:List Ty→Type
 | []=>Unit
 | [t]=>t.De
 | t::u::ts=>t.De×Tup (u::ts)
abbrev Shp.De(Γ:Shp):Type:=Tup Γ.tys
def toL:(ts:List Ty)→Tup ts→List DV
 | [],_=>[]
 | [t],x=>[⟨t,x⟩]
 | t::u::ts,x=>⟨t,x.1⟩::toL (u::ts) x.2
def ofL:(ts:List Ty)→List DV→Option (Tup ts)
 | [],[]=>some ()
 | [t],[v]=>Ty.cast v.1 t v.2
 | t::u::ts,v::vs=>match Ty.cast v.1 t v.2,ofL (u::ts) vs with
  | some a,some b=>some (a,b)
  | _,_=>none
 | _,_=>none
def Lj:Sk→List DV→AV×List DV
 | .d t,v::vs=>(.d v.1 v.2,vs)
 | .d _,[]=>(.nil,[])
 | .p id path,vs=>(.p id path,vs)
 | .s id,vs=>(.s id,vs)
 | .m id,vs=>(.m id,vs)
 | .ns,vs=>(.ns,vs)
 | .np,vs=>(.np,vs)
 | .nm,vs=>(.nm,vs)
 | .nf,vs=>(.nf,vs)
 | .z,vs=>(.z,vs)
 | .f fn c,vs=>match Lj c vs with
  | (x,r)=>(.f fn x,r)
 | .ag l,vs=>match Lj l vs with
  | (x,r)=>(.ag x,r)
 | .nil,vs=>(.nil,vs)
 | .cons a b,vs=>match Lj a vs with
  | (x,r)=>match Lj b r with
   | (y,r')=>(.cons x y,r')
def Qbt:SkO→List DV→Option (Ob×List DV)
 | .var tid c,vs=>match Lj c vs with
  | (x,r)=>some (.var tid x,r)
 | .row e t,v::vs=>match Ty.cast v.1 (.sl t) v.2 with
  | some xs=>some (.row e t xs,vs)
  | none=>none
 | .tail e t,v::vs=>match Ty.cast v.1 (.sl t) v.2 with
  | some xs=>some (.tail e t xs,vs)
  | none=>none
 | .map k u,v::vs=>match Ty.cast v.1 (.sl (.pr k u)) v.2 with
  | some xs=>some (.map k u xs,vs)
  | none=>none
 | .mapC k c,v::vs=>match Ty.cast v.1 (.sl (.pr k c.ty)) v.2 with
  | some xs=>some (.mapC k c xs none,vs)
  | none=>none
 | _,[]=>none
def Dt:List (Nat×Sk)→List DV→List En×List DV
 | [],vs=>([],vs)
 | (t,s)::l,vs=>match Lj s vs with
  | (x,r)=>match Dt l r with
   | (es,r')=>(⟨t,[],x⟩::es,r')
def Zv:List (Nat×SkO)→List DV→List (Nat×Ob)
 | [],_=>[]
 | (t,s)::l,vs=>match Qbt s vs with
  | some (x,r)=>(t,x)::Zv l r
  | none=>[]
structure XS where
 env:List En
 fix:List En
 mem:List (Nat×Ob)
 fixM:List (Nat×Ob)
 prot:List Nat
def XS.flat(S:XS):St:=⟨S.env++S.fix,S.mem++S.fixM⟩
abbrev XS.ev(S:XS)(cur:Y4)(x:Operand):Option AV:=Gx.ev S.flat cur x
def enc(Γ:Shp)(x:Γ.De):St:=match Dt Γ.env (toL Γ.tys x)with
 | (es,r)=>⟨es,Zv Γ.mem r⟩
def PS.beq:PS→PS→Bool
 | .f k o,.f k' o'=>Nat.beq k k'&&Nat.beq o o'
 | _,_=>false
def Qv0:List PS→List PS→Bool
 | [],[]=>true
 | a::l,b::m=>PS.beq a b&&Qv0 l m
 | _,_=>false
def isNone{α:Type}:Option α→Bool
 | none=>true
 | some _=>false
def CK.beq:CK→CK→Bool
 | .sl e u,.sl e' u'=>Nat.beq e e'&&Ty.beq u u'
 | .mp k v,.mp k' v'=>Ty.beq k k'&&Ty.beq v v'
 | _,_=>false
def Q90:Sk→AV→List (Nat×Nat)
 | .s id,.s c=>[(id,c)]
 | .p id _,.p c _=>[(id,c)]
 | .m id,.m c=>[(id,c)]
 | .f _ x,.f _ y=>Q90 x y
 | .ag l,x=>match Sq x with
  | some y=>Q90 l y
  | none=>[]
 | .cons a b,.cons x y=>Q90 a x++Q90 b y
 | _,_=>[]
def Q6x(env:List En):List (Nat×Sk)→List (Nat×Nat)
 | []=>[]
 | (t,s)::l=>match Kf env t with
  | some e=>Q90 s e.av++Q6x env l
  | none=>Q6x env l
def Qs5(M:List (Nat×Ob)):List (Nat×SkO)→List (Nat×Nat)→List (Nat×Nat)
 | [],ri=>ri
 | (id,.var _ c)::l,ri=>match Jp ri id with
  | some i=>match Qe M i with
   | some (.var _ x)=>Qs5 M l (ri++Q90 c x)
   | _=>Qs5 M l ri
  | none=>Qs5 M l ri
 | _::l,ri=>Qs5 M l ri
def Jkx(Γ:Shp)(S:St):List (Nat×Nat):=Qs5 S.mem Γ.mem (Q6x S.env Γ.env)
def Yd:List Nat→Nat→Bool
 | [],_=>false
 | k::l,t=>Nat.beq k t||Yd l t
def Qs6:AV→List Nat
 | .s id=>[id]
 | .ag l=>Qs6 l
 | .cons x r=>Qs6 x++Qs6 r
 | _=>[]
def Q91:Sk→AV→List Nat
 | .d _,x=>Qs6 x
 | .f _ a,.f _ x=>Q91 a x
 | .ag l,x=>match Sq x with
  | some y=>Q91 l y
  | none=>[]
 | .cons a b,.cons x y=>Q91 a x++Q91 b y
 | _,_=>[]
def Jea(env:List En):List (Nat×Sk)→List Nat
 | []=>[]
 | (t,s)::l=>match Kf env t with
  | some e=>Q91 s e.av++Jea env l
  | none=>Jea env l
def Qv1(M:List (Nat×Ob))(ri:List (Nat×Nat)):List (Nat×SkO)→List Nat
 | []=>[]
 | (id,.var _ c)::l=>match Jp ri id with
  | some i=>match Qe M i with
   | some (.var _ x)=>Q91 c x++Qv1 M ri l
   | _=>Qv1 M ri l
  | none=>Qv1 M ri l
 | (id,.tail _ _)::l=>match Jp ri id with
  | some i=>i::Qv1 M ri l
  | none=>Qv1 M ri l
 | _::l=>Qv1 M ri l
def Va(ks:List Nat):List (Nat×Ob)→List (Nat×Ob)
 | []=>[]
 | (id,.row e t xs)::l=>(bif Yd ks id&&Nat.ble 1 t.size then(id,.tail e t xs)else(id,.row e t xs))::Va ks l
 | q::l=>q::Va ks l
def Q36(ri:List (Nat×Nat))(id c:Nat):Bool:=match Jp ri id with
 | some i=>Nat.beq i c
 | none=>false
def Sk.isL:Sk→Bool
 | .nil=>true
 | .cons _ b=>b.isL
 | _=>false
def V0(M:List (Nat×Ob))(ri:List (Nat×Nat))(pr:List Nat):Sk→AV→Option (List DV)
 | .d t,v=>match asD M v t with
  | some x=>bif t.agg==v.isAgg then some [⟨t,x⟩]else none
  | none=>none
 | .p id path,.p c path'=>bif Q36 ri id c&&Qv0 path path' then some []else none
 | .s id,.s c=>bif Q36 ri id c&&!isNone (Qe M c)then some []else none
 | .s id,.ns=>bif isNone (Jp ri id)&&!Yd pr id then some []else none
 | .m id,.m c=>bif Q36 ri id c then some []else none
 | .ns,.ns=>some []
 | .np,.np=>some []
 | .nm,.nm=>some []
 | .nf,.nf=>some []
 | .z,.z=>some []
 | .f fn c,.f fn' x=>bif Nat.beq fn fn'&&c.isL then V0 M ri pr c x else none
 | .ag l,x=>match Sq x with
  | some y=>V0 M ri pr l y
  | none=>none
 | .nil,.nil=>some []
 | .cons a b,.cons x y=>match V0 M ri pr a x,V0 M ri pr b y with
  | some u,some v=>some (u++v)
  | _,_=>none
 | _,_=>none
def Qo6(M:List (Nat×Ob))(ri:List (Nat×Nat))(pr:List Nat)(env:List En):List (Nat×Sk)→Option (List DV)
 | []=>some []
 | (t,s)::l=>match Kf env t with
  | some ⟨_,[],x⟩=>match V0 M ri pr s x,Qo6 M ri pr env l with
   | some u,some v=>some (u++v)
   | _,_=>none
  | _=>none
def P3(M:List (Nat×Ob))(ri:List (Nat×Nat))(pr:List Nat):SkO→Option Ob→Option (List DV)
 | .var tid c,some (.var tid' x)=>bif Nat.beq tid tid' then V0 M ri pr c x else none
 | .row e t,some (.row e' t' xs)=>bif Nat.beq e e'&&Ty.beq t t' then some [⟨.sl t',xs⟩]else none
 | .row e t,none=>some [⟨.sl t,[]⟩]
 | .tail e t,some (.tail e' t' xs)=>bif Nat.beq e e'&&Ty.beq t t' then some [⟨.sl t',xs⟩]else none
 | .tail e t,none=>some [⟨.sl t,[]⟩]
 | .map k u,some (.map k' u' xs)=>bif Ty.beq k k'&&Ty.beq u u' then some [⟨.sl (.pr k' u'),xs⟩]else none
 | .mapC k c,some (.mapC k' c' xs hole)=>bif Ty.beq k k'&&CK.beq c c'&&isNone hole then some [⟨.sl (.pr k' c'.ty),xs⟩]else none
 | _,_=>none
def Q6y(M:List (Nat×Ob))(ri:List (Nat×Nat))(id:Nat):Option (Option Ob):=match Jp ri id with
 | none=>some none
 | some c=>match Qe M c with
  | some o=>some (some o)
  | none=>none
def Oh(M F:List (Nat×Ob))(ri:List (Nat×Nat))(pr:List Nat):List (Nat×SkO)→Option (List DV)
 | []=>some []
 | (t,s)::l=>match Q6y M ri t with
  | some o=>match P3 (M++F) ri pr s o,Oh M F ri pr l with
   | some u,some v=>some (u++v)
   | _,_=>none
  | none=>none
def Fj(ri:List (Nat×Nat)):List (Nat×SkO)→List Nat→Bool
 | [],_=>true
 | (id,_)::l,cs=>match Jp ri id with
  | some c=>!Yd cs c&&Fj ri l (c::cs)
  | none=>Fj ri l cs
def Jeb:List (Nat×SkO)→List Nat→Bool
 | [],_=>true
 | (id,_)::l,cs=>!Yd cs id&&Jeb l (id::cs)
def frz(Γ:Shp)(ri:List (Nat×Nat))(env:List En)(M:List (Nat×Ob)):List (Nat×Ob):=Va (Jea env Γ.env++Qv1 M ri Γ.mem) M
def Q6z(ri:List (Nat×Nat))(pr:List Nat):List (Nat×SkO)→Bool
 | []=>true
 | (id,_)::l=>(!Yd pr id||Q36 ri id id)&&Q6z ri pr l
def Qy8(pr:List Nat):List (Nat×Nat)→Bool
 | []=>true
 | (id,c)::l=>(!Yd pr id||Nat.beq id c)&&Qy8 pr l
def Ji7(Γ:Shp)(ri:List (Nat×Nat))(pr:List Nat)(env:List En)(M F:List (Nat×Ob)):Option Γ.De :=
 bif Fj ri Γ.mem []&&Jeb Γ.mem []&&Q6z ri pr Γ.mem&&Qy8 pr ri then
  match Qo6 (M++F) ri pr env Γ.env,Oh M F ri pr Γ.mem with
  | some u,some v=>ofL Γ.tys (u++v)
  | _,_=>none
 else none
def decF(Γ:Shp)(ri:List (Nat×Nat))(pr:List Nat)(env:List En)(M F:List (Nat×Ob)):Option Γ.De:=Ji7 Γ ri pr env (frz Γ ri env M) F
def Jb:AV→List Nat
 | .p id _=>[id]
 | .e id _=>[id]
 | .s id=>[id]
 | .m id=>[id]
 | .b id=>[id]
 | .w id _ _=>[id]
 | .f _ c=>Jb c
 | .ag l=>Jb l
 | .tp l=>Jb l
 | .cons x r=>Jb x++Jb r
 | _=>[]
def Oi:List En→List Nat
 | []=>[]
 | e::l=>Jb e.av++Oi l
def Jg:List (Nat×Ob)→List Nat
 | []=>[]
 | (id,.var _ c)::l=>id::(Jb c++Jg l)
 | (id,.mapC _ _ _ (some q))::l=>id::q.2::Jg l
 | (id,_)::l=>id::Jg l
def Jec(pr:List Nat):List (Nat×SkO)→List (Nat×Nat)
 | []=>[]
 | (id,_)::l=>bif Yd pr id then(id,id)::Jec pr l else Jec pr l
def XS.dec(S:XS)(Γ:Shp):Option Γ.De:=decF Γ (Qs5 S.mem Γ.mem (Q6x (S.env++S.fix) Γ.env++Jec (S.prot++(Oi S.fix++Jg S.fixM)) Γ.mem)) (S.prot++(Oi S.fix++Jg S.fixM)) (S.env++S.fix) S.mem S.fixM
def Qr3(env:List En):List Nat→List En
 | []=>[]
 | t::ts=>match Kf env t with
  | some e=>e::Qr3 env ts
  | none=>Qr3 env ts
def Jl:List (Nat×Ob)→List Nat→List (Nat×Ob)×List (Nat×Ob)
 | M,[]=>(M,[])
 | M,t::ts=>match Qe M t with
  | some o=>((Jl (Jx M t) ts).1,(t,o)::(Jl (Jx M t) ts).2)
  | none=>Jl M ts
def XS.ent(S:XS)(ks ms:List Nat):XS:=⟨S.env,Qr3 S.env ks++S.fix,(Jl S.mem ms).1,(Jl S.mem ms).2++S.fixM,S.prot⟩
def XS.re(S:XS)(S1:St):XS:=⟨S1.env,S.fix,S1.mem,S.fixM,S.prot⟩
def XS.out(S:XS)(ks ms:List Nat)(S1:St):XS:=⟨S1.env++Qr3 S.env ks,S.fix,S1.mem++(Jl S.mem ms).2,S.fixM,S.prot⟩
inductive Ex where
 | n | x (id:Nat) | r
def Ex.beq:Ex→Ex→Bool
 | .n,.n=>true
 | .r,.r=>true
 | .x a,.x b=>Nat.beq a b
 | _,_=>false
abbrev Exs:=List (Ex×Shp)
@[reducible] def Q37:Exs→Type
 | []=>Empty
 | [q]=>q.2.De
 | q::r::l=>q.2.De⊕Q37 (r::l)
def inj:(l:Exs)→Ex→XS→Option (Q37 l)
 | [],_,_=>none
 | [q],e,S=>bif Ex.beq q.1 e then S.dec q.2 else none
 | q::r::l,e,S=>bif Ex.beq q.1 e then(match S.dec q.2 with
   | some x=>some (.inl x)
   | none=>none)else(match inj (r::l) e S with
   | some x=>some (.inr x)
   | none=>none)
def Q38{R:Type}(S:XS)(ks ms:List Nat)(k:Ex→XS→Option R):(l:Exs)→Q37 l→Option R
 | [],_=>none
 | [q],x=>k q.1 (S.out ks ms (enc q.2 x))
 | q::r::l,x=>match x with
  | .inl y=>k q.1 (S.out ks ms (enc q.2 y))
  | .inr z=>Q38 S ks ms k (r::l) z
def Qf{σ τ:Type}(f:σ→Option (σ⊕τ)):Nat→σ→Option τ
 | 0,_=>none
 | n+1,s=>(f s).bind fun
  | .inl s'=>Qf f n s'
  | .inr r=>some r
@[reducible] def Qa6:List Shp→Type
 | []=>Empty
 | [s]=>s.De
 | s::r::l=>s.De⊕Qa6 (r::l)
def Qbu:(l:List Shp)→Qa6 l→St
 | [],y=>nomatch y
 | [s],y=>enc s y
 | s::r::l,y=>match y with
  | .inl a=>enc s a
  | .inr b=>Qbu (r::l) b
def Jnr{R:Type}:(l:List Shp)→Qa6 l→(St→Option R)→Option R
 | [],_,_=>none
 | [s],y,k=>k (enc s y)
 | s::r::l,y,k=>match y with
  | .inl a=>k (enc s a)
  | .inr b=>Jnr (r::l) b k
theorem Qnx{R:Type}:∀(l:List Shp) (y:Qa6 l) (k:St→Option R),Jnr l y k=k (Qbu l y)
 | [],y,_=>nomatch y
 | [_],_,_=>rfl
 | _::_::_,.inl _,_=>rfl
 | _::r::l,.inr b,k=>Qnx (r::l) b k
structure Con where
 f:FuncId
 Γ:Shp
 Δ:List Shp
 fn:Γ.De→Option (Qa6 Δ)
 ro:List Nat
def Y6(Zs:List (Nat×Ob)):List Nat:=Zs.map Prod.fst
def wrM(ro:List Nat)(M:List (Nat×Ob)):List (Nat×Ob):=M.filter fun q=>!Yd ro q.1
def rdM(ro:List Nat)(M:List (Nat×Ob)):List (Nat×Ob):=M.filter fun q=>Yd ro q.1
def wrG(ro:List Nat)(M:List (Nat×SkO)):List (Nat×SkO):=M.filter fun q=>!Yd ro q.1
def rdG(ro:List Nat)(M:List (Nat×SkO)):List (Nat×SkO):=M.filter fun q=>Yd ro q.1
def roM(c:Con)(x:c.Γ.De):List (Nat×Ob):=rdM c.ro (enc c.Γ x).mem
def Qfu:Sk→AV→Bool
 | .d _,.d _ _=>true
 | .p _ _,.p _ _=>true
 | .s _,.s _=>true
 | .m _,.m _=>true
 | .ns,.ns=>true
 | .np,.np=>true
 | .nm,.nm=>true
 | .nf,.nf=>true
 | .z,.z=>true
 | .f _ c,.f _ x=>Qfu c x
 | .ag l,.ag y=>Qfu l y
 | .nil,.nil=>true
 | .cons a b,.cons x y=>Qfu a x&&Qfu b y
 | _,_=>false
def Jky:SkO→Ob→Bool
 | .var _ c,.var _ x=>Qfu c x
 | .row _ _,.row _ _ _=>true
 | .map _ _,.map _ _ _=>true
 | _,_=>false
def Qs7(ri:List (Nat×Nat))(M:List (Nat×Ob)):List (Nat×SkO)→Bool
 | []=>true
 | (id,s)::l=>(match Jp ri id with
  | some c=>(match Qe M c with
   | some ob=>Jky s ob
   | none=>false)
  | none=>false)&&Qs7 ri M l
def Kw(g:Nat→Nat):AV→AV
 | .p id path=>.p (g id) path
 | .e id path=>.e (g id) path
 | .s id=>.s (g id)
 | .m id=>.m (g id)
 | .b id=>.b (g id)
 | .w id j n=>.w (g id) j n
 | .f fn c=>.f fn (Kw g c)
 | .ag l=>.ag (Kw g l)
 | .tp l=>.tp (Kw g l)
 | .cons x r=>.cons (Kw g x) (Kw g r)
 | x=>x
def Qjs(g:Nat→Nat):Ob→Ob
 | .var tid c=>.var tid (Kw g c)
 | .mapC k c xs (some q)=>.mapC k c xs (some (q.1,g q.2))
 | o=>o
def Ji(ri:List (Nat×Nat))(d j:Nat):Nat:=match Jp ri j with
 | some c=>c
 | none=>10000+100*d+j
def Qy9(S:XS):List Operand→Nat→Option (List En)
 | [],_=>some []
 | x::l,i=>match S.ev [] x,Qy9 S l (i+1)with
  | some v,some r=>bif Nat.blt i 100000 then some (⟨i,[],v⟩::r)else none
  | _,_=>none
def Jed:AV→Nat→Option (List En)
 | .nil,_=>some []
 | .cons x r,i=>match Jed r (i+1)with
  | some l=>bif Nat.blt i 100000 then some (⟨i,[],x⟩::l)else none
  | none=>none
 | _,_=>none
def Qs8:List En→AV
 | []=>.nil
 | e::l=>.cons e.av (Qs8 l)
def P4(es:List En):AV:=match es with
 | [e]=>e.av
 | es=>.tp (Qs8 es)
def J4(ri:List (Nat×Nat)):List (Nat×SkO)→List Nat
 | []=>[]
 | (id,_)::l=>match Jp ri id with
  | some c=>c::J4 ri l
  | none=>J4 ri l
def Qjt:List (Nat×SkO)→Bool
 | []=>true
 | (_,.tail _ _)::_=>false
 | (_,.mapC _ _)::_=>false
 | _::l=>Qjt l
def Wt(ks:List Nat):List Nat→Bool
 | []=>true
 | i::l=>Yd ks i&&Wt ks l
def Lk:List Nat→Bool
 | []=>true
 | i::l=>!Yd l i&&Lk l
def Ht{α:Type}:Option α→Bool
 | some _=>true
 | none=>false
def K5(g:Nat→Nat)(M:List (Nat×Ob)):List (Nat×Ob):=M.map fun q=>(g q.1,Qjs g q.2)
inductive Src where
 | t (n:Nat)
 | v (id:Nat) (path:List PS)
inductive Hn where
 | done
 | n (m:Nat) (r:Hn)
 | nl (m:Nat) (r:Hn)
 | md (mode:Nat) (r:Hn)
 | keep (ts:List Nat) (r:Hn)
 | fz (id:Nat) (r:Hn)
 | sp (t:Nat) (m:Nat) (ks ms:List Nat) (Γ:Shp) (a b r:Hn)
 | call (c:Nat) (r:Hn)
 | tl (h:Hn)
 | so (t:Nat) (a b:Hn)
 | op (src:Src) (id d:Nat) (r:Hn)
 | cl (id:Nat) (r:Hn)
 | fm (id:Nat) (r:Hn)
 | dt (id:Nat) (r:Hn)
 | si (t:Nat) (n:Int) (a b:Hn)
 | br (r:Hn)
structure HD where
 h:Hn
 tch:List Nat
 ro:List Nat
 bs:List Nat
 nm:List Nat
inductive HT where
 | tl (h:Hn)
 | op (h:HD) (r:HT)
 | so (t:Nat) (a b:HT)
def Q60{ε σ τ:Type}(f:ε→σ→Option (σ⊕τ)):List ε→σ→Option (σ⊕τ)
 | [],s=>some (.inl s)
 | e::l,s=>match f e s with
  | some (.inl s')=>Q60 f l s'
  | some (.inr x)=>some (.inr x)
  | none=>none
open Classical in
noncomputable def Jpd{ε σ τ:Type}(f:ε→σ→Option (σ⊕τ))(l:List ε)(s:σ):Option (σ⊕τ) :=
 if ∀ys:List ε,ys.Perm l→Q60 f ys s=Q60 f l s then Q60 f l s else none
inductive An where
 | nil
 | reg (h:Hn)
 | two (a b:An)
 | un (a:An)
 | lp (ks ms:List Nat) (Γ:Shp) (exs:Exs) (a:An)
 | jn (ks ms:List Nat) (exs:Exs) (a:An)
 | dr (m:Nat) (h1 h2:Hn)
 | dc (m:Nat) (ds zs zf:List Nat) (ht:HT)
 | ch (t n:Nat) (a b:An)
 | cn (t:Nat) (a b:An)
 | gh (g:Hn) (a:An)
def Qfv(ops:List Oper)(o:Oper):Option (Option (Nat×Bool)):=match o.guard with
 | none=>some none
 | some (j,want)=>match ops[j]? with
  | some p=>match p.dst with
   | some t=>some (some (t,want))
   | none=>none
  | none=>none
def Uz(d:Nat):AV→Bool
 | .p id _=>!Nat.beq id d
 | .e id _=>!Nat.beq id d
 | .s id=>!Nat.beq id d
 | .m id=>!Nat.beq id d
 | .b id=>!Nat.beq id d
 | .w id _ _=>!Nat.beq id d
 | .f _ c=>Uz d c
 | .ag l=>Uz d l
 | .tp l=>Uz d l
 | .cons x r=>Uz d x&&Uz d r
 | _=>true
def J7(d:Nat):List (Nat×Ob)→Bool
 | []=>true
 | (k,.var _ c)::l=>!Nat.beq k d&&Uz d c&&J7 d l
 | (k,.mapC _ _ _ (some q))::l=>!Nat.beq k d&&!Nat.beq q.2 d&&J7 d l
 | (k,_)::l=>!Nat.beq k d&&J7 d l
def Vq(d:Nat):List En→List En
 | []=>[]
 | e::l=>bif Uz d e.av then e::Vq d l else Vq d l
def Qbv(d:Nat):List En→Bool
 | []=>true
 | e::l=>!(Nat.beq e.t d||Qbo d e.cs)&&Qbv d l
def Qhp(d:Nat):List En→Bool
 | []=>true
 | e::l=>Uz d e.av&&Qhp d l
def Q61(ri:List (Nat×Nat))(d:Nat)(Γk:List Nat)(S:XS)(M:List (Nat×Ob)):List Nat→Bool
 | []=>true
 | j::l=>(bif Ht (Jp ri j)then Yd Γk j else
   J7 (Ji ri d j) M&&J7 (Ji ri d j) S.fixM&&Qhp (Ji ri d j) S.fix&&Qhp (Ji ri d j) S.env&&!Yd S.prot (Ji ri d j)&&!Yd Γk j)&&Q61 ri d Γk S M l
def XS.put(S:XS)(d:Nat)(cs:Y4)(x:AV):XS:={ S with env:=⟨d,cs,x⟩::Yy S.env d }
def XS.born(S:XS)(d:Nat)(o:Ob):XS:={ S with env:=Vq d S.env,mem:=(d,o)::S.mem }
def XS.set(S:XS)(id:Nat)(o:Ob):XS:={ S with mem:=Qhf S.mem id o }
def noS(d:Nat):AV→Bool
 | .e id _=>!Nat.beq id d
 | .s id=>!Nat.beq id d
 | .f _ c=>noS d c
 | .ag l=>noS d l
 | .tp l=>noS d l
 | .cons x r=>noS d x&&noS d r
 | _=>true
def Jee(d:Nat):List En→Bool
 | []=>true
 | e::l=>noS d e.av&&Jee d l
def Qa7(d:Nat):List (Nat×Ob)→Bool
 | []=>true
 | (k,.var _ c)::l=>!Nat.beq k d&&noS d c&&Qa7 d l
 | (k,.mapC _ _ _ (some q))::l=>!Nat.beq k d&&!Nat.beq q.2 d&&Qa7 d l
 | (k,_)::l=>!Nat.beq k d&&Qa7 d l
def XS.swap(S:XS)(id:Nat)(o:Ob):XS:={ S with mem:=(id,o)::Jx S.mem id }
def Qfw(S:XS)(id:Nat):Bool:=Jee id S.env&&Jee id S.fix&&Qa7 id (Jx S.mem id)&&Qa7 id S.fixM&&!Yd S.prot id
def Jqj(S:XS):Src→Option AV
 | .t n=>S.ev [] (.tmp n)
 | .v id path=>match Qe S.flat.mem id with
  | some (.var _ c)=>nav path c
  | _=>none
section
variable {R:Type} (Y:TX) (n:Nat)
def okW(S:XS)(d:Nat):Bool:=Nat.blt d n&&Nat.blt d 100000&&Qbv d S.fix
def okB(S:XS)(d:Nat):Bool:=J7 d S.mem&&J7 d S.fixM&&Qhp d S.fix&&!Yd S.prot d
def asR(M:List (Nat×Ob))(xv:AV)(u:Ty):Option (List u.De):=match asD M xv (.sl u)with
 | some ys=>some ys
 | none=>match xv with
  | .s id=>match Qe M id with
   | some (.row _ t ys)=>Ty.cast (.sl t) (.sl u) ys
   | _=>none
  | _=>none
def Qfx(o:Oper)(S:XS)(k:XS→Option R):Option R :=
 match o.op,o.dst with
 | .alloc t,some d=>match Qh Y.T t,Jp Y.tys t with
  | some e,some ty=>match Ss ty e.z with
   | some c=>bif okW n S d&&okB S d&&c.isVal&&Uz d c then k ((S.born d (.var t c)).put d [] (.p d []))else none
   | none=>none
  | _,_=>none
 | .box t x,some d=>match S.ev [] x with
  | some c=>bif okW n S d&&okB S d&&c.isVal&&c.inMem&&Uz d c then k ((S.born d (.var t c)).put d [] (.p d []))else none
  | none=>none
 | .store t p x,none=>match Qh Y.T t,S.ev [] p,S.ev [] x with
  | some e,some (.p id path),some v=>match Qe S.mem id with
   | some (.var tid c)=>match Qmk path c v with
    | some c'=>bif Nat.beq e.size v.size&&v.isVal&&v.inMem then k (S.set id (.var tid c'))else none
    | none=>none
   | _=>none
  | some e,some (.e id (.i j sz::ps)),some v=>match Qe S.mem id with
   | some (.row et u xs)=>(idx xs j).bind fun y=>match Qmk ps (.d u y) v with
    | some c=>match asD S.flat.mem c u with
     | some z=>bif Nat.beq e.size v.size&&Nat.beq sz u.size&&Nat.ble 1 u.size&&v.isVal&&v.inMem then k (S.set id (.row et u (xs.set j.toNat z)))else none
     | none=>none
    | none=>none
   | _=>none
  | _,_,_=>none
 | .makeMap t rs,some d=>match Qh Y.T t with
  | some te=>match te.d with
   | .map kt et=>match Jp Y.tys kt,Jp Y.tys et with
    | some kk,some v=>bif okW n S d&&okB S d&&isNone rs then k ((S.born d (.map kk v [])).put d [] (.m d))else none
    | _,_=>none
   | _=>none
  | none=>none
 | .mapUpdate t m ky x,none=>match Qh Y.T t,S.ev [] m,S.ev [] ky,S.ev [] x with
  | some te,some (.m id),some kv,some xv=>match te.d,Qe S.mem id with
   | .map kt et,some (.map kk v xs)=>match Qh Y.T kt,asD [] kv kk,asD S.flat.mem xv v with
    | some tk,some key,some y=>bif Y5 Y.T kk tk.d&&(kk.agg==kv.isAgg)&&(v.agg==xv.isAgg)then k (S.set id (.map kk v (Yu key y xs)))else none
    | _,_,_=>none
   | _,_=>none
  | _,_,_,_=>none
 | .makeSlice t l c,some d=>match Qh Y.T t,S.ev [] l,S.ev [] c with
  | some te,some lv,some cv=>match Ys te.d,Xi lv,Xi cv with
   | some e,some (_,nl),some (_,nc)=>match Qh Y.T e,Jp Y.tys e with
    | some ee,some u=>match Ss u ee.z with
     | some za=>match asD [] za u with
      | some z=>bif okW n S d&&okB S d&&Nat.beq ee.size u.size&&Nat.beq (Qu ee.z).length ee.size&&Nat.ble 1 ee.bytes then
        (mkL ee.bytes nl nc z).bind fun zs=>k ((S.born d (.row e u zs)).put d [] (.s d))else none
      | none=>none
     | none=>none
    | _,_=>none
   | _,_,_=>none
  | _,_,_=>none
 | .buildSlice t len ⟨parts⟩,some d=>match Qh Y.T t with
  | some te=>match Ys te.d with
   | some e=>match Qh Y.T e,Jp Y.tys e with
    | some ee,some u=>bif okW n S d&&Nat.beq ee.size u.size then(match len,parts with
     | 0,[]=>bif okB S d then k ((S.born d (.row e u [])).put d [] (.s d))else none
     | 0,_=>none
     | m+1,ps=>match Y0 S.flat [] ps with
      | some vs=>match asLs S.flat.mem u vs 0 with
       | some xs=>bif Nat.beq xs.length (m+1)&&Nat.ble ((m+1)*ee.size) 16777216&&Nat.ble 1 ee.size&&Nat.beq (Qu ee.z).length ee.size then k (S.put d [] (.d (.sl u) xs))else none
       | none=>none
      | none=>none)else none
    | _,_=>none
   | none=>none
  | none=>none
 | .call ⟨.builtin .append,⟨[s,x]⟩,⟨[t,t']⟩⟩,some d=>match Qh Y.T t,S.ev [] s,S.ev [] x with
  | some te,some sv,some xv=>match Ys te.d with
   | some e=>match Qh Y.T e with
    | some ee=>bif okW n S d&&Nat.beq t t'&&Nat.ble 1 ee.size&&Nat.ble 1 ee.bytes&&Nat.beq (Qu ee.z).length ee.size then(match sv with
     | .ns=>match Jp Y.tys e with
      | some u=>match asR S.flat.mem xv u with
       | some ys=>bif okB S d&&Nat.beq ee.size u.size then(app ee.bytes [] ys).bind fun zs=>k ((S.born d (.row e u zs)).put d [] (.s d))else none
       | none=>none
      | none=>none
     | .z=>match Jp Y.tys e with
      | some u=>match asR S.flat.mem xv u with
       | some ys=>bif okB S d&&Nat.beq ee.size u.size then(app ee.bytes [] ys).bind fun zs=>k ((S.born d (.row e u zs)).put d [] (.s d))else none
       | none=>none
      | none=>none
     | .s id=>match Qe S.mem id with
      | some (.row e' u xs)=>match asR S.flat.mem xv u with
       | some ys=>bif okB ⟨S.env,S.fix,Jx S.mem id,S.fixM,S.prot⟩ d&&Nat.beq ee.size u.size&&Nat.beq e e' then
         (app ee.bytes xs ys).bind fun zs=>k (({ S with mem:=Jx S.mem id }.born d (.row e u zs)).put d [] (.s d))else none
       | none=>none
      | some (.tail e' u xs)=>match asD S.flat.mem xv (.sl u)with
       | some ys=>bif okB ⟨S.env,S.fix,Jx S.mem id,S.fixM,S.prot⟩ d&&Nat.beq ee.size u.size&&Nat.beq e e' then
         (app ee.bytes xs ys).bind fun zs=>k (({ S with mem:=Jx S.mem id }.born d (.tail e u zs)).put d [] (.s d))else none
       | none=>none
      | _=>none
     | _=>none)else none
    | none=>none
   | none=>none
  | _,_,_=>none
 | op,some d=>bif okW n S d then Qho Y S.flat [] op fun v=>k (S.put d [] v)else none
 | _,none=>none
def Jns:AV→Bool
 | .np=>true
 | .p _ _=>true
 | _=>false
def Q92:List (Nat×AV)→Nat→Option AV
 | [],_=>some .nil
 | (i,v)::l,j=>bif Nat.beq i j&&Jns v then(match Q92 l (j+1)with
  | some r=>some (.cons v r)
  | none=>none)else none
def Iy{k:Ty}{ν:Type}(key:k.De):List (k.De×ν)→List (k.De×ν)
 | []=>[]
 | x::l=>bif eqK k key x.1 then l else x::Iy key l
def Cs{α:Type}(xs ys:List α):List α:=ys.take (Nat.min ys.length xs.length)++xs.drop (Nat.min ys.length xs.length)
def Qe2{α:Type}(xs ys:List α):Int:=(Nat.min ys.length xs.length:Nat)
def Ji8(o:Oper)(S:XS):Nat:=match o.op with
 | .call ⟨.builtin .append,⟨[_,x]⟩,_⟩=>match S.ev [] x with
  | some (.d .str _)=>1
  | _=>0
 | .convert _ t x=>match S.ev [] x with
  | some (.d .str _)=>match Qh Y.T t with
   | some te=>match Ys te.d with
    | some _=>2
    | none=>0
   | none=>0
  | _=>0
 | .store _ p _=>match S.ev [] p with
  | some (.p _ path)=>bif Jnq path then 3 else 0
  | _=>0
 | .call ⟨.builtin .copy,_,_⟩=>4
 | .call ⟨.builtin .delete,_,_⟩=>5
 | .buildSlice t (_+1) _=>match Qh Y.T t with
  | some te=>match Ys te.d with
   | some e=>match Jp Y.tys e with
    | none=>7
    | some u=>bif Ty.beq u .ref then 7 else 0
   | none=>0
  | none=>0
 | .slice _ x none _ none=>match S.ev [] x with
  | some (.s id)=>match Qe S.mem id with
   | some (.row _ _ _)=>6
   | _=>0
  | _=>0
 | .slice _ x none (some _) (some _)=>match S.ev [] x with
  | some (.s id)=>match Qe S.mem id with
   | some (.row _ _ _)=>8
   | _=>0
  | _=>0
 | _=>0
def Jnt:Value→Bool
 | .int .u8 0=>true
 | _=>false
def Jnu:TypeDesc→Bool
 | .int .u8=>true
 | _=>false
def Q39:TypeDesc→Bool
 | .string=>true
 | _=>false
def Zw(l:Str):List Int:=l.map fun b=>(b.toNat:Int)
def Qs9(o:Oper)(S:XS)(k:XS→Option R):Option R:=match o.op,o.dst with
 | .call ⟨.builtin .append,⟨[s,x]⟩,⟨[t,t']⟩⟩,some d=>match Qh Y.T t,Qh Y.T t',S.ev [] s,S.ev [] x with
  | some te,some te',some sv,some (.d .str l)=>match Ys te.d with
   | some e=>match Qh Y.T e with
    | some ee=>bif okW n S d&&Q39 te'.d&&Jnt ee.z&&Nat.beq ee.size 1&&Nat.beq ee.bytes 1 then(match sv with
     | .ns=>bif okB S d then(app 1 [] (Zw l)).bind fun zs=>k ((S.born d (.row e (.int .u8) zs)).put d [] (.s d))else none
     | .s id=>match Qe S.mem id with
      | some (.row e' (.int .u8) xs)=>bif okB ⟨S.env,S.fix,Jx S.mem id,S.fixM,S.prot⟩ d&&Nat.beq e e' then
        (app 1 xs (Zw l)).bind fun zs=>k (({ S with mem:=Jx S.mem id }.born d (.row e (.int .u8) zs)).put d [] (.s d))else none
      | _=>none
     | _=>none)else none
    | none=>none
   | none=>none
  | _,_,_,_=>none
 | .convert s t x,some d=>match Qh Y.T s,Qh Y.T t,S.ev [] x with
  | some se,some te,some (.d .str l)=>match Ys te.d with
   | some e=>match Qh Y.T e with
    | some ee=>bif okW n S d&&okB S d&&Jnu ee.d then(app 1 [] (Zw l)).bind fun zs=>k ((S.born d (.row e (.int .u8) zs)).put d [] (.s d))else none
    | none=>none
   | none=>none
  | _,_,_=>none
 | .store t p x,none=>match Qh Y.T t,S.ev [] p,S.ev [] x with
  | some e,some (.p id path),some v=>match Qe S.mem id with
   | some (.var tid c)=>Qml S.flat.mem path c v fun c'=>bif Nat.beq e.size v.size&&v.isVal&&v.inMem then k (S.set id (.var tid c'))else none
   | _=>none
  | _,_,_=>none
 | .call ⟨.builtin .copy,⟨[dst,src]⟩,⟨[t,t']⟩⟩,some d=>match Qh Y.T t,S.ev [] dst,S.ev [] src with
  | some te,some (.s id),some xv=>match Ys te.d with
   | some e=>match Qh Y.T e,Qe S.mem id with
    | some ee,some (.row et u xs)=>match asD S.flat.mem xv (.sl u)with
     | some ys=>bif okW n S d&&Nat.beq ee.size u.size&&Nat.ble 1 u.size then k ((S.set id (.row et u (Cs xs ys))).put d [] (.d (.int .i64) (Qe2 xs ys)))else none
     | none=>none
    | _,_=>none
   | none=>none
  | _,_,_=>none
 | .call ⟨.builtin .delete,⟨[m,ky]⟩,⟨[t,t']⟩⟩,none=>match Qh Y.T t,S.ev [] m,S.ev [] ky with
  | some te,some (.m id),some kv=>match te.d,Qe S.mem id with
   | .map kt et,some (.map kk v xs)=>match Qh Y.T kt,asD [] kv kk with
    | some tk,some key=>bif Y5 Y.T kk tk.d&&(kk.agg==kv.isAgg)then k (S.set id (.map kk v (Iy key xs)))else none
    | _,_=>none
   | _,_=>none
  | _,_,_=>none
 | .buildSlice t (m+1) ⟨ps⟩,some d=>match Qh Y.T t with
  | some te=>match Ys te.d with
   | some e=>match Qh Y.T e,Y0 S.flat [] ps with
    | some ee,some vs=>match Q92 vs 0 with
     | some c=>bif okW n S d&&okB S d&&Uz d c&&Nat.beq vs.length (m+1)&&Nat.beq ee.size 1&&Nat.beq (Qu ee.z).length 1&&Nat.ble (m+1) 16777216 then k ((S.born d (.var e (.ag c))).put d [] (.w d 0 ((m+1:Nat):Int)))else none
     | none=>none
    | _,_=>none
   | none=>none
  | none=>none
 | .slice t x none hi none,some d=>match Qh Y.T t,S.ev [] x with
  | some te,some (.s id)=>match Ys te.d,Qe S.mem id with
   | some e,some (.row e' u xs)=>match Qh Y.T e,bnd S.flat [] xs.length hi with
    | some ee,some q=>bif okW n S d&&okB ⟨S.env,S.fix,Jx S.mem id,S.fixM,S.prot⟩ d&&Nat.beq ee.size u.size&&Nat.beq e e' then
      (slc xs 0 q).bind fun ys=>k (({ S with mem:=Jx S.mem id }.born d (.row e u ys)).put d [] (.s d))else none
    | _,_=>none
   | _,_=>none
  | _,_=>none
 | .slice t x none (some hi) (some mx),some d=>match Qh Y.T t,S.ev [] x,S.ev [] hi,S.ev [] mx with
  | some te,some (.s id),some hv,some mv=>match Ys te.d,Qe S.mem id,Xi hv,Xi mv with
   | some e,some (.row e' u xs),some (_,q),some (_,m)=>match Qh Y.T e with
    | some ee=>bif okW n S d&&okB ⟨S.env,S.fix,Jx S.mem id,S.fixM,S.prot⟩ d&&Nat.beq ee.size u.size&&Nat.beq e e' then
      (chk (decide (q≤m)&&decide (m≤(xs.length:Int)))).bind fun _=>(slc xs 0 q).bind fun ys=>k (({ S with mem:=Jx S.mem id }.born d (.row e u ys)).put d [] (.s d))else none
    | _=>none
   | _,_,_,_=>none
  | _,_,_,_=>none
 | _,_=>none
def Qll(o:Oper)(S:XS)(k:XS→Option R):Option R:=match Ji8 Y o S with
 | 0=>Qfx Y n o S k
 | _+1=>Qs9 Y n o S k
def Qo7:Value→Bool
 | .map none=>true
 | _=>false
def Qv2:Value→Bool
 | .slice none 0 0=>true
 | _=>false
def Q4a:CK→Value→Bool
 | .sl _ _,v=>Qv2 v
 | .mp _ _,v=>Qo7 v
def Jqk(Y:TX)(et:TypeId):Option CK:=match Qh Y.T et with
 | some te=>match te.d with
  | .slice e=>match Jp Y.tys e with
   | some u=>some (.sl e u)
   | none=>none
  | .map k v=>match Jp Y.tys k,Jp Y.tys v with
   | some k,some v=>some (.mp k v)
   | _,_=>none
  | _=>none
 | none=>none
def Jkz:CK→Option Ob→Option (Σ t:Ty,t.De)
 | .sl e _,some (.row e' u' ys)=>bif Nat.beq e e' then some ⟨.sl u',ys⟩else none
 | .mp _ _,some (.map k' v' ys)=>some ⟨.sl (.pr k' v'),ys⟩
 | _,_=>none
def Qlm(c:CK)(o:Option Ob):Option c.ty.De:=match Jkz c o with
 | some v=>Ty.cast v.1 c.ty v.2
 | none=>none
def obC:(c:CK)→c.ty.De→Ob
 | .sl e u,ys=>.row e u ys
 | .mp k v,ys=>.map k v ys
def avC:CK→Nat→AV
 | .sl _ _,id=>.s id
 | .mp _ _,id=>.m id
def idC:CK→AV→Option Nat
 | .sl _ _,.s id=>some id
 | .mp _ _,.m id=>some id
 | _,_=>none
def Ji9(S:XS)(id:Nat)(kk:Ty)(c:CK)(xs:List (kk.De×c.ty.De))(hole:Option (kk.De×Nat))(key:kk.De)(xv:AV)(k:XS→Option R):Option R:=match idC c xv with
 | some h1=>match Qlm c (Qe S.mem h1)with
  | some ys=>bif Qfw { S with mem:=Jx S.mem h1 } id&&!Nat.beq h1 id then(chk (match hole,c with
    | some q,.sl _ _=>eqK kk key q.1
    | none,.mp _ _=>true
    | _,_=>false)).bind fun _=>k (XS.swap { S with mem:=Jx S.mem h1 } id (.mapC kk c (Yu key ys xs) none))else none
  | none=>none
 | none=>none
def Q4b(M:List (Nat×Ob))(kk:Ty)(c:CK)(xs:List (kk.De×c.ty.De))(hole:Option (kk.De×Nat))(key:kk.De)(k:AV→Option R):Option R:=match hole,c with
 | some q,c=>bif Ht (Qlm c (Qe M q.2))then(chk (eqK kk key q.1)).bind fun _=>k (avC c q.2)else none
 | none,.mp _ _=>(chk (isNone (Qw key xs))).bind fun _=>k .nm
 | none,.sl _ _=>none
def Jk0(S:XS)(id d:Nat)(kk:Ty)(key:kk.De)(k:XS→Option R):(c:CK)→List (kk.De×c.ty.De)→Option R
 | .sl e u,xs=>k ((S.swap id (.mapC kk (.sl e u) xs (some (key,d)))).born d (.row e u ((Qw key xs).getD [])))
 | .mp k2 v2,xs=>match Qw key xs with
  | some ys=>k ((S.swap id (.mapC kk (.mp k2 v2) xs (some (key,d)))).born d (.map k2 v2 ys))
  | none=>k S
def Jql:CK→Bool
 | .sl _ _=>false
 | .mp _ _=>true
def Qo8(S:XS)(id:Nat)(k:XS→Option R):Option R:=match Qe S.mem id with
 | some (.mapC kk c xs (some q))=>match Qlm c (Qe S.mem q.2)with
  | some ys=>bif Qfw { S with mem:=Jx S.mem q.2 } id&&Qa5 kk&&Jql c then k (XS.swap { S with mem:=Jx S.mem q.2 } id (.mapC kk c (Yu q.1 ys xs) none))else none
  | none=>none
 | some (.mapC _ _ _ none)=>k S
 | _=>none
def Qza(S:XS)(id:Nat)(k:XS→Option R):Option R:=match Qe S.mem id with
 | some (.mapC kk (.sl _ u) xs none)=>k (S.swap id (.map kk (.sl u) xs))
 | _=>none
def Qzb(S:XS)(src:Src)(id d:Nat)(k:XS→Option R):Option R:=match Qe S.mem id with
 | some (.mapC kk c xs none)=>match Jqj S src with
  | some av=>match asD S.flat.mem av kk with
   | some key=>bif Qa5 kk&&Qfw S id&&okB S d then Jk0 S id d kk key k c xs else none
   | none=>none
  | none=>none
 | _=>none
def Qe3(o:Oper)(S:XS)(k:XS→Option R):Option R:=match o.op,o.dst with
 | .buildSlice t (m+1) ⟨ps⟩,some d=>match Qh Y.T t with
  | some te=>match Ys te.d with
   | some e=>match Qh Y.T e,Jp Y.tys e,Y0 S.flat [] ps with
    | some ee,some u,some vs=>match asLs S.flat.mem u vs 0 with
     | some xs=>bif okW n S d&&okB S d&&Nat.beq ee.size u.size&&Nat.beq xs.length (m+1)&&Nat.ble ((m+1)*ee.size) 16777216&&Nat.ble 1 ee.size&&Nat.beq (Qu ee.z).length ee.size then k ((S.born d (.row e u xs)).put d [] (.s d))else none
     | none=>none
    | _,_,_=>none
   | none=>none
  | none=>none
 | .makeMap t rs,some d=>match Qh Y.T t with
  | some te=>match te.d with
   | .map kt et=>match Jp Y.tys kt,Jqk Y et with
    | some kk,some c=>bif okW n S d&&okB S d&&isNone rs then k ((S.born d (.mapC kk c [] none)).put d [] (.m d))else none
    | _,_=>none
   | _=>none
  | none=>none
 | .mapUpdate t m ky x,none=>match Qh Y.T t,S.ev [] m,S.ev [] ky,S.ev [] x with
  | some te,some (.m id),some kv,some xv=>match te.d,Qe S.mem id with
   | .map kt _,some (.mapC kk c xs hole)=>match Qh Y.T kt,asD [] kv kk with
    | some tk,some key=>bif Y5 Y.T kk tk.d&&(kk.agg==kv.isAgg)then Ji9 S id kk c xs hole key xv k else none
    | _,_=>none
   | _,_=>none
  | _,_,_,_=>none
 | .lookup t m ky false,some d=>match Qh Y.T t,S.ev [] ky with
  | some te,some kv=>match te.d with
   | .map kt et=>match Qh Y.T kt,Qh Y.T et,S.ev [] m with
    | some tk,some tz,some (.m id)=>match Qe S.flat.mem id with
     | some (.mapC kk c xs hole)=>match asD [] kv kk with
      | some key=>bif okW n S d&&Y5 Y.T kk tk.d&&(kk.agg==kv.isAgg)&&Q4a c tz.z then Q4b S.flat.mem kk c xs hole key fun v=>k (S.put d [] v)else none
      | none=>none
     | _=>Qfx Y n o S k
    | some tk,some tz,some .nm=>match Jp Y.tys kt,Jp Y.tys et with
     | some kk,some v=>match asD [] kv kk,Ss v tz.z with
      | some key,some za=>match asD [] za v with
       | some z=>bif okW n S d&&Y5 Y.T kk tk.d&&(kk.agg==kv.isAgg)&&(v.agg==Qo0 tz.z)then k (S.put d [] (.d v z))else none
       | none=>none
      | _,_=>none
     | _,_=>none
    | _,_,_=>none
   | _=>none
  | _,_=>none
 | _,_=>none
def Zl(c:Con)(o:Oper)(S:XS)(k:XS→Option R):Option R :=
 match o.op,o.dst with
 | .call ⟨.value x,⟨xs⟩,_⟩,some d=>match S.ev [] x with
  | some (.f f caps)=>bif Nat.beq c.f f&&okW n S d then(match Qy9 S xs 0,Jed caps xs.length with
   | some es0,some cs=>callE c d S (es0++cs) (Jkx c.Γ ⟨es0++cs,S.mem++S.fixM⟩) k
   | _,_=>none)else none
  | _=>none
 | _,_=>none
where
 callE (c:Con) (d:Nat) (S:XS) (es:List En) (ri:List (Nat×Nat)) (k:XS→Option R):Option R :=
  match Ji7 c.Γ ri [] es (frz c.Γ ri es S.mem++S.fixM) []with
  | some x=>bif Qjt c.Γ.mem&&Nat.beq es.length c.Γ.env.length&&Wt (Y6 S.mem) (J4 ri (wrG c.ro c.Γ.mem))&&Qs7 ri (frz c.Γ ri es S.mem++S.fixM) (rdG c.ro c.Γ.mem)then
   (c.fn x).bind fun y=>Jnr c.Δ y fun S1=>callR c d S ri (Jl (frz c.Γ ri es S.mem) (J4 ri (wrG c.ro c.Γ.mem))).1 S1 (roM c x) k else none
  | none=>none
 callR (c:Con) (d:Nat) (S:XS) (ri:List (Nat×Nat)) (M:List (Nat×Ob)) (S1:St) (RO:List (Nat×Ob)) (k:XS→Option R):Option R :=
  bif Q61 ri d (c.Γ.mem.map Prod.fst) S M (S1.mem.map Prod.fst)&&Lk ((S1.mem++RO).map fun q=>Ji ri d q.1)&&Wt ((S1.mem++RO).map Prod.fst) (Oi S1.env)&&Wt ((S1.mem++RO).map Prod.fst) (Jg (S1.mem++RO))then
   k (XS.put ⟨S.env,S.fix,K5 (Ji ri d) S1.mem++M,S.fixM,S.prot⟩ d [] (Kw (Ji ri d) (P4 S1.env)))else none
def Qhq(t:Nat)(want:Bool)(o:Oper)(S:XS)(k:XS→Option R):Option R :=
 match Kf S.flat.env t,o.dst with
 | some ⟨_,cs,.d .bool _⟩,some d=>bif okW n S d&&!Nat.beq t d&&!Qbo d cs then(match Qhl Y S.flat ((t,want)::cs) o.op with
   | some v=>k (S.put d ((t,want)::cs) v)
   | none=>none)else none
 | _,_=>none
def Qhr(ops:List Oper)(o:Oper)(S:XS)(k:XS→Option R):Option R:=match Qfv ops o with
 | some none=>Qll Y n o S k
 | some (some (t,want))=>Qhq Y n t want o S k
 | none=>none
def Qbw(o:Oper)(S:XS)(k:XS→Option R):Option R:=match o.dst with
 | some d=>bif okW n S d then k (S.put d [] (.tp .nil))else none
 | none=>k S
def stepL(ops:List Oper)(o:Oper)(S:XS)(k:XS→Option R):Option R:=match Qfv ops o with
 | some none=>Qll Y n o S k
 | some (some (t,want))=>match Kf S.flat.env t with
  | some ⟨_,[],.d .bool b⟩=>match b==want with
   | true=>Qll Y n o S k
   | false=>Qbw n o S k
  | some ⟨_,[],.tp .nil⟩=>Qbw n o S k
  | _=>none
 | none=>none
def Qmm(st:Oper→XS→(XS→Option R)→Option R):List Oper→XS→(XS→Option R)→Option R
 | [],S,k=>k S
 | o::l,S,k=>st o S fun S'=>Qmm st l S' k
end
def Yt(Y:TX)(K:List Con)(n:Nat)(ops:List Oper){R:Type}:Hn→List Oper→XS→(XS→Option R)→Option R
 | .done,l,S,k=>match l with
  | []=>k S
  | _::_=>none
 | .n m r,l,S,k=>Qmm (Qhr Y n ops) (l.take m) S fun S'=>Yt Y K n ops r (l.drop m) S' k
 | .nl m r,l,S,k=>Qmm (stepL Y n ops) (l.take m) S fun S'=>Yt Y K n ops r (l.drop m) S' k
 | .call c r,l,S,k=>match K[c]?,l with
  | some con,o::l'=>match Qfv ops o with
   | some none=>Zl n con o S fun S'=>Yt Y K n ops r l' S' k
   | some (some (t,want))=>match Kf S.flat.env t with
    | some ⟨_,[],.d .bool b⟩=>match b==want with
     | true=>Zl n con o S fun S'=>Yt Y K n ops r l' S' k
     | false=>none
    | _=>none
   | none=>none
  | _,_=>none
 | .br r,l,S,k=>match l with
  | o::l'=>match Qfv ops o with
   | some none=>Qe3 Y n o S fun S'=>Yt Y K n ops r l' S' k
   | some (some (t,want))=>match Kf S.flat.env t with
    | some ⟨_,[],.d .bool b⟩=>match b==want with
     | true=>Qe3 Y n o S fun S'=>Yt Y K n ops r l' S' k
     | false=>none
    | _=>none
   | none=>none
  | []=>none
 | .fz id r,l,S,k=>Yt Y K n ops r l { S with mem:=Va [id] S.mem } k
 | .keep ts r,l,S,k=>Yt Y K n ops r l { S with env:=Qr3 S.env ts } k
 | .si t i a b,l,S,k=>match Kf S.env t with
  | some ⟨_,[],.d (.int kd) v⟩=>bif Qbv t S.fix then(if v=i then Yt Y K n ops a l (S.put t [] (.d (.int kd) i)) k else Yt Y K n ops b l S k)else none
  | _=>none
 | .op src id d r,l,S,k=>Qzb S src id d fun S'=>Yt Y K n ops r l S' k
 | .cl id r,l,S,k=>Qo8 S id fun S'=>Yt Y K n ops r l S' k
 | .fm id r,l,S,k=>Qza S id fun S'=>Yt Y K n ops r l S' k
 | .sp t m ks ms Γ a b r,l,S,k=>match Kf S.env t with
  | some ⟨_,[],.d .bool v⟩=>bif Qbv t S.fix then
    (if v=true then Yt Y K n ops (R:=Γ.De) a (l.take m) ((XS.put S t [] (.d .bool true)).ent ks ms) (fun S'=>S'.dec Γ)
     else Yt Y K n ops (R:=Γ.De) b (l.take m) ((XS.put S t [] (.d .bool false)).ent ks ms) (fun S'=>S'.dec Γ)).bind
     fun y=>Yt Y K n ops r (l.drop m) (XS.out (XS.put S t [] (.d .bool v)) ks ms (enc Γ y)) k else none
  | _=>none
 | _,_,_,_=>none
section
variable {R:Type} (Y:TX) (n:Nat)
def Qzc(o:Oper)(S:XS)(k:XS→Option R):Option R:=match o.dst with
 | some d=>bif okW n S d then Qho Y S.flat [] o.op fun v=>k (S.put d [] v)else none
 | none=>none
def Qv3(ops:List Oper)(o:Oper)(S:XS)(k:XS→Option R):Option R:=match Qfv ops o with
 | some none=>Qzc Y n o S k
 | some (some (t,want))=>Qhq Y n t want o S k
 | none=>none
def Qv4(ops:List Oper)(o:Oper)(S:XS)(k:XS→Option R):Option R:=match Qfv ops o with
 | some none=>Qzc Y n o S k
 | some (some (t,want))=>match Kf S.flat.env t with
  | some ⟨_,[],.d .bool b⟩=>match b==want with
   | true=>Qzc Y n o S k
   | false=>Qbw n o S k
  | some ⟨_,[],.tp .nil⟩=>Qbw n o S k
  | _=>none
 | none=>none
end
def Ll(Y:TX)(n:Nat)(ops:List Oper){R:Type}:Hn→List Oper→XS→(XS→Option R)→Option R
 | .done,l,S,k=>match l with
  | []=>k S
  | _::_=>none
 | .n m r,l,S,k=>Qmm (Qv3 Y n ops) (l.take m) S fun S'=>Ll Y n ops r (l.drop m) S' k
 | .nl m r,l,S,k=>Qmm (Qv4 Y n ops) (l.take m) S fun S'=>Ll Y n ops r (l.drop m) S' k
 | .sp t m ks ms Γ a b r,l,S,k=>match Kf S.env t with
  | some ⟨_,[],.d .bool v⟩=>bif Qbv t S.fix then
    (if v=true then Ll Y n ops (R:=Γ.De) a (l.take m) ((XS.put S t [] (.d .bool true)).ent ks ms) (fun S'=>S'.dec Γ)
     else Ll Y n ops (R:=Γ.De) b (l.take m) ((XS.put S t [] (.d .bool false)).ent ks ms) (fun S'=>S'.dec Γ)).bind
     fun y=>Ll Y n ops r (l.drop m) (XS.out (XS.put S t [] (.d .bool v)) ks ms (enc Γ y)) k else none
  | _=>none
 | _,_,_,_=>none
def Q4c(o:Oper):List Nat:=o.op.operands.toList.filterMap fun x=>match x with
 | .tmp t=>some t
 | _=>none
def Q4d:List En→List En
 | []=>[]
 | e::l=>bif Nat.blt e.t 100000 then Q4d l else(match e.cs with
  | []=>e::Q4d l
  | _::_=>Q4d l)
def Jef{α:Type}:List α→Bool
 | []=>true
 | _=>false
def Wq:Nat→Bool:=fun _=>true
def Qln(env:List En):List Nat→List En
 | []=>env
 | d::ds=>Qln (Yy (Vq d env) d) ds
def Jnv(l:List Oper)(p:Nat):Bool:=(List.range l.length).all fun k=>Nat.blt k p||(List.range k).all fun i=>Ff l l.length k i
def Q62(l:List Oper)(p:Nat)(ds:List Nat):Bool:=Nat.ble p l.length&&Nat.beq ds.length p&&backB l&&Jnv l p&&Qvo ds
def Jeg(l:List Oper)(n:Nat):Bool:=bif Nat.blt n l.length then Region.lexTailB .any l.toArray n else Nat.beq n l.length&&Region.lexB .any l.toArray
def K6:List (Nat×Ob)→Bool
 | []=>true
 | (_,.tail _ _ _)::_=>false
 | _::l=>K6 l
structure EC where
 d:Nat
 av:AV
 has:Bool
 ups:List (Nat×Option Ob)
def Qlo:List (Nat×Option Ob)→Nat→Option (Option Ob)
 | [],_=>none
 | (k,x)::l,id=>bif Nat.beq k id then some x else Qlo l id
def upC(id:Nat)(e:EC)(c:Option Ob):Option Ob:=match Qlo e.ups id with
 | some x=>x
 | none=>c
def Yo(E:Nat→Bool)(id:Nat):List EC→Nat→Option Ob→Option Ob
 | [],_,c=>c
 | e::l,j,c=>Yo E id l (j+1) (bif E j then upC id e c else c)
def Zd(id:Nat)(e:EC):Bool:=Ht (Qlo e.ups id)
def Du(E:Nat→Bool):List EC→Nat→List En
 | [],_=>[]
 | e::l,j=>bif E j&&e.has then⟨e.d,[],e.av⟩::Du E l (j+1)else Du E l (j+1)
def Zm(id:Nat):Option Ob→Option (Nat×Ob)
 | some ob=>some (id,ob)
 | none=>none
def Fk(names:List Nat)(Zs:List (Nat×Ob))(acc:List EC)(E:Nat→Bool):List (Nat×Ob):=names.filterMap fun id=>Zm id (Yo E id acc 0 (Qe Zs id))
def HD.wr(h:HD):List Nat:=h.tch++h.bs
def HD.al(h:HD):List Nat:=h.tch++h.ro++h.bs
def Qhs:List EC→Nat→Option AV
 | [],_=>none
 | g::l,t=>bif Nat.beq g.d t&&g.has then some g.av else Qhs l t
def Qo9(l0:List Oper)(ds:List Nat)(i:Nat)(acc:List EC)(B:List En):List Nat→List En
 | []=>Q4d B
 | t::ts=>match Qhs acc t with
  | some v=>bif Q6k l0 i (ds.idxOf t)then⟨t,[],v⟩::Qo9 l0 ds i acc B ts else Qo9 l0 ds i acc B ts
  | none=>bif Qld ds t then(match Kf B t with
   | some ⟨t',[],v⟩=>⟨t',[],v⟩::Qo9 l0 ds i acc B ts
   | _=>Qo9 l0 ds i acc B ts)else Qo9 l0 ds i acc B ts
def gTs(l0:List Oper)(o:Oper):List Nat:=match Qfv l0 o with
 | some (some (t,_))=>[t]
 | _=>[]
def Qag(l m:List Nat):Bool:=l.all fun x=>!Yd m x
def Qht(l0:List Oper)(i j:Nat)(hi hj:HD):Bool:=((Qag hj.wr hi.al&&Qag hj.ro hi.wr)||Ff l0 l0.length i j)&&Qag hi.bs hj.wr
def Jpe(l0:List Oper)(hs:List HD):Bool:=(List.range hs.length).all fun i=>(List.range i).all fun j=>match hs[i]?,hs[j]? with
 | some hi,some hj=>Qht l0 i j hi hj
 | _,_=>true
def nmB(l0:List Oper)(hs:List HD):Bool:=(List.range hs.length).all fun i=>(List.range hs.length).all fun j=>Nat.beq i j||(match hs[i]?,hs[j]? with
 | some hi,some hj=>Qag hi.bs hj.nm||Ff l0 l0.length j i
 | _,_=>true)
def Kg:List HD→List Nat
 | []=>[]
 | h::l=>h.bs++Kg l
def Bs:HT→List Nat
 | .tl _=>[]
 | .op h r=>h.bs++Bs r
 | .so _ a b=>Bs a++Bs b
def Qhu(l m:List Nat):List Nat:=l.filter fun x=>!Yd m x
def Qe4(ids:List Nat)(Zs:List (Nat×Ob))(acc:List EC):List (Nat×Ob):=ids.filterMap fun id=>Zm id (Yo Wq id acc 0 (Qe Zs id))
def Qzd:List EC→Nat→Bool→List EC
 | [],_,_=>[]
 | g::l,t,b=>bif Nat.beq g.d t&&g.has then⟨g.d,.d .bool b,g.has,g.ups⟩::l else g::Qzd l t b
def Oj(M:List (Nat×Ob)):AV→AV
 | .s id=>match Qe M id with
  | some (.tail _ t xs)=>.d (.sl t) xs
  | _=>.s id
 | .ag l=>.ag (Oj M l)
 | .cons x r=>.cons (Oj M x) (Oj M r)
 | x=>x
def Qv5(M:List (Nat×Ob)):List Nat→Bool
 | []=>false
 | id::l=>match Qe M id with
  | some (.tail _ _ _)=>true
  | _=>Qv5 M l
def Q93(M:List (Nat×Ob)):List En→List En
 | []=>[]
 | e::l=>bif Qv5 M (Qs6 e.av)then⟨e.t,e.cs,Oj M e.av⟩::Q93 M l else Q93 M l
section
variable {R:Type} (Y:TX) (K:List Con) (n:Nat) (l0:List Oper) (ds:List Nat) (Zs:List (Nat×Ob)) (B:List En) (prA:List Nat)
def Qpa(hc:HD)(o:Oper)(i:Nat)(acc:List EC):XS:=⟨Qo9 l0 ds i acc B (Q4c o++gTs l0 o),[],Qe4 hc.tch Zs acc,Qe4 hc.ro Zs acc,Qhu prA hc.bs⟩
def Qfy(hc:HD)(o:Oper)(i:Nat)(acc:List EC)(S1:XS):Option EC :=
 bif K6 (Qe4 hc.tch Zs acc++Qe4 hc.ro Zs acc)&&Wt hc.nm (Jg S1.mem)then(match o.dst with
  | some d=>match Kf S1.env d with
   | some ⟨_,[],av⟩=>bif Nat.beq (ds.getD i 0) d&&Wt hc.nm (Jb av)&&Nat.blt d n then some ⟨d,av,true,(hc.tch++hc.bs).map fun id=>(id,Qe S1.mem id)⟩else none
   | _=>none
  | none=>bif Nat.beq (ds.getD i 0) (1000000000+i)then some ⟨1000000000+i,.tp .nil,false,(hc.tch++hc.bs).map fun id=>(id,Qe S1.mem id)⟩else none)else none
def Qpb:HT→List Oper→Nat→List HD→List EC→(Hn→List HD→List EC→Option R)→Option R
 | .tl h,l,_,hs,acc,k=>match l with
  | []=>k h hs acc
  | _::_=>none
 | .op hc r,l,i,hs,acc,k=>match l with
  | o::l'=>Yt Y K n l0 hc.h [o] (Qpa l0 ds Zs B prA hc o i acc) fun S1=>match Qfy n ds Zs hc o i acc S1 with
   | some g=>Qpb r l' (i+1) (hs++[hc]) (acc++[g]) k
   | none=>none
  | []=>none
 | .so t a b,l,i,hs,acc,k=>match Qhs acc t with
  | some (.d .bool v)=>if v=true then Qpb a l i hs (Qzd acc t true) k else Qpb b l i hs (Qzd acc t false) k
  | _=>none
end
def Jja(l0:List Oper)(ks:List Nat)(prB prA:List Nat)(hs:List HD):Bool:=Jpe l0 hs&&nmB l0 hs&&Lk (ks++Kg hs)&&Qag prB (Kg hs)&&Wt prA (ks++Kg hs) &&
 hs.all fun hc=>Lk hc.al&&Wt (ks++Kg hs) hc.al&&Wt prA hc.nm
def kfC(zf:List Nat)(hs:List HD):Bool:=hs.all fun hc=>Qag hc.wr zf
def Jqm(S:XS)(ds:List Nat)(Z1 Z2 M1:List (Nat×Ob))(bsA:List Nat)(hs:List HD)(acc:List EC):XS:=⟨Du Wq acc 0++Qln S.env (ds++bsA),S.fix,Fk (Y6 Z1++Kg hs) (Z1++Z2) acc Wq++M1,S.fixM,S.prot⟩
def Ol{R:Type}:Hn→XS→(XS→Option R)→Option R
 | .done,S,k=>k S
 | .fz id r,S,k=>Ol r { S with mem:=Va [id] S.mem } k
 | .op src id d r,S,k=>Qzb S src id d fun S'=>Ol r S' k
 | .cl id r,S,k=>Qo8 S id fun S'=>Ol r S' k
 | .fm id r,S,k=>Qza S id fun S'=>Ol r S' k
 | .dt id r,S,k=>match Qe S.mem id with
  | some (.var tid c)=>Ol r (S.set id (.var tid (Oj S.flat.mem c))) k
  | _=>none
 | _,_,_=>none
def Jeh(S:XS)(t i:Nat):Bool:=match Kf S.env t with
 | some ⟨_,[],.d (.int _) v⟩=>match Q9x v with
  | some j=>Nat.beq j i
  | none=>false
 | _=>false
def Q63:AV→Bool
 | .nm=>true
 | .np=>true
 | .tp l=>Q63 l
 | .cons x r=>Q63 x||Q63 r
 | _=>false
def Jei(S:XS)(t:Nat):Bool:=match Kf S.env t with
 | some e=>Q63 e.av
 | none=>false
def dcR(Y:TX)(K:List Con)(n:Nat){R:Type}(ops:List Oper)(p:Nat)(ds:List Nat)(Z1 Z2 M1 F1:List (Nat×Ob))(ht:HT)(S:XS)(B:List En)(prB:List Nat)(k:Hn→XS→Option R):Option R :=
 Qpb Y K n ops ds (Z1++Z2) (Q93 (M1++F1) B++B) (prB++Y6 (Z1++Z2)++Bs ht) ht (ops.take p) 0 [] [] fun h hs acc =>
  bif Jja ops (Y6 (Z1++Z2)) prB (prB++Y6 (Z1++Z2)++Bs ht) hs&&kfC (Y6 Z2) hs then k h (Jqm S ds Z1 Z2 M1 (Bs ht) hs acc)else none
def dcI(Y:TX)(K:List Con)(n:Nat){R:Type}(ops:List Oper)(p:Nat)(ds:List Nat)(Z1 Z2 M1 F1:List (Nat×Ob))(ht:HT)(S:XS)(B:List En)(k:Hn→XS→Option R):Option R :=
 dcR Y K n ops p ds Z1 Z2 M1 F1 ht S B (Oi B++Jg ((Z1++Z2)++(M1++F1))++S.prot) k
noncomputable def Zx(Y:TX)(K:List Con)(n N:Nat){R:Type}:An→Code→XS→(Ex→XS→Option R)→Option R
 | .nil,.skip,S,k=>k .n S
 | .nil,.ret,S,k=>k .r S
 | .nil,.exit id,S,k=>k (.x id) S
 | .nil,.label _,S,k=>k .n S
 | .reg h,.region _ ⟨ops⟩ false,S,k=>Yt Y K n ops h ops S (k .n)
 | .dr m h1 h2,.region _ ⟨ops⟩ true,S,k=>bif Jeg ops m then Ll Y n ops h1 (ops.take m) S fun S'=>Yt Y K n ops h2 (ops.drop m) S' (k .n)else none
 | .dc p ds zs zf ht,.region _ ⟨ops⟩ true,S,k =>
  bif Q62 ops p ds&&ds.all (fun d=>Qbv d S.fix)then
   dcI Y K n ops p ds (Jl S.mem zs).2 (Jl S.fixM zf).2 (Jl S.mem zs).1 (Jl S.fixM zf).1 ht S
    (Qln S.env (ds++Bs ht)++S.fix) fun h3 S'=>Yt Y K n ops h3 (ops.drop p) S' (k .n)else none
 | .gh g a,c,S,k=>Ol g S fun S'=>Zx Y K n N a c S' k
 | .ch t i a b,c,S,k=>bif Jeh S t i then Zx Y K n N a c S k else Zx Y K n N b c S k
 | .cn t a b,c,S,k=>bif Jei S t then Zx Y K n N a c S k else Zx Y K n N b c S k
 | .two a b,.seq x y,S,k=>Zx Y K n N a x S fun e S'=>match e with
  | .n=>Zx Y K n N b y S' k
  | .x i=>k (.x i) S'
  | .r=>k .r S'
 | .two a b,.cond c x y,S,k=>match S.ev [] c with
  | some (.d .bool v)=>if v=true then Zx Y K n N a x S k else Zx Y K n N b y S k
  | _=>none
 | .un a,.block id c,S,k=>Zx Y K n N a c S fun e S'=>match e with
  | .n=>k .n S'
  | .x i=>bif Nat.beq i id then k .n S' else k (.x i) S'
  | .r=>k .r S'
 | .un a,.scope c,S,k=>Zx Y K n N a c S k
 | .lp ks ms Γ exs a,.loop c,S,k=>match (S.ent ks ms).dec Γ with
  | some s0=>(Qf (fun s=>Zx Y K n N (R:=Γ.De⊕Q37 exs) a c ((S.ent ks ms).re (enc Γ s)) fun e S'=>match e with
    | .n=>(match S'.dec Γ with
     | some s'=>some (.inl s')
     | none=>none)
    | .x i=>(match inj exs (.x i) S' with
     | some x=>some (.inr x)
     | none=>none)
    | .r=>(match inj exs .r S' with
     | some x=>some (.inr x)
     | none=>none)) N s0).bind fun x=>Q38 S ks ms k exs x
  | none=>none
 | .jn ks ms exs a,c,S,k=>(Zx Y K n N a c (S.ent ks ms) (inj exs)).bind fun x=>Q38 S ks ms k exs x
 | _,_,_,_=>none
def Q4e(Y:TX)(S:XS):List ResultVar→Nat→Option (List En)
 | [],_=>some []
 | .cell ad t::l,i=>match Qhl Y S.flat [] (.load t (.tmp ad)),Q4e Y S l (i+1)with
  | some v,some r=>bif Nat.blt i 100000 then some (⟨i,[],v⟩::r)else none
  | _,_=>none
 | .tmp t::l,i=>match S.ev [] (.tmp t),Q4e Y S l (i+1)with
  | some v,some r=>bif Nat.blt i 100000 then some (⟨i,[],v⟩::r)else none
  | _,_=>none
def Lm:List (Nat×Sk)→Nat→Bool
 | [],_=>true
 | (t,_)::l,i=>Nat.beq t i&&Lm l (i+1)
def Jej(es:List En)(S:XS):(l:List Shp)→Option (Qa6 l)
 | []=>none
 | [s]=>bif Lm s.env 0&&Nat.beq es.length s.env.length then XS.dec S s else none
 | s::r::l=>match (bif Lm s.env 0&&Nat.beq es.length s.env.length then XS.dec S s else none)with
  | some x=>some (.inl x)
  | none=>match Jej es S (r::l)with
   | some y=>some (.inr y)
   | none=>none
def fin(Y:TX)(fn:Func)(Δ:List Shp)(S:XS):Option (Qa6 Δ):=match Q4e Y S fn.results.toList 0 with
 | some es=>bif Nat.blt es.length 100000 then Jej es ⟨es,[],S.mem,S.fixM,S.prot⟩ Δ else none
 | none=>none
def Qhv(gl:List (Nat×Σ t:Ty,t.De)):List En:=gl.map fun q=>⟨100000+q.1,[],.a q.2.1 q.2.2⟩
noncomputable def Jek(Y:TX)(K:List Con)(N:Nat)(fn:Func)(an:An)(ro:List Nat)(Γ:Shp)(Δ:List Shp)(x:Γ.De):Option (Qa6 Δ):=match fn.body with
 | some c=>bif Nat.ble Γ.env.length fn.ntmps&&(Lm Γ.env 0&&Nat.blt Γ.env.length 100000)then Zx Y K fn.ntmps N an c ⟨(enc Γ x).env,Qhv Y.gl,wrM ro (enc Γ x).mem,rdM ro (enc Γ x).mem,Γ.mem.map Prod.fst⟩ fun e S=>match e with
  | .x _=>none
  | .n=>fin Y fn Δ S
  | .r=>fin Y fn Δ S else none
 | none=>none
end Gx

/- What a step gives does not depend on what comes behind it. -/
namespace Gx
open Go Go.RowKit Gd
set_option linter.unusedVariables false
set_option linter.unusedSimpArgs false
theorem Kh{R A:Type}{b:Bool}{x:Option R}{y:Option A}{k:A→Option R}(h:x=y.bind k):(bif b then x else none)=(bif b then y else none).bind k:=by
 grind
theorem Fl{T R A:Type}{x:Option T}{f:T→Option R}{g:T→Option A}{k:A→Option R}(h:∀t,f t=(g t).bind k):x.bind f=(x.bind g).bind k:=by
 cases x
 ·rfl
 ·exact h _
section
variable {R:Type} {Y:TX} {n:Nat}
theorem Jjb{S:St}{cur:Y4}{op:Op}{k:AV→Option R}:tot Y S cur op k=(tot Y S cur op some).bind k:=by
 grind [tot]
theorem Qpc{A:Type}{k:A→Option R}:∀{ps:List PS} {x:AV} {f:AV→Option R} {g:AV→Option A},(∀y,f y=(g y).bind k)→Qo5 ps x f=(Qo5 ps x g).bind k
 | [],x,f,g,h=>h x
 | .f i off::ps,x,f,g,h=>by
  simp only[Qo5]
  split
  ·exact Qpc h
  ·rfl
 | .i j sz::ps,x,f,g,h=>by
  simp only[Qo5]
  split
  ·exact Kh (Fl fun _=>Qpc h)
  ·rfl
theorem Qpd{A:Type}{k:A→Option R}{M:List (Nat×Ob)}:∀{ps:List PS} {x v:AV} {f:AV→Option R} {g:AV→Option A},(∀y,f y=(g y).bind k)→Qml M ps x v f=(Qml M ps x v g).bind k
 | [],x,v,f,g,h=>by
  simp only[Qml]
  grind
 | .f i off::ps,x,v,f,g,h=>by
  simp only[Qml]
  split
  ·refine Qpd fun x1=>?_
   grind
  ·rfl
 | .i j sz::ps,x,v,f,g,h=>by
  simp only[Qml]
  split
  ·refine Kh (Fl fun _=>Qpd fun x1=>?_)
   grind
  ·rfl
theorem Q4f{S:St}{cur:Y4}{op:Op}{k:AV→Option R}:Qjq Y S cur op k=(Qjq Y S cur op some).bind k:=by
 unfold Qjq
 repeat' (first | rfl | exact Jjb | (refine Kh ?_) | (refine Fl fun _=>?_) | split)
theorem Q94{S:St}{cur:Y4}{op:Op}{k:AV→Option R}:Qs4 Y S cur op k=(Qs4 Y S cur op some).bind k:=by
 unfold Qs4
 repeat' (first | rfl | (refine Kh ?_) | (refine Fl fun _=>?_) | (refine Qpc fun _=>?_) | split)
theorem Qta{S:St}{cur:Y4}{op:Op}{k:AV→Option R}:Qho Y S cur op k=(Qho Y S cur op some).bind k:=by
 grind [Qho,Q4f,Q94]
theorem Q4g{A:Type}{S:St}{cur:Y4}{op:Op}{f:AV→Option R}{g:AV→Option A}{k:A→Option R}(h:∀y,f y=(g y).bind k):Qho Y S cur op f=(Qho Y S cur op g).bind k:=by
 rw[Qta (k:=f),Qta (k:=g),Option.bind_assoc]
 exact congrArg _ (funext h)
theorem Qpe{o:Oper}{S:XS}{k:XS→Option R}:Qfx Y n o S k=(Qfx Y n o S some).bind k:=by
 unfold Qfx
 repeat' (first | rfl | (refine Kh ?_) | (refine Fl fun _=>?_) | (refine Q4g fun _=>?_) | split)
theorem Q95{o:Oper}{S:XS}{k:XS→Option R}:Qs9 Y n o S k=(Qs9 Y n o S some).bind k:=by
 unfold Qs9
 repeat' (first | rfl | (refine Kh ?_) | (refine Fl fun _=>?_) | (refine Qpd fun _=>?_) | split)
theorem Qtb{o:Oper}{S:XS}{k:XS→Option R}:Qll Y n o S k=(Qll Y n o S some).bind k:=by
 grind [Qll,Qpe,Q95]
theorem Qv6{c:Con}{o:Oper}{S:XS}{k:XS→Option R}:Zl n c o S k=(Zl n c o S some).bind k:=by
 unfold Zl Zl.callE Zl.callR
 repeat' (first | rfl | (refine Kh ?_) | (refine Fl fun _=>?_) | (rw[Qnx,Qnx]) | split)
theorem Q96{o:Oper}{S:XS}{k:XS→Option R}:Qe3 Y n o S k=(Qe3 Y n o S some).bind k:=by
 unfold Qe3 Ji9 Q4b
 repeat' (first | rfl | exact Qpe | (refine Kh ?_) | (refine Fl fun _=>?_) | split)
theorem Q97{t:Nat}{want:Bool}{o:Oper}{S:XS}{k:XS→Option R}:Qhq Y n t want o S k=(Qhq Y n t want o S some).bind k:=by
 unfold Qhq
 grind
theorem Q98{o:Oper}{S:XS}{k:XS→Option R}:Qbw n o S k=(Qbw n o S some).bind k:=by
 unfold Qbw
 grind
theorem Q99{ops:List Oper}{o:Oper}{S:XS}{k:XS→Option R}:Qhr Y n ops o S k=(Qhr Y n ops o S some).bind k:=by
 grind [Qhr,Qtb,Q97]
theorem Jaa{ops:List Oper}{o:Oper}{S:XS}{k:XS→Option R}:stepL Y n ops o S k=(stepL Y n ops o S some).bind k:=by
 grind [stepL,Qtb,Q98]
theorem Qpf{st:{R:Type}→Oper→XS→(XS→Option R)→Option R}(zj:∀{R A:Type} (o:Oper) (S:XS) (f:XS→Option R) (g:XS→Option A) (k:A→Option R),(∀S',f S'=(g S').bind k)→st o S f=(st o S g).bind k) :
  ∀{A:Type} {k:A→Option R} {l:List Oper} {S:XS} {f:XS→Option R} {g:XS→Option A},(∀S',f S'=(g S').bind k)→Qmm st l S f=(Qmm st l S g).bind k
 | A,k,[],S,f,g,h=>h S
 | A,k,o::l,S,f,g,h=>by
  simp only[Qmm]
  exact zj o S _ _ k fun S'=>Qpf zj h
theorem Jjc{A:Type}{st:{R:Type}→Oper→XS→(XS→Option R)→Option R}{o:Oper}{S:XS}(h:∀{R:Type} {k:XS→Option R},st o S k=(st o S some).bind k){f:XS→Option R}{g:XS→Option A}{k:A→Option R}(h2:∀S',f S'=(g S').bind k):st o S f=(st o S g).bind k:=by
 rw[h (k:=f),h (k:=g),Option.bind_assoc]
 exact congrArg _ (funext h2)
end
theorem Ki{Y:TX}{K:List Con}{n:Nat}{ops:List Oper}:∀{R A:Type} {h:Hn} {l:List Oper} {S:XS} {f:XS→Option R} {g:XS→Option A} {k:A→Option R},(∀S',f S'=(g S').bind k)→Yt Y K n ops h l S f=(Yt Y K n ops h l S g).bind k
 | R,A,.done,l,S,f,g,k,hk=>by
  simp only[Yt]
  grind
 | R,A,.n m r,l,S,f,g,k,hk=>by
  simp only[Yt]
  exact Qpf (st:=fun {R}=>Qhr Y n ops) (fun o S f g k h=>Jjc (st:=fun {R}=>Qhr Y n ops) Q99 h) fun S'=>Ki hk
 | R,A,.nl m r,l,S,f,g,k,hk=>by
  simp only[Yt]
  exact Qpf (st:=fun {R}=>stepL Y n ops) (fun o S f g k h=>Jjc (st:=fun {R}=>stepL Y n ops) Jaa h) fun S'=>Ki hk
 | R,A,.call c r,l,S,f,g,k,hk=>by
  simp only[Yt]
  have hc:∀{con:Con} {o:Oper} {l':List Oper},Zl n con o S (fun S'=>Yt Y K n ops r l' S' f)=(Zl n con o S (fun S'=>Yt Y K n ops r l' S' g)).bind k:=fun {con o l'}=>Jjc (st:=fun {R}=>Zl n con) Qv6 fun S'=>Ki hk
  repeat' (first | rfl | exact hc | split)
 | R,A,.br r,l,S,f,g,k,hk=>by
  simp only[Yt]
  have hc:∀{o:Oper} {l':List Oper},Qe3 Y n o S (fun S'=>Yt Y K n ops r l' S' f)=(Qe3 Y n o S (fun S'=>Yt Y K n ops r l' S' g)).bind k:=fun {o l'}=>Jjc (st:=fun {R}=>Qe3 Y n) Q96 fun S'=>Ki hk
  repeat' (first | rfl | exact hc | split)
 | R,A,.fz id r,l,S,f,g,k,hk=>by
  simp only[Yt]
  exact Ki hk
 | R,A,.keep ts r,l,S,f,g,k,hk=>by
  simp only[Yt]
  exact Ki hk
 | R,A,.op src id d r,l,S,f,g,k,hk=>by
  simp only[Yt]
  unfold Qzb Jk0
  repeat' (first | rfl | exact Ki hk | (refine Kh ?_) | split)
 | R,A,.cl id r,l,S,f,g,k,hk=>by
  simp only[Yt]
  unfold Qo8
  repeat' (first | rfl | exact Ki hk | (refine Kh ?_) | split)
 | R,A,.fm id r,l,S,f,g,k,hk=>by
  simp only[Yt]
  unfold Qza
  repeat' (first | rfl | exact Ki hk | (refine Kh ?_) | split)
 | R,A,.sp t m ks ms Γ a b r,l,S,f,g,k,hk=>by
  simp only[Yt]
  split
  ·exact Kh (Fl fun _=>Ki hk)
  ·rfl
 | R,A,.si t i a b,l,S,f,g,k,hk=>by
  simp only[Yt]
  split
  ·refine Kh ?_
   split
   ·exact Ki hk
   ·exact Ki hk
  ·rfl
 | R,A,.md _ _,l,S,f,g,k,hk=>by simp_all [Yt]
 | R,A,.tl _,l,S,f,g,k,hk=>by simp_all [Yt]
 | R,A,.dt _ _,l,S,f,g,k,hk=>by simp_all [Yt]
 | R,A,.so _ _ _,l,S,f,g,k,hk=>by simp_all [Yt]
theorem Qpg{Y:TX}{K:List Con}{n:Nat}{ops:List Oper}{R:Type}{r:R}{h:Hn}{l:List Oper}{S:XS}{k:XS→Option R}(hs:Yt Y K n ops h l S k=some r):∃S1,k S1=some r∧Yt (R:=XS) Y K n ops h l S some=some S1:=by
 have e:=Ki (Y:=Y) (K:=K) (n:=n) (ops:=ops) (h:=h) (l:=l) (S:=S) (f:=k) (g:=some) (k:=k) fun S'=>rfl
 rw[e]at hs
 grind [Option.bind_eq_some_iff]
end Gx

/- States, and what becomes of them: new objects, other names. -/
namespace Gd
open Go Go.RowKit
section
variable {β:Nat→Nat} {X:Cx} {G:GL} {D:List DF} {H:HL} {O:List TL} {a:Act} {w w':World}
def Gk(t t':TL):Prop:=(∀g,t'.blks g↔t.blks g)∧(∀b o,t'.cov b o↔t.cov b o)∧∀ok w,t.p ok w→t'.p ok w
inductive Xj:List TL→List TL→Prop
 | nil:Xj [] []
 | cons {t t':TL} {l l':List TL} (h:Gk t t') (r:Xj l l'):Xj (t::l) (t'::l')
theorem Gk.refl(t:TL):Gk t t:=⟨fun _=>Iff.rfl,fun _ _=>Iff.rfl,fun _ _ h=>h⟩
theorem Xj.refl:∀l:List TL,Xj l l
 | []=>.nil
 | t::l=>.cons (Gk.refl t) (Xj.refl l)
theorem Xj.mem{l l':List TL}(h:Xj l l'):∀t'∈l',∃t∈l,Gk t t':=by
 induction h with
 | nil=>simp
 | cons h r ih =>
  grind
theorem Xj.pw{l l':List TL}(h:Xj l l')(hp:l.Pairwise fun s t=>∀g,s.blks g→¬ t.blks g):l'.Pairwise fun s t=>∀g,s.blks g→¬ t.blks g:=by
 induction h with
 | nil=>exact .nil
 | cons h r ih =>
  have:=List.pairwise_cons.1 hp
  refine List.pairwise_cons.2 ⟨fun u hu g hg y9=>?_,ih this.2⟩
  obtain⟨t,ht,hs⟩:=r.mem u hu
  exact this.1 t ht g ((h.1 g).1 hg) ((hs.1 g).1 y9)
theorem Xj.append{l l' m m':List TL}(h:Xj l l')(k:Xj m m'):Xj (l++m) (l'++m'):=by
 induction h with
 | nil=>exact k
 | cons h _ ih=>exact .cons h ih
theorem Xj.ok{l l':List TL}(h:Xj l l'){ok0:Ok}{B:Nat}:∀b o,Jh ok0 B β H l w b o→Jh ok0 B β H l' w b o:=by
 rintro b o ⟨h1,h2,h3,h4⟩
 refine⟨h1,h2,h3,fun u hu hc=>?_⟩
 obtain⟨t,ht,hs⟩:=h.mem u hu
 exact h4 t ht ((hs.2.1 b o).1 hc)
theorem Sb.simO{O':List TL}(h:Sb β X G D H O a w)(hs:Xj O O'):Sb β X G D H O' a w :=
 { sz:=h.sz,df:=h.df,fr:=h.fr,pn:=h.pn,tm:=h.tm,bel:=h.bel,dat:=h.dat.weak hs.ok,obj:=h.obj,own:=fun u hu=>let⟨t,ht,zj⟩:=hs.mem u hu; ⟨u.weak (zj.2.2 _ _ (h.own t ht).1) hs.ok,fun g hg=>(h.own t ht).2 g ((zj.1 g).1 hg)⟩,dHH:=h.dHH,dHO:=fun p hp u hu hg=>let⟨t,ht,zj⟩:=hs.mem u hu; h.dHO p hp t ht ((zj.1 _).1 hg),dOO:=hs.pw h.dOO }
theorem Sb.subO{O':List TL}(h:Sb β X G D H O a w)(hs:O'.Sublist O):Sb β X G D H O' a w:=by
 have kn:∀b o,Jh X.ok X.w.heap.size β H O w b o→Jh X.ok X.w.heap.size β H O' w b o:=fun b o ⟨h1,h2,h3,h4⟩=>⟨h1,h2,h3,fun u hu=>h4 u (hs.subset hu)⟩
 exact { sz:=h.sz,df:=h.df,fr:=h.fr,pn:=h.pn,tm:=h.tm,bel:=h.bel,dat:=h.dat.weak kn,obj:=h.obj,own:=fun u hu=>⟨u.weak (h.own u (hs.subset hu)).1 kn,(h.own u (hs.subset hu)).2⟩,dHH:=h.dHH,dHO:=fun p hp u hu=>h.dHO p hp u (hs.subset hu),dOO:=h.dOO.sublist hs }
theorem Qdx{O1 O1' O2:List TL}{L:List Nat}(h:Sb β X G D [] (O1++O2) a w)(_:w.heap.size≤w'.heap.size)(hL:∀g∈L,∃t∈O1,t.blks g) :
  ∀b o,Jh (okL L (Jh X.ok X.w.heap.size β [] (O1++O2) w)) w.heap.size β [] O1' w' b o→Jh X.ok X.w.heap.size β [] (O1'++O2) w' b o:=by
 rintro b o ⟨h1,h2,_,h4⟩
 have hO2:∀u∈O2,¬ u.cov b o→∀v∈O1'++O2,v=u→¬ v.cov b o:=fun u _ hn v _ e=>e▸hn
 have fin:(X.ok b o∨X.w.heap.size≤b)→(∀u∈O2,¬ u.cov b o)→Jh X.ok X.w.heap.size β [] (O1'++O2) w' b o:=by
  intro h5 h6
  refine⟨h5,h2,by simp,fun u hu=>?_⟩
  grind
 rcases h1 with(h1 | h1) | h1
 ·exact fin h1.1 fun u hu=>h1.2.2.2 u (by simp[hu])
 ·obtain⟨t,ht,hg⟩:=hL b h1
  have hm:=(h.own t (by simp[ht])).2 b hg
  refine fin (X.mine_ok hm o) fun u hu hc=>?_
  exact(QF.1 h.dOO).2.2 t ht u hu b hg (u.cb hc)
 ·refine fin (.inr (Nat.le_trans h.bel.size h1)) fun u hu hc=>?_
  have:=h.olt (t:=u) (by simp[hu]) (u.cb hc)
  omega
theorem Sb.callO{O1 O1' O2:List TL}{L:List Nat}(h:Sb β X G D [] (O1++O2) a w)(hb:Uv L w.heap.size w w')(hL:∀g∈L,∃t∈O1,t.blks g)(wt:∀t∈O1,∀b o,t.blks b→t.cov b o)
  (hp:∀t∈O1',t.p (Jh (okL L (Jh X.ok X.w.heap.size β [] (O1++O2) w)) w.heap.size β [] O1' w') w'∧∀g,t.blks g→w.heap.size≤g∨g∈L) (hd:O1'.Pairwise fun s t=>∀g,s.blks g→¬ t.blks g) :
  Sb β X G D [] (O1'++O2) a w':=by
 have xu:=QF.1 h.dOO
 have zm:∀b,b<w.heap.size→(∀t∈O1,¬ t.blks b)→w'.heap[b]?=w.heap[b]?:=fun b yu hn=>hb.block b yu fun hm=>by grind
 have kq:Evo (Jh X.ok X.w.heap.size β [] (O1++O2) w) w w':=Evo.of_blocks hb.size fun b o hk=>zm b hk.2.1 fun t ht hg=>hk.2.2.2 t (by simp[ht]) (wt t ht b o hg)
 have kn:∀b o,Jh X.ok X.w.heap.size β [] (O1++O2) w b o→Jh X.ok X.w.heap.size β [] (O1'++O2) w' b o:=by
  rintro b o ⟨h1,h2,h3,h4⟩
  refine⟨h1,QC h2 hb.size,h3,fun u hu hc=>?_⟩
  rcases QX.1 hu with hu | hu
  ·rcases(hp u hu).2 b (u.cb hc)with hg | hg
   ·omega
   ·obtain⟨t,ht,hg⟩:=hL b hg
    exact h4 t (by simp[ht]) (wt t ht b o hg)
  grind
 have zg:∀t∈O1',∀g,t.blks g→X.mine g:=by
  intro t ht g hg
  rcases(hp t ht).2 g hg with h1 | h1
  ·exact .inl (Nat.le_trans h.bel.size h1)
  ·obtain⟨u,hu,hg⟩:=hL g h1
   exact(h.own u (by simp[hu])).2 g hg
 have hO2:∀u∈O2,∀g,u.blks g→w'.heap[g]?=w.heap[g]?:=fun u hu g hg=>zm g (h.olt (by simp[hu]) hg) fun t ht y9=>xu.2.2 t ht u hu g y9 hg
 refine { sz:=h.sz,df:=h.df,fr:=h.fr,pn:=h.pn,tm:=h.tm,bel:=?_,dat:=(h.dat.evo kq).weak kn,obj:=by simp,own:=?_,dHH:=by simp,dHO:=by simp,dOO:=?_ }
 ·refine h.bel.trans ⟨hb.os,hb.tape,hb.output,hb.size,fun k hk hn=>zm k (QC hk h.bel.size) fun t ht hg=>?_⟩
  exact((h.own t (by simp[ht])).2 k hg).elim (fun h=>by omega) hn
 ·intro u hu
  rcases QX.1 hu with hu | hu
  ·exact⟨u.weak (hp u hu).1 (Qdx h hb.size hL),zg u hu⟩
  ·have:=h.own u (by simp[hu]:u∈O1++O2)
   exact⟨u.weak (u.keep this.1 (hO2 u hu) kq) kn,this.2⟩
 ·refine QF.2 ⟨hd,xu.2.1,fun t ht u hu g hg y9=>?_⟩
  rcases(hp t ht).2 g hg with h1 | h1
  ·have:=h.olt (t:=u) (by simp[hu]) y9; omega
  grind
end
end Gd
namespace Gx
open Go Go.RowKit Gd
set_option linter.unusedVariables false
set_option linter.unusedSimpArgs false
def upd{α:Type}(f:Nat→α)(d:Nat)(v:α):Nat→α:=fun i=>if i=d then v else f i
theorem Je{α:Type}(f:Nat→α)(d:Nat)(v:α):upd f d v d=v:=by simp[upd]
theorem Bt{α:Type}(f:Nat→α){d i:Nat}(v:α)(h:i≠d):upd f d v i=f i:=by simp[upd,h]
def Qhw(d:Nat)(β β':Nat→Nat)(ρ ρ':Nat→Value):Prop:=∀i,i≠d→β' i=β i∧ρ' i=ρ i
theorem Qju(d:Nat)(β:Nat→Nat)(ρ:Nat→Value)(g:Nat)(v:Value):Qhw d β (upd β d g) ρ (upd ρ d v):=fun i h=>⟨Bt _ _ h,Bt _ _ h⟩
theorem neB{a b:Nat}(h:(!Nat.beq a b)=true):a≠b:=by
 grind [Nat.beq_refl]
section
variable {β β':Nat→Nat} {ρ ρ':Nat→Value} {ok:Ok} {w:World} {d:Nat}
theorem Gl(ha:Qhw d β β' ρ ρ'):∀{m:Bool} {x:AV} {cs:List Value},Uz d x=true→cr β ρ ok w m x cs→cr β' ρ' ok w m x cs
 | m,.d t x,cs,_,h=>by cases m<;>exact h
 | m,.p id path,cs,hn,h=>by
  have:=(ha id (neB (by grind [Uz]))).1
  cases m<;>(grind [cr])
 | m,.e id path,cs,hn,h=>by
  have:=(ha id (neB (by grind [Uz]))).2
  cases m<;>(grind [cr])
 | m,.s id,cs,hn,h=>by
  have:=(ha id (neB (by grind [Uz]))).2
  cases m<;>(grind [cr])
 | m,.m id,cs,hn,h=>by
  have:=(ha id (neB (by grind [Uz]))).1
  cases m<;>(grind [cr])
 | m,.b id,cs,hn,h=>by
  have:=(ha id (neB (by grind [Uz]))).1
  cases m<;>(grind [cr])
 | m,.w id _ _,cs,hn,h=>by
  have:=(ha id (neB (by grind [Uz]))).1
  cases m<;>(grind [cr])
 | m,.a t x,cs,_,h=>by cases m<;>exact h
 | m,.z,cs,_,h=>by cases m<;>exact h
 | m,.ns,cs,_,h=>by cases m<;>exact h
 | m,.np,cs,_,h=>by cases m<;>exact h
 | m,.nm,cs,_,h=>by cases m<;>exact h
 | m,.nf,cs,_,h=>by cases m<;>exact h
 | m,.f fn caps,cs,hn,h=>by cases m<;>exact let⟨vs,h1,h2⟩:=h; ⟨vs,h1,Gl ha (by grind [Uz]) h2⟩
 | m,.ag l,cs,hn,h=>by cases m<;>exact Gl ha (m:=false) (x:=l) (by grind [Uz]) h
 | m,.tp l,cs,hn,h=>by cases m<;>exact let⟨vs,h1,h2⟩:=h; ⟨vs,h1,Gl ha (by grind [Uz]) h2⟩
 | m,.nil,cs,_,h=>by cases m<;>exact h
 | true,.cons x r,cs,hn,h=>by
  simp only[Uz,QQ]at hn
  exact let⟨c1,vs,h1,h2,h3⟩:=h; ⟨c1,vs,h1,Gl ha hn.1 h2,Gl ha hn.2 h3⟩
 | false,.cons x r,cs,hn,h=>by
  simp only[Uz,QQ]at hn
  exact let⟨c1,vs,h1,h2,h3⟩:=h; ⟨c1,vs,h1,Gl ha hn.1 h2,Gl ha hn.2 h3⟩
def Jpf(d:Nat):Ob→Prop
 | .var _ c=>Uz d c=true
 | .mapC _ _ _ (some q)=>q.2≠d
 | _=>True
theorem Bu:∀{M:List (Nat×Ob)},J7 d M=true→∀q∈M,q.1≠d∧Jpf d q.2
 | [],_,q,hq=>by cases hq
 | (k,o)::l,h,q,hq=>by
  cases o with
  | var t c =>
   simp only[J7,QQ]at h
   rcases QJ.1 hq with rfl | hq
   ·exact⟨neB h.1.1,h.1.2⟩
   ·exact Bu h.2 q hq
  | mapC k1 v xs hole =>
   cases hole with
   | none =>
    simp only[J7,QQ]at h
    rcases QJ.1 hq with rfl | hq
    ·exact⟨neB h.1,trivial⟩
    ·exact Bu h.2 q hq
   | some q0 =>
    simp only[J7,QQ]at h
    rcases QJ.1 hq with rfl | hq
    ·exact⟨neB h.1.1,neB h.1.2⟩
    ·exact Bu h.2 q hq
  | _ =>
   simp only[J7,QQ]at h
   rcases QJ.1 hq with rfl | hq
   ·exact⟨neB h.1,trivial⟩
   ·exact Bu h.2 q hq
theorem Su(ha:Qhw d β β' ρ ρ'):∀{M:List (Nat×Ob)},J7 d M=true→Xj (Qi β ρ M) (Qi β' ρ' M)
 | [],_=>.nil
 | (k,o)::l,h=>by
  have hq:=Bu h (k,o) (.head _)
  have hl:J7 d l=true:=by
   cases o with
   | mapC k1 v xs hole=>cases hole<;>simp only[J7,QQ]at h<;>exact h.2
   | _=>simp_all [J7,QQ]
  refine .cons ?_ (Su ha hl)
  obtain⟨h1,h2⟩:=ha k hq.1
  cases o with
  | var t c =>
   refine⟨fun g=>by grind [Q0,Qou],fun b o=>by grind [Q0,Qou],fun ok w hp=>?_⟩
   obtain⟨cs,hh,hc⟩:=hp
   exact⟨cs,by rw[h1]; exact hh,Gl ha hq.2 hc⟩
  | row e t xs=>grind [Q0,Gk.refl]
  | tail e t xs=>grind [Q0,Gk.refl]
  | map k v xs=>grind [Q0,Gk.refl]
  | mapC k1 v xs hole =>
   have hv:Lf β' ρ' v hole=Lf β ρ v hole:=by
    cases hole with
    | none=>rfl
    | some q=>cases v<;>simp only[Lf,(ha q.2 hq.2).1,(ha q.2 hq.2).2]
   grind [Q0,Gk.refl]
theorem Jjd{a:Act}(ha:Qhw d β β' ρ ρ'){e:En}(hn:Uz d e.av=true)(h:(enD β ρ a e).p ok w):(enD β' ρ' a e).p ok w :=
 ⟨fun hc=>let⟨cs,h1,h2⟩:=h.1 hc; ⟨cs,h1,Gl ha hn h2⟩,h.2⟩
theorem Qfz{l:List En}{e:En}(h:e∈Vq d l):e∈l∧Uz d e.av=true:=by
 induction l with
 | nil=>cases h
 | cons x l ih =>
  simp only[Vq]at h
  grind
theorem Qph{l:List En}(h:Qhp d l=true):∀e∈l,Uz d e.av=true:=by
 induction l with
 | nil=>grind
 | cons x l ih =>
  simp only[Qhp,QQ]at h
  intro e he
  rcases QJ.1 he with rfl | he
  ·exact h.1
  ·exact ih h.2 e he
end
section
variable {X:Cx} {β β':Nat→Nat} {ρ ρ':Nat→Value} {S:St} {a:Act} {w w':World} {d:Nat}
theorem Rel.off(h:Rel X β ρ S a w)(ha:Qhw d β β' ρ ρ')(hf:J7 d S.mem=true){env':List En}(he:∀e∈env',e∈S.env∧Uz d e.av=true):Rel X β' ρ' ⟨env',S.mem⟩ a w:=by
 have h1:=Sb.simO h (Su ha hf)
 refine { h1 with dat:=Yc.2 fun x hx=>?_ }
 obtain⟨e,hm,rfl⟩:=QZ.1 hx
 obtain⟨h2,h3⟩:=he e hm
 exact Jjd ha h3 ((enD β ρ a e).weak (h.en h2) (Su ha hf).ok)
theorem Rel.ofSb{G:GL}{D:List DF}{O:List TL}(h:Sb (fun _=>0) X G D [] O a w){mem:List (Nat×Ob)}(hO:O=Qi β ρ mem){env:List En}
  (he:∀e∈env,(enD β ρ a e).p (okR X β ρ mem w) w):Rel X β ρ ⟨env,mem⟩ a w:=by
 subst hO
 exact { h with tm:=by simp,dat:=Yc.2 fun x hx=>by grind }
theorem Rel.alloc(h:Rel X β ρ S a w)(ha:Qhw d β β' ρ ρ')(hf:J7 d S.mem=true){env':List En}(he:∀e∈env',e∈S.env∧Uz d e.av=true)(hb:Below w.heap.size w w'){o:Ob}
  (ht:∀g,(Q0 β' ρ' d o).blks g→w.heap.size≤g) (hq:(Q0 β' ρ' d o).p (okR X β' ρ' ((d,o)::S.mem) w') w'):Rel X β' ρ' ⟨env',(d,o)::S.mem⟩ a w' :=
 Sb.allocTL (h.off ha hf he) hb ht hq
end
end Gx
