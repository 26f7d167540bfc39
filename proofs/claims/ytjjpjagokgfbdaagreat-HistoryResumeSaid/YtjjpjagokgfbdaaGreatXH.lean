/- Shapes of states; the interpreter. -/
import Derived.Test.YtjjpjagokgfbdaaGreatXE
import Derived.StillTail
import Derived.Test.YtjjpjagokgfbdaaGreatGCore
namespace Gx
open Go Go.RowKit Gd
set_option linter.unusedVariables false
set_option linter.unusedSimpArgs false
inductive Sk where
 | d (t:Ty)
 | p (id:Nat) (path:List PS)
 | s (id:Nat) | m (id:Nat)
 | ns | np | nm | nf | z
 | f (fn:FuncId) (caps:Sk)
 | ag (l:Sk) | nil | cons (x r:Sk)
inductive SkO where
 | var (tid:TypeId) (c:Sk)
 | row (e:TypeId) (t:Ty)
 | tail (e:TypeId) (t:Ty)
 | map (k v:Ty)
 | mapC (k:Ty) (c:CK)
structure Shp where
 env:List (Nat×Sk)
 mem:List (Nat×SkO)
abbrev DV:=Σ t:Ty,t.De
def Sk.tys:Sk→List Ty
 | .d t=>[t]
 | .f _ c=>c.tys
 | .ag l=>l.tys
 | .cons x r=>x.tys++r.tys
 | _=>[]
def SkO.tys:SkO→List Ty
 | .var _ c=>c.tys
 | .row _ t=>[.sl t]
 | .tail _ t=>[.sl t]
 | .map k v=>[.sl (.pr k v)]
 | .mapC k c=>[.sl (.pr k c.ty)]
def Jfp:List (Nat×Sk)→List Ty
 | []=>[]
 | q::l=>q.2.tys++Jfp l
def Jfq:List (Nat×SkO)→List Ty
 | []=>[]
 | q::l=>q.2.tys++Jfq l
def Shp.tys(Γ:Shp):List Ty:=Jfp Γ.env++Jfq Γ.mem
@[reducible] def Tup:List Ty→Type
 | []=>Unit
 | [t]=>t.De
 | t::u::ts=>t.De×Tup (u::ts)
abbrev Shp.De(Γ:Shp):Type:=Tup Γ.tys
def toL:(ts:List Ty)→Tup ts→List DV
 | [],_=>[]
 | [t],x=>[⟨t,x⟩]
 | t::u::ts,x=>⟨t,x.1⟩::toL (u::ts) x.2
def ofL:(ts:List Ty)→List DV→Option (Tup ts)
 | [],[]=>some ()
 | [t],[v]=>Ty.cast v.1 t v.2
 | t::u::ts,v::vs=>match Ty.cast v.1 t v.2,ofL (u::ts) vs with
  | some a,some b=>some (a,b)
  | _,_=>none
 | _,_=>none
def L6:Sk→List DV→AV×List DV
 | .d t,v::vs=>(.d v.1 v.2,vs)
 | .d _,[]=>(.nil,[])
 | .p id path,vs=>(.p id path,vs)
 | .s id,vs=>(.s id,vs)
 | .m id,vs=>(.m id,vs)
 | .ns,vs=>(.ns,vs)
 | .np,vs=>(.np,vs)
 | .nm,vs=>(.nm,vs)
 | .nf,vs=>(.nf,vs)
 | .z,vs=>(.z,vs)
 | .f fn c,vs=>match L6 c vs with
  | (x,r)=>(.f fn x,r)
 | .ag l,vs=>match L6 l vs with
  | (x,r)=>(.ag x,r)
 | .nil,vs=>(.nil,vs)
 | .cons a b,vs=>match L6 a vs with
  | (x,r)=>match L6 b r with
   | (y,r')=>(.cons x y,r')
def Ib:SkO→List DV→Option (Ob×List DV)
 | .var tid c,vs=>match L6 c vs with
  | (x,r)=>some (.var tid x,r)
 | .row e t,v::vs=>match Ty.cast v.1 (.sl t) v.2 with
  | some xs=>some (.row e t xs,vs)
  | none=>none
 | .tail e t,v::vs=>match Ty.cast v.1 (.sl t) v.2 with
  | some xs=>some (.tail e t xs,vs)
  | none=>none
 | .map k u,v::vs=>match Ty.cast v.1 (.sl (.pr k u)) v.2 with
  | some xs=>some (.map k u xs,vs)
  | none=>none
 | .mapC k c,v::vs=>match Ty.cast v.1 (.sl (.pr k c.ty)) v.2 with
  | some xs=>some (.mapC k c xs none,vs)
  | none=>none
 | _,[]=>none
def Ic:List (Nat×Sk)→List DV→List En×List DV
 | [],vs=>([],vs)
 | (t,s)::l,vs=>match L6 s vs with
  | (x,r)=>match Ic l r with
   | (es,r')=>(⟨t,[],x⟩::es,r')
def U3:List (Nat×SkO)→List DV→List (Nat×Ob)
 | [],_=>[]
 | (t,s)::l,vs=>match Ib s vs with
  | some (x,r)=>(t,x)::U3 l r
  | none=>[]
structure XS where
 env:List En
 fix:List En
 mem:List (Nat×Ob)
 fixM:List (Nat×Ob)
 prot:List Nat
def XS.flat(S:XS):St:=⟨S.env++S.fix,S.mem++S.fixM⟩
abbrev XS.ev(S:XS)(cur:Va)(x:Operand):Option AV:=Gx.ev S.flat cur x
def enc(Γ:Shp)(x:Γ.De):St:=match Ic Γ.env (toL Γ.tys x)with
 | (es,r)=>⟨es,U3 Γ.mem r⟩
def PS.beq:PS→PS→Bool
 | .f k o,.f k' o'=>Nat.beq k k'&&Nat.beq o o'
 | _,_=>false
def Qw7:List PS→List PS→Bool
 | [],[]=>true
 | a::l,b::m=>PS.beq a b&&Qw7 l m
 | _,_=>false
def isNone{α:Type}:Option α→Bool
 | none=>true
 | some _=>false
def CK.beq:CK→CK→Bool
 | .sl e u,.sl e' u'=>Nat.beq e e'&&Ty.beq u u'
 | .mp k v,.mp k' v'=>Ty.beq k k'&&Ty.beq v v'
 | _,_=>false
def Jbb:Sk→AV→List (Nat×Nat)
 | .s id,.s c=>[(id,c)]
 | .p id _,.p c _=>[(id,c)]
 | .m id,.m c=>[(id,c)]
 | .f _ x,.f _ y=>Jbb x y
 | .ag l,x=>match Tv x with
  | some y=>Jbb l y
  | none=>[]
 | .cons a b,.cons x y=>Jbb a x++Jbb b y
 | _,_=>[]
def Q8d(env:List En):List (Nat×Sk)→List (Nat×Nat)
 | []=>[]
 | (t,s)::l=>match Kl env t with
  | some e=>Jbb s e.av++Q8d env l
  | none=>Q8d env l
def Qt6(M:List (Nat×Ob)):List (Nat×SkO)→List (Nat×Nat)→List (Nat×Nat)
 | [],ri=>ri
 | (id,.var _ c)::l,ri=>match Jq ri id with
  | some i=>match Qe M i with
   | some (.var _ x)=>Qt6 M l (ri++Jbb c x)
   | _=>Qt6 M l ri
  | none=>Qt6 M l ri
 | _::l,ri=>Qt6 M l ri
def Jme(Γ:Shp)(S:St):List (Nat×Nat):=Qt6 S.mem Γ.mem (Q8d S.env Γ.env)
def Yb:List Nat→Nat→Bool
 | [],_=>false
 | k::l,t=>Nat.beq k t||Yb l t
def Qt7:AV→List Nat
 | .s id=>[id]
 | .ag l=>Qt7 l
 | .cons x r=>Qt7 x++Qt7 r
 | _=>[]
def Jbc:Sk→AV→List Nat
 | .d _,x=>Qt7 x
 | .f _ a,.f _ x=>Jbc a x
 | .ag l,x=>match Tv x with
  | some y=>Jbc l y
  | none=>[]
 | .cons a b,.cons x y=>Jbc a x++Jbc b y
 | _,_=>[]
def Jfr(env:List En):List (Nat×Sk)→List Nat
 | []=>[]
 | (t,s)::l=>match Kl env t with
  | some e=>Jbc s e.av++Jfr env l
  | none=>Jfr env l
def Qw8(M:List (Nat×Ob))(ri:List (Nat×Nat)):List (Nat×SkO)→List Nat
 | []=>[]
 | (id,.var _ c)::l=>match Jq ri id with
  | some i=>match Qe M i with
   | some (.var _ x)=>Jbc c x++Qw8 M ri l
   | _=>Qw8 M ri l
  | none=>Qw8 M ri l
 | (id,.tail _ _)::l=>match Jq ri id with
  | some i=>i::Qw8 M ri l
  | none=>Qw8 M ri l
 | _::l=>Qw8 M ri l
def Y4(ks:List Nat):List (Nat×Ob)→List (Nat×Ob)
 | []=>[]
 | (id,.row e t xs)::l=>(bif Yb ks id&&Nat.ble 1 t.size then(id,.tail e t xs)else(id,.row e t xs))::Y4 ks l
 | q::l=>q::Y4 ks l
def Q5t(ri:List (Nat×Nat))(id c:Nat):Bool:=match Jq ri id with
 | some i=>Nat.beq i c
 | none=>false
def Sk.isL:Sk→Bool
 | .nil=>true
 | .cons _ b=>b.isL
 | _=>false
def V3(M:List (Nat×Ob))(ri:List (Nat×Nat))(pr:List Nat):Sk→AV→Option (List DV)
 | .d t,v=>match asD M v t with
  | some x=>bif t.agg==v.isAgg then some [⟨t,x⟩]else none
  | none=>none
 | .p id path,.p c path'=>bif Q5t ri id c&&Qw7 path path' then some []else none
 | .s id,.s c=>bif Q5t ri id c&&!isNone (Qe M c)then some []else none
 | .s id,.ns=>bif isNone (Jq ri id)&&!Yb pr id then some []else none
 | .m id,.m c=>bif Q5t ri id c then some []else none
 | .ns,.ns=>some []
 | .np,.np=>some []
 | .nm,.nm=>some []
 | .nf,.nf=>some []
 | .z,.z=>some []
 | .f fn c,.f fn' x=>bif Nat.beq fn fn'&&c.isL then V3 M ri pr c x else none
 | .ag l,x=>match Tv x with
  | some y=>V3 M ri pr l y
  | none=>none
 | .nil,.nil=>some []
 | .cons a b,.cons x y=>match V3 M ri pr a x,V3 M ri pr b y with
  | some u,some v=>some (u++v)
  | _,_=>none
 | _,_=>none
def Qp4(M:List (Nat×Ob))(ri:List (Nat×Nat))(pr:List Nat)(env:List En):List (Nat×Sk)→Option (List DV)
 | []=>some []
 | (t,s)::l=>match Kl env t with
  | some ⟨_,[],x⟩=>match V3 M ri pr s x,Qp4 M ri pr env l with
   | some u,some v=>some (u++v)
   | _,_=>none
  | _=>none
def Ru(M:List (Nat×Ob))(ri:List (Nat×Nat))(pr:List Nat):SkO→Option Ob→Option (List DV)
 | .var tid c,some (.var tid' x)=>bif Nat.beq tid tid' then V3 M ri pr c x else none
 | .row e t,some (.row e' t' xs)=>bif Nat.beq e e'&&Ty.beq t t' then some [⟨.sl t',xs⟩]else none
 | .row e t,none=>some [⟨.sl t,[]⟩]
 | .tail e t,some (.tail e' t' xs)=>bif Nat.beq e e'&&Ty.beq t t' then some [⟨.sl t',xs⟩]else none
 | .tail e t,none=>some [⟨.sl t,[]⟩]
 | .map k u,some (.map k' u' xs)=>bif Ty.beq k k'&&Ty.beq u u' then some [⟨.sl (.pr k' u'),xs⟩]else none
 | .mapC k c,some (.mapC k' c' xs hole)=>bif Ty.beq k k'&&CK.beq c c'&&isNone hole then some [⟨.sl (.pr k' c'.ty),xs⟩]else none
 | _,_=>none
def Q8e(M:List (Nat×Ob))(ri:List (Nat×Nat))(id:Nat):Option (Option Ob):=match Jq ri id with
 | none=>some none
 | some c=>match Qe M c with
  | some o=>some (some o)
  | none=>none
def O6(M F:List (Nat×Ob))(ri:List (Nat×Nat))(pr:List Nat):List (Nat×SkO)→Option (List DV)
 | []=>some []
 | (t,s)::l=>match Q8e M ri t with
  | some o=>match Ru (M++F) ri pr s o,O6 M F ri pr l with
   | some u,some v=>some (u++v)
   | _,_=>none
  | none=>none
def F0(ri:List (Nat×Nat)):List (Nat×SkO)→List Nat→Bool
 | [],_=>true
 | (id,_)::l,cs=>match Jq ri id with
  | some c=>!Yb cs c&&F0 ri l (c::cs)
  | none=>F0 ri l cs
def Jfs:List (Nat×SkO)→List Nat→Bool
 | [],_=>true
 | (id,_)::l,cs=>!Yb cs id&&Jfs l (id::cs)
def frz(Γ:Shp)(ri:List (Nat×Nat))(env:List En)(M:List (Nat×Ob)):List (Nat×Ob):=Y4 (Jfr env Γ.env++Qw8 M ri Γ.mem) M
def Q8f(ri:List (Nat×Nat))(pr:List Nat):List (Nat×SkO)→Bool
 | []=>true
 | (id,_)::l=>(!Yb pr id||Q5t ri id id)&&Q8f ri pr l
def Q0r(pr:List Nat):List (Nat×Nat)→Bool
 | []=>true
 | (id,c)::l=>(!Yb pr id||Nat.beq id c)&&Q0r pr l
def Jkp(Γ:Shp)(ri:List (Nat×Nat))(pr:List Nat)(env:List En)(M F:List (Nat×Ob)):Option Γ.De :=
 bif F0 ri Γ.mem []&&Jfs Γ.mem []&&Q8f ri pr Γ.mem&&Q0r pr ri then
  match Qp4 (M++F) ri pr env Γ.env,O6 M F ri pr Γ.mem with
  | some u,some v=>ofL Γ.tys (u++v)
  | _,_=>none
 else none
def decF(Γ:Shp)(ri:List (Nat×Nat))(pr:List Nat)(env:List En)(M F:List (Nat×Ob)):Option Γ.De:=Jkp Γ ri pr env (frz Γ ri env M) F
def Jb:AV→List Nat
 | .p id _=>[id]
 | .e id _=>[id]
 | .s id=>[id]
 | .m id=>[id]
 | .b id=>[id]
 | .w id _ _=>[id]
 | .f _ c=>Jb c
 | .ag l=>Jb l
 | .tp l=>Jb l
 | .cons x r=>Jb x++Jb r
 | _=>[]
def O7:List En→List Nat
 | []=>[]
 | e::l=>Jb e.av++O7 l
def Jc:List (Nat×Ob)→List Nat
 | []=>[]
 | (id,.var _ c)::l=>id::(Jb c++Jc l)
 | (id,.mapC _ _ _ (some q))::l=>id::q.2::Jc l
 | (id,.mapE _ _ _ _ j)::l=>id::j::Jc l
 | (id,_)::l=>id::Jc l
def Jft(pr:List Nat):List (Nat×SkO)→List (Nat×Nat)
 | []=>[]
 | (id,_)::l=>bif Yb pr id then(id,id)::Jft pr l else Jft pr l
def XS.dec(S:XS)(Γ:Shp):Option Γ.De:=decF Γ (Qt6 S.mem Γ.mem (Q8d (S.env++S.fix) Γ.env++Jft (S.prot++(O7 S.fix++Jc S.fixM)) Γ.mem)) (S.prot++(O7 S.fix++Jc S.fixM)) (S.env++S.fix) S.mem S.fixM
def Qnf(env:List En):List Nat→List En
 | []=>[]
 | t::ts=>match Kl env t with
  | some e=>e::Qnf env ts
  | none=>Qnf env ts
def Jn:List (Nat×Ob)→List Nat→List (Nat×Ob)×List (Nat×Ob)
 | M,[]=>(M,[])
 | M,t::ts=>match Qe M t with
  | some o=>((Jn (Jv M t) ts).1,(t,o)::(Jn (Jv M t) ts).2)
  | none=>Jn M ts
def XS.ent(S:XS)(ks ms:List Nat):XS:=⟨S.env,Qnf S.env ks++S.fix,(Jn S.mem ms).1,(Jn S.mem ms).2++S.fixM,S.prot⟩
def XS.re(S:XS)(S1:St):XS:=⟨S1.env,S.fix,S1.mem,S.fixM,S.prot⟩
def XS.out(S:XS)(ks ms:List Nat)(S1:St):XS:=⟨S1.env++Qnf S.env ks,S.fix,S1.mem++(Jn S.mem ms).2,S.fixM,S.prot⟩
inductive Ex where
 | n | x (id:Nat) | r
def Ex.beq:Ex→Ex→Bool
 | .n,.n=>true
 | .r,.r=>true
 | .x a,.x b=>Nat.beq a b
 | _,_=>false
abbrev Exs:=List (Ex×Shp)
@[reducible] def Qb4:Exs→Type
 | []=>Empty
 | [q]=>q.2.De
 | q::r::l=>q.2.De⊕Qb4 (r::l)
def inj:(l:Exs)→Ex→XS→Option (Qb4 l)
 | [],_,_=>none
 | [q],e,S=>bif Ex.beq q.1 e then S.dec q.2 else none
 | q::r::l,e,S=>bif Ex.beq q.1 e then(match S.dec q.2 with
   | some x=>some (.inl x)
   | none=>none)else(match inj (r::l) e S with
   | some x=>some (.inr x)
   | none=>none)
def Q0s{R:Type}(S:XS)(ks ms:List Nat)(k:Ex→XS→Option R):(l:Exs)→Qb4 l→Option R
 | [],_=>none
 | [q],x=>k q.1 (S.out ks ms (enc q.2 x))
 | q::r::l,x=>match x with
  | .inl y=>k q.1 (S.out ks ms (enc q.2 y))
  | .inr z=>Q0s S ks ms k (r::l) z
def Qf{σ τ:Type}(f:σ→Option (σ⊕τ)):Nat→σ→Option τ
 | 0,_=>none
 | n+1,s=>(f s).bind fun
  | .inl s'=>Qf f n s'
  | .inr r=>some r
@[reducible] def Qb5:List Shp→Type
 | []=>Empty
 | [s]=>s.De
 | s::r::l=>s.De⊕Qb5 (r::l)
def Qcq:(l:List Shp)→Qb5 l→St
 | [],y=>nomatch y
 | [s],y=>enc s y
 | s::r::l,y=>match y with
  | .inl a=>enc s a
  | .inr b=>Qcq (r::l) b
def Jo7{R:Type}:(l:List Shp)→Qb5 l→(St→Option R)→Option R
 | [],_,_=>none
 | [s],y,k=>k (enc s y)
 | s::r::l,y,k=>match y with
  | .inl a=>k (enc s a)
  | .inr b=>Jo7 (r::l) b k
theorem Qos{R:Type}:∀(l:List Shp) (y:Qb5 l) (k:St→Option R),Jo7 l y k=k (Qcq l y)
 | [],y,_=>nomatch y
 | [_],_,_=>rfl
 | _::_::_,.inl _,_=>rfl
 | _::r::l,.inr b,k=>Qos (r::l) b k
structure Con where
 f:FuncId
 Γ:Shp
 Δ:List Shp
 fn:Γ.De→Option (Qb5 Δ)
 ro:List Nat
def Vb(Zs:List (Nat×Ob)):List Nat:=Zs.map Prod.fst
def wrM(ro:List Nat)(M:List (Nat×Ob)):List (Nat×Ob):=M.filter fun q=>!Yb ro q.1
def rdM(ro:List Nat)(M:List (Nat×Ob)):List (Nat×Ob):=M.filter fun q=>Yb ro q.1
def wrG(ro:List Nat)(M:List (Nat×SkO)):List (Nat×SkO):=M.filter fun q=>!Yb ro q.1
def rdG(ro:List Nat)(M:List (Nat×SkO)):List (Nat×SkO):=M.filter fun q=>Yb ro q.1
def roM(c:Con)(x:c.Γ.De):List (Nat×Ob):=rdM c.ro (enc c.Γ x).mem
def Qgl:Sk→AV→Bool
 | .d _,.d _ _=>true
 | .p _ _,.p _ _=>true
 | .s _,.s _=>true
 | .m _,.m _=>true
 | .ns,.ns=>true
 | .np,.np=>true
 | .nm,.nm=>true
 | .nf,.nf=>true
 | .z,.z=>true
 | .f _ c,.f _ x=>Qgl c x
 | .ag l,.ag y=>Qgl l y
 | .nil,.nil=>true
 | .cons a b,.cons x y=>Qgl a x&&Qgl b y
 | _,_=>false
def Jmf:SkO→Ob→Bool
 | .var _ c,.var _ x=>Qgl c x
 | .row _ _,.row _ _ _=>true
 | .map _ _,.map _ _ _=>true
 | _,_=>false
def Qt8(ri:List (Nat×Nat))(M:List (Nat×Ob)):List (Nat×SkO)→Bool
 | []=>true
 | (id,s)::l=>(match Jq ri id with
  | some c=>(match Qe M c with
   | some ob=>Jmf s ob
   | none=>false)
  | none=>false)&&Qt8 ri M l
def K2(g:Nat→Nat):AV→AV
 | .p id path=>.p (g id) path
 | .e id path=>.e (g id) path
 | .s id=>.s (g id)
 | .m id=>.m (g id)
 | .b id=>.b (g id)
 | .w id j n=>.w (g id) j n
 | .f fn c=>.f fn (K2 g c)
 | .ag l=>.ag (K2 g l)
 | .tp l=>.tp (K2 g l)
 | .cons x r=>.cons (K2 g x) (K2 g r)
 | x=>x
def Qig(g:Nat→Nat):Ob→Ob
 | .var tid c=>.var tid (K2 g c)
 | .mapC k c xs (some q)=>.mapC k c xs (some (q.1,g q.2))
 | .mapE k v xs key j=>.mapE k v xs key (g j)
 | o=>o
def Jo(ri:List (Nat×Nat))(d j:Nat):Nat:=match Jq ri j with
 | some c=>c
 | none=>10000+100*d+j
def Q0t(S:XS):List Operand→Nat→Option (List En)
 | [],_=>some []
 | x::l,i=>match S.ev [] x,Q0t S l (i+1)with
  | some v,some r=>bif Nat.blt i 100000 then some (⟨i,[],v⟩::r)else none
  | _,_=>none
def Jfu:AV→Nat→Option (List En)
 | .nil,_=>some []
 | .cons x r,i=>match Jfu r (i+1)with
  | some l=>bif Nat.blt i 100000 then some (⟨i,[],x⟩::l)else none
  | none=>none
 | _,_=>none
def Qt9:List En→AV
 | []=>.nil
 | e::l=>.cons e.av (Qt9 l)
def Rv(es:List En):AV:=match es with
 | [e]=>e.av
 | es=>.tp (Qt9 es)
def J4(ri:List (Nat×Nat)):List (Nat×SkO)→List Nat
 | []=>[]
 | (id,_)::l=>match Jq ri id with
  | some c=>c::J4 ri l
  | none=>J4 ri l
def Qkj:List (Nat×SkO)→Bool
 | []=>true
 | (_,.tail _ _)::_=>false
 | (_,.mapC _ _)::_=>false
 | _::l=>Qkj l
def Gb(ks:List Nat):List Nat→Bool
 | []=>true
 | i::l=>Yb ks i&&Gb ks l
def L7:List Nat→Bool
 | []=>true
 | i::l=>!Yb l i&&L7 l
def Ea{α:Type}:Option α→Bool
 | some _=>true
 | none=>false
def Km(g:Nat→Nat)(M:List (Nat×Ob)):List (Nat×Ob):=M.map fun q=>(g q.1,Qig g q.2)
inductive Src where
 | t (n:Nat)
 | v (id:Nat) (path:List PS)
inductive Hn where
 | done
 | n (m:Nat) (r:Hn)
 | nl (m:Nat) (r:Hn)
 | md (mode:Nat) (r:Hn)
 | keep (ts:List Nat) (r:Hn)
 | fz (id:Nat) (r:Hn)
 | sp (t:Nat) (m:Nat) (ks ms:List Nat) (Γ:Shp) (a b r:Hn)
 | call (c:Nat) (r:Hn)
 | tl (h:Hn)
 | so (t:Nat) (a b:Hn)
 | op (src:Src) (id d:Nat) (r:Hn)
 | cl (id:Nat) (r:Hn)
 | fm (id:Nat) (r:Hn)
 | dt (id:Nat) (r:Hn)
 | si (t:Nat) (n:Int) (a b:Hn)
 | br (r:Hn)
structure HD where
 h:Hn
 tch:List Nat
 ro:List Nat
 bs:List Nat
 nm:List Nat
inductive HT where
 | tl (h:Hn)
 | op (h:HD) (r:HT)
 | so (t:Nat) (a b:HT)
def Rw{ε σ τ:Type}(f:ε→σ→Option (σ⊕τ)):List ε→σ→Option (σ⊕τ)
 | [],s=>some (.inl s)
 | e::l,s=>match f e s with
  | some (.inl s')=>Rw f l s'
  | some (.inr x)=>some (.inr x)
  | none=>none
open Classical in
noncomputable def Q0u{ε σ τ:Type}(f:ε→σ→Option (σ⊕τ))(l:List ε)(s:σ):Option (σ⊕τ) :=
 if ∀ys:List ε,ys.Perm l→Rw f ys s=Rw f l s then Rw f l s else none
noncomputable def Qw9{ε σ τ:Type}(f:ε→σ→Option (σ⊕τ)):List ε→σ→Option (σ⊕τ)
 | [],s=>some (.inl s)
 | [e],s=>f e s
 | e::e'::l,s=>Q0u f (e::e'::l) s
inductive An where
 | nil
 | mp (h:Hn) (ks ms:List Nat) (Γ:Shp) (exs:Exs) (h3:Hn) (a:An)
 | reg (h:Hn)
 | two (a b:An)
 | un (a:An)
 | lp (ks ms:List Nat) (Γ:Shp) (exs:Exs) (a:An)
 | jn (ks ms:List Nat) (exs:Exs) (a:An)
 | dr (m:Nat) (h1 h2:Hn)
 | dc (m:Nat) (ds zs zf:List Nat) (ht:HT)
 | ch (t n:Nat) (a b:An)
 | cn (t:Nat) (a b:An)
 | gh (g:Hn) (a:An)
def Qgm(ops:List Oper)(o:Oper):Option (Option (Nat×Bool)):=match o.guard with
 | none=>some none
 | some (j,want)=>match ops[j]? with
  | some p=>match p.dst with
   | some t=>some (some (t,want))
   | none=>none
  | none=>none
def Uw(d:Nat):AV→Bool
 | .p id _=>!Nat.beq id d
 | .e id _=>!Nat.beq id d
 | .s id=>!Nat.beq id d
 | .m id=>!Nat.beq id d
 | .b id=>!Nat.beq id d
 | .w id _ _=>!Nat.beq id d
 | .f _ c=>Uw d c
 | .ag l=>Uw d l
 | .tp l=>Uw d l
 | .cons x r=>Uw d x&&Uw d r
 | _=>true
def Jt(d:Nat):List (Nat×Ob)→Bool
 | []=>true
 | (k,.var _ c)::l=>!Nat.beq k d&&Uw d c&&Jt d l
 | (k,.mapC _ _ _ (some q))::l=>!Nat.beq k d&&!Nat.beq q.2 d&&Jt d l
 | (k,.mapE _ _ _ _ j)::l=>!Nat.beq k d&&!Nat.beq j d&&Jt d l
 | (k,_)::l=>!Nat.beq k d&&Jt d l
def Yv(d:Nat):List En→List En
 | []=>[]
 | e::l=>bif Uw d e.av then e::Yv d l else Yv d l
def Nw(d:Nat):List En→Bool
 | []=>true
 | e::l=>!(Nat.beq e.t d||Rq d e.cs)&&Nw d l
def Qcr(d:Nat):List En→Bool
 | []=>true
 | e::l=>Uw d e.av&&Qcr d l
def Q8g(ri:List (Nat×Nat))(d:Nat)(Γk:List Nat)(S:XS)(M:List (Nat×Ob)):List Nat→Bool
 | []=>true
 | j::l=>(bif Ea (Jq ri j)then Yb Γk j else
   Jt (Jo ri d j) M&&Jt (Jo ri d j) S.fixM&&Qcr (Jo ri d j) S.fix&&Qcr (Jo ri d j) S.env&&!Yb S.prot (Jo ri d j)&&!Yb Γk j)&&Q8g ri d Γk S M l
def XS.put(S:XS)(d:Nat)(cs:Va)(x:AV):XS:={ S with env:=⟨d,cs,x⟩::Js S.env d }
def XS.born(S:XS)(d:Nat)(o:Ob):XS:={ S with env:=Yv d S.env,mem:=(d,o)::S.mem }
def XS.set(S:XS)(id:Nat)(o:Ob):XS:={ S with mem:=Nv S.mem id o }
def noS(d:Nat):AV→Bool
 | .e id _=>!Nat.beq id d
 | .s id=>!Nat.beq id d
 | .f _ c=>noS d c
 | .ag l=>noS d l
 | .tp l=>noS d l
 | .cons x r=>noS d x&&noS d r
 | _=>true
def Jfv(d:Nat):List En→Bool
 | []=>true
 | e::l=>noS d e.av&&Jfv d l
def Qb6(d:Nat):List (Nat×Ob)→Bool
 | []=>true
 | (k,.var _ c)::l=>!Nat.beq k d&&noS d c&&Qb6 d l
 | (k,.mapC _ _ _ (some q))::l=>!Nat.beq k d&&!Nat.beq q.2 d&&Qb6 d l
 | (k,_)::l=>!Nat.beq k d&&Qb6 d l
def XS.swap(S:XS)(id:Nat)(o:Ob):XS:={ S with mem:=(id,o)::Jv S.mem id }
def Qgn(S:XS)(id:Nat):Bool:=Jfv id S.env&&Jfv id S.fix&&Qb6 id (Jv S.mem id)&&Qb6 id S.fixM&&!Yb S.prot id
def Jr4(S:XS):Src→Option AV
 | .t n=>S.ev [] (.tmp n)
 | .v id path=>match Qe S.flat.mem id with
  | some (.var _ c)=>nav path c
  | _=>none
section
variable {R:Type} (Y:TX) (n:Nat)
def okW(S:XS)(d:Nat):Bool:=Nat.blt d n&&Nat.blt d 100000&&Nw d S.fix
def okB(S:XS)(d:Nat):Bool:=Jt d S.mem&&Jt d S.fixM&&Qcr d S.fix&&!Yb S.prot d
def asR(M:List (Nat×Ob))(xv:AV)(u:Ty):Option (List u.De):=match asD M xv (.sl u)with
 | some ys=>some ys
 | none=>match xv with
  | .s id=>match Qe M id with
   | some (.row _ t ys)=>Ty.cast (.sl t) (.sl u) ys
   | _=>none
  | _=>none
def Qgo(o:Oper)(S:XS)(k:XS→Option R):Option R :=
 match o.op,o.dst with
 | .alloc t,some d=>match Qh Y.T t,Jq Y.tys t with
  | some e,some ty=>match L5 ty e.z with
   | some c=>bif okW n S d&&okB S d&&c.isVal&&Uw d c then k ((S.born d (.var t c)).put d [] (.p d []))else none
   | none=>none
  | _,_=>none
 | .box t x,some d=>match S.ev [] x with
  | some c=>bif okW n S d&&okB S d&&c.isVal&&c.inMem&&Uw d c then k ((S.born d (.var t c)).put d [] (.p d []))else none
  | none=>none
 | .store t p x,none=>match Qh Y.T t,S.ev [] p,S.ev [] x with
  | some e,some (.p id path),some v=>match Qe S.mem id with
   | some (.var tid c)=>match Qnd path c v with
    | some c'=>bif Nat.beq e.size v.size&&v.isVal&&v.inMem then k (S.set id (.var tid c'))else none
    | none=>none
   | _=>none
  | some e,some (.e id (.i j sz::ps)),some v=>match Qe S.mem id with
   | some (.row et u xs)=>(idx xs j).bind fun y=>match Qnd ps (.d u y) v with
    | some c=>match asD S.flat.mem c u with
     | some z=>bif Nat.beq e.size v.size&&Nat.beq sz u.size&&Nat.ble 1 u.size&&v.isVal&&v.inMem then k (S.set id (.row et u (xs.set j.toNat z)))else none
     | none=>none
    | none=>none
   | _=>none
  | _,_,_=>none
 | .makeMap t rs,some d=>match Qh Y.T t with
  | some te=>match te.d with
   | .map kt et=>match Jq Y.tys kt,Jq Y.tys et with
    | some kk,some v=>bif okW n S d&&okB S d&&isNone rs then k ((S.born d (.map kk v [])).put d [] (.m d))else none
    | _,_=>none
   | _=>none
  | none=>none
 | .mapUpdate t m ky x,none=>match Qh Y.T t,S.ev [] m,S.ev [] ky,S.ev [] x with
  | some te,some (.m id),some kv,some xv=>match te.d,Qe S.mem id with
   | .map kt et,some (.map kk v xs)=>match Qh Y.T kt,asD [] kv kk,asD S.flat.mem xv v with
    | some tk,some key,some y=>bif Yu Y.T kk tk.d&&(kk.agg==kv.isAgg)&&(v.agg==xv.isAgg)then k (S.set id (.map kk v (Ya key y xs)))else none
    | _,_,_=>none
   | _,_=>none
  | _,_,_,_=>none
 | .makeSlice t l c,some d=>match Qh Y.T t,S.ev [] l,S.ev [] c with
  | some te,some lv,some cv=>match Y0 te.d,Xr lv,Xr cv with
   | some e,some (_,nl),some (_,nc)=>match Qh Y.T e,Jq Y.tys e with
    | some ee,some u=>match L5 u ee.z with
     | some za=>match asD [] za u with
      | some z=>bif okW n S d&&okB S d&&Nat.beq ee.size u.size&&Nat.beq (Qu ee.z).length ee.size&&Nat.ble 1 ee.bytes then
        (mkL ee.bytes nl nc z).bind fun zs=>k ((S.born d (.row e u zs)).put d [] (.s d))else none
      | none=>none
     | none=>none
    | _,_=>none
   | _,_,_=>none
  | _,_,_=>none
 | .buildSlice t len ⟨parts⟩,some d=>match Qh Y.T t with
  | some te=>match Y0 te.d with
   | some e=>match Qh Y.T e,Jq Y.tys e with
    | some ee,some u=>bif okW n S d&&Nat.beq ee.size u.size then(match len,parts with
     | 0,[]=>bif okB S d then k ((S.born d (.row e u [])).put d [] (.s d))else none
     | 0,_=>none
     | m+1,ps=>match Y8 S.flat [] ps with
      | some vs=>match asLs S.flat.mem u vs 0 with
       | some xs=>bif Nat.beq xs.length (m+1)&&Nat.ble ((m+1)*ee.size) 16777216&&Nat.ble 1 ee.size&&Nat.beq (Qu ee.z).length ee.size then k (S.put d [] (.d (.sl u) xs))else none
       | none=>none
      | none=>none)else none
    | _,_=>none
   | none=>none
  | none=>none
 | .call ⟨.builtin .append,⟨[s,x]⟩,⟨[t,t']⟩⟩,some d=>match Qh Y.T t,S.ev [] s,S.ev [] x with
  | some te,some sv,some xv=>match Y0 te.d with
   | some e=>match Qh Y.T e with
    | some ee=>bif okW n S d&&Nat.beq t t'&&Nat.ble 1 ee.size&&Nat.ble 1 ee.bytes&&Nat.beq (Qu ee.z).length ee.size then(match sv with
     | .ns=>match Jq Y.tys e with
      | some u=>match asR S.flat.mem xv u with
       | some ys=>bif okB S d&&Nat.beq ee.size u.size then(app ee.bytes [] ys).bind fun zs=>k ((S.born d (.row e u zs)).put d [] (.s d))else none
       | none=>none
      | none=>none
     | .z=>match Jq Y.tys e with
      | some u=>match asR S.flat.mem xv u with
       | some ys=>bif okB S d&&Nat.beq ee.size u.size then(app ee.bytes [] ys).bind fun zs=>k ((S.born d (.row e u zs)).put d [] (.s d))else none
       | none=>none
      | none=>none
     | .s id=>match Qe S.mem id with
      | some (.row e' u xs)=>match asR S.flat.mem xv u with
       | some ys=>bif okB ⟨S.env,S.fix,Jv S.mem id,S.fixM,S.prot⟩ d&&Nat.beq ee.size u.size&&Nat.beq e e' then
         (app ee.bytes xs ys).bind fun zs=>k (({ S with mem:=Jv S.mem id }.born d (.row e u zs)).put d [] (.s d))else none
       | none=>none
      | some (.tail e' u xs)=>match asD S.flat.mem xv (.sl u)with
       | some ys=>bif okB ⟨S.env,S.fix,Jv S.mem id,S.fixM,S.prot⟩ d&&Nat.beq ee.size u.size&&Nat.beq e e' then
         (app ee.bytes xs ys).bind fun zs=>k (({ S with mem:=Jv S.mem id }.born d (.tail e u zs)).put d [] (.s d))else none
       | none=>none
      | _=>none
     | _=>none)else none
    | none=>none
   | none=>none
  | _,_,_=>none
 | op,some d=>bif okW n S d then Qif Y S.flat [] op fun v=>k (S.put d [] v)else none
 | _,none=>none
def Jo8:AV→Bool
 | .np=>true
 | .p _ _=>true
 | _=>false
def Jbd:List (Nat×AV)→Nat→Option AV
 | [],_=>some .nil
 | (i,v)::l,j=>bif Nat.beq i j&&Jo8 v then(match Jbd l (j+1)with
  | some r=>some (.cons v r)
  | none=>none)else none
def Lh{k:Ty}{ν:Type}(key:k.De):List (k.De×ν)→List (k.De×ν)
 | []=>[]
 | x::l=>bif eqK k key x.1 then l else x::Lh key l
def A7{α:Type}(xs ys:List α):List α:=ys.take (Nat.min ys.length xs.length)++xs.drop (Nat.min ys.length xs.length)
def Qfu{α:Type}(xs ys:List α):Int:=(Nat.min ys.length xs.length:Nat)
def Jkq(o:Oper)(S:XS):Nat:=match o.op with
 | .call ⟨.builtin .append,⟨[_,x]⟩,_⟩=>match S.ev [] x with
  | some (.d .str _)=>1
  | _=>0
 | .convert _ t x=>match S.ev [] x with
  | some (.d .str _)=>match Qh Y.T t with
   | some te=>match Y0 te.d with
    | some _=>2
    | none=>0
   | none=>0
  | _=>0
 | .store _ p _=>match S.ev [] p with
  | some (.p _ path)=>bif Jo6 path then 3 else 0
  | _=>0
 | .call ⟨.builtin .copy,_,_⟩=>4
 | .call ⟨.builtin .delete,_,_⟩=>5
 | .buildSlice t (_+1) _=>match Qh Y.T t with
  | some te=>match Y0 te.d with
   | some e=>match Jq Y.tys e with
    | none=>7
    | some u=>bif Ty.beq u .ref then 7 else 0
   | none=>0
  | none=>0
 | .slice _ x none _ none=>match S.ev [] x with
  | some (.s id)=>match Qe S.mem id with
   | some (.row _ _ _)=>6
   | _=>0
  | _=>0
 | .slice _ x none (some _) (some _)=>match S.ev [] x with
  | some (.s id)=>match Qe S.mem id with
   | some (.row _ _ _)=>8
   | _=>0
  | _=>0
 | _=>0
def Jo9:Value→Bool
 | .int .u8 0=>true
 | _=>false
def Jpa:TypeDesc→Bool
 | .int .u8=>true
 | _=>false
def Q5u:TypeDesc→Bool
 | .string=>true
 | _=>false
def Z7(l:Str):List Int:=l.map fun b=>(b.toNat:Int)
def Qua(o:Oper)(S:XS)(k:XS→Option R):Option R:=match o.op,o.dst with
 | .call ⟨.builtin .append,⟨[s,x]⟩,⟨[t,t']⟩⟩,some d=>match Qh Y.T t,Qh Y.T t',S.ev [] s,S.ev [] x with
  | some te,some te',some sv,some (.d .str l)=>match Y0 te.d with
   | some e=>match Qh Y.T e with
    | some ee=>bif okW n S d&&Q5u te'.d&&Jo9 ee.z&&Nat.beq ee.size 1&&Nat.beq ee.bytes 1 then(match sv with
     | .ns=>bif okB S d then(app 1 [] (Z7 l)).bind fun zs=>k ((S.born d (.row e (.int .u8) zs)).put d [] (.s d))else none
     | .s id=>match Qe S.mem id with
      | some (.row e' (.int .u8) xs)=>bif okB ⟨S.env,S.fix,Jv S.mem id,S.fixM,S.prot⟩ d&&Nat.beq e e' then
        (app 1 xs (Z7 l)).bind fun zs=>k (({ S with mem:=Jv S.mem id }.born d (.row e (.int .u8) zs)).put d [] (.s d))else none
      | _=>none
     | _=>none)else none
    | none=>none
   | none=>none
  | _,_,_,_=>none
 | .convert s t x,some d=>match Qh Y.T s,Qh Y.T t,S.ev [] x with
  | some se,some te,some (.d .str l)=>match Y0 te.d with
   | some e=>match Qh Y.T e with
    | some ee=>bif okW n S d&&okB S d&&Jpa ee.d then(app 1 [] (Z7 l)).bind fun zs=>k ((S.born d (.row e (.int .u8) zs)).put d [] (.s d))else none
    | none=>none
   | none=>none
  | _,_,_=>none
 | .store t p x,none=>match Qh Y.T t,S.ev [] p,S.ev [] x with
  | some e,some (.p id path),some v=>match Qe S.mem id with
   | some (.var tid c)=>Qne S.flat.mem path c v fun c'=>bif Nat.beq e.size v.size&&v.isVal&&v.inMem then k (S.set id (.var tid c'))else none
   | _=>none
  | _,_,_=>none
 | .call ⟨.builtin .copy,⟨[dst,src]⟩,⟨[t,t']⟩⟩,some d=>match Qh Y.T t,S.ev [] dst,S.ev [] src with
  | some te,some (.s id),some xv=>match Y0 te.d with
   | some e=>match Qh Y.T e,Qe S.mem id with
    | some ee,some (.row et u xs)=>match asD S.flat.mem xv (.sl u)with
     | some ys=>bif okW n S d&&Nat.beq ee.size u.size&&Nat.ble 1 u.size then k ((S.set id (.row et u (A7 xs ys))).put d [] (.d (.int .i64) (Qfu xs ys)))else none
     | none=>none
    | _,_=>none
   | none=>none
  | _,_,_=>none
 | .call ⟨.builtin .delete,⟨[m,ky]⟩,⟨[t,t']⟩⟩,none=>match Qh Y.T t,S.ev [] m,S.ev [] ky with
  | some te,some (.m id),some kv=>match te.d,Qe S.mem id with
   | .map kt et,some (.map kk v xs)=>match Qh Y.T kt,asD [] kv kk with
    | some tk,some key=>bif Yu Y.T kk tk.d&&(kk.agg==kv.isAgg)then k (S.set id (.map kk v (Lh key xs)))else none
    | _,_=>none
   | _,_=>none
  | _,_,_=>none
 | .buildSlice t (m+1) ⟨ps⟩,some d=>match Qh Y.T t with
  | some te=>match Y0 te.d with
   | some e=>match Qh Y.T e,Y8 S.flat [] ps with
    | some ee,some vs=>match Jbd vs 0 with
     | some c=>bif okW n S d&&okB S d&&Uw d c&&Nat.beq vs.length (m+1)&&Nat.beq ee.size 1&&Nat.beq (Qu ee.z).length 1&&Nat.ble (m+1) 16777216 then k ((S.born d (.var e (.ag c))).put d [] (.w d 0 ((m+1:Nat):Int)))else none
     | none=>none
    | _,_=>none
   | none=>none
  | none=>none
 | .slice t x none hi none,some d=>match Qh Y.T t,S.ev [] x with
  | some te,some (.s id)=>match Y0 te.d,Qe S.mem id with
   | some e,some (.row e' u xs)=>match Qh Y.T e,bnd S.flat [] xs.length hi with
    | some ee,some q=>bif okW n S d&&okB ⟨S.env,S.fix,Jv S.mem id,S.fixM,S.prot⟩ d&&Nat.beq ee.size u.size&&Nat.beq e e' then
      (slc xs 0 q).bind fun ys=>k (({ S with mem:=Jv S.mem id }.born d (.row e u ys)).put d [] (.s d))else none
    | _,_=>none
   | _,_=>none
  | _,_=>none
 | .slice t x none (some hi) (some mx),some d=>match Qh Y.T t,S.ev [] x,S.ev [] hi,S.ev [] mx with
  | some te,some (.s id),some hv,some mv=>match Y0 te.d,Qe S.mem id,Xr hv,Xr mv with
   | some e,some (.row e' u xs),some (_,q),some (_,m)=>match Qh Y.T e with
    | some ee=>bif okW n S d&&okB ⟨S.env,S.fix,Jv S.mem id,S.fixM,S.prot⟩ d&&Nat.beq ee.size u.size&&Nat.beq e e' then
      (chk (decide (q≤m)&&decide (m≤(xs.length:Int)))).bind fun _=>(slc xs 0 q).bind fun ys=>k (({ S with mem:=Jv S.mem id }.born d (.row e u ys)).put d [] (.s d))else none
    | _=>none
   | _,_,_,_=>none
  | _,_,_,_=>none
 | _,_=>none
def Qma(o:Oper)(S:XS)(k:XS→Option R):Option R:=match Jkq Y o S with
 | 0=>Qgo Y n o S k
 | _+1=>Qua Y n o S k
def Qp5:Value→Bool
 | .map none=>true
 | _=>false
def Qxa:Value→Bool
 | .slice none 0 0=>true
 | _=>false
def Q5v:CK→Value→Bool
 | .sl _ _,v=>Qxa v
 | .mp _ _,v=>Qp5 v
def Jr5(Y:TX)(et:TypeId):Option CK:=match Qh Y.T et with
 | some te=>match te.d with
  | .slice e=>match Jq Y.tys e with
   | some u=>some (.sl e u)
   | none=>none
  | .map k v=>match Jq Y.tys k,Jq Y.tys v with
   | some k,some v=>some (.mp k v)
   | _,_=>none
  | _=>none
 | none=>none
def Jmg:CK→Option Ob→Option (Σ t:Ty,t.De)
 | .sl e _,some (.row e' u' ys)=>bif Nat.beq e e' then some ⟨.sl u',ys⟩else none
 | .mp _ _,some (.map k' v' ys)=>some ⟨.sl (.pr k' v'),ys⟩
 | _,_=>none
def Qmb(c:CK)(o:Option Ob):Option c.ty.De:=match Jmg c o with
 | some v=>Ty.cast v.1 c.ty v.2
 | none=>none
def obC:(c:CK)→c.ty.De→Ob
 | .sl e u,ys=>.row e u ys
 | .mp k v,ys=>.map k v ys
def avC:CK→Nat→AV
 | .sl _ _,id=>.s id
 | .mp _ _,id=>.m id
def idC:CK→AV→Option Nat
 | .sl _ _,.s id=>some id
 | .mp _ _,.m id=>some id
 | _,_=>none
def Jkr(S:XS)(id:Nat)(kk:Ty)(c:CK)(xs:List (kk.De×c.ty.De))(hole:Option (kk.De×Nat))(key:kk.De)(xv:AV)(k:XS→Option R):Option R:=match idC c xv with
 | some h1=>match Qmb c (Qe S.mem h1)with
  | some ys=>bif Qgn { S with mem:=Jv S.mem h1 } id&&!Nat.beq h1 id then(chk (match hole,c with
    | some q,.sl _ _=>eqK kk key q.1
    | none,.mp _ _=>true
    | _,_=>false)).bind fun _=>k (XS.swap { S with mem:=Jv S.mem h1 } id (.mapC kk c (Ya key ys xs) none))else none
  | none=>none
 | none=>none
def Q5w(M:List (Nat×Ob))(kk:Ty)(c:CK)(xs:List (kk.De×c.ty.De))(hole:Option (kk.De×Nat))(key:kk.De)(k:AV→Option R):Option R:=match hole,c with
 | some q,c=>bif Ea (Qmb c (Qe M q.2))then(chk (eqK kk key q.1)).bind fun _=>k (avC c q.2)else none
 | none,.mp _ _=>(chk (isNone (Qr key xs))).bind fun _=>k .nm
 | none,.sl _ _=>none
def Jmh(S:XS)(id d:Nat)(kk:Ty)(key:kk.De)(k:XS→Option R):(c:CK)→List (kk.De×c.ty.De)→Option R
 | .sl e u,xs=>k ((S.swap id (.mapC kk (.sl e u) xs (some (key,d)))).born d (.row e u ((Qr key xs).getD [])))
 | .mp k2 v2,xs=>match Qr key xs with
  | some ys=>k ((S.swap id (.mapC kk (.mp k2 v2) xs (some (key,d)))).born d (.map k2 v2 ys))
  | none=>k S
def Jr6:CK→Bool
 | .sl _ _=>false
 | .mp _ _=>true
def Qp6(S:XS)(id:Nat)(k:XS→Option R):Option R:=match Qe S.mem id with
 | some (.mapC kk c xs (some q))=>match Qmb c (Qe S.mem q.2)with
  | some ys=>bif Qgn { S with mem:=Jv S.mem q.2 } id&&Tt kk&&Jr6 c then k (XS.swap { S with mem:=Jv S.mem q.2 } id (.mapC kk c (Ya q.1 ys xs) none))else none
  | none=>none
 | some (.mapC _ _ _ none)=>k S
 | _=>none
def Q0v(S:XS)(id:Nat)(k:XS→Option R):Option R:=match Qe S.mem id with
 | some (.mapC kk (.sl _ u) xs none)=>k (S.swap id (.map kk (.sl u) xs))
 | _=>none
def Q0w(S:XS)(src:Src)(id d:Nat)(k:XS→Option R):Option R:=match Qe S.mem id with
 | some (.mapC kk c xs none)=>match Jr4 S src with
  | some av=>match asD S.flat.mem av kk with
   | some key=>bif Tt kk&&Qgn S id&&okB S d then Jmh S id d kk key k c xs else none
   | none=>none
  | none=>none
 | _=>none
def Qfv(o:Oper)(S:XS)(k:XS→Option R):Option R:=match o.op,o.dst with
 | .buildSlice t (m+1) ⟨ps⟩,some d=>match Qh Y.T t with
  | some te=>match Y0 te.d with
   | some e=>match Qh Y.T e,Jq Y.tys e,Y8 S.flat [] ps with
    | some ee,some u,some vs=>match asLs S.flat.mem u vs 0 with
     | some xs=>bif okW n S d&&okB S d&&Nat.beq ee.size u.size&&Nat.beq xs.length (m+1)&&Nat.ble ((m+1)*ee.size) 16777216&&Nat.ble 1 ee.size&&Nat.beq (Qu ee.z).length ee.size then k ((S.born d (.row e u xs)).put d [] (.s d))else none
     | none=>none
    | _,_,_=>none
   | none=>none
  | none=>none
 | .makeMap t rs,some d=>match Qh Y.T t with
  | some te=>match te.d with
   | .map kt et=>match Jq Y.tys kt,Jr5 Y et with
    | some kk,some c=>bif okW n S d&&okB S d&&isNone rs then k ((S.born d (.mapC kk c [] none)).put d [] (.m d))else none
    | _,_=>none
   | _=>none
  | none=>none
 | .mapUpdate t m ky x,none=>match Qh Y.T t,S.ev [] m,S.ev [] ky,S.ev [] x with
  | some te,some (.m id),some kv,some xv=>match te.d,Qe S.mem id with
   | .map kt _,some (.mapC kk c xs hole)=>match Qh Y.T kt,asD [] kv kk with
    | some tk,some key=>bif Yu Y.T kk tk.d&&(kk.agg==kv.isAgg)then Jkr S id kk c xs hole key xv k else none
    | _,_=>none
   | _,_=>none
  | _,_,_,_=>none
 | .mapEntry t m ky,some d=>match Qh Y.T t,S.ev [] m,S.ev [] ky with
  | some te,some (.m id),some kv=>match te.d,Qe S.mem id with
   | .map kt et,some (.map kk v xs)=>match Qh Y.T kt,Qh Y.T et,asD [] kv kk with
    | some tk,some tz,some key=>match L5 v tz.z with
     | some za=>match asD [] za v with
      | some z=>bif okW n S d&&okB S d&&Yu Y.T kk tk.d&&(kk.agg==kv.isAgg)&&(v.agg==Qgj tz.z)then
        k ((XS.mk (Yv d S.env) S.fix (Nv S.mem id (.mapE kk v (Ya key ((Qr key xs).getD z) xs) key d)) S.fixM S.prot).put d [] (.tp (.cons (.d v ((Qr key xs).getD z)) (.cons (.b d) .nil))))else none
      | none=>none
     | none=>none
    | _,_,_=>none
   | _,_=>none
  | _,_,_=>none
 | .entryStore t m st x,none=>match S.ev [] m,S.ev [] st,S.ev [] x with
  | some (.m id),some (.b j),some xv=>match Qe S.mem id with
   | some (.mapE kk v xs key j')=>match Qh Y.T t with
    | some te=>match te.d with
     | .map kt et=>match Qh Y.T kt,asD S.flat.mem xv v with
      | some tk,some y=>bif Nat.beq j j'&&Yu Y.T kk tk.d&&(v.agg==xv.isAgg)then k (S.set id (.map kk v (Ya key y xs)))else none
      | _,_=>none
     | _=>none
    | none=>none
   | _=>none
  | _,_,_=>none
 | .lookup t m ky false,some d=>match Qh Y.T t,S.ev [] ky with
  | some te,some kv=>match te.d with
   | .map kt et=>match Qh Y.T kt,Qh Y.T et,S.ev [] m with
    | some tk,some tz,some (.m id)=>match Qe S.flat.mem id with
     | some (.mapC kk c xs hole)=>match asD [] kv kk with
      | some key=>bif okW n S d&&Yu Y.T kk tk.d&&(kk.agg==kv.isAgg)&&Q5v c tz.z then Q5w S.flat.mem kk c xs hole key fun v=>k (S.put d [] v)else none
      | none=>none
     | _=>Qgo Y n o S k
    | some tk,some tz,some .nm=>match Jq Y.tys kt,Jq Y.tys et with
     | some kk,some v=>match asD [] kv kk,L5 v tz.z with
      | some key,some za=>match asD [] za v with
       | some z=>bif okW n S d&&Yu Y.T kk tk.d&&(kk.agg==kv.isAgg)&&(v.agg==Qgj tz.z)then k (S.put d [] (.d v z))else none
       | none=>none
      | _,_=>none
     | _,_=>none
    | _,_,_=>none
   | _=>none
  | _,_=>none
 | _,_=>none
def Zw(c:Con)(o:Oper)(S:XS)(k:XS→Option R):Option R :=
 match o.op,o.dst with
 | .call ⟨.value x,⟨xs⟩,_⟩,some d=>match S.ev [] x with
  | some (.f f caps)=>bif Nat.beq c.f f&&okW n S d then(match Q0t S xs 0,Jfu caps xs.length with
   | some es0,some cs=>callE c d S (es0++cs) (Jme c.Γ ⟨es0++cs,S.mem++S.fixM⟩) k
   | _,_=>none)else none
  | _=>none
 | _,_=>none
where
 callE (c:Con) (d:Nat) (S:XS) (es:List En) (ri:List (Nat×Nat)) (k:XS→Option R):Option R :=
  match Jkp c.Γ ri [] es (frz c.Γ ri es S.mem++S.fixM) []with
  | some x=>bif Qkj c.Γ.mem&&Nat.beq es.length c.Γ.env.length&&Gb (Vb S.mem) (J4 ri (wrG c.ro c.Γ.mem))&&Qt8 ri (frz c.Γ ri es S.mem++S.fixM) (rdG c.ro c.Γ.mem)then
   (c.fn x).bind fun y=>Jo7 c.Δ y fun S1=>callR c d S ri (Jn (frz c.Γ ri es S.mem) (J4 ri (wrG c.ro c.Γ.mem))).1 S1 (roM c x) k else none
  | none=>none
 callR (c:Con) (d:Nat) (S:XS) (ri:List (Nat×Nat)) (M:List (Nat×Ob)) (S1:St) (RO:List (Nat×Ob)) (k:XS→Option R):Option R :=
  bif Q8g ri d (c.Γ.mem.map Prod.fst) S M (S1.mem.map Prod.fst)&&L7 ((S1.mem++RO).map fun q=>Jo ri d q.1)&&Gb ((S1.mem++RO).map Prod.fst) (O7 S1.env)&&Gb ((S1.mem++RO).map Prod.fst) (Jc (S1.mem++RO))then
   k (XS.put ⟨S.env,S.fix,Km (Jo ri d) S1.mem++M,S.fixM,S.prot⟩ d [] (K2 (Jo ri d) (Rv S1.env)))else none
def Qih(t:Nat)(want:Bool)(o:Oper)(S:XS)(k:XS→Option R):Option R :=
 match Kl S.flat.env t,o.dst with
 | some ⟨_,cs,.d .bool _⟩,some d=>bif okW n S d&&!Nat.beq t d&&!Rq d cs then(match Qic Y S.flat ((t,want)::cs) o.op with
   | some v=>k (S.put d ((t,want)::cs) v)
   | none=>none)else none
 | _,_=>none
def Qii(ops:List Oper)(o:Oper)(S:XS)(k:XS→Option R):Option R:=match Qgm ops o with
 | some none=>Qma Y n o S k
 | some (some (t,want))=>Qih Y n t want o S k
 | none=>none
def Qcs(o:Oper)(S:XS)(k:XS→Option R):Option R:=match o.dst with
 | some d=>bif okW n S d then k (S.put d [] (.tp .nil))else none
 | none=>k S
def stepL(ops:List Oper)(o:Oper)(S:XS)(k:XS→Option R):Option R:=match Qgm ops o with
 | some none=>Qma Y n o S k
 | some (some (t,want))=>match Kl S.flat.env t with
  | some ⟨_,[],.d .bool b⟩=>match b==want with
   | true=>Qma Y n o S k
   | false=>Qcs n o S k
  | some ⟨_,[],.tp .nil⟩=>Qcs n o S k
  | _=>none
 | none=>none
def Qng(st:Oper→XS→(XS→Option R)→Option R):List Oper→XS→(XS→Option R)→Option R
 | [],S,k=>k S
 | o::l,S,k=>st o S fun S'=>Qng st l S' k
end
def Yx(Y:TX)(K:List Con)(n:Nat)(ops:List Oper){R:Type}:Hn→List Oper→XS→(XS→Option R)→Option R
 | .done,l,S,k=>match l with
  | []=>k S
  | _::_=>none
 | .n m r,l,S,k=>Qng (Qii Y n ops) (l.take m) S fun S'=>Yx Y K n ops r (l.drop m) S' k
 | .nl m r,l,S,k=>Qng (stepL Y n ops) (l.take m) S fun S'=>Yx Y K n ops r (l.drop m) S' k
 | .call c r,l,S,k=>match K[c]?,l with
  | some con,o::l'=>match Qgm ops o with
   | some none=>Zw n con o S fun S'=>Yx Y K n ops r l' S' k
   | some (some (t,want))=>match Kl S.flat.env t with
    | some ⟨_,[],.d .bool b⟩=>match b==want with
     | true=>Zw n con o S fun S'=>Yx Y K n ops r l' S' k
     | false=>none
    | _=>none
   | none=>none
  | _,_=>none
 | .br r,l,S,k=>match l with
  | o::l'=>match Qgm ops o with
   | some none=>Qfv Y n o S fun S'=>Yx Y K n ops r l' S' k
   | some (some (t,want))=>match Kl S.flat.env t with
    | some ⟨_,[],.d .bool b⟩=>match b==want with
     | true=>Qfv Y n o S fun S'=>Yx Y K n ops r l' S' k
     | false=>none
    | _=>none
   | none=>none
  | []=>none
 | .fz id r,l,S,k=>Yx Y K n ops r l { S with mem:=Y4 [id] S.mem } k
 | .keep ts r,l,S,k=>Yx Y K n ops r l { S with env:=Qnf S.env ts } k
 | .si t i a b,l,S,k=>match Kl S.env t with
  | some ⟨_,[],.d (.int kd) v⟩=>bif Nw t S.fix then(if v=i then Yx Y K n ops a l (S.put t [] (.d (.int kd) i)) k else Yx Y K n ops b l S k)else none
  | _=>none
 | .op src id d r,l,S,k=>Q0w S src id d fun S'=>Yx Y K n ops r l S' k
 | .cl id r,l,S,k=>Qp6 S id fun S'=>Yx Y K n ops r l S' k
 | .fm id r,l,S,k=>Q0v S id fun S'=>Yx Y K n ops r l S' k
 | .sp t m ks ms Γ a b r,l,S,k=>match Kl S.env t with
  | some ⟨_,[],.d .bool v⟩=>bif Nw t S.fix then
    (if v=true then Yx Y K n ops (R:=Γ.De) a (l.take m) ((XS.put S t [] (.d .bool true)).ent ks ms) (fun S'=>S'.dec Γ)
     else Yx Y K n ops (R:=Γ.De) b (l.take m) ((XS.put S t [] (.d .bool false)).ent ks ms) (fun S'=>S'.dec Γ)).bind
     fun y=>Yx Y K n ops r (l.drop m) (XS.out (XS.put S t [] (.d .bool v)) ks ms (enc Γ y)) k else none
  | _=>none
 | _,_,_,_=>none
section
variable {R:Type} (Y:TX) (n:Nat)
def Q0x(o:Oper)(S:XS)(k:XS→Option R):Option R:=match o.dst with
 | some d=>bif okW n S d then Qif Y S.flat [] o.op fun v=>k (S.put d [] v)else none
 | none=>none
def Qxb(ops:List Oper)(o:Oper)(S:XS)(k:XS→Option R):Option R:=match Qgm ops o with
 | some none=>Q0x Y n o S k
 | some (some (t,want))=>Qih Y n t want o S k
 | none=>none
def Qxc(ops:List Oper)(o:Oper)(S:XS)(k:XS→Option R):Option R:=match Qgm ops o with
 | some none=>Q0x Y n o S k
 | some (some (t,want))=>match Kl S.flat.env t with
  | some ⟨_,[],.d .bool b⟩=>match b==want with
   | true=>Q0x Y n o S k
   | false=>Qcs n o S k
  | some ⟨_,[],.tp .nil⟩=>Qcs n o S k
  | _=>none
 | none=>none
end
def L8(Y:TX)(n:Nat)(ops:List Oper){R:Type}:Hn→List Oper→XS→(XS→Option R)→Option R
 | .done,l,S,k=>match l with
  | []=>k S
  | _::_=>none
 | .n m r,l,S,k=>Qng (Qxb Y n ops) (l.take m) S fun S'=>L8 Y n ops r (l.drop m) S' k
 | .nl m r,l,S,k=>Qng (Qxc Y n ops) (l.take m) S fun S'=>L8 Y n ops r (l.drop m) S' k
 | .sp t m ks ms Γ a b r,l,S,k=>match Kl S.env t with
  | some ⟨_,[],.d .bool v⟩=>bif Nw t S.fix then
    (if v=true then L8 Y n ops (R:=Γ.De) a (l.take m) ((XS.put S t [] (.d .bool true)).ent ks ms) (fun S'=>S'.dec Γ)
     else L8 Y n ops (R:=Γ.De) b (l.take m) ((XS.put S t [] (.d .bool false)).ent ks ms) (fun S'=>S'.dec Γ)).bind
     fun y=>L8 Y n ops r (l.drop m) (XS.out (XS.put S t [] (.d .bool v)) ks ms (enc Γ y)) k else none
  | _=>none
 | _,_,_,_=>none
def Q5x(o:Oper):List Nat:=o.op.operands.toList.filterMap fun x=>match x with
 | .tmp t=>some t
 | _=>none
def Q5y:List En→List En
 | []=>[]
 | e::l=>bif Nat.blt e.t 100000 then Q5y l else(match e.cs with
  | []=>e::Q5y l
  | _::_=>Q5y l)
def Jfw{α:Type}:List α→Bool
 | []=>true
 | _=>false
def W6:Nat→Bool:=fun _=>true
def Qmc(env:List En):List Nat→List En
 | []=>env
 | d::ds=>Qmc (Js (Yv d env) d) ds
def Jpb(l:List Oper)(p:Nat):Bool:=(List.range l.length).all fun k=>Nat.blt k p||(List.range k).all fun i=>Fu l l.length k i
def Q8h(l:List Oper)(p:Nat)(ds:List Nat):Bool:=Nat.ble p l.length&&Nat.beq ds.length p&&backB l&&Jpb l p&&Qwt ds
def Jfx(l:List Oper)(n:Nat):Bool:=bif Nat.blt n l.length then Region.lexTailB .any l.toArray n else Nat.beq n l.length&&Region.lexB .any l.toArray
def Vg:List (Nat×Ob)→Bool
 | []=>true
 | (_,.tail _ _ _)::_=>false
 | _::l=>Vg l
structure EC where
 d:Nat
 av:AV
 has:Bool
 ups:List (Nat×Option Ob)
def Qmd:List (Nat×Option Ob)→Nat→Option (Option Ob)
 | [],_=>none
 | (k,x)::l,id=>bif Nat.beq k id then some x else Qmd l id
def upC(id:Nat)(e:EC)(c:Option Ob):Option Ob:=match Qmd e.ups id with
 | some x=>x
 | none=>c
def Ys(E:Nat→Bool)(id:Nat):List EC→Nat→Option Ob→Option Ob
 | [],_,c=>c
 | e::l,j,c=>Ys E id l (j+1) (bif E j then upC id e c else c)
def Zk(id:Nat)(e:EC):Bool:=Ea (Qmd e.ups id)
def Id(E:Nat→Bool):List EC→Nat→List En
 | [],_=>[]
 | e::l,j=>bif E j&&e.has then⟨e.d,[],e.av⟩::Id E l (j+1)else Id E l (j+1)
def Zx(id:Nat):Option Ob→Option (Nat×Ob)
 | some ob=>some (id,ob)
 | none=>none
def F2(names:List Nat)(Zs:List (Nat×Ob))(acc:List EC)(E:Nat→Bool):List (Nat×Ob):=names.filterMap fun id=>Zx id (Ys E id acc 0 (Qe Zs id))
def HD.wr(h:HD):List Nat:=h.tch++h.bs
def HD.al(h:HD):List Nat:=h.tch++h.ro++h.bs
def Qij:List EC→Nat→Option AV
 | [],_=>none
 | g::l,t=>bif Nat.beq g.d t&&g.has then some g.av else Qij l t
def Qp7(l0:List Oper)(ds:List Nat)(i:Nat)(acc:List EC)(B:List En):List Nat→List En
 | []=>Q5y B
 | t::ts=>match Qij acc t with
  | some v=>bif Q73 l0 i (ds.idxOf t)then⟨t,[],v⟩::Qp7 l0 ds i acc B ts else Qp7 l0 ds i acc B ts
  | none=>bif Ql1 ds t then(match Kl B t with
   | some ⟨t',[],v⟩=>⟨t',[],v⟩::Qp7 l0 ds i acc B ts
   | _=>Qp7 l0 ds i acc B ts)else Qp7 l0 ds i acc B ts
def gTs(l0:List Oper)(o:Oper):List Nat:=match Qgm l0 o with
 | some (some (t,_))=>[t]
 | _=>[]
def Qbe(l m:List Nat):Bool:=l.all fun x=>!Yb m x
def Qik(l0:List Oper)(i j:Nat)(hi hj:HD):Bool:=((Qbe hj.wr hi.al&&Qbe hj.ro hi.wr)||Fu l0 l0.length i j)&&Qbe hi.bs hj.wr
def Jqr(l0:List Oper)(hs:List HD):Bool:=(List.range hs.length).all fun i=>(List.range i).all fun j=>match hs[i]?,hs[j]? with
 | some hi,some hj=>Qik l0 i j hi hj
 | _,_=>true
def nmB(l0:List Oper)(hs:List HD):Bool:=(List.range hs.length).all fun i=>(List.range hs.length).all fun j=>Nat.beq i j||(match hs[i]?,hs[j]? with
 | some hi,some hj=>Qbe hi.bs hj.nm||Fu l0 l0.length j i
 | _,_=>true)
def Kn:List HD→List Nat
 | []=>[]
 | h::l=>h.bs++Kn l
def Cc:HT→List Nat
 | .tl _=>[]
 | .op h r=>h.bs++Cc r
 | .so _ a b=>Cc a++Cc b
def Qil(l m:List Nat):List Nat:=l.filter fun x=>!Yb m x
def Qfw(ids:List Nat)(Zs:List (Nat×Ob))(acc:List EC):List (Nat×Ob):=ids.filterMap fun id=>Zx id (Ys W6 id acc 0 (Qe Zs id))
def Q0y:List EC→Nat→Bool→List EC
 | [],_,_=>[]
 | g::l,t,b=>bif Nat.beq g.d t&&g.has then⟨g.d,.d .bool b,g.has,g.ups⟩::l else g::Q0y l t b
def O8(M:List (Nat×Ob)):AV→AV
 | .s id=>match Qe M id with
  | some (.tail _ t xs)=>.d (.sl t) xs
  | _=>.s id
 | .ag l=>.ag (O8 M l)
 | .cons x r=>.cons (O8 M x) (O8 M r)
 | x=>x
def Qxd(M:List (Nat×Ob)):List Nat→Bool
 | []=>false
 | id::l=>match Qe M id with
  | some (.tail _ _ _)=>true
  | _=>Qxd M l
def Jbe(M:List (Nat×Ob)):List En→List En
 | []=>[]
 | e::l=>bif Qxd M (Qt7 e.av)then⟨e.t,e.cs,O8 M e.av⟩::Jbe M l else Jbe M l
section
variable {R:Type} (Y:TX) (K:List Con) (n:Nat) (l0:List Oper) (ds:List Nat) (Zs:List (Nat×Ob)) (B:List En) (prA:List Nat)
def Qp8(hc:HD)(o:Oper)(i:Nat)(acc:List EC):XS:=⟨Qp7 l0 ds i acc B (Q5x o++gTs l0 o),[],Qfw hc.tch Zs acc,Qfw hc.ro Zs acc,Qil prA hc.bs⟩
def Qgp(hc:HD)(o:Oper)(i:Nat)(acc:List EC)(S1:XS):Option EC :=
 bif Vg (Qfw hc.tch Zs acc++Qfw hc.ro Zs acc)&&Gb hc.nm (Jc S1.mem)then(match o.dst with
  | some d=>match Kl S1.env d with
   | some ⟨_,[],av⟩=>bif Nat.beq (ds.getD i 0) d&&Gb hc.nm (Jb av)&&Nat.blt d n then some ⟨d,av,true,(hc.tch++hc.bs).map fun id=>(id,Qe S1.mem id)⟩else none
   | _=>none
  | none=>bif Nat.beq (ds.getD i 0) (1000000000+i)then some ⟨1000000000+i,.tp .nil,false,(hc.tch++hc.bs).map fun id=>(id,Qe S1.mem id)⟩else none)else none
def Qp9:HT→List Oper→Nat→List HD→List EC→(Hn→List HD→List EC→Option R)→Option R
 | .tl h,l,_,hs,acc,k=>match l with
  | []=>k h hs acc
  | _::_=>none
 | .op hc r,l,i,hs,acc,k=>match l with
  | o::l'=>Yx Y K n l0 hc.h [o] (Qp8 l0 ds Zs B prA hc o i acc) fun S1=>match Qgp n ds Zs hc o i acc S1 with
   | some g=>Qp9 r l' (i+1) (hs++[hc]) (acc++[g]) k
   | none=>none
  | []=>none
 | .so t a b,l,i,hs,acc,k=>match Qij acc t with
  | some (.d .bool v)=>if v=true then Qp9 a l i hs (Q0y acc t true) k else Qp9 b l i hs (Q0y acc t false) k
  | _=>none
end
def Jks(l0:List Oper)(ks:List Nat)(prB prA:List Nat)(hs:List HD):Bool:=Jqr l0 hs&&nmB l0 hs&&L7 (ks++Kn hs)&&Qbe prB (Kn hs)&&Gb prA (ks++Kn hs) &&
 hs.all fun hc=>L7 hc.al&&Gb (ks++Kn hs) hc.al&&Gb prA hc.nm
def kfC(zf:List Nat)(hs:List HD):Bool:=hs.all fun hc=>Qbe hc.wr zf
def Jr7(S:XS)(ds:List Nat)(Z1 Z2 M1:List (Nat×Ob))(bsA:List Nat)(hs:List HD)(acc:List EC):XS:=⟨Id W6 acc 0++Qmc S.env (ds++bsA),S.fix,F2 (Vb Z1++Kn hs) (Z1++Z2) acc W6++M1,S.fixM,S.prot⟩
def O9{R:Type}:Hn→XS→(XS→Option R)→Option R
 | .done,S,k=>k S
 | .fz id r,S,k=>O9 r { S with mem:=Y4 [id] S.mem } k
 | .op src id d r,S,k=>Q0w S src id d fun S'=>O9 r S' k
 | .cl id r,S,k=>Qp6 S id fun S'=>O9 r S' k
 | .fm id r,S,k=>Q0v S id fun S'=>O9 r S' k
 | .dt id r,S,k=>match Qe S.mem id with
  | some (.var tid c)=>O9 r (S.set id (.var tid (O8 S.flat.mem c))) k
  | _=>none
 | _,_,_=>none
def Jfy(S:XS)(t i:Nat):Bool:=match Kl S.env t with
 | some ⟨_,[],.d (.int _) v⟩=>match Ja8 v with
  | some j=>Nat.beq j i
  | none=>false
 | _=>false
def Q8i:AV→Bool
 | .nm=>true
 | .np=>true
 | .tp l=>Q8i l
 | .cons x r=>Q8i x||Q8i r
 | _=>false
def Jfz(S:XS)(t:Nat):Bool:=match Kl S.env t with
 | some e=>Q8i e.av
 | none=>false
def dcR(Y:TX)(K:List Con)(n:Nat){R:Type}(ops:List Oper)(p:Nat)(ds:List Nat)(Z1 Z2 M1 F1:List (Nat×Ob))(ht:HT)(S:XS)(B:List En)(prB:List Nat)(k:Hn→XS→Option R):Option R :=
 Qp9 Y K n ops ds (Z1++Z2) (Jbe (M1++F1) B++B) (prB++Vb (Z1++Z2)++Cc ht) ht (ops.take p) 0 [] [] fun h hs acc =>
  bif Jks ops (Vb (Z1++Z2)) prB (prB++Vb (Z1++Z2)++Cc ht) hs&&kfC (Vb Z2) hs then k h (Jr7 S ds Z1 Z2 M1 (Cc ht) hs acc)else none
def dcI(Y:TX)(K:List Con)(n:Nat){R:Type}(ops:List Oper)(p:Nat)(ds:List Nat)(Z1 Z2 M1 F1:List (Nat×Ob))(ht:HT)(S:XS)(B:List En)(k:Hn→XS→Option R):Option R :=
 dcR Y K n ops p ds Z1 Z2 M1 F1 ht S B (O7 B++Jc ((Z1++Z2)++(M1++F1))++S.prot) k
def Q5z(ops:List Oper)(o1 o2 o3:Oper)(mo:Nat):Option (TypeId×Nat×Nat×Nat×Nat):=match ops.getLast?,o1,o2,o3 with
 | some ⟨some it,.range t (.tmp mt),_,_,_,none⟩,⟨some nx,.next (.tmp it1) false,_,_,_,none⟩,⟨some mo1,.extract (.tmp nx1) 0,_,_,_,none⟩,⟨some pr,.entry (.tmp it2),_,_,_,none⟩ =>
  bif Nat.beq it it1&&Nat.beq it it2&&Nat.beq nx nx1&&Nat.beq mo mo1 then some (t,mt,it,nx,pr)else none
 | _,_,_,_=>none
def mpE(S:XS)(ks ms:List Nat)(m:Nat):XS:=XS.ent ⟨S.env,S.fix,S.mem,S.fixM,m::S.prot⟩ ks ms
def mpB(E:XS)(it m:Nat):XS:=⟨[],⟨it,[],.p it []⟩::E.fix,[],Jv E.fixM m,it::E.prot⟩
def Qxe(S:XS)(ks ms:List Nat)(nx mo:Nat)(S':St):XS:=S.out ks ms ⟨Js (Js S'.env nx) mo,S'.mem⟩
def Jpc(B:XS)(nx mo pr:Nat)(x:AV):XS:=⟨⟨pr,[],x⟩::Js (Js (Js B.env nx) mo) pr,B.fix,B.mem,B.fixM,B.prot⟩
def Qot:List (Nat×SkO)→Bool
 | []=>true
 | (_,.tail _ _)::_=>false
 | _::l=>Qot l
def Jpd:TypeDesc→Bool
 | .map _ _=>true
 | _=>false
def Qim(out:Nat):Ex→Ex
 | .x i=>bif Nat.beq i out then .n else .x i
 | e=>e
def Jqs(n:Nat)(E B0:XS)(x0:St)(tk:TE)(it nx mo pr:Nat)(Γ:Shp):Bool:=Jpd tk.d&&(okW n E it&&Nw it x0.env)&&(Qcr it x0.env&&Qcr it E.fix)&&(Jt it x0.mem&&Jt it E.fixM&&!Yb E.prot it)&&(okW n B0 nx&&okW n B0 mo&&okW n B0 pr)&&Qot Γ.mem&&Vg B0.fixM&&!Nat.beq mo nx
def Qou{Γ:Shp}{exs:Exs}(nxt:Nat)(body:XS→(Ex→XS→Option (Γ.De⊕Qb4 exs))→Option (Γ.De⊕Qb4 exs))(B0:XS)(nx mo pr:Nat)(kk vv:Ty)(e:kk.De×vv.De)(s:Γ.De):Option (Γ.De⊕Qb4 exs) :=
 body (Jpc (B0.re (enc Γ s)) nx mo pr (.tp (.cons (.d kk e.1) (.cons (.d vv e.2) .nil)))) fun e S'=>match Qim nxt e with
  | .n=>(match S'.dec Γ with
   | some s'=>some (.inl s')
   | none=>none)
  | .x i=>(match inj exs (.x i) S' with
   | some x=>some (.inr x)
   | none=>none)
  | .r=>(match inj exs .r S' with
   | some x=>some (.inr x)
   | none=>none)
noncomputable def Jf0{R:Type}(n:Nat)(S1:XS)(m it nx mo pr:Nat)(ks ms:List Nat)(Γ:Shp)(exs:Exs)(out nxt:Nat)(kk vv:Ty)(xs:List (kk.De×vv.De))(tk:TE)
  (body:XS→(Ex→XS→Option (Γ.De⊕Qb4 exs))→Option (Γ.De⊕Qb4 exs)) (k:Ex→XS→Option R):Option R :=
 match (mpE S1 ks ms m).dec Γ with
 | some s0=>bif Jqs n (mpE S1 ks ms m) (mpB (mpE S1 ks ms m) it m) (enc Γ s0) tk it nx mo pr Γ then((Qw9 (Qou nxt body (mpB (mpE S1 ks ms m) it m) nx mo pr kk vv) xs s0).bind fun z=>match z with
  | .inl s=>k .n (Qxe S1 ks ms nx mo (enc Γ s))
  | .inr y=>Q0s (mpB (mpE S1 ks ms m) it m) [] [] (fun e S'=>k (Qim out e) (Qxe S1 ks ms nx mo ⟨S'.env,S'.mem⟩)) exs y)else none
 | none=>none
noncomputable def Zl(Y:TX)(K:List Con)(n N:Nat){R:Type}:An→Code→XS→(Ex→XS→Option R)→Option R
 | .nil,.skip,S,k=>k .n S
 | .nil,.ret,S,k=>k .r S
 | .nil,.exit id,S,k=>k (.x id) S
 | .nil,.label _,S,k=>k .n S
 | .reg h,.region _ ⟨ops⟩ false,S,k=>Yx Y K n ops h ops S (k .n)
 | .dr m h1 h2,.region _ ⟨ops⟩ true,S,k=>bif Jfx ops m then L8 Y n ops h1 (ops.take m) S fun S'=>Yx Y K n ops h2 (ops.drop m) S' (k .n)else none
 | .dc p ds zs zf ht,.region _ ⟨ops⟩ true,S,k =>
  bif Q8h ops p ds&&ds.all (fun d=>Nw d S.fix)then
   dcI Y K n ops p ds (Jn S.mem zs).2 (Jn S.fixM zf).2 (Jn S.mem zs).1 (Jn S.fixM zf).1 ht S
    (Qmc S.env (ds++Cc ht)++S.fix) fun h3 S'=>Yx Y K n ops h3 (ops.drop p) S' (k .n)else none
 | .gh g a,c,S,k=>O9 g S fun S'=>Zl Y K n N a c S' k
 | .ch t i a b,c,S,k=>bif Jfy S t i then Zl Y K n N a c S k else Zl Y K n N b c S k
 | .cn t a b,c,S,k=>bif Jfz S t then Zl Y K n N a c S k else Zl Y K n N b c S k
 | .two a b,.seq x y,S,k=>Zl Y K n N a x S fun e S'=>match e with
  | .n=>Zl Y K n N b y S' k
  | .x i=>k (.x i) S'
  | .r=>k .r S'
 | .two a b,.cond c x y,S,k=>match S.ev [] c with
  | some (.d .bool v)=>if v=true then Zl Y K n N a x S k else Zl Y K n N b y S k
  | _=>none
 | .un a,.block id c,S,k=>Zl Y K n N a c S fun e S'=>match e with
  | .n=>k .n S'
  | .x i=>bif Nat.beq i id then k .n S' else k (.x i) S'
  | .r=>k .r S'
 | .un a,.scope c,S,k=>Zl Y K n N a c S k
 | .lp ks ms Γ exs a,.loop c,S,k=>match (S.ent ks ms).dec Γ with
  | some s0=>(Qf (fun s=>Zl Y K n N (R:=Γ.De⊕Qb4 exs) a c ((S.ent ks ms).re (enc Γ s)) fun e S'=>match e with
    | .n=>(match S'.dec Γ with
     | some s'=>some (.inl s')
     | none=>none)
    | .x i=>(match inj exs (.x i) S' with
     | some x=>some (.inr x)
     | none=>none)
    | .r=>(match inj exs .r S' with
     | some x=>some (.inr x)
     | none=>none)) N s0).bind fun x=>Q0s S ks ms k exs x
  | none=>none
 | .jn ks ms exs a,c,S,k=>(Zl Y K n N a c (S.ent ks ms) (inj exs)).bind fun x=>Q0s S ks ms k exs x
 | .mp h ks ms Γ exs h3 a,.seq (.region _ ⟨ops⟩ false) (.block out (.loop (.seq (.region _ ⟨[o1,o2]⟩ false) (.seq (.cond (.tmp mo) .skip (.exit out')) (.block nxt (.seq (.region _ ⟨o3::ops3⟩ false) c)))))),S,k=>match Q5z ops o1 o2 o3 mo with
  | some (t,mt,it,nx,pr)=>bif Nat.beq out out' then Yx Y K n ops h ops.dropLast S fun S1=>match S1.ev [] (.tmp mt),Qh Y.T t with
   | some (.m m),some tk=>match Qe (mpE S1 ks ms m).fixM m with
    | some (.map kk vv xs)=>Jf0 n S1 m it nx mo pr ks ms Γ exs out nxt kk vv xs tk (fun S3 k1=>Yx (R:=Γ.De⊕Qb4 exs) Y K n (o3::ops3) h3 ops3 S3 fun S4=>Zl Y K n N a c S4 k1) k
    | _=>none
   | _,_=>none else none
  | none=>none
 | _,_,_,_=>none
def Q50(Y:TX)(S:XS):List ResultVar→Nat→Option (List En)
 | [],_=>some []
 | .cell ad t::l,i=>match Qic Y S.flat [] (.load t (.tmp ad)),Q50 Y S l (i+1)with
  | some v,some r=>bif Nat.blt i 100000 then some (⟨i,[],v⟩::r)else none
  | _,_=>none
 | .tmp t::l,i=>match S.ev [] (.tmp t),Q50 Y S l (i+1)with
  | some v,some r=>bif Nat.blt i 100000 then some (⟨i,[],v⟩::r)else none
  | _,_=>none
def Ie:List (Nat×Sk)→Nat→Bool
 | [],_=>true
 | (t,_)::l,i=>Nat.beq t i&&Ie l (i+1)
def Jf1(es:List En)(S:XS):(l:List Shp)→Option (Qb5 l)
 | []=>none
 | [s]=>bif Ie s.env 0&&Nat.beq es.length s.env.length then XS.dec S s else none
 | s::r::l=>match (bif Ie s.env 0&&Nat.beq es.length s.env.length then XS.dec S s else none)with
  | some x=>some (.inl x)
  | none=>match Jf1 es S (r::l)with
   | some y=>some (.inr y)
   | none=>none
def fin(Y:TX)(fn:Func)(Δ:List Shp)(S:XS):Option (Qb5 Δ):=match Q50 Y S fn.results.toList 0 with
 | some es=>bif Nat.blt es.length 100000 then Jf1 es ⟨es,[],S.mem,S.fixM,S.prot⟩ Δ else none
 | none=>none
def Qin(gl:List (Nat×Σ t:Ty,t.De)):List En:=gl.map fun q=>⟨100000+q.1,[],.a q.2.1 q.2.2⟩
noncomputable def Jf2(Y:TX)(K:List Con)(N:Nat)(fn:Func)(an:An)(ro:List Nat)(Γ:Shp)(Δ:List Shp)(x:Γ.De):Option (Qb5 Δ):=match fn.body with
 | some c=>bif Nat.ble Γ.env.length fn.ntmps&&(Ie Γ.env 0&&Nat.blt Γ.env.length 100000)then Zl Y K fn.ntmps N an c ⟨(enc Γ x).env,Qin Y.gl,wrM ro (enc Γ x).mem,rdM ro (enc Γ x).mem,Γ.mem.map Prod.fst⟩ fun e S=>match e with
  | .x _=>none
  | .n=>fin Y fn Δ S
  | .r=>fin Y fn Δ S else none
 | none=>none
end Gx

/- What a step gives does not depend on what comes behind it. -/
namespace Gx
open Go Go.RowKit Gd
set_option linter.unusedVariables false
set_option linter.unusedSimpArgs false
theorem Uk{R A:Type}{b:Bool}{x:Option R}{y:Option A}{k:A→Option R}(h:x=y.bind k):(bif b then x else none)=(bif b then y else none).bind k:=by
 cases b
 ·rfl
 ·exact h
theorem F3{T R A:Type}{x:Option T}{f:T→Option R}{g:T→Option A}{k:A→Option R}(h:∀t,f t=(g t).bind k):x.bind f=(x.bind g).bind k:=by
 cases x
 ·rfl
 ·exact h _
section
variable {R:Type} {Y:TX} {n:Nat}
theorem Jkt{S:St}{cur:Va}{op:Op}{k:AV→Option R}:tot Y S cur op k=(tot Y S cur op some).bind k:=by
 unfold tot
 split<;>rfl
theorem Qqa{A:Type}{k:A→Option R}:∀{ps:List PS} {x:AV} {f:AV→Option R} {g:AV→Option A},(∀y,f y=(g y).bind k)→Qp3 ps x f=(Qp3 ps x g).bind k
 | [],x,f,g,h=>h x
 | .f i off::ps,x,f,g,h=>by
  simp only[Qp3]
  split
  ·exact Qqa h
  ·rfl
 | .i j sz::ps,x,f,g,h=>by
  simp only[Qp3]
  split
  ·exact Uk (F3 fun _=>Qqa h)
  ·rfl
theorem Qqb{A:Type}{k:A→Option R}{M:List (Nat×Ob)}:∀{ps:List PS} {x v:AV} {f:AV→Option R} {g:AV→Option A},(∀y,f y=(g y).bind k)→Qne M ps x v f=(Qne M ps x v g).bind k
 | [],x,v,f,g,h=>by
  simp only[Qne]
  exact Uk (h v)
 | .f i off::ps,x,v,f,g,h=>by
  simp only[Qne]
  split
  ·refine Qqb fun x1=>?_
   split
   ·exact h _
   ·rfl
  ·rfl
 | .i j sz::ps,x,v,f,g,h=>by
  simp only[Qne]
  split
  ·refine Uk (F3 fun _=>Qqb fun x1=>?_)
   split
   ·exact h _
   ·rfl
  ·rfl
theorem Q51{S:St}{cur:Va}{op:Op}{k:AV→Option R}:Qkh Y S cur op k=(Qkh Y S cur op some).bind k:=by
 unfold Qkh
 repeat' (first | rfl | exact Jkt | (refine Uk ?_) | (refine F3 fun _=>?_) | split)
theorem Jbf{S:St}{cur:Va}{op:Op}{k:AV→Option R}:Qt5 Y S cur op k=(Qt5 Y S cur op some).bind k:=by
 unfold Qt5
 repeat' (first | rfl | (refine Uk ?_) | (refine F3 fun _=>?_) | (refine Qqa fun _=>?_) | split)
theorem Qub{S:St}{cur:Va}{op:Op}{k:AV→Option R}:Qif Y S cur op k=(Qif Y S cur op some).bind k:=by
 unfold Qif
 split
 ·exact Q51
 ·exact Jbf
theorem Q52{A:Type}{S:St}{cur:Va}{op:Op}{f:AV→Option R}{g:AV→Option A}{k:A→Option R}(h:∀y,f y=(g y).bind k):Qif Y S cur op f=(Qif Y S cur op g).bind k:=by
 rw[Qub (k:=f),Qub (k:=g),Option.bind_assoc]
 exact congrArg _ (funext h)
theorem Qqc{o:Oper}{S:XS}{k:XS→Option R}:Qgo Y n o S k=(Qgo Y n o S some).bind k:=by
 unfold Qgo
 repeat' (first | rfl | (refine Uk ?_) | (refine F3 fun _=>?_) | (refine Q52 fun _=>?_) | split)
theorem Jbg{o:Oper}{S:XS}{k:XS→Option R}:Qua Y n o S k=(Qua Y n o S some).bind k:=by
 unfold Qua
 repeat' (first | rfl | (refine Uk ?_) | (refine F3 fun _=>?_) | (refine Qqb fun _=>?_) | split)
theorem Quc{o:Oper}{S:XS}{k:XS→Option R}:Qma Y n o S k=(Qma Y n o S some).bind k:=by
 unfold Qma
 split
 ·exact Qqc
 ·exact Jbg
theorem Qxf{c:Con}{o:Oper}{S:XS}{k:XS→Option R}:Zw n c o S k=(Zw n c o S some).bind k:=by
 unfold Zw Zw.callE Zw.callR
 repeat' (first | rfl | (refine Uk ?_) | (refine F3 fun _=>?_) | (rw[Qos,Qos]) | split)
theorem Jbh{o:Oper}{S:XS}{k:XS→Option R}:Qfv Y n o S k=(Qfv Y n o S some).bind k:=by
 unfold Qfv Jkr Q5w
 repeat' (first | rfl | exact Qqc | (refine Uk ?_) | (refine F3 fun _=>?_) | split)
theorem Jbi{t:Nat}{want:Bool}{o:Oper}{S:XS}{k:XS→Option R}:Qih Y n t want o S k=(Qih Y n t want o S some).bind k:=by
 unfold Qih
 repeat' (first | rfl | (refine Uk ?_) | split)
theorem Jbj{o:Oper}{S:XS}{k:XS→Option R}:Qcs n o S k=(Qcs n o S some).bind k:=by
 unfold Qcs
 repeat' (first | rfl | (refine Uk ?_) | split)
theorem Jbk{ops:List Oper}{o:Oper}{S:XS}{k:XS→Option R}:Qii Y n ops o S k=(Qii Y n ops o S some).bind k:=by
 unfold Qii
 repeat' (first | rfl | exact Quc | exact Jbi | split)
theorem Jbl{ops:List Oper}{o:Oper}{S:XS}{k:XS→Option R}:stepL Y n ops o S k=(stepL Y n ops o S some).bind k:=by
 unfold stepL
 repeat' (first | rfl | exact Quc | exact Jbj | split)
theorem Qqd{st:{R:Type}→Oper→XS→(XS→Option R)→Option R}(zg:∀{R A:Type} (o:Oper) (S:XS) (f:XS→Option R) (g:XS→Option A) (k:A→Option R),(∀S',f S'=(g S').bind k)→st o S f=(st o S g).bind k) :
  ∀{A:Type} {k:A→Option R} {l:List Oper} {S:XS} {f:XS→Option R} {g:XS→Option A},(∀S',f S'=(g S').bind k)→Qng st l S f=(Qng st l S g).bind k
 | A,k,[],S,f,g,h=>h S
 | A,k,o::l,S,f,g,h=>by
  simp only[Qng]
  exact zg o S _ _ k fun S'=>Qqd zg h
theorem Jku{A:Type}{st:{R:Type}→Oper→XS→(XS→Option R)→Option R}{o:Oper}{S:XS}(h:∀{R:Type} {k:XS→Option R},st o S k=(st o S some).bind k){f:XS→Option R}{g:XS→Option A}{k:A→Option R}(h2:∀S',f S'=(g S').bind k):st o S f=(st o S g).bind k:=by
 rw[h (k:=f),h (k:=g),Option.bind_assoc]
 exact congrArg _ (funext h2)
end
theorem Ko{Y:TX}{K:List Con}{n:Nat}{ops:List Oper}:∀{R A:Type} {h:Hn} {l:List Oper} {S:XS} {f:XS→Option R} {g:XS→Option A} {k:A→Option R},(∀S',f S'=(g S').bind k)→Yx Y K n ops h l S f=(Yx Y K n ops h l S g).bind k
 | R,A,.done,l,S,f,g,k,hk=>by
  simp only[Yx]
  split
  ·exact hk S
  ·rfl
 | R,A,.n m r,l,S,f,g,k,hk=>by
  simp only[Yx]
  exact Qqd (st:=fun {R}=>Qii Y n ops) (fun o S f g k h=>Jku (st:=fun {R}=>Qii Y n ops) Jbk h) fun S'=>Ko hk
 | R,A,.nl m r,l,S,f,g,k,hk=>by
  simp only[Yx]
  exact Qqd (st:=fun {R}=>stepL Y n ops) (fun o S f g k h=>Jku (st:=fun {R}=>stepL Y n ops) Jbl h) fun S'=>Ko hk
 | R,A,.call c r,l,S,f,g,k,hk=>by
  simp only[Yx]
  have hc:∀{con:Con} {o:Oper} {l':List Oper},Zw n con o S (fun S'=>Yx Y K n ops r l' S' f)=(Zw n con o S (fun S'=>Yx Y K n ops r l' S' g)).bind k:=fun {con o l'}=>Jku (st:=fun {R}=>Zw n con) Qxf fun S'=>Ko hk
  repeat' (first | rfl | exact hc | split)
 | R,A,.br r,l,S,f,g,k,hk=>by
  simp only[Yx]
  have hc:∀{o:Oper} {l':List Oper},Qfv Y n o S (fun S'=>Yx Y K n ops r l' S' f)=(Qfv Y n o S (fun S'=>Yx Y K n ops r l' S' g)).bind k:=fun {o l'}=>Jku (st:=fun {R}=>Qfv Y n) Jbh fun S'=>Ko hk
  repeat' (first | rfl | exact hc | split)
 | R,A,.fz id r,l,S,f,g,k,hk=>by
  simp only[Yx]
  exact Ko hk
 | R,A,.keep ts r,l,S,f,g,k,hk=>by
  simp only[Yx]
  exact Ko hk
 | R,A,.op src id d r,l,S,f,g,k,hk=>by
  simp only[Yx]
  unfold Q0w Jmh
  repeat' (first | rfl | exact Ko hk | (refine Uk ?_) | split)
 | R,A,.cl id r,l,S,f,g,k,hk=>by
  simp only[Yx]
  unfold Qp6
  repeat' (first | rfl | exact Ko hk | (refine Uk ?_) | split)
 | R,A,.fm id r,l,S,f,g,k,hk=>by
  simp only[Yx]
  unfold Q0v
  repeat' (first | rfl | exact Ko hk | (refine Uk ?_) | split)
 | R,A,.sp t m ks ms Γ a b r,l,S,f,g,k,hk=>by
  simp only[Yx]
  split
  ·exact Uk (F3 fun _=>Ko hk)
  ·rfl
 | R,A,.si t i a b,l,S,f,g,k,hk=>by
  simp only[Yx]
  split
  ·refine Uk ?_
   split
   ·exact Ko hk
   ·exact Ko hk
  ·rfl
 | R,A,.md _ _,l,S,f,g,k,hk=>by simp only[Yx]; rfl
 | R,A,.tl _,l,S,f,g,k,hk=>by simp only[Yx]; rfl
 | R,A,.dt _ _,l,S,f,g,k,hk=>by simp only[Yx]; rfl
 | R,A,.so _ _ _,l,S,f,g,k,hk=>by simp only[Yx]; rfl
theorem Qqe{Y:TX}{K:List Con}{n:Nat}{ops:List Oper}{R:Type}{r:R}{h:Hn}{l:List Oper}{S:XS}{k:XS→Option R}(hs:Yx Y K n ops h l S k=some r):∃S1,k S1=some r∧Yx (R:=XS) Y K n ops h l S some=some S1:=by
 have e:=Ko (Y:=Y) (K:=K) (n:=n) (ops:=ops) (h:=h) (l:=l) (S:=S) (f:=k) (g:=some) (k:=k) fun S'=>rfl
 rw[e]at hs
 obtain⟨S1,h1,h2⟩:=ZH.1 hs
 exact⟨S1,h2,h1⟩
end Gx

/- States, and what becomes of them: new objects, other names. -/
namespace Gd
open Go Go.RowKit
section
variable {β:Nat→Nat} {X:Cx} {G:GL} {D:List DF} {H:HL} {O:List TL} {a:Act} {w w':World}
def Wa(t t':TL):Prop:=(∀g,t'.blks g↔t.blks g)∧(∀b o,t'.cov b o↔t.cov b o)∧∀ok w,t.p ok w→t'.p ok w
inductive Xc:List TL→List TL→Prop
 | nil:Xc [] []
 | cons {t t':TL} {l l':List TL} (h:Wa t t') (r:Xc l l'):Xc (t::l) (t'::l')
theorem Wa.refl(t:TL):Wa t t:=⟨fun _=>Iff.rfl,fun _ _=>Iff.rfl,fun _ _ h=>h⟩
theorem Xc.refl:∀l:List TL,Xc l l
 | []=>.nil
 | t::l=>.cons (Wa.refl t) (Xc.refl l)
theorem Xc.mem{l l':List TL}(h:Xc l l'):∀t'∈l',∃t∈l,Wa t t':=by
 induction h with
 | nil=>simp
 | cons h r ih =>
  intro u hu
  rcases QX.1 hu with rfl | hu
  ·exact⟨_,.head _,h⟩
  ·obtain⟨t,ht,hs⟩:=ih u hu; exact⟨t,.tail _ ht,hs⟩
theorem Xc.pw{l l':List TL}(h:Xc l l')(hp:l.Pairwise fun s t=>∀g,s.blks g→¬ t.blks g):l'.Pairwise fun s t=>∀g,s.blks g→¬ t.blks g:=by
 induction h with
 | nil=>exact .nil
 | cons h r ih =>
  have:=QG.1 hp
  refine QG.2 ⟨fun u hu g hg zt=>?_,ih this.2⟩
  obtain⟨t,ht,hs⟩:=r.mem u hu
  exact this.1 t ht g ((h.1 g).1 hg) ((hs.1 g).1 zt)
theorem Xc.append{l l' m m':List TL}(h:Xc l l')(k:Xc m m'):Xc (l++m) (l'++m'):=by
 induction h with
 | nil=>exact k
 | cons h _ ih=>exact .cons h ih
theorem Xc.ok{l l':List TL}(h:Xc l l'){ok0:Ok}{B:Nat}:∀b o,Jf ok0 B β H l w b o→Jf ok0 B β H l' w b o:=by
 rintro b o ⟨h1,h2,h3,h4⟩
 refine⟨h1,h2,h3,fun u hu hc=>?_⟩
 obtain⟨t,ht,hs⟩:=h.mem u hu
 exact h4 t ht ((hs.2.1 b o).1 hc)
theorem Sb.simO{O':List TL}(h:Sb β X G D H O a w)(hs:Xc O O'):Sb β X G D H O' a w :=
 { sz:=h.sz,df:=h.df,fr:=h.fr,pn:=h.pn,tm:=h.tm,bel:=h.bel,dat:=h.dat.weak hs.ok,obj:=h.obj,own:=fun u hu=>let⟨t,ht,zg⟩:=hs.mem u hu; ⟨u.weak (zg.2.2 _ _ (h.own t ht).1) hs.ok,fun g hg=>(h.own t ht).2 g ((zg.1 g).1 hg)⟩,dHH:=h.dHH,dHO:=fun p hp u hu hg=>let⟨t,ht,zg⟩:=hs.mem u hu; h.dHO p hp t ht ((zg.1 _).1 hg),dOO:=hs.pw h.dOO }
theorem Sb.subO{O':List TL}(h:Sb β X G D H O a w)(hs:O'.Sublist O):Sb β X G D H O' a w:=by
 have kj:∀b o,Jf X.ok X.w.heap.size β H O w b o→Jf X.ok X.w.heap.size β H O' w b o:=fun b o ⟨h1,h2,h3,h4⟩=>⟨h1,h2,h3,fun u hu=>h4 u (hs.subset hu)⟩
 exact { sz:=h.sz,df:=h.df,fr:=h.fr,pn:=h.pn,tm:=h.tm,bel:=h.bel,dat:=h.dat.weak kj,obj:=h.obj,own:=fun u hu=>⟨u.weak (h.own u (hs.subset hu)).1 kj,(h.own u (hs.subset hu)).2⟩,dHH:=h.dHH,dHO:=fun p hp u hu=>h.dHO p hp u (hs.subset hu),dOO:=h.dOO.sublist hs }
theorem Rx{O1 O1' O2:List TL}{L:List Nat}(h:Sb β X G D [] (O1++O2) a w)(_:w.heap.size≤w'.heap.size)(hL:∀g∈L,∃t∈O1,t.blks g) :
  ∀b o,Jf (okL L (Jf X.ok X.w.heap.size β [] (O1++O2) w)) w.heap.size β [] O1' w' b o→Jf X.ok X.w.heap.size β [] (O1'++O2) w' b o:=by
 rintro b o ⟨h1,h2,_,h4⟩
 have hO2:∀u∈O2,¬ u.cov b o→∀v∈O1'++O2,v=u→¬ v.cov b o:=fun u _ hn v _ e=>e▸hn
 have fin:(X.ok b o∨X.w.heap.size≤b)→(∀u∈O2,¬ u.cov b o)→Jf X.ok X.w.heap.size β [] (O1'++O2) w' b o:=by
  intro h5 h6
  refine⟨h5,h2,by simp,fun u hu=>?_⟩
  rcases QW.1 hu with hu | hu
  ·exact h4 u hu
  ·exact h6 u hu
 rcases h1 with(h1 | h1) | h1
 ·exact fin h1.1 fun u hu=>h1.2.2.2 u (by simp[hu])
 ·obtain⟨t,ht,hg⟩:=hL b h1
  have hm:=(h.own t (by simp[ht])).2 b hg
  refine fin (X.mine_ok hm o) fun u hu hc=>?_
  exact(QM.1 h.dOO).2.2 t ht u hu b hg (u.cb hc)
 ·refine fin (.inr (QN h.bel.size h1)) fun u hu hc=>?_
  have:=h.olt (t:=u) (by simp[hu]) (u.cb hc)
  omega
theorem Sb.callO{O1 O1' O2:List TL}{L:List Nat}(h:Sb β X G D [] (O1++O2) a w)(hb:Ud L w.heap.size w w')(hL:∀g∈L,∃t∈O1,t.blks g)(xz:∀t∈O1,∀b o,t.blks b→t.cov b o)
  (hp:∀t∈O1',t.p (Jf (okL L (Jf X.ok X.w.heap.size β [] (O1++O2) w)) w.heap.size β [] O1' w') w'∧∀g,t.blks g→w.heap.size≤g∨g∈L) (hd:O1'.Pairwise fun s t=>∀g,s.blks g→¬ t.blks g) :
  Sb β X G D [] (O1'++O2) a w':=by
 have xc:=QM.1 h.dOO
 have zn:∀b,b<w.heap.size→(∀t∈O1,¬ t.blks b)→w'.heap[b]?=w.heap[b]?:=fun b yo hn=>hb.block b yo fun hm=>by obtain⟨t,ht,hg⟩:=hL b hm; exact hn t ht hg
 have kq:Evo (Jf X.ok X.w.heap.size β [] (O1++O2) w) w w':=Evo.of_blocks hb.size fun b o hk=>zn b hk.2.1 fun t ht hg=>hk.2.2.2 t (by simp[ht]) (xz t ht b o hg)
 have kj:∀b o,Jf X.ok X.w.heap.size β [] (O1++O2) w b o→Jf X.ok X.w.heap.size β [] (O1'++O2) w' b o:=by
  rintro b o ⟨h1,h2,h3,h4⟩
  refine⟨h1,JU h2 hb.size,h3,fun u hu hc=>?_⟩
  rcases QW.1 hu with hu | hu
  ·rcases(hp u hu).2 b (u.cb hc)with hg | hg
   ·omega
   ·obtain⟨t,ht,hg⟩:=hL b hg
    exact h4 t (by simp[ht]) (xz t ht b o hg)
  ·exact h4 u (by simp[hu]) hc
 have zd:∀t∈O1',∀g,t.blks g→X.mine g:=by
  intro t ht g hg
  rcases(hp t ht).2 g hg with h1 | h1
  ·exact .inl (QN h.bel.size h1)
  ·obtain⟨u,hu,hg⟩:=hL g h1
   exact(h.own u (by simp[hu])).2 g hg
 have hO2:∀u∈O2,∀g,u.blks g→w'.heap[g]?=w.heap[g]?:=fun u hu g hg=>zn g (h.olt (by simp[hu]) hg) fun t ht zt=>xc.2.2 t ht u hu g zt hg
 refine { sz:=h.sz,df:=h.df,fr:=h.fr,pn:=h.pn,tm:=h.tm,bel:=?_,dat:=(h.dat.evo kq).weak kj,obj:=by simp,own:=?_,dHH:=by simp,dHO:=by simp,dOO:=?_ }
 ·refine h.bel.trans ⟨hb.os,hb.tape,hb.output,hb.size,fun k hk hn=>zn k (JU hk h.bel.size) fun t ht hg=>?_⟩
  exact((h.own t (by simp[ht])).2 k hg).elim (fun h=>by omega) hn
 ·intro u hu
  rcases QW.1 hu with hu | hu
  ·exact⟨u.weak (hp u hu).1 (Rx h hb.size hL),zd u hu⟩
  ·have:=h.own u (by simp[hu]:u∈O1++O2)
   exact⟨u.weak (u.keep this.1 (hO2 u hu) kq) kj,this.2⟩
 ·refine QM.2 ⟨hd,xc.2.1,fun t ht u hu g hg zt=>?_⟩
  rcases(hp t ht).2 g hg with h1 | h1
  ·have:=h.olt (t:=u) (by simp[hu]) zt; omega
  ·obtain⟨v,hv,hg3⟩:=hL g h1
   exact xc.2.2 v hv u hu g hg3 zt
end
end Gd
namespace Gx
open Go Go.RowKit Gd
set_option linter.unusedVariables false
set_option linter.unusedSimpArgs false
def upd{α:Type}(f:Nat→α)(d:Nat)(v:α):Nat→α:=fun i=>if i=d then v else f i
theorem Jd{α:Type}(f:Nat→α)(d:Nat)(v:α):upd f d v d=v:=by simp[upd]
theorem Zq{α:Type}(f:Nat→α){d i:Nat}(v:α)(h:i≠d):upd f d v i=f i:=by simp[upd,h]
def Qfx(d:Nat)(β β':Nat→Nat)(ρ ρ':Nat→Value):Prop:=∀i,i≠d→β' i=β i∧ρ' i=ρ i
theorem Qep(d:Nat)(β:Nat→Nat)(ρ:Nat→Value)(g:Nat)(v:Value):Qfx d β (upd β d g) ρ (upd ρ d v):=fun i h=>⟨Zq _ _ h,Zq _ _ h⟩
theorem neB{a b:Nat}(h:(!Nat.beq a b)=true):a≠b:=by
 intro e; subst e; simp[JY]at h
section
variable {β β':Nat→Nat} {ρ ρ':Nat→Value} {ok:Ok} {w:World} {d:Nat}
theorem G0(ha:Qfx d β β' ρ ρ'):∀{m:Bool} {x:AV} {cs:List Value},Uw d x=true→cr β ρ ok w m x cs→cr β' ρ' ok w m x cs
 | m,.d t x,cs,_,h=>by cases m<;>exact h
 | m,.p id path,cs,hn,h=>by
  have:=(ha id (neB (by simpa[Uw]using hn))).1
  cases m<;>(simp only[cr]at h ⊢; rw[this]; exact h)
 | m,.e id path,cs,hn,h=>by
  have:=(ha id (neB (by simpa[Uw]using hn))).2
  cases m<;>(simp only[cr]at h ⊢; rw[this]; exact h)
 | m,.s id,cs,hn,h=>by
  have:=(ha id (neB (by simpa[Uw]using hn))).2
  cases m<;>(simp only[cr]at h ⊢; rw[this]; exact h)
 | m,.m id,cs,hn,h=>by
  have:=(ha id (neB (by simpa[Uw]using hn))).1
  cases m<;>(simp only[cr]at h ⊢; rw[this]; exact h)
 | m,.b id,cs,hn,h=>by
  have:=(ha id (neB (by simpa[Uw]using hn))).1
  cases m<;>(simp only[cr]at h ⊢; rw[this]; exact h)
 | m,.w id _ _,cs,hn,h=>by
  have:=(ha id (neB (by simpa[Uw]using hn))).1
  cases m<;>(simp only[cr]at h ⊢; rw[this]; exact h)
 | m,.a t x,cs,_,h=>by cases m<;>exact h
 | m,.z,cs,_,h=>by cases m<;>exact h
 | m,.ns,cs,_,h=>by cases m<;>exact h
 | m,.np,cs,_,h=>by cases m<;>exact h
 | m,.nm,cs,_,h=>by cases m<;>exact h
 | m,.nf,cs,_,h=>by cases m<;>exact h
 | m,.f fn caps,cs,hn,h=>by cases m<;>exact let⟨vs,h1,h2⟩:=h; ⟨vs,h1,G0 ha (by simpa[Uw]using hn) h2⟩
 | m,.ag l,cs,hn,h=>by cases m<;>exact G0 ha (m:=false) (x:=l) (by simpa[Uw]using hn) h
 | m,.tp l,cs,hn,h=>by cases m<;>exact let⟨vs,h1,h2⟩:=h; ⟨vs,h1,G0 ha (by simpa[Uw]using hn) h2⟩
 | m,.nil,cs,_,h=>by cases m<;>exact h
 | true,.cons x r,cs,hn,h=>by
  simp only[Uw,QQ]at hn
  exact let⟨c1,vs,h1,h2,h3⟩:=h; ⟨c1,vs,h1,G0 ha hn.1 h2,G0 ha hn.2 h3⟩
 | false,.cons x r,cs,hn,h=>by
  simp only[Uw,QQ]at hn
  exact let⟨c1,vs,h1,h2,h3⟩:=h; ⟨c1,vs,h1,G0 ha hn.1 h2,G0 ha hn.2 h3⟩
def Jqt(d:Nat):Ob→Prop
 | .var _ c=>Uw d c=true
 | .mapC _ _ _ (some q)=>q.2≠d
 | .mapE _ _ _ _ j=>j≠d
 | _=>True
theorem X6:∀{M:List (Nat×Ob)},Jt d M=true→∀q∈M,q.1≠d∧Jqt d q.2
 | [],_,q,hq=>by cases hq
 | (k,o)::l,h,q,hq=>by
  cases o with
  | var t c =>
   simp only[Jt,QQ]at h
   rcases QX.1 hq with rfl | hq
   ·exact⟨neB h.1.1,h.1.2⟩
   ·exact X6 h.2 q hq
  | mapC k1 v xs hole =>
   cases hole with
   | none =>
    simp only[Jt,QQ]at h
    rcases QX.1 hq with rfl | hq
    ·exact⟨neB h.1,trivial⟩
    ·exact X6 h.2 q hq
   | some q0 =>
    simp only[Jt,QQ]at h
    rcases QX.1 hq with rfl | hq
    ·exact⟨neB h.1.1,neB h.1.2⟩
    ·exact X6 h.2 q hq
  | mapE k1 v xs key j =>
   simp only[Jt,QQ]at h
   rcases QX.1 hq with rfl | hq
   ·exact⟨neB h.1.1,neB h.1.2⟩
   ·exact X6 h.2 q hq
  | _ =>
   simp only[Jt,QQ]at h
   rcases QX.1 hq with rfl | hq
   ·exact⟨neB h.1,trivial⟩
   ·exact X6 h.2 q hq
theorem N7(ha:Qfx d β β' ρ ρ'):∀{M:List (Nat×Ob)},Jt d M=true→Xc (Qg β ρ M) (Qg β' ρ' M)
 | [],_=>.nil
 | (k,o)::l,h=>by
  have hq:=X6 h (k,o) (.head _)
  have hl:Jt d l=true:=by
   cases o with
   | mapC k1 v xs hole=>cases hole<;>simp only[Jt,QQ]at h<;>exact h.2
   | _=>simp only[Jt,QQ]at h; exact h.2
  refine .cons ?_ (N7 ha hl)
  obtain⟨h1,h2⟩:=ha k hq.1
  cases o with
  | var t c =>
   refine⟨fun g=>by simp only[Qx,Ql6]; rw[h1],fun b o=>by simp only[Qx,Ql6]; rw[h1],fun ok w hp=>?_⟩
   obtain⟨cs,hh,hc⟩:=hp
   exact⟨cs,by rw[h1]; exact hh,G0 ha hq.2 hc⟩
  | row e t xs=>simp only[Qx,h2]; exact Wa.refl _
  | tail e t xs=>simp only[Qx,h2]; exact Wa.refl _
  | map k v xs=>simp only[Qx,h1]; exact Wa.refl _
  | mapC k1 v xs hole =>
   have hv:Lz β' ρ' v hole=Lz β ρ v hole:=by
    cases hole with
    | none=>rfl
    | some q=>cases v<;>simp only[Lz,(ha q.2 hq.2).1,(ha q.2 hq.2).2]
   simp only[Qx,h1,h2,hv]; exact Wa.refl _
  | mapE k1 v xs key j =>
   simp only[Qx,h1,(ha j hq.2).1]; exact Wa.refl _
theorem Jkv{a:Act}(ha:Qfx d β β' ρ ρ'){e:En}(hn:Uw d e.av=true)(h:(enD β ρ a e).p ok w):(enD β' ρ' a e).p ok w :=
 ⟨fun hc=>let⟨cs,h1,h2⟩:=h.1 hc; ⟨cs,h1,G0 ha hn h2⟩,h.2⟩
theorem Qgq{l:List En}{e:En}(h:e∈Yv d l):e∈l∧Uw d e.av=true:=by
 induction l with
 | nil=>cases h
 | cons x l ih =>
  simp only[Yv]at h
  cases hb:Uw d x.av with
  | true =>
   rw[hb]at h
   rcases QX.1 h with rfl | h
   ·exact⟨.head _,hb⟩
   ·exact⟨.tail _ (ih h).1,(ih h).2⟩
  | false=>rw[hb]at h; exact⟨.tail _ (ih h).1,(ih h).2⟩
theorem Ry{l:List En}(h:Qcr d l=true):∀e∈l,Uw d e.av=true:=by
 induction l with
 | nil=>intro e he; cases he
 | cons x l ih =>
  simp only[Qcr,QQ]at h
  intro e he
  rcases QX.1 he with rfl | he
  ·exact h.1
  ·exact ih h.2 e he
end
section
variable {X:Cx} {β β':Nat→Nat} {ρ ρ':Nat→Value} {S:St} {a:Act} {w w':World} {d:Nat}
theorem Rel.off(h:Rel X β ρ S a w)(ha:Qfx d β β' ρ ρ')(hf:Jt d S.mem=true){env':List En}(he:∀e∈env',e∈S.env∧Uw d e.av=true):Rel X β' ρ' ⟨env',S.mem⟩ a w:=by
 have h1:=Sb.simO h (N7 ha hf)
 refine { h1 with dat:=Jg.2 fun x hx=>?_ }
 obtain⟨e,hm,rfl⟩:=QY.1 hx
 obtain⟨h2,h3⟩:=he e hm
 exact Jkv ha h3 ((enD β ρ a e).weak (h.en h2) (N7 ha hf).ok)
theorem Rel.ofSb{G:GL}{D:List DF}{O:List TL}(h:Sb (fun _=>0) X G D [] O a w){mem:List (Nat×Ob)}(hO:O=Qg β ρ mem){env:List En}
  (he:∀e∈env,(enD β ρ a e).p (okR X β ρ mem w) w):Rel X β ρ ⟨env,mem⟩ a w:=by
 subst hO
 exact { h with tm:=by simp,dat:=Jg.2 fun x hx=>by obtain⟨e,hm,rfl⟩:=QY.1 hx; exact he e hm }
theorem Rel.alloc(h:Rel X β ρ S a w)(ha:Qfx d β β' ρ ρ')(hf:Jt d S.mem=true){env':List En}(he:∀e∈env',e∈S.env∧Uw d e.av=true)(hb:Below w.heap.size w w'){o:Ob}
  (ht:∀g,(Qx β' ρ' d o).blks g→w.heap.size≤g) (hq:(Qx β' ρ' d o).p (okR X β' ρ' ((d,o)::S.mem) w') w'):Rel X β' ρ' ⟨env',(d,o)::S.mem⟩ a w' :=
 Sb.allocTL (h.off ha hf he) hb ht hq
end
end Gx
