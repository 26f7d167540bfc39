/- Shapes of states; the interpreter. -/
import Derived.Test.YtfkpgpibpnghiaaGreatXMc
import Derived.StillTail
import Derived.Test.YtfkpgpibpnghiaaGreatGDraw
namespace Gx
open Go Go.RowKit Gd
set_option linter.unusedVariables false
set_option linter.unusedSimpArgs false
inductive Sk where
 | d (t:Ty)
 | p (id:Nat) (path:List PS)
 | s (id:Nat) | m (id:Nat)
 | ns | np | nm | nf | z
 | f (fn:FuncId) (caps:Sk)
 | ag (l:Sk) | nil | cons (x r:Sk)
inductive SkO where
 | var (tid:TypeId) (c:Sk)
 | row (e:TypeId) (t:Ty)
 | tail (e:TypeId) (t:Ty)
 | map (k v:Ty)
 | mapC (k:Ty) (c:CK)
structure Shp where
 env:List (Nat×Sk)
 mem:List (Nat×SkO)
abbrev DV:=Σ t:Ty,t.De
def Sk.tys:Sk→List Ty
 | .d t=>[t]
 | .f _ c=>c.tys
 | .ag l=>l.tys
 | .cons x r=>x.tys++r.tys
 | _=>[]
def SkO.tys:SkO→List Ty
 | .var _ c=>c.tys
 | .row _ t=>[.sl t]
 | .tail _ t=>[.sl t]
 | .map k v=>[.sl (.pr k v)]
 | .mapC k c=>[.sl (.pr k c.ty)]
def Jij:List (Nat×Sk)→List Ty
 | []=>[]
 | q::l=>q.2.tys++Jij l
def Jik:List (Nat×SkO)→List Ty
 | []=>[]
 | q::l=>q.2.tys++Jik l
def Shp.tys(Γ:Shp):List Ty:=Jij Γ.env++Jik Γ.mem
@[reducible] def Tup:List Ty→Type
 | []=>Unit
 | [t]=>t.De
 | t::u::ts=>t.De×Tup (u::ts)
abbrev Shp.De(Γ:Shp):Type:=Tup Γ.tys
def toL:(ts:List Ty)→Tup ts→List DV
 | [],_=>[]
 | [t],x=>[⟨t,x⟩]
 | t::u::ts,x=>⟨t,x.1⟩::toL (u::ts) x.2
def ofL:(ts:List Ty)→List DV→Option (Tup ts)
 | [],[]=>some ()
 | [t],[v]=>Ty.cast v.1 t v.2
 | t::u::ts,v::vs=>match Ty.cast v.1 t v.2,ofL (u::ts) vs with
  | some a,some b=>some (a,b)
  | _,_=>none
 | _,_=>none
def Nt:Sk→List DV→AV×List DV
 | .d t,v::vs=>(.d v.1 v.2,vs)
 | .d _,[]=>(.nil,[])
 | .p id path,vs=>(.p id path,vs)
 | .s id,vs=>(.s id,vs)
 | .m id,vs=>(.m id,vs)
 | .ns,vs=>(.ns,vs)
 | .np,vs=>(.np,vs)
 | .nm,vs=>(.nm,vs)
 | .nf,vs=>(.nf,vs)
 | .z,vs=>(.z,vs)
 | .f fn c,vs=>match Nt c vs with
  | (x,r)=>(.f fn x,r)
 | .ag l,vs=>match Nt l vs with
  | (x,r)=>(.ag x,r)
 | .nil,vs=>(.nil,vs)
 | .cons a b,vs=>match Nt a vs with
  | (x,r)=>match Nt b r with
   | (y,r')=>(.cons x y,r')
def Qdb:SkO→List DV→Option (Ob×List DV)
 | .var tid c,vs=>match Nt c vs with
  | (x,r)=>some (.var tid x,r)
 | .row e t,v::vs=>match Ty.cast v.1 (.sl t) v.2 with
  | some xs=>some (.row e t xs,vs)
  | none=>none
 | .tail e t,v::vs=>match Ty.cast v.1 (.sl t) v.2 with
  | some xs=>some (.tail e t xs,vs)
  | none=>none
 | .map k u,v::vs=>match Ty.cast v.1 (.sl (.pr k u)) v.2 with
  | some xs=>some (.map k u xs,vs)
  | none=>none
 | .mapC k c,v::vs=>match Ty.cast v.1 (.sl (.pr k c.ty)) v.2 with
  | some xs=>some (.mapC k c xs none,vs)
  | none=>none
 | _,[]=>none
def Ly:List (Nat×Sk)→List DV→List En×List DV
 | [],vs=>([],vs)
 | (t,s)::l,vs=>match Nt s vs with
  | (x,r)=>match Ly l r with
   | (es,r')=>(⟨t,[],x⟩::es,r')
def Xc:List (Nat×SkO)→List DV→List (Nat×Ob)
 | [],_=>[]
 | (t,s)::l,vs=>match Qdb s vs with
  | some (x,r)=>(t,x)::Xc l r
  | none=>[]
structure XS where
 env:List En
 fix:List En
 mem:List (Nat×Ob)
 fixM:List (Nat×Ob)
 prot:List Nat
def XS.flat(S:XS):St:=⟨S.env++S.fix,S.mem++S.fixM⟩
abbrev XS.ev(S:XS)(cur:Vk)(x:Operand):Option AV:=Gx.ev S.flat cur x
def enc(Γ:Shp)(x:Γ.De):St:=match Ly Γ.env (toL Γ.tys x)with
 | (es,r)=>⟨es,Xc Γ.mem r⟩
def PS.beq:PS→PS→Bool
 | .f k o,.f k' o'=>Nat.beq k k'&&Nat.beq o o'
 | _,_=>false
def Qys:List PS→List PS→Bool
 | [],[]=>true
 | a::l,b::m=>PS.beq a b&&Qys l m
 | _,_=>false
def isNone{α:Type}:Option α→Bool
 | none=>true
 | some _=>false
def CK.beq:CK→CK→Bool
 | .sl e u,.sl e' u'=>Nat.beq e e'&&Ty.beq u u'
 | .mp k v,.mp k' v'=>Ty.beq k k'&&Ty.beq v v'
 | _,_=>false
def Jd0:Sk→AV→List (Nat×Nat)
 | .s id,.s c=>[(id,c)]
 | .p id _,.p c _=>[(id,c)]
 | .m id,.m c=>[(id,c)]
 | .f _ x,.f _ y=>Jd0 x y
 | .ag l,x=>match Qad x with
  | some y=>Jd0 l y
  | none=>[]
 | .cons a b,.cons x y=>Jd0 a x++Jd0 b y
 | _,_=>[]
def Jat(env:List En):List (Nat×Sk)→List (Nat×Nat)
 | []=>[]
 | (t,s)::l=>match Xt env t with
  | some e=>Jd0 s e.av++Jat env l
  | none=>Jat env l
def Qvp(M:List (Nat×Ob)):List (Nat×SkO)→List (Nat×Nat)→List (Nat×Nat)
 | [],ri=>ri
 | (id,.var _ c)::l,ri=>match Jo ri id with
  | some i=>match Qh M i with
   | some (.var _ x)=>Qvp M l (ri++Jd0 c x)
   | _=>Qvp M l ri
  | none=>Qvp M l ri
 | _::l,ri=>Qvp M l ri
def Jp6(Γ:Shp)(S:St):List (Nat×Nat):=Qvp S.mem Γ.mem (Jat S.env Γ.env)
def Yl:List Nat→Nat→Bool
 | [],_=>false
 | k::l,t=>Nat.beq k t||Yl l t
def Qvq:AV→List Nat
 | .s id=>[id]
 | .ag l=>Qvq l
 | .cons x r=>Qvq x++Qvq r
 | _=>[]
def Jd1:Sk→AV→List Nat
 | .d _,x=>Qvq x
 | .f _ a,.f _ x=>Jd1 a x
 | .ag l,x=>match Qad x with
  | some y=>Jd1 l y
  | none=>[]
 | .cons a b,.cons x y=>Jd1 a x++Jd1 b y
 | _,_=>[]
def Jil(env:List En):List (Nat×Sk)→List Nat
 | []=>[]
 | (t,s)::l=>match Xt env t with
  | some e=>Jd1 s e.av++Jil env l
  | none=>Jil env l
def Qyt(M:List (Nat×Ob))(ri:List (Nat×Nat)):List (Nat×SkO)→List Nat
 | []=>[]
 | (id,.var _ c)::l=>match Jo ri id with
  | some i=>match Qh M i with
   | some (.var _ x)=>Jd1 c x++Qyt M ri l
   | _=>Qyt M ri l
  | none=>Qyt M ri l
 | (id,.tail _ _)::l=>match Jo ri id with
  | some i=>i::Qyt M ri l
  | none=>Qyt M ri l
 | _::l=>Qyt M ri l
def Vs(ks:List Nat):List (Nat×Ob)→List (Nat×Ob)
 | []=>[]
 | (id,.row e t xs)::l=>(bif Yl ks id&&Nat.ble 1 t.size then(id,.tail e t xs)else(id,.row e t xs))::Vs ks l
 | q::l=>q::Vs ks l
def Q7v(ri:List (Nat×Nat))(id c:Nat):Bool:=match Jo ri id with
 | some i=>Nat.beq i c
 | none=>false
def Sk.isL:Sk→Bool
 | .nil=>true
 | .cons _ b=>b.isL
 | _=>false
def Up(M:List (Nat×Ob))(ri:List (Nat×Nat))(pr:List Nat):Sk→AV→Option (List DV)
 | .d t,v=>match asD M v t with
  | some x=>bif t.agg==v.isAgg then some [⟨t,x⟩]else none
  | none=>none
 | .p id path,.p c path'=>bif Q7v ri id c&&Qys path path' then some []else none
 | .s id,.s c=>bif Q7v ri id c&&!isNone (Qh M c)then some []else none
 | .s id,.ns=>bif isNone (Jo ri id)&&!Yl pr id then some []else none
 | .m id,.m c=>bif Q7v ri id c then some []else none
 | .ns,.ns=>some []
 | .np,.np=>some []
 | .nm,.nm=>some []
 | .nf,.nf=>some []
 | .z,.z=>some []
 | .f fn c,.f fn' x=>bif Nat.beq fn fn'&&c.isL then Up M ri pr c x else none
 | .ag l,x=>match Qad x with
  | some y=>Up M ri pr l y
  | none=>none
 | .nil,.nil=>some []
 | .cons a b,.cons x y=>match Up M ri pr a x,Up M ri pr b y with
  | some u,some v=>some (u++v)
  | _,_=>none
 | _,_=>none
def Qq8(M:List (Nat×Ob))(ri:List (Nat×Nat))(pr:List Nat)(env:List En):List (Nat×Sk)→Option (List DV)
 | []=>some []
 | (t,s)::l=>match Xt env t with
  | some ⟨_,[],x⟩=>match Up M ri pr s x,Qq8 M ri pr env l with
   | some u,some v=>some (u++v)
   | _,_=>none
  | _=>none
def Sp(M:List (Nat×Ob))(ri:List (Nat×Nat))(pr:List Nat):SkO→Option Ob→Option (List DV)
 | .var tid c,some (.var tid' x)=>bif Nat.beq tid tid' then Up M ri pr c x else none
 | .row e t,some (.row e' t' xs)=>bif Nat.beq e e'&&Ty.beq t t' then some [⟨.sl t',xs⟩]else none
 | .row e t,none=>some [⟨.sl t,[]⟩]
 | .tail e t,some (.tail e' t' xs)=>bif Nat.beq e e'&&Ty.beq t t' then some [⟨.sl t',xs⟩]else none
 | .tail e t,none=>some [⟨.sl t,[]⟩]
 | .map k u,some (.map k' u' xs)=>bif Ty.beq k k'&&Ty.beq u u' then some [⟨.sl (.pr k' u'),xs⟩]else none
 | .mapC k c,some (.mapC k' c' xs hole)=>bif Ty.beq k k'&&CK.beq c c'&&isNone hole then some [⟨.sl (.pr k' c'.ty),xs⟩]else none
 | _,_=>none
def Jau(M:List (Nat×Ob))(ri:List (Nat×Nat))(id:Nat):Option (Option Ob):=match Jo ri id with
 | none=>some none
 | some c=>match Qh M c with
  | some o=>some (some o)
  | none=>none
def Rc(M F:List (Nat×Ob))(ri:List (Nat×Nat))(pr:List Nat):List (Nat×SkO)→Option (List DV)
 | []=>some []
 | (t,s)::l=>match Jau M ri t with
  | some o=>match Sp (M++F) ri pr s o,Rc M F ri pr l with
   | some u,some v=>some (u++v)
   | _,_=>none
  | none=>none
def Bh(ri:List (Nat×Nat)):List (Nat×SkO)→List Nat→Bool
 | [],_=>true
 | (id,_)::l,cs=>match Jo ri id with
  | some c=>!Yl cs c&&Bh ri l (c::cs)
  | none=>Bh ri l cs
def Jim:List (Nat×SkO)→List Nat→Bool
 | [],_=>true
 | (id,_)::l,cs=>!Yl cs id&&Jim l (id::cs)
def frz(Γ:Shp)(ri:List (Nat×Nat))(env:List En)(M:List (Nat×Ob)):List (Nat×Ob):=Vs (Jil env Γ.env++Qyt M ri Γ.mem) M
def Jav(ri:List (Nat×Nat))(pr:List Nat):List (Nat×SkO)→Bool
 | []=>true
 | (id,_)::l=>(!Yl pr id||Q7v ri id id)&&Jav ri pr l
def Q2g(pr:List Nat):List (Nat×Nat)→Bool
 | []=>true
 | (id,c)::l=>(!Yl pr id||Nat.beq id c)&&Q2g pr l
def Joa(Γ:Shp)(ri:List (Nat×Nat))(pr:List Nat)(env:List En)(M F:List (Nat×Ob)):Option Γ.De :=
 bif Bh ri Γ.mem []&&Jim Γ.mem []&&Jav ri pr Γ.mem&&Q2g pr ri then
  match Qq8 (M++F) ri pr env Γ.env,Rc M F ri pr Γ.mem with
  | some u,some v=>ofL Γ.tys (u++v)
  | _,_=>none
 else none
def decF(Γ:Shp)(ri:List (Nat×Nat))(pr:List Nat)(env:List En)(M F:List (Nat×Ob)):Option Γ.De:=Joa Γ ri pr env (frz Γ ri env M) F
def Jg:AV→List Nat
 | .p id _=>[id]
 | .e id _=>[id]
 | .s id=>[id]
 | .m id=>[id]
 | .b id=>[id]
 | .w id _ _=>[id]
 | .f _ c=>Jg c
 | .ag l=>Jg l
 | .tp l=>Jg l
 | .cons x r=>Jg x++Jg r
 | _=>[]
def Rd:List En→List Nat
 | []=>[]
 | e::l=>Jg e.av++Rd l
def Jp:List (Nat×Ob)→List Nat
 | []=>[]
 | (id,.var _ c)::l=>id::(Jg c++Jp l)
 | (id,.mapC _ _ _ (some q))::l=>id::q.2::Jp l
 | (id,_)::l=>id::Jp l
def Jin(pr:List Nat):List (Nat×SkO)→List (Nat×Nat)
 | []=>[]
 | (id,_)::l=>bif Yl pr id then(id,id)::Jin pr l else Jin pr l
def XS.dec(S:XS)(Γ:Shp):Option Γ.De:=decF Γ (Qvp S.mem Γ.mem (Jat (S.env++S.fix) Γ.env++Jin (S.prot++(Rd S.fix++Jp S.fixM)) Γ.mem)) (S.prot++(Rd S.fix++Jp S.fixM)) (S.env++S.fix) S.mem S.fixM
def Quj(env:List En):List Nat→List En
 | []=>[]
 | t::ts=>match Xt env t with
  | some e=>e::Quj env ts
  | none=>Quj env ts
def Jt:List (Nat×Ob)→List Nat→List (Nat×Ob)×List (Nat×Ob)
 | M,[]=>(M,[])
 | M,t::ts=>match Qh M t with
  | some o=>((Jt (J3 M t) ts).1,(t,o)::(Jt (J3 M t) ts).2)
  | none=>Jt M ts
def XS.ent(S:XS)(ks ms:List Nat):XS:=⟨S.env,Quj S.env ks++S.fix,(Jt S.mem ms).1,(Jt S.mem ms).2++S.fixM,S.prot⟩
def XS.re(S:XS)(S1:St):XS:=⟨S1.env,S.fix,S1.mem,S.fixM,S.prot⟩
def XS.out(S:XS)(ks ms:List Nat)(S1:St):XS:=⟨S1.env++Quj S.env ks,S.fix,S1.mem++(Jt S.mem ms).2,S.fixM,S.prot⟩
inductive Ex where
 | n | x (id:Nat) | r
def Ex.beq:Ex→Ex→Bool
 | .n,.n=>true
 | .r,.r=>true
 | .x a,.x b=>Nat.beq a b
 | _,_=>false
abbrev Exs:=List (Ex×Shp)
@[reducible] def Q7w:Exs→Type
 | []=>Empty
 | [q]=>q.2.De
 | q::r::l=>q.2.De⊕Q7w (r::l)
def inj:(l:Exs)→Ex→XS→Option (Q7w l)
 | [],_,_=>none
 | [q],e,S=>bif Ex.beq q.1 e then S.dec q.2 else none
 | q::r::l,e,S=>bif Ex.beq q.1 e then(match S.dec q.2 with
   | some x=>some (.inl x)
   | none=>none)else(match inj (r::l) e S with
   | some x=>some (.inr x)
   | none=>none)
def Q7x{R:Type}(S:XS)(ks ms:List Nat)(k:Ex→XS→Option R):(l:Exs)→Q7w l→Option R
 | [],_=>none
 | [q],x=>k q.1 (S.out ks ms (enc q.2 x))
 | q::r::l,x=>match x with
  | .inl y=>k q.1 (S.out ks ms (enc q.2 y))
  | .inr z=>Q7x S ks ms k (r::l) z
def Qe{σ τ:Type}(f:σ→Option (σ⊕τ)):Nat→σ→Option τ
 | 0,_=>none
 | n+1,s=>(f s).bind fun
  | .inl s'=>Qe f n s'
  | .inr r=>some r
@[reducible] def Qcl:List Shp→Type
 | []=>Empty
 | [s]=>s.De
 | s::r::l=>s.De⊕Qcl (r::l)
def Qdc:(l:List Shp)→Qcl l→St
 | [],y=>nomatch y
 | [s],y=>enc s y
 | s::r::l,y=>match y with
  | .inl a=>enc s a
  | .inr b=>Qdc (r::l) b
def Js0{R:Type}:(l:List Shp)→Qcl l→(St→Option R)→Option R
 | [],_,_=>none
 | [s],y,k=>k (enc s y)
 | s::r::l,y,k=>match y with
  | .inl a=>k (enc s a)
  | .inr b=>Js0 (r::l) b k
theorem Qpz{R:Type}:∀(l:List Shp) (y:Qcl l) (k:St→Option R),Js0 l y k=k (Qdc l y)
 | [],y,_=>nomatch y
 | [_],_,_=>rfl
 | _::_::_,.inl _,_=>rfl
 | _::r::l,.inr b,k=>Qpz (r::l) b k
structure Con where
 f:FuncId
 Γ:Shp
 Δ:List Shp
 fn:Γ.De→Option (Qcl Δ)
 ro:List Nat
def Vn(Zs:List (Nat×Ob)):List Nat:=Zs.map Prod.fst
def wrM(ro:List Nat)(M:List (Nat×Ob)):List (Nat×Ob):=M.filter fun q=>!Yl ro q.1
def rdM(ro:List Nat)(M:List (Nat×Ob)):List (Nat×Ob):=M.filter fun q=>Yl ro q.1
def wrG(ro:List Nat)(M:List (Nat×SkO)):List (Nat×SkO):=M.filter fun q=>!Yl ro q.1
def rdG(ro:List Nat)(M:List (Nat×SkO)):List (Nat×SkO):=M.filter fun q=>Yl ro q.1
def roM(c:Con)(x:c.Γ.De):List (Nat×Ob):=rdM c.ro (enc c.Γ x).mem
def Qhk:Sk→AV→Bool
 | .d _,.d _ _=>true
 | .p _ _,.p _ _=>true
 | .s _,.s _=>true
 | .m _,.m _=>true
 | .ns,.ns=>true
 | .np,.np=>true
 | .nm,.nm=>true
 | .nf,.nf=>true
 | .z,.z=>true
 | .f _ c,.f _ x=>Qhk c x
 | .ag l,.ag y=>Qhk l y
 | .nil,.nil=>true
 | .cons a b,.cons x y=>Qhk a x&&Qhk b y
 | _,_=>false
def Jp7:SkO→Ob→Bool
 | .var _ c,.var _ x=>Qhk c x
 | .row _ _,.row _ _ _=>true
 | .map _ _,.map _ _ _=>true
 | _,_=>false
def Qvr(ri:List (Nat×Nat))(M:List (Nat×Ob)):List (Nat×SkO)→Bool
 | []=>true
 | (id,s)::l=>(match Jo ri id with
  | some c=>(match Qh M c with
   | some ob=>Jp7 s ob
   | none=>false)
  | none=>false)&&Qvr ri M l
def Wh(g:Nat→Nat):AV→AV
 | .p id path=>.p (g id) path
 | .e id path=>.e (g id) path
 | .s id=>.s (g id)
 | .m id=>.m (g id)
 | .b id=>.b (g id)
 | .w id j n=>.w (g id) j n
 | .f fn c=>.f fn (Wh g c)
 | .ag l=>.ag (Wh g l)
 | .tp l=>.tp (Wh g l)
 | .cons x r=>.cons (Wh g x) (Wh g r)
 | x=>x
def Qll(g:Nat→Nat):Ob→Ob
 | .var tid c=>.var tid (Wh g c)
 | .mapC k c xs (some q)=>.mapC k c xs (some (q.1,g q.2))
 | o=>o
def Jq(ri:List (Nat×Nat))(d j:Nat):Nat:=match Jo ri j with
 | some c=>c
 | none=>10000+100*d+j
def Q2h(S:XS):List Operand→Nat→Option (List En)
 | [],_=>some []
 | x::l,i=>match S.ev [] x,Q2h S l (i+1)with
  | some v,some r=>bif Nat.blt i 100000 then some (⟨i,[],v⟩::r)else none
  | _,_=>none
def Jio:AV→Nat→Option (List En)
 | .nil,_=>some []
 | .cons x r,i=>match Jio r (i+1)with
  | some l=>bif Nat.blt i 100000 then some (⟨i,[],x⟩::l)else none
  | none=>none
 | _,_=>none
def Qvs:List En→AV
 | []=>.nil
 | e::l=>.cons e.av (Qvs l)
def Sq(es:List En):AV:=match es with
 | [e]=>e.av
 | es=>.tp (Qvs es)
def Yb(ri:List (Nat×Nat)):List (Nat×SkO)→List Nat
 | []=>[]
 | (id,_)::l=>match Jo ri id with
  | some c=>c::Yb ri l
  | none=>Yb ri l
def Qlm:List (Nat×SkO)→Bool
 | []=>true
 | (_,.tail _ _)::_=>false
 | (_,.mapC _ _)::_=>false
 | _::l=>Qlm l
def Hh(ks:List Nat):List Nat→Bool
 | []=>true
 | i::l=>Yl ks i&&Hh ks l
def Nu:List Nat→Bool
 | []=>true
 | i::l=>!Yl l i&&Nu l
def Fk{α:Type}:Option α→Bool
 | some _=>true
 | none=>false
def Wp(g:Nat→Nat)(M:List (Nat×Ob)):List (Nat×Ob):=M.map fun q=>(g q.1,Qll g q.2)
inductive Src where
 | t (n:Nat)
 | v (id:Nat) (path:List PS)
inductive Hn where
 | done
 | n (m:Nat) (r:Hn)
 | nl (m:Nat) (r:Hn)
 | md (mode:Nat) (r:Hn)
 | keep (ts:List Nat) (r:Hn)
 | fz (id:Nat) (r:Hn)
 | sp (t:Nat) (m:Nat) (ks ms:List Nat) (Γ:Shp) (a b r:Hn)
 | call (c:Nat) (r:Hn)
 | tl (h:Hn)
 | so (t:Nat) (a b:Hn)
 | op (src:Src) (id d:Nat) (r:Hn)
 | cl (id:Nat) (r:Hn)
 | fm (id:Nat) (r:Hn)
 | dt (id:Nat) (r:Hn)
 | si (t:Nat) (n:Int) (a b:Hn)
 | br (r:Hn)
structure HD where
 h:Hn
 tch:List Nat
 ro:List Nat
 bs:List Nat
 nm:List Nat
inductive HT where
 | tl (h:Hn)
 | op (h:HD) (r:HT)
 | so (t:Nat) (a b:HT)
def Jaw{ε σ τ:Type}(f:ε→σ→Option (σ⊕τ)):List ε→σ→Option (σ⊕τ)
 | [],s=>some (.inl s)
 | e::l,s=>match f e s with
  | some (.inl s')=>Jaw f l s'
  | some (.inr x)=>some (.inr x)
  | none=>none
open Classical in
noncomputable def Juy{ε σ τ:Type}(f:ε→σ→Option (σ⊕τ))(l:List ε)(s:σ):Option (σ⊕τ) :=
 if ∀ys:List ε,ys.Perm l→Jaw f ys s=Jaw f l s then Jaw f l s else none
inductive An where
 | nil
 | reg (h:Hn)
 | two (a b:An)
 | un (a:An)
 | lp (ks ms:List Nat) (Γ:Shp) (exs:Exs) (a:An)
 | jn (ks ms:List Nat) (exs:Exs) (a:An)
 | dr (m:Nat) (h1 h2:Hn)
 | dc (m:Nat) (ds zs zf:List Nat) (ht:HT)
 | ch (t n:Nat) (a b:An)
 | cn (t:Nat) (a b:An)
 | gh (g:Hn) (a:An)
abbrev An.t(k:Nat)(a:An):An:=.two (.reg (.n k .done)) a
def Qhl(ops:List Oper)(o:Oper):Option (Option (Nat×Bool)):=match o.guard with
 | none=>some none
 | some (j,want)=>match ops[j]? with
  | some p=>match p.dst with
   | some t=>some (some (t,want))
   | none=>none
  | none=>none
def Z4(d:Nat):AV→Bool
 | .p id _=>!Nat.beq id d
 | .e id _=>!Nat.beq id d
 | .s id=>!Nat.beq id d
 | .m id=>!Nat.beq id d
 | .b id=>!Nat.beq id d
 | .w id _ _=>!Nat.beq id d
 | .f _ c=>Z4 d c
 | .ag l=>Z4 d l
 | .tp l=>Z4 d l
 | .cons x r=>Z4 d x&&Z4 d r
 | _=>true
def Yf(d:Nat):List (Nat×Ob)→Bool
 | []=>true
 | (k,.var _ c)::l=>!Nat.beq k d&&Z4 d c&&Yf d l
 | (k,.mapC _ _ _ (some q))::l=>!Nat.beq k d&&!Nat.beq q.2 d&&Yf d l
 | (k,_)::l=>!Nat.beq k d&&Yf d l
def Uf(d:Nat):List En→List En
 | []=>[]
 | e::l=>bif Z4 d e.av then e::Uf d l else Uf d l
def Qcj(d:Nat):List En→Bool
 | []=>true
 | e::l=>!(Nat.beq e.t d||Qc6 d e.cs)&&Qcj d l
def Qjh(d:Nat):List En→Bool
 | []=>true
 | e::l=>Z4 d e.av&&Qjh d l
def Jax(ri:List (Nat×Nat))(d:Nat)(Γk:List Nat)(S:XS)(M:List (Nat×Ob)):List Nat→Bool
 | []=>true
 | j::l=>(bif Fk (Jo ri j)then Yl Γk j else
   Yf (Jq ri d j) M&&Yf (Jq ri d j) S.fixM&&Qjh (Jq ri d j) S.fix&&Qjh (Jq ri d j) S.env&&!Yl S.prot (Jq ri d j)&&!Yl Γk j)&&Jax ri d Γk S M l
def XS.put(S:XS)(d:Nat)(cs:Vk)(x:AV):XS:={ S with env:=⟨d,cs,x⟩::Vc S.env d }
def XS.born(S:XS)(d:Nat)(o:Ob):XS:={ S with env:=Uf d S.env,mem:=(d,o)::S.mem }
def XS.set(S:XS)(id:Nat)(o:Ob):XS:={ S with mem:=Qi7 S.mem id o }
def noS(d:Nat):AV→Bool
 | .e id _=>!Nat.beq id d
 | .s id=>!Nat.beq id d
 | .f _ c=>noS d c
 | .ag l=>noS d l
 | .tp l=>noS d l
 | .cons x r=>noS d x&&noS d r
 | _=>true
def Jip(d:Nat):List En→Bool
 | []=>true
 | e::l=>noS d e.av&&Jip d l
def Qcm(d:Nat):List (Nat×Ob)→Bool
 | []=>true
 | (k,.var _ c)::l=>!Nat.beq k d&&noS d c&&Qcm d l
 | (k,.mapC _ _ _ (some q))::l=>!Nat.beq k d&&!Nat.beq q.2 d&&Qcm d l
 | (k,_)::l=>!Nat.beq k d&&Qcm d l
def XS.swap(S:XS)(id:Nat)(o:Ob):XS:={ S with mem:=(id,o)::J3 S.mem id }
def Qhm(S:XS)(id:Nat):Bool:=Jip id S.env&&Jip id S.fix&&Qcm id (J3 S.mem id)&&Qcm id S.fixM&&!Yl S.prot id
def Jv6(S:XS):Src→Option AV
 | .t n=>S.ev [] (.tmp n)
 | .v id path=>match Qh S.flat.mem id with
  | some (.var _ c)=>nav path c
  | _=>none
section
variable {R:Type} (Y:TX) (n:Nat)
def okW(S:XS)(d:Nat):Bool:=Nat.blt d n&&Nat.blt d 100000&&Qcj d S.fix
def okB(S:XS)(d:Nat):Bool:=Yf d S.mem&&Yf d S.fixM&&Qjh d S.fix&&!Yl S.prot d
def asR(M:List (Nat×Ob))(xv:AV)(u:Ty):Option (List u.De):=match asD M xv (.sl u)with
 | some ys=>some ys
 | none=>match xv with
  | .s id=>match Qh M id with
   | some (.row _ t ys)=>Ty.cast (.sl t) (.sl u) ys
   | _=>none
  | _=>none
def Qhn(o:Oper)(S:XS)(k:XS→Option R):Option R :=
 match o.op,o.dst with
 | .alloc t,some d=>match Qj Y.T t,Jo Y.tys t with
  | some e,some ty=>match Qaf ty e.z with
   | some c=>bif okW n S d&&okB S d&&c.isVal&&Z4 d c then k ((S.born d (.var t c)).put d [] (.p d []))else none
   | none=>none
  | _,_=>none
 | .box t x,some d=>match S.ev [] x with
  | some c=>bif okW n S d&&okB S d&&c.isVal&&c.inMem&&Z4 d c then k ((S.born d (.var t c)).put d [] (.p d []))else none
  | none=>none
 | .store t p x,none=>match Qj Y.T t,S.ev [] p,S.ev [] x with
  | some e,some (.p id path),some v=>match Qh S.mem id with
   | some (.var tid c)=>match Qoj path c v with
    | some c'=>bif Nat.beq e.size v.size&&v.isVal&&v.inMem then k (S.set id (.var tid c'))else none
    | none=>none
   | _=>none
  | some e,some (.e id (.i j sz::ps)),some v=>match Qh S.mem id with
   | some (.row et u xs)=>(idx xs j).bind fun y=>match Qoj ps (.d u y) v with
    | some c=>match asD S.flat.mem c u with
     | some z=>bif Nat.beq e.size v.size&&Nat.beq sz u.size&&Nat.ble 1 u.size&&v.isVal&&v.inMem then k (S.set id (.row et u (xs.set j.toNat z)))else none
     | none=>none
    | none=>none
   | _=>none
  | _,_,_=>none
 | .makeMap t rs,some d=>match Qj Y.T t with
  | some te=>match te.d with
   | .map kt et=>match Jo Y.tys kt,Jo Y.tys et with
    | some kk,some v=>bif okW n S d&&okB S d&&isNone rs then k ((S.born d (.map kk v [])).put d [] (.m d))else none
    | _,_=>none
   | _=>none
  | none=>none
 | .mapUpdate t m ky x,none=>match Qj Y.T t,S.ev [] m,S.ev [] ky,S.ev [] x with
  | some te,some (.m id),some kv,some xv=>match te.d,Qh S.mem id with
   | .map kt et,some (.map kk v xs)=>match Qj Y.T kt,asD [] kv kk,asD S.flat.mem xv v with
    | some tk,some key,some y=>bif Vl Y.T kk tk.d&&(kk.agg==kv.isAgg)&&(v.agg==xv.isAgg)then k (S.set id (.map kk v (Yd key y xs)))else none
    | _,_,_=>none
   | _,_=>none
  | _,_,_,_=>none
 | .makeSlice t l c,some d=>match Qj Y.T t,S.ev [] l,S.ev [] c with
  | some te,some lv,some cv=>match Y3 te.d,Gc lv,Gc cv with
   | some e,some (_,nl),some (_,nc)=>match Qj Y.T e,Jo Y.tys e with
    | some ee,some u=>match Qaf u ee.z with
     | some za=>match asD [] za u with
      | some z=>bif okW n S d&&okB S d&&Nat.beq ee.size u.size&&Nat.beq (Qv ee.z).length ee.size&&Nat.ble 1 ee.bytes then
        (mkL ee.bytes nl nc z).bind fun zs=>k ((S.born d (.row e u zs)).put d [] (.s d))else none
      | none=>none
     | none=>none
    | _,_=>none
   | _,_,_=>none
  | _,_,_=>none
 | .buildSlice t len ⟨parts⟩,some d=>match Qj Y.T t with
  | some te=>match Y3 te.d with
   | some e=>match Qj Y.T e,Jo Y.tys e with
    | some ee,some u=>bif okW n S d&&Nat.beq ee.size u.size then(match len,parts with
     | 0,[]=>bif okB S d then k ((S.born d (.row e u [])).put d [] (.s d))else none
     | 0,_=>none
     | m+1,ps=>match Vf S.flat [] ps with
      | some vs=>match asLs S.flat.mem u vs 0 with
       | some xs=>bif Nat.beq xs.length (m+1)&&Nat.ble ((m+1)*ee.size) 16777216&&Nat.ble 1 ee.size&&Nat.beq (Qv ee.z).length ee.size then k (S.put d [] (.d (.sl u) xs))else none
       | none=>none
      | none=>none)else none
    | _,_=>none
   | none=>none
  | none=>none
 | .call ⟨.builtin .append,⟨[s,x]⟩,⟨[t,t']⟩⟩,some d=>match Qj Y.T t,S.ev [] s,S.ev [] x with
  | some te,some sv,some xv=>match Y3 te.d with
   | some e=>match Qj Y.T e with
    | some ee=>bif okW n S d&&Nat.beq t t'&&Nat.ble 1 ee.size&&Nat.ble 1 ee.bytes&&Nat.beq (Qv ee.z).length ee.size then(match sv with
     | .ns=>match Jo Y.tys e with
      | some u=>match asR S.flat.mem xv u with
       | some ys=>bif okB S d&&Nat.beq ee.size u.size then(app ee.bytes [] ys).bind fun zs=>k ((S.born d (.row e u zs)).put d [] (.s d))else none
       | none=>none
      | none=>none
     | .z=>match Jo Y.tys e with
      | some u=>match asR S.flat.mem xv u with
       | some ys=>bif okB S d&&Nat.beq ee.size u.size then(app ee.bytes [] ys).bind fun zs=>k ((S.born d (.row e u zs)).put d [] (.s d))else none
       | none=>none
      | none=>none
     | .s id=>match Qh S.mem id with
      | some (.row e' u xs)=>match asR S.flat.mem xv u with
       | some ys=>bif okB ⟨S.env,S.fix,J3 S.mem id,S.fixM,S.prot⟩ d&&Nat.beq ee.size u.size&&Nat.beq e e' then
         (app ee.bytes xs ys).bind fun zs=>k (({ S with mem:=J3 S.mem id }.born d (.row e u zs)).put d [] (.s d))else none
       | none=>none
      | some (.tail e' u xs)=>match asD S.flat.mem xv (.sl u)with
       | some ys=>bif okB ⟨S.env,S.fix,J3 S.mem id,S.fixM,S.prot⟩ d&&Nat.beq ee.size u.size&&Nat.beq e e' then
         (app ee.bytes xs ys).bind fun zs=>k (({ S with mem:=J3 S.mem id }.born d (.tail e u zs)).put d [] (.s d))else none
       | none=>none
      | _=>none
     | _=>none)else none
    | none=>none
   | none=>none
  | _,_,_=>none
 | op,some d=>bif okW n S d then Qjg Y S.flat [] op fun v=>k (S.put d [] v)else none
 | _,none=>none
def Js1:AV→Bool
 | .np=>true
 | .p _ _=>true
 | _=>false
def Jd2:List (Nat×AV)→Nat→Option AV
 | [],_=>some .nil
 | (i,v)::l,j=>bif Nat.beq i j&&Js1 v then(match Jd2 l (j+1)with
  | some r=>some (.cons v r)
  | none=>none)else none
def Lz{k:Ty}{ν:Type}(key:k.De):List (k.De×ν)→List (k.De×ν)
 | []=>[]
 | x::l=>bif eqK k key x.1 then l else x::Lz key l
def Iv{α:Type}(xs ys:List α):List α:=ys.take (Nat.min ys.length xs.length)++xs.drop (Nat.min ys.length xs.length)
def Qgs{α:Type}(xs ys:List α):Int:=(Nat.min ys.length xs.length:Nat)
def Job(o:Oper)(S:XS):Nat:=match o.op with
 | .call ⟨.builtin .append,⟨[_,x]⟩,_⟩=>match S.ev [] x with
  | some (.d .str _)=>1
  | _=>0
 | .convert _ t x=>match S.ev [] x with
  | some (.d .str _)=>match Qj Y.T t with
   | some te=>match Y3 te.d with
    | some _=>2
    | none=>0
   | none=>0
  | _=>0
 | .store _ p _=>match S.ev [] p with
  | some (.p _ path)=>bif Jsz path then 3 else 0
  | _=>0
 | .call ⟨.builtin .copy,_,_⟩=>4
 | .call ⟨.builtin .delete,_,_⟩=>5
 | .buildSlice t (_+1) _=>match Qj Y.T t with
  | some te=>match Y3 te.d with
   | some e=>match Jo Y.tys e with
    | none=>7
    | some u=>bif Ty.beq u .ref then 7 else 0
   | none=>0
  | none=>0
 | .slice _ x none _ none=>match S.ev [] x with
  | some (.s id)=>match Qh S.mem id with
   | some (.row _ _ _)=>6
   | _=>0
  | _=>0
 | .slice _ x none (some _) (some _)=>match S.ev [] x with
  | some (.s id)=>match Qh S.mem id with
   | some (.row _ _ _)=>8
   | _=>0
  | _=>0
 | _=>0
def Js2:Value→Bool
 | .int .u8 0=>true
 | _=>false
def Js3:TypeDesc→Bool
 | .int .u8=>true
 | _=>false
def Q7y:TypeDesc→Bool
 | .string=>true
 | _=>false
def Km(l:Str):List Int:=l.map fun b=>(b.toNat:Int)
def Qvt(o:Oper)(S:XS)(k:XS→Option R):Option R:=match o.op,o.dst with
 | .call ⟨.builtin .append,⟨[s,x]⟩,⟨[t,t']⟩⟩,some d=>match Qj Y.T t,Qj Y.T t',S.ev [] s,S.ev [] x with
  | some te,some te',some sv,some (.d .str l)=>match Y3 te.d with
   | some e=>match Qj Y.T e with
    | some ee=>bif okW n S d&&Q7y te'.d&&Js2 ee.z&&Nat.beq ee.size 1&&Nat.beq ee.bytes 1 then(match sv with
     | .ns=>bif okB S d then(app 1 [] (Km l)).bind fun zs=>k ((S.born d (.row e (.int .u8) zs)).put d [] (.s d))else none
     | .s id=>match Qh S.mem id with
      | some (.row e' (.int .u8) xs)=>bif okB ⟨S.env,S.fix,J3 S.mem id,S.fixM,S.prot⟩ d&&Nat.beq e e' then
        (app 1 xs (Km l)).bind fun zs=>k (({ S with mem:=J3 S.mem id }.born d (.row e (.int .u8) zs)).put d [] (.s d))else none
      | _=>none
     | _=>none)else none
    | none=>none
   | none=>none
  | _,_,_,_=>none
 | .convert s t x,some d=>match Qj Y.T s,Qj Y.T t,S.ev [] x with
  | some se,some te,some (.d .str l)=>match Y3 te.d with
   | some e=>match Qj Y.T e with
    | some ee=>bif okW n S d&&okB S d&&Js3 ee.d then(app 1 [] (Km l)).bind fun zs=>k ((S.born d (.row e (.int .u8) zs)).put d [] (.s d))else none
    | none=>none
   | none=>none
  | _,_,_=>none
 | .store t p x,none=>match Qj Y.T t,S.ev [] p,S.ev [] x with
  | some e,some (.p id path),some v=>match Qh S.mem id with
   | some (.var tid c)=>Qok S.flat.mem path c v fun c'=>bif Nat.beq e.size v.size&&v.isVal&&v.inMem then k (S.set id (.var tid c'))else none
   | _=>none
  | _,_,_=>none
 | .call ⟨.builtin .copy,⟨[dst,src]⟩,⟨[t,t']⟩⟩,some d=>match Qj Y.T t,S.ev [] dst,S.ev [] src with
  | some te,some (.s id),some xv=>match Y3 te.d with
   | some e=>match Qj Y.T e,Qh S.mem id with
    | some ee,some (.row et u xs)=>match asD S.flat.mem xv (.sl u)with
     | some ys=>bif okW n S d&&Nat.beq ee.size u.size&&Nat.ble 1 u.size then k ((S.set id (.row et u (Iv xs ys))).put d [] (.d (.int .i64) (Qgs xs ys)))else none
     | none=>none
    | _,_=>none
   | none=>none
  | _,_,_=>none
 | .call ⟨.builtin .delete,⟨[m,ky]⟩,⟨[t,t']⟩⟩,none=>match Qj Y.T t,S.ev [] m,S.ev [] ky with
  | some te,some (.m id),some kv=>match te.d,Qh S.mem id with
   | .map kt et,some (.map kk v xs)=>match Qj Y.T kt,asD [] kv kk with
    | some tk,some key=>bif Vl Y.T kk tk.d&&(kk.agg==kv.isAgg)then k (S.set id (.map kk v (Lz key xs)))else none
    | _,_=>none
   | _,_=>none
  | _,_,_=>none
 | .buildSlice t (m+1) ⟨ps⟩,some d=>match Qj Y.T t with
  | some te=>match Y3 te.d with
   | some e=>match Qj Y.T e,Vf S.flat [] ps with
    | some ee,some vs=>match Jd2 vs 0 with
     | some c=>bif okW n S d&&okB S d&&Z4 d c&&Nat.beq vs.length (m+1)&&Nat.beq ee.size 1&&Nat.beq (Qv ee.z).length 1&&Nat.ble (m+1) 16777216 then k ((S.born d (.var e (.ag c))).put d [] (.w d 0 ((m+1:Nat):Int)))else none
     | none=>none
    | _,_=>none
   | none=>none
  | none=>none
 | .slice t x none hi none,some d=>match Qj Y.T t,S.ev [] x with
  | some te,some (.s id)=>match Y3 te.d,Qh S.mem id with
   | some e,some (.row e' u xs)=>match Qj Y.T e,bnd S.flat [] xs.length hi with
    | some ee,some q=>bif okW n S d&&okB ⟨S.env,S.fix,J3 S.mem id,S.fixM,S.prot⟩ d&&Nat.beq ee.size u.size&&Nat.beq e e' then
      (slc xs 0 q).bind fun ys=>k (({ S with mem:=J3 S.mem id }.born d (.row e u ys)).put d [] (.s d))else none
    | _,_=>none
   | _,_=>none
  | _,_=>none
 | .slice t x none (some hi) (some mx),some d=>match Qj Y.T t,S.ev [] x,S.ev [] hi,S.ev [] mx with
  | some te,some (.s id),some hv,some mv=>match Y3 te.d,Qh S.mem id,Gc hv,Gc mv with
   | some e,some (.row e' u xs),some (_,q),some (_,m)=>match Qj Y.T e with
    | some ee=>bif okW n S d&&okB ⟨S.env,S.fix,J3 S.mem id,S.fixM,S.prot⟩ d&&Nat.beq ee.size u.size&&Nat.beq e e' then
      (chk (decide (q≤m)&&decide (m≤(xs.length:Int)))).bind fun _=>(slc xs 0 q).bind fun ys=>k (({ S with mem:=J3 S.mem id }.born d (.row e u ys)).put d [] (.s d))else none
    | _=>none
   | _,_,_,_=>none
  | _,_,_,_=>none
 | _,_=>none
def Qnm(o:Oper)(S:XS)(k:XS→Option R):Option R:=match Job Y o S with
 | 0=>Qhn Y n o S k
 | _+1=>Qvt Y n o S k
def Qq9:Value→Bool
 | .map none=>true
 | _=>false
def Qyu:Value→Bool
 | .slice none 0 0=>true
 | _=>false
def Q7z:CK→Value→Bool
 | .sl _ _,v=>Qyu v
 | .mp _ _,v=>Qq9 v
def Jv7(Y:TX)(et:TypeId):Option CK:=match Qj Y.T et with
 | some te=>match te.d with
  | .slice e=>match Jo Y.tys e with
   | some u=>some (.sl e u)
   | none=>none
  | .map k v=>match Jo Y.tys k,Jo Y.tys v with
   | some k,some v=>some (.mp k v)
   | _,_=>none
  | _=>none
 | none=>none
def Jp8:CK→Option Ob→Option (Σ t:Ty,t.De)
 | .sl e _,some (.row e' u' ys)=>bif Nat.beq e e' then some ⟨.sl u',ys⟩else none
 | .mp _ _,some (.map k' v' ys)=>some ⟨.sl (.pr k' v'),ys⟩
 | _,_=>none
def Qnn(c:CK)(o:Option Ob):Option c.ty.De:=match Jp8 c o with
 | some v=>Ty.cast v.1 c.ty v.2
 | none=>none
def obC:(c:CK)→c.ty.De→Ob
 | .sl e u,ys=>.row e u ys
 | .mp k v,ys=>.map k v ys
def avC:CK→Nat→AV
 | .sl _ _,id=>.s id
 | .mp _ _,id=>.m id
def idC:CK→AV→Option Nat
 | .sl _ _,.s id=>some id
 | .mp _ _,.m id=>some id
 | _,_=>none
def Joc(S:XS)(id:Nat)(kk:Ty)(c:CK)(xs:List (kk.De×c.ty.De))(hole:Option (kk.De×Nat))(key:kk.De)(xv:AV)(k:XS→Option R):Option R:=match idC c xv with
 | some h1=>match Qnn c (Qh S.mem h1)with
  | some ys=>bif Qhm { S with mem:=J3 S.mem h1 } id&&!Nat.beq h1 id then(chk (match hole,c with
    | some q,.sl _ _=>eqK kk key q.1
    | none,.mp _ _=>true
    | _,_=>false)).bind fun _=>k (XS.swap { S with mem:=J3 S.mem h1 } id (.mapC kk c (Yd key ys xs) none))else none
  | none=>none
 | none=>none
def Q70(M:List (Nat×Ob))(kk:Ty)(c:CK)(xs:List (kk.De×c.ty.De))(hole:Option (kk.De×Nat))(key:kk.De)(k:AV→Option R):Option R:=match hole,c with
 | some q,c=>bif Fk (Qnn c (Qh M q.2))then(chk (eqK kk key q.1)).bind fun _=>k (avC c q.2)else none
 | none,.mp _ _=>(chk (isNone (Qr key xs))).bind fun _=>k .nm
 | none,.sl _ _=>none
def Jp9(S:XS)(id d:Nat)(kk:Ty)(key:kk.De)(k:XS→Option R):(c:CK)→List (kk.De×c.ty.De)→Option R
 | .sl e u,xs=>k ((S.swap id (.mapC kk (.sl e u) xs (some (key,d)))).born d (.row e u ((Qr key xs).getD [])))
 | .mp k2 v2,xs=>match Qr key xs with
  | some ys=>k ((S.swap id (.mapC kk (.mp k2 v2) xs (some (key,d)))).born d (.map k2 v2 ys))
  | none=>k S
def Jv8:CK→Bool
 | .sl _ _=>false
 | .mp _ _=>true
def Qra(S:XS)(id:Nat)(k:XS→Option R):Option R:=match Qh S.mem id with
 | some (.mapC kk c xs (some q))=>match Qnn c (Qh S.mem q.2)with
  | some ys=>bif Qhm { S with mem:=J3 S.mem q.2 } id&&Sm kk&&Jv8 c then k (XS.swap { S with mem:=J3 S.mem q.2 } id (.mapC kk c (Yd q.1 ys xs) none))else none
  | none=>none
 | some (.mapC _ _ _ none)=>k S
 | _=>none
def Q2i(S:XS)(id:Nat)(k:XS→Option R):Option R:=match Qh S.mem id with
 | some (.mapC kk (.sl _ u) xs none)=>k (S.swap id (.map kk (.sl u) xs))
 | _=>none
def Q2j(S:XS)(src:Src)(id d:Nat)(k:XS→Option R):Option R:=match Qh S.mem id with
 | some (.mapC kk c xs none)=>match Jv6 S src with
  | some av=>match asD S.flat.mem av kk with
   | some key=>bif Sm kk&&Qhm S id&&okB S d then Jp9 S id d kk key k c xs else none
   | none=>none
  | none=>none
 | _=>none
def Qgt(o:Oper)(S:XS)(k:XS→Option R):Option R:=match o.op,o.dst with
 | .buildSlice t (m+1) ⟨ps⟩,some d=>match Qj Y.T t with
  | some te=>match Y3 te.d with
   | some e=>match Qj Y.T e,Jo Y.tys e,Vf S.flat [] ps with
    | some ee,some u,some vs=>match asLs S.flat.mem u vs 0 with
     | some xs=>bif okW n S d&&okB S d&&Nat.beq ee.size u.size&&Nat.beq xs.length (m+1)&&Nat.ble ((m+1)*ee.size) 16777216&&Nat.ble 1 ee.size&&Nat.beq (Qv ee.z).length ee.size then k ((S.born d (.row e u xs)).put d [] (.s d))else none
     | none=>none
    | _,_,_=>none
   | none=>none
  | none=>none
 | .makeMap t rs,some d=>match Qj Y.T t with
  | some te=>match te.d with
   | .map kt et=>match Jo Y.tys kt,Jv7 Y et with
    | some kk,some c=>bif okW n S d&&okB S d&&isNone rs then k ((S.born d (.mapC kk c [] none)).put d [] (.m d))else none
    | _,_=>none
   | _=>none
  | none=>none
 | .mapUpdate t m ky x,none=>match Qj Y.T t,S.ev [] m,S.ev [] ky,S.ev [] x with
  | some te,some (.m id),some kv,some xv=>match te.d,Qh S.mem id with
   | .map kt _,some (.mapC kk c xs hole)=>match Qj Y.T kt,asD [] kv kk with
    | some tk,some key=>bif Vl Y.T kk tk.d&&(kk.agg==kv.isAgg)then Joc S id kk c xs hole key xv k else none
    | _,_=>none
   | _,_=>none
  | _,_,_,_=>none
 | .lookup t m ky false,some d=>match Qj Y.T t,S.ev [] ky with
  | some te,some kv=>match te.d with
   | .map kt et=>match Qj Y.T kt,Qj Y.T et,S.ev [] m with
    | some tk,some tz,some (.m id)=>match Qh S.flat.mem id with
     | some (.mapC kk c xs hole)=>match asD [] kv kk with
      | some key=>bif okW n S d&&Vl Y.T kk tk.d&&(kk.agg==kv.isAgg)&&Q7z c tz.z then Q70 S.flat.mem kk c xs hole key fun v=>k (S.put d [] v)else none
      | none=>none
     | _=>Qhn Y n o S k
    | some tk,some tz,some .nm=>match Jo Y.tys kt,Jo Y.tys et with
     | some kk,some v=>match asD [] kv kk,Qaf v tz.z with
      | some key,some za=>match asD [] za v with
       | some z=>bif okW n S d&&Vl Y.T kk tk.d&&(kk.agg==kv.isAgg)&&(v.agg==Qq2 tz.z)then k (S.put d [] (.d v z))else none
       | none=>none
      | _,_=>none
     | _,_=>none
    | _,_,_=>none
   | _=>none
  | _,_=>none
 | _,_=>none
def Ky(c:Con)(o:Oper)(S:XS)(k:XS→Option R):Option R :=
 match o.op,o.dst with
 | .call ⟨.value x,⟨xs⟩,_⟩,some d=>match S.ev [] x with
  | some (.f f caps)=>bif Nat.beq c.f f&&okW n S d then(match Q2h S xs 0,Jio caps xs.length with
   | some es0,some cs=>callE c d S (es0++cs) (Jp6 c.Γ ⟨es0++cs,S.mem++S.fixM⟩) k
   | _,_=>none)else none
  | _=>none
 | _,_=>none
where
 callE (c:Con) (d:Nat) (S:XS) (es:List En) (ri:List (Nat×Nat)) (k:XS→Option R):Option R :=
  match Joa c.Γ ri [] es (frz c.Γ ri es S.mem++S.fixM) []with
  | some x=>bif Qlm c.Γ.mem&&Nat.beq es.length c.Γ.env.length&&Hh (Vn S.mem) (Yb ri (wrG c.ro c.Γ.mem))&&Qvr ri (frz c.Γ ri es S.mem++S.fixM) (rdG c.ro c.Γ.mem)then
   (c.fn x).bind fun y=>Js0 c.Δ y fun S1=>callR c d S ri (Jt (frz c.Γ ri es S.mem) (Yb ri (wrG c.ro c.Γ.mem))).1 S1 (roM c x) k else none
  | none=>none
 callR (c:Con) (d:Nat) (S:XS) (ri:List (Nat×Nat)) (M:List (Nat×Ob)) (S1:St) (RO:List (Nat×Ob)) (k:XS→Option R):Option R :=
  bif Jax ri d (c.Γ.mem.map Prod.fst) S M (S1.mem.map Prod.fst)&&Nu ((S1.mem++RO).map fun q=>Jq ri d q.1)&&Hh ((S1.mem++RO).map Prod.fst) (Rd S1.env)&&Hh ((S1.mem++RO).map Prod.fst) (Jp (S1.mem++RO))then
   k (XS.put ⟨S.env,S.fix,Wp (Jq ri d) S1.mem++M,S.fixM,S.prot⟩ d [] (Wh (Jq ri d) (Sq S1.env)))else none
def Qji(t:Nat)(want:Bool)(o:Oper)(S:XS)(k:XS→Option R):Option R :=
 match Xt S.flat.env t,o.dst with
 | some ⟨_,cs,.d .bool _⟩,some d=>bif okW n S d&&!Nat.beq t d&&!Qc6 d cs then(match Qjd Y S.flat ((t,want)::cs) o.op with
   | some v=>k (S.put d ((t,want)::cs) v)
   | none=>none)else none
 | _,_=>none
def Qjj(ops:List Oper)(o:Oper)(S:XS)(k:XS→Option R):Option R:=match Qhl ops o with
 | some none=>Qnm Y n o S k
 | some (some (t,want))=>Qji Y n t want o S k
 | none=>none
def Qdd(o:Oper)(S:XS)(k:XS→Option R):Option R:=match o.dst with
 | some d=>bif okW n S d then k (S.put d [] (.tp .nil))else none
 | none=>k S
def stepL(ops:List Oper)(o:Oper)(S:XS)(k:XS→Option R):Option R:=match Qhl ops o with
 | some none=>Qnm Y n o S k
 | some (some (t,want))=>match Xt S.flat.env t with
  | some ⟨_,[],.d .bool b⟩=>match b==want with
   | true=>Qnm Y n o S k
   | false=>Qdd n o S k
  | some ⟨_,[],.tp .nil⟩=>Qdd n o S k
  | _=>none
 | none=>none
def Qol(st:Oper→XS→(XS→Option R)→Option R):List Oper→XS→(XS→Option R)→Option R
 | [],S,k=>k S
 | o::l,S,k=>st o S fun S'=>Qol st l S' k
end
def Y4(Y:TX)(K:List Con)(n:Nat)(ops:List Oper){R:Type}:Hn→List Oper→XS→(XS→Option R)→Option R
 | .done,l,S,k=>match l with
  | []=>k S
  | _::_=>none
 | .n m r,l,S,k=>Qol (Qjj Y n ops) (l.take m) S fun S'=>Y4 Y K n ops r (l.drop m) S' k
 | .nl m r,l,S,k=>Qol (stepL Y n ops) (l.take m) S fun S'=>Y4 Y K n ops r (l.drop m) S' k
 | .call c r,l,S,k=>match K[c]?,l with
  | some con,o::l'=>match Qhl ops o with
   | some none=>Ky n con o S fun S'=>Y4 Y K n ops r l' S' k
   | some (some (t,want))=>match Xt S.flat.env t with
    | some ⟨_,[],.d .bool b⟩=>match b==want with
     | true=>Ky n con o S fun S'=>Y4 Y K n ops r l' S' k
     | false=>none
    | _=>none
   | none=>none
  | _,_=>none
 | .br r,l,S,k=>match l with
  | o::l'=>match Qhl ops o with
   | some none=>Qgt Y n o S fun S'=>Y4 Y K n ops r l' S' k
   | some (some (t,want))=>match Xt S.flat.env t with
    | some ⟨_,[],.d .bool b⟩=>match b==want with
     | true=>Qgt Y n o S fun S'=>Y4 Y K n ops r l' S' k
     | false=>none
    | _=>none
   | none=>none
  | []=>none
 | .fz id r,l,S,k=>Y4 Y K n ops r l { S with mem:=Vs [id] S.mem } k
 | .keep ts r,l,S,k=>Y4 Y K n ops r l { S with env:=Quj S.env ts } k
 | .si t i a b,l,S,k=>match Xt S.env t with
  | some ⟨_,[],.d (.int kd) v⟩=>bif Qcj t S.fix then(if v=i then Y4 Y K n ops a l (S.put t [] (.d (.int kd) i)) k else Y4 Y K n ops b l S k)else none
  | _=>none
 | .op src id d r,l,S,k=>Q2j S src id d fun S'=>Y4 Y K n ops r l S' k
 | .cl id r,l,S,k=>Qra S id fun S'=>Y4 Y K n ops r l S' k
 | .fm id r,l,S,k=>Q2i S id fun S'=>Y4 Y K n ops r l S' k
 | .sp t m ks ms Γ a b r,l,S,k=>match Xt S.env t with
  | some ⟨_,[],.d .bool v⟩=>bif Qcj t S.fix then
    (if v=true then Y4 Y K n ops (R:=Γ.De) a (l.take m) ((XS.put S t [] (.d .bool true)).ent ks ms) (fun S'=>S'.dec Γ)
     else Y4 Y K n ops (R:=Γ.De) b (l.take m) ((XS.put S t [] (.d .bool false)).ent ks ms) (fun S'=>S'.dec Γ)).bind
     fun y=>Y4 Y K n ops r (l.drop m) (XS.out (XS.put S t [] (.d .bool v)) ks ms (enc Γ y)) k else none
  | _=>none
 | _,_,_,_=>none
section
variable {R:Type} (Y:TX) (n:Nat)
def Q2k(o:Oper)(S:XS)(k:XS→Option R):Option R:=match o.dst with
 | some d=>bif okW n S d then Qjg Y S.flat [] o.op fun v=>k (S.put d [] v)else none
 | none=>none
def Qyv(ops:List Oper)(o:Oper)(S:XS)(k:XS→Option R):Option R:=match Qhl ops o with
 | some none=>Q2k Y n o S k
 | some (some (t,want))=>Qji Y n t want o S k
 | none=>none
def Qyw(ops:List Oper)(o:Oper)(S:XS)(k:XS→Option R):Option R:=match Qhl ops o with
 | some none=>Q2k Y n o S k
 | some (some (t,want))=>match Xt S.flat.env t with
  | some ⟨_,[],.d .bool b⟩=>match b==want with
   | true=>Q2k Y n o S k
   | false=>Qdd n o S k
  | some ⟨_,[],.tp .nil⟩=>Qdd n o S k
  | _=>none
 | none=>none
end
def Nv(Y:TX)(n:Nat)(ops:List Oper){R:Type}:Hn→List Oper→XS→(XS→Option R)→Option R
 | .done,l,S,k=>match l with
  | []=>k S
  | _::_=>none
 | .n m r,l,S,k=>Qol (Qyv Y n ops) (l.take m) S fun S'=>Nv Y n ops r (l.drop m) S' k
 | .nl m r,l,S,k=>Qol (Qyw Y n ops) (l.take m) S fun S'=>Nv Y n ops r (l.drop m) S' k
 | .sp t m ks ms Γ a b r,l,S,k=>match Xt S.env t with
  | some ⟨_,[],.d .bool v⟩=>bif Qcj t S.fix then
    (if v=true then Nv Y n ops (R:=Γ.De) a (l.take m) ((XS.put S t [] (.d .bool true)).ent ks ms) (fun S'=>S'.dec Γ)
     else Nv Y n ops (R:=Γ.De) b (l.take m) ((XS.put S t [] (.d .bool false)).ent ks ms) (fun S'=>S'.dec Γ)).bind
     fun y=>Nv Y n ops r (l.drop m) (XS.out (XS.put S t [] (.d .bool v)) ks ms (enc Γ y)) k else none
  | _=>none
 | _,_,_,_=>none
def Q71(o:Oper):List Nat:=o.op.operands.toList.filterMap fun x=>match x with
 | .tmp t=>some t
 | _=>none
def Q72:List En→List En
 | []=>[]
 | e::l=>bif Nat.blt e.t 100000 then Q72 l else(match e.cs with
  | []=>e::Q72 l
  | _::_=>Q72 l)
def Jiq{α:Type}:List α→Bool
 | []=>true
 | _=>false
def Hf:Nat→Bool:=fun _=>true
def Qno(env:List En):List Nat→List En
 | []=>env
 | d::ds=>Qno (Vc (Uf d env) d) ds
def Js4(l:List Oper)(p:Nat):Bool:=(List.range l.length).all fun k=>Nat.blt k p||(List.range k).all fun i=>Bd l l.length k i
def Jay(l:List Oper)(p:Nat)(ds:List Nat):Bool:=Nat.ble p l.length&&Nat.beq ds.length p&&backB l&&Js4 l p&&Qyg ds
def Jir(l:List Oper)(n:Nat):Bool:=bif Nat.blt n l.length then Region.lexTailB .any l.toArray n else Nat.beq n l.length&&Region.lexB .any l.toArray
def Wq:List (Nat×Ob)→Bool
 | []=>true
 | (_,.tail _ _ _)::_=>false
 | _::l=>Wq l
structure EC where
 d:Nat
 av:AV
 has:Bool
 ups:List (Nat×Option Ob)
def Qnp:List (Nat×Option Ob)→Nat→Option (Option Ob)
 | [],_=>none
 | (k,x)::l,id=>bif Nat.beq k id then some x else Qnp l id
def upC(id:Nat)(e:EC)(c:Option Ob):Option Ob:=match Qnp e.ups id with
 | some x=>x
 | none=>c
def Yy(E:Nat→Bool)(id:Nat):List EC→Nat→Option Ob→Option Ob
 | [],_,c=>c
 | e::l,j,c=>Yy E id l (j+1) (bif E j then upC id e c else c)
def Ko(id:Nat)(e:EC):Bool:=Fk (Qnp e.ups id)
def L0(E:Nat→Bool):List EC→Nat→List En
 | [],_=>[]
 | e::l,j=>bif E j&&e.has then⟨e.d,[],e.av⟩::L0 E l (j+1)else L0 E l (j+1)
def Kz(id:Nat):Option Ob→Option (Nat×Ob)
 | some ob=>some (id,ob)
 | none=>none
def Bi(names:List Nat)(Zs:List (Nat×Ob))(acc:List EC)(E:Nat→Bool):List (Nat×Ob):=names.filterMap fun id=>Kz id (Yy E id acc 0 (Qh Zs id))
def HD.wr(h:HD):List Nat:=h.tch++h.bs
def HD.al(h:HD):List Nat:=h.tch++h.ro++h.bs
def Qjk:List EC→Nat→Option AV
 | [],_=>none
 | g::l,t=>bif Nat.beq g.d t&&g.has then some g.av else Qjk l t
def Qrb(l0:List Oper)(ds:List Nat)(i:Nat)(acc:List EC)(B:List En):List Nat→List En
 | []=>Q72 B
 | t::ts=>match Qjk acc t with
  | some v=>bif Qvg l0 i (ds.idxOf t)then⟨t,[],v⟩::Qrb l0 ds i acc B ts else Qrb l0 ds i acc B ts
  | none=>bif Qnd ds t then(match Xt B t with
   | some ⟨t',[],v⟩=>⟨t',[],v⟩::Qrb l0 ds i acc B ts
   | _=>Qrb l0 ds i acc B ts)else Qrb l0 ds i acc B ts
def gTs(l0:List Oper)(o:Oper):List Nat:=match Qhl l0 o with
 | some (some (t,_))=>[t]
 | _=>[]
def Qbw(l m:List Nat):Bool:=l.all fun x=>!Yl m x
def Qjl(l0:List Oper)(i j:Nat)(hi hj:HD):Bool:=((Qbw hj.wr hi.al&&Qbw hj.ro hi.wr)||Bd l0 l0.length i j)&&Qbw hi.bs hj.wr
def Juz(l0:List Oper)(hs:List HD):Bool:=(List.range hs.length).all fun i=>(List.range i).all fun j=>match hs[i]?,hs[j]? with
 | some hi,some hj=>Qjl l0 i j hi hj
 | _,_=>true
def nmB(l0:List Oper)(hs:List HD):Bool:=(List.range hs.length).all fun i=>(List.range hs.length).all fun j=>Nat.beq i j||(match hs[i]?,hs[j]? with
 | some hi,some hj=>Qbw hi.bs hj.nm||Bd l0 l0.length j i
 | _,_=>true)
def Xu:List HD→List Nat
 | []=>[]
 | h::l=>h.bs++Xu l
def Dy:HT→List Nat
 | .tl _=>[]
 | .op h r=>h.bs++Dy r
 | .so _ a b=>Dy a++Dy b
def Qjm(l m:List Nat):List Nat:=l.filter fun x=>!Yl m x
def Qgu(ids:List Nat)(Zs:List (Nat×Ob))(acc:List EC):List (Nat×Ob):=ids.filterMap fun id=>Kz id (Yy Hf id acc 0 (Qh Zs id))
def Q2l:List EC→Nat→Bool→List EC
 | [],_,_=>[]
 | g::l,t,b=>bif Nat.beq g.d t&&g.has then⟨g.d,.d .bool b,g.has,g.ups⟩::l else g::Q2l l t b
def Re(M:List (Nat×Ob)):AV→AV
 | .s id=>match Qh M id with
  | some (.tail _ t xs)=>.d (.sl t) xs
  | _=>.s id
 | .ag l=>.ag (Re M l)
 | .cons x r=>.cons (Re M x) (Re M r)
 | x=>x
def Qyx(M:List (Nat×Ob)):List Nat→Bool
 | []=>false
 | id::l=>match Qh M id with
  | some (.tail _ _ _)=>true
  | _=>Qyx M l
def Jd3(M:List (Nat×Ob)):List En→List En
 | []=>[]
 | e::l=>bif Qyx M (Qvq e.av)then⟨e.t,e.cs,Re M e.av⟩::Jd3 M l else Jd3 M l
section
variable {R:Type} (Y:TX) (K:List Con) (n:Nat) (l0:List Oper) (ds:List Nat) (Zs:List (Nat×Ob)) (B:List En) (prA:List Nat)
def Qrc(hc:HD)(o:Oper)(i:Nat)(acc:List EC):XS:=⟨Qrb l0 ds i acc B (Q71 o++gTs l0 o),[],Qgu hc.tch Zs acc,Qgu hc.ro Zs acc,Qjm prA hc.bs⟩
def Qho(hc:HD)(o:Oper)(i:Nat)(acc:List EC)(S1:XS):Option EC :=
 bif Wq (Qgu hc.tch Zs acc++Qgu hc.ro Zs acc)&&Hh hc.nm (Jp S1.mem)then(match o.dst with
  | some d=>match Xt S1.env d with
   | some ⟨_,[],av⟩=>bif Nat.beq (ds.getD i 0) d&&Hh hc.nm (Jg av)&&Nat.blt d n then some ⟨d,av,true,(hc.tch++hc.bs).map fun id=>(id,Qh S1.mem id)⟩else none
   | _=>none
  | none=>bif Nat.beq (ds.getD i 0) (1000000000+i)then some ⟨1000000000+i,.tp .nil,false,(hc.tch++hc.bs).map fun id=>(id,Qh S1.mem id)⟩else none)else none
def Qrd:HT→List Oper→Nat→List HD→List EC→(Hn→List HD→List EC→Option R)→Option R
 | .tl h,l,_,hs,acc,k=>match l with
  | []=>k h hs acc
  | _::_=>none
 | .op hc r,l,i,hs,acc,k=>match l with
  | o::l'=>Y4 Y K n l0 hc.h [o] (Qrc l0 ds Zs B prA hc o i acc) fun S1=>match Qho n ds Zs hc o i acc S1 with
   | some g=>Qrd r l' (i+1) (hs++[hc]) (acc++[g]) k
   | none=>none
  | []=>none
 | .so t a b,l,i,hs,acc,k=>match Qjk acc t with
  | some (.d .bool v)=>if v=true then Qrd a l i hs (Q2l acc t true) k else Qrd b l i hs (Q2l acc t false) k
  | _=>none
end
def Jod(l0:List Oper)(ks:List Nat)(prB prA:List Nat)(hs:List HD):Bool:=Juz l0 hs&&nmB l0 hs&&Nu (ks++Xu hs)&&Qbw prB (Xu hs)&&Hh prA (ks++Xu hs) &&
 hs.all fun hc=>Nu hc.al&&Hh (ks++Xu hs) hc.al&&Hh prA hc.nm
def kfC(zf:List Nat)(hs:List HD):Bool:=hs.all fun hc=>Qbw hc.wr zf
def Jv9(S:XS)(ds:List Nat)(Z1 Z2 M1:List (Nat×Ob))(bsA:List Nat)(hs:List HD)(acc:List EC):XS:=⟨L0 Hf acc 0++Qno S.env (ds++bsA),S.fix,Bi (Vn Z1++Xu hs) (Z1++Z2) acc Hf++M1,S.fixM,S.prot⟩
def Rf{R:Type}:Hn→XS→(XS→Option R)→Option R
 | .done,S,k=>k S
 | .fz id r,S,k=>Rf r { S with mem:=Vs [id] S.mem } k
 | .op src id d r,S,k=>Q2j S src id d fun S'=>Rf r S' k
 | .cl id r,S,k=>Qra S id fun S'=>Rf r S' k
 | .fm id r,S,k=>Q2i S id fun S'=>Rf r S' k
 | .dt id r,S,k=>match Qh S.mem id with
  | some (.var tid c)=>Rf r (S.set id (.var tid (Re S.flat.mem c))) k
  | _=>none
 | _,_,_=>none
def Jis(S:XS)(t i:Nat):Bool:=match Xt S.env t with
 | some ⟨_,[],.d (.int _) v⟩=>match Jdx v with
  | some j=>Nat.beq j i
  | none=>false
 | _=>false
def Jaz:AV→Bool
 | .nm=>true
 | .np=>true
 | .tp l=>Jaz l
 | .cons x r=>Jaz x||Jaz r
 | _=>false
def Jit(S:XS)(t:Nat):Bool:=match Xt S.env t with
 | some e=>Jaz e.av
 | none=>false
def dcR(Y:TX)(K:List Con)(n:Nat){R:Type}(ops:List Oper)(p:Nat)(ds:List Nat)(Z1 Z2 M1 F1:List (Nat×Ob))(ht:HT)(S:XS)(B:List En)(prB:List Nat)(k:Hn→XS→Option R):Option R :=
 Qrd Y K n ops ds (Z1++Z2) (Jd3 (M1++F1) B++B) (prB++Vn (Z1++Z2)++Dy ht) ht (ops.take p) 0 [] [] fun h hs acc =>
  bif Jod ops (Vn (Z1++Z2)) prB (prB++Vn (Z1++Z2)++Dy ht) hs&&kfC (Vn Z2) hs then k h (Jv9 S ds Z1 Z2 M1 (Dy ht) hs acc)else none
def dcI(Y:TX)(K:List Con)(n:Nat){R:Type}(ops:List Oper)(p:Nat)(ds:List Nat)(Z1 Z2 M1 F1:List (Nat×Ob))(ht:HT)(S:XS)(B:List En)(k:Hn→XS→Option R):Option R :=
 dcR Y K n ops p ds Z1 Z2 M1 F1 ht S B (Rd B++Jp ((Z1++Z2)++(M1++F1))++S.prot) k
noncomputable def Xd(Y:TX)(K:List Con)(n N:Nat){R:Type}:An→Code→XS→(Ex→XS→Option R)→Option R
 | .nil,.skip,S,k=>k .n S
 | .nil,.ret,S,k=>k .r S
 | .nil,.exit id,S,k=>k (.x id) S
 | .nil,.label _,S,k=>k .n S
 | .reg h,.region _ ⟨ops⟩ false,S,k=>Y4 Y K n ops h ops S (k .n)
 | .dr m h1 h2,.region _ ⟨ops⟩ true,S,k=>bif Jir ops m then Nv Y n ops h1 (ops.take m) S fun S'=>Y4 Y K n ops h2 (ops.drop m) S' (k .n)else none
 | .dc p ds zs zf ht,.region _ ⟨ops⟩ true,S,k =>
  bif Jay ops p ds&&ds.all (fun d=>Qcj d S.fix)then
   dcI Y K n ops p ds (Jt S.mem zs).2 (Jt S.fixM zf).2 (Jt S.mem zs).1 (Jt S.fixM zf).1 ht S
    (Qno S.env (ds++Dy ht)++S.fix) fun h3 S'=>Y4 Y K n ops h3 (ops.drop p) S' (k .n)else none
 | .gh g a,c,S,k=>Rf g S fun S'=>Xd Y K n N a c S' k
 | .ch t i a b,c,S,k=>bif Jis S t i then Xd Y K n N a c S k else Xd Y K n N b c S k
 | .cn t a b,c,S,k=>bif Jit S t then Xd Y K n N a c S k else Xd Y K n N b c S k
 | .two a b,.seq x y,S,k=>Xd Y K n N a x S fun e S'=>match e with
  | .n=>Xd Y K n N b y S' k
  | .x i=>k (.x i) S'
  | .r=>k .r S'
 | .two a b,.cond c x y,S,k=>match S.ev [] c with
  | some (.d .bool v)=>if v=true then Xd Y K n N a x S k else Xd Y K n N b y S k
  | _=>none
 | .un a,.block id c,S,k=>Xd Y K n N a c S fun e S'=>match e with
  | .n=>k .n S'
  | .x i=>bif Nat.beq i id then k .n S' else k (.x i) S'
  | .r=>k .r S'
 | .un a,.scope c,S,k=>Xd Y K n N a c S k
 | .lp ks ms Γ exs a,.loop c,S,k=>match (S.ent ks ms).dec Γ with
  | some s0=>(Qe (fun s=>Xd Y K n N (R:=Γ.De⊕Q7w exs) a c ((S.ent ks ms).re (enc Γ s)) fun e S'=>match e with
    | .n=>(match S'.dec Γ with
     | some s'=>some (.inl s')
     | none=>none)
    | .x i=>(match inj exs (.x i) S' with
     | some x=>some (.inr x)
     | none=>none)
    | .r=>(match inj exs .r S' with
     | some x=>some (.inr x)
     | none=>none)) N s0).bind fun x=>Q7x S ks ms k exs x
  | none=>none
 | .jn ks ms exs a,c,S,k=>(Xd Y K n N a c (S.ent ks ms) (inj exs)).bind fun x=>Q7x S ks ms k exs x
 | _,_,_,_=>none
def Q73(Y:TX)(S:XS):List ResultVar→Nat→Option (List En)
 | [],_=>some []
 | .cell ad t::l,i=>match Qjd Y S.flat [] (.load t (.tmp ad)),Q73 Y S l (i+1)with
  | some v,some r=>bif Nat.blt i 100000 then some (⟨i,[],v⟩::r)else none
  | _,_=>none
 | .tmp t::l,i=>match S.ev [] (.tmp t),Q73 Y S l (i+1)with
  | some v,some r=>bif Nat.blt i 100000 then some (⟨i,[],v⟩::r)else none
  | _,_=>none
def Nw:List (Nat×Sk)→Nat→Bool
 | [],_=>true
 | (t,_)::l,i=>Nat.beq t i&&Nw l (i+1)
def Jiu(es:List En)(S:XS):(l:List Shp)→Option (Qcl l)
 | []=>none
 | [s]=>bif Nw s.env 0&&Nat.beq es.length s.env.length then XS.dec S s else none
 | s::r::l=>match (bif Nw s.env 0&&Nat.beq es.length s.env.length then XS.dec S s else none)with
  | some x=>some (.inl x)
  | none=>match Jiu es S (r::l)with
   | some y=>some (.inr y)
   | none=>none
def fin(Y:TX)(fn:Func)(Δ:List Shp)(S:XS):Option (Qcl Δ):=match Q73 Y S fn.results.toList 0 with
 | some es=>bif Nat.blt es.length 100000 then Jiu es ⟨es,[],S.mem,S.fixM,S.prot⟩ Δ else none
 | none=>none
def Qjn(gl:List (Nat×Σ t:Ty,t.De)):List En:=gl.map fun q=>⟨100000+q.1,[],.a q.2.1 q.2.2⟩
noncomputable def Jiv(Y:TX)(K:List Con)(N:Nat)(fn:Func)(an:An)(ro:List Nat)(Γ:Shp)(Δ:List Shp)(x:Γ.De):Option (Qcl Δ):=match fn.body with
 | some c=>bif Nat.ble Γ.env.length fn.ntmps&&(Nw Γ.env 0&&Nat.blt Γ.env.length 100000)then Xd Y K fn.ntmps N an c ⟨(enc Γ x).env,Qjn Y.gl,wrM ro (enc Γ x).mem,rdM ro (enc Γ x).mem,Γ.mem.map Prod.fst⟩ fun e S=>match e with
  | .x _=>none
  | .n=>fin Y fn Δ S
  | .r=>fin Y fn Δ S else none
 | none=>none
end Gx

/- What a step gives does not depend on what comes behind it. -/
namespace Gx
open Go Go.RowKit Gd
set_option linter.unusedVariables false
set_option linter.unusedSimpArgs false
theorem Xv{R A:Type}{b:Bool}{x:Option R}{y:Option A}{k:A→Option R}(h:x=y.bind k):(bif b then x else none)=(bif b then y else none).bind k:=by
 grind
theorem Bj{T R A:Type}{x:Option T}{f:T→Option R}{g:T→Option A}{k:A→Option R}(h:∀t,f t=(g t).bind k):x.bind f=(x.bind g).bind k:=by
 cases x
 ·rfl
 ·exact h _
section
variable {R:Type} {Y:TX} {n:Nat}
theorem Joe{S:St}{cur:Vk}{op:Op}{k:AV→Option R}:tot Y S cur op k=(tot Y S cur op some).bind k:=by
 grind [tot]
theorem Qre{A:Type}{k:A→Option R}:∀{ps:List PS} {x:AV} {f:AV→Option R} {g:AV→Option A},(∀y,f y=(g y).bind k)→Qq7 ps x f=(Qq7 ps x g).bind k
 | [],x,f,g,h=>h x
 | .f i off::ps,x,f,g,h=>by
  simp only[Qq7]
  split
  ·exact Qre h
  ·rfl
 | .i j sz::ps,x,f,g,h=>by
  simp only[Qq7]
  split
  ·exact Xv (Bj fun _=>Qre h)
  ·rfl
theorem Qrf{A:Type}{k:A→Option R}{M:List (Nat×Ob)}:∀{ps:List PS} {x v:AV} {f:AV→Option R} {g:AV→Option A},(∀y,f y=(g y).bind k)→Qok M ps x v f=(Qok M ps x v g).bind k
 | [],x,v,f,g,h=>by
  simp only[Qok]
  grind
 | .f i off::ps,x,v,f,g,h=>by
  simp only[Qok]
  split
  ·refine Qrf fun x1=>?_
   grind
  ·rfl
 | .i j sz::ps,x,v,f,g,h=>by
  simp only[Qok]
  split
  ·refine Xv (Bj fun _=>Qrf fun x1=>?_)
   grind
  ·rfl
theorem Q74{S:St}{cur:Vk}{op:Op}{k:AV→Option R}:Qlj Y S cur op k=(Qlj Y S cur op some).bind k:=by
 unfold Qlj
 repeat' (first | rfl | exact Joe | (refine Xv ?_) | (refine Bj fun _=>?_) | split)
theorem Jd4{S:St}{cur:Vk}{op:Op}{k:AV→Option R}:Qvo Y S cur op k=(Qvo Y S cur op some).bind k:=by
 unfold Qvo
 repeat' (first | rfl | (refine Xv ?_) | (refine Bj fun _=>?_) | (refine Qre fun _=>?_) | split)
theorem Qvu{S:St}{cur:Vk}{op:Op}{k:AV→Option R}:Qjg Y S cur op k=(Qjg Y S cur op some).bind k:=by
 grind [Qjg,Q74,Jd4]
theorem Q75{A:Type}{S:St}{cur:Vk}{op:Op}{f:AV→Option R}{g:AV→Option A}{k:A→Option R}(h:∀y,f y=(g y).bind k):Qjg Y S cur op f=(Qjg Y S cur op g).bind k:=by
 rw[Qvu (k:=f),Qvu (k:=g),Option.bind_assoc]
 exact congrArg _ (funext h)
theorem Qrg{o:Oper}{S:XS}{k:XS→Option R}:Qhn Y n o S k=(Qhn Y n o S some).bind k:=by
 unfold Qhn
 repeat' (first | rfl | (refine Xv ?_) | (refine Bj fun _=>?_) | (refine Q75 fun _=>?_) | split)
theorem Jd5{o:Oper}{S:XS}{k:XS→Option R}:Qvt Y n o S k=(Qvt Y n o S some).bind k:=by
 unfold Qvt
 repeat' (first | rfl | (refine Xv ?_) | (refine Bj fun _=>?_) | (refine Qrf fun _=>?_) | split)
theorem Qvv{o:Oper}{S:XS}{k:XS→Option R}:Qnm Y n o S k=(Qnm Y n o S some).bind k:=by
 grind [Qnm,Qrg,Jd5]
theorem Qyy{c:Con}{o:Oper}{S:XS}{k:XS→Option R}:Ky n c o S k=(Ky n c o S some).bind k:=by
 unfold Ky Ky.callE Ky.callR
 repeat' (first | rfl | (refine Xv ?_) | (refine Bj fun _=>?_) | (rw[Qpz,Qpz]) | split)
theorem Jd6{o:Oper}{S:XS}{k:XS→Option R}:Qgt Y n o S k=(Qgt Y n o S some).bind k:=by
 unfold Qgt Joc Q70
 repeat' (first | rfl | exact Qrg | (refine Xv ?_) | (refine Bj fun _=>?_) | split)
theorem Jd7{t:Nat}{want:Bool}{o:Oper}{S:XS}{k:XS→Option R}:Qji Y n t want o S k=(Qji Y n t want o S some).bind k:=by
 unfold Qji
 grind
theorem Jd8{o:Oper}{S:XS}{k:XS→Option R}:Qdd n o S k=(Qdd n o S some).bind k:=by
 unfold Qdd
 grind
theorem Jd9{ops:List Oper}{o:Oper}{S:XS}{k:XS→Option R}:Qjj Y n ops o S k=(Qjj Y n ops o S some).bind k:=by
 grind [Qjj,Qvv,Jd7]
theorem Jea{ops:List Oper}{o:Oper}{S:XS}{k:XS→Option R}:stepL Y n ops o S k=(stepL Y n ops o S some).bind k:=by
 grind [stepL,Qvv,Jd8]
theorem Qrh{st:{R:Type}→Oper→XS→(XS→Option R)→Option R}(hst:∀{R A:Type} (o:Oper) (S:XS) (f:XS→Option R) (g:XS→Option A) (k:A→Option R),(∀S',f S'=(g S').bind k)→st o S f=(st o S g).bind k) :
  ∀{A:Type} {k:A→Option R} {l:List Oper} {S:XS} {f:XS→Option R} {g:XS→Option A},(∀S',f S'=(g S').bind k)→Qol st l S f=(Qol st l S g).bind k
 | A,k,[],S,f,g,h=>h S
 | A,k,o::l,S,f,g,h=>by
  simp only[Qol]
  exact hst o S _ _ k fun S'=>Qrh hst h
theorem Jof{A:Type}{st:{R:Type}→Oper→XS→(XS→Option R)→Option R}{o:Oper}{S:XS}(h:∀{R:Type} {k:XS→Option R},st o S k=(st o S some).bind k){f:XS→Option R}{g:XS→Option A}{k:A→Option R}(h2:∀S',f S'=(g S').bind k):st o S f=(st o S g).bind k:=by
 rw[h (k:=f),h (k:=g),Option.bind_assoc]
 exact congrArg _ (funext h2)
end
theorem Xw{Y:TX}{K:List Con}{n:Nat}{ops:List Oper}:∀{R A:Type} {h:Hn} {l:List Oper} {S:XS} {f:XS→Option R} {g:XS→Option A} {k:A→Option R},(∀S',f S'=(g S').bind k)→Y4 Y K n ops h l S f=(Y4 Y K n ops h l S g).bind k
 | R,A,.done,l,S,f,g,k,hk=>by
  simp only[Y4]
  grind
 | R,A,.n m r,l,S,f,g,k,hk=>by
  simp only[Y4]
  exact Qrh (st:=fun {R}=>Qjj Y n ops) (fun o S f g k h=>Jof (st:=fun {R}=>Qjj Y n ops) Jd9 h) fun S'=>Xw hk
 | R,A,.nl m r,l,S,f,g,k,hk=>by
  simp only[Y4]
  exact Qrh (st:=fun {R}=>stepL Y n ops) (fun o S f g k h=>Jof (st:=fun {R}=>stepL Y n ops) Jea h) fun S'=>Xw hk
 | R,A,.call c r,l,S,f,g,k,hk=>by
  simp only[Y4]
  have hc:∀{con:Con} {o:Oper} {l':List Oper},Ky n con o S (fun S'=>Y4 Y K n ops r l' S' f)=(Ky n con o S (fun S'=>Y4 Y K n ops r l' S' g)).bind k:=fun {con o l'}=>Jof (st:=fun {R}=>Ky n con) Qyy fun S'=>Xw hk
  repeat' (first | rfl | exact hc | split)
 | R,A,.br r,l,S,f,g,k,hk=>by
  simp only[Y4]
  have hc:∀{o:Oper} {l':List Oper},Qgt Y n o S (fun S'=>Y4 Y K n ops r l' S' f)=(Qgt Y n o S (fun S'=>Y4 Y K n ops r l' S' g)).bind k:=fun {o l'}=>Jof (st:=fun {R}=>Qgt Y n) Jd6 fun S'=>Xw hk
  repeat' (first | rfl | exact hc | split)
 | R,A,.fz id r,l,S,f,g,k,hk=>by
  simp only[Y4]
  exact Xw hk
 | R,A,.keep ts r,l,S,f,g,k,hk=>by
  simp only[Y4]
  exact Xw hk
 | R,A,.op src id d r,l,S,f,g,k,hk=>by
  simp only[Y4]
  unfold Q2j Jp9
  repeat' (first | rfl | exact Xw hk | (refine Xv ?_) | split)
 | R,A,.cl id r,l,S,f,g,k,hk=>by
  simp only[Y4]
  unfold Qra
  repeat' (first | rfl | exact Xw hk | (refine Xv ?_) | split)
 | R,A,.fm id r,l,S,f,g,k,hk=>by
  simp only[Y4]
  unfold Q2i
  repeat' (first | rfl | exact Xw hk | (refine Xv ?_) | split)
 | R,A,.sp t m ks ms Γ a b r,l,S,f,g,k,hk=>by
  simp only[Y4]
  split
  ·exact Xv (Bj fun _=>Xw hk)
  ·rfl
 | R,A,.si t i a b,l,S,f,g,k,hk=>by
  simp only[Y4]
  split
  ·refine Xv ?_
   split
   ·exact Xw hk
   ·exact Xw hk
  ·rfl
 | R,A,.md _ _,l,S,f,g,k,hk=>by simp_all [Y4]
 | R,A,.tl _,l,S,f,g,k,hk=>by simp_all [Y4]
 | R,A,.dt _ _,l,S,f,g,k,hk=>by simp_all [Y4]
 | R,A,.so _ _ _,l,S,f,g,k,hk=>by simp_all [Y4]
theorem Qri{Y:TX}{K:List Con}{n:Nat}{ops:List Oper}{R:Type}{r:R}{h:Hn}{l:List Oper}{S:XS}{k:XS→Option R}(hs:Y4 Y K n ops h l S k=some r):∃S1,k S1=some r∧Y4 (R:=XS) Y K n ops h l S some=some S1:=by
 have e:=Xw (Y:=Y) (K:=K) (n:=n) (ops:=ops) (h:=h) (l:=l) (S:=S) (f:=k) (g:=some) (k:=k) fun S'=>rfl
 rw[e]at hs
 grind [Option.bind_eq_some_iff]
end Gx

/- States, and what becomes of them: new objects, other names. -/
namespace Gd
open Go Go.RowKit
section
variable {β:Nat→Nat} {X:Cx} {G:GL} {D:List DF} {H:HL} {O:List TL} {a:Act} {w w':World}
def Hi(t t':TL):Prop:=(∀g,t'.blks g↔t.blks g)∧(∀b o,t'.cov b o↔t.cov b o)∧∀ok w,t.p ok w→t'.p ok w
inductive Wg:List TL→List TL→Prop
 | nil:Wg [] []
 | cons {t t':TL} {l l':List TL} (h:Hi t t') (r:Wg l l'):Wg (t::l) (t'::l')
theorem Hi.refl(t:TL):Hi t t:=⟨fun _=>Iff.rfl,fun _ _=>Iff.rfl,fun _ _ h=>h⟩
theorem Wg.refl:∀l:List TL,Wg l l
 | []=>.nil
 | t::l=>.cons (Hi.refl t) (Wg.refl l)
theorem Wg.mem{l l':List TL}(h:Wg l l'):∀t'∈l',∃t∈l,Hi t t':=by
 induction h with
 | nil=>simp
 | cons h r ih =>
  grind
theorem Wg.mem'{l l':List TL}(h:Wg l l'):∀t∈l,∃t'∈l',Hi t t':=by
 induction h with
 | nil=>simp
 | cons h r ih =>
  grind
theorem Wg.pw{l l':List TL}(h:Wg l l')(hp:l.Pairwise fun s t=>∀g,s.blks g→¬ t.blks g):l'.Pairwise fun s t=>∀g,s.blks g→¬ t.blks g:=by
 induction h with
 | nil=>exact .nil
 | cons h r ih =>
  have:=List.pairwise_cons.1 hp
  refine List.pairwise_cons.2 ⟨fun u hu g hg hg2=>?_,ih this.2⟩
  obtain⟨t,ht,hs⟩:=r.mem u hu
  exact this.1 t ht g ((h.1 g).1 hg) ((hs.1 g).1 hg2)
theorem Wg.append{l l' m m':List TL}(h:Wg l l')(k:Wg m m'):Wg (l++m) (l'++m'):=by
 induction h with
 | nil=>exact k
 | cons h _ ih=>exact .cons h ih
theorem Wg.ok{l l':List TL}(h:Wg l l'){ok0:Ok}{B:Nat}:∀b o,Jk ok0 B β H l w b o→Jk ok0 B β H l' w b o:=by
 rintro b o ⟨h1,h2,h3,h4⟩
 refine⟨h1,h2,h3,fun u hu hc=>?_⟩
 obtain⟨t,ht,hs⟩:=h.mem u hu
 exact h4 t ht ((hs.2.1 b o).1 hc)
theorem Sb.simO{O':List TL}(h:Sb β X G D H O a w)(hs:Wg O O'):Sb β X G D H O' a w :=
 { sz:=h.sz,df:=h.df,fr:=h.fr,pn:=h.pn,tm:=h.tm,bel:=h.bel,dat:=h.dat.weak hs.ok,obj:=h.obj,own:=fun u hu=>let⟨t,ht,hst⟩:=hs.mem u hu; ⟨u.weak (hst.2.2 _ _ (h.own t ht).1) hs.ok,fun g hg=>(h.own t ht).2 g ((hst.1 g).1 hg)⟩,dHH:=h.dHH,dHO:=fun p hp u hu hg=>let⟨t,ht,hst⟩:=hs.mem u hu; h.dHO p hp t ht ((hst.1 _).1 hg),dOO:=hs.pw h.dOO }
theorem Sb.subO{O':List TL}(h:Sb β X G D H O a w)(hs:O'.Sublist O):Sb β X G D H O' a w:=by
 have hok:∀b o,Jk X.ok X.w.heap.size β H O w b o→Jk X.ok X.w.heap.size β H O' w b o:=fun b o ⟨h1,h2,h3,h4⟩=>⟨h1,h2,h3,fun u hu=>h4 u (hs.subset hu)⟩
 exact { sz:=h.sz,df:=h.df,fr:=h.fr,pn:=h.pn,tm:=h.tm,bel:=h.bel,dat:=h.dat.weak hok,obj:=h.obj,own:=fun u hu=>⟨u.weak (h.own u (hs.subset hu)).1 hok,(h.own u (hs.subset hu)).2⟩,dHH:=h.dHH,dHO:=fun p hp u hu=>h.dHO p hp u (hs.subset hu),dOO:=h.dOO.sublist hs }
theorem Qff{O1 O1' O2:List TL}{L:List Nat}(h:Sb β X G D [] (O1++O2) a w)(_:w.heap.size≤w'.heap.size)(hL:∀g∈L,∃t∈O1,t.blks g) :
  ∀b o,Jk (okL L (Jk X.ok X.w.heap.size β [] (O1++O2) w)) w.heap.size β [] O1' w' b o→Jk X.ok X.w.heap.size β [] (O1'++O2) w' b o:=by
 rintro b o ⟨h1,h2,_,h4⟩
 have hO2:∀u∈O2,¬ u.cov b o→∀v∈O1'++O2,v=u→¬ v.cov b o:=fun u _ hn v _ e=>e▸hn
 have fin:(X.ok b o∨X.w.heap.size≤b)→(∀u∈O2,¬ u.cov b o)→Jk X.ok X.w.heap.size β [] (O1'++O2) w' b o:=by
  intro h5 h6
  refine⟨h5,h2,by simp,fun u hu=>?_⟩
  grind
 rcases h1 with(h1 | h1) | h1
 ·exact fin h1.1 fun u hu=>h1.2.2.2 u (by simp[hu])
 ·obtain⟨t,ht,hg⟩:=hL b h1
  have hm:=(h.own t (by simp[ht])).2 b hg
  refine fin (X.mine_ok hm o) fun u hu hc=>?_
  exact(QE.1 h.dOO).2.2 t ht u hu b hg (u.cb hc)
 ·refine fin (.inr (Nat.le_trans h.bel.size h1)) fun u hu hc=>?_
  have:=h.olt (t:=u) (by simp[hu]) (u.cb hc)
  omega
theorem Sb.callO{O1 O1' O2:List TL}{L:List Nat}(h:Sb β X G D [] (O1++O2) a w)(hb:Vi L w.heap.size w w')(hL:∀g∈L,∃t∈O1,t.blks g)(hcov:∀t∈O1,∀b o,t.blks b→t.cov b o)
  (hp:∀t∈O1',t.p (Jk (okL L (Jk X.ok X.w.heap.size β [] (O1++O2) w)) w.heap.size β [] O1' w') w'∧∀g,t.blks g→w.heap.size≤g∨g∈L) (hd:O1'.Pairwise fun s t=>∀g,s.blks g→¬ t.blks g) :
  Sb β X G D [] (O1'++O2) a w':=by
 have hpw:=QE.1 h.dOO
 have hsame:∀b,b<w.heap.size→(∀t∈O1,¬ t.blks b)→w'.heap[b]?=w.heap[b]?:=fun b hb' hn=>hb.block b hb' fun hm=>by grind
 have hevo:Evo (Jk X.ok X.w.heap.size β [] (O1++O2) w) w w':=Evo.of_blocks hb.size fun b o hk=>hsame b hk.2.1 fun t ht hg=>hk.2.2.2 t (by simp[ht]) (hcov t ht b o hg)
 have hok:∀b o,Jk X.ok X.w.heap.size β [] (O1++O2) w b o→Jk X.ok X.w.heap.size β [] (O1'++O2) w' b o:=by
  rintro b o ⟨h1,h2,h3,h4⟩
  refine⟨h1,QP h2 hb.size,h3,fun u hu hc=>?_⟩
  rcases QZ.1 hu with hu | hu
  ·rcases(hp u hu).2 b (u.cb hc)with hg | hg
   ·omega
   ·obtain⟨t,ht,hg⟩:=hL b hg
    exact h4 t (by simp[ht]) (hcov t ht b o hg)
  grind
 have hmine:∀t∈O1',∀g,t.blks g→X.mine g:=by
  intro t ht g hg
  rcases(hp t ht).2 g hg with h1 | h1
  ·exact .inl (Nat.le_trans h.bel.size h1)
  ·obtain⟨u,hu,hg⟩:=hL g h1
   exact(h.own u (by simp[hu])).2 g hg
 have hO2:∀u∈O2,∀g,u.blks g→w'.heap[g]?=w.heap[g]?:=fun u hu g hg=>hsame g (h.olt (by simp[hu]) hg) fun t ht hg2=>hpw.2.2 t ht u hu g hg2 hg
 refine { sz:=h.sz,df:=h.df,fr:=h.fr,pn:=h.pn,tm:=h.tm,bel:=?_,dat:=(h.dat.evo hevo).weak hok,obj:=by simp,own:=?_,dHH:=by simp,dHO:=by simp,dOO:=?_ }
 ·refine h.bel.trans ⟨hb.os,hb.tape,hb.output,hb.size,fun k hk hn=>hsame k (QP hk h.bel.size) fun t ht hg=>?_⟩
  exact((h.own t (by simp[ht])).2 k hg).elim (fun h=>by omega) hn
 ·intro u hu
  rcases QZ.1 hu with hu | hu
  ·exact⟨u.weak (hp u hu).1 (Qff h hb.size hL),hmine u hu⟩
  ·have:=h.own u (by simp[hu]:u∈O1++O2)
   exact⟨u.weak (u.keep this.1 (hO2 u hu) hevo) hok,this.2⟩
 ·refine QE.2 ⟨hd,hpw.2.1,fun t ht u hu g hg hg2=>?_⟩
  rcases(hp t ht).2 g hg with h1 | h1
  ·have:=h.olt (t:=u) (by simp[hu]) hg2; omega
  grind
end
end Gd
namespace Gx
open Go Go.RowKit Gd
set_option linter.unusedVariables false
set_option linter.unusedSimpArgs false
def upd{α:Type}(f:Nat→α)(d:Nat)(v:α):Nat→α:=fun i=>if i=d then v else f i
theorem Jl{α:Type}(f:Nat→α)(d:Nat)(v:α):upd f d v d=v:=by simp[upd]
theorem Dz{α:Type}(f:Nat→α){d i:Nat}(v:α)(h:i≠d):upd f d v i=f i:=by simp[upd,h]
def Qjo(d:Nat)(β β':Nat→Nat)(ρ ρ':Nat→Value):Prop:=∀i,i≠d→β' i=β i∧ρ' i=ρ i
theorem Qln(d:Nat)(β:Nat→Nat)(ρ:Nat→Value)(g:Nat)(v:Value):Qjo d β (upd β d g) ρ (upd ρ d v):=fun i h=>⟨Dz _ _ h,Dz _ _ h⟩
theorem neB{a b:Nat}(h:(!Nat.beq a b)=true):a≠b:=by
 grind [Nat.beq_refl]
section
variable {β β':Nat→Nat} {ρ ρ':Nat→Value} {ok:Ok} {w:World} {d:Nat}
theorem H5(ha:Qjo d β β' ρ ρ'):∀{m:Bool} {x:AV} {cs:List Value},Z4 d x=true→cr β ρ ok w m x cs→cr β' ρ' ok w m x cs
 | m,.d t x,cs,_,h=>by cases m<;>exact h
 | m,.p id path,cs,hn,h=>by
  have:=(ha id (neB (by grind [Z4]))).1
  cases m<;>(grind [cr])
 | m,.e id path,cs,hn,h=>by
  have:=(ha id (neB (by grind [Z4]))).2
  cases m<;>(grind [cr])
 | m,.s id,cs,hn,h=>by
  have:=(ha id (neB (by grind [Z4]))).2
  cases m<;>(grind [cr])
 | m,.m id,cs,hn,h=>by
  have:=(ha id (neB (by grind [Z4]))).1
  cases m<;>(grind [cr])
 | m,.b id,cs,hn,h=>by
  have:=(ha id (neB (by grind [Z4]))).1
  cases m<;>(grind [cr])
 | m,.w id _ _,cs,hn,h=>by
  have:=(ha id (neB (by grind [Z4]))).1
  cases m<;>(grind [cr])
 | m,.a t x,cs,_,h=>by cases m<;>exact h
 | m,.z,cs,_,h=>by cases m<;>exact h
 | m,.ns,cs,_,h=>by cases m<;>exact h
 | m,.np,cs,_,h=>by cases m<;>exact h
 | m,.nm,cs,_,h=>by cases m<;>exact h
 | m,.nf,cs,_,h=>by cases m<;>exact h
 | m,.f fn caps,cs,hn,h=>by cases m<;>exact let⟨vs,h1,h2⟩:=h; ⟨vs,h1,H5 ha (by grind [Z4]) h2⟩
 | m,.ag l,cs,hn,h=>by cases m<;>exact H5 ha (m:=false) (x:=l) (by grind [Z4]) h
 | m,.tp l,cs,hn,h=>by cases m<;>exact let⟨vs,h1,h2⟩:=h; ⟨vs,h1,H5 ha (by grind [Z4]) h2⟩
 | m,.nil,cs,_,h=>by cases m<;>exact h
 | true,.cons x r,cs,hn,h=>by
  simp only[Z4,QJ]at hn
  exact let⟨c1,vs,h1,h2,h3⟩:=h; ⟨c1,vs,h1,H5 ha hn.1 h2,H5 ha hn.2 h3⟩
 | false,.cons x r,cs,hn,h=>by
  simp only[Z4,QJ]at hn
  exact let⟨c1,vs,h1,h2,h3⟩:=h; ⟨c1,vs,h1,H5 ha hn.1 h2,H5 ha hn.2 h3⟩
def Ju0(d:Nat):Ob→Prop
 | .var _ c=>Z4 d c=true
 | .mapC _ _ _ (some q)=>q.2≠d
 | _=>True
theorem D0:∀{M:List (Nat×Ob)},Yf d M=true→∀q∈M,q.1≠d∧Ju0 d q.2
 | [],_,q,hq=>by cases hq
 | (k,o)::l,h,q,hq=>by
  cases o with
  | var t c =>
   simp only[Yf,QJ]at h
   rcases QX.1 hq with rfl | hq
   ·exact⟨neB h.1.1,h.1.2⟩
   ·exact D0 h.2 q hq
  | mapC k1 v xs hole =>
   cases hole with
   | none =>
    simp only[Yf,QJ]at h
    rcases QX.1 hq with rfl | hq
    ·exact⟨neB h.1,trivial⟩
    ·exact D0 h.2 q hq
   | some q0 =>
    simp only[Yf,QJ]at h
    rcases QX.1 hq with rfl | hq
    ·exact⟨neB h.1.1,neB h.1.2⟩
    ·exact D0 h.2 q hq
  | _ =>
   simp only[Yf,QJ]at h
   rcases QX.1 hq with rfl | hq
   ·exact⟨neB h.1,trivial⟩
   ·exact D0 h.2 q hq
theorem Qag(ha:Qjo d β β' ρ ρ'):∀{M:List (Nat×Ob)},Yf d M=true→Wg (Qk β ρ M) (Qk β' ρ' M)
 | [],_=>.nil
 | (k,o)::l,h=>by
  have hq:=D0 h (k,o) (.head _)
  have hl:Yf d l=true:=by
   cases o with
   | mapC k1 v xs hole=>cases hole<;>simp only[Yf,QJ]at h<;>exact h.2
   | _=>simp_all [Yf,QJ]
  refine .cons ?_ (Qag ha hl)
  obtain⟨h1,h2⟩:=ha k hq.1
  cases o with
  | var t c =>
   refine⟨fun g=>by grind [Q4,Qqw],fun b o=>by grind [Q4,Qqw],fun ok w hp=>?_⟩
   obtain⟨cs,hh,hc⟩:=hp
   exact⟨cs,by rw[h1]; exact hh,H5 ha hq.2 hc⟩
  | row e t xs=>grind [Q4,Hi.refl]
  | tail e t xs=>grind [Q4,Hi.refl]
  | map k v xs=>grind [Q4,Hi.refl]
  | mapC k1 v xs hole =>
   have hv:Np β' ρ' v hole=Np β ρ v hole:=by
    cases hole with
    | none=>rfl
    | some q=>cases v<;>simp only[Np,(ha q.2 hq.2).1,(ha q.2 hq.2).2]
   grind [Q4,Hi.refl]
theorem Jog{a:Act}(ha:Qjo d β β' ρ ρ'){e:En}(hn:Z4 d e.av=true)(h:(enD β ρ a e).p ok w):(enD β' ρ' a e).p ok w :=
 ⟨fun hc=>let⟨cs,h1,h2⟩:=h.1 hc; ⟨cs,h1,H5 ha hn h2⟩,h.2⟩
theorem Qhp{l:List En}{e:En}(h:e∈Uf d l):e∈l∧Z4 d e.av=true:=by
 induction l with
 | nil=>cases h
 | cons x l ih =>
  simp only[Uf]at h
  grind
theorem Qrj{l:List En}(h:Qjh d l=true):∀e∈l,Z4 d e.av=true:=by
 induction l with
 | nil=>grind
 | cons x l ih =>
  simp only[Qjh,QJ]at h
  intro e he
  rcases QX.1 he with rfl | he
  ·exact h.1
  ·exact ih h.2 e he
end
section
variable {X:Cx} {β β':Nat→Nat} {ρ ρ':Nat→Value} {S:St} {a:Act} {w w':World} {d:Nat}
theorem Rel.off(h:Rel X β ρ S a w)(ha:Qjo d β β' ρ ρ')(hf:Yf d S.mem=true){env':List En}(he:∀e∈env',e∈S.env∧Z4 d e.av=true):Rel X β' ρ' ⟨env',S.mem⟩ a w:=by
 have h1:=Sb.simO h (Qag ha hf)
 refine { h1 with dat:=Yk.2 fun x hx=>?_ }
 obtain⟨e,hm,rfl⟩:=QK.1 hx
 obtain⟨h2,h3⟩:=he e hm
 exact Jog ha h3 ((enD β ρ a e).weak (h.en h2) (Qag ha hf).ok)
theorem Rel.ofSb{G:GL}{D:List DF}{O:List TL}(h:Sb (fun _=>0) X G D [] O a w){mem:List (Nat×Ob)}(hO:O=Qk β ρ mem){env:List En}
  (he:∀e∈env,(enD β ρ a e).p (okR X β ρ mem w) w):Rel X β ρ ⟨env,mem⟩ a w:=by
 subst hO
 exact { h with tm:=by simp,dat:=Yk.2 fun x hx=>by grind }
theorem Rel.alloc(h:Rel X β ρ S a w)(ha:Qjo d β β' ρ ρ')(hf:Yf d S.mem=true){env':List En}(he:∀e∈env',e∈S.env∧Z4 d e.av=true)(hb:Below w.heap.size w w'){o:Ob}
  (ht:∀g,(Q4 β' ρ' d o).blks g→w.heap.size≤g) (hq:(Q4 β' ρ' d o).p (okR X β' ρ' ((d,o)::S.mem) w') w'):Rel X β' ρ' ⟨env',(d,o)::S.mem⟩ a w' :=
 Sb.allocTL (h.off ha hf he) hb ht hq
end
end Gx
