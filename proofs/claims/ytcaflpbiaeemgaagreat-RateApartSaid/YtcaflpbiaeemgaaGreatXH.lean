/- Shapes of states; the interpreter. -/
import Derived.Test.YtcaflpbiaeemgaaGreatXMc
import Derived.StillTail
import Derived.Test.YtcaflpbiaeemgaaGreatGCore
set_option linter.unusedVariables false
set_option linter.unusedSimpArgs false
namespace Gx
open Go Go.RowKit Gd
inductive Sk where
 | d (t:Ty)
 | p (id:Nat) (path:List PS)
 | s (id:Nat) | m (id:Nat)
 | ns | np | nm | nf | z
 | f (fn:FuncId) (caps:Sk)
 | ag (l:Sk) | nil | cons (x r:Sk)
inductive SkO where
 | var (tid:TypeId) (c:Sk)
 | row (e:TypeId) (t:Ty)
 | tail (e:TypeId) (t:Ty)
 | map (k v:Ty)
 | mapC (k:Ty) (c:CK)
structure Shp where
 env:List (Nat×Sk)
 mem:List (Nat×SkO)
abbrev DV:=Σ t:Ty,t.De
def Sk.tys:Sk→List Ty
 | .d t=>[t]
 | .f _ c=>c.tys
 | .ag l=>l.tys
 | .cons x r=>x.tys++r.tys
 | _=>[]
def SkO.tys:SkO→List Ty
 | .var _ c=>c.tys
 | .row _ t=>[.sl t]
 | .tail _ t=>[.sl t]
 | .map k v=>[.sl (.pr k v)]
 | .mapC k c=>[.sl (.pr k c.ty)]
def Jtm:List (Nat×Sk)→List Ty
 | []=>[]
 | q::l=>q.2.tys++Jtm l
def Jtn:List (Nat×SkO)→List Ty
 | []=>[]
 | q::l=>q.2.tys++Jtn l
def Shp.tys(Γ:Shp):List Ty:=Jtm Γ.env++Jtn Γ.mem
@[reducible] def Tup:List Ty→Type
 | []=>Unit
 | [t]=>t.De
 | t::u::ts=>t.De×Tup (u::ts)
abbrev Shp.De(Γ:Shp):Type:=Tup Γ.tys
def toL:(ts:List Ty)→Tup ts→List DV
 | [],_=>[]
 | [t],x=>[⟨t,x⟩]
 | t::u::ts,x=>⟨t,x.1⟩::toL (u::ts) x.2
def ofL:(ts:List Ty)→List DV→Option (Tup ts)
 | [],[]=>some ()
 | [t],[v]=>Ty.cast v.1 t v.2
 | t::u::ts,v::vs=>match Ty.cast v.1 t v.2,ofL (u::ts) vs with
  | some a,some b=>some (a,b)
  | _,_=>none
 | _,_=>none
def Tx:Sk→List DV→AV×List DV
 | .d t,v::vs=>(.d v.1 v.2,vs)
 | .d _,[]=>(.nil,[])
 | .p id path,vs=>(.p id path,vs)
 | .s id,vs=>(.s id,vs)
 | .m id,vs=>(.m id,vs)
 | .ns,vs=>(.ns,vs)
 | .np,vs=>(.np,vs)
 | .nm,vs=>(.nm,vs)
 | .nf,vs=>(.nf,vs)
 | .z,vs=>(.z,vs)
 | .f fn c,vs=>match Tx c vs with
  | (x,r)=>(.f fn x,r)
 | .ag l,vs=>match Tx l vs with
  | (x,r)=>(.ag x,r)
 | .nil,vs=>(.nil,vs)
 | .cons a b,vs=>match Tx a vs with
  | (x,r)=>match Tx b r with
   | (y,r')=>(.cons x y,r')
def Qjd:SkO→List DV→Option (Ob×List DV)
 | .var tid c,vs=>match Tx c vs with
  | (x,r)=>some (.var tid x,r)
 | .row e t,v::vs=>match Ty.cast v.1 (.sl t) v.2 with
  | some xs=>some (.row e t xs,vs)
  | none=>none
 | .tail e t,v::vs=>match Ty.cast v.1 (.sl t) v.2 with
  | some xs=>some (.tail e t xs,vs)
  | none=>none
 | .map k u,v::vs=>match Ty.cast v.1 (.sl (.pr k u)) v.2 with
  | some xs=>some (.map k u xs,vs)
  | none=>none
 | .mapC k c,v::vs=>match Ty.cast v.1 (.sl (.pr k c.ty)) v.2 with
  | some xs=>some (.mapC k c xs none,vs)
  | none=>none
 | _,[]=>none
def Rk:List (Nat×Sk)→List DV→List En×List DV
 | [],vs=>([],vs)
 | (t,s)::l,vs=>match Tx s vs with
  | (x,r)=>match Rk l r with
   | (es,r')=>(⟨t,[],x⟩::es,r')
def Xw:List (Nat×SkO)→List DV→List (Nat×Ob)
 | [],_=>[]
 | (t,s)::l,vs=>match Qjd s vs with
  | some (x,r)=>(t,x)::Xw l r
  | none=>[]
structure XS where
 env:List En
 fix:List En
 mem:List (Nat×Ob)
 fixM:List (Nat×Ob)
 prot:List Nat
def XS.flat(S:XS):St:=⟨S.env++S.fix,S.mem++S.fixM⟩
abbrev XS.ev(S:XS)(cur:V5)(x:Operand):Option AV:=Gx.ev S.flat cur x
def enc(Γ:Shp)(x:Γ.De):St:=match Rk Γ.env (toL Γ.tys x)with
 | (es,r)=>⟨es,Xw Γ.mem r⟩
def PS.beq:PS→PS→Bool
 | .f k o,.f k' o'=>Nat.beq k k'&&Nat.beq o o'
 | _,_=>false
def Q6w:List PS→List PS→Bool
 | [],[]=>true
 | a::l,b::m=>PS.beq a b&&Q6w l m
 | _,_=>false
def isNone{α:Type}:Option α→Bool
 | none=>true
 | some _=>false
def CK.beq:CK→CK→Bool
 | .sl e u,.sl e' u'=>Nat.beq e e'&&Ty.beq u u'
 | .mp k v,.mp k' v'=>Ty.beq k k'&&Ty.beq v v'
 | _,_=>false
def Jpd:Sk→AV→List (Nat×Nat)
 | .s id,.s c=>[(id,c)]
 | .p id _,.p c _=>[(id,c)]
 | .m id,.m c=>[(id,c)]
 | .f _ x,.f _ y=>Jpd x y
 | .ag l,x=>match Qfv x with
  | some y=>Jpd l y
  | none=>[]
 | .cons a b,.cons x y=>Jpd a x++Jpd b y
 | _,_=>[]
def Jk6(env:List En):List (Nat×Sk)→List (Nat×Nat)
 | []=>[]
 | (t,s)::l=>match Wo env t with
  | some e=>Jpd s e.av++Jk6 env l
  | none=>Jk6 env l
def Q25(M:List (Nat×Ob)):List (Nat×SkO)→List (Nat×Nat)→List (Nat×Nat)
 | [],ri=>ri
 | (id,.var _ c)::l,ri=>match Jy ri id with
  | some i=>match Qk M i with
   | some (.var _ x)=>Q25 M l (ri++Jpd c x)
   | _=>Q25 M l ri
  | none=>Q25 M l ri
 | _::l,ri=>Q25 M l ri
def J1r(Γ:Shp)(S:St):List (Nat×Nat):=Q25 S.mem Γ.mem (Jk6 S.env Γ.env)
def Yr:List Nat→Nat→Bool
 | [],_=>false
 | k::l,t=>Nat.beq k t||Yr l t
def Q26:AV→List Nat
 | .s id=>[id]
 | .ag l=>Q26 l
 | .cons x r=>Q26 x++Q26 r
 | _=>[]
def Jpe:Sk→AV→List Nat
 | .d _,x=>Q26 x
 | .f _ a,.f _ x=>Jpe a x
 | .ag l,x=>match Qfv x with
  | some y=>Jpe l y
  | none=>[]
 | .cons a b,.cons x y=>Jpe a x++Jpe b y
 | _,_=>[]
def Jto(env:List En):List (Nat×Sk)→List Nat
 | []=>[]
 | (t,s)::l=>match Wo env t with
  | some e=>Jpe s e.av++Jto env l
  | none=>Jto env l
def Q6x(M:List (Nat×Ob))(ri:List (Nat×Nat)):List (Nat×SkO)→List Nat
 | []=>[]
 | (id,.var _ c)::l=>match Jy ri id with
  | some i=>match Qk M i with
   | some (.var _ x)=>Jpe c x++Q6x M ri l
   | _=>Q6x M ri l
  | none=>Q6x M ri l
 | (id,.tail _ _)::l=>match Jy ri id with
  | some i=>i::Q6x M ri l
  | none=>Q6x M ri l
 | _::l=>Q6x M ri l
def Ud(ks:List Nat):List (Nat×Ob)→List (Nat×Ob)
 | []=>[]
 | (id,.row e t xs)::l=>(bif Yr ks id&&Nat.ble 1 t.size then(id,.tail e t xs)else(id,.row e t xs))::Ud ks l
 | q::l=>q::Ud ks l
def Jh7(ri:List (Nat×Nat))(id c:Nat):Bool:=match Jy ri id with
 | some i=>Nat.beq i c
 | none=>false
def Sk.isL:Sk→Bool
 | .nil=>true
 | .cons _ b=>b.isL
 | _=>false
def Zi(M:List (Nat×Ob))(ri:List (Nat×Nat))(pr:List Nat):Sk→AV→Option (List DV)
 | .d t,v=>match asD M v t with
  | some x=>bif t.agg==v.isAgg then some [⟨t,x⟩]else none
  | none=>none
 | .p id path,.p c path'=>bif Jh7 ri id c&&Q6w path path' then some []else none
 | .s id,.s c=>bif Jh7 ri id c&&!isNone (Qk M c)then some []else none
 | .s id,.ns=>bif isNone (Jy ri id)&&!Yr pr id then some []else none
 | .m id,.m c=>bif Jh7 ri id c then some []else none
 | .ns,.ns=>some []
 | .np,.np=>some []
 | .nm,.nm=>some []
 | .nf,.nf=>some []
 | .z,.z=>some []
 | .f fn c,.f fn' x=>bif Nat.beq fn fn'&&c.isL then Zi M ri pr c x else none
 | .ag l,x=>match Qfv x with
  | some y=>Zi M ri pr l y
  | none=>none
 | .nil,.nil=>some []
 | .cons a b,.cons x y=>match Zi M ri pr a x,Zi M ri pr b y with
  | some u,some v=>some (u++v)
  | _,_=>none
 | _,_=>none
def Qxq(M:List (Nat×Ob))(ri:List (Nat×Nat))(pr:List Nat)(env:List En):List (Nat×Sk)→Option (List DV)
 | []=>some []
 | (t,s)::l=>match Wo env t with
  | some ⟨_,[],x⟩=>match Zi M ri pr s x,Qxq M ri pr env l with
   | some u,some v=>some (u++v)
   | _,_=>none
  | _=>none
def Qd6(M:List (Nat×Ob))(ri:List (Nat×Nat))(pr:List Nat):SkO→Option Ob→Option (List DV)
 | .var tid c,some (.var tid' x)=>bif Nat.beq tid tid' then Zi M ri pr c x else none
 | .row e t,some (.row e' t' xs)=>bif Nat.beq e e'&&Ty.beq t t' then some [⟨.sl t',xs⟩]else none
 | .row e t,none=>some [⟨.sl t,[]⟩]
 | .tail e t,some (.tail e' t' xs)=>bif Nat.beq e e'&&Ty.beq t t' then some [⟨.sl t',xs⟩]else none
 | .tail e t,none=>some [⟨.sl t,[]⟩]
 | .map k u,some (.map k' u' xs)=>bif Ty.beq k k'&&Ty.beq u u' then some [⟨.sl (.pr k' u'),xs⟩]else none
 | .mapC k c,some (.mapC k' c' xs hole)=>bif Ty.beq k k'&&CK.beq c c'&&isNone hole then some [⟨.sl (.pr k' c'.ty),xs⟩]else none
 | _,_=>none
def Jk7(M:List (Nat×Ob))(ri:List (Nat×Nat))(id:Nat):Option (Option Ob):=match Jy ri id with
 | none=>some none
 | some c=>match Qk M c with
  | some o=>some (some o)
  | none=>none
def Qcr(M F:List (Nat×Ob))(ri:List (Nat×Nat))(pr:List Nat):List (Nat×SkO)→Option (List DV)
 | []=>some []
 | (t,s)::l=>match Jk7 M ri t with
  | some o=>match Qd6 (M++F) ri pr s o,Qcr M F ri pr l with
   | some u,some v=>some (u++v)
   | _,_=>none
  | none=>none
def Ij(ri:List (Nat×Nat)):List (Nat×SkO)→List Nat→Bool
 | [],_=>true
 | (id,_)::l,cs=>match Jy ri id with
  | some c=>!Yr cs c&&Ij ri l (c::cs)
  | none=>Ij ri l cs
def Jtp:List (Nat×SkO)→List Nat→Bool
 | [],_=>true
 | (id,_)::l,cs=>!Yr cs id&&Jtp l (id::cs)
def frz(Γ:Shp)(ri:List (Nat×Nat))(env:List En)(M:List (Nat×Ob)):List (Nat×Ob):=Ud (Jto env Γ.env++Q6x M ri Γ.mem) M
def Jk8(ri:List (Nat×Nat))(pr:List Nat):List (Nat×SkO)→Bool
 | []=>true
 | (id,_)::l=>(!Yr pr id||Jh7 ri id id)&&Jk8 ri pr l
def Jbv(pr:List Nat):List (Nat×Nat)→Bool
 | []=>true
 | (id,c)::l=>(!Yr pr id||Nat.beq id c)&&Jbv pr l
def Jzr(Γ:Shp)(ri:List (Nat×Nat))(pr:List Nat)(env:List En)(M F:List (Nat×Ob)):Option Γ.De :=
 bif Ij ri Γ.mem []&&Jtp Γ.mem []&&Jk8 ri pr Γ.mem&&Jbv pr ri then
  match Qxq (M++F) ri pr env Γ.env,Qcr M F ri pr Γ.mem with
  | some u,some v=>ofL Γ.tys (u++v)
  | _,_=>none
 else none
def decF(Γ:Shp)(ri:List (Nat×Nat))(pr:List Nat)(env:List En)(M F:List (Nat×Ob)):Option Γ.De:=Jzr Γ ri pr env (frz Γ ri env M) F
def Jk:AV→List Nat
 | .p id _=>[id]
 | .e id _=>[id]
 | .s id=>[id]
 | .m id=>[id]
 | .b id=>[id]
 | .w id _ _=>[id]
 | .f _ c=>Jk c
 | .ag l=>Jk l
 | .tp l=>Jk l
 | .cons x r=>Jk x++Jk r
 | _=>[]
def Qcs:List En→List Nat
 | []=>[]
 | e::l=>Jk e.av++Qcs l
def Jq:List (Nat×Ob)→List Nat
 | []=>[]
 | (id,.var _ c)::l=>id::(Jk c++Jq l)
 | (id,.mapC _ _ _ (some q))::l=>id::q.2::Jq l
 | (id,_)::l=>id::Jq l
def Jtq(pr:List Nat):List (Nat×SkO)→List (Nat×Nat)
 | []=>[]
 | (id,_)::l=>bif Yr pr id then(id,id)::Jtq pr l else Jtq pr l
def XS.dec(S:XS)(Γ:Shp):Option Γ.De:=decF Γ (Q25 S.mem Γ.mem (Jk6 (S.env++S.fix) Γ.env++Jtq (S.prot++(Qcs S.fix++Jq S.fixM)) Γ.mem)) (S.prot++(Qcs S.fix++Jq S.fixM)) (S.env++S.fix) S.mem S.fixM
def Q1f(env:List En):List Nat→List En
 | []=>[]
 | t::ts=>match Wo env t with
  | some e=>e::Q1f env ts
  | none=>Q1f env ts
def Jv:List (Nat×Ob)→List Nat→List (Nat×Ob)×List (Nat×Ob)
 | M,[]=>(M,[])
 | M,t::ts=>match Qk M t with
  | some o=>((Jv (Ya M t) ts).1,(t,o)::(Jv (Ya M t) ts).2)
  | none=>Jv M ts
def XS.ent(S:XS)(ks ms:List Nat):XS:=⟨S.env,Q1f S.env ks++S.fix,(Jv S.mem ms).1,(Jv S.mem ms).2++S.fixM,S.prot⟩
def XS.re(S:XS)(S1:St):XS:=⟨S1.env,S.fix,S1.mem,S.fixM,S.prot⟩
def XS.out(S:XS)(ks ms:List Nat)(S1:St):XS:=⟨S1.env++Q1f S.env ks,S.fix,S1.mem++(Jv S.mem ms).2,S.fixM,S.prot⟩
inductive Ex where
 | n | x (id:Nat) | r
def Ex.beq:Ex→Ex→Bool
 | .n,.n=>true
 | .r,.r=>true
 | .x a,.x b=>Nat.beq a b
 | _,_=>false
abbrev Exs:=List (Ex×Shp)
@[reducible] def Jh8:Exs→Type
 | []=>Empty
 | [q]=>q.2.De
 | q::r::l=>q.2.De⊕Jh8 (r::l)
def inj:(l:Exs)→Ex→XS→Option (Jh8 l)
 | [],_,_=>none
 | [q],e,S=>bif Ex.beq q.1 e then S.dec q.2 else none
 | q::r::l,e,S=>bif Ex.beq q.1 e then(match S.dec q.2 with
   | some x=>some (.inl x)
   | none=>none)else(match inj (r::l) e S with
   | some x=>some (.inr x)
   | none=>none)
def Jh9{R:Type}(S:XS)(ks ms:List Nat)(k:Ex→XS→Option R):(l:Exs)→Jh8 l→Option R
 | [],_=>none
 | [q],x=>k q.1 (S.out ks ms (enc q.2 x))
 | q::r::l,x=>match x with
  | .inl y=>k q.1 (S.out ks ms (enc q.2 y))
  | .inr z=>Jh9 S ks ms k (r::l) z
def Qf{σ τ:Type}(f:σ→Option (σ⊕τ)):Nat→σ→Option τ
 | 0,_=>none
 | n+1,s=>(f s).bind fun
  | .inl s'=>Qf f n s'
  | .inr r=>some r
@[reducible] def Qia:List Shp→Type
 | []=>Empty
 | [s]=>s.De
 | s::r::l=>s.De⊕Qia (r::l)
def Qje:(l:List Shp)→Qia l→St
 | [],y=>nomatch y
 | [s],y=>enc s y
 | s::r::l,y=>match y with
  | .inl a=>enc s a
  | .inr b=>Qje (r::l) b
def J50{R:Type}:(l:List Shp)→Qia l→(St→Option R)→Option R
 | [],_,_=>none
 | [s],y,k=>k (enc s y)
 | s::r::l,y,k=>match y with
  | .inl a=>k (enc s a)
  | .inr b=>J50 (r::l) b k
theorem Qwe{R:Type}:∀(l:List Shp) (y:Qia l) (k:St→Option R),J50 l y k=k (Qje l y)
 | [],y,_=>nomatch y
 | [_],_,_=>rfl
 | _::_::_,.inl _,_=>rfl
 | _::r::l,.inr b,k=>Qwe (r::l) b k
structure Con where
 f:FuncId
 Γ:Shp
 Δ:List Shp
 fn:Γ.De→Option (Qia Δ)
 ro:List Nat
def V7(Zs:List (Nat×Ob)):List Nat:=Zs.map Prod.fst
def wrM(ro:List Nat)(M:List (Nat×Ob)):List (Nat×Ob):=M.filter fun q=>!Yr ro q.1
def rdM(ro:List Nat)(M:List (Nat×Ob)):List (Nat×Ob):=M.filter fun q=>Yr ro q.1
def wrG(ro:List Nat)(M:List (Nat×SkO)):List (Nat×SkO):=M.filter fun q=>!Yr ro q.1
def rdG(ro:List Nat)(M:List (Nat×SkO)):List (Nat×SkO):=M.filter fun q=>Yr ro q.1
def roM(c:Con)(x:c.Γ.De):List (Nat×Ob):=rdM c.ro (enc c.Γ x).mem
def Qn3:Sk→AV→Bool
 | .d _,.d _ _=>true
 | .p _ _,.p _ _=>true
 | .s _,.s _=>true
 | .m _,.m _=>true
 | .ns,.ns=>true
 | .np,.np=>true
 | .nm,.nm=>true
 | .nf,.nf=>true
 | .z,.z=>true
 | .f _ c,.f _ x=>Qn3 c x
 | .ag l,.ag y=>Qn3 l y
 | .nil,.nil=>true
 | .cons a b,.cons x y=>Qn3 a x&&Qn3 b y
 | _,_=>false
def J1s:SkO→Ob→Bool
 | .var _ c,.var _ x=>Qn3 c x
 | .row _ _,.row _ _ _=>true
 | .map _ _,.map _ _ _=>true
 | _,_=>false
def Q27(ri:List (Nat×Nat))(M:List (Nat×Ob)):List (Nat×SkO)→Bool
 | []=>true
 | (id,s)::l=>(match Jy ri id with
  | some c=>(match Qk M c with
   | some ob=>J1s s ob
   | none=>false)
  | none=>false)&&Q27 ri M l
def Gc(g:Nat→Nat):AV→AV
 | .p id path=>.p (g id) path
 | .e id path=>.e (g id) path
 | .s id=>.s (g id)
 | .m id=>.m (g id)
 | .b id=>.b (g id)
 | .w id j n=>.w (g id) j n
 | .f fn c=>.f fn (Gc g c)
 | .ag l=>.ag (Gc g l)
 | .tp l=>.tp (Gc g l)
 | .cons x r=>.cons (Gc g x) (Gc g r)
 | x=>x
def Qr5(g:Nat→Nat):Ob→Ob
 | .var tid c=>.var tid (Gc g c)
 | .mapC k c xs (some q)=>.mapC k c xs (some (q.1,g q.2))
 | o=>o
def Js(ri:List (Nat×Nat))(d j:Nat):Nat:=match Jy ri j with
 | some c=>c
 | none=>10000+100*d+j
def Jbw(S:XS):List Operand→Nat→Option (List En)
 | [],_=>some []
 | x::l,i=>match S.ev [] x,Jbw S l (i+1)with
  | some v,some r=>bif Nat.blt i 100000 then some (⟨i,[],v⟩::r)else none
  | _,_=>none
def Jtr:AV→Nat→Option (List En)
 | .nil,_=>some []
 | .cons x r,i=>match Jtr r (i+1)with
  | some l=>bif Nat.blt i 100000 then some (⟨i,[],x⟩::l)else none
  | none=>none
 | _,_=>none
def Q28:List En→AV
 | []=>.nil
 | e::l=>.cons e.av (Q28 l)
def Qd7(es:List En):AV:=match es with
 | [e]=>e.av
 | es=>.tp (Q28 es)
def Yl(ri:List (Nat×Nat)):List (Nat×SkO)→List Nat
 | []=>[]
 | (id,_)::l=>match Jy ri id with
  | some c=>c::Yl ri l
  | none=>Yl ri l
def Qr6:List (Nat×SkO)→Bool
 | []=>true
 | (_,.tail _ _)::_=>false
 | (_,.mapC _ _)::_=>false
 | _::l=>Qr6 l
def Em(ks:List Nat):List Nat→Bool
 | []=>true
 | i::l=>Yr ks i&&Em ks l
def Tz:List Nat→Bool
 | []=>true
 | i::l=>!Yr l i&&Tz l
def B6{α:Type}:Option α→Bool
 | some _=>true
 | none=>false
def Gm(g:Nat→Nat)(M:List (Nat×Ob)):List (Nat×Ob):=M.map fun q=>(g q.1,Qr5 g q.2)
inductive Src where
 | t (n:Nat)
 | v (id:Nat) (path:List PS)
inductive Hn where
 | done
 | n (m:Nat) (r:Hn)
 | nl (m:Nat) (r:Hn)
 | md (mode:Nat) (r:Hn)
 | keep (ts:List Nat) (r:Hn)
 | fz (id:Nat) (r:Hn)
 | sp (t:Nat) (m:Nat) (ks ms:List Nat) (Γ:Shp) (a b r:Hn)
 | call (c:Nat) (r:Hn)
 | tl (h:Hn)
 | so (t:Nat) (a b:Hn)
 | op (src:Src) (id d:Nat) (r:Hn)
 | cl (id:Nat) (r:Hn)
 | fm (id:Nat) (r:Hn)
 | dt (id:Nat) (r:Hn)
 | si (t:Nat) (n:Int) (a b:Hn)
 | br (r:Hn)
structure HD where
 h:Hn
 tch:List Nat
 ro:List Nat
 bs:List Nat
 nm:List Nat
inductive HT where
 | tl (h:Hn)
 | op (h:HD) (r:HT)
 | so (t:Nat) (a b:HT)
def Jk9{ε σ τ:Type}(f:ε→σ→Option (σ⊕τ)):List ε→σ→Option (σ⊕τ)
 | [],s=>some (.inl s)
 | e::l,s=>match f e s with
  | some (.inl s')=>Jk9 f l s'
  | some (.inr x)=>some (.inr x)
  | none=>none
open Classical in
noncomputable def J7x{ε σ τ:Type}(f:ε→σ→Option (σ⊕τ))(l:List ε)(s:σ):Option (σ⊕τ) :=
 if ∀ys:List ε,ys.Perm l→Jk9 f ys s=Jk9 f l s then Jk9 f l s else none
inductive An where
 | nil
 | reg (h:Hn)
 | two (a b:An)
 | un (a:An)
 | lp (ks ms:List Nat) (Γ:Shp) (exs:Exs) (a:An)
 | jn (ks ms:List Nat) (exs:Exs) (a:An)
 | dr (m:Nat) (h1 h2:Hn)
 | dc (m:Nat) (ds zs zf:List Nat) (ht:HT)
 | ch (t n:Nat) (a b:An)
 | cn (t:Nat) (a b:An)
 | gh (g:Hn) (a:An)
def Qn4(ops:List Oper)(o:Oper):Option (Option (Nat×Bool)):=match o.guard with
 | none=>some none
 | some (j,want)=>match ops[j]? with
  | some p=>match p.dst with
   | some t=>some (some (t,want))
   | none=>none
  | none=>none
def Km(d:Nat):AV→Bool
 | .p id _=>!Nat.beq id d
 | .e id _=>!Nat.beq id d
 | .s id=>!Nat.beq id d
 | .m id=>!Nat.beq id d
 | .b id=>!Nat.beq id d
 | .w id _ _=>!Nat.beq id d
 | .f _ c=>Km d c
 | .ag l=>Km d l
 | .tp l=>Km d l
 | .cons x r=>Km d x&&Km d r
 | _=>true
def Yo(d:Nat):List (Nat×Ob)→Bool
 | []=>true
 | (k,.var _ c)::l=>!Nat.beq k d&&Km d c&&Yo d l
 | (k,.mapC _ _ _ (some q))::l=>!Nat.beq k d&&!Nat.beq q.2 d&&Yo d l
 | (k,_)::l=>!Nat.beq k d&&Yo d l
def Ux(d:Nat):List En→List En
 | []=>[]
 | e::l=>bif Km d e.av then e::Ux d l else Ux d l
def Qjf(d:Nat):List En→Bool
 | []=>true
 | e::l=>!(Nat.beq e.t d||Qi8 d e.cs)&&Qjf d l
def Qp2(d:Nat):List En→Bool
 | []=>true
 | e::l=>Km d e.av&&Qp2 d l
def Jla(ri:List (Nat×Nat))(d:Nat)(Γk:List Nat)(S:XS)(M:List (Nat×Ob)):List Nat→Bool
 | []=>true
 | j::l=>(bif B6 (Jy ri j)then Yr Γk j else
   Yo (Js ri d j) M&&Yo (Js ri d j) S.fixM&&Qp2 (Js ri d j) S.fix&&Qp2 (Js ri d j) S.env&&!Yr S.prot (Js ri d j)&&!Yr Γk j)&&Jla ri d Γk S M l
def XS.put(S:XS)(d:Nat)(cs:V5)(x:AV):XS:={ S with env:=⟨d,cs,x⟩::Vw S.env d }
def XS.born(S:XS)(d:Nat)(o:Ob):XS:={ S with env:=Ux d S.env,mem:=(d,o)::S.mem }
def XS.set(S:XS)(id:Nat)(o:Ob):XS:={ S with mem:=Qps S.mem id o }
def noS(d:Nat):AV→Bool
 | .e id _=>!Nat.beq id d
 | .s id=>!Nat.beq id d
 | .f _ c=>noS d c
 | .ag l=>noS d l
 | .tp l=>noS d l
 | .cons x r=>noS d x&&noS d r
 | _=>true
def Jts(d:Nat):List En→Bool
 | []=>true
 | e::l=>noS d e.av&&Jts d l
def Qib(d:Nat):List (Nat×Ob)→Bool
 | []=>true
 | (k,.var _ c)::l=>!Nat.beq k d&&noS d c&&Qib d l
 | (k,.mapC _ _ _ (some q))::l=>!Nat.beq k d&&!Nat.beq q.2 d&&Qib d l
 | (k,_)::l=>!Nat.beq k d&&Qib d l
def XS.swap(S:XS)(id:Nat)(o:Ob):XS:={ S with mem:=(id,o)::Ya S.mem id }
def Qn5(S:XS)(id:Nat):Bool:=Jts id S.env&&Jts id S.fix&&Qib id (Ya S.mem id)&&Qib id S.fixM&&!Yr S.prot id
def J9g(S:XS):Src→Option AV
 | .t n=>S.ev [] (.tmp n)
 | .v id path=>match Qk S.flat.mem id with
  | some (.var _ c)=>nav path c
  | _=>none
section
variable {R:Type} (Y:TX) (n:Nat)
def okW(S:XS)(d:Nat):Bool:=Nat.blt d n&&Nat.blt d 100000&&Qjf d S.fix
def okB(S:XS)(d:Nat):Bool:=Yo d S.mem&&Yo d S.fixM&&Qp2 d S.fix&&!Yr S.prot d
def asR(M:List (Nat×Ob))(xv:AV)(u:Ty):Option (List u.De):=match asD M xv (.sl u)with
 | some ys=>some ys
 | none=>match xv with
  | .s id=>match Qk M id with
   | some (.row _ t ys)=>Ty.cast (.sl t) (.sl u) ys
   | _=>none
  | _=>none
def Qn6(o:Oper)(S:XS)(k:XS→Option R):Option R :=
 match o.op,o.dst with
 | .alloc t,some d=>match Qo Y.T t,Jy Y.tys t with
  | some e,some ty=>match Qfx ty e.z with
   | some c=>bif okW n S d&&okB S d&&c.isVal&&Km d c then k ((S.born d (.var t c)).put d [] (.p d []))else none
   | none=>none
  | _,_=>none
 | .box t x,some d=>match S.ev [] x with
  | some c=>bif okW n S d&&okB S d&&c.isVal&&c.inMem&&Km d c then k ((S.born d (.var t c)).put d [] (.p d []))else none
  | none=>none
 | .store t p x,none=>match Qo Y.T t,S.ev [] p,S.ev [] x with
  | some e,some (.p id path),some v=>match Qk S.mem id with
   | some (.var tid c)=>match Qu0 path c v with
    | some c'=>bif Nat.beq e.size v.size&&v.isVal&&v.inMem then k (S.set id (.var tid c'))else none
    | none=>none
   | _=>none
  | some e,some (.e id (.i j sz::ps)),some v=>match Qk S.mem id with
   | some (.row et u xs)=>(idx xs j).bind fun y=>match Qu0 ps (.d u y) v with
    | some c=>match asD S.flat.mem c u with
     | some z=>bif Nat.beq e.size v.size&&Nat.beq sz u.size&&Nat.ble 1 u.size&&v.isVal&&v.inMem then k (S.set id (.row et u (xs.set j.toNat z)))else none
     | none=>none
    | none=>none
   | _=>none
  | _,_,_=>none
 | .makeMap t rs,some d=>match Qo Y.T t with
  | some te=>match te.d with
   | .map kt et=>match Jy Y.tys kt,Jy Y.tys et with
    | some kk,some v=>bif okW n S d&&okB S d&&isNone rs then k ((S.born d (.map kk v [])).put d [] (.m d))else none
    | _,_=>none
   | _=>none
  | none=>none
 | .mapUpdate t m ky x,none=>match Qo Y.T t,S.ev [] m,S.ev [] ky,S.ev [] x with
  | some te,some (.m id),some kv,some xv=>match te.d,Qk S.mem id with
   | .map kt et,some (.map kk v xs)=>match Qo Y.T kt,asD [] kv kk,asD S.flat.mem xv v with
    | some tk,some key,some y=>bif V6 Y.T kk tk.d&&(kk.agg==kv.isAgg)&&(v.agg==xv.isAgg)then k (S.set id (.map kk v (Va key y xs)))else none
    | _,_,_=>none
   | _,_=>none
  | _,_,_,_=>none
 | .makeSlice t l c,some d=>match Qo Y.T t,S.ev [] l,S.ev [] c with
  | some te,some lv,some cv=>match Vj te.d,G9 lv,G9 cv with
   | some e,some (_,nl),some (_,nc)=>match Qo Y.T e,Jy Y.tys e with
    | some ee,some u=>match Qfx u ee.z with
     | some za=>match asD [] za u with
      | some z=>bif okW n S d&&okB S d&&Nat.beq ee.size u.size&&Nat.beq (Q4 ee.z).length ee.size&&Nat.ble 1 ee.bytes then
        (mkL ee.bytes nl nc z).bind fun zs=>k ((S.born d (.row e u zs)).put d [] (.s d))else none
      | none=>none
     | none=>none
    | _,_=>none
   | _,_,_=>none
  | _,_,_=>none
 | .buildSlice t len ⟨parts⟩,some d=>match Qo Y.T t with
  | some te=>match Vj te.d with
   | some e=>match Qo Y.T e,Jy Y.tys e with
    | some ee,some u=>bif okW n S d&&Nat.beq ee.size u.size then(match len,parts with
     | 0,[]=>bif okB S d then k ((S.born d (.row e u [])).put d [] (.s d))else none
     | 0,_=>none
     | m+1,ps=>match Vz S.flat [] ps with
      | some vs=>match asLs S.flat.mem u vs 0 with
       | some xs=>bif Nat.beq xs.length (m+1)&&Nat.ble ((m+1)*ee.size) 16777216&&Nat.ble 1 ee.size&&Nat.beq (Q4 ee.z).length ee.size then k (S.put d [] (.d (.sl u) xs))else none
       | none=>none
      | none=>none)else none
    | _,_=>none
   | none=>none
  | none=>none
 | .call ⟨.builtin .append,⟨[s,x]⟩,⟨[t,t']⟩⟩,some d=>match Qo Y.T t,S.ev [] s,S.ev [] x with
  | some te,some sv,some xv=>match Vj te.d with
   | some e=>match Qo Y.T e with
    | some ee=>bif okW n S d&&Nat.beq t t'&&Nat.ble 1 ee.size&&Nat.ble 1 ee.bytes&&Nat.beq (Q4 ee.z).length ee.size then(match sv with
     | .ns=>match Jy Y.tys e with
      | some u=>match asR S.flat.mem xv u with
       | some ys=>bif okB S d&&Nat.beq ee.size u.size then(app ee.bytes [] ys).bind fun zs=>k ((S.born d (.row e u zs)).put d [] (.s d))else none
       | none=>none
      | none=>none
     | .z=>match Jy Y.tys e with
      | some u=>match asR S.flat.mem xv u with
       | some ys=>bif okB S d&&Nat.beq ee.size u.size then(app ee.bytes [] ys).bind fun zs=>k ((S.born d (.row e u zs)).put d [] (.s d))else none
       | none=>none
      | none=>none
     | .s id=>match Qk S.mem id with
      | some (.row e' u xs)=>match asR S.flat.mem xv u with
       | some ys=>bif okB ⟨S.env,S.fix,Ya S.mem id,S.fixM,S.prot⟩ d&&Nat.beq ee.size u.size&&Nat.beq e e' then
         (app ee.bytes xs ys).bind fun zs=>k (({ S with mem:=Ya S.mem id }.born d (.row e u zs)).put d [] (.s d))else none
       | none=>none
      | some (.tail e' u xs)=>match asD S.flat.mem xv (.sl u)with
       | some ys=>bif okB ⟨S.env,S.fix,Ya S.mem id,S.fixM,S.prot⟩ d&&Nat.beq ee.size u.size&&Nat.beq e e' then
         (app ee.bytes xs ys).bind fun zs=>k (({ S with mem:=Ya S.mem id }.born d (.tail e u zs)).put d [] (.s d))else none
       | none=>none
      | _=>none
     | _=>none)else none
    | none=>none
   | none=>none
  | _,_,_=>none
 | op,some d=>bif okW n S d then Qp1 Y S.flat [] op fun v=>k (S.put d [] v)else none
 | _,none=>none
def J51:AV→Bool
 | .np=>true
 | .p _ _=>true
 | _=>false
def Jpf:List (Nat×AV)→Nat→Option AV
 | [],_=>some .nil
 | (i,v)::l,j=>bif Nat.beq i j&&J51 v then(match Jpf l (j+1)with
  | some r=>some (.cons v r)
  | none=>none)else none
def Rl{k:Ty}{ν:Type}(key:k.De):List (k.De×ν)→List (k.De×ν)
 | []=>[]
 | x::l=>bif eqK k key x.1 then l else x::Rl key l
def Pb{α:Type}(xs ys:List α):List α:=ys.take (Nat.min ys.length xs.length)++xs.drop (Nat.min ys.length xs.length)
def Qnb{α:Type}(xs ys:List α):Int:=(Nat.min ys.length xs.length:Nat)
def Jzs(o:Oper)(S:XS):Nat:=match o.op with
 | .call ⟨.builtin .append,⟨[_,x]⟩,_⟩=>match S.ev [] x with
  | some (.d .str _)=>1
  | _=>0
 | .convert _ t x=>match S.ev [] x with
  | some (.d .str _)=>match Qo Y.T t with
   | some te=>match Vj te.d with
    | some _=>2
    | none=>0
   | none=>0
  | _=>0
 | .store _ p _=>match S.ev [] p with
  | some (.p _ path)=>bif J5z path then 3 else 0
  | _=>0
 | .call ⟨.builtin .copy,_,_⟩=>4
 | .call ⟨.builtin .delete,_,_⟩=>5
 | .buildSlice t (_+1) _=>match Qo Y.T t with
  | some te=>match Vj te.d with
   | some e=>match Jy Y.tys e with
    | none=>7
    | some u=>bif Ty.beq u .ref then 7 else 0
   | none=>0
  | none=>0
 | .slice _ x none _ none=>match S.ev [] x with
  | some (.s id)=>match Qk S.mem id with
   | some (.row _ _ _)=>6
   | _=>0
  | _=>0
 | .slice _ x none (some _) (some _)=>match S.ev [] x with
  | some (.s id)=>match Qk S.mem id with
   | some (.row _ _ _)=>8
   | _=>0
  | _=>0
 | _=>0
def J52:Value→Bool
 | .int .u8 0=>true
 | _=>false
def J53:TypeDesc→Bool
 | .int .u8=>true
 | _=>false
def Jia:TypeDesc→Bool
 | .string=>true
 | _=>false
def Xx(l:Str):List Int:=l.map fun b=>(b.toNat:Int)
def Q29(o:Oper)(S:XS)(k:XS→Option R):Option R:=match o.op,o.dst with
 | .call ⟨.builtin .append,⟨[s,x]⟩,⟨[t,t']⟩⟩,some d=>match Qo Y.T t,Qo Y.T t',S.ev [] s,S.ev [] x with
  | some te,some te',some sv,some (.d .str l)=>match Vj te.d with
   | some e=>match Qo Y.T e with
    | some ee=>bif okW n S d&&Jia te'.d&&J52 ee.z&&Nat.beq ee.size 1&&Nat.beq ee.bytes 1 then(match sv with
     | .ns=>bif okB S d then(app 1 [] (Xx l)).bind fun zs=>k ((S.born d (.row e (.int .u8) zs)).put d [] (.s d))else none
     | .s id=>match Qk S.mem id with
      | some (.row e' (.int .u8) xs)=>bif okB ⟨S.env,S.fix,Ya S.mem id,S.fixM,S.prot⟩ d&&Nat.beq e e' then
        (app 1 xs (Xx l)).bind fun zs=>k (({ S with mem:=Ya S.mem id }.born d (.row e (.int .u8) zs)).put d [] (.s d))else none
      | _=>none
     | _=>none)else none
    | none=>none
   | none=>none
  | _,_,_,_=>none
 | .convert s t x,some d=>match Qo Y.T s,Qo Y.T t,S.ev [] x with
  | some se,some te,some (.d .str l)=>match Vj te.d with
   | some e=>match Qo Y.T e with
    | some ee=>bif okW n S d&&okB S d&&J53 ee.d then(app 1 [] (Xx l)).bind fun zs=>k ((S.born d (.row e (.int .u8) zs)).put d [] (.s d))else none
    | none=>none
   | none=>none
  | _,_,_=>none
 | .store t p x,none=>match Qo Y.T t,S.ev [] p,S.ev [] x with
  | some e,some (.p id path),some v=>match Qk S.mem id with
   | some (.var tid c)=>Qu1 S.flat.mem path c v fun c'=>bif Nat.beq e.size v.size&&v.isVal&&v.inMem then k (S.set id (.var tid c'))else none
   | _=>none
  | _,_,_=>none
 | .call ⟨.builtin .copy,⟨[dst,src]⟩,⟨[t,t']⟩⟩,some d=>match Qo Y.T t,S.ev [] dst,S.ev [] src with
  | some te,some (.s id),some xv=>match Vj te.d with
   | some e=>match Qo Y.T e,Qk S.mem id with
    | some ee,some (.row et u xs)=>match asD S.flat.mem xv (.sl u)with
     | some ys=>bif okW n S d&&Nat.beq ee.size u.size&&Nat.ble 1 u.size then k ((S.set id (.row et u (Pb xs ys))).put d [] (.d (.int .i64) (Qnb xs ys)))else none
     | none=>none
    | _,_=>none
   | none=>none
  | _,_,_=>none
 | .call ⟨.builtin .delete,⟨[m,ky]⟩,⟨[t,t']⟩⟩,none=>match Qo Y.T t,S.ev [] m,S.ev [] ky with
  | some te,some (.m id),some kv=>match te.d,Qk S.mem id with
   | .map kt et,some (.map kk v xs)=>match Qo Y.T kt,asD [] kv kk with
    | some tk,some key=>bif V6 Y.T kk tk.d&&(kk.agg==kv.isAgg)then k (S.set id (.map kk v (Rl key xs)))else none
    | _,_=>none
   | _,_=>none
  | _,_,_=>none
 | .buildSlice t (m+1) ⟨ps⟩,some d=>match Qo Y.T t with
  | some te=>match Vj te.d with
   | some e=>match Qo Y.T e,Vz S.flat [] ps with
    | some ee,some vs=>match Jpf vs 0 with
     | some c=>bif okW n S d&&okB S d&&Km d c&&Nat.beq vs.length (m+1)&&Nat.beq ee.size 1&&Nat.beq (Q4 ee.z).length 1&&Nat.ble (m+1) 16777216 then k ((S.born d (.var e (.ag c))).put d [] (.w d 0 ((m+1:Nat):Int)))else none
     | none=>none
    | _,_=>none
   | none=>none
  | none=>none
 | .slice t x none hi none,some d=>match Qo Y.T t,S.ev [] x with
  | some te,some (.s id)=>match Vj te.d,Qk S.mem id with
   | some e,some (.row e' u xs)=>match Qo Y.T e,bnd S.flat [] xs.length hi with
    | some ee,some q=>bif okW n S d&&okB ⟨S.env,S.fix,Ya S.mem id,S.fixM,S.prot⟩ d&&Nat.beq ee.size u.size&&Nat.beq e e' then
      (slc xs 0 q).bind fun ys=>k (({ S with mem:=Ya S.mem id }.born d (.row e u ys)).put d [] (.s d))else none
    | _,_=>none
   | _,_=>none
  | _,_=>none
 | .slice t x none (some hi) (some mx),some d=>match Qo Y.T t,S.ev [] x,S.ev [] hi,S.ev [] mx with
  | some te,some (.s id),some hv,some mv=>match Vj te.d,Qk S.mem id,G9 hv,G9 mv with
   | some e,some (.row e' u xs),some (_,q),some (_,m)=>match Qo Y.T e with
    | some ee=>bif okW n S d&&okB ⟨S.env,S.fix,Ya S.mem id,S.fixM,S.prot⟩ d&&Nat.beq ee.size u.size&&Nat.beq e e' then
      (chk (decide (q≤m)&&decide (m≤(xs.length:Int)))).bind fun _=>(slc xs 0 q).bind fun ys=>k (({ S with mem:=Ya S.mem id }.born d (.row e u ys)).put d [] (.s d))else none
    | _=>none
   | _,_,_,_=>none
  | _,_,_,_=>none
 | _,_=>none
def Qt1(o:Oper)(S:XS)(k:XS→Option R):Option R:=match Jzs Y o S with
 | 0=>Qn6 Y n o S k
 | _+1=>Q29 Y n o S k
def Qxr:Value→Bool
 | .map none=>true
 | _=>false
def Q6y:Value→Bool
 | .slice none 0 0=>true
 | _=>false
def Jib:CK→Value→Bool
 | .sl _ _,v=>Q6y v
 | .mp _ _,v=>Qxr v
def J9h(Y:TX)(et:TypeId):Option CK:=match Qo Y.T et with
 | some te=>match te.d with
  | .slice e=>match Jy Y.tys e with
   | some u=>some (.sl e u)
   | none=>none
  | .map k v=>match Jy Y.tys k,Jy Y.tys v with
   | some k,some v=>some (.mp k v)
   | _,_=>none
  | _=>none
 | none=>none
def J1t:CK→Option Ob→Option (Σ t:Ty,t.De)
 | .sl e _,some (.row e' u' ys)=>bif Nat.beq e e' then some ⟨.sl u',ys⟩else none
 | .mp _ _,some (.map k' v' ys)=>some ⟨.sl (.pr k' v'),ys⟩
 | _,_=>none
def Qt2(c:CK)(o:Option Ob):Option c.ty.De:=match J1t c o with
 | some v=>Ty.cast v.1 c.ty v.2
 | none=>none
def obC:(c:CK)→c.ty.De→Ob
 | .sl e u,ys=>.row e u ys
 | .mp k v,ys=>.map k v ys
def avC:CK→Nat→AV
 | .sl _ _,id=>.s id
 | .mp _ _,id=>.m id
def idC:CK→AV→Option Nat
 | .sl _ _,.s id=>some id
 | .mp _ _,.m id=>some id
 | _,_=>none
def Jzt(S:XS)(id:Nat)(kk:Ty)(c:CK)(xs:List (kk.De×c.ty.De))(hole:Option (kk.De×Nat))(key:kk.De)(xv:AV)(k:XS→Option R):Option R:=match idC c xv with
 | some h1=>match Qt2 c (Qk S.mem h1)with
  | some ys=>bif Qn5 { S with mem:=Ya S.mem h1 } id&&!Nat.beq h1 id then(chk (match hole,c with
    | some q,.sl _ _=>eqK kk key q.1
    | none,.mp _ _=>true
    | _,_=>false)).bind fun _=>k (XS.swap { S with mem:=Ya S.mem h1 } id (.mapC kk c (Va key ys xs) none))else none
  | none=>none
 | none=>none
def Jic(M:List (Nat×Ob))(kk:Ty)(c:CK)(xs:List (kk.De×c.ty.De))(hole:Option (kk.De×Nat))(key:kk.De)(k:AV→Option R):Option R:=match hole,c with
 | some q,c=>bif B6 (Qt2 c (Qk M q.2))then(chk (eqK kk key q.1)).bind fun _=>k (avC c q.2)else none
 | none,.mp _ _=>(chk (isNone (Qz key xs))).bind fun _=>k .nm
 | none,.sl _ _=>none
def J1u(S:XS)(id d:Nat)(kk:Ty)(key:kk.De)(k:XS→Option R):(c:CK)→List (kk.De×c.ty.De)→Option R
 | .sl e u,xs=>k ((S.swap id (.mapC kk (.sl e u) xs (some (key,d)))).born d (.row e u ((Qz key xs).getD [])))
 | .mp k2 v2,xs=>match Qz key xs with
  | some ys=>k ((S.swap id (.mapC kk (.mp k2 v2) xs (some (key,d)))).born d (.map k2 v2 ys))
  | none=>k S
def J9i:CK→Bool
 | .sl _ _=>false
 | .mp _ _=>true
def Qxs(S:XS)(id:Nat)(k:XS→Option R):Option R:=match Qk S.mem id with
 | some (.mapC kk c xs (some q))=>match Qt2 c (Qk S.mem q.2)with
  | some ys=>bif Qn5 { S with mem:=Ya S.mem q.2 } id&&Qh9 kk&&J9i c then k (XS.swap { S with mem:=Ya S.mem q.2 } id (.mapC kk c (Va q.1 ys xs) none))else none
  | none=>none
 | some (.mapC _ _ _ none)=>k S
 | _=>none
def Jbx(S:XS)(id:Nat)(k:XS→Option R):Option R:=match Qk S.mem id with
 | some (.mapC kk (.sl _ u) xs none)=>k (S.swap id (.map kk (.sl u) xs))
 | _=>none
def Jby(S:XS)(src:Src)(id d:Nat)(k:XS→Option R):Option R:=match Qk S.mem id with
 | some (.mapC kk c xs none)=>match J9g S src with
  | some av=>match asD S.flat.mem av kk with
   | some key=>bif Qh9 kk&&Qn5 S id&&okB S d then J1u S id d kk key k c xs else none
   | none=>none
  | none=>none
 | _=>none
def Qnc(o:Oper)(S:XS)(k:XS→Option R):Option R:=match o.op,o.dst with
 | .buildSlice t (m+1) ⟨ps⟩,some d=>match Qo Y.T t with
  | some te=>match Vj te.d with
   | some e=>match Qo Y.T e,Jy Y.tys e,Vz S.flat [] ps with
    | some ee,some u,some vs=>match asLs S.flat.mem u vs 0 with
     | some xs=>bif okW n S d&&okB S d&&Nat.beq ee.size u.size&&Nat.beq xs.length (m+1)&&Nat.ble ((m+1)*ee.size) 16777216&&Nat.ble 1 ee.size&&Nat.beq (Q4 ee.z).length ee.size then k ((S.born d (.row e u xs)).put d [] (.s d))else none
     | none=>none
    | _,_,_=>none
   | none=>none
  | none=>none
 | .makeMap t rs,some d=>match Qo Y.T t with
  | some te=>match te.d with
   | .map kt et=>match Jy Y.tys kt,J9h Y et with
    | some kk,some c=>bif okW n S d&&okB S d&&isNone rs then k ((S.born d (.mapC kk c [] none)).put d [] (.m d))else none
    | _,_=>none
   | _=>none
  | none=>none
 | .mapUpdate t m ky x,none=>match Qo Y.T t,S.ev [] m,S.ev [] ky,S.ev [] x with
  | some te,some (.m id),some kv,some xv=>match te.d,Qk S.mem id with
   | .map kt _,some (.mapC kk c xs hole)=>match Qo Y.T kt,asD [] kv kk with
    | some tk,some key=>bif V6 Y.T kk tk.d&&(kk.agg==kv.isAgg)then Jzt S id kk c xs hole key xv k else none
    | _,_=>none
   | _,_=>none
  | _,_,_,_=>none
 | .lookup t m ky false,some d=>match Qo Y.T t,S.ev [] ky with
  | some te,some kv=>match te.d with
   | .map kt et=>match Qo Y.T kt,Qo Y.T et,S.ev [] m with
    | some tk,some tz,some (.m id)=>match Qk S.flat.mem id with
     | some (.mapC kk c xs hole)=>match asD [] kv kk with
      | some key=>bif okW n S d&&V6 Y.T kk tk.d&&(kk.agg==kv.isAgg)&&Jib c tz.z then Jic S.flat.mem kk c xs hole key fun v=>k (S.put d [] v)else none
      | none=>none
     | _=>Qn6 Y n o S k
    | some tk,some tz,some .nm=>match Jy Y.tys kt,Jy Y.tys et with
     | some kk,some v=>match asD [] kv kk,Qfx v tz.z with
      | some key,some za=>match asD [] za v with
       | some z=>bif okW n S d&&V6 Y.T kk tk.d&&(kk.agg==kv.isAgg)&&(v.agg==Qxk tz.z)then k (S.put d [] (.d v z))else none
       | none=>none
      | _,_=>none
     | _,_=>none
    | _,_,_=>none
   | _=>none
  | _,_=>none
 | _,_=>none
def Xg(c:Con)(o:Oper)(S:XS)(k:XS→Option R):Option R :=
 match o.op,o.dst with
 | .call ⟨.value x,⟨xs⟩,_⟩,some d=>match S.ev [] x with
  | some (.f f caps)=>bif Nat.beq c.f f&&okW n S d then(match Jbw S xs 0,Jtr caps xs.length with
   | some es0,some cs=>callE c d S (es0++cs) (J1r c.Γ ⟨es0++cs,S.mem++S.fixM⟩) k
   | _,_=>none)else none
  | _=>none
 | _,_=>none
where
 callE (c:Con) (d:Nat) (S:XS) (es:List En) (ri:List (Nat×Nat)) (k:XS→Option R):Option R :=
  match Jzr c.Γ ri [] es (frz c.Γ ri es S.mem++S.fixM) []with
  | some x=>bif Qr6 c.Γ.mem&&Nat.beq es.length c.Γ.env.length&&Em (V7 S.mem) (Yl ri (wrG c.ro c.Γ.mem))&&Q27 ri (frz c.Γ ri es S.mem++S.fixM) (rdG c.ro c.Γ.mem)then
   (c.fn x).bind fun y=>J50 c.Δ y fun S1=>callR c d S ri (Jv (frz c.Γ ri es S.mem) (Yl ri (wrG c.ro c.Γ.mem))).1 S1 (roM c x) k else none
  | none=>none
 callR (c:Con) (d:Nat) (S:XS) (ri:List (Nat×Nat)) (M:List (Nat×Ob)) (S1:St) (RO:List (Nat×Ob)) (k:XS→Option R):Option R :=
  bif Jla ri d (c.Γ.mem.map Prod.fst) S M (S1.mem.map Prod.fst)&&Tz ((S1.mem++RO).map fun q=>Js ri d q.1)&&Em ((S1.mem++RO).map Prod.fst) (Qcs S1.env)&&Em ((S1.mem++RO).map Prod.fst) (Jq (S1.mem++RO))then
   k (XS.put ⟨S.env,S.fix,Gm (Js ri d) S1.mem++M,S.fixM,S.prot⟩ d [] (Gc (Js ri d) (Qd7 S1.env)))else none
def Qp3(t:Nat)(want:Bool)(o:Oper)(S:XS)(k:XS→Option R):Option R :=
 match Wo S.flat.env t,o.dst with
 | some ⟨_,cs,.d .bool _⟩,some d=>bif okW n S d&&!Nat.beq t d&&!Qi8 d cs then(match Qpy Y S.flat ((t,want)::cs) o.op with
   | some v=>k (S.put d ((t,want)::cs) v)
   | none=>none)else none
 | _,_=>none
def Qp4(ops:List Oper)(o:Oper)(S:XS)(k:XS→Option R):Option R:=match Qn4 ops o with
 | some none=>Qt1 Y n o S k
 | some (some (t,want))=>Qp3 Y n t want o S k
 | none=>none
def Qjg(o:Oper)(S:XS)(k:XS→Option R):Option R:=match o.dst with
 | some d=>bif okW n S d then k (S.put d [] (.tp .nil))else none
 | none=>k S
def stepL(ops:List Oper)(o:Oper)(S:XS)(k:XS→Option R):Option R:=match Qn4 ops o with
 | some none=>Qt1 Y n o S k
 | some (some (t,want))=>match Wo S.flat.env t with
  | some ⟨_,[],.d .bool b⟩=>match b==want with
   | true=>Qt1 Y n o S k
   | false=>Qjg n o S k
  | some ⟨_,[],.tp .nil⟩=>Qjg n o S k
  | _=>none
 | none=>none
def Qu2(st:Oper→XS→(XS→Option R)→Option R):List Oper→XS→(XS→Option R)→Option R
 | [],S,k=>k S
 | o::l,S,k=>st o S fun S'=>Qu2 st l S' k
end
def Vk(Y:TX)(K:List Con)(n:Nat)(ops:List Oper){R:Type}:Hn→List Oper→XS→(XS→Option R)→Option R
 | .done,l,S,k=>match l with
  | []=>k S
  | _::_=>none
 | .n m r,l,S,k=>Qu2 (Qp4 Y n ops) (l.take m) S fun S'=>Vk Y K n ops r (l.drop m) S' k
 | .nl m r,l,S,k=>Qu2 (stepL Y n ops) (l.take m) S fun S'=>Vk Y K n ops r (l.drop m) S' k
 | .call c r,l,S,k=>match K[c]?,l with
  | some con,o::l'=>match Qn4 ops o with
   | some none=>Xg n con o S fun S'=>Vk Y K n ops r l' S' k
   | some (some (t,want))=>match Wo S.flat.env t with
    | some ⟨_,[],.d .bool b⟩=>match b==want with
     | true=>Xg n con o S fun S'=>Vk Y K n ops r l' S' k
     | false=>none
    | _=>none
   | none=>none
  | _,_=>none
 | .br r,l,S,k=>match l with
  | o::l'=>match Qn4 ops o with
   | some none=>Qnc Y n o S fun S'=>Vk Y K n ops r l' S' k
   | some (some (t,want))=>match Wo S.flat.env t with
    | some ⟨_,[],.d .bool b⟩=>match b==want with
     | true=>Qnc Y n o S fun S'=>Vk Y K n ops r l' S' k
     | false=>none
    | _=>none
   | none=>none
  | []=>none
 | .fz id r,l,S,k=>Vk Y K n ops r l { S with mem:=Ud [id] S.mem } k
 | .keep ts r,l,S,k=>Vk Y K n ops r l { S with env:=Q1f S.env ts } k
 | .si t i a b,l,S,k=>match Wo S.env t with
  | some ⟨_,[],.d (.int kd) v⟩=>bif Qjf t S.fix then(if v=i then Vk Y K n ops a l (S.put t [] (.d (.int kd) i)) k else Vk Y K n ops b l S k)else none
  | _=>none
 | .op src id d r,l,S,k=>Jby S src id d fun S'=>Vk Y K n ops r l S' k
 | .cl id r,l,S,k=>Qxs S id fun S'=>Vk Y K n ops r l S' k
 | .fm id r,l,S,k=>Jbx S id fun S'=>Vk Y K n ops r l S' k
 | .sp t m ks ms Γ a b r,l,S,k=>match Wo S.env t with
  | some ⟨_,[],.d .bool v⟩=>bif Qjf t S.fix then
    (if v=true then Vk Y K n ops (R:=Γ.De) a (l.take m) ((XS.put S t [] (.d .bool true)).ent ks ms) (fun S'=>S'.dec Γ)
     else Vk Y K n ops (R:=Γ.De) b (l.take m) ((XS.put S t [] (.d .bool false)).ent ks ms) (fun S'=>S'.dec Γ)).bind
     fun y=>Vk Y K n ops r (l.drop m) (XS.out (XS.put S t [] (.d .bool v)) ks ms (enc Γ y)) k else none
  | _=>none
 | _,_,_,_=>none
section
variable {R:Type} (Y:TX) (n:Nat)
def Jbz(o:Oper)(S:XS)(k:XS→Option R):Option R:=match o.dst with
 | some d=>bif okW n S d then Qp1 Y S.flat [] o.op fun v=>k (S.put d [] v)else none
 | none=>none
def Q6z(ops:List Oper)(o:Oper)(S:XS)(k:XS→Option R):Option R:=match Qn4 ops o with
 | some none=>Jbz Y n o S k
 | some (some (t,want))=>Qp3 Y n t want o S k
 | none=>none
def Q60(ops:List Oper)(o:Oper)(S:XS)(k:XS→Option R):Option R:=match Qn4 ops o with
 | some none=>Jbz Y n o S k
 | some (some (t,want))=>match Wo S.flat.env t with
  | some ⟨_,[],.d .bool b⟩=>match b==want with
   | true=>Jbz Y n o S k
   | false=>Qjg n o S k
  | some ⟨_,[],.tp .nil⟩=>Qjg n o S k
  | _=>none
 | none=>none
end
def T0(Y:TX)(n:Nat)(ops:List Oper){R:Type}:Hn→List Oper→XS→(XS→Option R)→Option R
 | .done,l,S,k=>match l with
  | []=>k S
  | _::_=>none
 | .n m r,l,S,k=>Qu2 (Q6z Y n ops) (l.take m) S fun S'=>T0 Y n ops r (l.drop m) S' k
 | .nl m r,l,S,k=>Qu2 (Q60 Y n ops) (l.take m) S fun S'=>T0 Y n ops r (l.drop m) S' k
 | .sp t m ks ms Γ a b r,l,S,k=>match Wo S.env t with
  | some ⟨_,[],.d .bool v⟩=>bif Qjf t S.fix then
    (if v=true then T0 Y n ops (R:=Γ.De) a (l.take m) ((XS.put S t [] (.d .bool true)).ent ks ms) (fun S'=>S'.dec Γ)
     else T0 Y n ops (R:=Γ.De) b (l.take m) ((XS.put S t [] (.d .bool false)).ent ks ms) (fun S'=>S'.dec Γ)).bind
     fun y=>T0 Y n ops r (l.drop m) (XS.out (XS.put S t [] (.d .bool v)) ks ms (enc Γ y)) k else none
  | _=>none
 | _,_,_,_=>none
def Jid(o:Oper):List Nat:=o.op.operands.toList.filterMap fun x=>match x with
 | .tmp t=>some t
 | _=>none
def Jie:List En→List En
 | []=>[]
 | e::l=>bif Nat.blt e.t 100000 then Jie l else(match e.cs with
  | []=>e::Jie l
  | _::_=>Jie l)
def Jtt{α:Type}:List α→Bool
 | []=>true
 | _=>false
def Ei:Nat→Bool:=fun _=>true
def Qt3(env:List En):List Nat→List En
 | []=>env
 | d::ds=>Qt3 (Vw (Ux d env) d) ds
def J54(l:List Oper)(p:Nat):Bool:=(List.range l.length).all fun k=>Nat.blt k p||(List.range k).all fun i=>If l l.length k i
def Jlb(l:List Oper)(p:Nat)(ds:List Nat):Bool:=Nat.ble p l.length&&Nat.beq ds.length p&&backB l&&J54 l p&&Q6l ds
def Jtu(l:List Oper)(n:Nat):Bool:=bif Nat.blt n l.length then Region.lexTailB .any l.toArray n else Nat.beq n l.length&&Region.lexB .any l.toArray
def Gn:List (Nat×Ob)→Bool
 | []=>true
 | (_,.tail _ _ _)::_=>false
 | _::l=>Gn l
structure EC where
 d:Nat
 av:AV
 has:Bool
 ups:List (Nat×Option Ob)
def Qt4:List (Nat×Option Ob)→Nat→Option (Option Ob)
 | [],_=>none
 | (k,x)::l,id=>bif Nat.beq k id then some x else Qt4 l id
def upC(id:Nat)(e:EC)(c:Option Ob):Option Ob:=match Qt4 e.ups id with
 | some x=>x
 | none=>c
def Y6(E:Nat→Bool)(id:Nat):List EC→Nat→Option Ob→Option Ob
 | [],_,c=>c
 | e::l,j,c=>Y6 E id l (j+1) (bif E j then upC id e c else c)
def K6(id:Nat)(e:EC):Bool:=B6 (Qt4 e.ups id)
def Rm(E:Nat→Bool):List EC→Nat→List En
 | [],_=>[]
 | e::l,j=>bif E j&&e.has then⟨e.d,[],e.av⟩::Rm E l (j+1)else Rm E l (j+1)
def Xh(id:Nat):Option Ob→Option (Nat×Ob)
 | some ob=>some (id,ob)
 | none=>none
def Ik(names:List Nat)(Zs:List (Nat×Ob))(acc:List EC)(E:Nat→Bool):List (Nat×Ob):=names.filterMap fun id=>Xh id (Y6 E id acc 0 (Qk Zs id))
def HD.wr(h:HD):List Nat:=h.tch++h.bs
def HD.al(h:HD):List Nat:=h.tch++h.ro++h.bs
def Qp5:List EC→Nat→Option AV
 | [],_=>none
 | g::l,t=>bif Nat.beq g.d t&&g.has then some g.av else Qp5 l t
def Qxt(l0:List Oper)(ds:List Nat)(i:Nat)(acc:List EC)(B:List En):List Nat→List En
 | []=>Jie B
 | t::ts=>match Qp5 acc t with
  | some v=>bif Jks l0 i (ds.idxOf t)then⟨t,[],v⟩::Qxt l0 ds i acc B ts else Qxt l0 ds i acc B ts
  | none=>bif Qtt ds t then(match Wo B t with
   | some ⟨t',[],v⟩=>⟨t',[],v⟩::Qxt l0 ds i acc B ts
   | _=>Qxt l0 ds i acc B ts)else Qxt l0 ds i acc B ts
def gTs(l0:List Oper)(o:Oper):List Nat:=match Qn4 l0 o with
 | some (some (t,_))=>[t]
 | _=>[]
def Qhm(l m:List Nat):Bool:=l.all fun x=>!Yr m x
def Qp6(l0:List Oper)(i j:Nat)(hi hj:HD):Bool:=((Qhm hj.wr hi.al&&Qhm hj.ro hi.wr)||If l0 l0.length i j)&&Qhm hi.bs hj.wr
def J7y(l0:List Oper)(hs:List HD):Bool:=(List.range hs.length).all fun i=>(List.range i).all fun j=>match hs[i]?,hs[j]? with
 | some hi,some hj=>Qp6 l0 i j hi hj
 | _,_=>true
def nmB(l0:List Oper)(hs:List HD):Bool:=(List.range hs.length).all fun i=>(List.range hs.length).all fun j=>Nat.beq i j||(match hs[i]?,hs[j]? with
 | some hi,some hj=>Qhm hi.bs hj.nm||If l0 l0.length j i
 | _,_=>true)
def Wp:List HD→List Nat
 | []=>[]
 | h::l=>h.bs++Wp l
def N1:HT→List Nat
 | .tl _=>[]
 | .op h r=>h.bs++N1 r
 | .so _ a b=>N1 a++N1 b
def Qp7(l m:List Nat):List Nat:=l.filter fun x=>!Yr m x
def Qnd(ids:List Nat)(Zs:List (Nat×Ob))(acc:List EC):List (Nat×Ob):=ids.filterMap fun id=>Xh id (Y6 Ei id acc 0 (Qk Zs id))
def Jb0:List EC→Nat→Bool→List EC
 | [],_,_=>[]
 | g::l,t,b=>bif Nat.beq g.d t&&g.has then⟨g.d,.d .bool b,g.has,g.ups⟩::l else g::Jb0 l t b
def Qct(M:List (Nat×Ob)):AV→AV
 | .s id=>match Qk M id with
  | some (.tail _ t xs)=>.d (.sl t) xs
  | _=>.s id
 | .ag l=>.ag (Qct M l)
 | .cons x r=>.cons (Qct M x) (Qct M r)
 | x=>x
def Q61(M:List (Nat×Ob)):List Nat→Bool
 | []=>false
 | id::l=>match Qk M id with
  | some (.tail _ _ _)=>true
  | _=>Q61 M l
def Jpg(M:List (Nat×Ob)):List En→List En
 | []=>[]
 | e::l=>bif Q61 M (Q26 e.av)then⟨e.t,e.cs,Qct M e.av⟩::Jpg M l else Jpg M l
section
variable {R:Type} (Y:TX) (K:List Con) (n:Nat) (l0:List Oper) (ds:List Nat) (Zs:List (Nat×Ob)) (B:List En) (prA:List Nat)
def Qxu(hc:HD)(o:Oper)(i:Nat)(acc:List EC):XS:=⟨Qxt l0 ds i acc B (Jid o++gTs l0 o),[],Qnd hc.tch Zs acc,Qnd hc.ro Zs acc,Qp7 prA hc.bs⟩
def Qn7(hc:HD)(o:Oper)(i:Nat)(acc:List EC)(S1:XS):Option EC :=
 bif Gn (Qnd hc.tch Zs acc++Qnd hc.ro Zs acc)&&Em hc.nm (Jq S1.mem)then(match o.dst with
  | some d=>match Wo S1.env d with
   | some ⟨_,[],av⟩=>bif Nat.beq (ds.getD i 0) d&&Em hc.nm (Jk av)&&Nat.blt d n then some ⟨d,av,true,(hc.tch++hc.bs).map fun id=>(id,Qk S1.mem id)⟩else none
   | _=>none
  | none=>bif Nat.beq (ds.getD i 0) (1000000000+i)then some ⟨1000000000+i,.tp .nil,false,(hc.tch++hc.bs).map fun id=>(id,Qk S1.mem id)⟩else none)else none
def Qxv:HT→List Oper→Nat→List HD→List EC→(Hn→List HD→List EC→Option R)→Option R
 | .tl h,l,_,hs,acc,k=>match l with
  | []=>k h hs acc
  | _::_=>none
 | .op hc r,l,i,hs,acc,k=>match l with
  | o::l'=>Vk Y K n l0 hc.h [o] (Qxu l0 ds Zs B prA hc o i acc) fun S1=>match Qn7 n ds Zs hc o i acc S1 with
   | some g=>Qxv r l' (i+1) (hs++[hc]) (acc++[g]) k
   | none=>none
  | []=>none
 | .so t a b,l,i,hs,acc,k=>match Qp5 acc t with
  | some (.d .bool v)=>if v=true then Qxv a l i hs (Jb0 acc t true) k else Qxv b l i hs (Jb0 acc t false) k
  | _=>none
end
def Jzu(l0:List Oper)(ks:List Nat)(prB prA:List Nat)(hs:List HD):Bool:=J7y l0 hs&&nmB l0 hs&&Tz (ks++Wp hs)&&Qhm prB (Wp hs)&&Em prA (ks++Wp hs) &&
 hs.all fun hc=>Tz hc.al&&Em (ks++Wp hs) hc.al&&Em prA hc.nm
def kfC(zf:List Nat)(hs:List HD):Bool:=hs.all fun hc=>Qhm hc.wr zf
def J9j(S:XS)(ds:List Nat)(Z1 Z2 M1:List (Nat×Ob))(bsA:List Nat)(hs:List HD)(acc:List EC):XS:=⟨Rm Ei acc 0++Qt3 S.env (ds++bsA),S.fix,Ik (V7 Z1++Wp hs) (Z1++Z2) acc Ei++M1,S.fixM,S.prot⟩
def Qcu{R:Type}:Hn→XS→(XS→Option R)→Option R
 | .done,S,k=>k S
 | .fz id r,S,k=>Qcu r { S with mem:=Ud [id] S.mem } k
 | .op src id d r,S,k=>Jby S src id d fun S'=>Qcu r S' k
 | .cl id r,S,k=>Qxs S id fun S'=>Qcu r S' k
 | .fm id r,S,k=>Jbx S id fun S'=>Qcu r S' k
 | .dt id r,S,k=>match Qk S.mem id with
  | some (.var tid c)=>Qcu r (S.set id (.var tid (Qct S.flat.mem c))) k
  | _=>none
 | _,_,_=>none
def Jtv(S:XS)(t i:Nat):Bool:=match Wo S.env t with
 | some ⟨_,[],.d (.int _) v⟩=>match Jpa v with
  | some j=>Nat.beq j i
  | none=>false
 | _=>false
def Jlc:AV→Bool
 | .nm=>true
 | .np=>true
 | .tp l=>Jlc l
 | .cons x r=>Jlc x||Jlc r
 | _=>false
def Jtw(S:XS)(t:Nat):Bool:=match Wo S.env t with
 | some e=>Jlc e.av
 | none=>false
def dcR(Y:TX)(K:List Con)(n:Nat){R:Type}(ops:List Oper)(p:Nat)(ds:List Nat)(Z1 Z2 M1 F1:List (Nat×Ob))(ht:HT)(S:XS)(B:List En)(prB:List Nat)(k:Hn→XS→Option R):Option R :=
 Qxv Y K n ops ds (Z1++Z2) (Jpg (M1++F1) B++B) (prB++V7 (Z1++Z2)++N1 ht) ht (ops.take p) 0 [] [] fun h hs acc =>
  bif Jzu ops (V7 (Z1++Z2)) prB (prB++V7 (Z1++Z2)++N1 ht) hs&&kfC (V7 Z2) hs then k h (J9j S ds Z1 Z2 M1 (N1 ht) hs acc)else none
def dcI(Y:TX)(K:List Con)(n:Nat){R:Type}(ops:List Oper)(p:Nat)(ds:List Nat)(Z1 Z2 M1 F1:List (Nat×Ob))(ht:HT)(S:XS)(B:List En)(k:Hn→XS→Option R):Option R :=
 dcR Y K n ops p ds Z1 Z2 M1 F1 ht S B (Qcs B++Jq ((Z1++Z2)++(M1++F1))++S.prot) k
noncomputable def Xy(Y:TX)(K:List Con)(n N:Nat){R:Type}:An→Code→XS→(Ex→XS→Option R)→Option R
 | .nil,.skip,S,k=>k .n S
 | .nil,.ret,S,k=>k .r S
 | .nil,.exit id,S,k=>k (.x id) S
 | .nil,.label _,S,k=>k .n S
 | .reg h,.region _ ⟨ops⟩ false,S,k=>Vk Y K n ops h ops S (k .n)
 | .dr m h1 h2,.region _ ⟨ops⟩ true,S,k=>bif Jtu ops m then T0 Y n ops h1 (ops.take m) S fun S'=>Vk Y K n ops h2 (ops.drop m) S' (k .n)else none
 | .dc p ds zs zf ht,.region _ ⟨ops⟩ true,S,k =>
  bif Jlb ops p ds&&ds.all (fun d=>Qjf d S.fix)then
   dcI Y K n ops p ds (Jv S.mem zs).2 (Jv S.fixM zf).2 (Jv S.mem zs).1 (Jv S.fixM zf).1 ht S
    (Qt3 S.env (ds++N1 ht)++S.fix) fun h3 S'=>Vk Y K n ops h3 (ops.drop p) S' (k .n)else none
 | .gh g a,c,S,k=>Qcu g S fun S'=>Xy Y K n N a c S' k
 | .ch t i a b,c,S,k=>bif Jtv S t i then Xy Y K n N a c S k else Xy Y K n N b c S k
 | .cn t a b,c,S,k=>bif Jtw S t then Xy Y K n N a c S k else Xy Y K n N b c S k
 | .two a b,.seq x y,S,k=>Xy Y K n N a x S fun e S'=>match e with
  | .n=>Xy Y K n N b y S' k
  | .x i=>k (.x i) S'
  | .r=>k .r S'
 | .two a b,.cond c x y,S,k=>match S.ev [] c with
  | some (.d .bool v)=>if v=true then Xy Y K n N a x S k else Xy Y K n N b y S k
  | _=>none
 | .un a,.block id c,S,k=>Xy Y K n N a c S fun e S'=>match e with
  | .n=>k .n S'
  | .x i=>bif Nat.beq i id then k .n S' else k (.x i) S'
  | .r=>k .r S'
 | .un a,.scope c,S,k=>Xy Y K n N a c S k
 | .lp ks ms Γ exs a,.loop c,S,k=>match (S.ent ks ms).dec Γ with
  | some s0=>(Qf (fun s=>Xy Y K n N (R:=Γ.De⊕Jh8 exs) a c ((S.ent ks ms).re (enc Γ s)) fun e S'=>match e with
    | .n=>(match S'.dec Γ with
     | some s'=>some (.inl s')
     | none=>none)
    | .x i=>(match inj exs (.x i) S' with
     | some x=>some (.inr x)
     | none=>none)
    | .r=>(match inj exs .r S' with
     | some x=>some (.inr x)
     | none=>none)) N s0).bind fun x=>Jh9 S ks ms k exs x
  | none=>none
 | .jn ks ms exs a,c,S,k=>(Xy Y K n N a c (S.ent ks ms) (inj exs)).bind fun x=>Jh9 S ks ms k exs x
 | _,_,_,_=>none
def Jif(Y:TX)(S:XS):List ResultVar→Nat→Option (List En)
 | [],_=>some []
 | .cell ad t::l,i=>match Qpy Y S.flat [] (.load t (.tmp ad)),Jif Y S l (i+1)with
  | some v,some r=>bif Nat.blt i 100000 then some (⟨i,[],v⟩::r)else none
  | _,_=>none
 | .tmp t::l,i=>match S.ev [] (.tmp t),Jif Y S l (i+1)with
  | some v,some r=>bif Nat.blt i 100000 then some (⟨i,[],v⟩::r)else none
  | _,_=>none
def T1:List (Nat×Sk)→Nat→Bool
 | [],_=>true
 | (t,_)::l,i=>Nat.beq t i&&T1 l (i+1)
def Jtx(es:List En)(S:XS):(l:List Shp)→Option (Qia l)
 | []=>none
 | [s]=>bif T1 s.env 0&&Nat.beq es.length s.env.length then XS.dec S s else none
 | s::r::l=>match (bif T1 s.env 0&&Nat.beq es.length s.env.length then XS.dec S s else none)with
  | some x=>some (.inl x)
  | none=>match Jtx es S (r::l)with
   | some y=>some (.inr y)
   | none=>none
def fin(Y:TX)(fn:Func)(Δ:List Shp)(S:XS):Option (Qia Δ):=match Jif Y S fn.results.toList 0 with
 | some es=>bif Nat.blt es.length 100000 then Jtx es ⟨es,[],S.mem,S.fixM,S.prot⟩ Δ else none
 | none=>none
def Qp8(gl:List (Nat×Σ t:Ty,t.De)):List En:=gl.map fun q=>⟨100000+q.1,[],.a q.2.1 q.2.2⟩
noncomputable def Jph(Y:TX)(K:List Con)(N:Nat)(fn:Func)(an:An)(ro:List Nat)(Γ:Shp)(Δ:List Shp)(x:Γ.De):Option (Qia Δ):=match fn.body with
 | some c=>bif Nat.ble Γ.env.length fn.ntmps&&(T1 Γ.env 0&&Nat.blt Γ.env.length 100000)then Xy Y K fn.ntmps N an c ⟨(enc Γ x).env,Qp8 Y.gl,wrM ro (enc Γ x).mem,rdM ro (enc Γ x).mem,Γ.mem.map Prod.fst⟩ fun e S=>match e with
  | .x _=>none
  | .n=>fin Y fn Δ S
  | .r=>fin Y fn Δ S else none
 | none=>none
end Gx

/- What a step gives does not depend on what comes behind it. -/
namespace Gx
open Go Go.RowKit Gd
theorem Wq{R A:Type}{b:Bool}{x:Option R}{y:Option A}{k:A→Option R}(h:x=y.bind k):(bif b then x else none)=(bif b then y else none).bind k:=by
 grind
theorem Il{T R A:Type}{x:Option T}{f:T→Option R}{g:T→Option A}{k:A→Option R}(h:∀t,f t=(g t).bind k):x.bind f=(x.bind g).bind k:=by
 cases x
 ·rfl
 ·exact h _
section
variable {R:Type} {Y:TX} {n:Nat}
theorem Jzv{S:St}{cur:V5}{op:Op}{k:AV→Option R}:tot Y S cur op k=(tot Y S cur op some).bind k:=by
 grind [tot]
theorem Qxw{A:Type}{k:A→Option R}:∀{ps:List PS} {x:AV} {f:AV→Option R} {g:AV→Option A},(∀y,f y=(g y).bind k)→Qxp ps x f=(Qxp ps x g).bind k
 | [],x,f,g,h=>h x
 | .f i off::ps,x,f,g,h=>by
  simp only[Qxp];split
  ·exact Qxw h
  ·rfl
 | .i j sz::ps,x,f,g,h=>by
  simp only[Qxp];split
  ·exact Wq (Il fun _=>Qxw h)
  ·rfl
theorem Qxx{A:Type}{k:A→Option R}{M:List (Nat×Ob)}:∀{ps:List PS} {x v:AV} {f:AV→Option R} {g:AV→Option A},(∀y,f y=(g y).bind k)→Qu1 M ps x v f=(Qu1 M ps x v g).bind k
 | [],x,v,f,g,h=>by
  simp only[Qu1];grind
 | .f i off::ps,x,v,f,g,h=>by
  simp only[Qu1];split
  ·refine Qxx fun x1=>?_
   grind
  ·rfl
 | .i j sz::ps,x,v,f,g,h=>by
  simp only[Qu1];split
  ·refine Wq (Il fun _=>Qxx fun x1=>?_)
   grind
  ·rfl
theorem Jig{S:St}{cur:V5}{op:Op}{k:AV→Option R}:Qr3 Y S cur op k=(Qr3 Y S cur op some).bind k:=by
 unfold Qr3
 repeat' (first | rfl | exact Jzv | (refine Wq ?_) | (refine Il fun _=>?_) | split)
theorem Jpi{S:St}{cur:V5}{op:Op}{k:AV→Option R}:Q24 Y S cur op k=(Q24 Y S cur op some).bind k:=by
 unfold Q24
 repeat' (first | rfl | (refine Wq ?_) | (refine Il fun _=>?_) | (refine Qxw fun _=>?_) | split)
theorem Q3a{S:St}{cur:V5}{op:Op}{k:AV→Option R}:Qp1 Y S cur op k=(Qp1 Y S cur op some).bind k:=by
 grind [Qp1,Jig,Jpi]
theorem Jih{A:Type}{S:St}{cur:V5}{op:Op}{f:AV→Option R}{g:AV→Option A}{k:A→Option R}(h:∀y,f y=(g y).bind k):Qp1 Y S cur op f=(Qp1 Y S cur op g).bind k:=by
 rw[Q3a (k:=f),Q3a (k:=g),ZH];exact congrArg _ (funext h)
theorem Qxy{o:Oper}{S:XS}{k:XS→Option R}:Qn6 Y n o S k=(Qn6 Y n o S some).bind k:=by
 unfold Qn6
 repeat' (first | rfl | (refine Wq ?_) | (refine Il fun _=>?_) | (refine Jih fun _=>?_) | split)
theorem Jpj{o:Oper}{S:XS}{k:XS→Option R}:Q29 Y n o S k=(Q29 Y n o S some).bind k:=by
 unfold Q29
 repeat' (first | rfl | (refine Wq ?_) | (refine Il fun _=>?_) | (refine Qxx fun _=>?_) | split)
theorem Q3b{o:Oper}{S:XS}{k:XS→Option R}:Qt1 Y n o S k=(Qt1 Y n o S some).bind k:=by
 grind [Qt1,Qxy,Jpj]
theorem Q62{c:Con}{o:Oper}{S:XS}{k:XS→Option R}:Xg n c o S k=(Xg n c o S some).bind k:=by
 unfold Xg Xg.callE Xg.callR
 repeat' (first | rfl | (refine Wq ?_) | (refine Il fun _=>?_) | (rw[Qwe,Qwe]) | split)
theorem Jpk{o:Oper}{S:XS}{k:XS→Option R}:Qnc Y n o S k=(Qnc Y n o S some).bind k:=by
 unfold Qnc Jzt Jic
 repeat' (first | rfl | exact Qxy | (refine Wq ?_) | (refine Il fun _=>?_) | split)
theorem Jpl{t:Nat}{want:Bool}{o:Oper}{S:XS}{k:XS→Option R}:Qp3 Y n t want o S k=(Qp3 Y n t want o S some).bind k:=by
 unfold Qp3;grind
theorem Jpm{o:Oper}{S:XS}{k:XS→Option R}:Qjg n o S k=(Qjg n o S some).bind k:=by
 unfold Qjg;grind
theorem Jpn{ops:List Oper}{o:Oper}{S:XS}{k:XS→Option R}:Qp4 Y n ops o S k=(Qp4 Y n ops o S some).bind k:=by
 grind [Qp4,Q3b,Jpl]
theorem Jpo{ops:List Oper}{o:Oper}{S:XS}{k:XS→Option R}:stepL Y n ops o S k=(stepL Y n ops o S some).bind k:=by
 grind [stepL,Q3b,Jpm]
theorem Qxz{st:{R:Type}→Oper→XS→(XS→Option R)→Option R}(hst:∀{R A:Type} (o:Oper) (S:XS) (f:XS→Option R) (g:XS→Option A) (k:A→Option R),(∀S',f S'=(g S').bind k)→st o S f=(st o S g).bind k) :
  ∀{A:Type} {k:A→Option R} {l:List Oper} {S:XS} {f:XS→Option R} {g:XS→Option A},(∀S',f S'=(g S').bind k)→Qu2 st l S f=(Qu2 st l S g).bind k
 | A,k,[],S,f,g,h=>h S
 | A,k,o::l,S,f,g,h=>by
  simp only[Qu2];exact hst o S _ _ k fun S'=>Qxz hst h
theorem Jzw{A:Type}{st:{R:Type}→Oper→XS→(XS→Option R)→Option R}{o:Oper}{S:XS}(h:∀{R:Type} {k:XS→Option R},st o S k=(st o S some).bind k){f:XS→Option R}{g:XS→Option A}{k:A→Option R}(h2:∀S',f S'=(g S').bind k):st o S f=(st o S g).bind k:=by
 rw[h (k:=f),h (k:=g),ZH];exact congrArg _ (funext h2)
end
theorem Wr{Y:TX}{K:List Con}{n:Nat}{ops:List Oper}:∀{R A:Type} {h:Hn} {l:List Oper} {S:XS} {f:XS→Option R} {g:XS→Option A} {k:A→Option R},(∀S',f S'=(g S').bind k)→Vk Y K n ops h l S f=(Vk Y K n ops h l S g).bind k
 | R,A,.done,l,S,f,g,k,hk=>by
  simp only[Vk];grind
 | R,A,.n m r,l,S,f,g,k,hk=>by
  simp only[Vk];exact Qxz (st:=fun {R}=>Qp4 Y n ops) (fun o S f g k h=>Jzw (st:=fun {R}=>Qp4 Y n ops) Jpn h) fun S'=>Wr hk
 | R,A,.nl m r,l,S,f,g,k,hk=>by
  simp only[Vk];exact Qxz (st:=fun {R}=>stepL Y n ops) (fun o S f g k h=>Jzw (st:=fun {R}=>stepL Y n ops) Jpo h) fun S'=>Wr hk
 | R,A,.call c r,l,S,f,g,k,hk=>by
  simp only[Vk];have hc:∀{con:Con} {o:Oper} {l':List Oper},Xg n con o S (fun S'=>Vk Y K n ops r l' S' f)=(Xg n con o S (fun S'=>Vk Y K n ops r l' S' g)).bind k:=fun {con o l'}=>Jzw (st:=fun {R}=>Xg n con) Q62 fun S'=>Wr hk
  repeat' (first | rfl | exact hc | split)
 | R,A,.br r,l,S,f,g,k,hk=>by
  simp only[Vk];have hc:∀{o:Oper} {l':List Oper},Qnc Y n o S (fun S'=>Vk Y K n ops r l' S' f)=(Qnc Y n o S (fun S'=>Vk Y K n ops r l' S' g)).bind k:=fun {o l'}=>Jzw (st:=fun {R}=>Qnc Y n) Jpk fun S'=>Wr hk
  repeat' (first | rfl | exact hc | split)
 | R,A,.fz id r,l,S,f,g,k,hk=>by
  simp only[Vk];exact Wr hk
 | R,A,.keep ts r,l,S,f,g,k,hk=>by
  simp only[Vk];exact Wr hk
 | R,A,.op src id d r,l,S,f,g,k,hk=>by
  simp only[Vk];unfold Jby J1u
  repeat' (first | rfl | exact Wr hk | (refine Wq ?_) | split)
 | R,A,.cl id r,l,S,f,g,k,hk=>by
  simp only[Vk];unfold Qxs
  repeat' (first | rfl | exact Wr hk | (refine Wq ?_) | split)
 | R,A,.fm id r,l,S,f,g,k,hk=>by
  simp only[Vk];unfold Jbx
  repeat' (first | rfl | exact Wr hk | (refine Wq ?_) | split)
 | R,A,.sp t m ks ms Γ a b r,l,S,f,g,k,hk=>by
  simp only[Vk];split
  ·exact Wq (Il fun _=>Wr hk)
  ·rfl
 | R,A,.si t i a b,l,S,f,g,k,hk=>by
  simp only[Vk];split
  ·refine Wq ?_
   split
   ·exact Wr hk
   ·exact Wr hk
  ·rfl
 | R,A,.md _ _,l,S,f,g,k,hk=>by simp_all [Vk]
 | R,A,.tl _,l,S,f,g,k,hk=>by simp_all [Vk]
 | R,A,.dt _ _,l,S,f,g,k,hk=>by simp_all [Vk]
 | R,A,.so _ _ _,l,S,f,g,k,hk=>by simp_all [Vk]
theorem Qx0{Y:TX}{K:List Con}{n:Nat}{ops:List Oper}{R:Type}{r:R}{h:Hn}{l:List Oper}{S:XS}{k:XS→Option R}(hs:Vk Y K n ops h l S k=some r):∃S1,k S1=some r∧Vk (R:=XS) Y K n ops h l S some=some S1:=by
 have e:=Wr (Y:=Y) (K:=K) (n:=n) (ops:=ops) (h:=h) (l:=l) (S:=S) (f:=k) (g:=some) (k:=k) fun S'=>rfl;rw[e]at hs;grind [Option.bind_eq_some_iff]
end Gx

/- States, and what becomes of them: new objects, other names. -/
namespace Gd
open Go Go.RowKit
section
variable {β:Nat→Nat} {X:Cx} {G:GL} {D:List DF} {H:HL} {O:List TL} {a:Act} {w w':World}
def Fx(t t':TL):Prop:=(∀g,t'.blks g↔t.blks g)∧(∀b o,t'.cov b o↔t.cov b o)∧∀ok w,t.p ok w→t'.p ok w
inductive Ha:List TL→List TL→Prop
 | nil:Ha [] []
 | cons {t t':TL} {l l':List TL} (h:Fx t t') (r:Ha l l'):Ha (t::l) (t'::l')
theorem Fx.refl(t:TL):Fx t t:=⟨fun _=>Iff.rfl,fun _ _=>Iff.rfl,fun _ _ h=>h⟩
theorem Ha.refl:∀l:List TL,Ha l l
 | []=>.nil
 | t::l=>.cons (Fx.refl t) (Ha.refl l)
theorem Ha.mem{l l':List TL}(h:Ha l l'):∀t'∈l',∃t∈l,Fx t t':=by
 induction h with
 | nil=>simp
 | cons h r ih =>
  grind
theorem Ha.pw{l l':List TL}(h:Ha l l')(hp:l.Pairwise fun s t=>∀g,s.blks g→¬ t.blks g):l'.Pairwise fun s t=>∀g,s.blks g→¬ t.blks g:=by
 induction h with
 | nil=>exact .nil
 | cons h r ih =>
  have:=List.pairwise_cons.1 hp;refine List.pairwise_cons.2 ⟨fun u hu g hg hg2=>?_,ih this.2⟩;obtain⟨t,ht,hs⟩:=r.mem u hu;exact this.1 t ht g ((h.1 g).1 hg) ((hs.1 g).1 hg2)
theorem Ha.append{l l' m m':List TL}(h:Ha l l')(k:Ha m m'):Ha (l++m) (l'++m'):=by
 induction h with
 | nil=>exact k
 | cons h _ ih=>exact .cons h ih
theorem Ha.ok{l l':List TL}(h:Ha l l'){ok0:Ok}{B:Nat}:∀b o,Jr ok0 B β H l w b o→Jr ok0 B β H l' w b o:=by
 rintro b o ⟨h1,h2,h3,h4⟩;refine⟨h1,h2,h3,fun u hu hc=>?_⟩;obtain⟨t,ht,hs⟩:=h.mem u hu;exact h4 t ht ((hs.2.1 b o).1 hc)
theorem Sb.simO{O':List TL}(h:Sb β X G D H O a w)(hs:Ha O O'):Sb β X G D H O' a w :=
 { sz:=h.sz,df:=h.df,fr:=h.fr,pn:=h.pn,tm:=h.tm,bel:=h.bel,dat:=h.dat.weak hs.ok,obj:=h.obj,own:=fun u hu=>let⟨t,ht,hst⟩:=hs.mem u hu; ⟨u.weak (hst.2.2 _ _ (h.own t ht).1) hs.ok,fun g hg=>(h.own t ht).2 g ((hst.1 g).1 hg)⟩,dHH:=h.dHH,dHO:=fun p hp u hu hg=>let⟨t,ht,hst⟩:=hs.mem u hu; h.dHO p hp t ht ((hst.1 _).1 hg),dOO:=hs.pw h.dOO }
theorem Sb.subO{O':List TL}(h:Sb β X G D H O a w)(hs:O'.Sublist O):Sb β X G D H O' a w:=by
 have hok:∀b o,Jr X.ok X.w.heap.size β H O w b o→Jr X.ok X.w.heap.size β H O' w b o:=fun b o ⟨h1,h2,h3,h4⟩=>⟨h1,h2,h3,fun u hu=>h4 u (hs.subset hu)⟩
 exact { sz:=h.sz,df:=h.df,fr:=h.fr,pn:=h.pn,tm:=h.tm,bel:=h.bel,dat:=h.dat.weak hok,obj:=h.obj,own:=fun u hu=>⟨u.weak (h.own u (hs.subset hu)).1 hok,(h.own u (hs.subset hu)).2⟩,dHH:=h.dHH,dHO:=fun p hp u hu=>h.dHO p hp u (hs.subset hu),dOO:=h.dOO.sublist hs }
theorem Qlv{O1 O1' O2:List TL}{L:List Nat}(h:Sb β X G D [] (O1++O2) a w)(_:w.heap.size≤w'.heap.size)(hL:∀g∈L,∃t∈O1,t.blks g) :
  ∀b o,Jr (okL L (Jr X.ok X.w.heap.size β [] (O1++O2) w)) w.heap.size β [] O1' w' b o→Jr X.ok X.w.heap.size β [] (O1'++O2) w' b o:=by
 rintro b o ⟨h1,h2,_,h4⟩;have hO2:∀u∈O2,¬ u.cov b o→∀v∈O1'++O2,v=u→¬ v.cov b o:=fun u _ hn v _ e=>e▸hn
 have fin:(X.ok b o∨X.w.heap.size≤b)→(∀u∈O2,¬ u.cov b o)→Jr X.ok X.w.heap.size β [] (O1'++O2) w' b o:=by
  intro h5 h6;refine⟨h5,h2,by simp,fun u hu=>?_⟩;grind
 rcases h1 with(h1 | h1) | h1
 ·exact fin h1.1 fun u hu=>h1.2.2.2 u (by simp[hu])
 ·obtain⟨t,ht,hg⟩:=hL b h1
  have hm:=(h.own t (by simp[ht])).2 b hg;refine fin (X.mine_ok hm o) fun u hu hc=>?_;exact(QA.1 h.dOO).2.2 t ht u hu b hg (u.cb hc)
 ·refine fin (.inr (Nat.le_trans h.bel.size h1)) fun u hu hc=>?_
  have:=h.olt (t:=u) (by simp[hu]) (u.cb hc);omega
theorem Sb.callO{O1 O1' O2:List TL}{L:List Nat}(h:Sb β X G D [] (O1++O2) a w)(hb:Ki L w.heap.size w w')(hL:∀g∈L,∃t∈O1,t.blks g)(hcov:∀t∈O1,∀b o,t.blks b→t.cov b o)
  (hp:∀t∈O1',t.p (Jr (okL L (Jr X.ok X.w.heap.size β [] (O1++O2) w)) w.heap.size β [] O1' w') w'∧∀g,t.blks g→w.heap.size≤g∨g∈L) (hd:O1'.Pairwise fun s t=>∀g,s.blks g→¬ t.blks g) :
  Sb β X G D [] (O1'++O2) a w':=by
 have hpw:=QA.1 h.dOO;have hsame:∀b,b<w.heap.size→(∀t∈O1,¬ t.blks b)→w'.heap[b]?=w.heap[b]?:=fun b hb' hn=>hb.block b hb' fun hm=>by grind
 have hevo:Evo (Jr X.ok X.w.heap.size β [] (O1++O2) w) w w':=Evo.of_blocks hb.size fun b o hk=>hsame b hk.2.1 fun t ht hg=>hk.2.2.2 t (by simp[ht]) (hcov t ht b o hg)
 have hok:∀b o,Jr X.ok X.w.heap.size β [] (O1++O2) w b o→Jr X.ok X.w.heap.size β [] (O1'++O2) w' b o:=by
  rintro b o ⟨h1,h2,h3,h4⟩;refine⟨h1,QI h2 hb.size,h3,fun u hu hc=>?_⟩;rcases QZ.1 hu with hu | hu
  ·rcases(hp u hu).2 b (u.cb hc)with hg | hg
   ·omega
   ·obtain⟨t,ht,hg⟩:=hL b hg
    exact h4 t (by simp[ht]) (hcov t ht b o hg)
  grind
 have hmine:∀t∈O1',∀g,t.blks g→X.mine g:=by
  intro t ht g hg;rcases(hp t ht).2 g hg with h1 | h1
  ·exact .inl (Nat.le_trans h.bel.size h1)
  ·obtain⟨u,hu,hg⟩:=hL g h1
   exact(h.own u (by simp[hu])).2 g hg
 have hO2:∀u∈O2,∀g,u.blks g→w'.heap[g]?=w.heap[g]?:=fun u hu g hg=>hsame g (h.olt (by simp[hu]) hg) fun t ht hg2=>hpw.2.2 t ht u hu g hg2 hg;refine { sz:=h.sz,df:=h.df,fr:=h.fr,pn:=h.pn,tm:=h.tm,bel:=?_,dat:=(h.dat.evo hevo).weak hok,obj:=by simp,own:=?_,dHH:=by simp,dHO:=by simp,dOO:=?_ }
 ·refine h.bel.trans ⟨hb.os,hb.tape,hb.output,hb.size,fun k hk hn=>hsame k (QI hk h.bel.size) fun t ht hg=>?_⟩
  exact((h.own t (by simp[ht])).2 k hg).elim (fun h=>by omega) hn
 ·intro u hu
  rcases QZ.1 hu with hu | hu
  ·exact⟨u.weak (hp u hu).1 (Qlv h hb.size hL),hmine u hu⟩
  ·have:=h.own u (by simp[hu]:u∈O1++O2)
   exact⟨u.weak (u.keep this.1 (hO2 u hu) hevo) hok,this.2⟩
 ·refine QA.2 ⟨hd,hpw.2.1,fun t ht u hu g hg hg2=>?_⟩
  rcases(hp t ht).2 g hg with h1 | h1
  ·have:=h.olt (t:=u) (by simp[hu]) hg2; omega
  grind
end
end Gd
namespace Gx
open Go Go.RowKit Gd
def upd{α:Type}(f:Nat→α)(d:Nat)(v:α):Nat→α:=fun i=>if i=d then v else f i
theorem Jm{α:Type}(f:Nat→α)(d:Nat)(v:α):upd f d v d=v:=by simp[upd]
theorem N2{α:Type}(f:Nat→α){d i:Nat}(v:α)(h:i≠d):upd f d v i=f i:=by simp[upd,h]
def Qp9(d:Nat)(β β':Nat→Nat)(ρ ρ':Nat→Value):Prop:=∀i,i≠d→β' i=β i∧ρ' i=ρ i
theorem Qr7(d:Nat)(β:Nat→Nat)(ρ:Nat→Value)(g:Nat)(v:Value):Qp9 d β (upd β d g) ρ (upd ρ d v):=fun i h=>⟨N2 _ _ h,N2 _ _ h⟩
theorem neB{a b:Nat}(h:(!Nat.beq a b)=true):a≠b:=by
 grind [Nat.beq_refl]
section
variable {β β':Nat→Nat} {ρ ρ':Nat→Value} {ok:Ok} {w:World} {d:Nat}
theorem Fy(ha:Qp9 d β β' ρ ρ'):∀{m:Bool} {x:AV} {cs:List Value},Km d x=true→cr β ρ ok w m x cs→cr β' ρ' ok w m x cs
 | m,.d t x,cs,_,h=>by cases m<;>exact h
 | m,.p id path,cs,hn,h=>by
  have:=(ha id (neB (by grind [Km]))).1;cases m<;>(grind [cr])
 | m,.e id path,cs,hn,h=>by
  have:=(ha id (neB (by grind [Km]))).2;cases m<;>(grind [cr])
 | m,.s id,cs,hn,h=>by
  have:=(ha id (neB (by grind [Km]))).2;cases m<;>(grind [cr])
 | m,.m id,cs,hn,h=>by
  have:=(ha id (neB (by grind [Km]))).1;cases m<;>(grind [cr])
 | m,.b id,cs,hn,h=>by
  have:=(ha id (neB (by grind [Km]))).1;cases m<;>(grind [cr])
 | m,.w id _ _,cs,hn,h=>by
  have:=(ha id (neB (by grind [Km]))).1;cases m<;>(grind [cr])
 | m,.a t x,cs,_,h=>by cases m<;>exact h
 | m,.z,cs,_,h=>by cases m<;>exact h
 | m,.ns,cs,_,h=>by cases m<;>exact h
 | m,.np,cs,_,h=>by cases m<;>exact h
 | m,.nm,cs,_,h=>by cases m<;>exact h
 | m,.nf,cs,_,h=>by cases m<;>exact h
 | m,.f fn caps,cs,hn,h=>by cases m<;>exact let⟨vs,h1,h2⟩:=h; ⟨vs,h1,Fy ha (by grind [Km]) h2⟩
 | m,.ag l,cs,hn,h=>by cases m<;>exact Fy ha (m:=false) (x:=l) (by grind [Km]) h
 | m,.tp l,cs,hn,h=>by cases m<;>exact let⟨vs,h1,h2⟩:=h; ⟨vs,h1,Fy ha (by grind [Km]) h2⟩
 | m,.nil,cs,_,h=>by cases m<;>exact h
 | true,.cons x r,cs,hn,h=>by
  simp only[Km,QQ]at hn;exact let⟨c1,vs,h1,h2,h3⟩:=h; ⟨c1,vs,h1,Fy ha hn.1 h2,Fy ha hn.2 h3⟩
 | false,.cons x r,cs,hn,h=>by
  simp only[Km,QQ]at hn;exact let⟨c1,vs,h1,h2,h3⟩:=h; ⟨c1,vs,h1,Fy ha hn.1 h2,Fy ha hn.2 h3⟩
def J7z(d:Nat):Ob→Prop
 | .var _ c=>Km d c=true
 | .mapC _ _ _ (some q)=>q.2≠d
 | _=>True
theorem N3:∀{M:List (Nat×Ob)},Yo d M=true→∀q∈M,q.1≠d∧J7z d q.2
 | [],_,q,hq=>by cases hq
 | (k,o)::l,h,q,hq=>by
  cases o with
  | var t c =>
   simp only[Yo,QQ]at h;rcases QX.1 hq with rfl | hq
   ·exact⟨neB h.1.1,h.1.2⟩
   ·exact N3 h.2 q hq
  | mapC k1 v xs hole =>
   cases hole with
   | none =>
    simp only[Yo,QQ]at h;rcases QX.1 hq with rfl | hq
    ·exact⟨neB h.1,trivial⟩
    ·exact N3 h.2 q hq
   | some q0 =>
    simp only[Yo,QQ]at h;rcases QX.1 hq with rfl | hq
    ·exact⟨neB h.1.1,neB h.1.2⟩
    ·exact N3 h.2 q hq
  | _ =>
   simp only[Yo,QQ]at h;rcases QX.1 hq with rfl | hq
   ·exact⟨neB h.1,trivial⟩
   ·exact N3 h.2 q hq
theorem Qfy(ha:Qp9 d β β' ρ ρ'):∀{M:List (Nat×Ob)},Yo d M=true→Ha (Qq β ρ M) (Qq β' ρ' M)
 | [],_=>.nil
 | (k,o)::l,h=>by
  have hq:=N3 h (k,o) (.head _)
  have hl:Yo d l=true:=by
   cases o with
   | mapC k1 v xs hole=>cases hole<;>simp only[Yo,QQ]at h<;>exact h.2
   | _=>simp_all [Yo,QQ]
  refine .cons ?_ (Qfy ha hl);obtain⟨h1,h2⟩:=ha k hq.1;cases o with
  | var t c =>
   refine⟨fun g=>by grind [Jb,Qxe],fun b o=>by grind [Jb,Qxe],fun ok w hp=>?_⟩;obtain⟨cs,hh,hc⟩:=hp;exact⟨cs,by rw[h1]; exact hh,Fy ha hq.2 hc⟩
  | row e t xs=>grind [Jb,Fx.refl]
  | tail e t xs=>grind [Jb,Fx.refl]
  | map k v xs=>grind [Jb,Fx.refl]
  | mapC k1 v xs hole =>
   have hv:Tt β' ρ' v hole=Tt β ρ v hole:=by
    cases hole with
    | none=>rfl
    | some q=>cases v<;>simp only[Tt,(ha q.2 hq.2).1,(ha q.2 hq.2).2]
   grind [Jb,Fx.refl]
theorem Jzx{a:Act}(ha:Qp9 d β β' ρ ρ'){e:En}(hn:Km d e.av=true)(h:(enD β ρ a e).p ok w):(enD β' ρ' a e).p ok w :=
 ⟨fun hc=>let⟨cs,h1,h2⟩:=h.1 hc; ⟨cs,h1,Fy ha hn h2⟩,h.2⟩
theorem Qn8{l:List En}{e:En}(h:e∈Ux d l):e∈l∧Km d e.av=true:=by
 induction l with
 | nil=>cases h
 | cons x l ih =>
  simp only[Ux]at h;grind
theorem Qx1{l:List En}(h:Qp2 d l=true):∀e∈l,Km d e.av=true:=by
 induction l with
 | nil=>grind
 | cons x l ih =>
  simp only[Qp2,QQ]at h;intro e he;rcases QX.1 he with rfl | he
  ·exact h.1
  ·exact ih h.2 e he
end
section
variable {X:Cx} {β β':Nat→Nat} {ρ ρ':Nat→Value} {S:St} {a:Act} {w w':World} {d:Nat}
theorem Rel.off(h:Rel X β ρ S a w)(ha:Qp9 d β β' ρ ρ')(hf:Yo d S.mem=true){env':List En}(he:∀e∈env',e∈S.env∧Km d e.av=true):Rel X β' ρ' ⟨env',S.mem⟩ a w:=by
 have h1:=Sb.simO h (Qfy ha hf);refine { h1 with dat:=Yq.2 fun x hx=>?_ };obtain⟨e,hm,rfl⟩:=QK.1 hx;obtain⟨h2,h3⟩:=he e hm;exact Jzx ha h3 ((enD β ρ a e).weak (h.en h2) (Qfy ha hf).ok)
theorem Rel.ofSb{G:GL}{D:List DF}{O:List TL}(h:Sb (fun _=>0) X G D [] O a w){mem:List (Nat×Ob)}(hO:O=Qq β ρ mem){env:List En}
  (he:∀e∈env,(enD β ρ a e).p (okR X β ρ mem w) w):Rel X β ρ ⟨env,mem⟩ a w:=by
 subst hO;exact { h with tm:=by simp,dat:=Yq.2 fun x hx=>by grind }
theorem Rel.alloc(h:Rel X β ρ S a w)(ha:Qp9 d β β' ρ ρ')(hf:Yo d S.mem=true){env':List En}(he:∀e∈env',e∈S.env∧Km d e.av=true)(hb:Below w.heap.size w w'){o:Ob}
  (ht:∀g,(Jb β' ρ' d o).blks g→w.heap.size≤g) (hq:(Jb β' ρ' d o).p (okR X β' ρ' ((d,o)::S.mem) w') w'):Rel X β' ρ' ⟨env',(d,o)::S.mem⟩ a w' :=
 Sb.allocTL (h.off ha hf he) hb ht hq
end
end Gx
