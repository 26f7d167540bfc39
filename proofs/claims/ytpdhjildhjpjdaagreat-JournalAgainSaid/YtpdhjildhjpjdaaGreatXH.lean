/- Shapes of states; the interpreter. -/
import Derived.Test.YtpdhjildhjpjdaaGreatXF
import Derived.StillTail
import Derived.Test.YtpdhjildhjpjdaaGreatGCore
namespace Gx
open Go Go.RowKit Gd
set_option linter.unusedVariables false
set_option linter.unusedSimpArgs false
inductive Sk where
 | d (t:Ty)
 | p (id:Nat) (path:List PS)
 | s (id:Nat) | m (id:Nat)
 | ns | np | nm | nf | z
 | f (fn:FuncId) (caps:Sk)
 | ag (l:Sk) | nil | cons (x r:Sk)
inductive SkO where
 | var (tid:TypeId) (c:Sk)
 | row (e:TypeId) (t:Ty)
 | tail (e:TypeId) (t:Ty)
 | map (k v:Ty)
 | mapC (k:Ty) (c:CK)
structure Shp where
 env:List (Nat×Sk)
 mem:List (Nat×SkO)
abbrev DV:=Σ t:Ty,t.De
def Sk.tys:Sk→List Ty
 | .d t=>[t]
 | .f _ c=>c.tys
 | .ag l=>l.tys
 | .cons x r=>x.tys++r.tys
 | _=>[]
def SkO.tys:SkO→List Ty
 | .var _ c=>c.tys
 | .row _ t=>[.sl t]
 | .tail _ t=>[.sl t]
 | .map k v=>[.sl (.pr k v)]
 | .mapC k c=>[.sl (.pr k c.ty)]
def Jjh:List (Nat×Sk)→List Ty
 | []=>[]
 | q::l=>q.2.tys++Jjh l
def Jji:List (Nat×SkO)→List Ty
 | []=>[]
 | q::l=>q.2.tys++Jji l
def Shp.tys(Γ:Shp):List Ty:=Jjh Γ.env++Jji Γ.mem
@[reducible] def Tup:List Ty→Type
 | []=>Unit
 | [t]=>t.De
 | t::u::ts=>t.De×Tup (u::ts)
abbrev Shp.De(Γ:Shp):Type:=Tup Γ.tys
def toL:(ts:List Ty)→Tup ts→List DV
 | [],_=>[]
 | [t],x=>[⟨t,x⟩]
 | t::u::ts,x=>⟨t,x.1⟩::toL (u::ts) x.2
def ofL:(ts:List Ty)→List DV→Option (Tup ts)
 | [],[]=>some ()
 | [t],[v]=>Ty.cast v.1 t v.2
 | t::u::ts,v::vs=>match Ty.cast v.1 t v.2,ofL (u::ts) vs with
  | some a,some b=>some (a,b)
  | _,_=>none
 | _,_=>none
def Ol:Sk→List DV→AV×List DV
 | .d t,v::vs=>(.d v.1 v.2,vs)
 | .d _,[]=>(.nil,[])
 | .p id path,vs=>(.p id path,vs)
 | .s id,vs=>(.s id,vs)
 | .m id,vs=>(.m id,vs)
 | .ns,vs=>(.ns,vs)
 | .np,vs=>(.np,vs)
 | .nm,vs=>(.nm,vs)
 | .nf,vs=>(.nf,vs)
 | .z,vs=>(.z,vs)
 | .f fn c,vs=>match Ol c vs with
  | (x,r)=>(.f fn x,r)
 | .ag l,vs=>match Ol l vs with
  | (x,r)=>(.ag x,r)
 | .nil,vs=>(.nil,vs)
 | .cons a b,vs=>match Ol a vs with
  | (x,r)=>match Ol b r with
   | (y,r')=>(.cons x y,r')
def Qfg:SkO→List DV→Option (Ob×List DV)
 | .var tid c,vs=>match Ol c vs with
  | (x,r)=>some (.var tid x,r)
 | .row e t,v::vs=>match Ty.cast v.1 (.sl t) v.2 with
  | some xs=>some (.row e t xs,vs)
  | none=>none
 | .tail e t,v::vs=>match Ty.cast v.1 (.sl t) v.2 with
  | some xs=>some (.tail e t xs,vs)
  | none=>none
 | .map k u,v::vs=>match Ty.cast v.1 (.sl (.pr k u)) v.2 with
  | some xs=>some (.map k u xs,vs)
  | none=>none
 | .mapC k c,v::vs=>match Ty.cast v.1 (.sl (.pr k c.ty)) v.2 with
  | some xs=>some (.mapC k c xs none,vs)
  | none=>none
 | _,[]=>none
def L0:List (Nat×Sk)→List DV→List En×List DV
 | [],vs=>([],vs)
 | (t,s)::l,vs=>match Ol s vs with
  | (x,r)=>match L0 l r with
   | (es,r')=>(⟨t,[],x⟩::es,r')
def Xb:List (Nat×SkO)→List DV→List (Nat×Ob)
 | [],_=>[]
 | (t,s)::l,vs=>match Qfg s vs with
  | some (x,r)=>(t,x)::Xb l r
  | none=>[]
structure XS where
 env:List En
 fix:List En
 mem:List (Nat×Ob)
 fixM:List (Nat×Ob)
 prot:List Nat
def XS.flat(S:XS):St:=⟨S.env++S.fix,S.mem++S.fixM⟩
abbrev XS.ev(S:XS)(cur:Vr)(x:Operand):Option AV:=Gx.ev S.flat cur x
def enc(Γ:Shp)(x:Γ.De):St:=match L0 Γ.env (toL Γ.tys x)with
 | (es,r)=>⟨es,Xb Γ.mem r⟩
def PS.beq:PS→PS→Bool
 | .f k o,.f k' o'=>Nat.beq k k'&&Nat.beq o o'
 | _,_=>false
def Qzy:List PS→List PS→Bool
 | [],[]=>true
 | a::l,b::m=>PS.beq a b&&Qzy l m
 | _,_=>false
def isNone{α:Type}:Option α→Bool
 | none=>true
 | some _=>false
def CK.beq:CK→CK→Bool
 | .sl e u,.sl e' u'=>Nat.beq e e'&&Ty.beq u u'
 | .mp k v,.mp k' v'=>Ty.beq k k'&&Ty.beq v v'
 | _,_=>false
def Jfp:Sk→AV→List (Nat×Nat)
 | .s id,.s c=>[(id,c)]
 | .p id _,.p c _=>[(id,c)]
 | .m id,.m c=>[(id,c)]
 | .f _ x,.f _ y=>Jfp x y
 | .ag l,x=>match Qck x with
  | some y=>Jfp l y
  | none=>[]
 | .cons a b,.cons x y=>Jfp a x++Jfp b y
 | _,_=>[]
def Jb2(env:List En):List (Nat×Sk)→List (Nat×Nat)
 | []=>[]
 | (t,s)::l=>match Xq env t with
  | some e=>Jfp s e.av++Jb2 env l
  | none=>Jb2 env l
def Qw1(M:List (Nat×Ob)):List (Nat×SkO)→List (Nat×Nat)→List (Nat×Nat)
 | [],ri=>ri
 | (id,.var _ c)::l,ri=>match Jv ri id with
  | some i=>match Qg M i with
   | some (.var _ x)=>Qw1 M l (ri++Jfp c x)
   | _=>Qw1 M l ri
  | none=>Qw1 M l ri
 | _::l,ri=>Qw1 M l ri
def Jra(Γ:Shp)(S:St):List (Nat×Nat):=Qw1 S.mem Γ.mem (Jb2 S.env Γ.env)
def Yi:List Nat→Nat→Bool
 | [],_=>false
 | k::l,t=>Nat.beq k t||Yi l t
def Qw2:AV→List Nat
 | .s id=>[id]
 | .ag l=>Qw2 l
 | .cons x r=>Qw2 x++Qw2 r
 | _=>[]
def Jfq:Sk→AV→List Nat
 | .d _,x=>Qw2 x
 | .f _ a,.f _ x=>Jfq a x
 | .ag l,x=>match Qck x with
  | some y=>Jfq l y
  | none=>[]
 | .cons a b,.cons x y=>Jfq a x++Jfq b y
 | _,_=>[]
def Jjj(env:List En):List (Nat×Sk)→List Nat
 | []=>[]
 | (t,s)::l=>match Xq env t with
  | some e=>Jfq s e.av++Jjj env l
  | none=>Jjj env l
def Qzz(M:List (Nat×Ob))(ri:List (Nat×Nat)):List (Nat×SkO)→List Nat
 | []=>[]
 | (id,.var _ c)::l=>match Jv ri id with
  | some i=>match Qg M i with
   | some (.var _ x)=>Jfq c x++Qzz M ri l
   | _=>Qzz M ri l
  | none=>Qzz M ri l
 | (id,.tail _ _)::l=>match Jv ri id with
  | some i=>i::Qzz M ri l
  | none=>Qzz M ri l
 | _::l=>Qzz M ri l
def Vh(ks:List Nat):List (Nat×Ob)→List (Nat×Ob)
 | []=>[]
 | (id,.row e t xs)::l=>(bif Yi ks id&&Nat.ble 1 t.size then(id,.tail e t xs)else(id,.row e t xs))::Vh ks l
 | q::l=>q::Vh ks l
def Q9d(ri:List (Nat×Nat))(id c:Nat):Bool:=match Jv ri id with
 | some i=>Nat.beq i c
 | none=>false
def Sk.isL:Sk→Bool
 | .nil=>true
 | .cons _ b=>b.isL
 | _=>false
def Uq(M:List (Nat×Ob))(ri:List (Nat×Nat))(pr:List Nat):Sk→AV→Option (List DV)
 | .d t,v=>match asD M v t with
  | some x=>bif t.agg==v.isAgg then some [⟨t,x⟩]else none
  | none=>none
 | .p id path,.p c path'=>bif Q9d ri id c&&Qzy path path' then some []else none
 | .s id,.s c=>bif Q9d ri id c&&!isNone (Qg M c)then some []else none
 | .s id,.ns=>bif isNone (Jv ri id)&&!Yi pr id then some []else none
 | .m id,.m c=>bif Q9d ri id c then some []else none
 | .ns,.ns=>some []
 | .np,.np=>some []
 | .nm,.nm=>some []
 | .nf,.nf=>some []
 | .z,.z=>some []
 | .f fn c,.f fn' x=>bif Nat.beq fn fn'&&c.isL then Uq M ri pr c x else none
 | .ag l,x=>match Qck x with
  | some y=>Uq M ri pr l y
  | none=>none
 | .nil,.nil=>some []
 | .cons a b,.cons x y=>match Uq M ri pr a x,Uq M ri pr b y with
  | some u,some v=>some (u++v)
  | _,_=>none
 | _,_=>none
def Qsn(M:List (Nat×Ob))(ri:List (Nat×Nat))(pr:List Nat)(env:List En):List (Nat×Sk)→Option (List DV)
 | []=>some []
 | (t,s)::l=>match Xq env t with
  | some ⟨_,[],x⟩=>match Uq M ri pr s x,Qsn M ri pr env l with
   | some u,some v=>some (u++v)
   | _,_=>none
  | _=>none
def Qay(M:List (Nat×Ob))(ri:List (Nat×Nat))(pr:List Nat):SkO→Option Ob→Option (List DV)
 | .var tid c,some (.var tid' x)=>bif Nat.beq tid tid' then Uq M ri pr c x else none
 | .row e t,some (.row e' t' xs)=>bif Nat.beq e e'&&Ty.beq t t' then some [⟨.sl t',xs⟩]else none
 | .row e t,none=>some [⟨.sl t,[]⟩]
 | .tail e t,some (.tail e' t' xs)=>bif Nat.beq e e'&&Ty.beq t t' then some [⟨.sl t',xs⟩]else none
 | .tail e t,none=>some [⟨.sl t,[]⟩]
 | .map k u,some (.map k' u' xs)=>bif Ty.beq k k'&&Ty.beq u u' then some [⟨.sl (.pr k' u'),xs⟩]else none
 | .mapC k c,some (.mapC k' c' xs hole)=>bif Ty.beq k k'&&CK.beq c c'&&isNone hole then some [⟨.sl (.pr k' c'.ty),xs⟩]else none
 | _,_=>none
def Jb3(M:List (Nat×Ob))(ri:List (Nat×Nat))(id:Nat):Option (Option Ob):=match Jv ri id with
 | none=>some none
 | some c=>match Qg M c with
  | some o=>some (some o)
  | none=>none
def Te(M F:List (Nat×Ob))(ri:List (Nat×Nat))(pr:List Nat):List (Nat×SkO)→Option (List DV)
 | []=>some []
 | (t,s)::l=>match Jb3 M ri t with
  | some o=>match Qay (M++F) ri pr s o,Te M F ri pr l with
   | some u,some v=>some (u++v)
   | _,_=>none
  | none=>none
def Bj(ri:List (Nat×Nat)):List (Nat×SkO)→List Nat→Bool
 | [],_=>true
 | (id,_)::l,cs=>match Jv ri id with
  | some c=>!Yi cs c&&Bj ri l (c::cs)
  | none=>Bj ri l cs
def Jjk:List (Nat×SkO)→List Nat→Bool
 | [],_=>true
 | (id,_)::l,cs=>!Yi cs id&&Jjk l (id::cs)
def frz(Γ:Shp)(ri:List (Nat×Nat))(env:List En)(M:List (Nat×Ob)):List (Nat×Ob):=Vh (Jjj env Γ.env++Qzz M ri Γ.mem) M
def Jb4(ri:List (Nat×Nat))(pr:List Nat):List (Nat×SkO)→Bool
 | []=>true
 | (id,_)::l=>(!Yi pr id||Q9d ri id id)&&Jb4 ri pr l
def Q30(pr:List Nat):List (Nat×Nat)→Bool
 | []=>true
 | (id,c)::l=>(!Yi pr id||Nat.beq id c)&&Q30 pr l
def Jo8(Γ:Shp)(ri:List (Nat×Nat))(pr:List Nat)(env:List En)(M F:List (Nat×Ob)):Option Γ.De :=
 bif Bj ri Γ.mem []&&Jjk Γ.mem []&&Jb4 ri pr Γ.mem&&Q30 pr ri then
  match Qsn (M++F) ri pr env Γ.env,Te M F ri pr Γ.mem with
  | some u,some v=>ofL Γ.tys (u++v)
  | _,_=>none
 else none
def decF(Γ:Shp)(ri:List (Nat×Nat))(pr:List Nat)(env:List En)(M F:List (Nat×Ob)):Option Γ.De:=Jo8 Γ ri pr env (frz Γ ri env M) F
def Jd:AV→List Nat
 | .p id _=>[id]
 | .e id _=>[id]
 | .s id=>[id]
 | .m id=>[id]
 | .b id=>[id]
 | .w id _ _=>[id]
 | .f _ c=>Jd c
 | .ag l=>Jd l
 | .tp l=>Jd l
 | .cons x r=>Jd x++Jd r
 | _=>[]
def Tf:List En→List Nat
 | []=>[]
 | e::l=>Jd e.av++Tf l
def Je:List (Nat×Ob)→List Nat
 | []=>[]
 | (id,.var _ c)::l=>id::(Jd c++Je l)
 | (id,.mapC _ _ _ (some q))::l=>id::q.2::Je l
 | (id,.mapE _ _ _ _ j)::l=>id::j::Je l
 | (id,_)::l=>id::Je l
def Jjl(pr:List Nat):List (Nat×SkO)→List (Nat×Nat)
 | []=>[]
 | (id,_)::l=>bif Yi pr id then(id,id)::Jjl pr l else Jjl pr l
def XS.dec(S:XS)(Γ:Shp):Option Γ.De:=decF Γ (Qw1 S.mem Γ.mem (Jb2 (S.env++S.fix) Γ.env++Jjl (S.prot++(Tf S.fix++Je S.fixM)) Γ.mem)) (S.prot++(Tf S.fix++Je S.fixM)) (S.env++S.fix) S.mem S.fixM
def Qv0(env:List En):List Nat→List En
 | []=>[]
 | t::ts=>match Xq env t with
  | some e=>e::Qv0 env ts
  | none=>Qv0 env ts
def Jt:List (Nat×Ob)→List Nat→List (Nat×Ob)×List (Nat×Ob)
 | M,[]=>(M,[])
 | M,t::ts=>match Qg M t with
  | some o=>((Jt (J0 M t) ts).1,(t,o)::(Jt (J0 M t) ts).2)
  | none=>Jt M ts
def XS.ent(S:XS)(ks ms:List Nat):XS:=⟨S.env,Qv0 S.env ks++S.fix,(Jt S.mem ms).1,(Jt S.mem ms).2++S.fixM,S.prot⟩
def XS.re(S:XS)(S1:St):XS:=⟨S1.env,S.fix,S1.mem,S.fixM,S.prot⟩
def XS.out(S:XS)(ks ms:List Nat)(S1:St):XS:=⟨S1.env++Qv0 S.env ks,S.fix,S1.mem++(Jt S.mem ms).2,S.fixM,S.prot⟩
inductive Ex where
 | n | x (id:Nat) | r
def Ex.beq:Ex→Ex→Bool
 | .n,.n=>true
 | .r,.r=>true
 | .x a,.x b=>Nat.beq a b
 | _,_=>false
abbrev Exs:=List (Ex×Shp)
@[reducible] def Q9e:Exs→Type
 | []=>Empty
 | [q]=>q.2.De
 | q::r::l=>q.2.De⊕Q9e (r::l)
def inj:(l:Exs)→Ex→XS→Option (Q9e l)
 | [],_,_=>none
 | [q],e,S=>bif Ex.beq q.1 e then S.dec q.2 else none
 | q::r::l,e,S=>bif Ex.beq q.1 e then(match S.dec q.2 with
   | some x=>some (.inl x)
   | none=>none)else(match inj (r::l) e S with
   | some x=>some (.inr x)
   | none=>none)
def Q9f{R:Type}(S:XS)(ks ms:List Nat)(k:Ex→XS→Option R):(l:Exs)→Q9e l→Option R
 | [],_=>none
 | [q],x=>k q.1 (S.out ks ms (enc q.2 x))
 | q::r::l,x=>match x with
  | .inl y=>k q.1 (S.out ks ms (enc q.2 y))
  | .inr z=>Q9f S ks ms k (r::l) z
def Qh{σ τ:Type}(f:σ→Option (σ⊕τ)):Nat→σ→Option τ
 | 0,_=>none
 | n+1,s=>(f s).bind fun
  | .inl s'=>Qh f n s'
  | .inr r=>some r
@[reducible] def Qaz:List Shp→Type
 | []=>Empty
 | [s]=>s.De
 | s::r::l=>s.De⊕Qaz (r::l)
def Qh7:(l:List Shp)→Qaz l→St
 | [],y=>nomatch y
 | [s],y=>enc s y
 | s::r::l,y=>match y with
  | .inl a=>enc s a
  | .inr b=>Qh7 (r::l) b
def Jue{R:Type}:(l:List Shp)→Qaz l→(St→Option R)→Option R
 | [],_,_=>none
 | [s],y,k=>k (enc s y)
 | s::r::l,y,k=>match y with
  | .inl a=>k (enc s a)
  | .inr b=>Jue (r::l) b k
theorem Qrd{R:Type}:∀(l:List Shp) (y:Qaz l) (k:St→Option R),Jue l y k=k (Qh7 l y)
 | [],y,_=>nomatch y
 | [_],_,_=>rfl
 | _::_::_,.inl _,_=>rfl
 | _::r::l,.inr b,k=>Qrd (r::l) b k
structure Con where
 f:FuncId
 Γ:Shp
 Δ:List Shp
 fn:Γ.De→Option (Qaz Δ)
 ro:List Nat
def Vs(Zs:List (Nat×Ob)):List Nat:=Zs.map Prod.fst
def wrM(ro:List Nat)(M:List (Nat×Ob)):List (Nat×Ob):=M.filter fun q=>!Yi ro q.1
def rdM(ro:List Nat)(M:List (Nat×Ob)):List (Nat×Ob):=M.filter fun q=>Yi ro q.1
def wrG(ro:List Nat)(M:List (Nat×SkO)):List (Nat×SkO):=M.filter fun q=>!Yi ro q.1
def rdG(ro:List Nat)(M:List (Nat×SkO)):List (Nat×SkO):=M.filter fun q=>Yi ro q.1
def roM(c:Con)(x:c.Γ.De):List (Nat×Ob):=rdM c.ro (enc c.Γ x).mem
def Qjy:Sk→AV→Bool
 | .d _,.d _ _=>true
 | .p _ _,.p _ _=>true
 | .s _,.s _=>true
 | .m _,.m _=>true
 | .ns,.ns=>true
 | .np,.np=>true
 | .nm,.nm=>true
 | .nf,.nf=>true
 | .z,.z=>true
 | .f _ c,.f _ x=>Qjy c x
 | .ag l,.ag y=>Qjy l y
 | .nil,.nil=>true
 | .cons a b,.cons x y=>Qjy a x&&Qjy b y
 | _,_=>false
def Jrb:SkO→Ob→Bool
 | .var _ c,.var _ x=>Qjy c x
 | .row _ _,.row _ _ _=>true
 | .map _ _,.map _ _ _=>true
 | _,_=>false
def Qw3(ri:List (Nat×Nat))(M:List (Nat×Ob)):List (Nat×SkO)→Bool
 | []=>true
 | (id,s)::l=>(match Jv ri id with
  | some c=>(match Qg M c with
   | some ob=>Jrb s ob
   | none=>false)
  | none=>false)&&Qw3 ri M l
def Wf(g:Nat→Nat):AV→AV
 | .p id path=>.p (g id) path
 | .e id path=>.e (g id) path
 | .s id=>.s (g id)
 | .m id=>.m (g id)
 | .b id=>.b (g id)
 | .w id j n=>.w (g id) j n
 | .f fn c=>.f fn (Wf g c)
 | .ag l=>.ag (Wf g l)
 | .tp l=>.tp (Wf g l)
 | .cons x r=>.cons (Wf g x) (Wf g r)
 | x=>x
def Qlr(g:Nat→Nat):Ob→Ob
 | .var tid c=>.var tid (Wf g c)
 | .mapC k c xs (some q)=>.mapC k c xs (some (q.1,g q.2))
 | .mapE k v xs key j=>.mapE k v xs key (g j)
 | o=>o
def Jo(ri:List (Nat×Nat))(d j:Nat):Nat:=match Jv ri j with
 | some c=>c
 | none=>10000+100*d+j
def Q31(S:XS):List Operand→Nat→Option (List En)
 | [],_=>some []
 | x::l,i=>match S.ev [] x,Q31 S l (i+1)with
  | some v,some r=>bif Nat.blt i 100000 then some (⟨i,[],v⟩::r)else none
  | _,_=>none
def Jjm:AV→Nat→Option (List En)
 | .nil,_=>some []
 | .cons x r,i=>match Jjm r (i+1)with
  | some l=>bif Nat.blt i 100000 then some (⟨i,[],x⟩::l)else none
  | none=>none
 | _,_=>none
def Qw4:List En→AV
 | []=>.nil
 | e::l=>.cons e.av (Qw4 l)
def Qa0(es:List En):AV:=match es with
 | [e]=>e.av
 | es=>.tp (Qw4 es)
def Yb(ri:List (Nat×Nat)):List (Nat×SkO)→List Nat
 | []=>[]
 | (id,_)::l=>match Jv ri id with
  | some c=>c::Yb ri l
  | none=>Yb ri l
def Qnu:List (Nat×SkO)→Bool
 | []=>true
 | (_,.tail _ _)::_=>false
 | (_,.mapC _ _)::_=>false
 | _::l=>Qnu l
def Hi(ks:List Nat):List Nat→Bool
 | []=>true
 | i::l=>Yi ks i&&Hi ks l
def Om:List Nat→Bool
 | []=>true
 | i::l=>!Yi l i&&Om l
def H5{α:Type}:Option α→Bool
 | some _=>true
 | none=>false
def Wn(g:Nat→Nat)(M:List (Nat×Ob)):List (Nat×Ob):=M.map fun q=>(g q.1,Qlr g q.2)
inductive Src where
 | t (n:Nat)
 | v (id:Nat) (path:List PS)
inductive Hn where
 | done
 | n (m:Nat) (r:Hn)
 | nl (m:Nat) (r:Hn)
 | md (mode:Nat) (r:Hn)
 | keep (ts:List Nat) (r:Hn)
 | fz (id:Nat) (r:Hn)
 | sp (t:Nat) (m:Nat) (ks ms:List Nat) (Γ:Shp) (a b r:Hn)
 | call (c:Nat) (r:Hn)
 | tl (h:Hn)
 | so (t:Nat) (a b:Hn)
 | op (src:Src) (id d:Nat) (r:Hn)
 | cl (id:Nat) (r:Hn)
 | fm (id:Nat) (r:Hn)
 | dt (id:Nat) (r:Hn)
 | si (t:Nat) (n:Int) (a b:Hn)
 | br (r:Hn)
structure HD where
 h:Hn
 tch:List Nat
 ro:List Nat
 bs:List Nat
 nm:List Nat
inductive HT where
 | tl (h:Hn)
 | op (h:HD) (r:HT)
 | so (t:Nat) (a b:HT)
def Jb5{ε σ τ:Type}(f:ε→σ→Option (σ⊕τ)):List ε→σ→Option (σ⊕τ)
 | [],s=>some (.inl s)
 | e::l,s=>match f e s with
  | some (.inl s')=>Jb5 f l s'
  | some (.inr x)=>some (.inr x)
  | none=>none
open Classical in
noncomputable def Jwp{ε σ τ:Type}(f:ε→σ→Option (σ⊕τ))(l:List ε)(s:σ):Option (σ⊕τ) :=
 if ∀ys:List ε,ys.Perm l→Jb5 f ys s=Jb5 f l s then Jb5 f l s else none
inductive An where
 | nil
 | reg (h:Hn)
 | two (a b:An)
 | un (a:An)
 | lp (ks ms:List Nat) (Γ:Shp) (exs:Exs) (a:An)
 | jn (ks ms:List Nat) (exs:Exs) (a:An)
 | dr (m:Nat) (h1 h2:Hn)
 | dc (m:Nat) (ds zs zf:List Nat) (ht:HT)
 | ch (t n:Nat) (a b:An)
 | cn (t:Nat) (a b:An)
 | gh (g:Hn) (a:An)
def Qjz(ops:List Oper)(o:Oper):Option (Option (Nat×Bool)):=match o.guard with
 | none=>some none
 | some (j,want)=>match ops[j]? with
  | some p=>match p.dst with
   | some t=>some (some (t,want))
   | none=>none
  | none=>none
def Zx(d:Nat):AV→Bool
 | .p id _=>!Nat.beq id d
 | .e id _=>!Nat.beq id d
 | .s id=>!Nat.beq id d
 | .m id=>!Nat.beq id d
 | .b id=>!Nat.beq id d
 | .w id _ _=>!Nat.beq id d
 | .f _ c=>Zx d c
 | .ag l=>Zx d l
 | .tp l=>Zx d l
 | .cons x r=>Zx d x&&Zx d r
 | _=>true
def J9(d:Nat):List (Nat×Ob)→Bool
 | []=>true
 | (k,.var _ c)::l=>!Nat.beq k d&&Zx d c&&J9 d l
 | (k,.mapC _ _ _ (some q))::l=>!Nat.beq k d&&!Nat.beq q.2 d&&J9 d l
 | (k,.mapE _ _ _ _ j)::l=>!Nat.beq k d&&!Nat.beq j d&&J9 d l
 | (k,_)::l=>!Nat.beq k d&&J9 d l
def Y3(d:Nat):List En→List En
 | []=>[]
 | e::l=>bif Zx d e.av then e::Y3 d l else Y3 d l
def Qfh(d:Nat):List En→Bool
 | []=>true
 | e::l=>!(Nat.beq e.t d||Qd4 d e.cs)&&Qfh d l
def Qls(d:Nat):List En→Bool
 | []=>true
 | e::l=>Zx d e.av&&Qls d l
def Jb6(ri:List (Nat×Nat))(d:Nat)(Γk:List Nat)(S:XS)(M:List (Nat×Ob)):List Nat→Bool
 | []=>true
 | j::l=>(bif H5 (Jv ri j)then Yi Γk j else
   J9 (Jo ri d j) M&&J9 (Jo ri d j) S.fixM&&Qls (Jo ri d j) S.fix&&Qls (Jo ri d j) S.env&&!Yi S.prot (Jo ri d j)&&!Yi Γk j)&&Jb6 ri d Γk S M l
def XS.put(S:XS)(d:Nat)(cs:Vr)(x:AV):XS:={ S with env:=⟨d,cs,x⟩::Yu S.env d }
def XS.born(S:XS)(d:Nat)(o:Ob):XS:={ S with env:=Y3 d S.env,mem:=(d,o)::S.mem }
def XS.set(S:XS)(id:Nat)(o:Ob):XS:={ S with mem:=Rk S.mem id o }
def noS(d:Nat):AV→Bool
 | .e id _=>!Nat.beq id d
 | .s id=>!Nat.beq id d
 | .f _ c=>noS d c
 | .ag l=>noS d l
 | .tp l=>noS d l
 | .cons x r=>noS d x&&noS d r
 | _=>true
def Jjn(d:Nat):List En→Bool
 | []=>true
 | e::l=>noS d e.av&&Jjn d l
def Qeu(d:Nat):List (Nat×Ob)→Bool
 | []=>true
 | (k,.var _ c)::l=>!Nat.beq k d&&noS d c&&Qeu d l
 | (k,.mapC _ _ _ (some q))::l=>!Nat.beq k d&&!Nat.beq q.2 d&&Qeu d l
 | (k,_)::l=>!Nat.beq k d&&Qeu d l
def XS.swap(S:XS)(id:Nat)(o:Ob):XS:={ S with mem:=(id,o)::J0 S.mem id }
def Qj0(S:XS)(id:Nat):Bool:=Jjn id S.env&&Jjn id S.fix&&Qeu id (J0 S.mem id)&&Qeu id S.fixM&&!Yi S.prot id
def Jyg(S:XS):Src→Option AV
 | .t n=>S.ev [] (.tmp n)
 | .v id path=>match Qg S.flat.mem id with
  | some (.var _ c)=>nav path c
  | _=>none
section
variable {R:Type} (Y:TX) (n:Nat)
def okW(S:XS)(d:Nat):Bool:=Nat.blt d n&&Nat.blt d 100000&&Qfh d S.fix
def okB(S:XS)(d:Nat):Bool:=J9 d S.mem&&J9 d S.fixM&&Qls d S.fix&&!Yi S.prot d
def asR(M:List (Nat×Ob))(xv:AV)(u:Ty):Option (List u.De):=match asD M xv (.sl u)with
 | some ys=>some ys
 | none=>match xv with
  | .s id=>match Qg M id with
   | some (.row _ t ys)=>Ty.cast (.sl t) (.sl u) ys
   | _=>none
  | _=>none
def Qj1(o:Oper)(S:XS)(k:XS→Option R):Option R :=
 match o.op,o.dst with
 | .alloc t,some d=>match Qi Y.T t,Jv Y.tys t with
  | some e,some ty=>match Oj ty e.z with
   | some c=>bif okW n S d&&okB S d&&c.isVal&&Zx d c then k ((S.born d (.var t c)).put d [] (.p d []))else none
   | none=>none
  | _,_=>none
 | .box t x,some d=>match S.ev [] x with
  | some c=>bif okW n S d&&okB S d&&c.isVal&&c.inMem&&Zx d c then k ((S.born d (.var t c)).put d [] (.p d []))else none
  | none=>none
 | .store t p x,none=>match Qi Y.T t,S.ev [] p,S.ev [] x with
  | some e,some (.p id path),some v=>match Qg S.mem id with
   | some (.var tid c)=>match Qp9 path c v with
    | some c'=>bif Nat.beq e.size v.size&&v.isVal&&v.inMem then k (S.set id (.var tid c'))else none
    | none=>none
   | _=>none
  | some e,some (.e id (.i j sz::ps)),some v=>match Qg S.mem id with
   | some (.row et u xs)=>(idx xs j).bind fun y=>match Qp9 ps (.d u y) v with
    | some c=>match asD S.flat.mem c u with
     | some z=>bif Nat.beq e.size v.size&&Nat.beq sz u.size&&Nat.ble 1 u.size&&v.isVal&&v.inMem then k (S.set id (.row et u (xs.set j.toNat z)))else none
     | none=>none
    | none=>none
   | _=>none
  | _,_,_=>none
 | .makeMap t rs,some d=>match Qi Y.T t with
  | some te=>match te.d with
   | .map kt et=>match Jv Y.tys kt,Jv Y.tys et with
    | some kk,some v=>bif okW n S d&&okB S d&&isNone rs then k ((S.born d (.map kk v [])).put d [] (.m d))else none
    | _,_=>none
   | _=>none
  | none=>none
 | .mapUpdate t m ky x,none=>match Qi Y.T t,S.ev [] m,S.ev [] ky,S.ev [] x with
  | some te,some (.m id),some kv,some xv=>match te.d,Qg S.mem id with
   | .map kt et,some (.map kk v xs)=>match Qi Y.T kt,asD [] kv kk,asD S.flat.mem xv v with
    | some tk,some key,some y=>bif Y2 Y.T kk tk.d&&(kk.agg==kv.isAgg)&&(v.agg==xv.isAgg)then k (S.set id (.map kk v (Jc key y xs)))else none
    | _,_,_=>none
   | _,_=>none
  | _,_,_,_=>none
 | .makeSlice t l c,some d=>match Qi Y.T t,S.ev [] l,S.ev [] c with
  | some te,some lv,some cv=>match Yx te.d,W9 lv,W9 cv with
   | some e,some (_,nl),some (_,nc)=>match Qi Y.T e,Jv Y.tys e with
    | some ee,some u=>match Oj u ee.z with
     | some za=>match asD [] za u with
      | some z=>bif okW n S d&&okB S d&&Nat.beq ee.size u.size&&Nat.beq (Qr ee.z).length ee.size&&Nat.ble 1 ee.bytes then
        (mkL ee.bytes nl nc z).bind fun zs=>k ((S.born d (.row e u zs)).put d [] (.s d))else none
      | none=>none
     | none=>none
    | _,_=>none
   | _,_,_=>none
  | _,_,_=>none
 | .buildSlice t len ⟨parts⟩,some d=>match Qi Y.T t with
  | some te=>match Yx te.d with
   | some e=>match Qi Y.T e,Jv Y.tys e with
    | some ee,some u=>bif okW n S d&&Nat.beq ee.size u.size then(match len,parts with
     | 0,[]=>bif okB S d then k ((S.born d (.row e u [])).put d [] (.s d))else none
     | 0,_=>none
     | m+1,ps=>match Vk S.flat [] ps with
      | some vs=>match asLs S.flat.mem u vs 0 with
       | some xs=>bif Nat.beq xs.length (m+1)&&Nat.ble ((m+1)*ee.size) 16777216&&Nat.ble 1 ee.size&&Nat.beq (Qr ee.z).length ee.size then k (S.put d [] (.d (.sl u) xs))else none
       | none=>none
      | none=>none)else none
    | _,_=>none
   | none=>none
  | none=>none
 | .call ⟨.builtin .append,⟨[s,x]⟩,⟨[t,t']⟩⟩,some d=>match Qi Y.T t,S.ev [] s,S.ev [] x with
  | some te,some sv,some xv=>match Yx te.d with
   | some e=>match Qi Y.T e with
    | some ee=>bif okW n S d&&Nat.beq t t'&&Nat.ble 1 ee.size&&Nat.ble 1 ee.bytes&&Nat.beq (Qr ee.z).length ee.size then(match sv with
     | .ns=>match Jv Y.tys e with
      | some u=>match asR S.flat.mem xv u with
       | some ys=>bif okB S d&&Nat.beq ee.size u.size then(app ee.bytes [] ys).bind fun zs=>k ((S.born d (.row e u zs)).put d [] (.s d))else none
       | none=>none
      | none=>none
     | .z=>match Jv Y.tys e with
      | some u=>match asR S.flat.mem xv u with
       | some ys=>bif okB S d&&Nat.beq ee.size u.size then(app ee.bytes [] ys).bind fun zs=>k ((S.born d (.row e u zs)).put d [] (.s d))else none
       | none=>none
      | none=>none
     | .s id=>match Qg S.mem id with
      | some (.row e' u xs)=>match asR S.flat.mem xv u with
       | some ys=>bif okB ⟨S.env,S.fix,J0 S.mem id,S.fixM,S.prot⟩ d&&Nat.beq ee.size u.size&&Nat.beq e e' then
         (app ee.bytes xs ys).bind fun zs=>k (({ S with mem:=J0 S.mem id }.born d (.row e u zs)).put d [] (.s d))else none
       | none=>none
      | some (.tail e' u xs)=>match asD S.flat.mem xv (.sl u)with
       | some ys=>bif okB ⟨S.env,S.fix,J0 S.mem id,S.fixM,S.prot⟩ d&&Nat.beq ee.size u.size&&Nat.beq e e' then
         (app ee.bytes xs ys).bind fun zs=>k (({ S with mem:=J0 S.mem id }.born d (.tail e u zs)).put d [] (.s d))else none
       | none=>none
      | _=>none
     | _=>none)else none
    | none=>none
   | none=>none
  | _,_,_=>none
 | op,some d=>bif okW n S d then Qlq Y S.flat [] op fun v=>k (S.put d [] v)else none
 | _,none=>none
def Juf:AV→Bool
 | .np=>true
 | .p _ _=>true
 | _=>false
def Jfr:List (Nat×AV)→Nat→Option AV
 | [],_=>some .nil
 | (i,v)::l,j=>bif Nat.beq i j&&Juf v then(match Jfr l (j+1)with
  | some r=>some (.cons v r)
  | none=>none)else none
def Ba{k:Ty}{ν:Type}(key:k.De):List (k.De×ν)→List (k.De×ν)
 | []=>[]
 | x::l=>bif eqK k key x.1 then l else x::Ba key l
def Ga{α:Type}(xs ys:List α):List α:=ys.take (Nat.min ys.length xs.length)++xs.drop (Nat.min ys.length xs.length)
def Qi3{α:Type}(xs ys:List α):Int:=(Nat.min ys.length xs.length:Nat)
def Jo9(o:Oper)(S:XS):Nat:=match o.op with
 | .call ⟨.builtin .append,⟨[_,x]⟩,_⟩=>match S.ev [] x with
  | some (.d .str _)=>1
  | _=>0
 | .convert _ t x=>match S.ev [] x with
  | some (.d .str _)=>match Qi Y.T t with
   | some te=>match Yx te.d with
    | some _=>2
    | none=>0
   | none=>0
  | _=>0
 | .store _ p _=>match S.ev [] p with
  | some (.p _ path)=>bif Jud path then 3 else 0
  | _=>0
 | .call ⟨.builtin .copy,_,_⟩=>4
 | .call ⟨.builtin .delete,_,_⟩=>5
 | .buildSlice t (_+1) _=>match Qi Y.T t with
  | some te=>match Yx te.d with
   | some e=>match Jv Y.tys e with
    | none=>7
    | some u=>bif Ty.beq u .ref then 7 else 0
   | none=>0
  | none=>0
 | .slice _ x none _ none=>match S.ev [] x with
  | some (.s id)=>match Qg S.mem id with
   | some (.row _ _ _)=>6
   | _=>0
  | _=>0
 | .slice _ x none (some _) (some _)=>match S.ev [] x with
  | some (.s id)=>match Qg S.mem id with
   | some (.row _ _ _)=>8
   | _=>0
  | _=>0
 | _=>0
def Jug:Value→Bool
 | .int .u8 0=>true
 | _=>false
def Juh:TypeDesc→Bool
 | .int .u8=>true
 | _=>false
def Q9g:TypeDesc→Bool
 | .string=>true
 | _=>false
def Yv(l:Str):List Int:=l.map fun b=>(b.toNat:Int)
def Qw5(o:Oper)(S:XS)(k:XS→Option R):Option R:=match o.op,o.dst with
 | .call ⟨.builtin .append,⟨[s,x]⟩,⟨[t,t']⟩⟩,some d=>match Qi Y.T t,Qi Y.T t',S.ev [] s,S.ev [] x with
  | some te,some te',some sv,some (.d .str l)=>match Yx te.d with
   | some e=>match Qi Y.T e with
    | some ee=>bif okW n S d&&Q9g te'.d&&Jug ee.z&&Nat.beq ee.size 1&&Nat.beq ee.bytes 1 then(match sv with
     | .ns=>bif okB S d then(app 1 [] (Yv l)).bind fun zs=>k ((S.born d (.row e (.int .u8) zs)).put d [] (.s d))else none
     | .s id=>match Qg S.mem id with
      | some (.row e' (.int .u8) xs)=>bif okB ⟨S.env,S.fix,J0 S.mem id,S.fixM,S.prot⟩ d&&Nat.beq e e' then
        (app 1 xs (Yv l)).bind fun zs=>k (({ S with mem:=J0 S.mem id }.born d (.row e (.int .u8) zs)).put d [] (.s d))else none
      | _=>none
     | _=>none)else none
    | none=>none
   | none=>none
  | _,_,_,_=>none
 | .convert s t x,some d=>match Qi Y.T s,Qi Y.T t,S.ev [] x with
  | some se,some te,some (.d .str l)=>match Yx te.d with
   | some e=>match Qi Y.T e with
    | some ee=>bif okW n S d&&okB S d&&Juh ee.d then(app 1 [] (Yv l)).bind fun zs=>k ((S.born d (.row e (.int .u8) zs)).put d [] (.s d))else none
    | none=>none
   | none=>none
  | _,_,_=>none
 | .store t p x,none=>match Qi Y.T t,S.ev [] p,S.ev [] x with
  | some e,some (.p id path),some v=>match Qg S.mem id with
   | some (.var tid c)=>Qqa S.flat.mem path c v fun c'=>bif Nat.beq e.size v.size&&v.isVal&&v.inMem then k (S.set id (.var tid c'))else none
   | _=>none
  | _,_,_=>none
 | .call ⟨.builtin .copy,⟨[dst,src]⟩,⟨[t,t']⟩⟩,some d=>match Qi Y.T t,S.ev [] dst,S.ev [] src with
  | some te,some (.s id),some xv=>match Yx te.d with
   | some e=>match Qi Y.T e,Qg S.mem id with
    | some ee,some (.row et u xs)=>match asD S.flat.mem xv (.sl u)with
     | some ys=>bif okW n S d&&Nat.beq ee.size u.size&&Nat.ble 1 u.size then k ((S.set id (.row et u (Ga xs ys))).put d [] (.d (.int .i64) (Qi3 xs ys)))else none
     | none=>none
    | _,_=>none
   | none=>none
  | _,_,_=>none
 | .call ⟨.builtin .delete,⟨[m,ky]⟩,⟨[t,t']⟩⟩,none=>match Qi Y.T t,S.ev [] m,S.ev [] ky with
  | some te,some (.m id),some kv=>match te.d,Qg S.mem id with
   | .map kt et,some (.map kk v xs)=>match Qi Y.T kt,asD [] kv kk with
    | some tk,some key=>bif Y2 Y.T kk tk.d&&(kk.agg==kv.isAgg)then k (S.set id (.map kk v (Ba key xs)))else none
    | _,_=>none
   | _,_=>none
  | _,_,_=>none
 | .buildSlice t (m+1) ⟨ps⟩,some d=>match Qi Y.T t with
  | some te=>match Yx te.d with
   | some e=>match Qi Y.T e,Vk S.flat [] ps with
    | some ee,some vs=>match Jfr vs 0 with
     | some c=>bif okW n S d&&okB S d&&Zx d c&&Nat.beq vs.length (m+1)&&Nat.beq ee.size 1&&Nat.beq (Qr ee.z).length 1&&Nat.ble (m+1) 16777216 then k ((S.born d (.var e (.ag c))).put d [] (.w d 0 ((m+1:Nat):Int)))else none
     | none=>none
    | _,_=>none
   | none=>none
  | none=>none
 | .slice t x none hi none,some d=>match Qi Y.T t,S.ev [] x with
  | some te,some (.s id)=>match Yx te.d,Qg S.mem id with
   | some e,some (.row e' u xs)=>match Qi Y.T e,bnd S.flat [] xs.length hi with
    | some ee,some q=>bif okW n S d&&okB ⟨S.env,S.fix,J0 S.mem id,S.fixM,S.prot⟩ d&&Nat.beq ee.size u.size&&Nat.beq e e' then
      (slc xs 0 q).bind fun ys=>k (({ S with mem:=J0 S.mem id }.born d (.row e u ys)).put d [] (.s d))else none
    | _,_=>none
   | _,_=>none
  | _,_=>none
 | .slice t x none (some hi) (some mx),some d=>match Qi Y.T t,S.ev [] x,S.ev [] hi,S.ev [] mx with
  | some te,some (.s id),some hv,some mv=>match Yx te.d,Qg S.mem id,W9 hv,W9 mv with
   | some e,some (.row e' u xs),some (_,q),some (_,m)=>match Qi Y.T e with
    | some ee=>bif okW n S d&&okB ⟨S.env,S.fix,J0 S.mem id,S.fixM,S.prot⟩ d&&Nat.beq ee.size u.size&&Nat.beq e e' then
      (chk (decide (q≤m)&&decide (m≤(xs.length:Int)))).bind fun _=>(slc xs 0 q).bind fun ys=>k (({ S with mem:=J0 S.mem id }.born d (.row e u ys)).put d [] (.s d))else none
    | _=>none
   | _,_,_,_=>none
  | _,_,_,_=>none
 | _,_=>none
def Qpc(o:Oper)(S:XS)(k:XS→Option R):Option R:=match Jo9 Y o S with
 | 0=>Qj1 Y n o S k
 | _+1=>Qw5 Y n o S k
def Qso:Value→Bool
 | .map none=>true
 | _=>false
def Qz0:Value→Bool
 | .slice none 0 0=>true
 | _=>false
def Q9h:CK→Value→Bool
 | .sl _ _,v=>Qz0 v
 | .mp _ _,v=>Qso v
def Jyh(Y:TX)(et:TypeId):Option CK:=match Qi Y.T et with
 | some te=>match te.d with
  | .slice e=>match Jv Y.tys e with
   | some u=>some (.sl e u)
   | none=>none
  | .map k v=>match Jv Y.tys k,Jv Y.tys v with
   | some k,some v=>some (.mp k v)
   | _,_=>none
  | _=>none
 | none=>none
def Jrc:CK→Option Ob→Option (Σ t:Ty,t.De)
 | .sl e _,some (.row e' u' ys)=>bif Nat.beq e e' then some ⟨.sl u',ys⟩else none
 | .mp _ _,some (.map k' v' ys)=>some ⟨.sl (.pr k' v'),ys⟩
 | _,_=>none
def Qpd(c:CK)(o:Option Ob):Option c.ty.De:=match Jrc c o with
 | some v=>Ty.cast v.1 c.ty v.2
 | none=>none
def obC:(c:CK)→c.ty.De→Ob
 | .sl e u,ys=>.row e u ys
 | .mp k v,ys=>.map k v ys
def avC:CK→Nat→AV
 | .sl _ _,id=>.s id
 | .mp _ _,id=>.m id
def idC:CK→AV→Option Nat
 | .sl _ _,.s id=>some id
 | .mp _ _,.m id=>some id
 | _,_=>none
def Jpa(S:XS)(id:Nat)(kk:Ty)(c:CK)(xs:List (kk.De×c.ty.De))(hole:Option (kk.De×Nat))(key:kk.De)(xv:AV)(k:XS→Option R):Option R:=match idC c xv with
 | some h1=>match Qpd c (Qg S.mem h1)with
  | some ys=>bif Qj0 { S with mem:=J0 S.mem h1 } id&&!Nat.beq h1 id then(chk (match hole,c with
    | some q,.sl _ _=>eqK kk key q.1
    | none,.mp _ _=>true
    | _,_=>false)).bind fun _=>k (XS.swap { S with mem:=J0 S.mem h1 } id (.mapC kk c (Jc key ys xs) none))else none
  | none=>none
 | none=>none
def Q9i(M:List (Nat×Ob))(kk:Ty)(c:CK)(xs:List (kk.De×c.ty.De))(hole:Option (kk.De×Nat))(key:kk.De)(k:AV→Option R):Option R:=match hole,c with
 | some q,c=>bif H5 (Qpd c (Qg M q.2))then(chk (eqK kk key q.1)).bind fun _=>k (avC c q.2)else none
 | none,.mp _ _=>(chk (isNone (Qj key xs))).bind fun _=>k .nm
 | none,.sl _ _=>none
def Jrd(S:XS)(id d:Nat)(kk:Ty)(key:kk.De)(k:XS→Option R):(c:CK)→List (kk.De×c.ty.De)→Option R
 | .sl e u,xs=>k ((S.swap id (.mapC kk (.sl e u) xs (some (key,d)))).born d (.row e u ((Qj key xs).getD [])))
 | .mp k2 v2,xs=>match Qj key xs with
  | some ys=>k ((S.swap id (.mapC kk (.mp k2 v2) xs (some (key,d)))).born d (.map k2 v2 ys))
  | none=>k S
def Jyi:CK→Bool
 | .sl _ _=>false
 | .mp _ _=>true
def Qsp(S:XS)(id:Nat)(k:XS→Option R):Option R:=match Qg S.mem id with
 | some (.mapC kk c xs (some q))=>match Qpd c (Qg S.mem q.2)with
  | some ys=>bif Qj0 { S with mem:=J0 S.mem q.2 } id&&Qci kk&&Jyi c then k (XS.swap { S with mem:=J0 S.mem q.2 } id (.mapC kk c (Jc q.1 ys xs) none))else none
  | none=>none
 | some (.mapC _ _ _ none)=>k S
 | _=>none
def Q32(S:XS)(id:Nat)(k:XS→Option R):Option R:=match Qg S.mem id with
 | some (.mapC kk (.sl _ u) xs none)=>k (S.swap id (.map kk (.sl u) xs))
 | _=>none
def Q33(S:XS)(src:Src)(id d:Nat)(k:XS→Option R):Option R:=match Qg S.mem id with
 | some (.mapC kk c xs none)=>match Jyg S src with
  | some av=>match asD S.flat.mem av kk with
   | some key=>bif Qci kk&&Qj0 S id&&okB S d then Jrd S id d kk key k c xs else none
   | none=>none
  | none=>none
 | _=>none
def Qi4(o:Oper)(S:XS)(k:XS→Option R):Option R:=match o.op,o.dst with
 | .buildSlice t (m+1) ⟨ps⟩,some d=>match Qi Y.T t with
  | some te=>match Yx te.d with
   | some e=>match Qi Y.T e,Jv Y.tys e,Vk S.flat [] ps with
    | some ee,some u,some vs=>match asLs S.flat.mem u vs 0 with
     | some xs=>bif okW n S d&&okB S d&&Nat.beq ee.size u.size&&Nat.beq xs.length (m+1)&&Nat.ble ((m+1)*ee.size) 16777216&&Nat.ble 1 ee.size&&Nat.beq (Qr ee.z).length ee.size then k ((S.born d (.row e u xs)).put d [] (.s d))else none
     | none=>none
    | _,_,_=>none
   | none=>none
  | none=>none
 | .makeMap t rs,some d=>match Qi Y.T t with
  | some te=>match te.d with
   | .map kt et=>match Jv Y.tys kt,Jyh Y et with
    | some kk,some c=>bif okW n S d&&okB S d&&isNone rs then k ((S.born d (.mapC kk c [] none)).put d [] (.m d))else none
    | _,_=>none
   | _=>none
  | none=>none
 | .mapUpdate t m ky x,none=>match Qi Y.T t,S.ev [] m,S.ev [] ky,S.ev [] x with
  | some te,some (.m id),some kv,some xv=>match te.d,Qg S.mem id with
   | .map kt _,some (.mapC kk c xs hole)=>match Qi Y.T kt,asD [] kv kk with
    | some tk,some key=>bif Y2 Y.T kk tk.d&&(kk.agg==kv.isAgg)then Jpa S id kk c xs hole key xv k else none
    | _,_=>none
   | _,_=>none
  | _,_,_,_=>none
 | .mapEntry t m ky,some d=>match Qi Y.T t,S.ev [] m,S.ev [] ky with
  | some te,some (.m id),some kv=>match te.d,Qg S.mem id with
   | .map kt et,some (.map kk v xs)=>match Qi Y.T kt,Qi Y.T et,asD [] kv kk with
    | some tk,some tz,some key=>match Oj v tz.z with
     | some za=>match asD [] za v with
      | some z=>bif okW n S d&&okB S d&&Y2 Y.T kk tk.d&&(kk.agg==kv.isAgg)&&(v.agg==Qjw tz.z)then
        k ((XS.mk (Y3 d S.env) S.fix (Rk S.mem id (.mapE kk v (Jc key ((Qj key xs).getD z) xs) key d)) S.fixM S.prot).put d [] (.tp (.cons (.d v ((Qj key xs).getD z)) (.cons (.b d) .nil))))else none
      | none=>none
     | none=>none
    | _,_,_=>none
   | _,_=>none
  | _,_,_=>none
 | .entryStore t m st x,none=>match S.ev [] m,S.ev [] st,S.ev [] x with
  | some (.m id),some (.b j),some xv=>match Qg S.mem id with
   | some (.mapE kk v xs key j')=>match Qi Y.T t with
    | some te=>match te.d with
     | .map kt et=>match Qi Y.T kt,asD S.flat.mem xv v with
      | some tk,some y=>bif Nat.beq j j'&&Y2 Y.T kk tk.d&&(v.agg==xv.isAgg)then k (S.set id (.map kk v (Jc key y xs)))else none
      | _,_=>none
     | _=>none
    | none=>none
   | _=>none
  | _,_,_=>none
 | .lookup t m ky false,some d=>match Qi Y.T t,S.ev [] ky with
  | some te,some kv=>match te.d with
   | .map kt et=>match Qi Y.T kt,Qi Y.T et,S.ev [] m with
    | some tk,some tz,some (.m id)=>match Qg S.flat.mem id with
     | some (.mapC kk c xs hole)=>match asD [] kv kk with
      | some key=>bif okW n S d&&Y2 Y.T kk tk.d&&(kk.agg==kv.isAgg)&&Q9h c tz.z then Q9i S.flat.mem kk c xs hole key fun v=>k (S.put d [] v)else none
      | none=>none
     | _=>Qj1 Y n o S k
    | some tk,some tz,some .nm=>match Jv Y.tys kt,Jv Y.tys et with
     | some kk,some v=>match asD [] kv kk,Oj v tz.z with
      | some key,some za=>match asD [] za v with
       | some z=>bif okW n S d&&Y2 Y.T kk tk.d&&(kk.agg==kv.isAgg)&&(v.agg==Qjw tz.z)then k (S.put d [] (.d v z))else none
       | none=>none
      | _,_=>none
     | _,_=>none
    | _,_,_=>none
   | _=>none
  | _,_=>none
 | _,_=>none
def Kw(c:Con)(o:Oper)(S:XS)(k:XS→Option R):Option R :=
 match o.op,o.dst with
 | .call ⟨.value x,⟨xs⟩,_⟩,some d=>match S.ev [] x with
  | some (.f f caps)=>bif Nat.beq c.f f&&okW n S d then(match Q31 S xs 0,Jjm caps xs.length with
   | some es0,some cs=>callE c d S (es0++cs) (Jra c.Γ ⟨es0++cs,S.mem++S.fixM⟩) k
   | _,_=>none)else none
  | _=>none
 | _,_=>none
where
 callE (c:Con) (d:Nat) (S:XS) (es:List En) (ri:List (Nat×Nat)) (k:XS→Option R):Option R :=
  match Jo8 c.Γ ri [] es (frz c.Γ ri es S.mem++S.fixM) []with
  | some x=>bif Qnu c.Γ.mem&&Nat.beq es.length c.Γ.env.length&&Hi (Vs S.mem) (Yb ri (wrG c.ro c.Γ.mem))&&Qw3 ri (frz c.Γ ri es S.mem++S.fixM) (rdG c.ro c.Γ.mem)then
   (c.fn x).bind fun y=>Jue c.Δ y fun S1=>callR c d S ri (Jt (frz c.Γ ri es S.mem) (Yb ri (wrG c.ro c.Γ.mem))).1 S1 (roM c x) k else none
  | none=>none
 callR (c:Con) (d:Nat) (S:XS) (ri:List (Nat×Nat)) (M:List (Nat×Ob)) (S1:St) (RO:List (Nat×Ob)) (k:XS→Option R):Option R :=
  bif Jb6 ri d (c.Γ.mem.map Prod.fst) S M (S1.mem.map Prod.fst)&&Om ((S1.mem++RO).map fun q=>Jo ri d q.1)&&Hi ((S1.mem++RO).map Prod.fst) (Tf S1.env)&&Hi ((S1.mem++RO).map Prod.fst) (Je (S1.mem++RO))then
   k (XS.put ⟨S.env,S.fix,Wn (Jo ri d) S1.mem++M,S.fixM,S.prot⟩ d [] (Wf (Jo ri d) (Qa0 S1.env)))else none
def Qlt(t:Nat)(want:Bool)(o:Oper)(S:XS)(k:XS→Option R):Option R :=
 match Xq S.flat.env t,o.dst with
 | some ⟨_,cs,.d .bool _⟩,some d=>bif okW n S d&&!Nat.beq t d&&!Qd4 d cs then(match Qln Y S.flat ((t,want)::cs) o.op with
   | some v=>k (S.put d ((t,want)::cs) v)
   | none=>none)else none
 | _,_=>none
def Qlu(ops:List Oper)(o:Oper)(S:XS)(k:XS→Option R):Option R:=match Qjz ops o with
 | some none=>Qpc Y n o S k
 | some (some (t,want))=>Qlt Y n t want o S k
 | none=>none
def Qfi(o:Oper)(S:XS)(k:XS→Option R):Option R:=match o.dst with
 | some d=>bif okW n S d then k (S.put d [] (.tp .nil))else none
 | none=>k S
def stepL(ops:List Oper)(o:Oper)(S:XS)(k:XS→Option R):Option R:=match Qjz ops o with
 | some none=>Qpc Y n o S k
 | some (some (t,want))=>match Xq S.flat.env t with
  | some ⟨_,[],.d .bool b⟩=>match b==want with
   | true=>Qpc Y n o S k
   | false=>Qfi n o S k
  | some ⟨_,[],.tp .nil⟩=>Qfi n o S k
  | _=>none
 | none=>none
def Qqb(st:Oper→XS→(XS→Option R)→Option R):List Oper→XS→(XS→Option R)→Option R
 | [],S,k=>k S
 | o::l,S,k=>st o S fun S'=>Qqb st l S' k
end
def Y7(Y:TX)(K:List Con)(n:Nat)(ops:List Oper){R:Type}:Hn→List Oper→XS→(XS→Option R)→Option R
 | .done,l,S,k=>match l with
  | []=>k S
  | _::_=>none
 | .n m r,l,S,k=>Qqb (Qlu Y n ops) (l.take m) S fun S'=>Y7 Y K n ops r (l.drop m) S' k
 | .nl m r,l,S,k=>Qqb (stepL Y n ops) (l.take m) S fun S'=>Y7 Y K n ops r (l.drop m) S' k
 | .call c r,l,S,k=>match K[c]?,l with
  | some con,o::l'=>match Qjz ops o with
   | some none=>Kw n con o S fun S'=>Y7 Y K n ops r l' S' k
   | some (some (t,want))=>match Xq S.flat.env t with
    | some ⟨_,[],.d .bool b⟩=>match b==want with
     | true=>Kw n con o S fun S'=>Y7 Y K n ops r l' S' k
     | false=>none
    | _=>none
   | none=>none
  | _,_=>none
 | .br r,l,S,k=>match l with
  | o::l'=>match Qjz ops o with
   | some none=>Qi4 Y n o S fun S'=>Y7 Y K n ops r l' S' k
   | some (some (t,want))=>match Xq S.flat.env t with
    | some ⟨_,[],.d .bool b⟩=>match b==want with
     | true=>Qi4 Y n o S fun S'=>Y7 Y K n ops r l' S' k
     | false=>none
    | _=>none
   | none=>none
  | []=>none
 | .fz id r,l,S,k=>Y7 Y K n ops r l { S with mem:=Vh [id] S.mem } k
 | .keep ts r,l,S,k=>Y7 Y K n ops r l { S with env:=Qv0 S.env ts } k
 | .si t i a b,l,S,k=>match Xq S.env t with
  | some ⟨_,[],.d (.int kd) v⟩=>bif Qfh t S.fix then(if v=i then Y7 Y K n ops a l (S.put t [] (.d (.int kd) i)) k else Y7 Y K n ops b l S k)else none
  | _=>none
 | .op src id d r,l,S,k=>Q33 S src id d fun S'=>Y7 Y K n ops r l S' k
 | .cl id r,l,S,k=>Qsp S id fun S'=>Y7 Y K n ops r l S' k
 | .fm id r,l,S,k=>Q32 S id fun S'=>Y7 Y K n ops r l S' k
 | .sp t m ks ms Γ a b r,l,S,k=>match Xq S.env t with
  | some ⟨_,[],.d .bool v⟩=>bif Qfh t S.fix then
    (if v=true then Y7 Y K n ops (R:=Γ.De) a (l.take m) ((XS.put S t [] (.d .bool true)).ent ks ms) (fun S'=>S'.dec Γ)
     else Y7 Y K n ops (R:=Γ.De) b (l.take m) ((XS.put S t [] (.d .bool false)).ent ks ms) (fun S'=>S'.dec Γ)).bind
     fun y=>Y7 Y K n ops r (l.drop m) (XS.out (XS.put S t [] (.d .bool v)) ks ms (enc Γ y)) k else none
  | _=>none
 | _,_,_,_=>none
section
variable {R:Type} (Y:TX) (n:Nat)
def Q34(o:Oper)(S:XS)(k:XS→Option R):Option R:=match o.dst with
 | some d=>bif okW n S d then Qlq Y S.flat [] o.op fun v=>k (S.put d [] v)else none
 | none=>none
def Qz1(ops:List Oper)(o:Oper)(S:XS)(k:XS→Option R):Option R:=match Qjz ops o with
 | some none=>Q34 Y n o S k
 | some (some (t,want))=>Qlt Y n t want o S k
 | none=>none
def Qz2(ops:List Oper)(o:Oper)(S:XS)(k:XS→Option R):Option R:=match Qjz ops o with
 | some none=>Q34 Y n o S k
 | some (some (t,want))=>match Xq S.flat.env t with
  | some ⟨_,[],.d .bool b⟩=>match b==want with
   | true=>Q34 Y n o S k
   | false=>Qfi n o S k
  | some ⟨_,[],.tp .nil⟩=>Qfi n o S k
  | _=>none
 | none=>none
end
def On(Y:TX)(n:Nat)(ops:List Oper){R:Type}:Hn→List Oper→XS→(XS→Option R)→Option R
 | .done,l,S,k=>match l with
  | []=>k S
  | _::_=>none
 | .n m r,l,S,k=>Qqb (Qz1 Y n ops) (l.take m) S fun S'=>On Y n ops r (l.drop m) S' k
 | .nl m r,l,S,k=>Qqb (Qz2 Y n ops) (l.take m) S fun S'=>On Y n ops r (l.drop m) S' k
 | .sp t m ks ms Γ a b r,l,S,k=>match Xq S.env t with
  | some ⟨_,[],.d .bool v⟩=>bif Qfh t S.fix then
    (if v=true then On Y n ops (R:=Γ.De) a (l.take m) ((XS.put S t [] (.d .bool true)).ent ks ms) (fun S'=>S'.dec Γ)
     else On Y n ops (R:=Γ.De) b (l.take m) ((XS.put S t [] (.d .bool false)).ent ks ms) (fun S'=>S'.dec Γ)).bind
     fun y=>On Y n ops r (l.drop m) (XS.out (XS.put S t [] (.d .bool v)) ks ms (enc Γ y)) k else none
  | _=>none
 | _,_,_,_=>none
def Q9j(o:Oper):List Nat:=o.op.operands.toList.filterMap fun x=>match x with
 | .tmp t=>some t
 | _=>none
def Q9k:List En→List En
 | []=>[]
 | e::l=>bif Nat.blt e.t 100000 then Q9k l else(match e.cs with
  | []=>e::Q9k l
  | _::_=>Q9k l)
def Jjo{α:Type}:List α→Bool
 | []=>true
 | _=>false
def Hd:Nat→Bool:=fun _=>true
def Qpe(env:List En):List Nat→List En
 | []=>env
 | d::ds=>Qpe (Yu (Y3 d env) d) ds
def Jui(l:List Oper)(p:Nat):Bool:=(List.range l.length).all fun k=>Nat.blt k p||(List.range k).all fun i=>Bd l l.length k i
def Jb7(l:List Oper)(p:Nat)(ds:List Nat):Bool:=Nat.ble p l.length&&Nat.beq ds.length p&&backB l&&Jui l p&&Qzm ds
def Jjp(l:List Oper)(n:Nat):Bool:=bif Nat.blt n l.length then Region.lexTailB .any l.toArray n else Nat.beq n l.length&&Region.lexB .any l.toArray
def Wo:List (Nat×Ob)→Bool
 | []=>true
 | (_,.tail _ _ _)::_=>false
 | _::l=>Wo l
structure EC where
 d:Nat
 av:AV
 has:Bool
 ups:List (Nat×Option Ob)
def Qpf:List (Nat×Option Ob)→Nat→Option (Option Ob)
 | [],_=>none
 | (k,x)::l,id=>bif Nat.beq k id then some x else Qpf l id
def upC(id:Nat)(e:EC)(c:Option Ob):Option Ob:=match Qpf e.ups id with
 | some x=>x
 | none=>c
def Y0(E:Nat→Bool)(id:Nat):List EC→Nat→Option Ob→Option Ob
 | [],_,c=>c
 | e::l,j,c=>Y0 E id l (j+1) (bif E j then upC id e c else c)
def Km(id:Nat)(e:EC):Bool:=H5 (Qpf e.ups id)
def L1(E:Nat→Bool):List EC→Nat→List En
 | [],_=>[]
 | e::l,j=>bif E j&&e.has then⟨e.d,[],e.av⟩::L1 E l (j+1)else L1 E l (j+1)
def Kx(id:Nat):Option Ob→Option (Nat×Ob)
 | some ob=>some (id,ob)
 | none=>none
def Bk(names:List Nat)(Zs:List (Nat×Ob))(acc:List EC)(E:Nat→Bool):List (Nat×Ob):=names.filterMap fun id=>Kx id (Y0 E id acc 0 (Qg Zs id))
def HD.wr(h:HD):List Nat:=h.tch++h.bs
def HD.al(h:HD):List Nat:=h.tch++h.ro++h.bs
def Qlv:List EC→Nat→Option AV
 | [],_=>none
 | g::l,t=>bif Nat.beq g.d t&&g.has then some g.av else Qlv l t
def Qsq(l0:List Oper)(ds:List Nat)(i:Nat)(acc:List EC)(B:List En):List Nat→List En
 | []=>Q9k B
 | t::ts=>match Qlv acc t with
  | some v=>bif Jbq l0 i (ds.idxOf t)then⟨t,[],v⟩::Qsq l0 ds i acc B ts else Qsq l0 ds i acc B ts
  | none=>bif Qo5 ds t then(match Xq B t with
   | some ⟨t',[],v⟩=>⟨t',[],v⟩::Qsq l0 ds i acc B ts
   | _=>Qsq l0 ds i acc B ts)else Qsq l0 ds i acc B ts
def gTs(l0:List Oper)(o:Oper):List Nat:=match Qjz l0 o with
 | some (some (t,_))=>[t]
 | _=>[]
def Qd6(l m:List Nat):Bool:=l.all fun x=>!Yi m x
def Qlw(l0:List Oper)(i j:Nat)(hi hj:HD):Bool:=((Qd6 hj.wr hi.al&&Qd6 hj.ro hi.wr)||Bd l0 l0.length i j)&&Qd6 hi.bs hj.wr
def Jwq(l0:List Oper)(hs:List HD):Bool:=(List.range hs.length).all fun i=>(List.range i).all fun j=>match hs[i]?,hs[j]? with
 | some hi,some hj=>Qlw l0 i j hi hj
 | _,_=>true
def nmB(l0:List Oper)(hs:List HD):Bool:=(List.range hs.length).all fun i=>(List.range hs.length).all fun j=>Nat.beq i j||(match hs[i]?,hs[j]? with
 | some hi,some hj=>Qd6 hi.bs hj.nm||Bd l0 l0.length j i
 | _,_=>true)
def Xr:List HD→List Nat
 | []=>[]
 | h::l=>h.bs++Xr l
def Dl:HT→List Nat
 | .tl _=>[]
 | .op h r=>h.bs++Dl r
 | .so _ a b=>Dl a++Dl b
def Qlx(l m:List Nat):List Nat:=l.filter fun x=>!Yi m x
def Qi5(ids:List Nat)(Zs:List (Nat×Ob))(acc:List EC):List (Nat×Ob):=ids.filterMap fun id=>Kx id (Y0 Hd id acc 0 (Qg Zs id))
def Q35:List EC→Nat→Bool→List EC
 | [],_,_=>[]
 | g::l,t,b=>bif Nat.beq g.d t&&g.has then⟨g.d,.d .bool b,g.has,g.ups⟩::l else g::Q35 l t b
def Tg(M:List (Nat×Ob)):AV→AV
 | .s id=>match Qg M id with
  | some (.tail _ t xs)=>.d (.sl t) xs
  | _=>.s id
 | .ag l=>.ag (Tg M l)
 | .cons x r=>.cons (Tg M x) (Tg M r)
 | x=>x
def Qz3(M:List (Nat×Ob)):List Nat→Bool
 | []=>false
 | id::l=>match Qg M id with
  | some (.tail _ _ _)=>true
  | _=>Qz3 M l
def Jfs(M:List (Nat×Ob)):List En→List En
 | []=>[]
 | e::l=>bif Qz3 M (Qw2 e.av)then⟨e.t,e.cs,Tg M e.av⟩::Jfs M l else Jfs M l
section
variable {R:Type} (Y:TX) (K:List Con) (n:Nat) (l0:List Oper) (ds:List Nat) (Zs:List (Nat×Ob)) (B:List En) (prA:List Nat)
def Qsr(hc:HD)(o:Oper)(i:Nat)(acc:List EC):XS:=⟨Qsq l0 ds i acc B (Q9j o++gTs l0 o),[],Qi5 hc.tch Zs acc,Qi5 hc.ro Zs acc,Qlx prA hc.bs⟩
def Qj2(hc:HD)(o:Oper)(i:Nat)(acc:List EC)(S1:XS):Option EC :=
 bif Wo (Qi5 hc.tch Zs acc++Qi5 hc.ro Zs acc)&&Hi hc.nm (Je S1.mem)then(match o.dst with
  | some d=>match Xq S1.env d with
   | some ⟨_,[],av⟩=>bif Nat.beq (ds.getD i 0) d&&Hi hc.nm (Jd av)&&Nat.blt d n then some ⟨d,av,true,(hc.tch++hc.bs).map fun id=>(id,Qg S1.mem id)⟩else none
   | _=>none
  | none=>bif Nat.beq (ds.getD i 0) (1000000000+i)then some ⟨1000000000+i,.tp .nil,false,(hc.tch++hc.bs).map fun id=>(id,Qg S1.mem id)⟩else none)else none
def Qss:HT→List Oper→Nat→List HD→List EC→(Hn→List HD→List EC→Option R)→Option R
 | .tl h,l,_,hs,acc,k=>match l with
  | []=>k h hs acc
  | _::_=>none
 | .op hc r,l,i,hs,acc,k=>match l with
  | o::l'=>Y7 Y K n l0 hc.h [o] (Qsr l0 ds Zs B prA hc o i acc) fun S1=>match Qj2 n ds Zs hc o i acc S1 with
   | some g=>Qss r l' (i+1) (hs++[hc]) (acc++[g]) k
   | none=>none
  | []=>none
 | .so t a b,l,i,hs,acc,k=>match Qlv acc t with
  | some (.d .bool v)=>if v=true then Qss a l i hs (Q35 acc t true) k else Qss b l i hs (Q35 acc t false) k
  | _=>none
end
def Jpb(l0:List Oper)(ks:List Nat)(prB prA:List Nat)(hs:List HD):Bool:=Jwq l0 hs&&nmB l0 hs&&Om (ks++Xr hs)&&Qd6 prB (Xr hs)&&Hi prA (ks++Xr hs) &&
 hs.all fun hc=>Om hc.al&&Hi (ks++Xr hs) hc.al&&Hi prA hc.nm
def kfC(zf:List Nat)(hs:List HD):Bool:=hs.all fun hc=>Qd6 hc.wr zf
def Jyj(S:XS)(ds:List Nat)(Z1 Z2 M1:List (Nat×Ob))(bsA:List Nat)(hs:List HD)(acc:List EC):XS:=⟨L1 Hd acc 0++Qpe S.env (ds++bsA),S.fix,Bk (Vs Z1++Xr hs) (Z1++Z2) acc Hd++M1,S.fixM,S.prot⟩
def Th{R:Type}:Hn→XS→(XS→Option R)→Option R
 | .done,S,k=>k S
 | .fz id r,S,k=>Th r { S with mem:=Vh [id] S.mem } k
 | .op src id d r,S,k=>Q33 S src id d fun S'=>Th r S' k
 | .cl id r,S,k=>Qsp S id fun S'=>Th r S' k
 | .fm id r,S,k=>Q32 S id fun S'=>Th r S' k
 | .dt id r,S,k=>match Qg S.mem id with
  | some (.var tid c)=>Th r (S.set id (.var tid (Tg S.flat.mem c))) k
  | _=>none
 | _,_,_=>none
def Jjq(S:XS)(t i:Nat):Bool:=match Xq S.env t with
 | some ⟨_,[],.d (.int _) v⟩=>match Jfm v with
  | some j=>Nat.beq j i
  | none=>false
 | _=>false
def Jb8:AV→Bool
 | .nm=>true
 | .np=>true
 | .tp l=>Jb8 l
 | .cons x r=>Jb8 x||Jb8 r
 | _=>false
def Jjr(S:XS)(t:Nat):Bool:=match Xq S.env t with
 | some e=>Jb8 e.av
 | none=>false
def dcR(Y:TX)(K:List Con)(n:Nat){R:Type}(ops:List Oper)(p:Nat)(ds:List Nat)(Z1 Z2 M1 F1:List (Nat×Ob))(ht:HT)(S:XS)(B:List En)(prB:List Nat)(k:Hn→XS→Option R):Option R :=
 Qss Y K n ops ds (Z1++Z2) (Jfs (M1++F1) B++B) (prB++Vs (Z1++Z2)++Dl ht) ht (ops.take p) 0 [] [] fun h hs acc =>
  bif Jpb ops (Vs (Z1++Z2)) prB (prB++Vs (Z1++Z2)++Dl ht) hs&&kfC (Vs Z2) hs then k h (Jyj S ds Z1 Z2 M1 (Dl ht) hs acc)else none
def dcI(Y:TX)(K:List Con)(n:Nat){R:Type}(ops:List Oper)(p:Nat)(ds:List Nat)(Z1 Z2 M1 F1:List (Nat×Ob))(ht:HT)(S:XS)(B:List En)(k:Hn→XS→Option R):Option R :=
 dcR Y K n ops p ds Z1 Z2 M1 F1 ht S B (Tf B++Je ((Z1++Z2)++(M1++F1))++S.prot) k
noncomputable def Ut(Y:TX)(K:List Con)(n N:Nat){R:Type}:An→Code→XS→(Ex→XS→Option R)→Option R
 | .nil,.skip,S,k=>k .n S
 | .nil,.ret,S,k=>k .r S
 | .nil,.exit id,S,k=>k (.x id) S
 | .nil,.label _,S,k=>k .n S
 | .reg h,.region _ ⟨ops⟩ false,S,k=>Y7 Y K n ops h ops S (k .n)
 | .dr m h1 h2,.region _ ⟨ops⟩ true,S,k=>bif Jjp ops m then On Y n ops h1 (ops.take m) S fun S'=>Y7 Y K n ops h2 (ops.drop m) S' (k .n)else none
 | .dc p ds zs zf ht,.region _ ⟨ops⟩ true,S,k =>
  bif Jb7 ops p ds&&ds.all (fun d=>Qfh d S.fix)then
   dcI Y K n ops p ds (Jt S.mem zs).2 (Jt S.fixM zf).2 (Jt S.mem zs).1 (Jt S.fixM zf).1 ht S
    (Qpe S.env (ds++Dl ht)++S.fix) fun h3 S'=>Y7 Y K n ops h3 (ops.drop p) S' (k .n)else none
 | .gh g a,c,S,k=>Th g S fun S'=>Ut Y K n N a c S' k
 | .ch t i a b,c,S,k=>bif Jjq S t i then Ut Y K n N a c S k else Ut Y K n N b c S k
 | .cn t a b,c,S,k=>bif Jjr S t then Ut Y K n N a c S k else Ut Y K n N b c S k
 | .two a b,.seq x y,S,k=>Ut Y K n N a x S fun e S'=>match e with
  | .n=>Ut Y K n N b y S' k
  | .x i=>k (.x i) S'
  | .r=>k .r S'
 | .two a b,.cond c x y,S,k=>match S.ev [] c with
  | some (.d .bool v)=>if v=true then Ut Y K n N a x S k else Ut Y K n N b y S k
  | _=>none
 | .un a,.block id c,S,k=>Ut Y K n N a c S fun e S'=>match e with
  | .n=>k .n S'
  | .x i=>bif Nat.beq i id then k .n S' else k (.x i) S'
  | .r=>k .r S'
 | .un a,.scope c,S,k=>Ut Y K n N a c S k
 | .lp ks ms Γ exs a,.loop c,S,k=>match (S.ent ks ms).dec Γ with
  | some s0=>(Qh (fun s=>Ut Y K n N (R:=Γ.De⊕Q9e exs) a c ((S.ent ks ms).re (enc Γ s)) fun e S'=>match e with
    | .n=>(match S'.dec Γ with
     | some s'=>some (.inl s')
     | none=>none)
    | .x i=>(match inj exs (.x i) S' with
     | some x=>some (.inr x)
     | none=>none)
    | .r=>(match inj exs .r S' with
     | some x=>some (.inr x)
     | none=>none)) N s0).bind fun x=>Q9f S ks ms k exs x
  | none=>none
 | .jn ks ms exs a,c,S,k=>(Ut Y K n N a c (S.ent ks ms) (inj exs)).bind fun x=>Q9f S ks ms k exs x
 | _,_,_,_=>none
def Q9l(Y:TX)(S:XS):List ResultVar→Nat→Option (List En)
 | [],_=>some []
 | .cell ad t::l,i=>match Qln Y S.flat [] (.load t (.tmp ad)),Q9l Y S l (i+1)with
  | some v,some r=>bif Nat.blt i 100000 then some (⟨i,[],v⟩::r)else none
  | _,_=>none
 | .tmp t::l,i=>match S.ev [] (.tmp t),Q9l Y S l (i+1)with
  | some v,some r=>bif Nat.blt i 100000 then some (⟨i,[],v⟩::r)else none
  | _,_=>none
def Dm:List (Nat×Sk)→Nat→Bool
 | [],_=>true
 | (t,_)::l,i=>Nat.beq t i&&Dm l (i+1)
def Jjs(es:List En)(S:XS):(l:List Shp)→Option (Qaz l)
 | []=>none
 | [s]=>bif Dm s.env 0&&Nat.beq es.length s.env.length then XS.dec S s else none
 | s::r::l=>match (bif Dm s.env 0&&Nat.beq es.length s.env.length then XS.dec S s else none)with
  | some x=>some (.inl x)
  | none=>match Jjs es S (r::l)with
   | some y=>some (.inr y)
   | none=>none
def fin(Y:TX)(fn:Func)(Δ:List Shp)(S:XS):Option (Qaz Δ):=match Q9l Y S fn.results.toList 0 with
 | some es=>bif Nat.blt es.length 100000 then Jjs es ⟨es,[],S.mem,S.fixM,S.prot⟩ Δ else none
 | none=>none
def Qfj(gl:List (Nat×Σ t:Ty,t.De)):List En:=gl.map fun q=>⟨100000+q.1,[],.a q.2.1 q.2.2⟩
noncomputable def Jjt(Y:TX)(K:List Con)(N:Nat)(fn:Func)(an:An)(ro:List Nat)(Γ:Shp)(Δ:List Shp)(x:Γ.De):Option (Qaz Δ):=match fn.body with
 | some c=>bif Nat.ble Γ.env.length fn.ntmps&&(Dm Γ.env 0&&Nat.blt Γ.env.length 100000)then Ut Y K fn.ntmps N an c ⟨(enc Γ x).env,Qfj Y.gl,wrM ro (enc Γ x).mem,rdM ro (enc Γ x).mem,Γ.mem.map Prod.fst⟩ fun e S=>match e with
  | .x _=>none
  | .n=>fin Y fn Δ S
  | .r=>fin Y fn Δ S else none
 | none=>none
end Gx

/- What a step gives does not depend on what comes behind it. -/
namespace Gx
open Go Go.RowKit Gd
set_option linter.unusedVariables false
set_option linter.unusedSimpArgs false
theorem Xs{R A:Type}{b:Bool}{x:Option R}{y:Option A}{k:A→Option R}(h:x=y.bind k):(bif b then x else none)=(bif b then y else none).bind k:=by
 grind
theorem Bl{T R A:Type}{x:Option T}{f:T→Option R}{g:T→Option A}{k:A→Option R}(h:∀t,f t=(g t).bind k):x.bind f=(x.bind g).bind k:=by
 cases x
 ·rfl
 ·exact h _
section
variable {R:Type} {Y:TX} {n:Nat}
theorem Jpc{S:St}{cur:Vr}{op:Op}{k:AV→Option R}:tot Y S cur op k=(tot Y S cur op some).bind k:=by
 grind [tot]
theorem Qst{A:Type}{k:A→Option R}:∀{ps:List PS} {x:AV} {f:AV→Option R} {g:AV→Option A},(∀y,f y=(g y).bind k)→Qsm ps x f=(Qsm ps x g).bind k
 | [],x,f,g,h=>h x
 | .f i off::ps,x,f,g,h=>by
  simp only[Qsm]
  split
  ·exact Qst h
  ·rfl
 | .i j sz::ps,x,f,g,h=>by
  simp only[Qsm]
  split
  ·exact Xs (Bl fun _=>Qst h)
  ·rfl
theorem Qsu{A:Type}{k:A→Option R}{M:List (Nat×Ob)}:∀{ps:List PS} {x v:AV} {f:AV→Option R} {g:AV→Option A},(∀y,f y=(g y).bind k)→Qqa M ps x v f=(Qqa M ps x v g).bind k
 | [],x,v,f,g,h=>by
  simp only[Qqa]
  grind
 | .f i off::ps,x,v,f,g,h=>by
  simp only[Qqa]
  split
  ·refine Qsu fun x1=>?_
   grind
  ·rfl
 | .i j sz::ps,x,v,f,g,h=>by
  simp only[Qqa]
  split
  ·refine Xs (Bl fun _=>Qsu fun x1=>?_)
   grind
  ·rfl
theorem Q9m{S:St}{cur:Vr}{op:Op}{k:AV→Option R}:Qns Y S cur op k=(Qns Y S cur op some).bind k:=by
 unfold Qns
 repeat' (first | rfl | exact Jpc | (refine Xs ?_) | (refine Bl fun _=>?_) | split)
theorem Jft{S:St}{cur:Vr}{op:Op}{k:AV→Option R}:Qw0 Y S cur op k=(Qw0 Y S cur op some).bind k:=by
 unfold Qw0
 repeat' (first | rfl | (refine Xs ?_) | (refine Bl fun _=>?_) | (refine Qst fun _=>?_) | split)
theorem Qw6{S:St}{cur:Vr}{op:Op}{k:AV→Option R}:Qlq Y S cur op k=(Qlq Y S cur op some).bind k:=by
 grind [Qlq,Q9m,Jft]
theorem Q9n{A:Type}{S:St}{cur:Vr}{op:Op}{f:AV→Option R}{g:AV→Option A}{k:A→Option R}(h:∀y,f y=(g y).bind k):Qlq Y S cur op f=(Qlq Y S cur op g).bind k:=by
 rw[Qw6 (k:=f),Qw6 (k:=g),Option.bind_assoc]
 exact congrArg _ (funext h)
theorem Qsv{o:Oper}{S:XS}{k:XS→Option R}:Qj1 Y n o S k=(Qj1 Y n o S some).bind k:=by
 unfold Qj1
 repeat' (first | rfl | (refine Xs ?_) | (refine Bl fun _=>?_) | (refine Q9n fun _=>?_) | split)
theorem Jfu{o:Oper}{S:XS}{k:XS→Option R}:Qw5 Y n o S k=(Qw5 Y n o S some).bind k:=by
 unfold Qw5
 repeat' (first | rfl | (refine Xs ?_) | (refine Bl fun _=>?_) | (refine Qsu fun _=>?_) | split)
theorem Qw7{o:Oper}{S:XS}{k:XS→Option R}:Qpc Y n o S k=(Qpc Y n o S some).bind k:=by
 grind [Qpc,Qsv,Jfu]
theorem Qz4{c:Con}{o:Oper}{S:XS}{k:XS→Option R}:Kw n c o S k=(Kw n c o S some).bind k:=by
 unfold Kw Kw.callE Kw.callR
 repeat' (first | rfl | (refine Xs ?_) | (refine Bl fun _=>?_) | (rw[Qrd,Qrd]) | split)
theorem Jfv{o:Oper}{S:XS}{k:XS→Option R}:Qi4 Y n o S k=(Qi4 Y n o S some).bind k:=by
 unfold Qi4 Jpa Q9i
 repeat' (first | rfl | exact Qsv | (refine Xs ?_) | (refine Bl fun _=>?_) | split)
theorem Jfw{t:Nat}{want:Bool}{o:Oper}{S:XS}{k:XS→Option R}:Qlt Y n t want o S k=(Qlt Y n t want o S some).bind k:=by
 unfold Qlt
 grind
theorem Jfx{o:Oper}{S:XS}{k:XS→Option R}:Qfi n o S k=(Qfi n o S some).bind k:=by
 unfold Qfi
 grind
theorem Jfy{ops:List Oper}{o:Oper}{S:XS}{k:XS→Option R}:Qlu Y n ops o S k=(Qlu Y n ops o S some).bind k:=by
 grind [Qlu,Qw7,Jfw]
theorem Jfz{ops:List Oper}{o:Oper}{S:XS}{k:XS→Option R}:stepL Y n ops o S k=(stepL Y n ops o S some).bind k:=by
 grind [stepL,Qw7,Jfx]
theorem Qsw{st:{R:Type}→Oper→XS→(XS→Option R)→Option R}(hst:∀{R A:Type} (o:Oper) (S:XS) (f:XS→Option R) (g:XS→Option A) (k:A→Option R),(∀S',f S'=(g S').bind k)→st o S f=(st o S g).bind k) :
  ∀{A:Type} {k:A→Option R} {l:List Oper} {S:XS} {f:XS→Option R} {g:XS→Option A},(∀S',f S'=(g S').bind k)→Qqb st l S f=(Qqb st l S g).bind k
 | A,k,[],S,f,g,h=>h S
 | A,k,o::l,S,f,g,h=>by
  simp only[Qqb]
  exact hst o S _ _ k fun S'=>Qsw hst h
theorem Jpd{A:Type}{st:{R:Type}→Oper→XS→(XS→Option R)→Option R}{o:Oper}{S:XS}(h:∀{R:Type} {k:XS→Option R},st o S k=(st o S some).bind k){f:XS→Option R}{g:XS→Option A}{k:A→Option R}(h2:∀S',f S'=(g S').bind k):st o S f=(st o S g).bind k:=by
 rw[h (k:=f),h (k:=g),Option.bind_assoc]
 exact congrArg _ (funext h2)
end
theorem Xt{Y:TX}{K:List Con}{n:Nat}{ops:List Oper}:∀{R A:Type} {h:Hn} {l:List Oper} {S:XS} {f:XS→Option R} {g:XS→Option A} {k:A→Option R},(∀S',f S'=(g S').bind k)→Y7 Y K n ops h l S f=(Y7 Y K n ops h l S g).bind k
 | R,A,.done,l,S,f,g,k,hk=>by
  simp only[Y7]
  grind
 | R,A,.n m r,l,S,f,g,k,hk=>by
  simp only[Y7]
  exact Qsw (st:=fun {R}=>Qlu Y n ops) (fun o S f g k h=>Jpd (st:=fun {R}=>Qlu Y n ops) Jfy h) fun S'=>Xt hk
 | R,A,.nl m r,l,S,f,g,k,hk=>by
  simp only[Y7]
  exact Qsw (st:=fun {R}=>stepL Y n ops) (fun o S f g k h=>Jpd (st:=fun {R}=>stepL Y n ops) Jfz h) fun S'=>Xt hk
 | R,A,.call c r,l,S,f,g,k,hk=>by
  simp only[Y7]
  have hc:∀{con:Con} {o:Oper} {l':List Oper},Kw n con o S (fun S'=>Y7 Y K n ops r l' S' f)=(Kw n con o S (fun S'=>Y7 Y K n ops r l' S' g)).bind k:=fun {con o l'}=>Jpd (st:=fun {R}=>Kw n con) Qz4 fun S'=>Xt hk
  repeat' (first | rfl | exact hc | split)
 | R,A,.br r,l,S,f,g,k,hk=>by
  simp only[Y7]
  have hc:∀{o:Oper} {l':List Oper},Qi4 Y n o S (fun S'=>Y7 Y K n ops r l' S' f)=(Qi4 Y n o S (fun S'=>Y7 Y K n ops r l' S' g)).bind k:=fun {o l'}=>Jpd (st:=fun {R}=>Qi4 Y n) Jfv fun S'=>Xt hk
  repeat' (first | rfl | exact hc | split)
 | R,A,.fz id r,l,S,f,g,k,hk=>by
  simp only[Y7]
  exact Xt hk
 | R,A,.keep ts r,l,S,f,g,k,hk=>by
  simp only[Y7]
  exact Xt hk
 | R,A,.op src id d r,l,S,f,g,k,hk=>by
  simp only[Y7]
  unfold Q33 Jrd
  repeat' (first | rfl | exact Xt hk | (refine Xs ?_) | split)
 | R,A,.cl id r,l,S,f,g,k,hk=>by
  simp only[Y7]
  unfold Qsp
  repeat' (first | rfl | exact Xt hk | (refine Xs ?_) | split)
 | R,A,.fm id r,l,S,f,g,k,hk=>by
  simp only[Y7]
  unfold Q32
  repeat' (first | rfl | exact Xt hk | (refine Xs ?_) | split)
 | R,A,.sp t m ks ms Γ a b r,l,S,f,g,k,hk=>by
  simp only[Y7]
  split
  ·exact Xs (Bl fun _=>Xt hk)
  ·rfl
 | R,A,.si t i a b,l,S,f,g,k,hk=>by
  simp only[Y7]
  split
  ·refine Xs ?_
   split
   ·exact Xt hk
   ·exact Xt hk
  ·rfl
 | R,A,.md _ _,l,S,f,g,k,hk=>by simp_all [Y7]
 | R,A,.tl _,l,S,f,g,k,hk=>by simp_all [Y7]
 | R,A,.dt _ _,l,S,f,g,k,hk=>by simp_all [Y7]
 | R,A,.so _ _ _,l,S,f,g,k,hk=>by simp_all [Y7]
theorem Qsx{Y:TX}{K:List Con}{n:Nat}{ops:List Oper}{R:Type}{r:R}{h:Hn}{l:List Oper}{S:XS}{k:XS→Option R}(hs:Y7 Y K n ops h l S k=some r):∃S1,k S1=some r∧Y7 (R:=XS) Y K n ops h l S some=some S1:=by
 have e:=Xt (Y:=Y) (K:=K) (n:=n) (ops:=ops) (h:=h) (l:=l) (S:=S) (f:=k) (g:=some) (k:=k) fun S'=>rfl
 rw[e]at hs
 grind [Option.bind_eq_some_iff]
end Gx

/- States, and what becomes of them: new objects, other names. -/
namespace Gd
open Go Go.RowKit
section
variable {β:Nat→Nat} {X:Cx} {G:GL} {D:List DF} {H:HL} {O:List TL} {a:Act} {w w':World}
def Gl(t t':TL):Prop:=(∀g,t'.blks g↔t.blks g)∧(∀b o,t'.cov b o↔t.cov b o)∧∀ok w,t.p ok w→t'.p ok w
inductive Wp:List TL→List TL→Prop
 | nil:Wp [] []
 | cons {t t':TL} {l l':List TL} (h:Gl t t') (r:Wp l l'):Wp (t::l) (t'::l')
theorem Gl.refl(t:TL):Gl t t:=⟨fun _=>Iff.rfl,fun _ _=>Iff.rfl,fun _ _ h=>h⟩
theorem Wp.refl:∀l:List TL,Wp l l
 | []=>.nil
 | t::l=>.cons (Gl.refl t) (Wp.refl l)
theorem Wp.mem{l l':List TL}(h:Wp l l'):∀t'∈l',∃t∈l,Gl t t':=by
 induction h with
 | nil=>simp
 | cons h r ih =>
  grind
theorem Wp.pw{l l':List TL}(h:Wp l l')(hp:l.Pairwise fun s t=>∀g,s.blks g→¬ t.blks g):l'.Pairwise fun s t=>∀g,s.blks g→¬ t.blks g:=by
 induction h with
 | nil=>exact .nil
 | cons h r ih =>
  have:=List.pairwise_cons.1 hp
  refine List.pairwise_cons.2 ⟨fun u hu g hg hg2=>?_,ih this.2⟩
  obtain⟨t,ht,hs⟩:=r.mem u hu
  exact this.1 t ht g ((h.1 g).1 hg) ((hs.1 g).1 hg2)
theorem Wp.append{l l' m m':List TL}(h:Wp l l')(k:Wp m m'):Wp (l++m) (l'++m'):=by
 induction h with
 | nil=>exact k
 | cons h _ ih=>exact .cons h ih
theorem Wp.ok{l l':List TL}(h:Wp l l'){ok0:Ok}{B:Nat}:∀b o,Jn ok0 B β H l w b o→Jn ok0 B β H l' w b o:=by
 rintro b o ⟨h1,h2,h3,h4⟩
 refine⟨h1,h2,h3,fun u hu hc=>?_⟩
 obtain⟨t,ht,hs⟩:=h.mem u hu
 exact h4 t ht ((hs.2.1 b o).1 hc)
theorem Sb.simO{O':List TL}(h:Sb β X G D H O a w)(hs:Wp O O'):Sb β X G D H O' a w :=
 { sz:=h.sz,df:=h.df,fr:=h.fr,pn:=h.pn,tm:=h.tm,bel:=h.bel,dat:=h.dat.weak hs.ok,obj:=h.obj,own:=fun u hu=>let⟨t,ht,hst⟩:=hs.mem u hu; ⟨u.weak (hst.2.2 _ _ (h.own t ht).1) hs.ok,fun g hg=>(h.own t ht).2 g ((hst.1 g).1 hg)⟩,dHH:=h.dHH,dHO:=fun p hp u hu hg=>let⟨t,ht,hst⟩:=hs.mem u hu; h.dHO p hp t ht ((hst.1 _).1 hg),dOO:=hs.pw h.dOO }
theorem Sb.subO{O':List TL}(h:Sb β X G D H O a w)(hs:O'.Sublist O):Sb β X G D H O' a w:=by
 have hok:∀b o,Jn X.ok X.w.heap.size β H O w b o→Jn X.ok X.w.heap.size β H O' w b o:=fun b o ⟨h1,h2,h3,h4⟩=>⟨h1,h2,h3,fun u hu=>h4 u (hs.subset hu)⟩
 exact { sz:=h.sz,df:=h.df,fr:=h.fr,pn:=h.pn,tm:=h.tm,bel:=h.bel,dat:=h.dat.weak hok,obj:=h.obj,own:=fun u hu=>⟨u.weak (h.own u (hs.subset hu)).1 hok,(h.own u (hs.subset hu)).2⟩,dHH:=h.dHH,dHO:=fun p hp u hu=>h.dHO p hp u (hs.subset hu),dOO:=h.dOO.sublist hs }
theorem Qhs{O1 O1' O2:List TL}{L:List Nat}(h:Sb β X G D [] (O1++O2) a w)(_:w.heap.size≤w'.heap.size)(hL:∀g∈L,∃t∈O1,t.blks g) :
  ∀b o,Jn (okL L (Jn X.ok X.w.heap.size β [] (O1++O2) w)) w.heap.size β [] O1' w' b o→Jn X.ok X.w.heap.size β [] (O1'++O2) w' b o:=by
 rintro b o ⟨h1,h2,_,h4⟩
 have hO2:∀u∈O2,¬ u.cov b o→∀v∈O1'++O2,v=u→¬ v.cov b o:=fun u _ hn v _ e=>e▸hn
 have fin:(X.ok b o∨X.w.heap.size≤b)→(∀u∈O2,¬ u.cov b o)→Jn X.ok X.w.heap.size β [] (O1'++O2) w' b o:=by
  intro h5 h6
  refine⟨h5,h2,by simp,fun u hu=>?_⟩
  grind
 rcases h1 with(h1 | h1) | h1
 ·exact fin h1.1 fun u hu=>h1.2.2.2 u (by simp[hu])
 ·obtain⟨t,ht,hg⟩:=hL b h1
  have hm:=(h.own t (by simp[ht])).2 b hg
  refine fin (X.mine_ok hm o) fun u hu hc=>?_
  exact(QA.1 h.dOO).2.2 t ht u hu b hg (u.cb hc)
 ·refine fin (.inr (QY h.bel.size h1)) fun u hu hc=>?_
  have:=h.olt (t:=u) (by simp[hu]) (u.cb hc)
  omega
theorem Sb.callO{O1 O1' O2:List TL}{L:List Nat}(h:Sb β X G D [] (O1++O2) a w)(hb:Zt L w.heap.size w w')(hL:∀g∈L,∃t∈O1,t.blks g)(hcov:∀t∈O1,∀b o,t.blks b→t.cov b o)
  (hp:∀t∈O1',t.p (Jn (okL L (Jn X.ok X.w.heap.size β [] (O1++O2) w)) w.heap.size β [] O1' w') w'∧∀g,t.blks g→w.heap.size≤g∨g∈L) (hd:O1'.Pairwise fun s t=>∀g,s.blks g→¬ t.blks g) :
  Sb β X G D [] (O1'++O2) a w':=by
 have hpw:=QA.1 h.dOO
 have hsame:∀b,b<w.heap.size→(∀t∈O1,¬ t.blks b)→w'.heap[b]?=w.heap[b]?:=fun b hb' hn=>hb.block b hb' fun hm=>by grind
 have hevo:Evo (Jn X.ok X.w.heap.size β [] (O1++O2) w) w w':=Evo.of_blocks hb.size fun b o hk=>hsame b hk.2.1 fun t ht hg=>hk.2.2.2 t (by simp[ht]) (hcov t ht b o hg)
 have hok:∀b o,Jn X.ok X.w.heap.size β [] (O1++O2) w b o→Jn X.ok X.w.heap.size β [] (O1'++O2) w' b o:=by
  rintro b o ⟨h1,h2,h3,h4⟩
  refine⟨h1,QC h2 hb.size,h3,fun u hu hc=>?_⟩
  rcases QZ.1 hu with hu | hu
  ·rcases(hp u hu).2 b (u.cb hc)with hg | hg
   ·omega
   ·obtain⟨t,ht,hg⟩:=hL b hg
    exact h4 t (by simp[ht]) (hcov t ht b o hg)
  grind
 have hmine:∀t∈O1',∀g,t.blks g→X.mine g:=by
  intro t ht g hg
  rcases(hp t ht).2 g hg with h1 | h1
  ·exact .inl (QY h.bel.size h1)
  ·obtain⟨u,hu,hg⟩:=hL g h1
   exact(h.own u (by simp[hu])).2 g hg
 have hO2:∀u∈O2,∀g,u.blks g→w'.heap[g]?=w.heap[g]?:=fun u hu g hg=>hsame g (h.olt (by simp[hu]) hg) fun t ht hg2=>hpw.2.2 t ht u hu g hg2 hg
 refine { sz:=h.sz,df:=h.df,fr:=h.fr,pn:=h.pn,tm:=h.tm,bel:=?_,dat:=(h.dat.evo hevo).weak hok,obj:=by simp,own:=?_,dHH:=by simp,dHO:=by simp,dOO:=?_ }
 ·refine h.bel.trans ⟨hb.os,hb.tape,hb.output,hb.size,fun k hk hn=>hsame k (QC hk h.bel.size) fun t ht hg=>?_⟩
  exact((h.own t (by simp[ht])).2 k hg).elim (fun h=>by omega) hn
 ·intro u hu
  rcases QZ.1 hu with hu | hu
  ·exact⟨u.weak (hp u hu).1 (Qhs h hb.size hL),hmine u hu⟩
  ·have:=h.own u (by simp[hu]:u∈O1++O2)
   exact⟨u.weak (u.keep this.1 (hO2 u hu) hevo) hok,this.2⟩
 ·refine QA.2 ⟨hd,hpw.2.1,fun t ht u hu g hg hg2=>?_⟩
  rcases(hp t ht).2 g hg with h1 | h1
  ·have:=h.olt (t:=u) (by simp[hu]) hg2; omega
  grind
end
end Gd
namespace Gx
open Go Go.RowKit Gd
set_option linter.unusedVariables false
set_option linter.unusedSimpArgs false
def upd{α:Type}(f:Nat→α)(d:Nat)(v:α):Nat→α:=fun i=>if i=d then v else f i
theorem Jf{α:Type}(f:Nat→α)(d:Nat)(v:α):upd f d v d=v:=by simp[upd]
theorem Aq{α:Type}(f:Nat→α){d i:Nat}(v:α)(h:i≠d):upd f d v i=f i:=by simp[upd,h]
def Qly(d:Nat)(β β':Nat→Nat)(ρ ρ':Nat→Value):Prop:=∀i,i≠d→β' i=β i∧ρ' i=ρ i
theorem Qht(d:Nat)(β:Nat→Nat)(ρ:Nat→Value)(g:Nat)(v:Value):Qly d β (upd β d g) ρ (upd ρ d v):=fun i h=>⟨Aq _ _ h,Aq _ _ h⟩
theorem neB{a b:Nat}(h:(!Nat.beq a b)=true):a≠b:=by
 grind [Nat.beq_refl]
section
variable {β β':Nat→Nat} {ρ ρ':Nat→Value} {ok:Ok} {w:World} {d:Nat}
theorem H6(ha:Qly d β β' ρ ρ'):∀{m:Bool} {x:AV} {cs:List Value},Zx d x=true→cr β ρ ok w m x cs→cr β' ρ' ok w m x cs
 | m,.d t x,cs,_,h=>by cases m<;>exact h
 | m,.p id path,cs,hn,h=>by
  have:=(ha id (neB (by grind [Zx]))).1
  cases m<;>(grind [cr])
 | m,.e id path,cs,hn,h=>by
  have:=(ha id (neB (by grind [Zx]))).2
  cases m<;>(grind [cr])
 | m,.s id,cs,hn,h=>by
  have:=(ha id (neB (by grind [Zx]))).2
  cases m<;>(grind [cr])
 | m,.m id,cs,hn,h=>by
  have:=(ha id (neB (by grind [Zx]))).1
  cases m<;>(grind [cr])
 | m,.b id,cs,hn,h=>by
  have:=(ha id (neB (by grind [Zx]))).1
  cases m<;>(grind [cr])
 | m,.w id _ _,cs,hn,h=>by
  have:=(ha id (neB (by grind [Zx]))).1
  cases m<;>(grind [cr])
 | m,.a t x,cs,_,h=>by cases m<;>exact h
 | m,.z,cs,_,h=>by cases m<;>exact h
 | m,.ns,cs,_,h=>by cases m<;>exact h
 | m,.np,cs,_,h=>by cases m<;>exact h
 | m,.nm,cs,_,h=>by cases m<;>exact h
 | m,.nf,cs,_,h=>by cases m<;>exact h
 | m,.f fn caps,cs,hn,h=>by cases m<;>exact let⟨vs,h1,h2⟩:=h; ⟨vs,h1,H6 ha (by grind [Zx]) h2⟩
 | m,.ag l,cs,hn,h=>by cases m<;>exact H6 ha (m:=false) (x:=l) (by grind [Zx]) h
 | m,.tp l,cs,hn,h=>by cases m<;>exact let⟨vs,h1,h2⟩:=h; ⟨vs,h1,H6 ha (by grind [Zx]) h2⟩
 | m,.nil,cs,_,h=>by cases m<;>exact h
 | true,.cons x r,cs,hn,h=>by
  simp only[Zx,QQ]at hn
  exact let⟨c1,vs,h1,h2,h3⟩:=h; ⟨c1,vs,h1,H6 ha hn.1 h2,H6 ha hn.2 h3⟩
 | false,.cons x r,cs,hn,h=>by
  simp only[Zx,QQ]at hn
  exact let⟨c1,vs,h1,h2,h3⟩:=h; ⟨c1,vs,h1,H6 ha hn.1 h2,H6 ha hn.2 h3⟩
def Jwr(d:Nat):Ob→Prop
 | .var _ c=>Zx d c=true
 | .mapC _ _ _ (some q)=>q.2≠d
 | .mapE _ _ _ _ j=>j≠d
 | _=>True
theorem H7:∀{M:List (Nat×Ob)},J9 d M=true→∀q∈M,q.1≠d∧Jwr d q.2
 | [],_,q,hq=>by cases hq
 | (k,o)::l,h,q,hq=>by
  cases o with
  | var t c =>
   simp only[J9,QQ]at h
   rcases QX.1 hq with rfl | hq
   ·exact⟨neB h.1.1,h.1.2⟩
   ·exact H7 h.2 q hq
  | mapC k1 v xs hole =>
   cases hole with
   | none =>
    simp only[J9,QQ]at h
    rcases QX.1 hq with rfl | hq
    ·exact⟨neB h.1,trivial⟩
    ·exact H7 h.2 q hq
   | some q0 =>
    simp only[J9,QQ]at h
    rcases QX.1 hq with rfl | hq
    ·exact⟨neB h.1.1,neB h.1.2⟩
    ·exact H7 h.2 q hq
  | mapE k1 v xs key j =>
   simp only[J9,QQ]at h
   rcases QX.1 hq with rfl | hq
   ·exact⟨neB h.1.1,neB h.1.2⟩
   ·exact H7 h.2 q hq
  | _ =>
   simp only[J9,QQ]at h
   rcases QX.1 hq with rfl | hq
   ·exact⟨neB h.1,trivial⟩
   ·exact H7 h.2 q hq
theorem R9(ha:Qly d β β' ρ ρ'):∀{M:List (Nat×Ob)},J9 d M=true→Wp (Qk β ρ M) (Qk β' ρ' M)
 | [],_=>.nil
 | (k,o)::l,h=>by
  have hq:=H7 h (k,o) (.head _)
  have hl:J9 d l=true:=by
   cases o with
   | mapC k1 v xs hole=>cases hole<;>simp only[J9,QQ]at h<;>exact h.2
   | _=>simp_all [J9,QQ]
  refine .cons ?_ (R9 ha hl)
  obtain⟨h1,h2⟩:=ha k hq.1
  cases o with
  | var t c =>
   refine⟨fun g=>by grind [Qv,Qe9],fun b o=>by grind [Qv,Qe9],fun ok w hp=>?_⟩
   obtain⟨cs,hh,hc⟩:=hp
   exact⟨cs,by rw[h1]; exact hh,H6 ha hq.2 hc⟩
  | row e t xs=>grind [Qv,Gl.refl]
  | tail e t xs=>grind [Qv,Gl.refl]
  | map k v xs=>grind [Qv,Gl.refl]
  | mapC k1 v xs hole =>
   have hv:Od β' ρ' v hole=Od β ρ v hole:=by
    cases hole with
    | none=>rfl
    | some q=>cases v<;>simp only[Od,(ha q.2 hq.2).1,(ha q.2 hq.2).2]
   grind [Qv,Gl.refl]
  | mapE k1 v xs key j =>
   simp only[Qv,h1,(ha j hq.2).1]; exact Gl.refl _
theorem Jpe{a:Act}(ha:Qly d β β' ρ ρ'){e:En}(hn:Zx d e.av=true)(h:(enD β ρ a e).p ok w):(enD β' ρ' a e).p ok w :=
 ⟨fun hc=>let⟨cs,h1,h2⟩:=h.1 hc; ⟨cs,h1,H6 ha hn h2⟩,h.2⟩
theorem Qj3{l:List En}{e:En}(h:e∈Y3 d l):e∈l∧Zx d e.av=true:=by
 induction l with
 | nil=>cases h
 | cons x l ih =>
  simp only[Y3]at h
  grind
theorem Qsy{l:List En}(h:Qls d l=true):∀e∈l,Zx d e.av=true:=by
 induction l with
 | nil=>grind
 | cons x l ih =>
  simp only[Qls,QQ]at h
  intro e he
  rcases QX.1 he with rfl | he
  ·exact h.1
  ·exact ih h.2 e he
end
section
variable {X:Cx} {β β':Nat→Nat} {ρ ρ':Nat→Value} {S:St} {a:Act} {w w':World} {d:Nat}
theorem Rel.off(h:Rel X β ρ S a w)(ha:Qly d β β' ρ ρ')(hf:J9 d S.mem=true){env':List En}(he:∀e∈env',e∈S.env∧Zx d e.av=true):Rel X β' ρ' ⟨env',S.mem⟩ a w:=by
 have h1:=Sb.simO h (R9 ha hf)
 refine { h1 with dat:=Yf.2 fun x hx=>?_ }
 obtain⟨e,hm,rfl⟩:=QK.1 hx
 obtain⟨h2,h3⟩:=he e hm
 exact Jpe ha h3 ((enD β ρ a e).weak (h.en h2) (R9 ha hf).ok)
theorem Rel.ofSb{G:GL}{D:List DF}{O:List TL}(h:Sb (fun _=>0) X G D [] O a w){mem:List (Nat×Ob)}(hO:O=Qk β ρ mem){env:List En}
  (he:∀e∈env,(enD β ρ a e).p (okR X β ρ mem w) w):Rel X β ρ ⟨env,mem⟩ a w:=by
 subst hO
 exact { h with tm:=by simp,dat:=Yf.2 fun x hx=>by grind }
theorem Rel.alloc(h:Rel X β ρ S a w)(ha:Qly d β β' ρ ρ')(hf:J9 d S.mem=true){env':List En}(he:∀e∈env',e∈S.env∧Zx d e.av=true)(hb:Below w.heap.size w w'){o:Ob}
  (ht:∀g,(Qv β' ρ' d o).blks g→w.heap.size≤g) (hq:(Qv β' ρ' d o).p (okR X β' ρ' ((d,o)::S.mem) w') w'):Rel X β' ρ' ⟨env',(d,o)::S.mem⟩ a w' :=
 Sb.allocTL (h.off ha hf he) hb ht hq
end
end Gx
