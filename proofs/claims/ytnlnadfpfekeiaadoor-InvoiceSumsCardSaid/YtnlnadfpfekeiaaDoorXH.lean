/- Shapes of states; the interpreter. -/
import Derived.Test.YtnlnadfpfekeiaaDoorXFa
import Derived.StillTail
import Derived.Test.YtnlnadfpfekeiaaDoorGDraw
namespace Gx
open Go Go.RowKit Gd
set_option linter.unusedVariables false
set_option linter.unusedSimpArgs false
inductive Sk where
  | d (t : Ty)
  | p (id : Nat) (path : List PS)
  | s (id : Nat) | m (id : Nat)
  | ns | np | nm | nf | z
  | f (fn : FuncId) (caps : Sk)
  | ag (l : Sk) | nil | cons (x r : Sk)
inductive SkO where
  | var (tid : TypeId) (c : Sk)
  | row (e : TypeId) (t : Ty)
  | tail (e : TypeId) (t : Ty)
  | map (k v : Ty)
  | mapT (k v : Ty) (path : List PS) (e : TypeId) (u : Ty)
structure Shp where
  env : List (Nat × Sk)
  mem : List (Nat × SkO)
abbrev DV := Σ t : Ty, t.De
def Sk.tys : Sk → List Ty
  | .d t => [t]
  | .f _ c => c.tys
  | .ag l => l.tys
  | .cons x r => x.tys ++ r.tys
  | _ => []
def SkO.tys : SkO → List Ty
  | .var _ c => c.tys
  | .row _ t => [.sl t]
  | .tail _ t => [.sl t]
  | .map k v => [.sl (.pr k v)]
  | .mapT k v _ _ _ => [.sl (.pr k v)]
def envTys : List (Nat × Sk) → List Ty
  | [] => []
  | q :: l => q.2.tys ++ envTys l
def memTys : List (Nat × SkO) → List Ty
  | [] => []
  | q :: l => q.2.tys ++ memTys l
def Shp.tys (Γ : Shp) : List Ty := envTys Γ.env ++ memTys Γ.mem
@[reducible] def Tup : List Ty → Type
  | [] => Unit
  | [t] => t.De
  | t :: u :: ts => t.De × Tup (u :: ts)
abbrev Shp.De (Γ : Shp) : Type := Tup Γ.tys
def toL : (ts : List Ty) → Tup ts → List DV
  | [], _ => []
  | [t], x => [⟨t, x⟩]
  | t :: u :: ts, x => ⟨t, x.1⟩ :: toL (u :: ts) x.2
def ofL : (ts : List Ty) → List DV → Option (Tup ts)
  | [], [] => some ()
  | [t], [v] => Ty.cast v.1 t v.2
  | t :: u :: ts, v :: vs => match Ty.cast v.1 t v.2, ofL (u :: ts) vs with
    | some a, some b => some (a, b)
    | _, _ => none
  | _, _ => none
def encSk : Sk → List DV → AV × List DV
  | .d t, v :: vs => (.d v.1 v.2, vs)
  | .d _, [] => (.nil, [])
  | .p id path, vs => (.p id path, vs)
  | .s id, vs => (.s id, vs)
  | .m id, vs => (.m id, vs)
  | .ns, vs => (.ns, vs)
  | .np, vs => (.np, vs)
  | .nm, vs => (.nm, vs)
  | .nf, vs => (.nf, vs)
  | .z, vs => (.z, vs)
  | .f fn c, vs => match encSk c vs with
    | (x, r) => (.f fn x, r)
  | .ag l, vs => match encSk l vs with
    | (x, r) => (.ag x, r)
  | .nil, vs => (.nil, vs)
  | .cons a b, vs => match encSk a vs with
    | (x, r) => match encSk b r with
      | (y, r') => (.cons x y, r')
def encO : SkO → List DV → Option (Ob × List DV)
  | .var tid c, vs => match encSk c vs with
    | (x, r) => some (.var tid x, r)
  | .row e t, v :: vs => match Ty.cast v.1 (.sl t) v.2 with
    | some xs => some (.row e t xs, vs)
    | none => none
  | .tail e t, v :: vs => match Ty.cast v.1 (.sl t) v.2 with
    | some xs => some (.tail e t xs, vs)
    | none => none
  | .map k u, v :: vs => match Ty.cast v.1 (.sl (.pr k u)) v.2 with
    | some xs => some (.map k u xs, vs)
    | none => none
  | .mapT k u path e t, v :: vs => match Ty.cast v.1 (.sl (.pr k u)) v.2 with
    | some xs => some (.mapT k u path e t xs none, vs)
    | none => none
  | _, [] => none
def encEnv : List (Nat × Sk) → List DV → List En × List DV
  | [], vs => ([], vs)
  | (t, s) :: l, vs => match encSk s vs with
    | (x, r) => match encEnv l r with
      | (es, r') => (⟨t, [], x⟩ :: es, r')
def encMem : List (Nat × SkO) → List DV → List (Nat × Ob)
  | [], _ => []
  | (t, s) :: l, vs => match encO s vs with
    | some (x, r) => (t, x) :: encMem l r
    | none => []
structure XS where
  env : List En
  fix : List En
  mem : List (Nat × Ob)
  fixM : List (Nat × Ob)
  prot : List Nat
def XS.flat (S : XS) : St := ⟨S.env ++ S.fix, S.mem ++ S.fixM⟩
abbrev XS.ev (S : XS) (cur : Conds) (x : Operand) : Option AV := Gx.ev S.flat cur x
def enc (Γ : Shp) (x : Γ.De) : St := match encEnv Γ.env (toL Γ.tys x) with
  | (es, r) => ⟨es, encMem Γ.mem r⟩
def PS.beq : PS → PS → Bool
  | .f k o, .f k' o' => Nat.beq k k' && Nat.beq o o'
  | _, _ => false
def pathEq : List PS → List PS → Bool
  | [], [] => true
  | a :: l, b :: m => PS.beq a b && pathEq l m
  | _, _ => false
def isNone {α : Type} : Option α → Bool
  | none => true
  | some _ => false
def frSk : Sk → AV → List (Nat × Nat)
  | .s id, .s c => [(id, c)]
  | .p id _, .p c _ => [(id, c)]
  | .m id, .m c => [(id, c)]
  | .f _ x, .f _ y => frSk x y
  | .ag l, x => match kidsOf x with
    | some y => frSk l y
    | none => []
  | .cons a b, .cons x y => frSk a x ++ frSk b y
  | _, _ => []
def frEnv (env : List En) : List (Nat × Sk) → List (Nat × Nat)
  | [] => []
  | (t, s) :: l => match lookE env t with
    | some e => frSk s e.av ++ frEnv env l
    | none => frEnv env l
def frMem (M : List (Nat × Ob)) : List (Nat × SkO) → List (Nat × Nat) → List (Nat × Nat)
  | [], ri => ri
  | (id, .var _ c) :: l, ri => match lookN ri id with
    | some i => match lookM M i with
      | some (.var _ x) => frMem M l (ri ++ frSk c x)
      | _ => frMem M l ri
    | none => frMem M l ri
  | _ :: l, ri => frMem M l ri
def findR (Γ : Shp) (S : St) : List (Nat × Nat) := frMem S.mem Γ.mem (frEnv S.env Γ.env)
def memN : List Nat → Nat → Bool
  | [], _ => false
  | k :: l, t => Nat.beq k t || memN l t
def idsOf : AV → List Nat
  | .s id => [id]
  | .ag l => idsOf l
  | .cons x r => idsOf x ++ idsOf r
  | _ => []
def dIds : Sk → AV → List Nat
  | .d _, x => idsOf x
  | .f _ a, .f _ x => dIds a x
  | .ag l, x => match kidsOf x with
    | some y => dIds l y
    | none => []
  | .cons a b, .cons x y => dIds a x ++ dIds b y
  | _, _ => []
def dEnv (env : List En) : List (Nat × Sk) → List Nat
  | [] => []
  | (t, s) :: l => match lookE env t with
    | some e => dIds s e.av ++ dEnv env l
    | none => dEnv env l
def dMem (M : List (Nat × Ob)) (ri : List (Nat × Nat)) : List (Nat × SkO) → List Nat
  | [] => []
  | (id, .var _ c) :: l => match lookN ri id with
    | some i => match lookM M i with
      | some (.var _ x) => dIds c x ++ dMem M ri l
      | _ => dMem M ri l
    | none => dMem M ri l
  | (id, .tail _ _) :: l => match lookN ri id with
    | some i => i :: dMem M ri l
    | none => dMem M ri l
  | _ :: l => dMem M ri l
def freezeX (ks : List Nat) : List (Nat × Ob) → List (Nat × Ob)
  | [] => []
  | (id, .row e t xs) :: l => (bif memN ks id && Nat.ble 1 t.size then (id, .tail e t xs) else (id, .row e t xs)) :: freezeX ks l
  | q :: l => q :: freezeX ks l
def isId (ri : List (Nat × Nat)) (id c : Nat) : Bool := match lookN ri id with
  | some i => Nat.beq i c
  | none => false
def Sk.isL : Sk → Bool
  | .nil => true
  | .cons _ b => b.isL
  | _ => false
def decSk (M : List (Nat × Ob)) (ri : List (Nat × Nat)) (pr : List Nat) : Sk → AV → Option (List DV)
  | .d t, v => match asD M v t with
    | some x => bif t.agg == v.isAgg then some [⟨t, x⟩] else none
    | none => none
  | .p id path, .p c path' => bif isId ri id c && pathEq path path' then some [] else none
  | .s id, .s c => bif isId ri id c && !isNone (lookM M c) then some [] else none
  | .s id, .ns => bif isNone (lookN ri id) && !memN pr id then some [] else none
  | .m id, .m c => bif isId ri id c then some [] else none
  | .ns, .ns => some []
  | .np, .np => some []
  | .nm, .nm => some []
  | .nf, .nf => some []
  | .z, .z => some []
  | .f fn c, .f fn' x => bif Nat.beq fn fn' && c.isL then decSk M ri pr c x else none
  | .ag l, x => match kidsOf x with
    | some y => decSk M ri pr l y
    | none => none
  | .nil, .nil => some []
  | .cons a b, .cons x y => match decSk M ri pr a x, decSk M ri pr b y with
    | some u, some v => some (u ++ v)
    | _, _ => none
  | _, _ => none
def decEnv (M : List (Nat × Ob)) (ri : List (Nat × Nat)) (pr : List Nat) (env : List En) : List (Nat × Sk) → Option (List DV)
  | [] => some []
  | (t, s) :: l => match lookE env t with
    | some ⟨_, [], x⟩ => match decSk M ri pr s x, decEnv M ri pr env l with
      | some u, some v => some (u ++ v)
      | _, _ => none
    | _ => none
def decO (M : List (Nat × Ob)) (ri : List (Nat × Nat)) (pr : List Nat) : SkO → Option Ob → Option (List DV)
  | .var tid c, some (.var tid' x) => bif Nat.beq tid tid' then decSk M ri pr c x else none
  | .row e t, some (.row e' t' xs) => bif Nat.beq e e' && Ty.beq t t' then some [⟨.sl t', xs⟩] else none
  | .row e t, none => some [⟨.sl t, []⟩]
  | .tail e t, some (.tail e' t' xs) => bif Nat.beq e e' && Ty.beq t t' then some [⟨.sl t', xs⟩] else none
  | .tail e t, none => some [⟨.sl t, []⟩]
  | .map k u, some (.map k' u' xs) => bif Ty.beq k k' && Ty.beq u u' then some [⟨.sl (.pr k' u'), xs⟩] else none
  | .mapT k u path e t, some (.mapT k' u' path' e' t' xs hole) => bif Ty.beq k k' && Ty.beq u u' && pathEq path path' && Nat.beq e e' && Ty.beq t t' && isNone hole then some [⟨.sl (.pr k' u'), xs⟩] else none
  | _, _ => none
def lookR (M : List (Nat × Ob)) (ri : List (Nat × Nat)) (id : Nat) : Option (Option Ob) := match lookN ri id with
  | none => some none
  | some c => match lookM M c with
    | some o => some (some o)
    | none => none
def decMem (M F : List (Nat × Ob)) (ri : List (Nat × Nat)) (pr : List Nat) : List (Nat × SkO) → Option (List DV)
  | [] => some []
  | (t, s) :: l => match lookR M ri t with
    | some o => match decO (M ++ F) ri pr s o, decMem M F ri pr l with
      | some u, some v => some (u ++ v)
      | _, _ => none
    | none => none
def nodupR (ri : List (Nat × Nat)) : List (Nat × SkO) → List Nat → Bool
  | [], _ => true
  | (id, _) :: l, cs => match lookN ri id with
    | some c => !memN cs c && nodupR ri l (c :: cs)
    | none => nodupR ri l cs
def nodupK : List (Nat × SkO) → List Nat → Bool
  | [], _ => true
  | (id, _) :: l, cs => !memN cs id && nodupK l (id :: cs)
def frz (Γ : Shp) (ri : List (Nat × Nat)) (env : List En) (M : List (Nat × Ob)) : List (Nat × Ob) := freezeX (dEnv env Γ.env ++ dMem M ri Γ.mem) M
def protR (ri : List (Nat × Nat)) (pr : List Nat) : List (Nat × SkO) → Bool
  | [] => true
  | (id, _) :: l => (!memN pr id || isId ri id id) && protR ri pr l
def protI (pr : List Nat) : List (Nat × Nat) → Bool
  | [] => true
  | (id, c) :: l => (!memN pr id || Nat.beq id c) && protI pr l
def decR (Γ : Shp) (ri : List (Nat × Nat)) (pr : List Nat) (env : List En) (M F : List (Nat × Ob)) : Option Γ.De :=
  bif nodupR ri Γ.mem [] && nodupK Γ.mem [] && protR ri pr Γ.mem && protI pr ri then
    match decEnv (M ++ F) ri pr env Γ.env, decMem M F ri pr Γ.mem with
    | some u, some v => ofL Γ.tys (u ++ v)
    | _, _ => none
  else none
def decF (Γ : Shp) (ri : List (Nat × Nat)) (pr : List Nat) (env : List En) (M F : List (Nat × Ob)) : Option Γ.De := decR Γ ri pr env (frz Γ ri env M) F
def allIds : AV → List Nat
  | .p id _ => [id]
  | .e id _ => [id]
  | .s id => [id]
  | .m id => [id]
  | .w id _ _ => [id]
  | .f _ c => allIds c
  | .ag l => allIds l
  | .tp l => allIds l
  | .cons x r => allIds x ++ allIds r
  | _ => []
def idsE : List En → List Nat
  | [] => []
  | e :: l => allIds e.av ++ idsE l
def idsM : List (Nat × Ob) → List Nat
  | [] => []
  | (id, .var _ c) :: l => id :: (allIds c ++ idsM l)
  | (id, .mapT _ _ _ _ _ _ (some q)) :: l => id :: q.2 :: idsM l
  | (id, _) :: l => id :: idsM l
def seedR (pr : List Nat) : List (Nat × SkO) → List (Nat × Nat)
  | [] => []
  | (id, _) :: l => bif memN pr id then (id, id) :: seedR pr l else seedR pr l
def XS.dec (S : XS) (Γ : Shp) : Option Γ.De := decF Γ (frMem S.mem Γ.mem (frEnv (S.env ++ S.fix) Γ.env ++ seedR S.prot Γ.mem)) (S.prot ++ (idsE S.fix ++ idsM S.fixM)) (S.env ++ S.fix) S.mem S.fixM
def selE (env : List En) : List Nat → List En
  | [] => []
  | t :: ts => match lookE env t with
    | some e => e :: selE env ts
    | none => selE env ts
def splitM : List (Nat × Ob) → List Nat → List (Nat × Ob) × List (Nat × Ob)
  | M, [] => (M, [])
  | M, t :: ts => match lookM M t with
    | some o => ((splitM (remM M t) ts).1, (t, o) :: (splitM (remM M t) ts).2)
    | none => splitM M ts
def XS.ent (S : XS) (ks ms : List Nat) : XS := ⟨S.env, selE S.env ks ++ S.fix, (splitM S.mem ms).1, (splitM S.mem ms).2 ++ S.fixM, S.prot⟩
def XS.re (S : XS) (S1 : St) : XS := ⟨S1.env, S.fix, S1.mem, S.fixM, S.prot⟩
def XS.out (S : XS) (ks ms : List Nat) (S1 : St) : XS := ⟨S1.env ++ selE S.env ks, S.fix, S1.mem ++ (splitM S.mem ms).2, S.fixM, S.prot⟩
inductive Ex where
  | n | x (id : Nat) | r
def Ex.beq : Ex → Ex → Bool
  | .n, .n => true
  | .r, .r => true
  | .x a, .x b => Nat.beq a b
  | _, _ => false
abbrev Exs := List (Ex × Shp)
@[reducible] def SumT : Exs → Type
  | [] => Empty
  | [q] => q.2.De
  | q :: r :: l => q.2.De ⊕ SumT (r :: l)
def inj : (l : Exs) → Ex → XS → Option (SumT l)
  | [], _, _ => none
  | [q], e, S => bif Ex.beq q.1 e then S.dec q.2 else none
  | q :: r :: l, e, S => bif Ex.beq q.1 e then (match S.dec q.2 with
      | some x => some (.inl x)
      | none => none) else (match inj (r :: l) e S with
      | some x => some (.inr x)
      | none => none)
def outS {R : Type} (S : XS) (ks ms : List Nat) (k : Ex → XS → Option R) : (l : Exs) → SumT l → Option R
  | [], _ => none
  | [q], x => k q.1 (S.out ks ms (enc q.2 x))
  | q :: r :: l, x => match x with
    | .inl y => k q.1 (S.out ks ms (enc q.2 y))
    | .inr z => outS S ks ms k (r :: l) z
def loopN {σ τ : Type} (f : σ → Option (σ ⊕ τ)) : Nat → σ → Option τ
  | 0, _ => none
  | n + 1, s => (f s).bind fun
    | .inl s' => loopN f n s'
    | .inr r => some r
structure Con where
  f : FuncId
  Γ : Shp
  Δ : Shp
  fn : Γ.De → Option Δ.De
def renAV (g : Nat → Nat) : AV → AV
  | .p id path => .p (g id) path
  | .e id path => .e (g id) path
  | .s id => .s (g id)
  | .m id => .m (g id)
  | .w id j n => .w (g id) j n
  | .f fn c => .f fn (renAV g c)
  | .ag l => .ag (renAV g l)
  | .tp l => .tp (renAV g l)
  | .cons x r => .cons (renAV g x) (renAV g r)
  | x => x
def renO (g : Nat → Nat) : Ob → Ob
  | .var tid c => .var tid (renAV g c)
  | .mapT k v path e u xs (some q) => .mapT k v path e u xs (some (q.1, g q.2))
  | o => o
def newId (ri : List (Nat × Nat)) (d j : Nat) : Nat := match lookN ri j with
  | some c => c
  | none => 10000 + 100 * d + j
def argE (S : XS) : List Operand → Nat → Option (List En)
  | [], _ => some []
  | x :: l, i => match S.ev [] x, argE S l (i + 1) with
    | some v, some r => bif Nat.blt i 100000 then some (⟨i, [], v⟩ :: r) else none
    | _, _ => none
def capE : AV → Nat → Option (List En)
  | .nil, _ => some []
  | .cons x r, i => match capE r (i + 1) with
    | some l => bif Nat.blt i 100000 then some (⟨i, [], x⟩ :: l) else none
    | none => none
  | _, _ => none
def valsE : List En → AV
  | [] => .nil
  | e :: l => .cons e.av (valsE l)
def resAV (es : List En) : AV := match es with
  | [e] => e.av
  | es => .tp (valsE es)
def lentIds (ri : List (Nat × Nat)) : List (Nat × SkO) → List Nat
  | [] => []
  | (id, _) :: l => match lookN ri id with
    | some c => c :: lentIds ri l
    | none => lentIds ri l
def noTail : List (Nat × SkO) → Bool
  | [] => true
  | (_, .tail _ _) :: _ => false
  | (_, .mapT _ _ _ _ _) :: _ => false
  | _ :: l => noTail l
def allMem (ks : List Nat) : List Nat → Bool
  | [] => true
  | i :: l => memN ks i && allMem ks l
def nodupN : List Nat → Bool
  | [] => true
  | i :: l => !memN l i && nodupN l
def isSomeN {α : Type} : Option α → Bool
  | some _ => true
  | none => false
def renMem (g : Nat → Nat) (M : List (Nat × Ob)) : List (Nat × Ob) := M.map fun q => (g q.1, renO g q.2)
inductive Src where
  | t (n : Nat)
  | v (id : Nat) (path : List PS)
inductive Hn where
  | done
  | n (m : Nat) (r : Hn)
  | nl (m : Nat) (r : Hn)
  | md (mode : Nat) (r : Hn)
  | keep (ts : List Nat) (r : Hn)
  | fz (id : Nat) (r : Hn)
  | sp (t : Nat) (m : Nat) (ks ms : List Nat) (Γ : Shp) (a b r : Hn)
  | call (c : Nat) (r : Hn)
  | tl (h : Hn)
  | so (t : Nat) (a b : Hn)
  | mt (id : Nat) (path : List PS) (e : TypeId) (r : Hn)
  | op (src : Src) (id d : Nat) (r : Hn)
  | fm (id : Nat) (r : Hn)
inductive An where
  | nil
  | reg (h : Hn)
  | two (a b : An)
  | un (a : An)
  | lp (ks ms : List Nat) (Γ : Shp) (exs : Exs) (a : An)
  | jn (ks ms : List Nat) (exs : Exs) (a : An)
  | dr (m : Nat) (h1 h2 : Hn)
  | dm (m : Nat) (ds zs : List Nat) (h2 : Hn)
  | gh (g : Hn) (a : An)
def gTmp (ops : List Oper) (o : Oper) : Option (Option (Nat × Bool)) := match o.guard with
  | none => some none
  | some (j, want) => match ops[j]? with
    | some p => match p.dst with
      | some t => some (some (t, want))
      | none => none
    | none => none
def noId (d : Nat) : AV → Bool
  | .p id _ => !Nat.beq id d
  | .e id _ => !Nat.beq id d
  | .s id => !Nat.beq id d
  | .m id => !Nat.beq id d
  | .w id _ _ => !Nat.beq id d
  | .f _ c => noId d c
  | .ag l => noId d l
  | .tp l => noId d l
  | .cons x r => noId d x && noId d r
  | _ => true
def freshM (d : Nat) : List (Nat × Ob) → Bool
  | [] => true
  | (k, .var _ c) :: l => !Nat.beq k d && noId d c && freshM d l
  | (k, .mapT _ _ _ _ _ _ (some q)) :: l => !Nat.beq k d && !Nat.beq q.2 d && freshM d l
  | (k, _) :: l => !Nat.beq k d && freshM d l
def dropId (d : Nat) : List En → List En
  | [] => []
  | e :: l => bif noId d e.av then e :: dropId d l else dropId d l
def offF (d : Nat) : List En → Bool
  | [] => true
  | e :: l => !(Nat.beq e.t d || usesT d e.cs) && offF d l
def offI (d : Nat) : List En → Bool
  | [] => true
  | e :: l => noId d e.av && offI d l
def newOk (ri : List (Nat × Nat)) (d : Nat) (Γk : List Nat) (S : XS) (M : List (Nat × Ob)) : List Nat → Bool
  | [] => true
  | j :: l => (bif isSomeN (lookN ri j) then memN Γk j else
      freshM (newId ri d j) M && freshM (newId ri d j) S.fixM && offI (newId ri d j) S.fix && offI (newId ri d j) S.env && !memN S.prot (newId ri d j) && !memN Γk j) && newOk ri d Γk S M l
def XS.put (S : XS) (d : Nat) (cs : Conds) (x : AV) : XS := { S with env := ⟨d, cs, x⟩ :: remE S.env d }
def XS.born (S : XS) (d : Nat) (o : Ob) : XS := { S with env := dropId d S.env, mem := (d, o) :: S.mem }
def XS.set (S : XS) (id : Nat) (o : Ob) : XS := { S with mem := setM S.mem id o }
def navA : List PS → AV → Option AV
  | [], x => some x
  | .f k off :: ps, .ag l => match kid l k with
    | some (y, o) => bif Nat.beq o off then navA ps y else none
    | none => none
  | _, _ => none
def noS (d : Nat) : AV → Bool
  | .e id _ => !Nat.beq id d
  | .s id => !Nat.beq id d
  | .f _ c => noS d c
  | .ag l => noS d l
  | .tp l => noS d l
  | .cons x r => noS d x && noS d r
  | _ => true
def noSE (d : Nat) : List En → Bool
  | [] => true
  | e :: l => noS d e.av && noSE d l
def noSM (d : Nat) : List (Nat × Ob) → Bool
  | [] => true
  | (k, .var _ c) :: l => !Nat.beq k d && noS d c && noSM d l
  | (k, .mapT _ _ _ _ _ _ (some q)) :: l => !Nat.beq k d && !Nat.beq q.2 d && noSM d l
  | (k, _) :: l => !Nat.beq k d && noSM d l
def XS.swap (S : XS) (id : Nat) (o : Ob) : XS := { S with mem := (id, o) :: remM S.mem id }
def quietS (S : XS) (id : Nat) : Bool := noSE id S.env && noSE id S.fix && noSM id (remM S.mem id) && noSM id S.fixM && !memN S.prot id
def optL {ν τ : Type} (f : ν → List τ) : Option ν → List τ
  | some y => f y
  | none => []
def srcV (S : XS) : Src → Option AV
  | .t n => S.ev [] (.tmp n)
  | .v id path => match lookM S.flat.mem id with
    | some (.var _ c) => nav path c
    | _ => none
section
variable {R : Type} (Y : TX) (n : Nat)
def okW (S : XS) (d : Nat) : Bool := Nat.blt d n && Nat.blt d 100000 && offF d S.fix
def okB (S : XS) (d : Nat) : Bool := freshM d S.mem && freshM d S.fixM && offI d S.fix && !memN S.prot d
def stepS0 (o : Oper) (S : XS) (k : XS → Option R) : Option R :=
  match o.op, o.dst with
  | .alloc t, some d => match lookT Y.T t, lookN Y.tys t with
    | some e, some ty => match zeroAV ty e.z with
      | some c => bif okW n S d && okB S d && c.isVal && noId d c then k ((S.born d (.var t c)).put d [] (.p d [])) else none
      | none => none
    | _, _ => none
  | .box t x, some d => match S.ev [] x with
    | some c => bif okW n S d && okB S d && c.isVal && c.inMem && noId d c then k ((S.born d (.var t c)).put d [] (.p d [])) else none
    | none => none
  | .store t p x, none => match lookT Y.T t, S.ev [] p, S.ev [] x with
    | some e, some (.p id path), some v => match lookM S.mem id with
      | some (.var tid c) => match setP path c v with
        | some c' => bif Nat.beq e.size v.size && v.isVal && v.inMem then k (S.set id (.var tid c')) else none
        | none => none
      | _ => none
    | some e, some (.e id (.i j sz :: ps)), some v => match lookM S.mem id with
      | some (.row et u xs) => (idx xs j).bind fun y => match setP ps (.d u y) v with
        | some c => match asD S.flat.mem c u with
          | some z => bif Nat.beq e.size v.size && Nat.beq sz u.size && Nat.ble 1 u.size && v.isVal && v.inMem then k (S.set id (.row et u (xs.set j.toNat z))) else none
          | none => none
        | none => none
      | _ => none
    | _, _, _ => none
  | .makeMap t rs, some d => match lookT Y.T t with
    | some te => match te.d with
      | .map kt et => match lookN Y.tys kt, lookN Y.tys et with
        | some kk, some v => bif okW n S d && okB S d && isNone rs then k ((S.born d (.map kk v [])).put d [] (.m d)) else none
        | _, _ => none
      | _ => none
    | none => none
  | .mapUpdate t m ky x, none => match lookT Y.T t, S.ev [] m, S.ev [] ky, S.ev [] x with
    | some te, some (.m id), some kv, some xv => match te.d, lookM S.mem id with
      | .map kt et, some (.map kk v xs) => match lookT Y.T kt, asD [] kv kk, asD S.flat.mem xv v with
        | some tk, some key, some y => bif descK Y.T kk tk.d && (kk.agg == kv.isAgg) && (v.agg == xv.isAgg) then k (S.set id (.map kk v (putL key y xs))) else none
        | _, _, _ => none
      | .map kt et, some (.mapT kk v path e u xs (some (kh, h0))) => match lookT Y.T kt, asD [] kv kk, asD S.flat.mem xv v, navA path xv with
        | some tk, some key, some y, some (.s h1) => match lookM S.mem h1 with
          | some (.tail e1 u1 _) => bif descK Y.T kk tk.d && (kk.agg == kv.isAgg) && (v.agg == xv.isAgg) && Nat.beq e e1 && Ty.beq u u1 && quietS { S with mem := remM S.mem h1 } id then
              (chk (eqK kk key kh)).bind fun _ => k (XS.swap { S with mem := remM S.mem h1 } id (.mapT kk v path e u (putL kh y xs) none)) else none
          | _ => none
        | _, _, _, _ => none
      | _, _ => none
    | _, _, _, _ => none
  | .makeSlice t l c, some d => match lookT Y.T t, S.ev [] l, S.ev [] c with
    | some te, some lv, some cv => match isSliceD te.d, isInt lv, isInt cv with
      | some e, some (_, nl), some (_, nc) => match lookT Y.T e, lookN Y.tys e with
        | some ee, some u => match zeroAV u ee.z with
          | some za => match asD [] za u with
            | some z => bif okW n S d && okB S d && Nat.beq ee.size u.size && Nat.beq (cellsL ee.z).length ee.size && Nat.ble 1 ee.bytes then
                (mkL ee.bytes nl nc z).bind fun zs => k ((S.born d (.row e u zs)).put d [] (.s d)) else none
            | none => none
          | none => none
        | _, _ => none
      | _, _, _ => none
    | _, _, _ => none
  | .buildSlice t len ⟨parts⟩, some d => match lookT Y.T t with
    | some te => match isSliceD te.d with
      | some e => match lookT Y.T e, lookN Y.tys e with
        | some ee, some u => bif okW n S d && Nat.beq ee.size u.size then (match len, parts with
          | 0, [] => bif okB S d then k ((S.born d (.row e u [])).put d [] (.s d)) else none
          | 0, _ => none
          | m + 1, ps => match evParts' S.flat [] ps with
            | some vs => match asLs S.flat.mem u vs 0 with
              | some xs => bif Nat.beq xs.length (m + 1) && Nat.ble ((m + 1) * ee.size) 16777216 && Nat.ble 1 ee.size && Nat.beq (cellsL ee.z).length ee.size then k (S.put d [] (.d (.sl u) xs)) else none
              | none => none
            | none => none) else none
        | _, _ => none
      | none => none
    | none => none
  | .call ⟨.builtin .append, ⟨[s, x]⟩, ⟨[t, t']⟩⟩, some d => match lookT Y.T t, S.ev [] s, S.ev [] x with
    | some te, some sv, some xv => match isSliceD te.d with
      | some e => match lookT Y.T e with
        | some ee => bif okW n S d && Nat.beq t t' && Nat.ble 1 ee.size && Nat.ble 1 ee.bytes && Nat.beq (cellsL ee.z).length ee.size then (match sv with
          | .ns => match lookN Y.tys e with
            | some u => match asD S.flat.mem xv (.sl u) with
              | some ys => bif okB S d && Nat.beq ee.size u.size then (app ee.bytes [] ys).bind fun zs => k ((S.born d (.row e u zs)).put d [] (.s d)) else none
              | none => none
            | none => none
          | .z => match lookN Y.tys e with
            | some u => match asD S.flat.mem xv (.sl u) with
              | some ys => bif okB S d && Nat.beq ee.size u.size then (app ee.bytes [] ys).bind fun zs => k ((S.born d (.row e u zs)).put d [] (.s d)) else none
              | none => none
            | none => none
          | .s id => match lookM S.mem id with
            | some (.row e' u xs) => match asD S.flat.mem xv (.sl u) with
              | some ys => bif okB ⟨S.env, S.fix, remM S.mem id, S.fixM, S.prot⟩ d && Nat.beq ee.size u.size && Nat.beq e e' then
                  (app ee.bytes xs ys).bind fun zs => k (({ S with mem := remM S.mem id }.born d (.row e u zs)).put d [] (.s d)) else none
              | none => none
            | some (.tail e' u xs) => match asD S.flat.mem xv (.sl u) with
              | some ys => bif okB ⟨S.env, S.fix, remM S.mem id, S.fixM, S.prot⟩ d && Nat.beq ee.size u.size && Nat.beq e e' then
                  (app ee.bytes xs ys).bind fun zs => k (({ S with mem := remM S.mem id }.born d (.tail e u zs)).put d [] (.s d)) else none
              | none => none
            | _ => none
          | _ => none) else none
        | none => none
      | none => none
    | _, _, _ => none
  | op, some d => bif okW n S d then stepQ Y S.flat [] op fun v => k (S.put d [] v) else none
  | _, none => none
def extKind (o : Oper) (S : XS) : Nat := match o.op with
  | .call ⟨.builtin .append, ⟨[_, x]⟩, _⟩ => match S.ev [] x with
    | some (.d .str _) => 1
    | _ => 0
  | .convert _ t x => match S.ev [] x with
    | some (.d .str _) => match lookT Y.T t with
      | some te => match isSliceD te.d with
        | some _ => 2
        | none => 0
      | none => 0
    | _ => 0
  | .store _ p _ => match S.ev [] p with
    | some (.p _ path) => bif hasI path then 3 else 0
    | _ => 0
  | _ => 0
def isZ8 : Value → Bool
  | .int .u8 0 => true
  | _ => false
def isU8 : TypeDesc → Bool
  | .int .u8 => true
  | _ => false
def isStrD : TypeDesc → Bool
  | .string => true
  | _ => false
def sbytes (l : Str) : List Int := l.map fun b => (b.toNat : Int)
def stepX (o : Oper) (S : XS) (k : XS → Option R) : Option R := match o.op, o.dst with
  | .call ⟨.builtin .append, ⟨[s, x]⟩, ⟨[t, t']⟩⟩, some d => match lookT Y.T t, lookT Y.T t', S.ev [] s, S.ev [] x with
    | some te, some te', some sv, some (.d .str l) => match isSliceD te.d with
      | some e => match lookT Y.T e with
        | some ee => bif okW n S d && isStrD te'.d && isZ8 ee.z && Nat.beq ee.size 1 && Nat.beq ee.bytes 1 then (match sv with
          | .ns => bif okB S d then (app 1 [] (sbytes l)).bind fun zs => k ((S.born d (.row e (.int .u8) zs)).put d [] (.s d)) else none
          | .s id => match lookM S.mem id with
            | some (.row e' (.int .u8) xs) => bif okB ⟨S.env, S.fix, remM S.mem id, S.fixM, S.prot⟩ d && Nat.beq e e' then
                (app 1 xs (sbytes l)).bind fun zs => k (({ S with mem := remM S.mem id }.born d (.row e (.int .u8) zs)).put d [] (.s d)) else none
            | _ => none
          | _ => none) else none
        | none => none
      | none => none
    | _, _, _, _ => none
  | .convert s t x, some d => match lookT Y.T s, lookT Y.T t, S.ev [] x with
    | some se, some te, some (.d .str l) => match isSliceD te.d with
      | some e => match lookT Y.T e with
        | some ee => bif okW n S d && okB S d && isU8 ee.d then (app 1 [] (sbytes l)).bind fun zs => k ((S.born d (.row e (.int .u8) zs)).put d [] (.s d)) else none
        | none => none
      | none => none
    | _, _, _ => none
  | .store t p x, none => match lookT Y.T t, S.ev [] p, S.ev [] x with
    | some e, some (.p id path), some v => match lookM S.mem id with
      | some (.var tid c) => setC S.flat.mem path c v fun c' => bif Nat.beq e.size v.size && v.isVal && v.inMem then k (S.set id (.var tid c')) else none
      | _ => none
    | _, _, _ => none
  | _, _ => none
def stepS (o : Oper) (S : XS) (k : XS → Option R) : Option R := match extKind Y o S with
  | 0 => stepS0 Y n o S k
  | _ + 1 => stepX Y n o S k
def stepCall (c : Con) (o : Oper) (S : XS) (k : XS → Option R) : Option R :=
  match o.op, o.dst with
  | .call ⟨.value x, ⟨xs⟩, _⟩, some d => match S.ev [] x with
    | some (.f f caps) => bif Nat.beq c.f f && okW n S d then (match argE S xs 0, capE caps xs.length with
      | some es0, some cs => callE c d S (es0 ++ cs) (findR c.Γ ⟨es0 ++ cs, S.mem⟩) k
      | _, _ => none) else none
    | _ => none
  | _, _ => none
where
  callE (c : Con) (d : Nat) (S : XS) (es : List En) (ri : List (Nat × Nat)) (k : XS → Option R) : Option R :=
    match decF c.Γ ri [] es S.mem S.fixM with
    | some x => bif noTail c.Γ.mem && Nat.beq es.length c.Γ.env.length then (c.fn x).bind fun y => callR c d S ri (splitM (frz c.Γ ri es S.mem) (lentIds ri c.Γ.mem)).1 (enc c.Δ y) k else none
    | none => none
  callR (c : Con) (d : Nat) (S : XS) (ri : List (Nat × Nat)) (M : List (Nat × Ob)) (S1 : St) (k : XS → Option R) : Option R :=
    bif newOk ri d (c.Γ.mem.map Prod.fst) S M (S1.mem.map Prod.fst) && nodupN (S1.mem.map fun q => newId ri d q.1) && allMem (S1.mem.map Prod.fst) (idsE S1.env) && allMem (S1.mem.map Prod.fst) (idsM S1.mem) then
      k (XS.put ⟨S.env, S.fix, renMem (newId ri d) S1.mem ++ M, S.fixM, S.prot⟩ d [] (renAV (newId ri d) (resAV S1.env))) else none
def stepC (t : Nat) (want : Bool) (o : Oper) (S : XS) (k : XS → Option R) : Option R :=
  match lookE S.flat.env t, o.dst with
  | some ⟨_, cs, .d .bool _⟩, some d => bif okW n S d && !Nat.beq t d && !usesT d cs then (match evalP Y S.flat ((t, want) :: cs) o.op with
      | some v => k (S.put d ((t, want) :: cs) v)
      | none => none) else none
  | _, _ => none
def stepG (ops : List Oper) (o : Oper) (S : XS) (k : XS → Option R) : Option R := match gTmp ops o with
  | some none => stepS Y n o S k
  | some (some (t, want)) => stepC Y n t want o S k
  | none => none
def skipO (o : Oper) (S : XS) (k : XS → Option R) : Option R := match o.dst with
  | some d => bif okW n S d then k (S.put d [] (.tp .nil)) else none
  | none => k S
def stepL (ops : List Oper) (o : Oper) (S : XS) (k : XS → Option R) : Option R := match gTmp ops o with
  | some none => stepS Y n o S k
  | some (some (t, want)) => match lookE S.flat.env t with
    | some ⟨_, [], .d .bool b⟩ => match b == want with
      | true => stepS Y n o S k
      | false => skipO n o S k
    | some ⟨_, [], .tp .nil⟩ => skipO n o S k
    | _ => none
  | none => none
def runN (st : Oper → XS → (XS → Option R) → Option R) : List Oper → XS → (XS → Option R) → Option R
  | [], S, k => k S
  | o :: l, S, k => st o S fun S' => runN st l S' k
end
def runH (Y : TX) (K : List Con) (n : Nat) (ops : List Oper) {R : Type} : Hn → List Oper → XS → (XS → Option R) → Option R
  | .done, l, S, k => match l with
    | [] => k S
    | _ :: _ => none
  | .n m r, l, S, k => runN (stepG Y n ops) (l.take m) S fun S' => runH Y K n ops r (l.drop m) S' k
  | .nl m r, l, S, k => runN (stepL Y n ops) (l.take m) S fun S' => runH Y K n ops r (l.drop m) S' k
  | .call c r, l, S, k => match K[c]?, l with
    | some con, o :: l' => match gTmp ops o with
      | some none => stepCall n con o S fun S' => runH Y K n ops r l' S' k
      | some (some (t, want)) => match lookE S.flat.env t with
        | some ⟨_, [], .d .bool b⟩ => match b == want with
          | true => stepCall n con o S fun S' => runH Y K n ops r l' S' k
          | false => none
        | _ => none
      | none => none
    | _, _ => none
  | .fz id r, l, S, k => runH Y K n ops r l { S with mem := freezeX [id] S.mem } k
  | .keep ts r, l, S, k => runH Y K n ops r l { S with env := selE S.env ts } k
  | .mt id path e r, l, S, k => match lookM S.mem id with
    | some (.map kk v []) => match slAt v path with
      | some ⟨u, _⟩ => bif quietS S id then runH Y K n ops r l (S.swap id (.mapT kk v path e u [] none)) k else none
      | none => none
    | _ => none
  | .op src id d r, l, S, k => match lookM S.mem id with
    | some (.mapT kk v path e u xs none) => match slAt v path, srcV S src with
      | some ⟨u1, f⟩, some av => match asD S.flat.mem av kk with
        | some key => bif keyT kk && quietS S id && okB S d then runH Y K n ops r l ((S.swap id (.mapT kk v path e u xs (some (key, d)))).born d (.tail e u1 (optL f (findL key xs)))) k else none
        | none => none
      | _, _ => none
    | _ => none
  | .fm id r, l, S, k => match lookM S.mem id with
    | some (.mapT kk v _ _ _ xs none) => runH Y K n ops r l (S.swap id (.map kk v xs)) k
    | _ => none
  | .sp t m ks ms Γ a b r, l, S, k => match lookE S.env t with
    | some ⟨_, [], .d .bool v⟩ => bif offF t S.fix then
        (if v = true then runH Y K n ops (R := Γ.De) a (l.take m) ((XS.put S t [] (.d .bool true)).ent ks ms) (fun S' => S'.dec Γ)
          else runH Y K n ops (R := Γ.De) b (l.take m) ((XS.put S t [] (.d .bool false)).ent ks ms) (fun S' => S'.dec Γ)).bind
          fun y => runH Y K n ops r (l.drop m) (XS.out (XS.put S t [] (.d .bool v)) ks ms (enc Γ y)) k else none
    | _ => none
  | _, _, _, _ => none
section
variable {R : Type} (Y : TX) (n : Nat)
def stepT (o : Oper) (S : XS) (k : XS → Option R) : Option R := match o.dst with
  | some d => bif okW n S d then stepQ Y S.flat [] o.op fun v => k (S.put d [] v) else none
  | none => none
def stepGT (ops : List Oper) (o : Oper) (S : XS) (k : XS → Option R) : Option R := match gTmp ops o with
  | some none => stepT Y n o S k
  | some (some (t, want)) => stepC Y n t want o S k
  | none => none
def stepLT (ops : List Oper) (o : Oper) (S : XS) (k : XS → Option R) : Option R := match gTmp ops o with
  | some none => stepT Y n o S k
  | some (some (t, want)) => match lookE S.flat.env t with
    | some ⟨_, [], .d .bool b⟩ => match b == want with
      | true => stepT Y n o S k
      | false => skipO n o S k
    | some ⟨_, [], .tp .nil⟩ => skipO n o S k
    | _ => none
  | none => none
end
def runT (Y : TX) (n : Nat) (ops : List Oper) {R : Type} : Hn → List Oper → XS → (XS → Option R) → Option R
  | .done, l, S, k => match l with
    | [] => k S
    | _ :: _ => none
  | .n m r, l, S, k => runN (stepGT Y n ops) (l.take m) S fun S' => runT Y n ops r (l.drop m) S' k
  | .nl m r, l, S, k => runN (stepLT Y n ops) (l.take m) S fun S' => runT Y n ops r (l.drop m) S' k
  | .sp t m ks ms Γ a b r, l, S, k => match lookE S.env t with
    | some ⟨_, [], .d .bool v⟩ => bif offF t S.fix then
        (if v = true then runT Y n ops (R := Γ.De) a (l.take m) ((XS.put S t [] (.d .bool true)).ent ks ms) (fun S' => S'.dec Γ)
          else runT Y n ops (R := Γ.De) b (l.take m) ((XS.put S t [] (.d .bool false)).ent ks ms) (fun S' => S'.dec Γ)).bind
          fun y => runT Y n ops r (l.drop m) (XS.out (XS.put S t [] (.d .bool v)) ks ms (enc Γ y)) k else none
    | _ => none
  | _, _, _, _ => none
inductive Gk where
  | v
  | r (u : Ty) (e : TypeId) (zs : List u.De) (c : Nat)
  | c
  | u
  | t (u : Ty) (e : TypeId) (zs : List u.De) (h : Nat)
  | o (t : TypeId) (c : AV)
  | b (ns : List Nat)
  | w (id : Nat) (ob : Ob)
abbrev Got := List (Nat × AV × Gk)
def lookG : Got → Nat → Option AV
  | [], _ => none
  | (d, v, .v) :: l, t => bif Nat.beq d t then some v else lookG l t
  | (d, _, _) :: l, t => bif Nat.beq d t then none else lookG l t
def isRowG : Got → Nat → Bool
  | [], _ => false
  | (d, _, .r _ _ _ _) :: l, t => Nat.beq d t || isRowG l t
  | _ :: l, t => isRowG l t
def isVarG : Got → Nat → Bool
  | [], _ => false
  | (d, _, .o _ _) :: l, t => Nat.beq d t || isVarG l t
  | _ :: l, t => isVarG l t
def isSkipG : Got → Nat → Bool
  | [], _ => false
  | (d, _, .u) :: l, t => Nat.beq d t || isSkipG l t
  | (d, _, _) :: l, t => bif Nat.beq d t then false else isSkipG l t
def cpRow (l0 : List Oper) (ds : List Nat) (i : Nat) (acc : Got) : Op → Option Nat
  | .move (.tmp t) => bif isRowG acc t && predB l0 i (ds.idxOf t) then some t else none
  | .assign (.tmp t) => bif isRowG acc t && predB l0 i (ds.idxOf t) then some t else none
  | _ => none
def opTmps (o : Oper) : List Nat := o.op.operands.toList.filterMap fun x => match x with
  | .tmp t => some t
  | _ => none
def varE : List En → List En
  | [] => []
  | e :: l => bif Nat.blt e.t 100000 then varE l else (match e.cs with
    | [] => e :: varE l
    | _ :: _ => varE l)
def locE (l0 : List Oper) (ds : List Nat) (i : Nat) (acc : Got) (env : List En) : List Nat → List En
  | [] => varE env
  | t :: ts => match lookG acc t with
    | some v => bif predB l0 i (ds.idxOf t) then ⟨t, [], v⟩ :: locE l0 ds i acc env ts else locE l0 ds i acc env ts
    | none => bif notIn ds t then (match lookE env t with
      | some ⟨t', [], v⟩ => ⟨t', [], v⟩ :: locE l0 ds i acc env ts
      | _ => locE l0 ds i acc env ts) else locE l0 ds i acc env ts
def noneOf (ds : List Nat) : AV → Bool := fun x => ds.all fun d => noId d x
def guardD (l0 : List Oper) (ds : List Nat) (i : Nat) (acc : Got) (o : Oper) : Option Bool := match gTmp l0 o with
  | none => none
  | some none => some true
  | some (some (t, want)) => bif predB l0 i (ds.idxOf t) then (match lookG acc t with
    | some (.d .bool b) => some (b == want)
    | some _ => none
    | none => bif isSkipG acc t then some false else none) else none
def argD (S : St) : List Operand → Nat → Option (List En)
  | [], _ => some []
  | x :: l, i => match ev S [] x, argD S l (i + 1) with
    | some v, some r => bif Nat.blt i 100000 then some (⟨i, [], v⟩ :: r) else none
    | _, _ => none
def isNilL {α : Type} : List α → Bool
  | [] => true
  | _ => false
def callD {R : Type} (c : Con) (op : Op) (S : St) (k : AV → Option R) : Option R := match op with
  | .call ⟨.value (.func f), ⟨xs⟩, _⟩ => bif Nat.beq c.f f && isNilL c.Γ.mem && isNilL c.Δ.mem then (match argD S xs 0 with
    | some es => bif Nat.beq es.length c.Γ.env.length then (match decR c.Γ [] [] es S.mem [] with
      | some x => (c.fn x).bind fun y => bif isNilL (idsE (enc c.Δ y).env) then k (resAV (enc c.Δ y).env) else none
      | none => none) else none
    | none => none) else none
  | _ => none
def curG (id d : Nat) : Gk → Option Ob → Option Ob
  | .r u e zs _, c => bif Nat.beq d id then some (.row e u zs) else c
  | .t u e zs h, c => bif Nat.beq d id then some (.tail e u zs) else (bif Nat.beq h id then none else c)
  | .o t x, c => bif Nat.beq d id then some (.var t x) else c
  | .w j ob, c => bif Nat.beq j id then some ob else c
  | _, c => c
def touches (id d : Nat) : Gk → Bool
  | .r _ _ _ _ => Nat.beq d id
  | .t _ _ _ h => Nat.beq d id || Nat.beq h id
  | .o _ _ => Nat.beq d id
  | .w j _ => Nat.beq j id
  | _ => false
def curO (E : Nat → Bool) (id : Nat) : Got → Nat → Option Ob → Option Ob
  | [], _, c => c
  | (d, _, q) :: l, j, c => curO E id l (j + 1) (bif E j then curG id d q c else c)
def allE : Nat → Bool := fun _ => true
def behT (l0 : List Oper) (i id : Nat) : Got → Nat → Bool
  | [], _ => true
  | (d, _, q) :: l, j => (!touches id d q || behindB l0 l0.length i j) && behT l0 i id l (j + 1)
def noTouch (id : Nat) : Got → Bool
  | [] => true
  | (d, _, q) :: l => !touches id d q && noTouch id l
def mayT (o : Oper) : Bool := match o.dst with
  | none => true
  | some _ => match o.op with
    | .call ⟨.builtin .append, _, _⟩ => true
    | _ => false
def lateT (l0 : List Oper) (p i : Nat) : Bool := (List.range p).all fun k => Nat.ble k i || (match l0[k]? with
  | some o => !mayT o
  | none => false) || behindB l0 l0.length k i
def visZ (l0 : List Oper) (p i : Nat) (acc : Got) (Zs : List (Nat × Ob)) : List (Nat × Ob) := match Zs with
  | [] => []
  | _ => bif lateT l0 p i then Zs.filterMap fun q => bif behT l0 i q.1 acc 0 then (match curO allE q.1 acc 0 (lookM Zs q.1) with
    | some ob => some (q.1, ob)
    | none => none) else none else []
def keysM (Zs : List (Nat × Ob)) : List Nat := Zs.map Prod.fst
section
variable {R : Type} (Y : TX) (n : Nat) (l0 : List Oper) (ds : List Nat) (Zs : List (Nat × Ob)) (S0 : XS)
def locOf (i : Nat) (acc : Got) (o : Oper) : St := ⟨locE l0 ds i acc S0.flat.env (opTmps o), S0.flat.mem ++ visZ l0 ds.length i acc Zs⟩
def curA (i : Nat) (acc : Got) (id : Nat) : Option Ob := bif behT l0 i id acc 0 then curO allE id acc 0 (lookM Zs id) else none
def curB (i : Nat) (acc : Got) (id : Nat) : Option Ob := bif isSomeN (lookM Zs id) then curA l0 Zs i acc id else none
def okZ (d : Nat) (acc : Got) : Bool := okB S0 d && freshM d Zs && noTouch d acc
def makeD (S : St) (op : Op) (k : (u : Ty) → TypeId → List u.De → Nat → Option R) : Option R := match op with
  | .makeSlice t lo co => match lookT Y.T t, ev S [] lo, ev S [] co with
    | some te, some lv, some cv => match isSliceD te.d, isInt lv, isInt cv with
      | some e, some (_, nl), some (_, nc) => match lookT Y.T e, lookN Y.tys e with
        | some ee, some u => match zeroAV u ee.z with
          | some za => match asD [] za u with
            | some z => bif Nat.beq ee.size u.size && Nat.beq (cellsL ee.z).length ee.size && Nat.ble 1 ee.bytes then (mkL ee.bytes nl nc z).bind fun zs => k u e zs nc.toNat else none
            | none => none
          | none => none
        | _, _ => none
      | _, _, _ => none
    | _, _, _ => none
  | _ => none
def litD (S : St) (op : Op) (k : AV → Option R) : Option R := match op with
  | .buildSlice t (m + 1) ⟨ps⟩ => match lookT Y.T t with
    | some te => match isSliceD te.d with
      | some e => match lookT Y.T e, lookN Y.tys e with
        | some ee, some u => match evParts' S [] ps with
          | some vs => match asLs S.mem u vs 0 with
            | some xs => bif Nat.beq ee.size u.size && Nat.beq xs.length (m + 1) && Nat.ble ((m + 1) * ee.size) 16777216 && Nat.ble 1 ee.size && Nat.beq (cellsL ee.z).length ee.size then k (.d (.sl u) xs) else none
            | none => none
          | none => none
        | _, _ => none
      | none => none
    | none => none
  | _ => none
def appD (C : Nat → Option Ob) (S : St) (op : Op) (k : (u : Ty) → TypeId → List u.De → Nat → Option R) : Option R := match op with
  | .call ⟨.builtin .append, ⟨[s, x]⟩, ⟨[t, t']⟩⟩ => match lookT Y.T t, ev S [] s, ev S [] x with
    | some te, some (.s id), some xv => match C id with
      | some (.tail e' u xs) => match isSliceD te.d with
        | some e => match lookT Y.T e, asD S.mem xv (.sl u) with
          | some ee, some ys => bif Nat.beq t t' && Nat.ble 1 ee.size && Nat.ble 1 ee.bytes && Nat.beq (cellsL ee.z).length ee.size && Nat.beq ee.size u.size && Nat.beq e e' && !isNilL ys then (app ee.bytes xs ys).bind fun zs => k u e zs id else none
          | _, _ => none
        | none => none
      | _ => none
    | _, _, _ => none
  | _ => none
def isNs (S : St) : Op → Bool
  | .call ⟨.builtin .append, ⟨[s, _]⟩, _⟩ => match ev S [] s with
    | some .ns => true
    | _ => false
  | _ => false
def napD (S : St) (op : Op) (k : (u : Ty) → TypeId → List u.De → Nat → Option R) : Option R := match op with
  | .call ⟨.builtin .append, ⟨[s, x]⟩, ⟨[t, t']⟩⟩ => match lookT Y.T t, ev S [] s, ev S [] x with
    | some te, some .ns, some xv => match isSliceD te.d with
      | some e => match lookT Y.T e, lookN Y.tys e with
        | some ee, some u => match asD S.mem xv (.sl u) with
          | some ys => bif Nat.beq t t' && Nat.ble 1 ee.size && Nat.ble 1 ee.bytes && Nat.beq (cellsL ee.z).length ee.size && Nat.beq ee.size u.size then (app ee.bytes [] ys).bind fun zs => k u e zs 0 else none
          | none => none
        | _, _ => none
      | none => none
    | _, _, _ => none
  | _ => none
def allocD (op : Op) (k : TypeId → AV → Option R) : Option R := match op with
  | .alloc t => match lookT Y.T t, lookN Y.tys t with
    | some e, some ty => match zeroAV ty e.z with
      | some c => bif c.isVal && isNilL (allIds c) then k t c else none
      | none => none
    | _, _ => none
  | _ => none
def rowsG (acc : Got) : List Nat → List Nat
  | [] => []
  | t :: ts => bif isRowG acc t then t :: rowsG acc ts else rowsG acc ts
def predsB (l0 : List Oper) (ds : List Nat) (i : Nat) : List Nat → Bool
  | [] => true
  | t :: ts => predB l0 i (ds.idxOf t) && predsB l0 ds i ts
def filE (ds : List Nat) : List En → List En
  | [] => []
  | e :: l => bif noneOf ds e.av then e :: filE ds l else filE ds l
def locB (ns : List Nat) (S : St) : St := ⟨ns.map (fun t => ⟨t, [], .s t⟩) ++ filE ds S.env, []⟩
inductive Kd where
  | mk | lit | q | ap | al | bd
def kdOf : Op → Kd
  | .makeSlice _ _ _ => .mk
  | .buildSlice _ _ _ => .lit
  | .call ⟨.builtin .append, _, _⟩ => .ap
  | .alloc _ => .al
  | .build _ _ => .bd
  | _ => .q
def targetD (S : St) (i : Nat) (acc : Got) (p : Operand) : Option (Bool × Bool × Nat × List PS) := match ev S [] p with
  | some (.p id path) => some (true, false, id, path)
  | some (.e id path) => some (true, true, id, path)
  | some _ => none
  | none => match p with
    | .tmp t => bif isVarG acc t && predB l0 i (ds.idxOf t) then some (false, false, t, []) else none
    | _ => none
def storeD (S : St) (i : Nat) (acc : Got) (op : Op) (k : Nat → Ob → Option R) : Option R := match op with
  | .store t p x => match lookT Y.T t, targetD l0 ds S i acc p, ev S [] x with
    | some e, some (b, el, id, path), some v => bif Nat.beq e.size v.size && v.isVal && v.inMem then (match curA l0 Zs i acc id, path with
      | some (.row et u xs), .i j sz :: ps => (idx xs j).bind fun y => match setP ps (.d u y) v with
        | some c => match asD S.mem c u with
          | some z => bif b && el && Nat.beq sz u.size && Nat.ble 1 u.size && isSomeN (lookM Zs id) then k id (.row et u (xs.set j.toNat z)) else none
          | none => none
        | none => none
      | some (.var tid c), path => match setP path c v with
        | some c' => bif noneOf ds c' && !el && (!b || isSomeN (lookM Zs id)) then k id (.var tid c') else none
        | none => none
      | _, _ => none) else none
    | _, _, _ => none
  | _ => none
def stepD (o : Oper) (i : Nat) (acc : Got) (k : Nat × AV × Gk → Option R) : Option R := match o.dst with
  | none => bif Nat.beq (ds.getD i 0) (1000000000 + i) then (match guardD l0 ds i acc o with
    | some true => storeD Y l0 ds Zs (locOf l0 ds Zs S0 i acc o) i acc o.op fun id ob => k (1000000000 + i, .tp .nil, .w id ob)
    | _ => none) else none
  | some d => bif okW n S0 d && Nat.beq (ds.getD i 0) d then (match guardD l0 ds i acc o with
    | some false => k (d, .tp .nil, .u)
    | some true => match cpRow l0 ds i acc o.op with
      | some t => k (d, .s t, .c)
      | none => match kdOf o.op with
        | .mk => makeD Y (locOf l0 ds Zs S0 i acc o) o.op fun u e zs c => bif okZ Zs S0 d acc then k (d, .s d, .r u e zs c) else none
        | .lit => litD Y (locOf l0 ds Zs S0 i acc o) o.op fun v => k (d, v, .v)
        | .ap => bif isNs (locOf l0 ds Zs S0 i acc o) o.op then napD Y (locOf l0 ds Zs S0 i acc o) o.op fun u e zs c => bif okZ Zs S0 d acc then k (d, .s d, .r u e zs c) else none
          else appD Y (curB l0 Zs i acc) (locOf l0 ds Zs S0 i acc o) o.op fun u e zs h => bif okZ Zs S0 d acc then k (d, .s d, .t u e zs h) else none
        | .al => allocD Y o.op fun t c => bif okZ Zs S0 d acc then k (d, .p d [], .o t c) else none
        | .bd => bif isNilL (rowsG acc (opTmps o)) then stepQ Y (locOf l0 ds Zs S0 i acc o) [] o.op fun v => bif noneOf ds v then k (d, v, .v) else none
          else bif predsB l0 ds i (rowsG acc (opTmps o)) then stepQ Y (locB ds (rowsG acc (opTmps o)) (locOf l0 ds Zs S0 i acc o)) [] o.op fun v => bif (allIds v).all (fun j => notIn ds j || memN (rowsG acc (opTmps o)) j) then k (d, v, .b (rowsG acc (opTmps o))) else none
            else none
        | .q => stepQ Y (locOf l0 ds Zs S0 i acc o) [] o.op fun v => bif noneOf ds v then k (d, v, .v) else none
    | none => none) else none
def runDn : Nat → List Oper → Nat → Got → (List Oper → Nat → Got → Option R) → Option R
  | 0, l, i, acc, k => k l i acc
  | _ + 1, [], _, _, _ => none
  | m + 1, o :: l, i, acc, k => stepD Y n l0 ds Zs S0 o i acc fun g => runDn m l (i + 1) (acc ++ [g]) k
def setG : Got → Nat → Bool → Got
  | [], _, _ => []
  | (d, v, q) :: l, t, b => bif Nat.beq d t then (d, .d .bool b, q) :: l else (d, v, q) :: setG l t b
def runD (K : List Con) : Hn → List Oper → Nat → Got → (Hn → Got → Option R) → Option R
  | .tl h, l, i, acc, k => match l with
    | [] => k h acc
    | _ :: _ => none
  | .n m r, l, i, acc, k => runDn Y n l0 ds Zs S0 m l i acc fun l' i' acc' => runD K r l' i' acc' k
  | .call c r, l, i, acc, k => match K[c]?, l with
    | some con, o :: l' => match o.dst with
      | some d => bif okW n S0 d && Nat.beq (ds.getD i 0) d then (match guardD l0 ds i acc o with
        | some true => callD con o.op (locOf l0 ds Zs S0 i acc o) fun v => runD K r l' (i + 1) (acc ++ [(d, v, .v)]) k
        | _ => none) else none
      | none => none
    | _, _ => none
  | .so t a b, l, i, acc, k => match lookG acc t with
    | some (.d .bool v) => if v = true then runD K a l i (setG acc t true) k else runD K b l i (setG acc t false) k
    | _ => none
  | _, _, _, _, _ => none
end
def gotE : Got → List En
  | [] => []
  | (_, _, .w _ _) :: l => gotE l
  | (d, v, _) :: l => ⟨d, [], v⟩ :: gotE l
def rowIds : Got → List Nat
  | [] => []
  | (d, _, .r _ _ _ _) :: l => d :: rowIds l
  | (_, _, .v) :: l => rowIds l
  | (_, _, .c) :: l => rowIds l
  | (_, _, .u) :: l => rowIds l
  | (_, _, .b _) :: l => rowIds l
  | (d, _, .t _ _ _ _) :: l => d :: rowIds l
  | (d, _, .o _ _) :: l => d :: rowIds l
  | (_, _, .w _ _) :: l => rowIds l
def gotM (Zs : List (Nat × Ob)) (acc : Got) : List (Nat × Ob) := (keysM Zs ++ rowIds acc).filterMap fun id => match curO allE id acc 0 (lookM Zs id) with
  | some ob => some (id, ob)
  | none => none
def remEs (env : List En) : List Nat → List En
  | [] => env
  | d :: ds => remEs (remE (dropId d env) d) ds
def gotS (S0 : XS) (ds : List Nat) (Zs : List (Nat × Ob)) (acc : Got) : XS := ⟨gotE acc ++ remEs S0.env ds, S0.fix, gotM Zs acc ++ S0.mem, S0.fixM, S0.prot⟩
def finL (l : List Oper) (p : Nat) : Bool := (List.range l.length).all fun k => Nat.blt k p || (List.range k).all fun i => behindB l l.length k i
def drawB (l : List Oper) (p : Nat) (ds : List Nat) : Bool := Nat.ble p l.length && Nat.beq ds.length p && backB l && finL l p && nodupB ds
def orderB (l : List Oper) (n : Nat) : Bool := bif Nat.blt n l.length then Region.lexTailB .any l.toArray n else Nat.beq n l.length && Region.lexB .any l.toArray
def runG {R : Type} : Hn → XS → (XS → Option R) → Option R
  | .done, S, k => k S
  | .fz id r, S, k => runG r { S with mem := freezeX [id] S.mem } k
  | .mt id path e r, S, k => match lookM S.mem id with
    | some (.map kk v []) => match slAt v path with
      | some ⟨u, _⟩ => bif quietS S id then runG r (S.swap id (.mapT kk v path e u [] none)) k else none
      | none => none
    | _ => none
  | .op src id d r, S, k => match lookM S.mem id with
    | some (.mapT kk v path e u xs none) => match slAt v path, srcV S src with
      | some ⟨u1, f⟩, some av => match asD S.flat.mem av kk with
        | some key => bif keyT kk && quietS S id && okB S d then runG r ((S.swap id (.mapT kk v path e u xs (some (key, d)))).born d (.tail e u1 (optL f (findL key xs)))) k else none
        | none => none
      | _, _ => none
    | _ => none
  | .fm id r, S, k => match lookM S.mem id with
    | some (.mapT kk v _ _ _ xs none) => runG r (S.swap id (.map kk v xs)) k
    | _ => none
  | _, _, _ => none
def runI (Y : TX) (K : List Con) (n N : Nat) {R : Type} : An → Code → XS → (Ex → XS → Option R) → Option R
  | .nil, .skip, S, k => k .n S
  | .nil, .ret, S, k => k .r S
  | .nil, .exit id, S, k => k (.x id) S
  | .reg h, .region _ ⟨ops⟩ false, S, k => runH Y K n ops h ops S (k .n)
  | .dr m h1 h2, .region _ ⟨ops⟩ true, S, k => bif orderB ops m then runT Y n ops h1 (ops.take m) S fun S' => runH Y K n ops h2 (ops.drop m) S' (k .n) else none
  | .dm p ds zs h2, .region _ ⟨ops⟩ true, S, k => bif drawB ops p ds && Nat.ble n 1000000000 && nodupN (keysM (splitM S.mem zs).2) then
      runD Y n ops ds (splitM S.mem zs).2 { S with mem := (splitM S.mem zs).1 } K h2 (ops.take p) 0 [] fun h3 acc => runH Y K n ops h3 (ops.drop p) (gotS { S with mem := (splitM S.mem zs).1 } ds (splitM S.mem zs).2 acc) (k .n) else none
  | .gh g a, c, S, k => runG g S fun S' => runI Y K n N a c S' k
  | .two a b, .seq x y, S, k => runI Y K n N a x S fun e S' => match e with
    | .n => runI Y K n N b y S' k
    | .x i => k (.x i) S'
    | .r => k .r S'
  | .two a b, .cond c x y, S, k => match S.ev [] c with
    | some (.d .bool v) => if v = true then runI Y K n N a x S k else runI Y K n N b y S k
    | _ => none
  | .un a, .block id c, S, k => runI Y K n N a c S fun e S' => match e with
    | .n => k .n S'
    | .x i => bif Nat.beq i id then k .n S' else k (.x i) S'
    | .r => k .r S'
  | .lp ks ms Γ exs a, .loop c, S, k => match (S.ent ks ms).dec Γ with
    | some s0 => (loopN (fun s => runI Y K n N (R := Γ.De ⊕ SumT exs) a c ((S.ent ks ms).re (enc Γ s)) fun e S' => match e with
        | .n => (match S'.dec Γ with
          | some s' => some (.inl s')
          | none => none)
        | .x i => (match inj exs (.x i) S' with
          | some x => some (.inr x)
          | none => none)
        | .r => (match inj exs .r S' with
          | some x => some (.inr x)
          | none => none)) N s0).bind fun x => outS S ks ms k exs x
    | none => none
  | .jn ks ms exs a, c, S, k => (runI Y K n N a c (S.ent ks ms) (inj exs)).bind fun x => outS S ks ms k exs x
  | _, _, _, _ => none
def resE (Y : TX) (S : XS) : List ResultVar → Nat → Option (List En)
  | [], _ => some []
  | .cell ad t :: l, i => match evalP Y S.flat [] (.load t (.tmp ad)), resE Y S l (i + 1) with
    | some v, some r => bif Nat.blt i 100000 then some (⟨i, [], v⟩ :: r) else none
    | _, _ => none
  | .tmp t :: l, i => match S.ev [] (.tmp t), resE Y S l (i + 1) with
    | some v, some r => bif Nat.blt i 100000 then some (⟨i, [], v⟩ :: r) else none
    | _, _ => none
def keysUp : List (Nat × Sk) → Nat → Bool
  | [], _ => true
  | (t, _) :: l, i => Nat.beq t i && keysUp l (i + 1)
def fin (Y : TX) (fn : Func) (Δ : Shp) (S : XS) : Option Δ.De := match resE Y S fn.results.toList 0 with
  | some es => bif keysUp Δ.env 0 && Nat.beq es.length Δ.env.length && Nat.blt es.length 100000 then XS.dec ⟨es, [], S.mem, S.fixM, S.prot⟩ Δ else none
  | none => none
def globE (gl : List (Nat × Σ t : Ty, t.De)) : List En := gl.map fun q => ⟨100000 + q.1, [], .a q.2.1 q.2.2⟩
def runF (Y : TX) (K : List Con) (N : Nat) (fn : Func) (an : An) (Γ Δ : Shp) (x : Γ.De) : Option Δ.De := match fn.body with
  | some c => bif Nat.ble Γ.env.length fn.ntmps && (keysUp Γ.env 0 && Nat.blt Γ.env.length 100000) then runI Y K fn.ntmps N an c ⟨(enc Γ x).env, globE Y.gl, (enc Γ x).mem, [], Γ.mem.map Prod.fst⟩ fun e S => match e with
    | .x _ => none
    | .n => fin Y fn Δ S
    | .r => fin Y fn Δ S else none
  | none => none
end Gx
