/- The Go functions as Lean functions. -/
import Derived.Test.YtjjpjagokgfbdaaGreatXRn
namespace Gx
open Go Gd
set_option linter.unusedVariables false
abbrev Jw:Ty:=.st (.pr (.int .i64) (.pr (.int .i64) (.pr (.int .i64) (.pr (.int .i64) (.pr .str (.pr .str (.int .i64)))))))
abbrev Qv:Type:=Int×Int×Int×Int×Str×Str×Int
abbrev V9:Ty:=.st (.pr .str (.sl .str))
abbrev Qq:Type:=Str×(List Str)
abbrev Kp:Ty:=.st (.pr (.int .i64) (.pr (.int .i64) (.int .i64)))
abbrev Kf:Type:=Int×Int×Int
abbrev Vw:Ty:=.st (.pr .str (.sl Kp))
abbrev Qt:Type:=Str×(List Kf)
abbrev G2:Ty:=.st (.pr (.int .i64) (.pr (.int .i64) (.int .i64)))
abbrev Vt:Type:=Int×Int×Int
abbrev G3:Ty:=.st (.pr (.int .i64) (.pr .str (.pr .str (.pr (.int .i64) (.sl G2)))))
abbrev Je:Type:=Int×Str×Str×Int×(List Vt)
abbrev Kq:Ty:=.rose (.pr (.int .i64) (.pr (.int .i64) .str))
abbrev Qj:Type:=Kk (Int×Int×Str)
abbrev Vd:Ty:=.st (.pr .str (.pr Kq (.int .i64)))
abbrev Qk:Type:=Str×Qj×Int
abbrev J7:Ty:=.st (.pr .str (.pr (.int .i64) (.pr .bool (.pr (.sl V9) (.pr (.sl Vw) (.pr (.sl G3) (.sl Vd)))))))
abbrev Ql:Type:=Str×Int×Bool×(List Qq)×(List Qt)×(List Je)×(List Qk)
abbrev K8:Ty:=.st (.pr (.int .i64) (.pr (.sl .str) (.pr (.int .i64) (.pr (.int .i64) (.pr (.int .i64) .bool)))))
abbrev J5:Type:=Int×(List Str)×Int×Int×Int×Bool
abbrev Yp:Ty:=.st (.pr .str (.pr (.int .i64) (.pr (.int .i64) (.pr .str (.pr .bool (.sl K8))))))
abbrev Qn:Type:=Str×Int×Int×Str×Bool×(List J5)
abbrev Dc:Ty:=.st (.pr .str (.pr (.int .i64) (.int .i64)))
abbrev Kr:Type:=Str×Int×Int
abbrev Q9:Ty:=.st (.pr (.int .i64) (.int .i64))
abbrev Qa:Type:=Int×Int
abbrev V4:Ty:=.st (.pr (.int .i64) (.pr (.int .i64) (.pr .bool (.pr Q9 (.pr (.sl G2) (.int .i64))))))
abbrev Yj:Type:=Int×Int×Bool×Qa×(List Vt)×Int
abbrev Vx:Ty:=.st (.pr (.sl Jw) (.pr (.sl J7) (.pr (.sl Yp) (.pr (.sl Dc) (.pr (.sl (.int .i64)) (.sl V4))))))
abbrev Qz:Type:=(List Qv)×(List Ql)×(List Qn)×(List Kr)×(List Int)×(List Yj)
abbrev J2:Ty:=.st (.pr (.int .i64) (.pr (.int .i64) (.pr (.int .i64) (.pr (.int .i64) (.pr .str (.pr .str (.pr (.int .i64) (.pr (.int .i64) (.pr (.int .i64) (.pr .bool (.pr (.int .i64) (.int .i64))))))))))))
abbrev Qb:Type:=Int×Int×Int×Int×Str×Str×Int×Int×Int×Bool×Int×Int
abbrev Yn:Ty:=.st (.pr (.int .i64) (.pr (.int .i64) (.pr .str (.pr (.int .i64) (.pr (.int .i64) (.pr (.sl .str) (.pr Q9 (.pr (.int .i64) (.pr (.int .i64) (.pr (.int .i64) .bool))))))))))
abbrev Qd:Type:=Int×Int×Str×Int×Int×(List Str)×Qa×Int×Int×Int×Bool
abbrev Vr:Ty:=.st (.pr (.int .i64) (.pr (.int .i64) (.pr (.int .i64) (.pr (.int .i64) (.int .i64)))))
abbrev Qp:Type:=Int×Int×Int×Int×Int
abbrev Yq:Ty:=.st (.pr (.int .i64) (.pr (.int .i64) (.pr (.int .i64) (.pr (.int .i64) (.int .i64)))))
abbrev Qi:Type:=Int×Int×Int×Int×Int
abbrev Ue:Ty:=.st (.pr (.sl Yn) (.pr (.sl Vr) (.sl Yq)))
abbrev Qw:Type:=(List Qd)×(List Qp)×(List Qi)
abbrev Qex:Ty:=.st (.pr (.int .i64) (.pr .str (.pr (.int .i64) (.pr (.int .i64) (.int .i64)))))
abbrev Ja:Type:=Int×Str×Int×Int×Int
abbrev Li:Ty:=.st (.pr .str (.pr (.int .i64) (.pr (.int .i64) (.int .i64))))
abbrev Qo:Type:=Str×Int×Int×Int
abbrev Qad:Ty:=.st (.pr .str (.int .i64))
abbrev Q3:Type:=Str×Int
abbrev Xd:Ty:=.st (.pr J2 (.pr (.int .i64) (.pr .str (.pr (.int .i64) (.pr .str (.pr (.sl Qex) (.pr (.sl Li) (.pr (.int .i64) (.pr (.int .i64) (.pr (.int .i64) (.pr (.sl Qad) (.pr (.int .i64) (.int .i64)))))))))))))
abbrev Yg:Type:=Qb×Int×Str×Int×Str×(List Ja)×(List Qo)×Int×Int×Int×(List Q3)×Int×Int
abbrev Qmp:Ty:=.st (.pr (.int .i64) (.pr (.int .i64) (.pr (.int .i64) (.pr (.int .i64) (.pr (.int .i64) (.pr (.int .i64) (.int .i64)))))))
abbrev Cf:Ty:=.st (.pr Q9 (.pr .str (.pr (.sl .str) (.pr .bool .bool))))
abbrev Q7:Type:=Qa×Str×(List Str)×Bool×Bool
abbrev V1:Ty:=.st (.pr (.int .i64) (.pr (.int .i64) (.pr (.int .i64) (.pr .bool (.pr .bool (.sl (.int .i64)))))))
abbrev Qm:Type:=Int×Int×Int×Bool×Bool×(List Int)
abbrev Jcj:Ty:=.st (.pr Vx (.pr Ue (.pr J2 (.pr Cf (.pr V1 (.pr J7 (.pr (.int .i64) Xd)))))))
abbrev Qve:Ty:=.st (.pr (.int .i64) (.pr (.int .i64) (.pr .str (.pr .str (.pr (.int .i64) (.pr (.int .i64) (.pr (.int .i64) (.int .i64))))))))
abbrev Vh:Ty:=.st (.pr (.int .i64) (.pr (.int .i64) (.pr (.int .i64) (.pr .str (.pr (.sl .str) (.pr (.sl .str) (.pr .bool .bool)))))))
abbrev Jp:Type:=Int×Int×Int×Str×(List Str)×(List Str)×Bool×Bool
abbrev Sa:Ty:=.st (.pr (.int .i64) (.pr (.int .i64) (.pr (.int .i64) (.pr (.int .i64) (.pr (.int .i64) (.pr (.int .i64) (.pr .str (.pr .str .bool))))))))
abbrev V5:Type:=Int×Int×Int×Int×Int×Int×Str×Str×Bool
abbrev Lj:Ty:=.st (.pr (.int .i64) (.pr (.int .i64) (.pr (.int .i64) (.int .i64))))
abbrev Qae:Type:=Int×Int×Int×Int
abbrev U7:Ty:=.st (.pr (.sl V1) (.pr (.sl Vh) (.sl (.int .i64))))
abbrev Jr:Type:=(List Qm)×(List Jp)×(List Int)
abbrev Qrg:Ty:=.st (.pr (.sl V1) (.sl Vh))
abbrev Qs6:Ty:=.st (.pr (.sl Yn) .ref)
abbrev Ux:Ty:=.st (.pr (.int .i64) (.pr .str (.pr (.int .i64) (.int .i64))))
abbrev Q5:Type:=Int×Str×Int×Int
abbrev Uf:Ty:=.st (.pr (.int .i64) (.pr (.int .i64) (.pr .str (.sl Q9))))
abbrev Jh:Type:=Int×Int×Str×(List Qa)
abbrev Eb:Ty:=.st (.pr Yn (.int .i64))
abbrev Ym:Type:=Qd×Int
abbrev Vi:Ty:=.st (.pr (.int .i64) Vh)
abbrev Qy:Type:=Int×Jp
abbrev Sc:Ty:=.st (.pr (.int .i64) (.pr .str (.pr (.int .i64) (.int .i64))))
abbrev Qrh:Type:=Int×Str×Int×Int
abbrev Qgx:Ty:=.st (.pr .str Q9)
abbrev Z3:Type:=Str×Qa
abbrev Qni:Ty:=.st (.pr .ref (.pr .ref (.pr .ref (.pr .ref (.pr .ref (.pr (.sl (.int .i64)) (.sl (.int .i64))))))))
abbrev Qey:Ty:=.st (.pr (.int .i64) (.pr (.int .i64) (.int .i64)))
abbrev F6:Type:=Int×Int×Int
abbrev Vy:Ty:=.st (.pr (.int .i64) (.pr (.int .i64) (.int .i64)))
abbrev Q8:Type:=Int×Int×Int
def Zh(N:Nat)(self:Qj→Int →  Option (Int))(x0:Qj)(x1:Int):(Int×Int)→Option ((Int×Int)⊕((Int))):=fun w1 =>
 if(decide (w1.2<(List.length x0.ks:Int)))&&(decide (w1.1<1000))then
 (idx x0.ks w1.2).bind fun x3 =>
 (self x3 (IntKind.wrap .i64 (x1+1))).bind fun r4 =>
 some (.inl ((IntKind.wrap .i64 (w1.1+r4)),(IntKind.wrap .i64 (w1.2+1))))
 else
 some (.inr w1.1)
def Yh(N:Nat):Nat→Qj→Int→Option (Int)
 | 0,_,_=>none
 | n+1,x0,x1 =>
  if decide (x1>18)then
  some 1000
  else
  (Qf (Zh N (Yh N n) x0 x1) N (1,0)).bind fun v5 =>
  some v5
def Mg(N:Nat)(x0:Qj)(x1:Int):Option (Int):=Yh N N x0 x1
def A9(N:Nat)(x0:Ql)(x1:Int):(Int)→Option ((Int)⊕((Unit)⊕(Bool))):=fun v1 =>
 if decide (v1<(List.length x0.2.2.2.2.2.2:Int))then
 (idx x0.2.2.2.2.2.2 v1).bind fun x2 =>
 (Mg N x2.2.1 0).bind fun r3 =>
 if decide (r3>(IntKind.wrap .i64 (4*x1)))then
 some (.inr (.inr false))
 else
 some (.inl (IntKind.wrap .i64 (v1+1)))
 else
 some (.inr (.inl ()))
def Ba(N:Nat)(x0:Ql)(x1:Int):(Int)→Option ((Int)⊕((Unit)⊕(Bool))):=fun v4 =>
 if decide (v4<(List.length x0.2.2.2.1:Int))then
 (idx x0.2.2.2.1 v4).bind fun x5 =>
 if decide ((List.length x5.2:Int)>x1)then
 some (.inr (.inr false))
 else
 some (.inl (IntKind.wrap .i64 (v4+1)))
 else
 some (.inr (.inl ()))
def Bb(N:Nat)(x0:Ql)(x1:Int):(Int)→Option ((Int)⊕((Unit)⊕(Bool))):=fun v6 =>
 if decide (v6<(List.length x0.2.2.2.2.2.1:Int))then
 (idx x0.2.2.2.2.2.1 v6).bind fun x7 =>
 if decide ((List.length x7.2.2.2.2:Int)>x1)then
 some (.inr (.inr false))
 else
 some (.inl (IntKind.wrap .i64 (v6+1)))
 else
 some (.inr (.inl ()))
def Bc(N:Nat)(x0:Ql)(x1:Int):(Int)→Option ((Int)⊕((Unit)⊕(Bool))):=fun v8 =>
 if decide (v8<(List.length x0.2.2.2.2.1:Int))then
 (idx x0.2.2.2.2.1 v8).bind fun x9 =>
 if decide ((List.length x9.2:Int)>x1)then
 some (.inr (.inr false))
 else
 some (.inl (IntKind.wrap .i64 (v8+1)))
 else
 some (.inr (.inl ()))
def Ek(N:Nat)(x0:Ql)(x1:Int):Option (Bool) :=
 if(((decide ((List.length x0.2.2.2.1:Int)>x1))||(decide ((List.length x0.2.2.2.2.1:Int)>x1)))||(decide ((List.length x0.2.2.2.2.2.1:Int)>x1)))||(decide ((List.length x0.2.2.2.2.2.2:Int)>x1))then
 some false
 else
 (Qf (A9 N x0 x1) N 0).bind fun
 | .inl _ =>
  (Qf (Ba N x0 x1) N 0).bind fun
  | .inl _ =>
   (Qf (Bb N x0 x1) N 0).bind fun
   | .inl _ =>
    (Qf (Bc N x0 x1) N 0).bind fun
    | .inl _ =>
     some true
    | .inr v10 =>
     some v10
   | .inr v11 =>
    some v11
  | .inr v12 =>
   some v12
 | .inr v13 =>
  some v13
def Wj(N:Nat)(x0:Int):Option ((List Bool)) :=
 if x0==1 then
 some ([true,false,false,true,true]:List Bool)
 else
 if x0==2 then
 some ([true,false,false,false,false]:List Bool)
 else
 if x0==3 then
 some ([true,true,false,true,false]:List Bool)
 else
 (if x0==5 then
 some (x0==5)
 else
 some (x0==6):Option ((Bool))).bind fun v1 =>
 if v1 then
 some ([false,true,true,false,false]:List Bool)
 else
 (if x0==7 then
 some (x0==7)
 else
 if x0==8 then
 some (x0==8)
 else
 some (x0==9):Option ((Bool))).bind fun v2 =>
 if v2 then
 some ([false,true,false,true,false]:List Bool)
 else
 (if x0==14 then
 some (x0==14)
 else
 some (x0==15):Option ((Bool))).bind fun v3 =>
 if v3 then
 some ([true,false,false,false,true]:List Bool)
 else
 some ([false,true,false,false,false]:List Bool)
def Ec(N:Nat)(x0:Int):Option (Bool) :=
 some ((decide (x0≥1))&&(decide (x0≤9999)))
def Dd(N:Nat)(x0:Str):(Int)→Option ((Int)⊕((Unit)⊕(Bool))):=fun v7 =>
 if decide (v7<(List.length x0:Int))then
 (B5 x0 v7).bind fun c8 =>
 (if decide (c8<97)then
 some true
 else
 (B5 x0 v7).bind fun c10 =>
 some (decide (c10>122)):Option (Bool)).bind fun v11 =>
 (if v11 then
 (B5 x0 v7).bind fun c15 =>
 (if decide (c15<48)then
 some true
 else
 (B5 x0 v7).bind fun c17 =>
 some (decide (c17>57)):Option (Bool)).bind fun v18 =>
 some v18
 else
 some false:Option (Bool)).bind fun v19 =>
 (if v19 then
 (B5 x0 v7).bind fun c21 =>
 some (c21 != 45)
 else
 some false:Option (Bool)).bind fun v22 =>
 if v22 then
 some (.inr (.inr false))
 else
 some (.inl (IntKind.wrap .i64 (v7+1)))
 else
 some (.inr (.inl ()))
def Vj(N:Nat)(x0:Str):Option (Bool) :=
 (if(decide ((List.length x0:Int)<1))||(decide ((List.length x0:Int)>24))then
 some true
 else
 (B5 x0 0).bind fun c2 =>
 some (decide (c2<97)):Option (Bool)).bind fun v3 =>
 (if v3 then
 some true
 else
 (B5 x0 0).bind fun c5 =>
 some (decide (c5>122)):Option (Bool)).bind fun v6 =>
 if v6 then
 some false
 else
 (Qf (Dd N x0) N 0).bind fun
 | .inl _ =>
  some true
 | .inr v23 =>
  some v23
def Bd(N:Nat)(x0:Str):(Int)→Option ((Int)⊕((Unit)⊕(Bool))):=fun v1 =>
 if decide (v1<(List.length x0:Int))then
 (B5 x0 v1).bind fun c2 =>
 (if decide (c2<48)then
 some true
 else
 (B5 x0 v1).bind fun c4 =>
 some (decide (c4>57)):Option (Bool)).bind fun v5 =>
 if v5 then
 some (.inr (.inr false))
 else
 some (.inl (IntKind.wrap .i64 (v1+1)))
 else
 some (.inr (.inl ()))
def Xe(N:Nat)(x0:Str):Option (Bool) :=
 (Qf (Bd N x0) N 0).bind fun
 | .inl _ =>
  some ((decide ((List.length x0:Int)≥1))&&(decide ((List.length x0:Int)≤15)))
 | .inr v6 =>
  some v6
def El(N:Nat)(x0:Qv):Option (Bool) :=
 if x0.2.1==1 then
 some ((decide (x0.2.2.2.2.2.2≥1))&&(decide (x0.2.2.2.2.2.2≤28)))
 else
 if x0.2.1==14 then
 some ((decide (x0.2.2.2.2.2.2≥1))&&(decide (x0.2.2.2.2.2.2≤1125899906842624)))
 else
 some ((decide (x0.2.2.2.2.2.2≥(-1125899906842624)))&&(decide (x0.2.2.2.2.2.2≤0)))
def F7(N:Nat)(x0:Qv)(x1:Int):Option (Int) :=
 if(decide (x0.2.1<1))||(decide (x0.2.1>15))then
 some 7
 else
 if(decide (x0.1<0))||(decide (x0.1≥12622780800))then
 some 15
 else
 if decide (x0.1<x1)then
 some 9
 else
 (Wj N x0.2.1).bind fun r1 =>
 (idx r1 0).bind fun _ =>
 (idx r1 0).bind fun x2 =>
 (if(!x2)&&(x0.2.2.1 != 0)then
 some true
 else
 (idx r1 1).bind fun _ =>
 (idx r1 1).bind fun x4 =>
 some ((!x4)&&(x0.2.2.2.1 != 0)):Option (Bool)).bind fun v5 =>
 (if v5 then
 some true
 else
 (idx r1 2).bind fun _ =>
 (idx r1 2).bind fun x7 =>
 some ((!x7)&&(!(x0.2.2.2.2.1==([]:Str)))):Option (Bool)).bind fun v8 =>
 (if v8 then
 some true
 else
 (idx r1 3).bind fun _ =>
 (idx r1 3).bind fun x10 =>
 some ((!x10)&&(!(x0.2.2.2.2.2.1==([]:Str)))):Option (Bool)).bind fun v11 =>
 (if v11 then
 some true
 else
 (idx r1 4).bind fun _ =>
 (idx r1 4).bind fun x13 =>
 some ((!x13)&&(x0.2.2.2.2.2.2 != 0)):Option (Bool)).bind fun v14 =>
 if v14 then
 some 8
 else
 (idx r1 0).bind fun _ =>
 (idx r1 0).bind fun x15 =>
 (if x15 then
 (Ec N x0.2.2.1).bind fun r17 =>
 some (!r17)
 else
 some false:Option (Bool)).bind fun v18 =>
 (if v18 then
 some true
 else
 (idx r1 1).bind fun _ =>
 (idx r1 1).bind fun x20 =>
 (if x20 then
 (Ec N x0.2.2.2.1).bind fun r23 =>
 some (!r23)
 else
 some false:Option (Bool)).bind fun v24 =>
 some v24:Option (Bool)).bind fun v25 =>
 if v25 then
 some 6
 else
 (idx r1 3).bind fun _ =>
 (idx r1 3).bind fun x26 =>
 (if x26 then
 (Vj N x0.2.2.2.2.2.1).bind fun r28 =>
 some (!r28)
 else
 some false:Option (Bool)).bind fun v29 =>
 if v29||(((x0.2.1==1)&&(!(x0.2.2.2.2.2.1==([112,114,101,112,97,105,100]:Str))))&&(!(x0.2.2.2.2.2.1==([112,111,115,116,112,97,105,100]:Str))))then
 some 8
 else
 (idx r1 2).bind fun _ =>
 (idx r1 2).bind fun x30 =>
 (if x30 then
 (Xe N x0.2.2.2.2.1).bind fun r32 =>
 some (!r32)
 else
 some false:Option (Bool)).bind fun v33 =>
 if v33 then
 some 12
 else
 (idx r1 4).bind fun _ =>
 (idx r1 4).bind fun x34 =>
 (if x34 then
 (El N x0).bind fun r36 =>
 some (!r36)
 else
 some false:Option (Bool)).bind fun v37 =>
 if v37 then
 some 6
 else
 some 0
def Gf(N:Nat)(x0:Jr)(x1:Int):(Int)→Option ((Int)⊕((Unit)⊕(Int))):=fun v1 =>
 if decide (v1<(List.length x0.1:Int))then
 (idx x0.1 v1).bind fun x2 =>
 if x2.1==x1 then
 some (.inr (.inr v1))
 else
 some (.inl (IntKind.wrap .i64 (v1+1)))
 else
 some (.inr (.inl ()))
def Ua(N:Nat)(x0:Jr)(x1:Int):Option (Int) :=
 (Qf (Gf N x0 x1) N 0).bind fun
 | .inl _ =>
  some (-1)
 | .inr v3 =>
  some v3
def F8(N:Nat)(x0:Jr)(x1:Int):(Int)→Option ((Int)⊕((Unit)⊕(Int))):=fun v1 =>
 if decide (v1<(List.length x0.2.1:Int))then
 (idx x0.2.1 v1).bind fun x2 =>
 if x2.1==x1 then
 some (.inr (.inr v1))
 else
 some (.inl (IntKind.wrap .i64 (v1+1)))
 else
 some (.inr (.inl ()))
def Ul(N:Nat)(x0:Jr)(x1:Int):Option (Int) :=
 (Qf (F8 N x0 x1) N 0).bind fun
 | .inl _ =>
  some (-1)
 | .inr v3 =>
  some v3
def Be(N:Nat)(x0:Jr)(x1:Int):(Int)→Option ((Int)⊕((Unit)⊕(Bool))):=fun v1 =>
 if decide (v1<(List.length x0.2.2:Int))then
 (idx x0.2.2 v1).bind fun x2 =>
 if x2==x1 then
 some (.inr (.inr true))
 else
 some (.inl (IntKind.wrap .i64 (v1+1)))
 else
 some (.inr (.inl ()))
def Xf(N:Nat)(x0:Jr)(x1:Int):Option (Bool) :=
 (Qf (Be N x0 x1) N 0).bind fun
 | .inl _ =>
  some false
 | .inr v3 =>
  some v3
def Df(N:Nat)(x0:Jr)(x1:Int):(Int)→Option ((Int)⊕((Unit)⊕(Bool))):=fun v1 =>
 if decide (v1<(List.length x0.2.1:Int))then
 ((idx x0.2.1 v1).bind fun x2 =>
 if x2.2.1==x1 then
 (idx x0.2.1 v1).bind fun x3 =>
 (Xf N x0 x3.1).bind fun r4 =>
 some (!r4)
 else
 some false:Option ((Bool))).bind fun v5 =>
 if v5 then
 some (.inr (.inr true))
 else
 some (.inl (IntKind.wrap .i64 (v1+1)))
 else
 some (.inr (.inl ()))
def F9(N:Nat)(x0:Jr)(x1:Int):Option (Bool) :=
 (Qf (Df N x0 x1) N 0).bind fun
 | .inl _ =>
  some false
 | .inr v6 =>
  some v6
def Xg(N:Nat)(x0:Jr)(x1:Qv):Option (Int) :=
 (Ua N x0 x1.2.2.1).bind fun r1 =>
 if x1.2.1==1 then
 if decide (r1≥0)then
 some 10
 else
 some 0
 else
 if decide (r1<0)then
 some 11
 else
 (idx x0.1 r1).bind fun x2 =>
 if x2.2.2.2.2.1 then
 some 17
 else
 (if x1.2.1==3 then
 (Ul N x0 x1.2.2.2.1).bind fun r4 =>
 some (decide (r4≥0))
 else
 some false:Option (Bool)).bind fun v5 =>
 if v5 then
 some 10
 else
 (if x1.2.1==2 then
 (F9 N x0 x1.2.2.1).bind fun r7 =>
 some r7
 else
 some false:Option (Bool)).bind fun v8 =>
 (if v8 then
 some true
 else
 (if decide (x1.2.1>13)then
 (idx x0.1 r1).bind fun x12 =>
 some (!x12.2.2.2.1)
 else
 some false:Option (Bool)).bind fun v13 =>
 some v13:Option (Bool)).bind fun v14 =>
 if v14 then
 some 22
 else
 some 0
def Iu(N:Nat)(x0:(List Str))(x1:Str):(Int)→Option ((Int)⊕((Unit)⊕(Bool))):=fun v1 =>
 if decide (v1<(List.length x0:Int))then
 (idx x0 v1).bind fun x2 =>
 if x2==x1 then
 some (.inr (.inr true))
 else
 some (.inl (IntKind.wrap .i64 (v1+1)))
 else
 some (.inr (.inl ()))
def Uy(N:Nat)(x0:(List Str))(x1:Str):Option (Bool) :=
 (Qf (Iu N x0 x1) N 0).bind fun
 | .inl _ =>
  some false
 | .inr v3 =>
  some v3
def Bf(N:Nat)(x0:Jr)(x1:Str):(Int)→Option ((Int)⊕((Unit)⊕(Bool))):=fun v1 =>
 if decide (v1<(List.length x0.2.1:Int))then
 (idx x0.2.1 v1).bind fun x2 =>
 (Uy N x2.2.2.2.2.1 x1).bind fun r3 =>
 if r3 then
 some (.inr (.inr true))
 else
 some (.inl (IntKind.wrap .i64 (v1+1)))
 else
 some (.inr (.inl ()))
def Em(N:Nat)(x0:Jr)(x1:Str):Option (Bool) :=
 (Qf (Bf N x0 x1) N 0).bind fun
 | .inl _ =>
  some false
 | .inr v4 =>
  some v4
def Eo(N:Nat)(x0:Jr)(x1:Qv):Option (Int) :=
 (Ul N x0 x1.2.2.2.1).bind fun r1 =>
 if decide (r1<0)then
 some 11
 else
 (Xf N x0 x1.2.2.2.1).bind fun r2 =>
 if r2 then
 some 17
 else
 (idx x0.2.1 r1).bind fun x3 =>
 (if x1.2.1==5 then
 (Em N x0 x1.2.2.2.2.1).bind fun r4 =>
 if r4 then
 some (.inr 12)
 else
 some (.inl ())
 else
 if x1.2.1==6 then
 (Uy N x3.2.2.2.2.1 x1.2.2.2.2.1).bind fun r5 =>
 if !r5 then
 some (.inr 12)
 else
 some (.inl ())
 else
 if x1.2.1==8 then
 (Uy N x3.2.2.2.2.2.1 x1.2.2.2.2.2.1).bind fun r6 =>
 if r6 then
 some (.inr 10)
 else
 some (.inl ())
 else
 if x1.2.1==9 then
 (Uy N x3.2.2.2.2.2.1 x1.2.2.2.2.2.1).bind fun r7 =>
 if !r7 then
 some (.inr 11)
 else
 some (.inl ())
 else
 (if x1.2.1==10 then
 some (x1.2.1==10)
 else
 some (x1.2.1==11):Option ((Bool))).bind fun v8 =>
 if v8 then
 if x3.2.2.2.2.2.2.1==(x1.2.1==10)then
 some (.inr 22)
 else
 some (.inl ())
 else
 (if x1.2.1==12 then
 some (x1.2.1==12)
 else
 some (x1.2.1==13):Option ((Bool))).bind fun v9 =>
 if v9 then
 if x3.2.2.2.2.2.2.2==(x1.2.1==12)then
 some (.inr 22)
 else
 some (.inl ())
 else
 some (.inl ()):Option ((Unit)⊕(Int))).bind fun
 | .inl _ =>
  some 0
 | .inr v10 =>
  some v10
def Ep(N:Nat)(x0:Jr)(x1:Qv)(x2:Int):Option (Int) :=
 (F7 N x1 x2).bind fun r1 =>
 if r1 != 0 then
 some r1
 else
 (Wj N x1.2.1).bind fun r2 =>
 (idx r2 0).bind fun x3 =>
 if x3 then
 (Xg N x0 x1).bind fun r4 =>
 some r4
 else
 (Eo N x0 x1).bind fun r5 =>
 some r5
def Dg(N:Nat)(x0:(List Str))(x1:Str):(Int)→Option ((Int)⊕((Int))):=fun v1 =>
 (if decide (v1<(List.length x0:Int))then
 (idx x0 v1).bind fun x3 =>
 some (Op.bytesLess x3 x1)
 else
 some false:Option (Bool)).bind fun v4 =>
 if v4 then
 some (.inl (IntKind.wrap .i64 (v1+1)))
 else
 some (.inr v1)
def Wk(N:Nat)(x0:(List Str))(x1:Str):Option ((List Str)) :=
 (Qf (Dg N x0 x1) N 0).bind fun v5 =>
 (slc x0 0 v5).bind fun s6 =>
 (app 16 ([]:List Str) s6).bind fun q7 =>
 (app 16 q7 ([x1]:List Str)).bind fun q8 =>
 (slc x0 v5 (List.length x0:Int)).bind fun s9 =>
 (app 16 q8 s9).bind fun q10 =>
 some q10
def Fj(N:Nat)(x0:(List Str))(x1:Str):(Int×(List Str))→Option ((Int×(List Str))⊕(((List Str)))):=fun w2 =>
 if decide (w2.1<(List.length x0:Int))then
 ((idx x0 w2.1).bind fun x6 =>
 if !(x6==x1)then
 (idx x0 w2.1).bind fun x7 =>
 (app 16 w2.2 ([x7]:List Str)).bind fun q8 =>
 some q8
 else
 some w2.2:Option (((List Str)))).bind fun v9 =>
 some (.inl ((IntKind.wrap .i64 (w2.1+1)),v9))
 else
 some (.inr w2.2)
def Z4(N:Nat)(x0:(List Str))(x1:Str):Option ((List Str)) :=
 (Qf (Fj N x0 x1) N (0,([]:List Str))).bind fun v10 =>
 some v10
def Gg(N:Nat)(x0:Jp)(x1:Qv):Option (Jp) :=
 (if x1.2.1==4 then
 some (x0.1,x0.2.1,x0.2.2.1,x0.2.2.2.1,([]:List Str),([]:List Str),x0.2.2.2.2.2.2.1,x0.2.2.2.2.2.2.2)
 else
 if x1.2.1==5 then
 (Wk N x0.2.2.2.2.1 x1.2.2.2.2.1).bind fun r1 =>
 some (x0.1,x0.2.1,x0.2.2.1,x0.2.2.2.1,r1,x0.2.2.2.2.2.1,x0.2.2.2.2.2.2.1,x0.2.2.2.2.2.2.2)
 else
 if x1.2.1==6 then
 (Z4 N x0.2.2.2.2.1 x1.2.2.2.2.1).bind fun r2 =>
 some (x0.1,x0.2.1,x0.2.2.1,x0.2.2.2.1,r2,x0.2.2.2.2.2.1,x0.2.2.2.2.2.2.1,x0.2.2.2.2.2.2.2)
 else
 if x1.2.1==7 then
 some (x0.1,x0.2.1,x0.2.2.1,x1.2.2.2.2.2.1,x0.2.2.2.2.1,x0.2.2.2.2.2.1,x0.2.2.2.2.2.2.1,x0.2.2.2.2.2.2.2)
 else
 if x1.2.1==8 then
 (Wk N x0.2.2.2.2.2.1 x1.2.2.2.2.2.1).bind fun r3 =>
 some (x0.1,x0.2.1,x0.2.2.1,x0.2.2.2.1,x0.2.2.2.2.1,r3,x0.2.2.2.2.2.2.1,x0.2.2.2.2.2.2.2)
 else
 if x1.2.1==9 then
 (Z4 N x0.2.2.2.2.2.1 x1.2.2.2.2.2.1).bind fun r4 =>
 some (x0.1,x0.2.1,x0.2.2.1,x0.2.2.2.1,x0.2.2.2.2.1,r4,x0.2.2.2.2.2.2.1,x0.2.2.2.2.2.2.2)
 else
 if x1.2.1==10 then
 some (x0.1,x0.2.1,x0.2.2.1,x0.2.2.2.1,x0.2.2.2.2.1,x0.2.2.2.2.2.1,true,x0.2.2.2.2.2.2.2)
 else
 if x1.2.1==11 then
 some (x0.1,x0.2.1,x0.2.2.1,x0.2.2.2.1,x0.2.2.2.2.1,x0.2.2.2.2.2.1,false,x0.2.2.2.2.2.2.2)
 else
 if x1.2.1==12 then
 some (x0.1,x0.2.1,x0.2.2.1,x0.2.2.2.1,x0.2.2.2.2.1,x0.2.2.2.2.2.1,x0.2.2.2.2.2.2.1,true)
 else
 if x1.2.1==13 then
 some (x0.1,x0.2.1,x0.2.2.1,x0.2.2.2.1,x0.2.2.2.2.1,x0.2.2.2.2.2.1,x0.2.2.2.2.2.2.1,false)
 else
 some (x0.1,x0.2.1,x0.2.2.1,x0.2.2.2.1,x0.2.2.2.2.1,x0.2.2.2.2.2.1,x0.2.2.2.2.2.2.1,x0.2.2.2.2.2.2.2):Option ((Int×Int×Int×Str×(List Str)×(List Str)×Bool×Bool))).bind fun w5 =>
 some (w5.1,w5.2.1,w5.2.2.1,w5.2.2.2.1,w5.2.2.2.2.1,w5.2.2.2.2.2.1,w5.2.2.2.2.2.2.1,w5.2.2.2.2.2.2.2)
def Er(N:Nat)(x0:Jr)(x1:Qv):Option ((List Qm)×(List Jp)×(List Int)) :=
 (app 56 ([]:List Qm) x0.1).bind fun q1 =>
 (app 96 ([]:List Jp) x0.2.1).bind fun q2 =>
 (app 8 ([]:List Int) x0.2.2).bind fun q3 =>
 (if x1.2.1==1 then
 (app 56 q1 ([(x1.2.2.1,x1.1,x1.2.2.2.2.2.2,(x1.2.2.2.2.2.1==([112,114,101,112,97,105,100]:Str)),false,([]:List Int))]:List Qm)).bind fun q12 =>
 some (.inl (q12,q2,q3))
 else
 if x1.2.1==2 then
 (Ua N x0 x1.2.2.1).bind fun r14 =>
 (idx q1 r14).bind fun _ =>
 (idx q1 r14).bind fun y15 =>
 some (.inl ((List.set q1 (Int.toNat r14) (y15.1,y15.2.1,y15.2.2.1,y15.2.2.2.1,true,y15.2.2.2.2.2)),q2,q3))
 else
 if x1.2.1==3 then
 (app 96 q2 ([(x1.2.2.2.1,x1.2.2.1,x1.1,x1.2.2.2.2.2.1,([]:List Str),([]:List Str),false,false)]:List Jp)).bind fun q16 =>
 some (.inl (q1,q16,q3))
 else
 (if x1.2.1==14 then
 some (x1.2.1==14)
 else
 some (x1.2.1==15):Option ((Bool))).bind fun v17 =>
 if v17 then
 some (.inr (q1,q2,q3))
 else
 (Ul N x0 x1.2.2.2.1).bind fun r18 =>
 (idx q2 r18).bind fun _ =>
 (idx q2 r18).bind fun x19 =>
 (Gg N x19 x1).bind fun r20 =>
 (idx q2 r18).bind fun _ =>
 (idx q2 r18).bind fun y21 =>
 if x1.2.1==4 then
 (app 8 q3 ([x1.2.2.2.1]:List Int)).bind fun q22 =>
 some (.inl (q1,(List.set q2 (Int.toNat r18) r20),q22))
 else
 some (.inl (q1,(List.set q2 (Int.toNat r18) r20),q3)):Option (((List Qm)×(List Jp)×(List Int))⊕((List Qm)×(List Jp)×(List Int)))).bind fun
 | .inl w23 =>
  some (w23.1,w23.2.1,w23.2.2)
 | .inr w26 =>
  some (w26.1,w26.2.1,w26.2.2)
def Bg(N:Nat)(x0:(List Qv)):(Int×Int×(List Qm)×(List Jp)×(List Int))→Option ((Int×Int×(List Qm)×(List Jp)×(List Int))⊕((Unit)⊕(Int×Int))):=fun w5 =>
 if decide (w5.2.1<(List.length x0:Int))then
 (idx x0 w5.2.1).bind fun x10 =>
 (Ep N (w5.2.2.1,w5.2.2.2.1,w5.2.2.2.2) x10 w5.1).bind fun r13 =>
 if r13 != 0 then
 some (.inr (.inr (w5.2.1,r13)))
 else
 (idx x0 w5.2.1).bind fun x14 =>
 (Er N (w5.2.2.1,w5.2.2.2.1,w5.2.2.2.2) x14).bind fun w17 =>
 (idx x0 w5.2.1).bind fun x20 =>
 some (.inl (x20.1,(IntKind.wrap .i64 (w5.2.1+1)),w17.1,w17.2.1,w17.2.2))
 else
 some (.inr (.inl ()))
def Es(N:Nat)(x0:(List Qv)):Option (Int×Int) :=
 if decide ((List.length x0:Int)>4096)then
 some (0,5)
 else
 (Qf (Bg N x0) N (0,0,([]:List Qm),([]:List Jp),([]:List Int))).bind fun
 | .inl _ =>
  some (0,0)
 | .inr w21 =>
  some (w21.1,w21.2)
def Bh(N:Nat)(x0:(List Str)):(Int)→Option ((Int)⊕((Unit)⊕(Int))):=fun v1 =>
 if decide (v1<(List.length x0:Int))then
 (idx x0 v1).bind fun x2 =>
 (Vj N x2).bind fun r3 =>
 if !r3 then
 some (.inr (.inr 8))
 else
 some (.inl (IntKind.wrap .i64 (v1+1)))
 else
 some (.inr (.inl ()))
def Bi(N:Nat)(x0:(List Str)):(Int)→Option ((Int)⊕((Unit)⊕(Int))):=fun v4 =>
 if decide (v4<(List.length x0:Int))then
 (idx x0 (IntKind.wrap .i64 (v4 - 1))).bind fun x5 =>
 (idx x0 v4).bind fun x6 =>
 if !(Op.bytesLess x5 x6)then
 some (.inr (.inr 9))
 else
 some (.inl (IntKind.wrap .i64 (v4+1)))
 else
 some (.inr (.inl ()))
def Et(N:Nat)(x0:(List Str)):Option (Int) :=
 if decide ((List.length x0:Int)>64)then
 some 5
 else
 (Qf (Bh N x0) N 0).bind fun
 | .inl _ =>
  (Qf (Bi N x0) N 1).bind fun
  | .inl _ =>
   some 0
  | .inr v7 =>
   some v7
 | .inr v8 =>
  some v8
def Hq(N:Nat)(x0:J5):Option (Int) :=
 if(decide (x0.1<1))||(decide (x0.1≥5))then
 some 7
 else
 (Et N x0.2.1).bind fun r1 =>
 if r1 != 0 then
 some r1
 else
 if(((((decide (x0.2.2.1<1))||(decide (x0.2.2.1>1099511627776)))||(decide (x0.2.2.2.1<0)))||(decide (x0.2.2.2.1>1099511627776)))||(decide (x0.2.2.2.2.1<0)))||(decide (x0.2.2.2.2.1>99))then
 some 6
 else
 some 0
def Iv(N:Nat)(x0:Qn):(Int)→Option ((Int)⊕((Unit)⊕(Int))):=fun v3 =>
 if decide (v3<(List.length x0.2.2.2.2.2:Int))then
 (idx x0.2.2.2.2.2 v3).bind fun x4 =>
 (Hq N x4).bind fun r5 =>
 if r5 != 0 then
 some (.inr (.inr r5))
 else
 some (.inl (IntKind.wrap .i64 (v3+1)))
 else
 some (.inr (.inl ()))
def Cg(N:Nat)(x0:Qn):Option (Int) :=
 (Vj N x0.1).bind fun r1 =>
 if !r1 then
 some 8
 else
 if(decide (x0.2.1<0))||(decide (x0.2.1≥12622780800))then
 some 15
 else
 if(decide (x0.2.2.1<0))||(decide (x0.2.2.1>1125899906842624))then
 some 6
 else
 (Vj N x0.2.2.2.1).bind fun r2 =>
 if !r2 then
 some 8
 else
 if decide ((List.length x0.2.2.2.2.2:Int)>64)then
 some 5
 else
 (Qf (Iv N x0) N 0).bind fun
 | .inl _ =>
  some 0
 | .inr v6 =>
  some v6
def Bj(N:Nat)(x0:(List Qn)):(Int)→Option ((Int)⊕((Unit)⊕(Int))):=fun v1 =>
 if decide (v1<(List.length x0:Int))then
 (idx x0 v1).bind fun x2 =>
 (Cg N x2).bind fun r3 =>
 if r3 != 0 then
 some (.inr (.inr r3))
 else
 (if decide (v1>0)then
 (idx x0 (IntKind.wrap .i64 (v1 - 1))).bind fun x18 =>
 (idx x0 v1).bind fun x19 =>
 (if !(Op.bytesLess x18.1 x19.1||x18.1==x19.1)then
 some true
 else
 (idx x0 (IntKind.wrap .i64 (v1 - 1))).bind fun x26 =>
 (idx x0 v1).bind fun x27 =>
 (if x26.1==x27.1 then
 (idx x0 (IntKind.wrap .i64 (v1 - 1))).bind fun x30 =>
 (idx x0 v1).bind fun x31 =>
 some (decide (x30.2.1≥x31.2.1))
 else
 some false:Option (Bool)).bind fun v32 =>
 some v32:Option (Bool)).bind fun v33 =>
 some v33
 else
 some false:Option (Bool)).bind fun v34 =>
 if v34 then
 some (.inr (.inr 9))
 else
 some (.inl (IntKind.wrap .i64 (v1+1)))
 else
 some (.inr (.inl ()))
def Eu(N:Nat)(x0:(List Qn)):Option (Int) :=
 if decide ((List.length x0:Int)>4096)then
 some 5
 else
 (Qf (Bj N x0) N 0).bind fun
 | .inl _ =>
  some 0
 | .inr v35 =>
  some v35
def Xh(N:Nat)(x0:Int):Option (Bool) :=
 some ((decide (x0≥97))&&(decide (x0≤122)))
def Ev(N:Nat)(x0:Int):Option (Bool) :=
 some ((decide (x0≥48))&&(decide (x0≤57)))
def Dh(N:Nat)(x0:Str):(Int)→Option ((Int)⊕((Unit)⊕(Bool))):=fun v5 =>
 if decide (v5<(List.length x0:Int))then
 (B5 x0 v5).bind fun c6 =>
 (Xh N c6).bind fun r7 =>
 (if !r7 then
 (B5 x0 v5).bind fun c9 =>
 (Ev N c9).bind fun r10 =>
 some (!r10)
 else
 some false:Option (Bool)).bind fun v11 =>
 (if v11 then
 (B5 x0 v5).bind fun c13 =>
 some (c13 != 45)
 else
 some false:Option (Bool)).bind fun v14 =>
 if v14 then
 some (.inr (.inr false))
 else
 some (.inl (IntKind.wrap .i64 (v5+1)))
 else
 some (.inr (.inl ()))
def Wl(N:Nat)(x0:Str):Option (Bool) :=
 (if(decide ((List.length x0:Int)<1))||(decide ((List.length x0:Int)>24))then
 some true
 else
 (B5 x0 0).bind fun c2 =>
 (Xh N c2).bind fun r3 =>
 some (!r3):Option (Bool)).bind fun v4 =>
 if v4 then
 some false
 else
 (Qf (Dh N x0) N 0).bind fun
 | .inl _ =>
  some true
 | .inr v15 =>
  some v15
def Di(N:Nat)(x0:Str):(Int)→Option ((Int)⊕((Unit)⊕(Bool))):=fun v7 =>
 if decide (v7<(List.length x0:Int))then
 (B5 x0 v7).bind fun c8 =>
 (if decide (c8≥97)then
 (B5 x0 v7).bind fun c10 =>
 some (decide (c10≤122))
 else
 some false:Option (Bool)).bind fun v11 =>
 (B5 x0 v7).bind fun c12 =>
 (if decide (c12≥48)then
 (B5 x0 v7).bind fun c14 =>
 some (decide (c14≤57))
 else
 some false:Option (Bool)).bind fun v15 =>
 (if(!v11)&&(!v15)then
 (B5 x0 v7).bind fun c17 =>
 some (c17 != 45)
 else
 some false:Option (Bool)).bind fun v18 =>
 if v18 then
 some (.inr (.inr false))
 else
 some (.inl (IntKind.wrap .i64 (v7+1)))
 else
 some (.inr (.inl ()))
def Wm(N:Nat)(x0:Str):Option (Bool) :=
 (if(decide ((List.length x0:Int)<1))||(decide ((List.length x0:Int)>24))then
 some true
 else
 (B5 x0 0).bind fun c2 =>
 some (decide (c2<97)):Option (Bool)).bind fun v3 =>
 (if v3 then
 some true
 else
 (B5 x0 0).bind fun c5 =>
 some (decide (c5>122)):Option (Bool)).bind fun v6 =>
 if v6 then
 some false
 else
 (Qf (Di N x0) N 0).bind fun
 | .inl _ =>
  some true
 | .inr v19 =>
  some v19
def Fk(N:Nat)(x0:(List Qq))(v1:Int)(x1:Int)(x2:Int):(Int)→Option ((Int)⊕((Unit)⊕(Bool))):=fun v2 =>
 (idx x0 v1).bind fun x3 =>
 if decide (v2<(List.length x3.2:Int))then
 if(v1==x1)&&(decide (v2≥x2))then
 some (.inr (.inl ()))
 else
 (idx x0 v1).bind fun x4 =>
 (idx x4.2 v2).bind fun x5 =>
 (idx x0 x1).bind fun x6 =>
 (idx x6.2 x2).bind fun x7 =>
 if x5==x7 then
 some (.inr (.inr true))
 else
 some (.inl (IntKind.wrap .i64 (v2+1)))
 else
 some (.inr (.inl ()))
def Fl(N:Nat)(x1:Int)(x0:(List Qq))(x2:Int):(Int)→Option ((Int)⊕((Unit)⊕(Bool))):=fun v1 =>
 if decide (v1≤x1)then
 (Qf (Fk N x0 v1 x1 x2) N 0).bind fun
 | .inl _ =>
  some (.inl (IntKind.wrap .i64 (v1+1)))
 | .inr v8 =>
  some (.inr (.inr v8))
 else
 some (.inr (.inl ()))
def Gh(N:Nat)(x0:(List Qq))(x1:Int)(x2:Int):Option (Bool) :=
 (Qf (Fl N x1 x0 x2) N 0).bind fun
 | .inl _ =>
  some false
 | .inr v9 =>
  some v9
def Dj(N:Nat)(x1:Int)(x0:(List Qq))(x2:Qq):(Int)→Option ((Int)⊕((Unit)⊕(Int))):=fun v4 =>
 if decide (v4<x1)then
 (idx x0 v4).bind fun x5 =>
 if x5.1==x2.1 then
 some (.inr (.inr 10))
 else
 some (.inl (IntKind.wrap .i64 (v4+1)))
 else
 some (.inr (.inl ()))
def Dk(N:Nat)(x2:Qq)(x0:(List Qq))(x1:Int):(Int)→Option ((Int)⊕((Unit)⊕(Int))):=fun v6 =>
 if decide (v6<(List.length x2.2:Int))then
 (idx x2.2 v6).bind fun x7 =>
 (Xe N x7).bind fun r8 =>
 if !r8 then
 some (.inr (.inr 12))
 else
 (Gh N x0 x1 v6).bind fun r9 =>
 if r9 then
 some (.inr (.inr 10))
 else
 some (.inl (IntKind.wrap .i64 (v6+1)))
 else
 some (.inr (.inl ()))
def Aa(N:Nat)(x0:(List Qq))(x1:Int):Option (Int) :=
 (idx x0 x1).bind fun x2 =>
 (Wm N x2.1).bind fun r3 =>
 if !r3 then
 some 8
 else
 (Qf (Dj N x1 x0 x2) N 0).bind fun
 | .inl _ =>
  if(List.length x2.2:Int)==0 then
  some 8
  else
  if decide ((List.length x2.2:Int)>64)then
  some 5
  else
  (Qf (Dk N x2 x0 x1) N 0).bind fun
  | .inl _ =>
   some 0
  | .inr v10 =>
   some v10
 | .inr v11 =>
  some v11
def Bk(N:Nat)(x0:(List Qq)):(Int)→Option ((Int)⊕((Unit)⊕(Int))):=fun v1 =>
 if decide (v1<(List.length x0:Int))then
 (Aa N x0 v1).bind fun r2 =>
 if r2 != 0 then
 some (.inr (.inr r2))
 else
 some (.inl (IntKind.wrap .i64 (v1+1)))
 else
 some (.inr (.inl ()))
def Ew(N:Nat)(x0:(List Qq)):Option (Int) :=
 if decide ((List.length x0:Int)>64)then
 some 5
 else
 (Qf (Bk N x0) N 0).bind fun
 | .inl _ =>
  some 0
 | .inr v3 =>
  some v3
def Bl(N:Nat)(x0:(List Kf)):(Int)→Option ((Int)⊕((Unit)⊕(Int))):=fun v1 =>
 if decide (v1<(List.length x0:Int))then
 (idx x0 v1).bind fun x2 =>
 if((((decide (x2.1<1))||(decide (x2.1>255)))||(decide (x2.2.1<0)))||(decide (x2.2.1≥x2.2.2)))||(decide (x2.2.2>1440))then
 some (.inr (.inr 6))
 else
 some (.inl (IntKind.wrap .i64 (v1+1)))
 else
 some (.inr (.inl ()))
def Ey(N:Nat)(x0:(List Kf))(x1:Bool):Option (Int) :=
 if x1 then
 if decide ((List.length x0:Int)>0)then
 some 8
 else
 some 0
 else
 if(List.length x0:Int)==0 then
 some 8
 else
 if decide ((List.length x0:Int)>64)then
 some 5
 else
 (Qf (Bl N x0) N 0).bind fun
 | .inl _ =>
  some 0
 | .inr v3 =>
  some v3
def Bm(N:Nat)(v1:Int)(x0:(List Qt)):(Int)→Option ((Int)⊕((Unit)⊕(Int))):=fun v4 =>
 if decide (v4<v1)then
 (idx x0 v4).bind fun x5 =>
 (idx x0 v1).bind fun x6 =>
 if x5.1==x6.1 then
 some (.inr (.inr 10))
 else
 some (.inl (IntKind.wrap .i64 (v4+1)))
 else
 some (.inr (.inl ()))
def Bn(N:Nat)(x0:(List Qt)):(Int)→Option ((Int)⊕((Unit)⊕(Int))):=fun v1 =>
 if decide (v1<(List.length x0:Int))then
 (idx x0 v1).bind fun x2 =>
 (Wm N x2.1).bind fun r3 =>
 if !r3 then
 some (.inr (.inr 8))
 else
 (Qf (Bm N v1 x0) N 0).bind fun
 | .inl _ =>
  (idx x0 v1).bind fun x7 =>
  (Ey N x7.2 ((IntKind.wrap .i64 (v1+1))==(List.length x0:Int))).bind fun r8 =>
  if r8 != 0 then
  some (.inr (.inr r8))
  else
  some (.inl (IntKind.wrap .i64 (v1+1)))
 | .inr v9 =>
  some (.inr (.inr v9))
 else
 some (.inr (.inl ()))
def Ez(N:Nat)(x0:(List Qt)):Option (Int) :=
 if(List.length x0:Int)==0 then
 some 8
 else
 if decide ((List.length x0:Int)>64)then
 some 5
 else
 (Qf (Bn N x0) N 0).bind fun
 | .inl _ =>
  some 0
 | .inr v10 =>
  some v10
def Dl(N:Nat)(x0:Ql)(x1:Str):(Int)→Option ((Int)⊕((Unit)⊕(Bool))):=fun v1 =>
 if decide (v1<(List.length x0.2.2.2.1:Int))then
 (idx x0.2.2.2.1 v1).bind fun x2 =>
 if x2.1==x1 then
 some (.inr (.inr true))
 else
 some (.inl (IntKind.wrap .i64 (v1+1)))
 else
 some (.inr (.inl ()))
def Ab(N:Nat)(x0:Ql)(x1:Str):Option (Bool) :=
 (Qf (Dl N x0 x1) N 0).bind fun
 | .inl _ =>
  some (x1==([]:Str))
 | .inr v3 =>
  some v3
def Dm(N:Nat)(x0:Ql)(x1:Str):(Int)→Option ((Int)⊕((Unit)⊕(Bool))):=fun v1 =>
 if decide (v1<(List.length x0.2.2.2.2.1:Int))then
 (idx x0.2.2.2.2.1 v1).bind fun x2 =>
 if x2.1==x1 then
 some (.inr (.inr true))
 else
 some (.inl (IntKind.wrap .i64 (v1+1)))
 else
 some (.inr (.inl ()))
def Ac(N:Nat)(x0:Ql)(x1:Str):Option (Bool) :=
 (Qf (Dm N x0 x1) N 0).bind fun
 | .inl _ =>
  some (x1==([]:Str))
 | .inr v3 =>
  some v3
def Bo(N:Nat)(x0:(List Vt)):(Int×Int)→Option ((Int×Int)⊕((Unit)⊕(Int))):=fun w1 =>
 if decide (w1.2<(List.length x0:Int))then
 (idx x0 w1.2).bind fun x3 =>
 if(((((decide (x3.1<0))||(decide (x3.1>1099511627776)))||(decide (x3.2.1<1)))||(decide (x3.2.1>1099511627776)))||(decide (x3.2.2<0)))||(decide (x3.2.2>1125899906842624))then
 some (.inr (.inr 6))
 else
 if(x3.1==0) != (w1.2==(IntKind.wrap .i64 ((List.length x0:Int) - 1)))then
 some (.inr (.inr 8))
 else
 if(x3.1 != 0)&&(decide (x3.1≤w1.1))then
 some (.inr (.inr 9))
 else
 some (.inl (x3.1,(IntKind.wrap .i64 (w1.2+1))))
 else
 some (.inr (.inl ()))
def Xi(N:Nat)(x0:(List Vt)):Option (Int) :=
 if(List.length x0:Int)==0 then
 some 8
 else
 if decide ((List.length x0:Int)>64)then
 some 5
 else
 (Qf (Bo N x0) N (0,0)).bind fun
 | .inl _ =>
  some 0
 | .inr v4 =>
  some v4
def Bp(N:Nat)(x0:Ql):(Int)→Option ((Int)⊕((Unit)⊕(Int))):=fun v1 =>
 if decide (v1<(List.length x0.2.2.2.2.2.1:Int))then
 (idx x0.2.2.2.2.2.1 v1).bind fun x2 =>
 if(decide (x2.1<1))||(decide (x2.1≥5))then
 some (.inr (.inr 7))
 else
 (Ab N x0 x2.2.1).bind fun r3 =>
 (if !r3 then
 some true
 else
 (Ac N x0 x2.2.2.1).bind fun r5 =>
 some (!r5):Option (Bool)).bind fun v6 =>
 if v6 then
 some (.inr (.inr 11))
 else
 if(decide (x2.2.2.2.1<0))||(decide (x2.2.2.2.1>1125899906842624))then
 some (.inr (.inr 6))
 else
 (Xi N x2.2.2.2.2).bind fun r7 =>
 if r7 != 0 then
 some (.inr (.inr r7))
 else
 some (.inl (IntKind.wrap .i64 (v1+1)))
 else
 some (.inr (.inl ()))
def E0(N:Nat)(x0:Ql):Option (Int) :=
 if decide ((List.length x0.2.2.2.2.2.1:Int)>64)then
 some 5
 else
 (Qf (Bp N x0) N 0).bind fun
 | .inl _ =>
  some 0
 | .inr v8 =>
  some v8
def E1(N:Nat)(x0:Int):Option (Int) :=
 if(decide (x0≥1))&&(decide (x0≤3))then
 some 0
 else
 if x0==4 then
 some 1
 else
 if(decide (x0>4))&&(decide (x0<16))then
 some 2
 else
 some (-1)
def Iw(N:Nat)(x0:(List Str))(x1:Str):(Int)→Option ((Int)⊕((Unit)⊕(Bool))):=fun v1 =>
 if decide (v1<(List.length x0:Int))then
 (idx x0 v1).bind fun x2 =>
 if x2==x1 then
 some (.inr (.inr true))
 else
 some (.inl (IntKind.wrap .i64 (v1+1)))
 else
 some (.inr (.inl ()))
def G4(N:Nat)(x0:(List Str))(x1:Str):Option (Bool) :=
 (Qf (Iw N x0 x1) N 0).bind fun
 | .inl _ =>
  some false
 | .inr v3 =>
  some v3
def Uo(N:Nat)(x0:Str):Option (Int) :=
 (G4 N ([([107,105,110,100]:Str),([117,110,105,116,115]:Str),([119,101,101,107,100,97,121]:Str),([109,105,110,117,116,101]:Str),([116,111,116,97,108]:Str),([115,112,101,110,116]:Str)]:List Str) x0).bind fun r1 =>
 if r1 then
 some 1
 else
 (G4 N ([([122,111,110,101]:Str),([98,97,110,100]:Str)]:List Str) x0).bind fun r2 =>
 if r2 then
 some 2
 else
 if x0==([102,97,109,105,108,121]:Str)then
 some 3
 else
 some 0
def Ch(N:Nat)(x0:Qj):Option (Int) :=
 (E1 N x0.x.1).bind fun r1 =>
 if r1 != (List.length x0.ks:Int)then
 some 7
 else
 if(x0.x.1==1)&&((decide (x0.x.2.1<0))||(decide (x0.x.2.1>1099511627776)))then
 some 6
 else
 if(x0.x.1==2)&&(decide ((List.length x0.x.2.2:Int)>200))then
 some 5
 else
 (if x0.x.1==3 then
 (Uo N x0.x.2.2).bind fun r3 =>
 some (r3==0)
 else
 some false:Option (Bool)).bind fun v4 =>
 if v4 then
 some 11
 else
 some 0
def Hr(N:Nat)(x0:Qj)(x1:(List Int)):Option (Int) :=
 if x0.x.1==1 then
 some 1
 else
 if x0.x.1==2 then
 some 2
 else
 if x0.x.1==3 then
 (Uo N x0.x.2.2).bind fun r1 =>
 some r1
 else
 if x0.x.1==4 then
 (idx x1 0).bind fun x2 =>
 if x2==3 then
 some 3
 else
 some 0
 else
 (idx x1 0).bind fun x3 =>
 (idx x1 1).bind fun x4 =>
 if x3 != x4 then
 some 0
 else
 ((if x0.x.1==5 then
 some (x0.x.1==5)
 else
 some (x0.x.1==6):Option ((Bool))).bind fun v5 =>
 if v5 then
 (idx x1 0).bind fun x6 =>
 if x6==3 then
 some (.inr 3)
 else
 some (.inl ())
 else
 (if x0.x.1==7 then
 some (x0.x.1==7)
 else
 some (x0.x.1==8):Option ((Bool))).bind fun v7 =>
 if v7 then
 (idx x1 0).bind fun x8 =>
 if x8 != 3 then
 some (.inr 3)
 else
 some (.inl ())
 else
 (if x0.x.1==9 then
 some (x0.x.1==9)
 else
 some (x0.x.1==10):Option ((Bool))).bind fun v9 =>
 if v9 then
 (idx x1 0).bind fun x10 =>
 if x10==1 then
 some (.inr 3)
 else
 some (.inl ())
 else
 (idx x1 0).bind fun x11 =>
 if x11==1 then
 some (.inr 1)
 else
 some (.inl ()):Option ((Unit)⊕(Int))).bind fun
 | .inl _ =>
  some 0
 | .inr v12 =>
  some v12
def Mh(N:Nat)(self:Qj→Int →  Option (Int×Int))(x0:Qj)(x1:Int):(Int×(List Int))→Option ((Int×(List Int))⊕(((List Int))⊕(Int×Int))):=fun w3 =>
 if decide (w3.1<(List.length x0.ks:Int))then
 (idx x0.ks w3.1).bind fun x5 =>
 (self x5 (IntKind.wrap .i64 (x1+1))).bind fun w6 =>
 if w6.2 != 0 then
 some (.inr (.inr (0,w6.2)))
 else
 (app 8 w3.2 ([w6.1]:List Int)).bind fun q8 =>
 some (.inl ((IntKind.wrap .i64 (w3.1+1)),q8))
 else
 some (.inr (.inl w3.2))
def Vk(N:Nat):Nat→Qj→Int→Option (Int×Int)
 | 0,_,_=>none
 | n+1,x0,x1 =>
  if decide (x1>16)then
  some (0,24)
  else
  (Ch N x0).bind fun r1 =>
  if r1 != 0 then
  some (0,r1)
  else
  (Qf (Mh N (Vk N n) x0 x1) N (0,([]:List Int))).bind fun
  | .inl v9 =>
   (Hr N x0 v9).bind fun r10 =>
   if r10==0 then
   some (0,7)
   else
   some (r10,0)
  | .inr w11 =>
   some (w11.1,w11.2)
def Qbg(N:Nat)(x0:Qj)(x1:Int):Option (Int×Int):=Vk N N x0 x1
def Ad(N:Nat)(x0:Qj):Option (Int×Int) :=
 (Qbg N x0 1).bind fun w1 =>
 some (w1.1,w1.2)
def Hb(N:Nat)(v1:Int)(x0:Ql)(x2:Qk):(Int)→Option ((Int)⊕((Unit)⊕(Int))):=fun v4 =>
 if decide (v4<v1)then
 (idx x0.2.2.2.2.2.2 v4).bind fun x5 =>
 if x5.1==x2.1 then
 some (.inr (.inr 10))
 else
 some (.inl (IntKind.wrap .i64 (v4+1)))
 else
 some (.inr (.inl ()))
def Hc(N:Nat)(x0:Ql):(Int)→Option ((Int)⊕((Unit)⊕(Int))):=fun v1 =>
 if decide (v1<(List.length x0.2.2.2.2.2.2:Int))then
 (idx x0.2.2.2.2.2.2 v1).bind fun x2 =>
 (Wl N x2.1).bind fun r3 =>
 if !r3 then
 some (.inr (.inr 8))
 else
 (Qf (Hb N v1 x0 x2) N 0).bind fun
 | .inl _ =>
  (Ad N x2.2.1).bind fun w6 =>
  if w6.2 != 0 then
  some (.inr (.inr w6.2))
  else
  if w6.1 != 3 then
  some (.inr (.inr 7))
  else
  if(decide (x2.2.2<0))||(decide (x2.2.2>10000))then
  some (.inr (.inr 6))
  else
  some (.inl (IntKind.wrap .i64 (v1+1)))
 | .inr v8 =>
  some (.inr (.inr v8))
 else
 some (.inr (.inl ()))
def Xj(N:Nat)(x0:Ql):Option (Int) :=
 if decide ((List.length x0.2.2.2.2.2.2:Int)>64)then
 some 5
 else
 (Qf (Hc N x0) N 0).bind fun
 | .inl _ =>
  some 0
 | .inr v9 =>
  some v9
def Hs(N:Nat)(x0:Ql):Option (Int) :=
 (Wl N x0.1).bind fun r1 =>
 if !r1 then
 some 8
 else
 if(decide (x0.2.1<0))||(decide (x0.2.1≥12622780800))then
 some 15
 else
 (Ew N x0.2.2.2.1).bind fun r2 =>
 (if r2==0 then
 (Ez N x0.2.2.2.2.1).bind fun r3 =>
 some r3
 else
 some r2:Option ((Int))).bind fun v4 =>
 (if v4==0 then
 (E0 N x0).bind fun r5 =>
 some r5
 else
 some v4:Option ((Int))).bind fun v6 =>
 (if v6==0 then
 (Xj N x0).bind fun r7 =>
 some r7
 else
 some v6:Option ((Int))).bind fun v8 =>
 some v8
def E2(N:Nat)(x0:Ql)(x1:Ql):Option (Int) :=
 if(Op.bytesLess x0.1 x1.1)||((x0.1==x1.1)&&(decide (x0.2.1<x1.2.1)))then
 some (-1)
 else
 if(x0.1==x1.1)&&(x0.2.1==x1.2.1)then
 some 0
 else
 some 1
def Bq(N:Nat)(x0:(List Ql)):(Int)→Option ((Int)⊕((Unit)⊕(Int))):=fun v1 =>
 if decide (v1<(List.length x0:Int))then
 (idx x0 v1).bind fun x2 =>
 (Hs N x2).bind fun r3 =>
 if r3 != 0 then
 some (.inr (.inr r3))
 else
 (if decide (v1>0)then
 (idx x0 (IntKind.wrap .i64 (v1 - 1))).bind fun x4 =>
 (idx x0 v1).bind fun x5 =>
 (E2 N x4 x5).bind fun r6 =>
 some (decide (r6≥0))
 else
 some false:Option ((Bool))).bind fun v7 =>
 if v7 then
 some (.inr (.inr 9))
 else
 some (.inl (IntKind.wrap .i64 (v1+1)))
 else
 some (.inr (.inl ()))
def E3(N:Nat)(x0:(List Ql)):Option (Int) :=
 if decide ((List.length x0:Int)>4096)then
 some 5
 else
 (Qf (Bq N x0) N 0).bind fun
 | .inl _ =>
  some 0
 | .inr v8 =>
  some v8
def Br(N:Nat)(x0:(List Kr)):(Int)→Option ((Int)⊕((Unit)⊕(Bool))):=fun v1 =>
 if decide (v1<(List.length x0:Int))then
 (idx x0 v1).bind fun x2 =>
 (Vj N x2.1).bind fun r3 =>
 if((((!r3)||(decide (x2.2.1<0)))||(decide (x2.2.1≥12622780800)))||(decide (x2.2.2<0)))||(decide (x2.2.2>10000))then
 some (.inr (.inr false))
 else
 (if decide (v1>0)then
 (idx x0 (IntKind.wrap .i64 (v1 - 1))).bind fun x11 =>
 (if Op.bytesLess x2.1 x11.1 then
 some true
 else
 (idx x0 (IntKind.wrap .i64 (v1 - 1))).bind fun x15 =>
 (if x2.1==x15.1 then
 (idx x0 (IntKind.wrap .i64 (v1 - 1))).bind fun x17 =>
 some (decide (x2.2.1≤x17.2.1))
 else
 some false:Option (Bool)).bind fun v18 =>
 some v18:Option (Bool)).bind fun v19 =>
 some v19
 else
 some false:Option (Bool)).bind fun v20 =>
 if v20 then
 some (.inr (.inr false))
 else
 some (.inl (IntKind.wrap .i64 (v1+1)))
 else
 some (.inr (.inl ()))
def E4(N:Nat)(x0:(List Kr)):Option (Bool) :=
 (Qf (Br N x0) N 0).bind fun
 | .inl _ =>
  some (decide ((List.length x0:Int)≤4096))
 | .inr v21 =>
  some v21
def U8(N:Nat)(x0:Qa):Option (Bool) :=
 some (((decide (x0.1≥0))&&(decide (x0.1<x0.2)))&&(decide (x0.2≤12622780800)))
def Ix(N:Nat)(x0:(List Int))(x1:Int):(Bool×Int×(List Int))→Option ((Bool×Int×(List Int))⊕((Bool×(List Int)))):=fun w3 =>
 if decide (w3.2.1<(List.length x0:Int))then
 (((if !w3.1 then
 (idx x0 w3.2.1).bind fun x14 =>
 some (decide (x14≥x1))
 else
 some false:Option (Bool)).bind fun v15 =>
 if v15 then
 (app 8 w3.2.2 ([x1]:List Int)).bind fun q16 =>
 some (true,q16)
 else
 some (w3.1,w3.2.2):Option ((Bool×(List Int)))).bind fun w17 =>
 (idx x0 w3.2.1).bind fun x19 =>
 if x19 != x1 then
 (idx x0 w3.2.1).bind fun x20 =>
 (app 8 w17.2 ([x20]:List Int)).bind fun q21 =>
 some (w17.1,q21)
 else
 some (w17.1,w17.2):Option ((Bool×(List Int)))).bind fun w22 =>
 some (.inl (w22.1,(IntKind.wrap .i64 (w3.2.1+1)),w22.2))
 else
 some (.inr (w3.1,w3.2.2))
def G5(N:Nat)(x0:(List Int))(x1:Int):Option ((List Int)) :=
 (Qf (Ix N x0 x1) N (false,0,([]:List Int))).bind fun w24 =>
 (if !w24.1 then
 (app 8 w24.2 ([x1]:List Int)).bind fun q27 =>
 some q27
 else
 some w24.2:Option (((List Int)))).bind fun v28 =>
 some v28
def Ae(N:Nat)(x1:(List Qa)):((List Int)×Int)→Option (((List Int)×Int)⊕(((List Int)))):=fun w1 =>
 if decide (w1.2<(List.length x1:Int))then
 ((idx x1 w1.2).bind fun x3 =>
 (U8 N x3).bind fun r4 =>
 if r4 then
 (idx x1 w1.2).bind fun x5 =>
 (G5 N w1.1 x5.1).bind fun r6 =>
 (idx x1 w1.2).bind fun x7 =>
 (G5 N r6 x7.2).bind fun r8 =>
 some r8
 else
 some w1.1:Option (((List Int)))).bind fun v9 =>
 some (.inl (v9,(IntKind.wrap .i64 (w1.2+1))))
 else
 some (.inr w1.1)
def Kg(N:Nat)(x0:(List Int))(x1:(List Qa)):Option ((List Int)) :=
 (Qf (Ae N x1) N (x0,0)).bind fun v10 =>
 some v10
def Wc(N:Nat)(x0:Qa)(x1:Int):Option (Bool) :=
 (U8 N x0).bind fun r1 =>
 some ((r1&&(decide (x1≥x0.1)))&&(decide (x1<x0.2)))
def Mi(N:Nat)(x0:(List Qa))(x1:Int):(Int)→Option ((Int)⊕((Unit)⊕(Bool))):=fun v1 =>
 if decide (v1<(List.length x0:Int))then
 (idx x0 v1).bind fun x2 =>
 (Wc N x2 x1).bind fun r3 =>
 if r3 then
 some (.inr (.inr true))
 else
 some (.inl (IntKind.wrap .i64 (v1+1)))
 else
 some (.inr (.inl ()))
def Ed(N:Nat)(x0:(List Qa))(x1:Int):Option (Bool) :=
 (Qf (Mi N x0 x1) N 0).bind fun
 | .inl _ =>
  some false
 | .inr v4 =>
  some v4
def Af(N:Nat)(r2:(List Int))(x0:(List Qa))(x2:Bool)(x1:(List Qa))(x3:Bool):(Int×(List Qa))→Option ((Int×(List Qa))⊕(((List Qa)))):=fun w4 =>
 if decide ((IntKind.wrap .i64 (w4.1+1))<(List.length r2:Int))then
 ((idx r2 w4.1).bind fun x11 =>
 (Ed N x0 x11).bind fun r12 =>
 (if !r12 then
 some true
 else
 (if !x2 then
 (idx r2 w4.1).bind fun x31 =>
 (Ed N x1 x31).bind fun r32 =>
 some (r32 != x3)
 else
 some false:Option (Bool)).bind fun v33 =>
 some v33:Option (Bool)).bind fun v34 =>
 if v34 then
 some w4.2
 else
 (if decide ((List.length w4.2:Int)>0)then
 (idx w4.2 (IntKind.wrap .i64 ((List.length w4.2:Int) - 1))).bind fun _ =>
 (idx w4.2 (IntKind.wrap .i64 ((List.length w4.2:Int) - 1))).bind fun x37 =>
 (idx r2 w4.1).bind fun x38 =>
 some (x37.2==x38)
 else
 some false:Option (Bool)).bind fun v39 =>
 if v39 then
 (idx r2 (IntKind.wrap .i64 (w4.1+1))).bind fun x40 =>
 (idx w4.2 (IntKind.wrap .i64 ((List.length w4.2:Int) - 1))).bind fun _ =>
 (idx w4.2 (IntKind.wrap .i64 ((List.length w4.2:Int) - 1))).bind fun y41 =>
 some (List.set w4.2 (Int.toNat (IntKind.wrap .i64 ((List.length w4.2:Int) - 1))) (y41.1,x40))
 else
 (idx r2 w4.1).bind fun x42 =>
 (idx r2 (IntKind.wrap .i64 (w4.1+1))).bind fun x43 =>
 (app 16 w4.2 ([(x42,x43)]:List Qa)).bind fun q44 =>
 some q44:Option (((List Qa)))).bind fun v45 =>
 some (.inl ((IntKind.wrap .i64 (w4.1+1)),v45))
 else
 some (.inr w4.2)
def Ht(N:Nat)(x0:(List Qa))(x1:(List Qa))(x2:Bool)(x3:Bool):Option ((List Qa)) :=
 (Kg N ([]:List Int) x0).bind fun r1 =>
 (Kg N r1 x1).bind fun r2 =>
 (Qf (Af N r2 x0 x2 x1 x3) N (0,([]:List Qa))).bind fun v46 =>
 some v46
def Hu(N:Nat)(x0:(List Qa))(x1:(List Qa)):Option ((List Qa)) :=
 (Ht N x0 x1 false true).bind fun r1 =>
 some r1
def Xk(N:Nat)(x0:Qa)(x1:Qa):Option (Qa×Bool) :=
 (Hu N ([x0]:List Qa) ([x1]:List Qa)).bind fun r1 =>
 if(List.length r1:Int)==0 then
 some ((0,0),false)
 else
 (idx r1 0).bind fun _ =>
 (idx r1 0).bind fun x2 =>
 some (x2,true)
def Gi(N:Nat)(v1:Int)(x0:(List Yj))(x2:Yj):(Int)→Option ((Int)⊕((Unit)⊕(Bool))):=fun v9 =>
 if decide (v9<v1)then
 (idx x0 v9).bind fun x10 =>
 (Xk N x10.2.2.2.1 x2.2.2.2.1).bind fun w11 =>
 if((w11.2&&(x10.1==x2.1))&&(x10.2.1==x2.2.1))&&(x10.2.2.1==x2.2.2.1)then
 some (.inr (.inr false))
 else
 some (.inl (IntKind.wrap .i64 (v9+1)))
 else
 some (.inr (.inl ()))
def Gj(N:Nat)(x0:(List Yj)):(Int)→Option ((Int)⊕((Unit)⊕(Bool))):=fun v1 =>
 if decide (v1<(List.length x0:Int))then
 (idx x0 v1).bind fun x2 =>
 (if(((decide (x2.1<1))||(decide (x2.1>999)))||(decide (x2.2.1<1)))||(decide (x2.2.1≥5))then
 some true
 else
 (U8 N x2.2.2.2.1).bind fun r4 =>
 some (!r4):Option (Bool)).bind fun v5 =>
 (if v5 then
 some true
 else
 (Xi N x2.2.2.2.2.1).bind fun r7 =>
 some (r7 != 0):Option (Bool)).bind fun v8 =>
 if(v8||(decide (x2.2.2.2.2.2<0)))||(decide (x2.2.2.2.2.2>1125899906842624))then
 some (.inr (.inr false))
 else
 (Qf (Gi N v1 x0 x2) N 0).bind fun
 | .inl _ =>
  some (.inl (IntKind.wrap .i64 (v1+1)))
 | .inr v13 =>
  some (.inr (.inr v13))
 else
 some (.inr (.inl ()))
def Ks(N:Nat)(x0:(List Yj)):Option (Bool) :=
 (Qf (Gj N x0) N 0).bind fun
 | .inl _ =>
  some (decide ((List.length x0:Int)≤4096))
 | .inr v14 =>
  some v14
def Bs(N:Nat)(x0:Qz)(x1:Int):(Int)→Option ((Int)⊕((Unit)⊕(Bool))):=fun v1 =>
 if decide (v1<(List.length x0.2.1:Int))then
 (idx x0.2.1 v1).bind fun x2 =>
 (Ek N x2 x1).bind fun r3 =>
 if !r3 then
 some (.inr (.inr false))
 else
 some (.inl (IntKind.wrap .i64 (v1+1)))
 else
 some (.inr (.inl ()))
def Bt(N:Nat)(x0:Qz)(x1:Int):(Int)→Option ((Int)⊕((Unit)⊕(Bool))):=fun v4 =>
 if decide (v4<(List.length x0.2.2.2.2.2:Int))then
 (idx x0.2.2.2.2.2 v4).bind fun x5 =>
 if decide ((List.length x5.2.2.2.2.1:Int)>x1)then
 some (.inr (.inr false))
 else
 some (.inl (IntKind.wrap .i64 (v4+1)))
 else
 some (.inr (.inl ()))
def Bu(N:Nat)(x0:Qz)(x1:Int):(Int)→Option ((Int)⊕((Unit)⊕(Bool))):=fun v6 =>
 if decide (v6<(List.length x0.2.2.1:Int))then
 (idx x0.2.2.1 v6).bind fun x7 =>
 if decide ((List.length x7.2.2.2.2.2:Int)>x1)then
 some (.inr (.inr false))
 else
 some (.inl (IntKind.wrap .i64 (v6+1)))
 else
 some (.inr (.inl ()))
def Bv(N:Nat)(x0:Qz):(Int)→Option ((Int)⊕((Unit)⊕(Bool))):=fun v8 =>
 if decide (v8<(List.length x0.2.2.2.2.1:Int))then
 (idx x0.2.2.2.2.1 v8).bind fun x9 =>
 (if decide (x9<0)then
 some true
 else
 (idx x0.2.2.2.2.1 v8).bind fun x11 =>
 some (decide (x11≥146097)):Option (Bool)).bind fun v12 =>
 (if v12 then
 some true
 else
 (if decide (v8>0)then
 (idx x0.2.2.2.2.1 v8).bind fun x19 =>
 (idx x0.2.2.2.2.1 (IntKind.wrap .i64 (v8 - 1))).bind fun x20 =>
 some (decide (x19≤x20))
 else
 some false:Option (Bool)).bind fun v21 =>
 some v21:Option (Bool)).bind fun v22 =>
 if v22 then
 some (.inr (.inr false))
 else
 some (.inl (IntKind.wrap .i64 (v8+1)))
 else
 some (.inr (.inl ()))
def E5(N:Nat)(x0:Qz)(x1:Int):Option (Bool) :=
 if(((((decide ((List.length x0.1:Int)>x1))||(decide ((List.length x0.2.1:Int)>x1)))||(decide ((List.length x0.2.2.1:Int)>x1)))||(decide ((List.length x0.2.2.2.1:Int)>x1)))||(decide ((List.length x0.2.2.2.2.1:Int)>x1)))||(decide ((List.length x0.2.2.2.2.2:Int)>x1))then
 some false
 else
 (Qf (Bs N x0 x1) N 0).bind fun
 | .inl _ =>
  (Qf (Bt N x0 x1) N 0).bind fun
  | .inl _ =>
   (Qf (Bu N x0 x1) N 0).bind fun
   | .inl _ =>
    (Qf (Bv N x0) N 0).bind fun
    | .inl _ =>
     (Es N x0.1).bind fun w23 =>
     (if w23.2==0 then
     (Eu N x0.2.2.1).bind fun r26 =>
     some (r26==0)
     else
     some false:Option (Bool)).bind fun v27 =>
     (if v27 then
     (E3 N x0.2.1).bind fun r29 =>
     some (r29==0)
     else
     some false:Option (Bool)).bind fun v30 =>
     (if v30 then
     (E4 N x0.2.2.2.1).bind fun r32 =>
     some r32
     else
     some false:Option (Bool)).bind fun v33 =>
     (if v33 then
     (Ks N x0.2.2.2.2.2).bind fun r35 =>
     some r35
     else
     some false:Option (Bool)).bind fun v36 =>
     some v36
    | .inr v37 =>
     some v37
   | .inr v38 =>
    some v38
  | .inr v39 =>
   some v39
 | .inr v40 =>
  some v40
def Hv(N:Nat)(x0:Qb):Option (Bool) :=
 if(((((((((decide (x0.2.2.1<1))||(decide (x0.2.2.1>9999)))||(decide (x0.2.2.2.1<1)))||(decide (x0.2.2.2.1>9999)))||(decide (x0.2.1<1)))||(decide (x0.2.1≥5)))||(decide (x0.2.2.2.2.2.2.1<0)))||(decide (x0.2.2.2.2.2.2.1≥12622780800)))||(decide (x0.2.2.2.2.2.2.2.1<0)))||(decide (x0.2.2.2.2.2.2.2.1>1099511627776))then
 some false
 else
 some ((x0.2.1 != 1)||((decide (x0.2.2.2.2.2.2.2.1≤604800))&&(decide ((IntKind.wrap .i64 (x0.2.2.2.2.2.2.1+x0.2.2.2.2.2.2.2.1))≤12622780800))))
def Ag(N:Nat)(x0:Int):Option (Bool) :=
 some ((decide (x0<86400000))||(decide (x0>12622780800)))
def Dn(N:Nat):Option (Qz) :=
 some (([(0,1,1,0,([]:Str),([112,114,101,112,97,105,100]:Str),1),(0,3,1,1,([]:Str),([98,97,115,105,99]:Str),0),(0,8,0,1,([]:Str),([112,97,99,107]:Str),0),(0,14,1,0,([]:Str),([]:Str),700)]:List Qv),([(([98,97,115,105,99]:Str),0,false,([(([104,111,109,101]:Str),([([52,57]:Str)]:List Str))]:List Qq),([(([97,108,108]:Str),([]:List Kf))]:List Qt),([(1,([]:Str),([]:Str),500,([(0,1,20)]:List Vt))]:List Je),([]:List Qk))]:List Ql),([(([112,97,99,107]:Str),0,0,([102,101,101]:Str),false,([(1,([]:List Str),30,0,0,false)]:List J5))]:List Qn),([]:List Kr),([]:List Int),([]:List Yj))
def Qf3(N:Nat)(x0:Qw):(Int×(List Qd)×(List Qp)×(List Qi))→Option ((Int×(List Qd)×(List Qp)×(List Qi))⊕(((List Qd)×(List Qp)×(List Qi)))):=fun w7 =>
 if decide (w7.1<(List.length x0.1:Int))then
 (idx x0.1 w7.1).bind fun x11 =>
 (app 16 ([]:List Str) x11.2.2.2.2.2.1).bind fun q12 =>
 (app 120 w7.2.1 ([(x11.1,x11.2.1,x11.2.2.1,x11.2.2.2.1,x11.2.2.2.2.1,q12,x11.2.2.2.2.2.2.1,x11.2.2.2.2.2.2.2.1,x11.2.2.2.2.2.2.2.2.1,x11.2.2.2.2.2.2.2.2.2.1,x11.2.2.2.2.2.2.2.2.2.2)]:List Qd)).bind fun q13 =>
 some (.inl ((IntKind.wrap .i64 (w7.1+1)),q13,w7.2.2.1,w7.2.2.2))
 else
 some (.inr (w7.2.1,w7.2.2.1,w7.2.2.2))
def Qaf(N:Nat)(x0:Qw):Option ((List Qd)×(List Qp)×(List Qi)) :=
 (app 40 ([]:List Qp) x0.2.1).bind fun q1 =>
 (app 40 ([]:List Qi) x0.2.2).bind fun q2 =>
 (Qf (Qf3 N x0) N (0,([]:List Qd),q1,q2)).bind fun w14 =>
 some (w14.1,w14.2.1,w14.2.2)
def Oe(N:Nat)(x0:(List Str))(x1:Str):(Int)→Option ((Int)⊕((Int))):=fun v1 =>
 (if decide (v1<(List.length x0:Int))then
 (idx x0 v1).bind fun x3 =>
 some (Op.bytesLess x3 x1)
 else
 some false:Option (Bool)).bind fun v4 =>
 if v4 then
 some (.inl (IntKind.wrap .i64 (v1+1)))
 else
 some (.inr v1)
def Mj(N:Nat)(x0:(List Str))(x1:Str):Option ((List Str)) :=
 (Qf (Oe N x0 x1) N 0).bind fun v5 =>
 (slc x0 0 v5).bind fun s6 =>
 (app 16 ([]:List Str) s6).bind fun q7 =>
 (app 16 q7 ([x1]:List Str)).bind fun q8 =>
 (slc x0 v5 (List.length x0:Int)).bind fun s9 =>
 (app 16 q8 s9).bind fun q10 =>
 some q10
def Do(N:Nat)(x0:(List Str))(x1:Str):(Int×(List Str))→Option ((Int×(List Str))⊕(((List Str)))):=fun w2 =>
 if decide (w2.1<(List.length x0:Int))then
 ((idx x0 w2.1).bind fun x5 =>
 if !(x5==x1)then
 (app 16 w2.2 ([x5]:List Str)).bind fun q6 =>
 some q6
 else
 some w2.2:Option (((List Str)))).bind fun v7 =>
 some (.inl ((IntKind.wrap .i64 (w2.1+1)),v7))
 else
 some (.inr w2.2)
def Ah(N:Nat)(x0:(List Str))(x1:Str):Option ((List Str)) :=
 (Qf (Do N x0 x1) N (0,([]:List Str))).bind fun v8 =>
 some v8
def Mk(N:Nat)(x0:Jp)(x1:Qv):Option (Jp) :=
 (if x1.2.1==3 then
 some (.inr (x1.2.2.2.1,x1.2.2.1,x1.1,x1.2.2.2.2.2.1,false,false))
 else
 if x1.2.1==4 then
 some (.inr (0,0,0,([]:Str),false,false))
 else
 if x1.2.1==7 then
 some (.inl (x0.1,x0.2.1,x0.2.2.1,x1.2.2.2.2.2.1,x0.2.2.2.2.1,x0.2.2.2.2.2.1,x0.2.2.2.2.2.2.1,x0.2.2.2.2.2.2.2,0,0,0,([]:Str),false,false))
 else
 if x1.2.1==8 then
 (Mj N x0.2.2.2.2.2.1 x1.2.2.2.2.2.1).bind fun r1 =>
 some (.inl (x0.1,x0.2.1,x0.2.2.1,x0.2.2.2.1,x0.2.2.2.2.1,r1,x0.2.2.2.2.2.2.1,x0.2.2.2.2.2.2.2,0,0,0,([]:Str),false,false))
 else
 if x1.2.1==9 then
 (Ah N x0.2.2.2.2.2.1 x1.2.2.2.2.2.1).bind fun r2 =>
 some (.inl (x0.1,x0.2.1,x0.2.2.1,x0.2.2.2.1,x0.2.2.2.2.1,r2,x0.2.2.2.2.2.2.1,x0.2.2.2.2.2.2.2,0,0,0,([]:Str),false,false))
 else
 (if x1.2.1==10 then
 some (x1.2.1==10)
 else
 some (x1.2.1==11):Option ((Bool))).bind fun v3 =>
 if v3 then
 some (.inl (x0.1,x0.2.1,x0.2.2.1,x0.2.2.2.1,x0.2.2.2.2.1,x0.2.2.2.2.2.1,(x1.2.1==10),x0.2.2.2.2.2.2.2,0,0,0,([]:Str),false,false))
 else
 (if x1.2.1==12 then
 some (x1.2.1==12)
 else
 some (x1.2.1==13):Option ((Bool))).bind fun v4 =>
 if v4 then
 some (.inl (x0.1,x0.2.1,x0.2.2.1,x0.2.2.2.1,x0.2.2.2.2.1,x0.2.2.2.2.2.1,x0.2.2.2.2.2.2.1,(x1.2.1==12),0,0,0,([]:Str),false,false))
 else
 some (.inl (x0.1,x0.2.1,x0.2.2.1,x0.2.2.2.1,x0.2.2.2.2.1,x0.2.2.2.2.2.1,x0.2.2.2.2.2.2.1,x0.2.2.2.2.2.2.2,0,0,0,([]:Str),false,false)):Option ((Int×Int×Int×Str×(List Str)×(List Str)×Bool×Bool×Int×Int×Int×Str×Bool×Bool)⊕(Int×Int×Int×Str×Bool×Bool))).bind fun
 | .inl w5 =>
  some (w5.1,w5.2.1,w5.2.2.1,w5.2.2.2.1,w5.2.2.2.2.1,w5.2.2.2.2.2.1,w5.2.2.2.2.2.2.1,w5.2.2.2.2.2.2.2.1)
 | .inr w19 =>
  some (w19.1,w19.2.1,w19.2.2.1,w19.2.2.2.1,([]:List Str),([]:List Str),w19.2.2.2.2.1,w19.2.2.2.2.2)
def Dp(N:Nat)(x0:(List Qv))(x1:Int):(Int×(List Qy)×Jp)→Option ((Int×(List Qy)×Jp)⊕(((List Qy)))):=fun w9 =>
 if decide (w9.1<(List.length x0:Int))then
 ((idx x0 w9.1).bind fun x17 =>
 if(x1==0)||(x17.2.2.2.1 != x1)then
 some (w9.2.1,w9.2.2)
 else
 (Mk N w9.2.2 x17).bind fun r18 =>
 (if decide ((List.length w9.2.1:Int)>0)then
 (idx w9.2.1 (IntKind.wrap .i64 ((List.length w9.2.1:Int) - 1))).bind fun _ =>
 (idx w9.2.1 (IntKind.wrap .i64 ((List.length w9.2.1:Int) - 1))).bind fun x21 =>
 some (x21.1==x17.1)
 else
 some false:Option (Bool)).bind fun v22 =>
 if v22 then
 (idx w9.2.1 (IntKind.wrap .i64 ((List.length w9.2.1:Int) - 1))).bind fun _ =>
 (idx w9.2.1 (IntKind.wrap .i64 ((List.length w9.2.1:Int) - 1))).bind fun y23 =>
 some ((List.set w9.2.1 (Int.toNat (IntKind.wrap .i64 ((List.length w9.2.1:Int) - 1))) (y23.1,r18)),r18)
 else
 (app 104 w9.2.1 ([(x17.1,r18)]:List Qy)).bind fun q24 =>
 some (q24,r18):Option (((List Qy)×Jp))).bind fun w25 =>
 some (.inl ((IntKind.wrap .i64 (w9.1+1)),w25.1,w25.2))
 else
 some (.inr w9.2.1)
def Ai(N:Nat)(x0:(List Qv))(x1:Int):Option ((List Qy)) :=
 (Qf (Dp N x0 x1) N (0,([]:List Qy),(0,0,0,([]:Str),([]:List Str),([]:List Str),false,false))).bind fun v27 =>
 some v27
def Mm(N:Nat)(x0:Jp)(x1:Jp):(Int)→Option ((Int)⊕((Unit)⊕(Bool))):=fun v1 =>
 if decide (v1<(List.length x0.2.2.2.2.2.1:Int))then
 (idx x0.2.2.2.2.2.1 v1).bind fun x2 =>
 (idx x1.2.2.2.2.2.1 v1).bind fun x3 =>
 if !(x2==x3)then
 some (.inr (.inr false))
 else
 some (.inl (IntKind.wrap .i64 (v1+1)))
 else
 some (.inr (.inl ()))
def Ih(N:Nat)(x0:Jp)(x1:Jp):Option (Bool) :=
 if((((x0.1 != x1.1)||(!(x0.2.2.2.1==x1.2.2.2.1)))||(x0.2.2.2.2.2.2.1 != x1.2.2.2.2.2.2.1))||(x0.2.2.2.2.2.2.2 != x1.2.2.2.2.2.2.2))||((List.length x0.2.2.2.2.2.1:Int) != (List.length x1.2.2.2.2.2.1:Int))then
 some false
 else
 (Qf (Mm N x0 x1) N 0).bind fun
 | .inl _ =>
  some true
 | .inr v4 =>
  some v4
def E6(N:Nat)(x0:Qy)(x1:Qy):Option (Bool) :=
 (Ih N x0.2 x1.2).bind fun r1 =>
 some r1
def E7(N:Nat)(x0:Qy)(x1:Qy):Option (Qy) :=
 some x0
def Um(N:Nat)(x0:(List Qy)):(Int×(List Qy))→Option ((Int×(List Qy))⊕(((List Qy)))):=fun w2 =>
 if decide (w2.1<(List.length x0:Int))then
 ((idx x0 w2.1).bind fun x9 =>
 if decide ((List.length w2.2:Int)>0)then
 (idx w2.2 (IntKind.wrap .i64 ((List.length w2.2:Int) - 1))).bind fun _ =>
 (idx w2.2 (IntKind.wrap .i64 ((List.length w2.2:Int) - 1))).bind fun x10 =>
 (E6 N x10 x9).bind fun r11 =>
 if r11 then
 (idx w2.2 (IntKind.wrap .i64 ((List.length w2.2:Int) - 1))).bind fun _ =>
 (idx w2.2 (IntKind.wrap .i64 ((List.length w2.2:Int) - 1))).bind fun x12 =>
 (E7 N x12 x9).bind fun r13 =>
 (idx w2.2 (IntKind.wrap .i64 ((List.length w2.2:Int) - 1))).bind fun _ =>
 (idx w2.2 (IntKind.wrap .i64 ((List.length w2.2:Int) - 1))).bind fun y14 =>
 some (List.set w2.2 (Int.toNat (IntKind.wrap .i64 ((List.length w2.2:Int) - 1))) r13)
 else
 (app 104 w2.2 ([x9]:List Qy)).bind fun q15 =>
 some q15
 else
 (app 104 w2.2 ([x9]:List Qy)).bind fun q16 =>
 some q16:Option (((List Qy)))).bind fun v17 =>
 some (.inl ((IntKind.wrap .i64 (w2.1+1)),v17))
 else
 some (.inr w2.2)
def Y9(N:Nat)(x0:(List Qy)):Option ((List Qy)) :=
 (Qf (Um N x0) N (0,([]:List Qy))).bind fun v18 =>
 some v18
def Iy(N:Nat)(r2:(List Qy)):(Int×(List Q7))→Option ((Int×(List Q7))⊕(((List Q7)))):=fun w4 =>
 if decide (w4.1<(List.length r2:Int))then
 ((idx r2 w4.1).bind fun _ =>
 (idx r2 w4.1).bind fun x10 =>
 if x10.2.1==0 then
 some w4.2
 else
 (if decide ((IntKind.wrap .i64 (w4.1+1))<(List.length r2:Int))then
 (idx r2 (IntKind.wrap .i64 (w4.1+1))).bind fun _ =>
 (idx r2 (IntKind.wrap .i64 (w4.1+1))).bind fun x12 =>
 some (x10.1,x12.1)
 else
 some (x10.1,12622780800):Option ((Qa))).bind fun v13 =>
 (app 16 ([]:List Str) x10.2.2.2.2.2.2.1).bind fun q14 =>
 (app 64 w4.2 ([(v13,x10.2.2.2.2.1,q14,x10.2.2.2.2.2.2.2.1,x10.2.2.2.2.2.2.2.2)]:List Q7)).bind fun q15 =>
 some q15:Option (((List Q7)))).bind fun v16 =>
 some (.inl ((IntKind.wrap .i64 (w4.1+1)),v16))
 else
 some (.inr w4.2)
def G6(N:Nat)(x0:(List Qv))(x1:Int):Option ((List Q7)) :=
 (Ai N x0 x1).bind fun r1 =>
 (Y9 N r1).bind fun r2 =>
 (Qf (Iy N r2) N (0,([]:List Q7))).bind fun v17 =>
 some v17
def V6(N:Nat)(x0:Qa):Option (Bool) :=
 some (((decide (x0.1≥0))&&(decide (x0.1<x0.2)))&&(decide (x0.2≤12622780800)))
def Wn(N:Nat)(x0:Qa)(x1:Int):Option (Bool) :=
 (V6 N x0).bind fun r1 =>
 some ((r1&&(decide (x1≥x0.1)))&&(decide (x1<x0.2)))
def Qbh(N:Nat)(r1:(List Q7))(x2:Int):(Int×Qa×Str×Bool×Bool)→Option ((Int×Qa×Str×Bool×Bool)⊕((Qa×Str×Bool×Bool)⊕(Bool×Q7))):=fun w3 =>
 if decide (w3.1<(List.length r1:Int))then
 (idx r1 w3.1).bind fun _ =>
 (idx r1 w3.1).bind fun x8 =>
 (Wn N x8.1 x2).bind fun r9 =>
 if r9 then
 some (.inr (.inr (true,x8)))
 else
 some (.inl ((IntKind.wrap .i64 (w3.1+1)),w3.2.1,w3.2.2.1,w3.2.2.2.1,w3.2.2.2.2))
 else
 some (.inr (.inl (w3.2.1,w3.2.2.1,w3.2.2.2.1,w3.2.2.2.2)))
def Qag(N:Nat)(x0:(List Qv))(x1:Int)(x2:Int):Option (Q7×Bool) :=
 (G6 N x0 x1).bind fun r1 =>
 (Qf (Qbh N r1 x2) N (0,(0,0),([]:Str),false,false)).bind fun
 | .inl w10 =>
  some (((0,0),([]:Str),([]:List Str),false,false),false)
 | .inr w14 =>
  some (w14.2,w14.1)
def Mp(N:Nat):Option ((List (Int×Qm))×(List (Int×Jp))×(List (Int×Bool))×(List (Str×Int))×(List (Int×Int))) :=
 some (([]:List (Int×Qm)),([]:List (Int×Jp)),([]:List (Int×Bool)),([]:List (Str×Int)),([]:List (Int×Int)))
def Pe(N:Nat)(x0:(List Qv))(x1:Int):Option ((List Qv)×Int) :=
 some (x0,x1)
def Mq(N:Nat)(x1:(List Qv))(x2:Int):((Int)×(List Qv))→Option (((Int)×(List Qv))⊕(((Unit)⊕(Unit))×(List Qv))):=fun w1 =>
 if decide (w1.1<(List.length x1:Int))then
 (idx x1 w1.1).bind fun x3 =>
 if decide (x3.1≤x2)then
 if !true then
 some (.inr (.inr (),(w1.2++[x3])))
 else
 some (.inl ((IntKind.wrap .i64 (w1.1+1)),(w1.2++[x3])))
 else
 some (.inl ((IntKind.wrap .i64 (w1.1+1)),w1.2))
 else
 some (.inr (.inl (),w1.2))
def Ii(N:Nat)(x1:(List Qv))(x2:Int):Option (List Qv) :=
 (Qf (Mq N x1 x2) N (0,([]:List Qv))).bind fun
 | (.inl _,acc4) =>
  some acc4
 | (.inr _,acc5) =>
  some acc5
def Bw(N:Nat)(x0:(List Int))(x1:Int):(Int)→Option ((Int)⊕((Int))):=fun v1 =>
 (if decide (v1<(List.length x0:Int))then
 (idx x0 v1).bind fun x3 =>
 some (decide (x3<x1))
 else
 some false:Option (Bool)).bind fun v4 =>
 if v4 then
 some (.inl (IntKind.wrap .i64 (v1+1)))
 else
 some (.inr v1)
def Xl(N:Nat)(x0:(List Int))(x1:Int):Option ((List Int)) :=
 (Qf (Bw N x0 x1) N 0).bind fun v5 =>
 (slc x0 0 v5).bind fun s6 =>
 (app 8 ([]:List Int) s6).bind fun q7 =>
 (app 8 q7 ([x1]:List Int)).bind fun q8 =>
 (slc x0 v5 (List.length x0:Int)).bind fun s9 =>
 (app 8 q8 s9).bind fun q10 =>
 some q10
def H0(N:Nat)(x0:(List Str))(x1:Str):(Int)→Option ((Int)⊕((Int))):=fun v1 =>
 (if decide (v1<(List.length x0:Int))then
 (idx x0 v1).bind fun x3 =>
 some (Op.bytesLess x3 x1)
 else
 some false:Option (Bool)).bind fun v4 =>
 if v4 then
 some (.inl (IntKind.wrap .i64 (v1+1)))
 else
 some (.inr v1)
def Zi(N:Nat)(x0:(List Str))(x1:Str):Option ((List Str)) :=
 (Qf (H0 N x0 x1) N 0).bind fun v5 =>
 (slc x0 0 v5).bind fun s6 =>
 (app 16 ([]:List Str) s6).bind fun q7 =>
 (app 16 q7 ([x1]:List Str)).bind fun q8 =>
 (slc x0 v5 (List.length x0:Int)).bind fun s9 =>
 (app 16 q8 s9).bind fun q10 =>
 some q10
def Ms(N:Nat)(x0:(List Str))(x1:Str):(Int×(List Str))→Option ((Int×(List Str))⊕(((List Str)))):=fun w2 =>
 if decide (w2.1<(List.length x0:Int))then
 ((idx x0 w2.1).bind fun x5 =>
 if !(x5==x1)then
 (app 16 w2.2 ([x5]:List Str)).bind fun q6 =>
 some q6
 else
 some w2.2:Option (((List Str)))).bind fun v7 =>
 some (.inl ((IntKind.wrap .i64 (w2.1+1)),v7))
 else
 some (.inr w2.2)
def Ee(N:Nat)(x0:(List Str))(x1:Str):Option ((List Str)) :=
 (Qf (Ms N x0 x1) N (0,([]:List Str))).bind fun v8 =>
 some v8
def Xm(N:Nat)(x1:Jp)(x2:Qv)(ce:(List (Int×Qm)))(cd:(List (Int×Jp)))(cg:(List (Int×Bool)))(ci:(List (Str×Int)))(cj:(List (Int×Int)))(ck:(List Int))(cm:(List Int)):Option (Jp×(List (Str×Int))) :=
 (if x2.2.1==5 then
 (Zi N x1.2.2.2.2.1 x2.2.2.2.2.1).bind fun r2 =>
 some ((Ya (k:=.str) x2.2.2.2.2.1 x2.2.2.2.1 ci),x1.1,x1.2.1,x1.2.2.1,x1.2.2.2.1,r2,x1.2.2.2.2.2.1,x1.2.2.2.2.2.2.1,x1.2.2.2.2.2.2.2)
 else
 if x2.2.1==6 then
 (Ee N x1.2.2.2.2.1 x2.2.2.2.2.1).bind fun r3 =>
 some ((Lh (k:=.str) x2.2.2.2.2.1 ci),x1.1,x1.2.1,x1.2.2.1,x1.2.2.2.1,r3,x1.2.2.2.2.2.1,x1.2.2.2.2.2.2.1,x1.2.2.2.2.2.2.2)
 else
 if x2.2.1==7 then
 some (ci,x1.1,x1.2.1,x1.2.2.1,x2.2.2.2.2.2.1,x1.2.2.2.2.1,x1.2.2.2.2.2.1,x1.2.2.2.2.2.2.1,x1.2.2.2.2.2.2.2)
 else
 if x2.2.1==8 then
 (Zi N x1.2.2.2.2.2.1 x2.2.2.2.2.2.1).bind fun r4 =>
 some (ci,x1.1,x1.2.1,x1.2.2.1,x1.2.2.2.1,x1.2.2.2.2.1,r4,x1.2.2.2.2.2.2.1,x1.2.2.2.2.2.2.2)
 else
 if x2.2.1==9 then
 (Ee N x1.2.2.2.2.2.1 x2.2.2.2.2.2.1).bind fun r5 =>
 some (ci,x1.1,x1.2.1,x1.2.2.1,x1.2.2.2.1,x1.2.2.2.2.1,r5,x1.2.2.2.2.2.2.1,x1.2.2.2.2.2.2.2)
 else
 if x2.2.1==10 then
 some (ci,x1.1,x1.2.1,x1.2.2.1,x1.2.2.2.1,x1.2.2.2.2.1,x1.2.2.2.2.2.1,true,x1.2.2.2.2.2.2.2)
 else
 if x2.2.1==11 then
 some (ci,x1.1,x1.2.1,x1.2.2.1,x1.2.2.2.1,x1.2.2.2.2.1,x1.2.2.2.2.2.1,false,x1.2.2.2.2.2.2.2)
 else
 if x2.2.1==12 then
 some (ci,x1.1,x1.2.1,x1.2.2.1,x1.2.2.2.1,x1.2.2.2.2.1,x1.2.2.2.2.2.1,x1.2.2.2.2.2.2.1,true)
 else
 if x2.2.1==13 then
 some (ci,x1.1,x1.2.1,x1.2.2.1,x1.2.2.2.1,x1.2.2.2.2.1,x1.2.2.2.2.2.1,x1.2.2.2.2.2.2.1,false)
 else
 some (ci,x1.1,x1.2.1,x1.2.2.1,x1.2.2.2.1,x1.2.2.2.2.1,x1.2.2.2.2.2.1,x1.2.2.2.2.2.2.1,x1.2.2.2.2.2.2.2):Option (((List (Str×Int))×Int×Int×Int×Str×(List Str)×(List Str)×Bool×Bool))).bind fun w6 =>
 some ((w6.2.1,w6.2.2.1,w6.2.2.2.1,w6.2.2.2.2.1,w6.2.2.2.2.2.1,w6.2.2.2.2.2.2.1,w6.2.2.2.2.2.2.2.1,w6.2.2.2.2.2.2.2.2),w6.1)
def Gk(N:Nat)(x1:Qv)(cd:(List (Int×Jp))):(Int×(List (Str×Int)))→Option ((Int×(List (Str×Int)))⊕(((List (Str×Int))))):=fun w30 =>
 if decide (w30.1<(List.length (((Qr (k:=(.int .i64)) x1.2.2.2.1 cd).getD (0,0,0,([]:Str),([]:List Str),([]:List Str),false,false)).2.2.2.2.1):Int))then
 (idx (((Qr (k:=(.int .i64)) x1.2.2.2.1 cd).getD (0,0,0,([]:Str),([]:List Str),([]:List Str),false,false)).2.2.2.2.1) w30.1).bind fun x32 =>
 some (.inl ((IntKind.wrap .i64 (w30.1+1)),(Lh (k:=.str) x32 w30.2)))
 else
 some (.inr w30.2)
def Kt(N:Nat)(x1:Qv)(ce:(List (Int×Qm)))(cd:(List (Int×Jp)))(cg:(List (Int×Bool)))(ci:(List (Str×Int)))(cj:(List (Int×Int)))(ck:(List Int))(cm:(List Int)):Option ((List (Int×Qm))×(List (Int×Jp))×(List (Int×Bool))×(List (Str×Int))×(List (Int×Int))×(List Int)×(List Int)) :=
 if x1.2.1==1 then
 (if !(Qr (k:=(.int .i64)) x1.2.2.1 ce).isSome then
 (Xl N ck x1.2.2.1).bind fun r7 =>
 some (ce,cd,cg,ci,cj,r7,cm)
 else
 some (ce,cd,cg,ci,cj,ck,cm):Option (((List (Int×Qm))×(List (Int×Jp))×(List (Int×Bool))×(List (Str×Int))×(List (Int×Int))×(List Int)×(List Int)))).bind fun w8 =>
 some ((Ya (k:=(.int .i64)) x1.2.2.1 (x1.2.2.1,x1.1,x1.2.2.2.2.2.2,(x1.2.2.2.2.2.1==([112,114,101,112,97,105,100]:Str)),false,([]:List Int)) w8.1),w8.2.1,w8.2.2.1,w8.2.2.2.1,w8.2.2.2.2.1,w8.2.2.2.2.2.1,w8.2.2.2.2.2.2)
 else
 if x1.2.1==2 then
 some ((Ya (k:=(.int .i64)) x1.2.2.1 (((Qr (k:=(.int .i64)) x1.2.2.1 ce).getD (0,0,0,false,false,([]:List Int))).1,((Qr (k:=(.int .i64)) x1.2.2.1 ce).getD (0,0,0,false,false,([]:List Int))).2.1,((Qr (k:=(.int .i64)) x1.2.2.1 ce).getD (0,0,0,false,false,([]:List Int))).2.2.1,((Qr (k:=(.int .i64)) x1.2.2.1 ce).getD (0,0,0,false,false,([]:List Int))).2.2.2.1,true,((Qr (k:=(.int .i64)) x1.2.2.1 ce).getD (0,0,0,false,false,([]:List Int))).2.2.2.2.2) ce),cd,cg,ci,cj,ck,cm)
 else
 if x1.2.1==3 then
 (if !((Qr (k:=(.int .i64)) x1.2.2.2.1 cg).getD false)then
 (Xl N cm x1.2.2.2.1).bind fun r21 =>
 some (ce,cd,cg,ci,cj,ck,r21)
 else
 some (ce,cd,cg,ci,cj,ck,cm):Option (((List (Int×Qm))×(List (Int×Jp))×(List (Int×Bool))×(List (Str×Int))×(List (Int×Int))×(List Int)×(List Int)))).bind fun w22 =>
 some (w22.1,(Ya (k:=(.int .i64)) x1.2.2.2.1 (x1.2.2.2.1,x1.2.2.1,x1.1,x1.2.2.2.2.2.1,([]:List Str),([]:List Str),false,false) w22.2.1),(Ya (k:=(.int .i64)) x1.2.2.2.1 true w22.2.2.1),w22.2.2.2.1,(Ya (k:=(.int .i64)) x1.2.2.1 (IntKind.wrap .i64 (((Qr (k:=(.int .i64)) x1.2.2.1 w22.2.2.2.2.1).getD 0)+1)) w22.2.2.2.2.1),w22.2.2.2.2.2.1,w22.2.2.2.2.2.2)
 else
 if x1.2.1==4 then
 (Qf (Gk N x1 cd) N (0,ci)).bind fun v33 =>
 some (ce,(Lh (k:=(.int .i64)) x1.2.2.2.1 cd),cg,v33,(Ya (k:=(.int .i64)) (((Qr (k:=(.int .i64)) x1.2.2.2.1 cd).getD (0,0,0,([]:Str),([]:List Str),([]:List Str),false,false)).2.1) (IntKind.wrap .i64 (((Qr (k:=(.int .i64)) (((Qr (k:=(.int .i64)) x1.2.2.2.1 cd).getD (0,0,0,([]:Str),([]:List Str),([]:List Str),false,false)).2.1) cj).getD 0) - 1)) cj),ck,cm)
 else
 (if x1.2.1==14 then
 some (x1.2.1==14)
 else
 some (x1.2.1==15):Option ((Bool))).bind fun v34 =>
 if v34 then
 some (ce,cd,cg,ci,cj,ck,cm)
 else
 if(Qr (k:=(.int .i64)) x1.2.2.2.1 cd).isSome then
 (Xm N ((Qr (k:=(.int .i64)) x1.2.2.2.1 cd).getD (0,0,0,([]:Str),([]:List Str),([]:List Str),false,false)) x1 ce cd cg ci cj ck cm).bind fun w35 =>
 some (ce,(Ya (k:=(.int .i64)) x1.2.2.2.1 w35.1 cd),cg,w35.2,cj,ck,cm)
 else
 some (ce,cd,cg,ci,cj,ck,cm)
def Wo(N:Nat)(cm:(List Int))(cd:(List (Int×Jp))):(Int×(List (Int×(List Int)))×(List Jp))→Option ((Int×(List (Int×(List Int)))×(List Jp))⊕(((List (Int×(List Int)))×(List Jp)))):=fun w6 =>
 if decide (w6.1<(List.length cm:Int))then
 ((idx cm w6.1).bind fun _ =>
 (idx cm w6.1).bind fun x12 =>
 if !(Qr (k:=(.int .i64)) x12 cd).isSome then
 some (w6.2.1,w6.2.2)
 else
 (chk (eqK (.int .i64) (((Qr (k:=(.int .i64)) x12 cd).getD (0,0,0,([]:Str),([]:List Str),([]:List Str),false,false)).2.1) (((Qr (k:=(.int .i64)) x12 cd).getD (0,0,0,([]:Str),([]:List Str),([]:List Str),false,false)).2.1))).bind fun _ =>
 (app 8 ((Qr (k:=(.int .i64)) (((Qr (k:=(.int .i64)) x12 cd).getD (0,0,0,([]:Str),([]:List Str),([]:List Str),false,false)).2.1) w6.2.1).getD []) ([x12]:List Int)).bind fun q16 =>
 (chk (eqK (.int .i64) (((Qr (k:=(.int .i64)) x12 cd).getD (0,0,0,([]:Str),([]:List Str),([]:List Str),false,false)).2.1) (((Qr (k:=(.int .i64)) x12 cd).getD (0,0,0,([]:Str),([]:List Str),([]:List Str),false,false)).2.1))).bind fun _ =>
 (app 96 w6.2.2 ([((Qr (k:=(.int .i64)) x12 cd).getD (0,0,0,([]:Str),([]:List Str),([]:List Str),false,false))]:List Jp)).bind fun q17 =>
 some ((Ya (k:=(.int .i64)) (((Qr (k:=(.int .i64)) x12 cd).getD (0,0,0,([]:Str),([]:List Str),([]:List Str),false,false)).2.1) q16 w6.2.1),q17):Option (((List (Int×(List Int)))×(List Jp)))).bind fun w18 =>
 some (.inl ((IntKind.wrap .i64 (w6.1+1)),w18.1,w18.2))
 else
 some (.inr (w6.2.1,w6.2.2))
def Wp(N:Nat)(ck:(List Int))(ce:(List (Int×Qm)))(v20:(List (Int×(List Int)))):(Int×(List Qm)×(List Jp))→Option ((Int×(List Qm)×(List Jp))⊕(((List Qm)×(List Jp)))):=fun w26 =>
 if decide (w26.1<(List.length ck:Int))then
 (idx ck w26.1).bind fun _ =>
 (idx ck w26.1).bind fun x29 =>
 (app 56 w26.2.1 ([(((Qr (k:=(.int .i64)) x29 ce).getD (0,0,0,false,false,([]:List Int))).1,((Qr (k:=(.int .i64)) x29 ce).getD (0,0,0,false,false,([]:List Int))).2.1,((Qr (k:=(.int .i64)) x29 ce).getD (0,0,0,false,false,([]:List Int))).2.2.1,((Qr (k:=(.int .i64)) x29 ce).getD (0,0,0,false,false,([]:List Int))).2.2.2.1,((Qr (k:=(.int .i64)) x29 ce).getD (0,0,0,false,false,([]:List Int))).2.2.2.2.1,((Qr (k:=(.int .i64)) x29 v20).getD ([]:List Int)))]:List Qm)).bind fun q30 =>
 some (.inl ((IntKind.wrap .i64 (w26.1+1)),q30,w26.2.2))
 else
 some (.inr (w26.2.1,w26.2.2))
def Z8(N:Nat)(ce:(List (Int×Qm)))(cd:(List (Int×Jp)))(cg:(List (Int×Bool)))(ci:(List (Str×Int)))(cj:(List (Int×Int)))(ck:(List Int))(cm:(List Int)):Option ((List Qm)×(List Jp)) :=
 (Qf (Wo N cm cd) N (0,([]:List (Int×(List Int))),([]:List Jp))).bind fun w20 =>
 (Qf (Wp N ck ce w20.1) N (0,([]:List Qm),w20.2)).bind fun w31 =>
 some (w31.1,w31.2)
def Wq(N:Nat):((List (Int×Qm))×(List (Int×Jp))×(List (Int×Bool))×(List (Str×Int))×(List (Int×Int))×(List Int)×(List Int))→Qv→Option ((List (Int×Qm))×(List (Int×Jp))×(List (Int×Bool))×(List (Str×Int))×(List (Int×Int))×(List Int)×(List Int)):=fun w13 e20 =>
 (Kt N e20 w13.1 w13.2.1 w13.2.2.1 w13.2.2.2.1 w13.2.2.2.2.1 w13.2.2.2.2.2.1 w13.2.2.2.2.2.2).bind fun w21 =>
 some (w21.1,w21.2.1,w21.2.2.1,w21.2.2.2.1,w21.2.2.2.2.1,w21.2.2.2.2.2.1,w21.2.2.2.2.2.2)
def Aj(N:Nat)(x0:(List Qv))(x1:Int):Option ((List Qm)×(List Jp)) :=
 (Mp N).bind fun w1 =>
 (Pe N x0 x1).bind fun w6 =>
 (Ii N w6.1 w6.2).bind fun es35 =>
 (Qmk (Wq N) es35 (w1.1,w1.2.1,w1.2.2.1,w1.2.2.2.1,w1.2.2.2.2,([]:List Int),([]:List Int))).bind fun w28 =>
 (Z8 N w28.1 w28.2.1 w28.2.2.1 w28.2.2.2.1 w28.2.2.2.2.1 w28.2.2.2.2.2.1 w28.2.2.2.2.2.2).bind fun w36 =>
 some (w36.1,w36.2)
def Qbi(N:Nat)(r2:(List Jp))(x1:Int):(Int×Int×Int×Int×Str×Bool×Bool)→Option ((Int×Int×Int×Int×Str×Bool×Bool)⊕((Int×Int×Int×Str×Bool×Bool)⊕(Bool×Jp))):=fun w4 =>
 if decide (w4.1<(List.length r2:Int))then
 (idx r2 w4.1).bind fun _ =>
 (idx r2 w4.1).bind fun x11 =>
 if x11.1==x1 then
 some (.inr (.inr (true,x11)))
 else
 some (.inl ((IntKind.wrap .i64 (w4.1+1)),w4.2.1,w4.2.2.1,w4.2.2.2.1,w4.2.2.2.2.1,w4.2.2.2.2.2.1,w4.2.2.2.2.2.2))
 else
 some (.inr (.inl (w4.2.1,w4.2.2.1,w4.2.2.2.1,w4.2.2.2.2.1,w4.2.2.2.2.2.1,w4.2.2.2.2.2.2)))
def Qah(N:Nat)(x0:(List Qv))(x1:Int)(x2:Int):Option (Jp×Bool) :=
 (Aj N x0 x2).bind fun w1 =>
 (Qf (Qbi N w1.2 x1) N (0,0,0,0,([]:Str),false,false)).bind fun
 | .inl w12 =>
  some ((0,0,0,([]:Str),([]:List Str),([]:List Str),false,false),false)
 | .inr w18 =>
  some (w18.2,w18.1)
def Iz(N:Nat)(r1:(List Qm))(x1:Int):(Int×Int×Int×Int×Bool×Bool)→Option ((Int×Int×Int×Int×Bool×Bool)⊕((Int×Int×Int×Bool×Bool)⊕(Bool×Qm))):=fun w4 =>
 if decide (w4.1<(List.length r1:Int))then
 (idx r1 w4.1).bind fun _ =>
 (idx r1 w4.1).bind fun x10 =>
 if x10.1==x1 then
 some (.inr (.inr (true,x10)))
 else
 some (.inl ((IntKind.wrap .i64 (w4.1+1)),w4.2.1,w4.2.2.1,w4.2.2.2.1,w4.2.2.2.2.1,w4.2.2.2.2.2))
 else
 some (.inr (.inl (w4.2.1,w4.2.2.1,w4.2.2.2.1,w4.2.2.2.2.1,w4.2.2.2.2.2)))
def Ci(N:Nat)(x0:(List Qv))(x1:Int)(x2:Int):Option (Qm×Bool) :=
 (Aj N x0 x2).bind fun w1 =>
 (Qf (Iz N w1.1 x1) N (0,0,0,0,false,false)).bind fun
 | .inl w11 =>
  some ((0,0,0,false,false,([]:List Int)),false)
 | .inr w16 =>
  some (w16.2,w16.1)
def Ak(N:Nat)(cx:Qz)(dg:Qw)(cq:Qb)(je:Qa)(jf:Str)(jg:Bool)(jh:Bool)(ji:Int)(jj:Int)(jk:Int)(jl:Bool)(jm:Bool)(gk:Str)(gm:Int)(gn:Bool)(du:Int)(dv:Qb)(dw:Int)(dy:Str)(dz:Int)(dl:Str)(g5:Int)(dx:Int)(dq:Int)(g6:Int)(g7:Int)(ce:(List Str))(cd:(List Int))(cg:(List Qq))(ci:(List Qt))(cj:(List Je))(ck:(List Qk))(cm:(List Ja))(dj:(List Qo))(ge:(List Q3)):Option (Int×Qz×Qw×Qb×Qa×Str×(List Str)×Bool×Bool×Int×Int×Int×Bool×Bool×(List Int)×Str×Int×Bool×Int×Qb×Int×Str×Int×Str×Int×Int×Int×Int×Int×(List Qq)×(List Qt)×(List Je)×(List Qk)×(List Ja)×(List Qo)×(List Q3)) :=
 (Qag N cx.1 cq.2.2.2.1 cq.2.2.2.2.2.2.1).bind fun w1 =>
 if !w1.2 then
 some (11,cx,dg,cq,je,jf,ce,jg,jh,ji,jj,jk,jl,jm,cd,gk,gm,gn,du,dv,dw,dy,dz,dl,g5,dx,dq,g6,g7,cg,ci,cj,ck,cm,dj,ge)
 else
 (Qah N cx.1 cq.2.2.2.1 cq.2.2.2.2.2.2.1).bind fun w3 =>
 if w3.1.2.1 != cq.2.2.1 then
 some (11,cx,dg,cq,je,jf,ce,jg,jh,ji,jj,jk,jl,jm,cd,gk,gm,gn,du,dv,dw,dy,dz,dl,g5,dx,dq,g6,g7,cg,ci,cj,ck,cm,dj,ge)
 else
 if w1.1.2.2.2.1 then
 some (16,cx,dg,cq,je,jf,ce,jg,jh,ji,jj,jk,jl,jm,cd,gk,gm,gn,du,dv,dw,dy,dz,dl,g5,dx,dq,g6,g7,cg,ci,cj,ck,cm,dj,ge)
 else
 (Ci N cx.1 w3.1.2.1 cq.2.2.2.2.2.2.1).bind fun w5 =>
 some (0,cx,dg,cq,w1.1.1,w1.1.2.1,w1.1.2.2.1,w1.1.2.2.2.1,w1.1.2.2.2.2,w5.1.1,w5.1.2.1,w5.1.2.2.1,w5.1.2.2.2.1,w5.1.2.2.2.2.1,w5.1.2.2.2.2.2,gk,gm,gn,du,dv,dw,dy,dz,dl,g5,dx,dq,g6,g7,cg,ci,cj,ck,cm,dj,ge)
def Qgy(N:Nat)(ct:Qz)(cp:Qw)(cw:Qb)(gw:Qa)(gx:Str)(gy:Bool)(gz:Bool)(j9:Int)(ja:Int)(jb:Int)(jc:Bool)(jd:Bool)(gg:Str)(gi:Int)(gj:Bool)(cy:Int)(cz:Qb)(d4:Int)(d5:Str)(d6:Int)(d7:Str)(d8:Int)(d9:Int)(da:Int)(db:Int)(de:Int)(cd:(List Str))(cg:(List Int))(ci:(List Qq))(cj:(List Qt))(ck:(List Je))(cm:(List Qk))(dj:(List Ja))(ge:(List Qo))(gt:(List Q3)):Option (Int×Qz×Qw×Qb×Q7×Qm×Str×Int×Bool×Int×Qb×Int×Str×Int×Str×Int×Int×Int×Int×Int×(List Qq)×(List Qt)×(List Je)×(List Qk)×(List Ja)×(List Qo)×(List Q3)) :=
 (Ak N ct cp cw gw gx gy gz j9 ja jb jc jd gg gi gj cy cz d4 d5 d6 d7 d8 d9 da db de cd cg ci cj ck cm dj ge gt).bind fun w1 =>
 some (w1.1,w1.2.1,w1.2.2.1,w1.2.2.2.1,(w1.2.2.2.2.1,w1.2.2.2.2.2.1,w1.2.2.2.2.2.2.1,w1.2.2.2.2.2.2.2.1,w1.2.2.2.2.2.2.2.2.1),(w1.2.2.2.2.2.2.2.2.2.1,w1.2.2.2.2.2.2.2.2.2.2.1,w1.2.2.2.2.2.2.2.2.2.2.2.1,w1.2.2.2.2.2.2.2.2.2.2.2.2.1,w1.2.2.2.2.2.2.2.2.2.2.2.2.2.1,w1.2.2.2.2.2.2.2.2.2.2.2.2.2.2.1),w1.2.2.2.2.2.2.2.2.2.2.2.2.2.2.2.1,w1.2.2.2.2.2.2.2.2.2.2.2.2.2.2.2.2.1,w1.2.2.2.2.2.2.2.2.2.2.2.2.2.2.2.2.2.1,w1.2.2.2.2.2.2.2.2.2.2.2.2.2.2.2.2.2.2.1,w1.2.2.2.2.2.2.2.2.2.2.2.2.2.2.2.2.2.2.2.1,w1.2.2.2.2.2.2.2.2.2.2.2.2.2.2.2.2.2.2.2.2.1,w1.2.2.2.2.2.2.2.2.2.2.2.2.2.2.2.2.2.2.2.2.2.1,w1.2.2.2.2.2.2.2.2.2.2.2.2.2.2.2.2.2.2.2.2.2.2.1,w1.2.2.2.2.2.2.2.2.2.2.2.2.2.2.2.2.2.2.2.2.2.2.2.1,w1.2.2.2.2.2.2.2.2.2.2.2.2.2.2.2.2.2.2.2.2.2.2.2.2.1,w1.2.2.2.2.2.2.2.2.2.2.2.2.2.2.2.2.2.2.2.2.2.2.2.2.2.1,w1.2.2.2.2.2.2.2.2.2.2.2.2.2.2.2.2.2.2.2.2.2.2.2.2.2.2.1,w1.2.2.2.2.2.2.2.2.2.2.2.2.2.2.2.2.2.2.2.2.2.2.2.2.2.2.2.1,w1.2.2.2.2.2.2.2.2.2.2.2.2.2.2.2.2.2.2.2.2.2.2.2.2.2.2.2.2.1,w1.2.2.2.2.2.2.2.2.2.2.2.2.2.2.2.2.2.2.2.2.2.2.2.2.2.2.2.2.2.1,w1.2.2.2.2.2.2.2.2.2.2.2.2.2.2.2.2.2.2.2.2.2.2.2.2.2.2.2.2.2.2.1,w1.2.2.2.2.2.2.2.2.2.2.2.2.2.2.2.2.2.2.2.2.2.2.2.2.2.2.2.2.2.2.2.1,w1.2.2.2.2.2.2.2.2.2.2.2.2.2.2.2.2.2.2.2.2.2.2.2.2.2.2.2.2.2.2.2.2.1,w1.2.2.2.2.2.2.2.2.2.2.2.2.2.2.2.2.2.2.2.2.2.2.2.2.2.2.2.2.2.2.2.2.2.1,w1.2.2.2.2.2.2.2.2.2.2.2.2.2.2.2.2.2.2.2.2.2.2.2.2.2.2.2.2.2.2.2.2.2.2.1,w1.2.2.2.2.2.2.2.2.2.2.2.2.2.2.2.2.2.2.2.2.2.2.2.2.2.2.2.2.2.2.2.2.2.2.2)
def Qgz(N:Nat)(ct:Qz)(cp:Qw)(cw:Qb)(gw:Qa)(gx:Str)(gy:Bool)(gz:Bool)(j9:Int)(ja:Int)(jb:Int)(jc:Bool)(jd:Bool)(gg:Str)(gi:Int)(gj:Bool)(cy:Int)(cz:Qb)(d4:Int)(d5:Str)(d6:Int)(d7:Str)(d8:Int)(d9:Int)(da:Int)(db:Int)(de:Int)(cd:(List Str))(cg:(List Int))(ci:(List Qq))(cj:(List Qt))(ck:(List Je))(cm:(List Qk))(dj:(List Ja))(ge:(List Qo))(gt:(List Q3))(jo:Int):Option (Qz×Qw×Qb×Qa×Str×(List Str)×Bool×Bool×Int×Int×Int×Bool×Bool×(List Int)×Str×Int×Bool×Int×Qb×Int×Str×Int×Str×Int×Int×Int×Int×Int×Int×(List Qq)×(List Qt)×(List Je)×(List Qk)×(List Ja)×(List Qo)×(List Q3)) :=
 if jo==0 then
 (Qgy N ct cp cw gw gx gy gz j9 ja jb jc jd gg gi gj cy cz d4 d5 d6 d7 d8 d9 da db de cd cg ci cj ck cm dj ge gt).bind fun w1 =>
 some (w1.2.1,w1.2.2.1,w1.2.2.2.1,w1.2.2.2.2.1.1,w1.2.2.2.2.1.2.1,w1.2.2.2.2.1.2.2.1,w1.2.2.2.2.1.2.2.2.1,w1.2.2.2.2.1.2.2.2.2,w1.2.2.2.2.2.1.1,w1.2.2.2.2.2.1.2.1,w1.2.2.2.2.2.1.2.2.1,w1.2.2.2.2.2.1.2.2.2.1,w1.2.2.2.2.2.1.2.2.2.2.1,w1.2.2.2.2.2.1.2.2.2.2.2,w1.2.2.2.2.2.2.1,w1.2.2.2.2.2.2.2.1,w1.2.2.2.2.2.2.2.2.1,w1.2.2.2.2.2.2.2.2.2.1,w1.2.2.2.2.2.2.2.2.2.2.1,w1.2.2.2.2.2.2.2.2.2.2.2.1,w1.2.2.2.2.2.2.2.2.2.2.2.2.1,w1.2.2.2.2.2.2.2.2.2.2.2.2.2.1,w1.2.2.2.2.2.2.2.2.2.2.2.2.2.2.1,w1.2.2.2.2.2.2.2.2.2.2.2.2.2.2.2.1,w1.2.2.2.2.2.2.2.2.2.2.2.2.2.2.2.2.1,w1.2.2.2.2.2.2.2.2.2.2.2.2.2.2.2.2.2.1,w1.2.2.2.2.2.2.2.2.2.2.2.2.2.2.2.2.2.2.1,w1.2.2.2.2.2.2.2.2.2.2.2.2.2.2.2.2.2.2.2.1,w1.1,w1.2.2.2.2.2.2.2.2.2.2.2.2.2.2.2.2.2.2.2.2.1,w1.2.2.2.2.2.2.2.2.2.2.2.2.2.2.2.2.2.2.2.2.2.1,w1.2.2.2.2.2.2.2.2.2.2.2.2.2.2.2.2.2.2.2.2.2.2.1,w1.2.2.2.2.2.2.2.2.2.2.2.2.2.2.2.2.2.2.2.2.2.2.2.1,w1.2.2.2.2.2.2.2.2.2.2.2.2.2.2.2.2.2.2.2.2.2.2.2.2.1,w1.2.2.2.2.2.2.2.2.2.2.2.2.2.2.2.2.2.2.2.2.2.2.2.2.2.1,w1.2.2.2.2.2.2.2.2.2.2.2.2.2.2.2.2.2.2.2.2.2.2.2.2.2.2)
 else
 some (ct,cp,cw,gw,gx,cd,gy,gz,j9,ja,jb,jc,jd,cg,gg,gi,gj,cy,cz,d4,d5,d6,d7,d8,d9,da,db,de,jo,ci,cj,ck,cm,dj,ge,gt)
def Gl(N:Nat)(x0:(List Str)):Option ((List Str)) :=
 (app 16 ([]:List Str) x0).bind fun q1 =>
 some q1
def Xn(N:Nat)(x0:(List Kf)):Option ((List Kf)) :=
 (app 24 ([]:List Kf) x0).bind fun q1 =>
 some q1
def Xo(N:Nat)(x0:(List Vt)):Option ((List Vt)) :=
 (app 24 ([]:List Vt) x0).bind fun q1 =>
 some q1
def Qc3(N:Nat)(self:Qj →  Option (Qj))(x0:Qj):(Int×(List Qj))→Option ((Int×(List Qj))⊕(((List Qj)))):=fun w2 =>
 if decide (w2.1<(List.length x0.ks:Int))then
 (idx x0.ks w2.1).bind fun x4 =>
 (self x4).bind fun r5 =>
 (app 56 w2.2 ([r5]:List Qj)).bind fun q6 =>
 some (.inl ((IntKind.wrap .i64 (w2.1+1)),q6))
 else
 some (.inr w2.2)
def Z9(N:Nat):Nat→Qj→Option (Qj)
 | 0,_=>none
 | n+1,x0 =>
  (Qf (Qc3 N (Z9 N n) x0) N (0,([]:List Qj))).bind fun v7 =>
  some (Kk.mk (x0.x.1,x0.x.2.1,x0.x.2.2) v7)
def Qmq(N:Nat)(x0:Qj):Option (Qj):=Z9 N N x0
def Qbj(N:Nat)(x0:Ql):(Int×Str×Int×Bool×(List Qq))→Option ((Int×Str×Int×Bool×(List Qq))⊕((Str×Int×Bool×(List Qq)))):=fun w6 =>
 if decide (w6.1<(List.length x0.2.2.2.1:Int))then
 (idx x0.2.2.2.1 w6.1).bind fun x11 =>
 (Gl N x11.2).bind fun r12 =>
 (app 40 w6.2.2.2.2 ([(x11.1,r12)]:List Qq)).bind fun q13 =>
 some (.inl ((IntKind.wrap .i64 (w6.1+1)),w6.2.1,w6.2.2.1,w6.2.2.2.1,q13))
 else
 some (.inr (w6.2.1,w6.2.2.1,w6.2.2.2.1,w6.2.2.2.2))
def Qbk(N:Nat)(x0:Ql):(Int×Str×Int×Bool×(List Qq)×(List Qt))→Option ((Int×Str×Int×Bool×(List Qq)×(List Qt))⊕((Str×Int×Bool×(List Qq)×(List Qt)))):=fun w24 =>
 if decide (w24.1<(List.length x0.2.2.2.2.1:Int))then
 (idx x0.2.2.2.2.1 w24.1).bind fun x30 =>
 (Xn N x30.2).bind fun r31 =>
 (app 40 w24.2.2.2.2.2 ([(x30.1,r31)]:List Qt)).bind fun q32 =>
 some (.inl ((IntKind.wrap .i64 (w24.1+1)),w24.2.1,w24.2.2.1,w24.2.2.2.1,w24.2.2.2.2.1,q32))
 else
 some (.inr (w24.2.1,w24.2.2.1,w24.2.2.2.1,w24.2.2.2.2.1,w24.2.2.2.2.2))
def Qbl(N:Nat)(x0:Ql):(Int×Str×Int×Bool×(List Qq)×(List Qt)×(List Je))→Option ((Int×Str×Int×Bool×(List Qq)×(List Qt)×(List Je))⊕((Str×Int×Bool×(List Qq)×(List Qt)×(List Je)))):=fun w45 =>
 if decide (w45.1<(List.length x0.2.2.2.2.2.1:Int))then
 (idx x0.2.2.2.2.2.1 w45.1).bind fun x52 =>
 (Xo N x52.2.2.2.2).bind fun r53 =>
 (app 72 w45.2.2.2.2.2.2 ([(x52.1,x52.2.1,x52.2.2.1,x52.2.2.2.1,r53)]:List Je)).bind fun q54 =>
 some (.inl ((IntKind.wrap .i64 (w45.1+1)),w45.2.1,w45.2.2.1,w45.2.2.2.1,w45.2.2.2.2.1,w45.2.2.2.2.2.1,q54))
 else
 some (.inr (w45.2.1,w45.2.2.1,w45.2.2.2.1,w45.2.2.2.2.1,w45.2.2.2.2.2.1,w45.2.2.2.2.2.2))
def Qbm(N:Nat)(x0:Ql):(Int×Str×Int×Bool×(List Qq)×(List Qt)×(List Je)×(List Qk))→Option ((Int×Str×Int×Bool×(List Qq)×(List Qt)×(List Je)×(List Qk))⊕((Str×Int×Bool×(List Qq)×(List Qt)×(List Je)×(List Qk)))):=fun w69 =>
 if decide (w69.1<(List.length x0.2.2.2.2.2.2:Int))then
 (idx x0.2.2.2.2.2.2 w69.1).bind fun x77 =>
 (Qmq N x77.2.1).bind fun r78 =>
 (app 80 w69.2.2.2.2.2.2.2 ([(x77.1,r78,x77.2.2)]:List Qk)).bind fun q79 =>
 some (.inl ((IntKind.wrap .i64 (w69.1+1)),w69.2.1,w69.2.2.1,w69.2.2.2.1,w69.2.2.2.2.1,w69.2.2.2.2.2.1,w69.2.2.2.2.2.2.1,q79))
 else
 some (.inr (w69.2.1,w69.2.2.1,w69.2.2.2.1,w69.2.2.2.2.1,w69.2.2.2.2.2.1,w69.2.2.2.2.2.2.1,w69.2.2.2.2.2.2.2))
def Qai(N:Nat)(x0:Ql):Option (Str×Int×Bool×(List Qq)×(List Qt)×(List Je)×(List Qk)) :=
 (Qf (Qbj N x0) N (0,x0.1,x0.2.1,x0.2.2.1,([]:List Qq))).bind fun w14 =>
 (Qf (Qbk N x0) N (0,w14.1,w14.2.1,w14.2.2.1,w14.2.2.2,([]:List Qt))).bind fun w33 =>
 (Qf (Qbl N x0) N (0,w33.1,w33.2.1,w33.2.2.1,w33.2.2.2.1,w33.2.2.2.2,([]:List Je))).bind fun w55 =>
 (Qf (Qbm N x0) N (0,w55.1,w55.2.1,w55.2.2.1,w55.2.2.2.1,w55.2.2.2.2.1,w55.2.2.2.2.2,([]:List Qk))).bind fun w80 =>
 some (w80.1,w80.2.1,w80.2.2.1,w80.2.2.2.1,w80.2.2.2.2.1,w80.2.2.2.2.2.1,w80.2.2.2.2.2.2)
def Qix(N:Nat)(x0:(List Ql))(x1:Str)(x2:Int):(Int×Int)→Option ((Int×Int)⊕((Int))):=fun w1 =>
 if decide (w1.2<(List.length x0:Int))then
 ((idx x0 w1.2).bind fun x3 =>
 if(x3.1==x1)&&(decide (x3.2.1≤x2))then
 some w1.2
 else
 some w1.1:Option ((Int))).bind fun v4 =>
 some (.inl (v4,(IntKind.wrap .i64 (w1.2+1))))
 else
 some (.inr w1.1)
def Qk0(N:Nat)(x0:(List Ql))(x1:Str)(x2:Int):Option (Str×Int×Bool×Bool×(List Qq)×(List Qt)×(List Je)×(List Qk)) :=
 (Qf (Qix N x0 x1 x2) N ((-1),0)).bind fun v5 =>
 if decide (v5<0)then
 some (([]:Str),0,false,false,([]:List Qq),([]:List Qt),([]:List Je),([]:List Qk))
 else
 (idx x0 v5).bind fun x6 =>
 (Qai N x6).bind fun w7 =>
 some (w7.1,w7.2.1,w7.2.2.1,true,w7.2.2.2.1,w7.2.2.2.2.1,w7.2.2.2.2.2.1,w7.2.2.2.2.2.2)
def Qf4(N:Nat)(x0:Str):(Int)→Option ((Int)⊕((Unit)⊕(Bool))):=fun v1 =>
 if decide (v1<(List.length x0:Int))then
 (B5 x0 v1).bind fun c2 =>
 if((decide (c2<97))||(decide (c2>122)))&&((v1==0)||((c2 != 45)&&((decide (c2<48))||(decide (c2>57)))))then
 some (.inr (.inr false))
 else
 some (.inl (IntKind.wrap .i64 (v1+1)))
 else
 some (.inr (.inl ()))
def Qg0(N:Nat)(x0:Str):Option (Bool) :=
 (Qf (Qf4 N x0) N 0).bind fun
 | .inl _ =>
  some ((decide ((List.length x0:Int)≥1))&&(decide ((List.length x0:Int)≤24)))
 | .inr v3 =>
  some v3
def Pf(N:Nat)(x0:Qq)(ca:Qq):Option (Bool) :=
 some (x0.1==ca.1)
def Xu(N:Nat)(x0:(List Qq))(ca:Qq):(Int)→Option ((Int)⊕((Unit)⊕(Int))):=fun v1 =>
 if decide (v1<(List.length x0:Int))then
 (idx x0 v1).bind fun x2 =>
 (Pf N x2 ca).bind fun r3 =>
 if r3 then
 some (.inr (.inr v1))
 else
 some (.inl (IntKind.wrap .i64 (v1+1)))
 else
 some (.inr (.inl ()))
def Zn(N:Nat)(x0:(List Qq))(ca:Qq):Option (Int) :=
 (Qf (Xu N x0 ca) N 0).bind fun
 | .inl _ =>
  some (-1)
 | .inr v4 =>
  some v4
def Ug(N:Nat)(x0:(List Qq))(ca:Qq):Option (Bool) :=
 (Zn N x0 ca).bind fun r1 =>
 some (decide (r1≥0))
def Qaj(N:Nat)(x0:Int):Option (Bool) :=
 some ((decide (x0≥48))&&(decide (x0≤57)))
def Qbn(N:Nat)(x0:Str):(Int)→Option ((Int)⊕((Unit)⊕(Bool))):=fun v1 =>
 if decide (v1<(List.length x0:Int))then
 (B5 x0 v1).bind fun c2 =>
 (Qaj N c2).bind fun r3 =>
 if !r3 then
 some (.inr (.inr false))
 else
 some (.inl (IntKind.wrap .i64 (v1+1)))
 else
 some (.inr (.inl ()))
def Al(N:Nat)(x0:Str):Option (Bool) :=
 (Qf (Qbn N x0) N 0).bind fun
 | .inl _ =>
  some ((decide ((List.length x0:Int)≥1))&&(decide ((List.length x0:Int)≤15)))
 | .inr v4 =>
  some v4
def Qc4(N:Nat)(x4:Qq):(Int×(List (Str×Str)))→Option ((Int×(List (Str×Str)))⊕(((List (Str×Str)))⊕(Int))):=fun w11 =>
 if decide (w11.1<(List.length x4.2:Int))then
 (idx x4.2 w11.1).bind fun x13 =>
 (Al N x13).bind fun r14 =>
 if !r14 then
 some (.inr (.inr 12))
 else
 if(Qr (k:=.str) x13 w11.2).isSome then
 some (.inr (.inr 10))
 else
 some (.inl ((IntKind.wrap .i64 (w11.1+1)),(Ya (k:=.str) x13 x4.1 w11.2)))
 else
 some (.inr (.inl w11.2))
def Qc5(N:Nat)(x0:(List Qq)):(Int×(List (Str×Str)))→Option ((Int×(List (Str×Str)))⊕(((List (Str×Str)))⊕(Int))):=fun w2 =>
 if decide (w2.1<(List.length x0:Int))then
 (idx x0 w2.1).bind fun x4 =>
 (Qg0 N x4.1).bind fun r6 =>
 if !r6 then
 some (.inr (.inr 8))
 else
 (slc x0 0 w2.1).bind fun s7 =>
 (Ug N s7 x4).bind fun r9 =>
 if r9 then
 some (.inr (.inr 10))
 else
 if(List.length x4.2:Int)==0 then
 some (.inr (.inr 8))
 else
 if decide ((List.length x4.2:Int)>64)then
 some (.inr (.inr 5))
 else
 (Qf (Qc4 N x4) N (0,w2.2)).bind fun
 | .inl v15 =>
  some (.inl ((IntKind.wrap .i64 (w2.1+1)),v15))
 | .inr v16 =>
  some (.inr (.inr v16))
 else
 some (.inr (.inl w2.2))
def Qc6(N:Nat)(x0:(List Qq)):Option ((Int×(List (Str×Str)))⊕(Int)) :=
 if decide ((List.length x0:Int)>64)then
 some (.inr 5)
 else
 (Qf (Qc5 N x0) N (0,([]:List (Str×Str)))).bind fun
 | .inl v17 =>
  some (.inl (0,v17))
 | .inr v18 =>
  some (.inr v18)
def Sd(N:Nat)(x1:Str)(ca:(List (Str×Str))):(Int)→Option ((Int)⊕((Unit)⊕(Str×Bool))):=fun v1 =>
 if decide (v1>0)then
 (slc x1 0 v1).bind fun s2 =>
 if(Qr (k:=.str) s2 ca).isSome then
 some (.inr (.inr (((Qr (k:=.str) s2 ca).getD ([]:Str)),true)))
 else
 some (.inl (IntKind.wrap .i64 (v1 - 1)))
 else
 some (.inr (.inl ()))
def Pg(N:Nat)(x1:Str)(x2:Int)(ca:(List (Str×Str))):Option (Str×Bool) :=
 (Qf (Sd N x1 ca) N x2).bind fun
 | .inl _ =>
  some (([]:Str),false)
 | .inr w3 =>
  some (w3.1,w3.2)
def Qak(N:Nat)(x0:(List Qq))(x1:Str):Option (Str×Bool) :=
 (Qc6 N x0).bind fun
 | .inl w1 =>
  (if w1.1 != 0 then
  some true
  else
  (Al N x1).bind fun r4 =>
  some (!r4):Option (Bool)).bind fun v5 =>
  if v5 then
  some (([]:Str),false)
  else
  (Pg N x1 (List.length x1:Int) w1.2).bind fun w6 =>
  some (w6.1,w6.2)
 | .inr r8 =>
  (if r8 != 0 then
  some true
  else
  (Al N x1).bind fun r10 =>
  some (!r10):Option (Bool)).bind fun v11 =>
  if v11 then
  some (([]:Str),false)
  else
  none
def Cj(N:Nat)(cx:Qz)(dg:Qw)(cq:Qb)(g8:Q7)(g9:Qm)(gk:Str)(gm:Int)(gn:Bool)(du:Int)(dv:Qb)(dw:Int)(dy:Str)(dz:Int)(dl:Str)(g5:Int)(dx:Int)(dq:Int)(g6:Int)(g7:Int)(ce:(List Qq))(cd:(List Qt))(cg:(List Je))(ci:(List Qk))(cj:(List Ja))(ck:(List Qo))(cm:(List Q3)):Option (Int×Qz×Qw×Qb×Q7×Qm×Str×Int×Bool×(List Qq)×Int×Qb×Int×Str×Int×Str×Int×Int×Int×Int×Int×(List Qt)×(List Je)×(List Qk)×(List Ja)×(List Qo)×(List Q3)) :=
 (Qk0 N cx.2.1 g8.2.1 cq.2.2.2.2.2.2.1).bind fun w1 =>
 if !w1.2.2.2.1 then
 some (18,cx,dg,cq,g8,g9,gk,gm,gn,ce,du,dv,dw,dy,dz,dl,g5,dx,dq,g6,g7,cd,cg,ci,cj,ck,cm)
 else
 (Qak N w1.2.2.2.2.1 cq.2.2.2.2.2.1).bind fun w9 =>
 some (0,cx,dg,cq,g8,g9,w1.1,w1.2.1,w1.2.2.1,w1.2.2.2.2.1,du,dv,dw,w1.1,w1.2.1,w9.1,g5,dx,dq,g6,g7,w1.2.2.2.2.2.1,w1.2.2.2.2.2.2.1,w1.2.2.2.2.2.2.2,cj,ck,cm)
def Qg1(N:Nat)(ct:Qz)(cp:Qw)(cw:Qb)(dh:Q7)(di:Qm)(gg:Str)(gi:Int)(gj:Bool)(cy:Int)(cz:Qb)(d4:Int)(d5:Str)(d6:Int)(d7:Str)(d8:Int)(d9:Int)(da:Int)(db:Int)(de:Int)(cd:(List Qq))(cg:(List Qt))(ci:(List Je))(cj:(List Qk))(ck:(List Ja))(cm:(List Qo))(dj:(List Q3)):Option (Int×Qz×Qw×Qb×Q7×Qm×Str×Int×Bool×(List Qq)×Int×Qb×Int×Str×Int×Str×Int×Int×Int×Int×Int×(List Qt)×(List Je)×(List Qk)×(List Ja)×(List Qo)×(List Q3)) :=
 (Cj N ct cp cw dh di gg gi gj cy cz d4 d5 d6 d7 d8 d9 da db de cd cg ci cj ck cm dj).bind fun w1 =>
 some (w1.1,w1.2.1,w1.2.2.1,w1.2.2.2.1,w1.2.2.2.2.1,w1.2.2.2.2.2.1,w1.2.2.2.2.2.2.1,w1.2.2.2.2.2.2.2.1,w1.2.2.2.2.2.2.2.2.1,w1.2.2.2.2.2.2.2.2.2.1,w1.2.2.2.2.2.2.2.2.2.2.1,w1.2.2.2.2.2.2.2.2.2.2.2.1,w1.2.2.2.2.2.2.2.2.2.2.2.2.1,w1.2.2.2.2.2.2.2.2.2.2.2.2.2.1,w1.2.2.2.2.2.2.2.2.2.2.2.2.2.2.1,w1.2.2.2.2.2.2.2.2.2.2.2.2.2.2.2.1,w1.2.2.2.2.2.2.2.2.2.2.2.2.2.2.2.2.1,w1.2.2.2.2.2.2.2.2.2.2.2.2.2.2.2.2.2.1,w1.2.2.2.2.2.2.2.2.2.2.2.2.2.2.2.2.2.2.1,w1.2.2.2.2.2.2.2.2.2.2.2.2.2.2.2.2.2.2.2.1,w1.2.2.2.2.2.2.2.2.2.2.2.2.2.2.2.2.2.2.2.2.1,w1.2.2.2.2.2.2.2.2.2.2.2.2.2.2.2.2.2.2.2.2.2.1,w1.2.2.2.2.2.2.2.2.2.2.2.2.2.2.2.2.2.2.2.2.2.2.1,w1.2.2.2.2.2.2.2.2.2.2.2.2.2.2.2.2.2.2.2.2.2.2.2.1,w1.2.2.2.2.2.2.2.2.2.2.2.2.2.2.2.2.2.2.2.2.2.2.2.2.1,w1.2.2.2.2.2.2.2.2.2.2.2.2.2.2.2.2.2.2.2.2.2.2.2.2.2.1,w1.2.2.2.2.2.2.2.2.2.2.2.2.2.2.2.2.2.2.2.2.2.2.2.2.2.2)
def Ph(N:Nat)(ct:Qz)(cp:Qw)(cw:Qb)(dh:Q7)(di:Qm)(gg:Str)(gi:Int)(gj:Bool)(cy:Int)(cz:Qb)(d4:Int)(d5:Str)(d6:Int)(d7:Str)(d8:Int)(d9:Int)(da:Int)(db:Int)(de:Int)(cd:(List Qq))(cg:(List Qt))(ci:(List Je))(cj:(List Qk))(ck:(List Ja))(cm:(List Qo))(dj:(List Q3))(ge:Int):Option (Qz×Qw×Qb×Q7×Qm×Str×Int×Bool×(List Qq)×Int×Qb×Int×Str×Int×Str×Int×Int×Int×Int×Int×Int×(List Qt)×(List Je)×(List Qk)×(List Ja)×(List Qo)×(List Q3)) :=
 if ge==0 then
 (Qg1 N ct cp cw dh di gg gi gj cy cz d4 d5 d6 d7 d8 d9 da db de cd cg ci cj ck cm dj).bind fun w1 =>
 some (w1.2.1,w1.2.2.1,w1.2.2.2.1,w1.2.2.2.2.1,w1.2.2.2.2.2.1,w1.2.2.2.2.2.2.1,w1.2.2.2.2.2.2.2.1,w1.2.2.2.2.2.2.2.2.1,w1.2.2.2.2.2.2.2.2.2.1,w1.2.2.2.2.2.2.2.2.2.2.1,w1.2.2.2.2.2.2.2.2.2.2.2.1,w1.2.2.2.2.2.2.2.2.2.2.2.2.1,w1.2.2.2.2.2.2.2.2.2.2.2.2.2.1,w1.2.2.2.2.2.2.2.2.2.2.2.2.2.2.1,w1.2.2.2.2.2.2.2.2.2.2.2.2.2.2.2.1,w1.2.2.2.2.2.2.2.2.2.2.2.2.2.2.2.2.1,w1.2.2.2.2.2.2.2.2.2.2.2.2.2.2.2.2.2.1,w1.2.2.2.2.2.2.2.2.2.2.2.2.2.2.2.2.2.2.1,w1.2.2.2.2.2.2.2.2.2.2.2.2.2.2.2.2.2.2.2.1,w1.2.2.2.2.2.2.2.2.2.2.2.2.2.2.2.2.2.2.2.2.1,w1.1,w1.2.2.2.2.2.2.2.2.2.2.2.2.2.2.2.2.2.2.2.2.2.1,w1.2.2.2.2.2.2.2.2.2.2.2.2.2.2.2.2.2.2.2.2.2.2.1,w1.2.2.2.2.2.2.2.2.2.2.2.2.2.2.2.2.2.2.2.2.2.2.2.1,w1.2.2.2.2.2.2.2.2.2.2.2.2.2.2.2.2.2.2.2.2.2.2.2.2.1,w1.2.2.2.2.2.2.2.2.2.2.2.2.2.2.2.2.2.2.2.2.2.2.2.2.2.1,w1.2.2.2.2.2.2.2.2.2.2.2.2.2.2.2.2.2.2.2.2.2.2.2.2.2.2)
 else
 some (ct,cp,cw,dh,di,gg,gi,gj,cd,cy,cz,d4,d5,d6,d7,d8,d9,da,db,de,ge,cg,ci,cj,ck,cm,dj)
def Mt(N:Nat)(x0:(List Qd)):(Int×(List Qd))→Option ((Int×(List Qd))⊕(((List Qd)))):=fun w2 =>
 if decide (w2.1<(List.length x0:Int))then
 (idx x0 w2.1).bind fun x4 =>
 (app 16 ([]:List Str) x4.2.2.2.2.2.1).bind fun q5 =>
 (app 120 w2.2 ([(x4.1,x4.2.1,x4.2.2.1,x4.2.2.2.1,x4.2.2.2.2.1,q5,x4.2.2.2.2.2.2.1,x4.2.2.2.2.2.2.2.1,x4.2.2.2.2.2.2.2.2.1,x4.2.2.2.2.2.2.2.2.2.1,x4.2.2.2.2.2.2.2.2.2.2)]:List Qd)).bind fun q6 =>
 some (.inl ((IntKind.wrap .i64 (w2.1+1)),q6))
 else
 some (.inr w2.2)
def Ij(N:Nat)(x0:(List Qd)):Option ((List Qd)) :=
 (Qf (Mt N x0) N (0,([]:List Qd))).bind fun v7 =>
 some v7
def H1(N:Nat)(x0:Qw):Option ((List Qd)×(List Qp)×(List Qi)) :=
 (Ij N x0.1).bind fun r1 =>
 (app 40 ([]:List Qp) x0.2.1).bind fun q2 =>
 (app 40 ([]:List Qi) x0.2.2).bind fun q3 =>
 some (r1,q2,q3)
def Of(N:Nat)(x0:(List Qv))(x1:Int)(x2:Int):(Int)→Option ((Int)⊕((Unit)⊕(Bool))):=fun v1 =>
 if decide (v1<(List.length x0:Int))then
 (idx x0 v1).bind fun x3 =>
 if((x3.2.1==1)&&(x3.2.2.1==x1))&&(decide (x3.1≤x2))then
 some (.inr (.inr (x3.2.2.2.2.2.1==([112,114,101,112,97,105,100]:Str))))
 else
 some (.inl (IntKind.wrap .i64 (v1+1)))
 else
 some (.inr (.inl ()))
def Mu(N:Nat)(x0:(List Qv))(x1:Int)(x2:Int):Option (Bool) :=
 (Qf (Of N x0 x1 x2) N 0).bind fun
 | .inl _ =>
  some false
 | .inr v4 =>
  some v4
def Og(N:Nat)(x0:(List Qp)):(Int×(List (Int×Int)))→Option ((Int×(List (Int×Int)))⊕(((List (Int×Int))))):=fun w2 =>
 if decide (w2.1<(List.length x0:Int))then
 ((idx x0 w2.1).bind fun x5 =>
 if !(Qr (k:=(.int .i64)) x5.1 w2.2).isSome then
 some (Ya (k:=(.int .i64)) x5.1 w2.1 w2.2)
 else
 some w2.2:Option (((List (Int×Int))))).bind fun v6 =>
 some (.inl ((IntKind.wrap .i64 (w2.1+1)),v6))
 else
 some (.inr w2.2)
def Mv(N:Nat)(x0:(List Qp)):Option ((List (Int×Int))) :=
 (Qf (Og N x0) N (0,([]:List (Int×Int)))).bind fun v7 =>
 some v7
def Qbo(N:Nat)(x0:(List Qp))(x1:Int):(Int)→Option ((Int)⊕((Int))):=fun v3 =>
 (if decide (v3<(List.length x0:Int))then
 (idx x0 v3).bind fun x5 =>
 some (decide (x5.1<x1))
 else
 some false:Option (Bool)).bind fun v6 =>
 if v6 then
 some (.inl (IntKind.wrap .i64 (v3+1)))
 else
 some (.inr v3)
def Qal(N:Nat)(x0:(List Qp))(x1:Int):Option (Int×(List Qp)) :=
 (Mv N x0).bind fun r1 =>
 if(Qr (k:=(.int .i64)) x1 r1).isSome then
 (app 40 ([]:List Qp) x0).bind fun q2 =>
 some (((Qr (k:=(.int .i64)) x1 r1).getD 0),q2)
 else
 (Qf (Qbo N x0 x1) N 0).bind fun v7 =>
 (slc x0 0 v7).bind fun s8 =>
 (app 40 ([]:List Qp) s8).bind fun q9 =>
 (app 40 q9 ([(x1,0,0,0,(-1))]:List Qp)).bind fun q10 =>
 (slc x0 v7 (List.length x0:Int)).bind fun s11 =>
 (app 40 q10 s11).bind fun q12 =>
 some (v7,q12)
def Yr(N:Nat)(x0:Int)(x1:Int)(x2:Int):Option (Bool) :=
 some ((decide (x0≥x1))&&(decide (x0≤x2)))
def G7(N:Nat)(x0:Int):Option (Bool) :=
 some ((decide (x0≥(-1125899906842624)))&&(decide (x0≤1125899906842624)))
def G8(N:Nat)(x0:Qp):Option (Int) :=
 (Yr N x0.1 1 9999).bind fun r1 =>
 (if !r1 then
 some true
 else
 (G7 N x0.2.1).bind fun r3 =>
 some (!r3):Option (Bool)).bind fun v4 =>
 (if v4 then
 some true
 else
 (Yr N x0.2.2.1 (-1125899906842624) 0).bind fun r6 =>
 some (!r6):Option (Bool)).bind fun v7 =>
 if v7 then
 some 6
 else
 (Yr N x0.2.2.2.1 0 1125899906842624).bind fun r8 =>
 (if !r8 then
 some true
 else
 (Yr N x0.2.2.2.2 (-1) 12622780799).bind fun r10 =>
 some (!r10):Option (Bool)).bind fun v11 =>
 if v11 then
 some 6
 else
 if decide ((IntKind.wrap .i64 (x0.2.1 - x0.2.2.2.1))<x0.2.2.1)then
 some 19
 else
 some 0
def Vf(N:Nat)(x0:Qp)(x1:Int):Option (Qp×Int) :=
 if x1 != 0 then
 some ((0,0,0,0,0),x1)
 else
 some (x0,0)
def Pi(N:Nat)(x0:Qp)(x1:Int):Option (Qp×Int) :=
 (G8 N x0).bind fun r1 =>
 if r1 != 0 then
 (Vf N x0 r1).bind fun w2 =>
 some (w2.1,w2.2)
 else
 (Yr N x1 0 1125899906842624).bind fun r4 =>
 (if !r4 then
 some true
 else
 (G7 N (IntKind.wrap .i64 (x0.2.1+x1))).bind fun r6 =>
 some (!r6):Option (Bool)).bind fun v7 =>
 if v7 then
 (Vf N x0 6).bind fun w8 =>
 some (w8.1,w8.2)
 else
 some ((x0.1,(IntKind.wrap .i64 (x0.2.1+x1)),x0.2.2.1,x0.2.2.2.1,x0.2.2.2.2),0)
def Wr(N:Nat)(x0:Qp)(x1:Int)(ca:Qp):Option (Qp) :=
 if x1==0 then
 some x0
 else
 some ca
def Qam(N:Nat)(x0:Qp)(x1:Int):Option (Qp×Int) :=
 (G8 N x0).bind fun r1 =>
 if r1 != 0 then
 (Vf N x0 r1).bind fun w2 =>
 some (w2.1,w2.2)
 else
 (Yr N x1 (-1125899906842624) 0).bind fun r4 =>
 if !r4 then
 (Vf N x0 6).bind fun w5 =>
 some (w5.1,w5.2)
 else
 if decide ((IntKind.wrap .i64 (x0.2.1 - x0.2.2.2.1))<x1)then
 (Vf N x0 19).bind fun w7 =>
 some (w7.1,w7.2)
 else
 some ((x0.1,x0.2.1,x1,x0.2.2.2.1,x0.2.2.2.2),0)
def Mw(N:Nat)(x0:(List Qv))(x2:Int)(r8:(List Qp))(r7:Int)(x3:Int):(Int×Qp)→Option ((Int×Qp)⊕((Qp))):=fun w11 =>
 if decide (w11.1<(List.length x0:Int))then
 ((idx x0 w11.1).bind fun x17 =>
 (if x17.2.2.1 != x2 then
 some true
 else
 (idx r8 r7).bind fun _ =>
 (idx r8 r7).bind fun x19 =>
 some (decide (x17.1≤x19.2.2.2.2)):Option (Bool)).bind fun v20 =>
 if v20||(decide (x17.1>x3))then
 some w11.2
 else
 if x17.2.1==14 then
 (Pi N w11.2 x17.2.2.2.2.2.2).bind fun w21 =>
 (Wr N w21.1 w21.2 w11.2).bind fun r23 =>
 some r23
 else
 if x17.2.1==15 then
 (Qam N w11.2 x17.2.2.2.2.2.2).bind fun w24 =>
 (Wr N w24.1 w24.2 w11.2).bind fun r26 =>
 some r26
 else
 some w11.2:Option ((Qp))).bind fun v27 =>
 some (.inl ((IntKind.wrap .i64 (w11.1+1)),v27))
 else
 some (.inr w11.2)
def Ik(N:Nat)(x0:(List Qv))(x1:Qw)(x2:Int)(x3:Int):Option ((List Qd)×(List Qp)×(List Qi)) :=
 (H1 N x1).bind fun w1 =>
 (if(decide (x3<0))||(decide (x3≥12622780800))then
 some true
 else
 (Mu N x0 x2 x3).bind fun r5 =>
 some (!r5):Option (Bool)).bind fun v6 =>
 if v6 then
 some (w1.1,w1.2.1,w1.2.2)
 else
 (Qal N w1.2.1 x2).bind fun w7 =>
 (idx w7.2 w7.1).bind fun _ =>
 (idx w7.2 w7.1).bind fun x9 =>
 (Qf (Mw N x0 x2 w7.2 w7.1 x3) N (0,x9)).bind fun v28 =>
 (idx w7.2 w7.1).bind fun _ =>
 (idx w7.2 w7.1).bind fun y29 =>
 some (w1.1,(List.set w7.2 (Int.toNat w7.1) (v28.1,v28.2.1,v28.2.2.1,v28.2.2.2.1,(if x3>v28.2.2.2.2 then x3 else v28.2.2.2.2))),w1.2.2)
def Am(N:Nat)(x0:Qd):Option (Int×Int×Str×Int×Int×Qa×Int×Int×Int×Bool×(List Str)) :=
 (app 16 ([]:List Str) x0.2.2.2.2.2.1).bind fun q1 =>
 some (x0.1,x0.2.1,x0.2.2.1,x0.2.2.2.1,x0.2.2.2.2.1,x0.2.2.2.2.2.2.1,x0.2.2.2.2.2.2.2.1,x0.2.2.2.2.2.2.2.2.1,x0.2.2.2.2.2.2.2.2.2.1,x0.2.2.2.2.2.2.2.2.2.2,q1)
def Se(N:Nat)(x0:Qd):Option (Q5) :=
 some (x0.2.1,x0.2.2.1,x0.2.2.2.1,x0.2.2.2.2.2.2.1.1)
def Sf(N:Nat)(x0:(List Qv))(x1:Int):(Int)→Option ((Int)⊕((Unit)⊕(Int))):=fun v1 =>
 if decide (v1<(List.length x0:Int))then
 (idx x0 v1).bind fun x2 =>
 if(x2.2.1==1)&&(x2.2.2.1==x1)then
 some (.inr (.inr x2.2.2.2.2.2.2))
 else
 some (.inl (IntKind.wrap .i64 (v1+1)))
 else
 some (.inr (.inl ()))
def Pj(N:Nat)(x0:(List Qv))(x1:Int):Option (Int) :=
 (Qf (Sf N x0 x1) N 0).bind fun
 | .inl _ =>
  some 0
 | .inr v3 =>
  some v3
def Bx(N:Nat)(x0:Q7)(ca:Str):(Int)→Option ((Int)⊕((Unit)⊕(Bool))):=fun v1 =>
 if decide (v1<(List.length x0.2.2.1:Int))then
 (idx x0.2.2.1 v1).bind fun x2 =>
 if x2==ca then
 some (.inr (.inr true))
 else
 some (.inl (IntKind.wrap .i64 (v1+1)))
 else
 some (.inr (.inl ()))
def E8(N:Nat)(x0:Q7)(ca:Str):Option (Bool) :=
 (Qf (Bx N x0 ca) N 0).bind fun
 | .inl _ =>
  some false
 | .inr v3 =>
  some v3
def E9(N:Nat)(x0:Qa)(x1:Qa):Option (Bool) :=
 some (x0.2==x1.1)
def Fa(N:Nat)(x0:Qa)(x1:Qa):Option (Qa) :=
 some (x0.1,x1.2)
def Ku(N:Nat)(x0:(List Qa)):(Int×(List Qa))→Option ((Int×(List Qa))⊕(((List Qa)))):=fun w2 =>
 if decide (w2.1<(List.length x0:Int))then
 ((idx x0 w2.1).bind fun x9 =>
 if decide ((List.length w2.2:Int)>0)then
 (idx w2.2 (IntKind.wrap .i64 ((List.length w2.2:Int) - 1))).bind fun _ =>
 (idx w2.2 (IntKind.wrap .i64 ((List.length w2.2:Int) - 1))).bind fun x10 =>
 (E9 N x10 x9).bind fun r11 =>
 if r11 then
 (idx w2.2 (IntKind.wrap .i64 ((List.length w2.2:Int) - 1))).bind fun _ =>
 (idx w2.2 (IntKind.wrap .i64 ((List.length w2.2:Int) - 1))).bind fun x12 =>
 (Fa N x12 x9).bind fun r13 =>
 (idx w2.2 (IntKind.wrap .i64 ((List.length w2.2:Int) - 1))).bind fun _ =>
 (idx w2.2 (IntKind.wrap .i64 ((List.length w2.2:Int) - 1))).bind fun y14 =>
 some (List.set w2.2 (Int.toNat (IntKind.wrap .i64 ((List.length w2.2:Int) - 1))) r13)
 else
 (app 16 w2.2 ([x9]:List Qa)).bind fun q15 =>
 some q15
 else
 (app 16 w2.2 ([x9]:List Qa)).bind fun q16 =>
 some q16:Option (((List Qa)))).bind fun v17 =>
 some (.inl ((IntKind.wrap .i64 (w2.1+1)),v17))
 else
 some (.inr w2.2)
def Up(N:Nat)(x0:(List Qa)):Option ((List Qa)) :=
 (Qf (Ku N x0) N (0,([]:List Qa))).bind fun v18 =>
 some v18
def I0(N:Nat)(r1:(List Q7))(ca:Str):(Int×(List Qa))→Option ((Int×(List Qa))⊕(((List Qa)))):=fun w3 =>
 if decide (w3.1<(List.length r1:Int))then
 ((idx r1 w3.1).bind fun _ =>
 (idx r1 w3.1).bind fun x6 =>
 (E8 N x6 ca).bind fun r7 =>
 if r7 then
 (app 16 w3.2 ([x6.1]:List Qa)).bind fun q8 =>
 some q8
 else
 some w3.2:Option (((List Qa)))).bind fun v9 =>
 some (.inl ((IntKind.wrap .i64 (w3.1+1)),v9))
 else
 some (.inr w3.2)
def Ck(N:Nat)(x0:(List Qv))(x1:Int)(ca:Str):Option ((List Qa)) :=
 (G6 N x0 x1).bind fun r1 =>
 (Qf (I0 N r1 ca) N (0,([]:List Qa))).bind fun v10 =>
 (Up N v10).bind fun r11 =>
 some r11
def Cl(N:Nat)(x0:(List Qv))(x1:Int)(x2:Str):Option ((List Qa)) :=
 (Ck N x0 x1 x2).bind fun r1 =>
 some r1
def Pk(N:Nat)(x0:Jh)(x1:Jh):Option (Bool) :=
 some ((decide (x0.2.1<x1.2.1))||((x0.2.1==x1.2.1)&&(Op.bytesLess x0.2.2.1 x1.2.2.1)))
def Mx(N:Nat)(v17:(List Jh))(x1:Int)(x21:Qv)(r53:(List Qa)):(Int)→Option ((Int)⊕((Int))):=fun v55 =>
 (if decide (v55<(List.length v17:Int))then
 (idx v17 v55).bind fun _ =>
 (idx v17 v55).bind fun x56 =>
 (Pk N x56 (x1,x21.2.2.2.1,x21.2.2.2.2.2.1,r53)).bind fun r57 =>
 some r57
 else
 some false:Option ((Bool))).bind fun v58 =>
 if v58 then
 some (.inl (IntKind.wrap .i64 (v55+1)))
 else
 some (.inr v55)
def My(N:Nat)(x0:(List Qv))(x1:Int):(Int×(List (Int×Bool))×(List (Str×(List (Int×Bool))))×(List Jh))→Option ((Int×(List (Int×Bool))×(List (Str×(List (Int×Bool))))×(List Jh))⊕(((List Jh)))):=fun w8 =>
 if decide (w8.1<(List.length x0:Int))then
 ((idx x0 w8.1).bind fun x21 =>
 (if(x21.2.1==3)&&(x21.2.2.1==x1)then
 some (Ya (k:=(.int .i64)) x21.2.2.2.1 true w8.2.1)
 else
 some w8.2.1:Option (((List (Int×Bool))))).bind fun v32 =>
 ((some ((Qr (k:=.str) x21.2.2.2.2.2.1 w8.2.2.1))).bind fun
 | some r33 =>
  (if(x21.2.1 != 8)||(!((Qr (k:=(.int .i64)) x21.2.2.2.1 v32).getD false))then
  some true
  else
  (chk (eqK .str x21.2.2.2.2.2.1 x21.2.2.2.2.2.1)).bind fun _ =>
  some ((Qr (k:=(.int .i64)) x21.2.2.2.1 r33).getD false):Option (Bool)).bind fun v39 =>
  some (v39,(Ya (k:=.str) x21.2.2.2.2.2.1 r33 w8.2.2.1))
 | none =>
  (if(x21.2.1 != 8)||(!((Qr (k:=(.int .i64)) x21.2.2.2.1 v32).getD false))then
  some true
  else
  (chk (isNone (Qr (k:=.str) x21.2.2.2.2.2.1 w8.2.2.1))).bind fun _ =>
  some false:Option (Bool)).bind fun v41 =>
  some (v41,w8.2.2.1):Option ((Bool×(List (Str×(List (Int×Bool))))))).bind fun w44 =>
 if w44.1 then
 some (v32,w44.2,w8.2.2.2)
 else
 (((some ((Qr (k:=.str) x21.2.2.2.2.2.1 w44.2))).bind fun
 | some r46 =>
  (chk (eqK .str x21.2.2.2.2.2.1 x21.2.2.2.2.2.1)).bind fun _ =>
  some (false,(Ya (k:=.str) x21.2.2.2.2.2.1 r46 w44.2))
 | none =>
  (chk (isNone (Qr (k:=.str) x21.2.2.2.2.2.1 w44.2))).bind fun _ =>
  some (true,w44.2):Option ((Bool×(List (Str×(List (Int×Bool))))))).bind fun w48 =>
 if w48.1 then
 some (Ya (k:=.str) x21.2.2.2.2.2.1 ([]:List (Int×Bool)) w48.2)
 else
 some w48.2:Option (((List (Str×(List (Int×Bool))))))).bind fun v50 =>
 ((some ((Qr (k:=.str) x21.2.2.2.2.2.1 v50))).bind fun
 | some r51 =>
  (chk (eqK .str x21.2.2.2.2.2.1 x21.2.2.2.2.2.1)).bind fun _ =>
  some (Ya (k:=.str) x21.2.2.2.2.2.1 (Ya (k:=(.int .i64)) x21.2.2.2.1 true r51) v50)
 | none =>
  (chk (isNone (Qr (k:=.str) x21.2.2.2.2.2.1 v50))).bind fun _ =>
  none:Option (((List (Str×(List (Int×Bool))))))).bind fun v52 =>
 (Cl N x0 x21.2.2.2.1 x21.2.2.2.2.2.1).bind fun r53 =>
 (Qf (Mx N w8.2.2.2 x1 x21 r53) N 0).bind fun v59 =>
 (slc w8.2.2.2 0 v59).bind fun s60 =>
 (app 56 ([]:List Jh) s60).bind fun q61 =>
 (app 56 q61 ([(x1,x21.2.2.2.1,x21.2.2.2.2.2.1,r53)]:List Jh)).bind fun q62 =>
 (slc w8.2.2.2 v59 (List.length w8.2.2.2:Int)).bind fun s63 =>
 (app 56 q62 s63).bind fun q64 =>
 some (v32,v52,q64):Option (((List (Int×Bool))×(List (Str×(List (Int×Bool))))×(List Jh)))).bind fun w65 =>
 some (.inl ((IntKind.wrap .i64 (w8.1+1)),w65.1,w65.2.1,w65.2.2))
 else
 some (.inr w8.2.2.2)
def Il(N:Nat)(x0:(List Qv))(x1:Int):Option ((List Jh)) :=
 (Qf (My N x0 x1) N (0,([]:List (Int×Bool)),([]:List (Str×(List (Int×Bool)))),([]:List Jh))).bind fun v68 =>
 some v68
def U9(N:Nat)(x0:Qa)(x1:Qa):Option (Qa×Bool) :=
 (V6 N x0).bind fun r1 =>
 (if !r1 then
 some true
 else
 (V6 N x1).bind fun r3 =>
 some (!r3):Option (Bool)).bind fun v4 =>
 if v4||(decide ((if x1.1>x0.1 then x1.1 else x0.1)≥(if x1.2<x0.2 then x1.2 else x0.2)))then
 some ((0,0),false)
 else
 some (((if x1.1>x0.1 then x1.1 else x0.1),(if x1.2<x0.2 then x1.2 else x0.2)),true)
def Zt(N:Nat)(x0:Int):Option (Int) :=
 (if decide ((IntKind.wrap .i64 (x0 - 2000))>0)then
 some (IntKind.wrap .i64 ((IntKind.wrap .i64 (365*(IntKind.wrap .i64 (x0 - 2000))))+(IntKind.wrap .i64 ((IntKind.wrap .i64 ((IntKind.wrap .i64 ((IntKind.wrap .i64 (Int.tdiv (IntKind.wrap .i64 ((IntKind.wrap .i64 (x0 - 2000)) - 1)) 4)) - (IntKind.wrap .i64 (Int.tdiv (IntKind.wrap .i64 ((IntKind.wrap .i64 (x0 - 2000)) - 1)) 100))))+(IntKind.wrap .i64 (Int.tdiv (IntKind.wrap .i64 ((IntKind.wrap .i64 (x0 - 2000)) - 1)) 400))))+1))))
 else
 some (IntKind.wrap .i64 (365*(IntKind.wrap .i64 (x0 - 2000)))):Option ((Int))).bind fun v1 =>
 some v1
def Pl(N:Nat)(x0:Int):Option (Bool) :=
 some ((((Int.tmod x0 4)==0)&&((Int.tmod x0 100) != 0))||((Int.tmod x0 400)==0))
def Ka(N:Nat)(x0:Int)(x1:Int):Option (Int) :=
 (if x1==2 then
 (Pl N x0).bind fun r2 =>
 some r2
 else
 some false:Option (Bool)).bind fun v3 =>
 if v3 then
 some 29
 else
 (idx ([31,28,31,30,31,30,31,31,30,31,30,31]:List Int) (IntKind.wrap .i64 (x1 - 1))).bind fun _ =>
 (idx ([31,28,31,30,31,30,31,31,30,31,30,31]:List Int) (IntKind.wrap .i64 (x1 - 1))).bind fun x4 =>
 some x4
def Sg(N:Nat)(x0:Int):(F6)→Option ((F6)⊕((F6))):=fun v1 =>
 (Zt N (IntKind.wrap .i64 (v1.1+1))).bind fun r2 =>
 if decide (r2≤x0)then
 some (.inl ((IntKind.wrap .i64 (v1.1+1)),v1.2.1,v1.2.2))
 else
 some (.inr v1)
def Si(N:Nat):(Int×F6)→Option ((Int×F6)⊕((Int×F6))):=fun w6 =>
 (Ka N w6.2.1 w6.2.2.1).bind fun r8 =>
 if decide (w6.1≥r8)then
 (Ka N w6.2.1 w6.2.2.1).bind fun r9 =>
 some (.inl ((IntKind.wrap .i64 (w6.1 - r9)),(w6.2.1,(IntKind.wrap .i64 (w6.2.2.1+1)),w6.2.2.2)))
 else
 some (.inr (w6.1,w6.2))
def Pm(N:Nat)(x0:Int):Option (F6) :=
 if(decide (x0<0))||(decide (x0≥146097))then
 some (0,0,0)
 else
 (Qf (Sg N x0) N ((IntKind.wrap .i64 (2000+(IntKind.wrap .i64 (Int.tdiv x0 366)))),1,0)).bind fun v3 =>
 (Zt N v3.1).bind fun r4 =>
 (Qf (Si N) N ((IntKind.wrap .i64 (x0 - r4)),v3)).bind fun w10 =>
 some (w10.2.1,w10.2.2.1,(IntKind.wrap .i64 (w10.1+1)))
def Gm(N:Nat)(x0:Int)(x1:Int):Option (Int) :=
 (Pm N (IntKind.wrap .i64 (Int.tdiv x1 86400))).bind fun r1 =>
 (if decide (r1.2.2<x0)then
 some (IntKind.wrap .i64 ((IntKind.wrap .i64 ((IntKind.wrap .i64 ((IntKind.wrap .i64 (12*(IntKind.wrap .i64 (r1.1 - 2000))))+r1.2.1)) - 1)) - 1))
 else
 some (IntKind.wrap .i64 ((IntKind.wrap .i64 ((IntKind.wrap .i64 (12*(IntKind.wrap .i64 (r1.1 - 2000))))+r1.2.1)) - 1)):Option ((Int))).bind fun v2 =>
 some v2
def Im(N:Nat)(x0:Int)(x1:Int):Option (Int) :=
 if(((decide (x0<2000))||(decide (x0>2399)))||(decide (x1<1)))||(decide (x1>12))then
 some 0
 else
 (Ka N x0 x1).bind fun r1 =>
 some r1
def Qbp(N:Nat)(x0:F6):(Int×Int)→Option ((Int×Int)⊕((Int))):=fun w4 =>
 if decide (w4.2<x0.2.1)then
 (Ka N x0.1 w4.2).bind fun r6 =>
 some (.inl ((IntKind.wrap .i64 (w4.1+r6)),(IntKind.wrap .i64 (w4.2+1))))
 else
 some (.inr w4.1)
def Qan(N:Nat)(x0:F6):Option (Int×Int) :=
 (if decide (x0.2.2<1)then
 some true
 else
 (Im N x0.1 x0.2.1).bind fun r1 =>
 some (decide (x0.2.2>r1)):Option ((Bool))).bind fun v2 =>
 if v2 then
 some (0,6)
 else
 (Zt N x0.1).bind fun r3 =>
 (Qf (Qbp N x0) N ((IntKind.wrap .i64 ((IntKind.wrap .i64 (r3+x0.2.2)) - 1)),1)).bind fun v7 =>
 some (v7,0)
def Ao(N:Nat)(x0:Int)(x1:Int):Option (Int) :=
 (Qan N ((IntKind.wrap .i64 (2000+(IntKind.wrap .i64 (Int.tdiv x1 12)))),(IntKind.wrap .i64 ((Int.tmod x1 12)+1)),x0)).bind fun w1 =>
 if w1.2 != 0 then
 some 12622780800
 else
 some (IntKind.wrap .i64 (w1.1*86400))
def Ws(N:Nat)(x0:Int)(x1:Int):Option (Qa) :=
 (Ao N x0 (IntKind.wrap .i64 (x1+1))).bind fun r1 =>
 (if decide (x1≥0)then
 (Ao N x0 x1).bind fun r3 =>
 some (r3,r1)
 else
 some (0,r1):Option ((Qa))).bind fun v4 =>
 some v4
def Mz(N:Nat)(x0:Int)(x1:Qa):(Int×(List Qa))→Option ((Int×(List Qa))⊕(((List Qa)))):=fun w3 =>
 (Gm N x0 (IntKind.wrap .i64 (x1.2 - 1))).bind fun r5 =>
 if decide (w3.1≤r5)then
 (Ws N x0 w3.1).bind fun r6 =>
 (app 16 w3.2 ([r6]:List Qa)).bind fun q7 =>
 some (.inl ((IntKind.wrap .i64 (w3.1+1)),q7))
 else
 some (.inr w3.2)
def Ef(N:Nat)(x0:Int)(x1:Qa):Option ((List Qa)) :=
 if((((decide (x0<1))||(decide (x0>28)))||(decide (x1.1<0)))||(decide (x1.1≥x1.2)))||(decide (x1.2>12622780800))then
 some ([]:List Qa)
 else
 (Gm N x0 x1.1).bind fun r1 =>
 (Qf (Mz N x0 x1) N (r1,([]:List Qa))).bind fun v8 =>
 some v8
def Fb(N:Nat)(x0:Qa)(ca:Int)(cd:(List Qa))(cg:Int):Option ((List Qa)) :=
 (U9 N x0 (0,(IntKind.wrap .i64 (ca+1)))).bind fun w1 =>
 if w1.2 then
 (Ef N cg w1.1).bind fun r3 =>
 (app 16 cd r3).bind fun q4 =>
 some q4
 else
 some cd
def By(N:Nat)(x0:(List Qa))(x1:Int):(Int×(List Q8))→Option ((Int×(List Q8))⊕(((List Q8)))):=fun w4 =>
 if decide (w4.1<(List.length x0:Int))then
 ((idx x0 w4.1).bind fun x8 =>
 (V6 N x8).bind fun r9 =>
 if r9 then
 (app 24 w4.2 ([(x8.1,x1,1),(x8.2,x1,(-1))]:List Q8)).bind fun q10 =>
 some q10
 else
 some w4.2:Option (((List Q8)))).bind fun v11 =>
 some (.inl ((IntKind.wrap .i64 (w4.1+1)),v11))
 else
 some (.inr w4.2)
def Fc(N:Nat)(x0:(List Qa))(x1:Int)(ce:(List Q8)):Option ((List Q8)) :=
 (Qf (By N x0 x1) N (0,ce)).bind fun v12 =>
 some v12
def H2(N:Nat)(x0:(List Qa))(x1:Int):(Int×(List Q8))→Option ((Int×(List Q8))⊕(((List Q8)))):=fun w4 =>
 if decide (w4.1<(List.length x0:Int))then
 ((idx x0 w4.1).bind fun x8 =>
 (V6 N x8).bind fun r9 =>
 if r9 then
 (app 24 w4.2 ([(x8.1,x1,1),(x8.2,x1,(-1))]:List Q8)).bind fun q10 =>
 some q10
 else
 some w4.2:Option (((List Q8)))).bind fun v11 =>
 some (.inl ((IntKind.wrap .i64 (w4.1+1)),v11))
 else
 some (.inr w4.2)
def Wd(N:Nat)(x0:(List Qa))(x1:Int)(ce:(List Q8)):Option ((List Q8)) :=
 (Qf (H2 N x0 x1) N (0,ce)).bind fun v12 =>
 some v12
def Cm(N:Nat)(x0:Bool)(x1:Bool):Option (Bool) :=
 some x0
def I1(N:Nat)(r3:(List Q8)):(Bool×Int×(List Qa)×(List Int))→Option ((Bool×Int×(List Qa)×(List Int))⊕(((List Qa)))):=fun w9 =>
 if decide (w9.2.1<(List.length r3:Int))then
 ((idx r3 w9.2.1).bind fun _ =>
 (idx r3 w9.2.1).bind fun x28 =>
 (idx w9.2.2.2 x28.2.1).bind fun _ =>
 (idx w9.2.2.2 x28.2.1).bind fun x31 =>
 (idx w9.2.2.2 x28.2.1).bind fun _ =>
 (idx w9.2.2.2 x28.2.1).bind fun x32 =>
 (if decide ((IntKind.wrap .i64 (w9.2.1+1))<(List.length r3:Int))then
 (idx r3 (IntKind.wrap .i64 (w9.2.1+1))).bind fun _ =>
 (idx r3 (IntKind.wrap .i64 (w9.2.1+1))).bind fun x34 =>
 some (x34.1==x28.1)
 else
 some false:Option (Bool)).bind fun v35 =>
 if v35 then
 some (w9.1,w9.2.2.1,(List.set w9.2.2.2 (Int.toNat x28.2.1) (IntKind.wrap .i64 (x31+x28.2.2))))
 else
 (idx (List.set w9.2.2.2 (Int.toNat x28.2.1) (IntKind.wrap .i64 (x31+x28.2.2))) 0).bind fun _ =>
 (idx (List.set w9.2.2.2 (Int.toNat x28.2.1) (IntKind.wrap .i64 (x31+x28.2.2))) 0).bind fun x36 =>
 (idx (List.set w9.2.2.2 (Int.toNat x28.2.1) (IntKind.wrap .i64 (x31+x28.2.2))) 1).bind fun _ =>
 (idx (List.set w9.2.2.2 (Int.toNat x28.2.1) (IntKind.wrap .i64 (x31+x28.2.2))) 1).bind fun x37 =>
 (Cm N (decide (x36>0)) (decide (x37>0))).bind fun r38 =>
 (if r38&&(!w9.1)then
 (app 16 w9.2.2.1 ([(x28.1,0)]:List Qa)).bind fun q40 =>
 some q40
 else
 if(!r38)&&w9.1 then
 (idx w9.2.2.1 (IntKind.wrap .i64 ((List.length w9.2.2.1:Int) - 1))).bind fun _ =>
 (idx w9.2.2.1 (IntKind.wrap .i64 ((List.length w9.2.2.1:Int) - 1))).bind fun y41 =>
 some (List.set w9.2.2.1 (Int.toNat (IntKind.wrap .i64 ((List.length w9.2.2.1:Int) - 1))) (y41.1,x28.1))
 else
 some w9.2.2.1:Option (((List Qa)))).bind fun v42 =>
 some (r38,v42,(List.set w9.2.2.2 (Int.toNat x28.2.1) (IntKind.wrap .i64 (x31+x28.2.2)))):Option ((Bool×(List Qa)×(List Int)))).bind fun w43 =>
 some (.inl (w43.1,(IntKind.wrap .i64 (w9.2.1+1)),w43.2.1,w43.2.2))
 else
 some (.inr w9.2.2.1)
def Cn(N:Nat)(x0:(List Qa))(x1:(List Qa)):Option ((List Qa)) :=
 (Fc N x0 0 ([]:List Q8)).bind fun r1 =>
 (Wd N x1 1 r1).bind fun r2 =>
 (Qf2 (fun x:Q8=>x.1) r2).bind fun r3 =>
 (Qf (I1 N r3) N (false,0,([]:List Qa),(List.replicate 2 0))).bind fun v46 =>
 some v46
def M2(N:Nat)(x0:(List Qa)):Option ((List Qa)) :=
 (Cn N x0 ([]:List Qa)).bind fun r1 =>
 some r1
def Sj(N:Nat)(x22:Jh):(Int×Int×Int×(List Qa))→Option ((Int×Int×Int×(List Qa))⊕((Int×Int×(List Qa)))):=fun w24 =>
 if decide (w24.1<(List.length x22.2.2.2:Int))then
 (idx x22.2.2.2 w24.1).bind fun x28 =>
 (Fb N x28 w24.2.2.1 w24.2.2.2 w24.2.1).bind fun r29 =>
 some (.inl ((IntKind.wrap .i64 (w24.1+1)),w24.2.1,w24.2.2.1,r29))
 else
 some (.inr (w24.2.1,w24.2.2.1,w24.2.2.2))
def Sl(N:Nat)(x0:(List Jh)):(Int×Int×Int×(List Qa))→Option ((Int×Int×Int×(List Qa))⊕((Int×(List Qa)))):=fun w7 =>
 if decide (w7.1<(List.length x0:Int))then
 (idx x0 w7.1).bind fun x22 =>
 (Qf (Sj N x22) N (0,w7.2.1,w7.2.2.1,w7.2.2.2)).bind fun w30 =>
 some (.inl ((IntKind.wrap .i64 (w7.1+1)),w30.1,w30.2.1,w30.2.2))
 else
 some (.inr (w7.2.1,w7.2.2.2))
def Sm(N:Nat)(r35:(List Qa))(v33:Int):(Int×(List Qa))→Option ((Int×(List Qa))⊕(((List Qa)))):=fun w37 =>
 if decide (w37.1<(List.length r35:Int))then
 (idx r35 w37.1).bind fun _ =>
 (idx r35 w37.1).bind fun x39 =>
 (Ef N v33 x39).bind fun r40 =>
 (app 16 w37.2 r40).bind fun q41 =>
 some (.inl ((IntKind.wrap .i64 (w37.1+1)),q41))
 else
 some (.inr w37.2)
def Pn(N:Nat)(x0:(List Jh))(x1:Int)(x2:Int):Option ((List Qa)) :=
 (Qf (Sl N x0) N (0,x1,x2,([]:List Qa))).bind fun w33 =>
 (M2 N w33.2).bind fun r35 =>
 (Qf (Sm N r35 w33.1) N (0,([]:List Qa))).bind fun v42 =>
 some v42
def Qao(N:Nat)(x0:Qn)(ca:Str)(ce:Int):Option (Bool) :=
 some ((x0.1==ca)&&(decide (x0.2.1≤ce)))
def K9(N:Nat)(x0:(List Qn))(ca:Str)(ce:Int):(Int×(List Qn))→Option ((Int×(List Qn))⊕(((List Qn)))):=fun w2 =>
 if decide (w2.1<(List.length x0:Int))then
 ((idx x0 w2.1).bind fun x5 =>
 (Qao N x5 ca ce).bind fun r6 =>
 if r6 then
 (app 80 w2.2 ([x5]:List Qn)).bind fun q7 =>
 some q7
 else
 some w2.2:Option (((List Qn)))).bind fun v8 =>
 some (.inl ((IntKind.wrap .i64 (w2.1+1)),v8))
 else
 some (.inr w2.2)
def Za(N:Nat)(x0:(List Qn))(ca:Str)(ce:Int):Option ((List Qn)) :=
 (Qf (K9 N x0 ca ce) N (0,([]:List Qn))).bind fun v9 =>
 some v9
def Sn(N:Nat)(x0:Qn):(Int×(List J5))→Option ((Int×(List J5))⊕(((List J5)))):=fun w2 =>
 if decide (w2.1<(List.length x0.2.2.2.2.2:Int))then
 (idx x0.2.2.2.2.2 w2.1).bind fun x4 =>
 (app 16 ([]:List Str) x4.2.1).bind fun q5 =>
 (app 64 w2.2 ([(x4.1,q5,x4.2.2.1,x4.2.2.2.1,x4.2.2.2.2.1,x4.2.2.2.2.2)]:List J5)).bind fun q6 =>
 some (.inl ((IntKind.wrap .i64 (w2.1+1)),q6))
 else
 some (.inr w2.2)
def Po(N:Nat)(x0:Qn):Option (Str×Int×Int×Str×Bool×(List J5)) :=
 (Qf (Sn N x0) N (0,([]:List J5))).bind fun v7 =>
 some (x0.1,x0.2.1,x0.2.2.1,x0.2.2.2.1,x0.2.2.2.2.1,v7)
def Qg2(N:Nat)(x0:(List Qn))(x1:Str)(x2:Int):Option (Str×Int×Int×Str×Bool×Bool×(List J5)) :=
 (Za N x0 x1 x2).bind fun r1 =>
 if(List.length r1:Int)==0 then
 some (([]:Str),0,0,([]:Str),false,false,([]:List J5))
 else
 (idx r1 (IntKind.wrap .i64 ((List.length r1:Int) - 1))).bind fun _ =>
 (idx r1 (IntKind.wrap .i64 ((List.length r1:Int) - 1))).bind fun x3 =>
 (Po N x3).bind fun w4 =>
 some (w4.1,w4.2.1,w4.2.2.1,w4.2.2.2.1,w4.2.2.2.2.1,true,w4.2.2.2.2.2)
def Fn(N:Nat)(r12:(List J5))(x0:Jh)(r4:Qa):(Int×(List Ym))→Option ((Int×(List Ym))⊕(((List Ym)))):=fun w14 =>
 if decide (w14.1<(List.length r12:Int))then
 (idx r12 w14.1).bind fun _ =>
 (idx r12 w14.1).bind fun x16 =>
 (app 128 w14.2 ([((x0.1,x0.2.1,x0.2.2.1,w14.1,x16.1,x16.2.1,r4,x16.2.2.1,x16.2.2.1,x16.2.2.2.2.1,x16.2.2.2.2.2),x16.2.2.2.1)]:List Ym)).bind fun q17 =>
 some (.inl ((IntKind.wrap .i64 (w14.1+1)),q17))
 else
 some (.inr w14.2)
def Fo(N:Nat)(x0:Jh)(x2:Qa)(x1:(List Qn)):(Int)→Option ((Int)⊕((Unit)⊕((List Ym)))):=fun v1 =>
 if decide (v1<(List.length x0.2.2.2:Int))then
 (idx x0.2.2.2 v1).bind fun x3 =>
 (U9 N x3 x2).bind fun w4 =>
 if !w4.2 then
 some (.inl (IntKind.wrap .i64 (v1+1)))
 else
 (Qg2 N x1 x0.2.2.1 w4.1.1).bind fun w6 =>
 (Qf (Fn N w6.2.2.2.2.2.2 x0 w4.1) N (0,([]:List Ym))).bind fun v18 =>
 some (.inr (.inr v18))
 else
 some (.inr (.inl ()))
def Gn(N:Nat)(x0:Jh)(x1:(List Qn))(x2:Qa):Option ((List Ym)) :=
 (Qf (Fo N x0 x2 x1) N 0).bind fun
 | .inl _ =>
  some ([]:List Ym)
 | .inr v19 =>
  some v19
def Eg(N:Nat)(x0:Qd)(x1:Qd):Option (Bool) :=
 some (((((x0.2.1==x1.2.1)&&(x0.2.2.1==x1.2.2.1))&&(x0.2.2.2.1==x1.2.2.2.1))&&(x0.2.2.2.2.1==x1.2.2.2.2.1))&&(x0.2.2.2.2.2.2.1.2==x1.2.2.2.2.2.2.1.1))
def Qap(N:Nat)(x0:Qd)(x1:Qd)(x2:Int):Option (Int×Int×Str×Int×Int×Qa×Int×Int×Int×Bool×(List Str)) :=
 (Am N x1).bind fun w1 =>
 ((Eg N x0 x1).bind fun r14 =>
 if r14 then
 some (w1.1,w1.2.1,w1.2.2.1,w1.2.2.2.1,w1.2.2.2.2.1,w1.2.2.2.2.2.1,(IntKind.wrap .i64 (w1.2.2.2.2.2.2.1+(if(if 0>x2 then 0 else x2)<(if 0>x0.2.2.2.2.2.2.2.2.1 then 0 else x0.2.2.2.2.2.2.2.2.1)then(if 0>x2 then 0 else x2)else(if 0>x0.2.2.2.2.2.2.2.2.1 then 0 else x0.2.2.2.2.2.2.2.2.1)))),(IntKind.wrap .i64 (w1.2.2.2.2.2.2.2.1+(if(if 0>x2 then 0 else x2)<(if 0>x0.2.2.2.2.2.2.2.2.1 then 0 else x0.2.2.2.2.2.2.2.2.1)then(if 0>x2 then 0 else x2)else(if 0>x0.2.2.2.2.2.2.2.2.1 then 0 else x0.2.2.2.2.2.2.2.2.1)))),w1.2.2.2.2.2.2.2.2.1,w1.2.2.2.2.2.2.2.2.2.1,w1.2.2.2.2.2.2.2.2.2.2)
 else
 some (w1.1,w1.2.1,w1.2.2.1,w1.2.2.2.1,w1.2.2.2.2.1,w1.2.2.2.2.2.1,w1.2.2.2.2.2.2.1,w1.2.2.2.2.2.2.2.1,w1.2.2.2.2.2.2.2.2.1,w1.2.2.2.2.2.2.2.2.2.1,w1.2.2.2.2.2.2.2.2.2.2):Option ((Int×Int×Str×Int×Int×Qa×Int×Int×Int×Bool×(List Str)))).bind fun w15 =>
 some (w15.1,w15.2.1,w15.2.2.1,w15.2.2.2.1,w15.2.2.2.2.1,w15.2.2.2.2.2.1,w15.2.2.2.2.2.2.1,w15.2.2.2.2.2.2.2.1,w15.2.2.2.2.2.2.2.2.1,w15.2.2.2.2.2.2.2.2.2.1,w15.2.2.2.2.2.2.2.2.2.2)
def Pp(N:Nat)(x0:Qd)(x1:Qd):Option (Bool) :=
 if x0.1 != x1.1 then
 some (decide (x0.1<x1.1))
 else
 if x0.2.1 != x1.2.1 then
 some (decide (x0.2.1<x1.2.1))
 else
 if !(x0.2.2.1==x1.2.2.1)then
 some (Op.bytesLess x0.2.2.1 x1.2.2.1)
 else
 if x0.2.2.2.1 != x1.2.2.2.1 then
 some (decide (x0.2.2.2.1<x1.2.2.2.1))
 else
 some (decide (x0.2.2.2.2.2.2.1.1<x1.2.2.2.2.2.2.1.1))
def I2(N:Nat)(ce:(List Qd))(x1:Ym):(Int×Int×Int×Str×Int×Int×Qa×Int×Int×Int×Bool×(List Str))→Option ((Int×Int×Int×Str×Int×Int×Qa×Int×Int×Int×Bool×(List Str))⊕((Int×Int×Str×Int×Int×Qa×Int×Int×Int×Bool×(List Str)))):=fun w15 =>
 if decide (w15.1<(List.length ce:Int))then
 (idx ce w15.1).bind fun _ =>
 (idx ce w15.1).bind fun x27 =>
 (Eg N x27 (w15.2.1,w15.2.2.1,w15.2.2.2.1,w15.2.2.2.2.1,w15.2.2.2.2.2.1,w15.2.2.2.2.2.2.2.2.2.2.2,w15.2.2.2.2.2.2.1,w15.2.2.2.2.2.2.2.1,w15.2.2.2.2.2.2.2.2.1,w15.2.2.2.2.2.2.2.2.2.1,w15.2.2.2.2.2.2.2.2.2.2.1)).bind fun r28 =>
 if r28 then
 (Qap N x27 (w15.2.1,w15.2.2.1,w15.2.2.2.1,w15.2.2.2.2.1,w15.2.2.2.2.2.1,w15.2.2.2.2.2.2.2.2.2.2.2,w15.2.2.2.2.2.2.1,w15.2.2.2.2.2.2.2.1,w15.2.2.2.2.2.2.2.2.1,w15.2.2.2.2.2.2.2.2.2.1,w15.2.2.2.2.2.2.2.2.2.2.1) x1.2).bind fun w29 =>
 some (.inr (w29.1,w29.2.1,w29.2.2.1,w29.2.2.2.1,w29.2.2.2.2.1,w29.2.2.2.2.2.1,w29.2.2.2.2.2.2.1,w29.2.2.2.2.2.2.2.1,w29.2.2.2.2.2.2.2.2.1,w29.2.2.2.2.2.2.2.2.2.1,w29.2.2.2.2.2.2.2.2.2.2))
 else
 some (.inl ((IntKind.wrap .i64 (w15.1+1)),w15.2.1,w15.2.2.1,w15.2.2.2.1,w15.2.2.2.2.1,w15.2.2.2.2.2.1,w15.2.2.2.2.2.2.1,w15.2.2.2.2.2.2.2.1,w15.2.2.2.2.2.2.2.2.1,w15.2.2.2.2.2.2.2.2.2.1,w15.2.2.2.2.2.2.2.2.2.2.1,w15.2.2.2.2.2.2.2.2.2.2.2))
 else
 some (.inr (w15.2.1,w15.2.2.1,w15.2.2.2.1,w15.2.2.2.2.1,w15.2.2.2.2.2.1,w15.2.2.2.2.2.2.1,w15.2.2.2.2.2.2.2.1,w15.2.2.2.2.2.2.2.2.1,w15.2.2.2.2.2.2.2.2.2.1,w15.2.2.2.2.2.2.2.2.2.2.1,w15.2.2.2.2.2.2.2.2.2.2.2))
def I3(N:Nat)(ce:(List Qd))(v40:Int)(v41:Int)(v42:Str)(v43:Int)(v44:Int)(v50:(List Str))(v45:Qa)(v46:Int)(v47:Int)(v48:Int)(v49:Bool):(Int)→Option ((Int)⊕((Int))):=fun v51 =>
 (if decide (v51<(List.length ce:Int))then
 (idx ce v51).bind fun _ =>
 (idx ce v51).bind fun x52 =>
 (Pp N x52 (v40,v41,v42,v43,v44,v50,v45,v46,v47,v48,v49)).bind fun r53 =>
 some r53
 else
 some false:Option ((Bool))).bind fun v54 =>
 if v54 then
 some (.inl (IntKind.wrap .i64 (v51+1)))
 else
 some (.inr v51)
def Co(N:Nat)(x1:Ym)(ce:(List Qd))(cd:(List (Q5×Bool))):Option ((List (Q5×Bool))×(List Qd)) :=
 (Se N x1.1).bind fun r1 =>
 if(Qr (k:=Ux) r1 cd).getD false then
 some (cd,ce)
 else
 (Am N x1.1).bind fun w2 =>
 (Qf (I2 N ce x1) N (0,w2.1,w2.2.1,w2.2.2.1,w2.2.2.2.1,w2.2.2.2.2.1,w2.2.2.2.2.2.1,w2.2.2.2.2.2.2.1,w2.2.2.2.2.2.2.2.1,w2.2.2.2.2.2.2.2.2.1,w2.2.2.2.2.2.2.2.2.2.1,w2.2.2.2.2.2.2.2.2.2.2)).bind fun w40 =>
 (Qf (I3 N ce w40.1 w40.2.1 w40.2.2.1 w40.2.2.2.1 w40.2.2.2.2.1 w40.2.2.2.2.2.2.2.2.2.2 w40.2.2.2.2.2.1 w40.2.2.2.2.2.2.1 w40.2.2.2.2.2.2.2.1 w40.2.2.2.2.2.2.2.2.1 w40.2.2.2.2.2.2.2.2.2.1) N 0).bind fun v55 =>
 (slc ce 0 v55).bind fun s56 =>
 (app 120 ([]:List Qd) s56).bind fun q57 =>
 (app 120 q57 ([(w40.1,w40.2.1,w40.2.2.1,w40.2.2.2.1,w40.2.2.2.2.1,w40.2.2.2.2.2.2.2.2.2.2,w40.2.2.2.2.2.1,w40.2.2.2.2.2.2.1,w40.2.2.2.2.2.2.2.1,w40.2.2.2.2.2.2.2.2.1,w40.2.2.2.2.2.2.2.2.2.1)]:List Qd)).bind fun q58 =>
 (slc ce v55 (List.length ce:Int)).bind fun s59 =>
 (app 120 q58 s59).bind fun q60 =>
 (Se N (w40.1,w40.2.1,w40.2.2.1,w40.2.2.2.1,w40.2.2.2.2.1,w40.2.2.2.2.2.2.2.2.2.2,w40.2.2.2.2.2.1,w40.2.2.2.2.2.2.1,w40.2.2.2.2.2.2.2.1,w40.2.2.2.2.2.2.2.2.1,w40.2.2.2.2.2.2.2.2.2.1)).bind fun r61 =>
 some ((Ya (k:=Ux) r61 true cd),q60)
def Oh(N:Nat)(x2:Qw):(Int×(List Qd)×(List (Q5×Bool)))→Option ((Int×(List Qd)×(List (Q5×Bool)))⊕(((List Qd)×(List (Q5×Bool))))):=fun w4 =>
 if decide (w4.1<(List.length x2.1:Int))then
 (idx x2.1 w4.1).bind fun x7 =>
 (Am N x7).bind fun w28 =>
 (app 120 w4.2.1 ([(w28.1,w28.2.1,w28.2.2.1,w28.2.2.2.1,w28.2.2.2.2.1,w28.2.2.2.2.2.2.2.2.2.2,w28.2.2.2.2.2.1,w28.2.2.2.2.2.2.1,w28.2.2.2.2.2.2.2.1,w28.2.2.2.2.2.2.2.2.1,w28.2.2.2.2.2.2.2.2.2.1)]:List Qd)).bind fun q40 =>
 (Se N x7).bind fun r41 =>
 some (.inl ((IntKind.wrap .i64 (w4.1+1)),q40,(Ya (k:=Ux) r41 true w4.2.2)))
 else
 some (.inr (w4.2.1,w4.2.2))
def Oi(N:Nat)(r118:(List Ym))(x4:Int):(Int×(List Qd)×(List (Q5×Bool)))→Option ((Int×(List Qd)×(List (Q5×Bool)))⊕(((List Qd)×(List (Q5×Bool))))):=fun w121 =>
 if decide (w121.1<(List.length r118:Int))then
 ((idx r118 w121.1).bind fun _ =>
 (idx r118 w121.1).bind fun x127 =>
 if decide (x127.1.2.2.2.2.2.2.1.1≤x4)then
 (Co N x127 w121.2.1 w121.2.2).bind fun w128 =>
 some (w128.2,w128.1)
 else
 some (w121.2.1,w121.2.2):Option (((List Qd)×(List (Q5×Bool))))).bind fun w130 =>
 some (.inl ((IntKind.wrap .i64 (w121.1+1)),w130.1,w130.2))
 else
 some (.inr (w121.2.1,w121.2.2))
def Oj(N:Nat)(r54:(List Jh))(x1:(List Qn))(x109:Qa)(x4:Int):(Int×(List Qd)×(List (Q5×Bool)))→Option ((Int×(List Qd)×(List (Q5×Bool)))⊕(((List Qd)×(List (Q5×Bool))))):=fun w114 =>
 if decide (w114.1<(List.length r54:Int))then
 (idx r54 w114.1).bind fun x117 =>
 (Gn N x117 x1 x109).bind fun r118 =>
 (Qf (Oi N r118 x4) N (0,w114.2.1,w114.2.2)).bind fun w132 =>
 some (.inl ((IntKind.wrap .i64 (w114.1+1)),w132.1,w132.2))
 else
 some (.inr (w114.2.1,w114.2.2))
def Ol(N:Nat)(r56:(List Qa))(r54:(List Jh))(x1:(List Qn))(x4:Int):(Int×(List Qd)×(List (Q5×Bool)))→Option ((Int×(List Qd)×(List (Q5×Bool)))⊕(((List Qd)×(List (Q5×Bool))))):=fun w86 =>
 if decide (w86.1<(List.length r56:Int))then
 (idx r56 w86.1).bind fun _ =>
 (idx r56 w86.1).bind fun x109 =>
 (Qf (Oj N r54 x1 x109 x4) N (0,w86.2.1,w86.2.2)).bind fun w134 =>
 some (.inl ((IntKind.wrap .i64 (w86.1+1)),w134.1,w134.2))
 else
 some (.inr (w86.2.1,w86.2.2))
def M3(N:Nat)(x0:(List Qv))(x1:(List Qn))(x2:Qw)(x3:Int)(x4:Int):Option ((List Qd)×(List Qp)×(List Qi)) :=
 (Qf (Oh N x2) N (0,([]:List Qd),([]:List (Q5×Bool)))).bind fun w42 =>
 (app 40 ([]:List Qp) x2.2.1).bind fun q44 =>
 (app 40 ([]:List Qi) x2.2.2).bind fun q45 =>
 (Pj N x0 x3).bind fun r46 =>
 (if((decide (x4≥0))&&(decide (x4<12622780800)))&&(decide (r46>0))then
 (Il N x0 x3).bind fun r54 =>
 (Pn N r54 r46 x4).bind fun r56 =>
 (Qf (Ol N r56 r54 x1 x4) N (0,w42.1,w42.2)).bind fun w136 =>
 some (w136.1,w136.2)
 else
 some (w42.1,w42.2):Option (((List Qd)×(List (Q5×Bool))))).bind fun w138 =>
 some (w138.1,q44,q45)
def Qaq(N:Nat)(x0:Qd):Option (Int×Int×Str×Int×Int×Qa×Int×Int×Int×Bool×(List Str)) :=
 (app 16 ([]:List Str) x0.2.2.2.2.2.1).bind fun q1 =>
 some (x0.1,x0.2.1,x0.2.2.1,x0.2.2.2.1,x0.2.2.2.2.1,x0.2.2.2.2.2.2.1,x0.2.2.2.2.2.2.2.1,x0.2.2.2.2.2.2.2.2.1,x0.2.2.2.2.2.2.2.2.2.1,x0.2.2.2.2.2.2.2.2.2.2,q1)
def So(N:Nat)(x0:(List Qd)):(Int×(List Qd))→Option ((Int×(List Qd))⊕(((List Qd)))):=fun w2 =>
 if decide (w2.1<(List.length x0:Int))then
 (idx x0 w2.1).bind fun x4 =>
 (Qaq N x4).bind fun w14 =>
 (app 120 w2.2 ([(w14.1,w14.2.1,w14.2.2.1,w14.2.2.2.1,w14.2.2.2.2.1,w14.2.2.2.2.2.2.2.2.2.2,w14.2.2.2.2.2.1,w14.2.2.2.2.2.2.1,w14.2.2.2.2.2.2.2.1,w14.2.2.2.2.2.2.2.2.1,w14.2.2.2.2.2.2.2.2.2.1)]:List Qd)).bind fun q25 =>
 some (.inl ((IntKind.wrap .i64 (w2.1+1)),q25))
 else
 some (.inr w2.2)
def Pq(N:Nat)(x0:(List Qd)):Option ((List Qd)) :=
 (Qf (So N x0) N (0,([]:List Qd))).bind fun v26 =>
 some v26
def Kv(N:Nat)(x0:Int)(x1:Int):Option (Int) :=
 if decide (x0<x1)then
 some (-1)
 else
 if decide (x0>x1)then
 some 1
 else
 some 0
def M4(N:Nat)(x0:Qd)(x1:Qd):Option (Bool) :=
 (Kv N x0.2.2.2.2.2.2.2.2.2.1 x1.2.2.2.2.2.2.2.2.2.1).bind fun r1 =>
 if r1 != 0 then
 some (decide (r1<0))
 else
 (Kv N x0.2.2.2.2.2.2.1.2 x1.2.2.2.2.2.2.1.2).bind fun r2 =>
 if r2 != 0 then
 some (decide (r2<0))
 else
 (Kv N x0.2.1 x1.2.1).bind fun r3 =>
 if r3 != 0 then
 some (decide (r3<0))
 else
 if !(x0.2.2.1==x1.2.2.1)then
 some (Op.bytesLess x0.2.2.1 x1.2.2.1)
 else
 (Kv N x0.2.2.2.1 x1.2.2.2.1).bind fun r4 =>
 if r4 != 0 then
 some (decide (r4<0))
 else
 some (decide (x0.2.2.2.2.2.2.1.1<x1.2.2.2.2.2.2.1.1))
def Cp(N:Nat)(x2:Int):(Int×(List Int))→Option ((Int×(List Int))⊕(((List Int)))):=fun w2 =>
 if decide (w2.1<x2)then
 (app 8 w2.2 ([w2.1]:List Int)).bind fun q4 =>
 some (.inl ((IntKind.wrap .i64 (w2.1+1)),q4))
 else
 some (.inr w2.2)
def Sp(N:Nat)(r6:(List Int))(r7:(List Int))(x0:(List Qd)):(Int×Int×(List Int))→Option ((Int×Int×(List Int))⊕(((List Int)))):=fun w9 =>
 if(decide (w9.1<(List.length r6:Int)))||(decide (w9.2.1<(List.length r7:Int)))then
 (if w9.2.1==(List.length r7:Int)then
 some true
 else
 if decide (w9.1<(List.length r6:Int))then
 (idx r7 w9.2.1).bind fun x12 =>
 (idx x0 x12).bind fun x13 =>
 (idx r6 w9.1).bind fun x14 =>
 (idx x0 x14).bind fun x15 =>
 (M4 N x13 x15).bind fun r16 =>
 some (!r16)
 else
 some false:Option ((Bool))).bind fun v17 =>
 if v17 then
 (idx r6 w9.1).bind fun x18 =>
 (app 8 w9.2.2 ([x18]:List Int)).bind fun q19 =>
 some (.inl ((IntKind.wrap .i64 (w9.1+1)),w9.2.1,q19))
 else
 (idx r7 w9.2.1).bind fun x20 =>
 (app 8 w9.2.2 ([x20]:List Int)).bind fun q21 =>
 some (.inl (w9.1,(IntKind.wrap .i64 (w9.2.1+1)),q21))
 else
 some (.inr w9.2.2)
def Uh(N:Nat):Nat→(List Qd)→Int→Int→Option ((List Int))
 | 0,_,_,_=>none
 | n+1,x0,x1,x2 =>
  if decide ((IntKind.wrap .i64 (x2 - x1))<2)then
  (Qf (Cp N x2) N (x1,([]:List Int))).bind fun v5 =>
  some v5
  else
  (Uh N n x0 x1 (IntKind.wrap .i64 (x1+(IntKind.wrap .i64 (Int.tdiv (IntKind.wrap .i64 (x2 - x1)) 2))))).bind fun r6 =>
  (Uh N n x0 (IntKind.wrap .i64 (x1+(IntKind.wrap .i64 (Int.tdiv (IntKind.wrap .i64 (x2 - x1)) 2)))) x2).bind fun r7 =>
  (mkL 8 0 (IntKind.wrap .i64 (x2 - x1)) 0).bind fun m8 =>
  (Qf (Sp N r6 r7 x0) N (0,0,m8)).bind fun v22 =>
  some v22
def Qf5(N:Nat)(x0:(List Qd))(x1:Int)(x2:Int):Option ((List Int)):=Uh N N x0 x1 x2
def Sq(N:Nat)(x0:Qd)(x4:Str):(Int)→Option ((Int)⊕((Unit)⊕(Bool))):=fun v4 =>
 if decide (v4<(List.length x0.2.2.2.2.2.1:Int))then
 (idx x0.2.2.2.2.2.1 v4).bind fun x7 =>
 if x7==x4 then
 some (.inr (.inr true))
 else
 some (.inl (IntKind.wrap .i64 (v4+1)))
 else
 some (.inr (.inl ()))
def Pr(N:Nat)(x0:Qd)(x1:Int)(x2:Int)(x3:Int)(x4:Str)(x5:Bool)(x6:Int):Option (Bool) :=
 (if(decide (x0.2.2.2.2.2.2.2.2.1≤0))||(x0.2.2.2.2.1 != x3)then
 some true
 else
 (Wn N x0.2.2.2.2.2.2.1 x6).bind fun r2 =>
 some (!r2):Option (Bool)).bind fun v3 =>
 if v3 then
 some false
 else
 if(x0.2.1 != x2)&&(((!x0.2.2.2.2.2.2.2.2.2.2)||(x0.1 != x1))||(!x5))then
 some false
 else
 (Qf (Sq N x0 x4) N 0).bind fun
 | .inl _ =>
  some ((List.length x0.2.2.2.2.2.1:Int)==0)
 | .inr v8 =>
  some v8
def Qk1(N:Nat)(x0:Qd):Option (Qrh) :=
 some (x0.2.1,x0.2.2.1,x0.2.2.2.1,x0.2.2.2.2.2.2.1.1)
def Qc7(N:Nat)(r2:(List Int))(x0:(List Qd))(x1:Int)(x2:Int)(x3:Int)(x4:Str)(x5:Bool)(x6:Int):(Int×Int×(List Qd)×(List Ja))→Option ((Int×Int×(List Qd)×(List Ja))⊕((Int×(List Qd)×(List Ja)))):=fun w8 =>
 if decide (w8.2.1<(List.length r2:Int))then
 ((idx r2 w8.2.1).bind fun x27 =>
 if w8.1==0 then
 some (.inr (w8.1,w8.2.2.1,w8.2.2.2))
 else
 (idx x0 x27).bind fun x30 =>
 (Pr N x30 x1 x2 x3 x4 x5 x6).bind fun r31 =>
 if !r31 then
 some (.inl (w8.1,w8.2.2.1,w8.2.2.2))
 else
 (idx w8.2.2.1 x27).bind fun _ =>
 (idx w8.2.2.1 x27).bind fun x32 =>
 (idx w8.2.2.1 x27).bind fun _ =>
 (idx w8.2.2.1 x27).bind fun x33 =>
 (idx w8.2.2.1 x27).bind fun _ =>
 (idx w8.2.2.1 x27).bind fun y34 =>
 (idx x0 x27).bind fun x35 =>
 (Qk1 N x35).bind fun r36 =>
 (app 48 w8.2.2.2 ([(r36.1,r36.2.1,r36.2.2.1,r36.2.2.2,(if x32.2.2.2.2.2.2.2.2.1<w8.1 then x32.2.2.2.2.2.2.2.2.1 else w8.1))]:List Ja)).bind fun q37 =>
 some (.inl ((IntKind.wrap .i64 (w8.1 - (if x32.2.2.2.2.2.2.2.2.1<w8.1 then x32.2.2.2.2.2.2.2.2.1 else w8.1))),(List.set w8.2.2.1 (Int.toNat x27) (y34.1,y34.2.1,y34.2.2.1,y34.2.2.2.1,y34.2.2.2.2.1,y34.2.2.2.2.2.1,y34.2.2.2.2.2.2.1,y34.2.2.2.2.2.2.2.1,(IntKind.wrap .i64 (x33.2.2.2.2.2.2.2.2.1 - (if x32.2.2.2.2.2.2.2.2.1<w8.1 then x32.2.2.2.2.2.2.2.2.1 else w8.1))),y34.2.2.2.2.2.2.2.2.2.1,y34.2.2.2.2.2.2.2.2.2.2)),q37)):Option ((Int×(List Qd)×(List Ja))⊕(Int×(List Qd)×(List Ja)))).bind fun
 | .inl w38 =>
  some (.inl (w38.1,(IntKind.wrap .i64 (w8.2.1+1)),w38.2.1,w38.2.2))
 | .inr w41 =>
  some (.inr (w41.1,w41.2.1,w41.2.2))
 else
 some (.inr (w8.1,w8.2.2.1,w8.2.2.2))
def Qc8(N:Nat)(x0:(List Qd))(x1:Int)(x2:Int)(x3:Int)(x4:Str)(x5:Bool)(x6:Int)(x7:Int):Option (Int×(List Qd)×(List Ja)) :=
 (Pq N x0).bind fun r1 =>
 (Qf5 N x0 0 (List.length x0:Int)).bind fun r2 =>
 (Qf (Qc7 N r2 x0 x1 x2 x3 x4 x5 x6) N ((if 0>x7 then 0 else x7),0,r1,([]:List Ja))).bind fun w44 =>
 some (w44.1,w44.2.1,w44.2.2)
def Ps(N:Nat)(x0:Qw)(x1:Qb)(x2:Str)(x3:Bool):Option (Int×(List Qd)×(List Qp)×(List Qi)×(List Ja)) :=
 (H1 N x0).bind fun w1 =>
 (Qc8 N x0.1 x1.2.2.1 x1.2.2.2.1 x1.2.1 x2 x3 x1.2.2.2.2.2.2.1 x1.2.2.2.2.2.2.2.1).bind fun w4 =>
 some (w4.1,w4.2.1,w1.2.1,w1.2.2,w4.2.2)
def M5(N:Nat)(cx:Qz)(dg:Qw)(cq:Qb)(g8:Q7)(g9:Qm)(gk:Str)(gm:Int)(gn:Bool)(gq:(List Qq))(du:Int)(dv:Qb)(dw:Int)(dy:Str)(dz:Int)(dl:Str)(g5:Int)(dx:Int)(dq:Int)(g6:Int)(g7:Int)(ce:(List Qt))(cd:(List Je))(cg:(List Qk))(ci:(List Ja))(cj:(List Qo))(ck:(List Q3)):Option (Qz×Qb×Q7×Qm×Str×Int×Bool×(List Qq)×Int×Qb×Int×Str×Int×Str×Int×Int×Int×Int×Int×(List Qd)×(List Qp)×(List Qi)×(List Qt)×(List Je)×(List Qk)×(List Ja)×(List Qo)×(List Q3)) :=
 (Ik N cx.1 dg cq.2.2.1 cq.2.2.2.2.2.2.1).bind fun w1 =>
 (M3 N cx.1 cx.2.2.1 (w1.1,w1.2.1,w1.2.2) cq.2.2.1 cq.2.2.2.2.2.2.1).bind fun w4 =>
 (Ps N (w4.1,w4.2.1,w4.2.2) cq dl g8.2.2.2.2).bind fun w7 =>
 some (cx,cq,g8,g9,gk,gm,gn,gq,(IntKind.wrap .i64 (cq.2.2.2.2.2.2.2.1 - w7.1)),dv,dw,dy,dz,dl,g5,dx,dq,g6,g7,w7.2.1,w7.2.2.1,w7.2.2.2.1,ce,cd,cg,w7.2.2.2.2,cj,ck)
def M6(N:Nat)(x0:Qb)(x1:Int):Option (Bool) :=
 if((((decide (x1<0))||(decide (x0.2.2.2.2.2.2.2.1>1099511627776)))||(decide (x0.2.2.2.2.2.2.2.1≤x1)))||(decide (x0.2.2.2.2.2.2.1<0)))||(decide (x0.2.2.2.2.2.2.1≥12622780800))then
 some false
 else
 some ((x0.2.1 != 1)||((decide (x0.2.2.2.2.2.2.2.1≤604800))&&(decide ((IntKind.wrap .i64 (x0.2.2.2.2.2.2.1+x0.2.2.2.2.2.2.2.1))≤12622780800))))
def Qf6(N:Nat)(x0:Str):(Int)→Option ((Int)⊕((Unit)⊕(Bool))):=fun v1 =>
 if decide (v1<(List.length x0:Int))then
 (B5 x0 v1).bind fun c2 =>
 if((decide (c2<97))||(decide (c2>122)))&&((v1==0)||((c2 != 45)&&((decide (c2<48))||(decide (c2>57)))))then
 some (.inr (.inr false))
 else
 some (.inl (IntKind.wrap .i64 (v1+1)))
 else
 some (.inr (.inl ()))
def Qg3(N:Nat)(x0:Str):Option (Bool) :=
 (Qf (Qf6 N x0) N 0).bind fun
 | .inl _ =>
  some ((decide ((List.length x0:Int)≥1))&&(decide ((List.length x0:Int)≤24)))
 | .inr v3 =>
  some v3
def Pt(N:Nat)(x0:Qt)(ca:Qt):Option (Bool) :=
 some (x0.1==ca.1)
def Xv(N:Nat)(x0:(List Qt))(ca:Qt):(Int)→Option ((Int)⊕((Unit)⊕(Int))):=fun v1 =>
 if decide (v1<(List.length x0:Int))then
 (idx x0 v1).bind fun x2 =>
 (Pt N x2 ca).bind fun r3 =>
 if r3 then
 some (.inr (.inr v1))
 else
 some (.inl (IntKind.wrap .i64 (v1+1)))
 else
 some (.inr (.inl ()))
def Zo(N:Nat)(x0:(List Qt))(ca:Qt):Option (Int) :=
 (Qf (Xv N x0 ca) N 0).bind fun
 | .inl _ =>
  some (-1)
 | .inr v4 =>
  some v4
def Ui(N:Nat)(x0:(List Qt))(ca:Qt):Option (Bool) :=
 (Zo N x0 ca).bind fun r1 =>
 some (decide (r1≥0))
def Qc9(N:Nat)(x0:(List Kf)):(Int)→Option ((Int)⊕((Unit)⊕(Int))):=fun v1 =>
 if decide (v1<(List.length x0:Int))then
 (idx x0 v1).bind fun x2 =>
 if((((decide (x2.1<1))||(decide (x2.1>255)))||(decide (x2.2.1<0)))||(decide (x2.2.1≥x2.2.2)))||(decide (x2.2.2>1440))then
 some (.inr (.inr 6))
 else
 some (.inl (IntKind.wrap .i64 (v1+1)))
 else
 some (.inr (.inl ()))
def Qda(N:Nat)(x0:(List Kf)):Option (Int) :=
 if(List.length x0:Int)==0 then
 some 8
 else
 if decide ((List.length x0:Int)>64)then
 some 5
 else
 (Qf (Qc9 N x0) N 0).bind fun
 | .inl _ =>
  some 0
 | .inr v3 =>
  some v3
def Qdb(N:Nat)(x0:(List Qt)):(Int)→Option ((Int)⊕((Unit)⊕(Int))):=fun v1 =>
 if decide (v1<(List.length x0:Int))then
 ((idx x0 v1).bind fun x2 =>
 (Qg3 N x2.1).bind fun r3 =>
 if !r3 then
 some (.inr 8)
 else
 (slc x0 0 v1).bind fun s4 =>
 (Ui N s4 x2).bind fun r5 =>
 if r5 then
 some (.inr 10)
 else
 if v1==(IntKind.wrap .i64 ((List.length x0:Int) - 1))then
 if decide ((List.length x2.2:Int)>0)then
 some (.inr 8)
 else
 some (.inl ())
 else
 (Qda N x2.2).bind fun r6 =>
 if r6 != 0 then
 some (.inr r6)
 else
 some (.inl ()):Option ((Unit)⊕(Int))).bind fun
 | .inl _ =>
  some (.inl (IntKind.wrap .i64 (v1+1)))
 | .inr v7 =>
  some (.inr (.inr v7))
 else
 some (.inr (.inl ()))
def Dq(N:Nat)(x0:(List Qt)):Option (Int) :=
 if(List.length x0:Int)==0 then
 some 8
 else
 if decide ((List.length x0:Int)>64)then
 some 5
 else
 (Qf (Qdb N x0) N 0).bind fun
 | .inl _ =>
  some 0
 | .inr v8 =>
  some v8
def I4(N:Nat)(x0:(List Int))(x1:Int):(Int)→Option ((Int)⊕((Unit)⊕(Int))):=fun v1 =>
 if decide (v1<(List.length x0:Int))then
 (idx x0 v1).bind fun x2 =>
 if x1==x2 then
 some (.inr (.inr v1))
 else
 some (.inl (IntKind.wrap .i64 (v1+1)))
 else
 some (.inr (.inl ()))
def Cq(N:Nat)(x0:(List Int))(x1:Int):Option (Int) :=
 (Qf (I4 N x0 x1) N 0).bind fun
 | .inl _ =>
  some (-1)
 | .inr v3 =>
  some v3
def Hw(N:Nat)(x0:(List Int))(x1:Int):Option (Bool) :=
 (Cq N x0 x1).bind fun r1 =>
 some (decide (r1≥0))
def G9(N:Nat)(x0:Int):Option (Int) :=
 if(decide (x0<0))||(decide (x0≥146097))then
 some (-1)
 else
 some (Int.tmod (IntKind.wrap .i64 (x0+5)) 7)
def Qez(N:Nat)(x0:(List Int))(x1:Int):Option (Int) :=
 (Hw N x0 x1).bind fun r1 =>
 if r1 then
 some 128
 else
 (G9 N x1).bind fun r2 =>
 (Jax .i64 1 r2).bind fun n3 =>
 some n3
def Qar(N:Nat)(x0:Kf)(ca:Int)(ce:Int):Option (Bool) :=
 some ((((Go.bits .and .i64 x0.1 ca) != 0)&&(decide (ce≥x0.2.1)))&&(decide (ce<x0.2.2)))
def Xw(N:Nat)(x0:(List Kf))(ca:Int)(ce:Int):(Int)→Option ((Int)⊕((Unit)⊕(Int))):=fun v1 =>
 if decide (v1<(List.length x0:Int))then
 (idx x0 v1).bind fun x2 =>
 (Qar N x2 ca ce).bind fun r3 =>
 if r3 then
 some (.inr (.inr v1))
 else
 some (.inl (IntKind.wrap .i64 (v1+1)))
 else
 some (.inr (.inl ()))
def Zp(N:Nat)(x0:(List Kf))(ca:Int)(ce:Int):Option (Int) :=
 (Qf (Xw N x0 ca ce) N 0).bind fun
 | .inl _ =>
  some (-1)
 | .inr v4 =>
  some v4
def Uj(N:Nat)(x0:(List Kf))(ca:Int)(ce:Int):Option (Bool) :=
 (Zp N x0 ca ce).bind fun r1 =>
 some (decide (r1≥0))
def Qf7(N:Nat)(x0:(List Qt))(x1:Int)(x2:Int):(Int)→Option ((Int)⊕((Unit)⊕(Str))):=fun v1 =>
 if decide (v1<(List.length x0:Int))then
 (idx x0 v1).bind fun x3 =>
 (Uj N x3.2 x1 x2).bind fun r4 =>
 if r4 then
 some (.inr (.inr x3.1))
 else
 some (.inl (IntKind.wrap .i64 (v1+1)))
 else
 some (.inr (.inl ()))
def Qas(N:Nat)(x0:(List Qt))(x1:Int)(x2:Int):Option (Str) :=
 (Qf (Qf7 N x0 x1 x2) N 0).bind fun
 | .inl _ =>
  (idx x0 (IntKind.wrap .i64 ((List.length x0:Int) - 1))).bind fun x5 =>
  some x5.1
 | .inr v6 =>
  some v6
def Qiy(N:Nat)(x0:(List Qt))(x1:(List Int))(x2:Int):Option (Str) :=
 (Dq N x0).bind fun r1 =>
 if((r1 != 0)||(decide (x2<0)))||(decide (x2≥12622780800))then
 some ([]:Str)
 else
 (Qez N x1 (IntKind.wrap .i64 (Int.tdiv x2 86400))).bind fun r2 =>
 (Qas N x0 r2 (IntKind.wrap .i64 (Int.tdiv (Int.tmod x2 86400) 60))).bind fun r3 =>
 some r3
def Qbq(N:Nat)(x3:Qt)(x1:Int):(Int×(List Int))→Option ((Int×(List Int))⊕(((List Int)))):=fun w4 =>
 if decide (w4.1<(List.length x3.2:Int))then
 ((idx x3.2 w4.1).bind fun x7 =>
 if(Go.bits .and .i64 x7.1 x1) != 0 then
 (app 8 w4.2 ([x7.2.1,x7.2.2]:List Int)).bind fun q8 =>
 some q8
 else
 some w4.2:Option (((List Int)))).bind fun v9 =>
 some (.inl ((IntKind.wrap .i64 (w4.1+1)),v9))
 else
 some (.inr w4.2)
def Qbr(N:Nat)(x0:(List Qt))(x1:Int):(Int×(List Int))→Option ((Int×(List Int))⊕(((List Int)))):=fun w1 =>
 if decide (w1.1<(List.length x0:Int))then
 (idx x0 w1.1).bind fun x3 =>
 (Qf (Qbq N x3 x1) N (0,w1.2)).bind fun v10 =>
 some (.inl ((IntKind.wrap .i64 (w1.1+1)),v10))
 else
 some (.inr w1.2)
def Qat(N:Nat)(x0:(List Qt))(x1:Int):Option ((List Int)) :=
 (Qf (Qbr N x0 x1) N (0,([0]:List Int))).bind fun v11 =>
 (Qu7 v11).bind fun r12 =>
 (R9 r12).bind fun r13 =>
 (Qu8 (fun m=>decide (m≥1440)) r13).bind fun r14 =>
 some r14
def Qiz(N:Nat)(r9:(List Int))(v6:Int)(x2:Qa)(x0:(List Qt))(r8:Int):(Int×(List Z3))→Option ((Int×(List Z3))⊕(((List Z3)))):=fun w11 =>
 if decide (w11.1<(List.length r9:Int))then
 ((idx r9 w11.1).bind fun _ =>
 (idx r9 w11.1).bind fun x26 =>
 (if decide ((IntKind.wrap .i64 (w11.1+1))<(List.length r9:Int))then
 (idx r9 (IntKind.wrap .i64 (w11.1+1))).bind fun _ =>
 (idx r9 (IntKind.wrap .i64 (w11.1+1))).bind fun x32 =>
 some ((IntKind.wrap .i64 ((IntKind.wrap .i64 (v6*86400))+(IntKind.wrap .i64 (60*x26)))),(IntKind.wrap .i64 ((IntKind.wrap .i64 (v6*86400))+(IntKind.wrap .i64 (60*x32)))))
 else
 some ((IntKind.wrap .i64 ((IntKind.wrap .i64 (v6*86400))+(IntKind.wrap .i64 (60*x26)))),(IntKind.wrap .i64 ((IntKind.wrap .i64 (v6+1))*86400))):Option ((Qa))).bind fun v35 =>
 (U9 N v35 x2).bind fun w36 =>
 if !w36.2 then
 some w11.2
 else
 (Qas N x0 r8 x26).bind fun r38 =>
 (if decide ((IntKind.wrap .i64 ((List.length w11.2:Int) - 1))≥0)then
 (idx w11.2 (IntKind.wrap .i64 ((List.length w11.2:Int) - 1))).bind fun _ =>
 (idx w11.2 (IntKind.wrap .i64 ((List.length w11.2:Int) - 1))).bind fun x40 =>
 some (x40.1==r38)
 else
 some false:Option (Bool)).bind fun v41 =>
 if v41 then
 (idx w11.2 (IntKind.wrap .i64 ((List.length w11.2:Int) - 1))).bind fun _ =>
 (idx w11.2 (IntKind.wrap .i64 ((List.length w11.2:Int) - 1))).bind fun y42 =>
 some (List.set w11.2 (Int.toNat (IntKind.wrap .i64 ((List.length w11.2:Int) - 1))) (y42.1,(y42.2.1,w36.1.2)))
 else
 (app 32 w11.2 ([(r38,w36.1)]:List Z3)).bind fun q43 =>
 some q43:Option (((List Z3)))).bind fun v44 =>
 some (.inl ((IntKind.wrap .i64 (w11.1+1)),v44))
 else
 some (.inr w11.2)
def Qi0(N:Nat)(x2:Qa)(x1:(List Int))(x0:(List Qt)):(Int×(List Z3))→Option ((Int×(List Z3))⊕(((List Z3)))):=fun w6 =>
 if decide (w6.1≤(IntKind.wrap .i64 (Int.tdiv (IntKind.wrap .i64 (x2.2 - 1)) 86400)))then
 (Qez N x1 w6.1).bind fun r8 =>
 (Qat N x0 r8).bind fun r9 =>
 (Qf (Qiz N r9 w6.1 x2 x0 r8) N (0,w6.2)).bind fun v45 =>
 some (.inl ((IntKind.wrap .i64 (w6.1+1)),v45))
 else
 some (.inr w6.2)
def Qk2(N:Nat)(x0:(List Qt))(x1:(List Int))(x2:Qa):Option ((List Z3)) :=
 (Dq N x0).bind fun r1 =>
 (if r1 != 0 then
 some true
 else
 (V6 N x2).bind fun r3 =>
 some (!r3):Option (Bool)).bind fun v4 =>
 if v4||(decide ((IntKind.wrap .i64 (x2.2 - x2.1))>2678400))then
 some ([]:List Z3)
 else
 (Qf (Qi0 N x2 x1 x0) N ((IntKind.wrap .i64 (Int.tdiv x2.1 86400)),([]:List Z3))).bind fun v46 =>
 some v46
def M7(N:Nat)(x0:Je)(ca:Int)(ce:Str)(cd:Str):Option (Bool) :=
 some (((x0.1==ca)&&((x0.2.1==ce)||(x0.2.1==([]:Str))))&&((x0.2.2.1==cd)||(x0.2.2.1==([]:Str))))
def Qbs(N:Nat)(x0:Ql)(x1:Int)(x2:Str)(x3:Str):(Int×Int×Str×Str×Int)→Option ((Int×Int×Str×Str×Int)⊕((Int×Str×Str×Int)⊕(Bool×Int×Str×Str×Int×(List Vt)))):=fun w2 =>
 if decide (w2.1<(List.length x0.2.2.2.2.2.1:Int))then
 (idx x0.2.2.2.2.2.1 w2.1).bind fun x7 =>
 (M7 N x7 x1 x2 x3).bind fun r8 =>
 if r8 then
 (app 24 ([]:List Vt) x7.2.2.2.2).bind fun q9 =>
 some (.inr (.inr (true,x7.1,x7.2.1,x7.2.2.1,x7.2.2.2.1,q9)))
 else
 some (.inl ((IntKind.wrap .i64 (w2.1+1)),w2.2.1,w2.2.2.1,w2.2.2.2.1,w2.2.2.2.2))
 else
 some (.inr (.inl (w2.2.1,w2.2.2.1,w2.2.2.2.1,w2.2.2.2.2)))
def Qau(N:Nat)(x0:Ql)(x1:Int)(x2:Str)(x3:Str):Option (Int×Str×Str×Int×Bool×(List Vt)) :=
 (Qf (Qbs N x0 x1 x2 x3) N (0,0,([]:Str),([]:Str),0)).bind fun
 | .inl w10 =>
  some (0,([]:Str),([]:Str),0,false,([]:List Vt))
 | .inr w14 =>
  some (w14.2.1,w14.2.2.1,w14.2.2.2.1,w14.2.2.2.2.1,w14.1,w14.2.2.2.2.2)
def Om(N:Nat)(x1:(List Int))(x0:Int):(Int)→Option ((Int)⊕((Unit)⊕(Bool))):=fun v1 =>
 if decide (v1<(List.length x1:Int))then
 (idx x1 v1).bind fun x2 =>
 if(decide (x2<0))||(decide (x2>x0))then
 some (.inr (.inr false))
 else
 some (.inl (IntKind.wrap .i64 (v1+1)))
 else
 some (.inr (.inl ()))
def Gp(N:Nat)(x0:Int)(x1:(List Int)):Option (Bool) :=
 (Qf (Om N x1 x0) N 0).bind fun
 | .inl _ =>
  some true
 | .inr v3 =>
  some v3
def I5(N:Nat)(ca:(List Vt)):(Int×Int)→Option ((Int×Int)⊕((Unit)⊕(Int))):=fun w1 =>
 if decide (w1.2<(List.length ca:Int))then
 (idx ca w1.2).bind fun _ =>
 (idx ca w1.2).bind fun x3 =>
 (Gp N 1099511627776 ([x3.1,x3.2.1]:List Int)).bind fun r4 =>
 (if(!r4)||(x3.2.1==0)then
 some true
 else
 (Gp N 1125899906842624 ([x3.2.2]:List Int)).bind fun r6 =>
 some (!r6):Option (Bool)).bind fun v7 =>
 if v7 then
 some (.inr (.inr 6))
 else
 if(x3.1==0) != (w1.2==(IntKind.wrap .i64 ((List.length ca:Int) - 1)))then
 some (.inr (.inr 8))
 else
 if(x3.1 != 0)&&(decide (x3.1≤w1.1))then
 some (.inr (.inr 9))
 else
 some (.inl (x3.1,(IntKind.wrap .i64 (w1.2+1))))
 else
 some (.inr (.inl ()))
def Cr(N:Nat)(ca:(List Vt)):Option (Int) :=
 if(List.length ca:Int)==0 then
 some 8
 else
 if decide ((List.length ca:Int)>64)then
 some 5
 else
 (Qf (I5 N ca) N (0,0)).bind fun
 | .inl _ =>
  some 0
 | .inr v8 =>
  some v8
def M8(N:Nat)(ca:(List Vt))(x1:Int):(Int×Int×Int)→Option ((Int×Int×Int)⊕((Int)⊕(Int×Bool))):=fun w1 =>
 if decide (w1.2.2<(List.length ca:Int))then
 (idx ca w1.2.2).bind fun _ =>
 (idx ca w1.2.2).bind fun x4 =>
 (if x4.1 != 0 then
 some (if x4.1<x1 then x4.1 else x1)
 else
 some x1:Option ((Int))).bind fun v5 =>
 if decide (v5≤w1.2.1)then
 some (.inr (.inl w1.1))
 else
 (Qj3 .i64 (IntKind.wrap .i64 ((IntKind.wrap .i64 ((IntKind.wrap .i64 (v5 - w1.2.1))+x4.2.1)) - 1)) x4.2.1).bind fun n6 =>
 (Qj3 .i64 (IntKind.wrap .i64 (1125899906842624 - w1.1)) n6).bind fun n7 =>
 if decide (x4.2.2>n7)then
 some (.inr (.inr (0,false)))
 else
 some (.inl ((IntKind.wrap .i64 (w1.1+(IntKind.wrap .i64 (n6*x4.2.2)))),v5,(IntKind.wrap .i64 (w1.2.2+1))))
 else
 some (.inr (.inl w1.1))
def Eh(N:Nat)(x1:Int)(ca:(List Vt)):Option (Int×Bool) :=
 (Qf (M8 N ca x1) N (0,0,0)).bind fun
 | .inl v8 =>
  some (v8,true)
 | .inr w9 =>
  some (w9.1,w9.2)
def Ap(N:Nat)(x1:Int)(x2:Int)(ca:(List Vt)):Option (Int×Int) :=
 (Cr N ca).bind fun r1 =>
 if r1 != 0 then
 some (0,8)
 else
 if(((decide (x1<0))||(decide (x2<0)))||(decide (x1>1099511627776)))||(decide (x2>(IntKind.wrap .i64 (1099511627776 - x1))))then
 some (0,6)
 else
 (Eh N (IntKind.wrap .i64 (x1+x2)) ca).bind fun w2 =>
 if !w2.2 then
 some (0,6)
 else
 (Eh N x1 ca).bind fun w4 =>
 some ((IntKind.wrap .i64 (w2.1 - w4.1)),0)
def On(N:Nat)(r7:(List Z3)):(Int×(List Qo))→Option ((Int×(List Qo))⊕(((List Qo)))):=fun w9 =>
 if decide (w9.1<(List.length r7:Int))then
 (idx r7 w9.1).bind fun _ =>
 (idx r7 w9.1).bind fun x11 =>
 (app 40 w9.2 ([(x11.1,x11.2.1,(IntKind.wrap .i64 (x11.2.2 - x11.2.1)),0)]:List Qo)).bind fun q12 =>
 some (.inl ((IntKind.wrap .i64 (w9.1+1)),q12))
 else
 some (.inr w9.2)
def M9(N:Nat)(x0:Ql)(x1:(List Int))(x2:Qb)(x3:Int):Option ((List Qo)) :=
 (M6 N x2 x3).bind fun r1 =>
 (if !r1 then
 some true
 else
 (Dq N x0.2.2.2.2.1).bind fun r3 =>
 some (r3 != 0):Option (Bool)).bind fun v4 =>
 if v4 then
 some ([]:List Qo)
 else
 (if x2.2.1==1 then
 some (IntKind.wrap .i64 (x2.2.2.2.2.2.2.1+x3))
 else
 some x2.2.2.2.2.2.2.1:Option ((Int))).bind fun v5 =>
 if(x2.2.1 != 1)||(!x0.2.2.1)then
 (Qiy N x0.2.2.2.2.1 x1 v5).bind fun r6 =>
 some ([(r6,v5,(IntKind.wrap .i64 (x2.2.2.2.2.2.2.2.1 - x3)),0)]:List Qo)
 else
 (Qk2 N x0.2.2.2.2.1 x1 (v5,(IntKind.wrap .i64 (x2.2.2.2.2.2.2.1+x2.2.2.2.2.2.2.2.1)))).bind fun r7 =>
 (Qf (On N r7) N (0,([]:List Qo))).bind fun v13 =>
 some v13
def Sr(N:Nat)(r3:(List Qo))(x0:Ql)(x2:Qb)(r1:Str):(Int×Int×Int×Int×Int×(List Qo))→Option ((Int×Int×Int×Int×Int×(List Qo))⊕((Int×Int×Int×(List Qo)))):=fun w9 =>
 if decide (w9.2.2.2.2.1<(List.length r3:Int))then
 (idx w9.2.2.2.2.2 w9.2.2.2.2.1).bind fun _ =>
 (idx w9.2.2.2.2.2 w9.2.2.2.2.1).bind fun x15 =>
 (Qau N x0 x2.2.1 r1 x15.1).bind fun w16 =>
 if !w16.2.2.2.2.1 then
 some (.inr (w9.1,w9.2.1,18,w9.2.2.2.2.2))
 else
 (if w9.2.2.2.2.1==0 then
 some w16.2.2.2.1
 else
 some w9.1:Option ((Int))).bind fun v24 =>
 (idx w9.2.2.2.2.2 w9.2.2.2.2.1).bind fun _ =>
 (idx w9.2.2.2.2.2 w9.2.2.2.2.1).bind fun x25 =>
 (Ap N w9.2.2.1 x25.2.2.1 w16.2.2.2.2.2).bind fun w26 =>
 if w26.2 != 0 then
 some (.inr (v24,w9.2.1,w26.2,w9.2.2.2.2.2))
 else
 (idx w9.2.2.2.2.2 w9.2.2.2.2.1).bind fun _ =>
 (idx w9.2.2.2.2.2 w9.2.2.2.2.1).bind fun y28 =>
 (idx (List.set w9.2.2.2.2.2 (Int.toNat w9.2.2.2.2.1) (y28.1,y28.2.1,y28.2.2.1,w26.1)) w9.2.2.2.2.1).bind fun _ =>
 (idx (List.set w9.2.2.2.2.2 (Int.toNat w9.2.2.2.2.1) (y28.1,y28.2.1,y28.2.2.1,w26.1)) w9.2.2.2.2.1).bind fun x29 =>
 some (.inl (v24,(if 1125899906842625<(IntKind.wrap .i64 (w9.2.1+w26.1))then 1125899906842625 else(IntKind.wrap .i64 (w9.2.1+w26.1))),(IntKind.wrap .i64 (w9.2.2.1+x29.2.2.1)),w9.2.2.2.1,(IntKind.wrap .i64 (w9.2.2.2.2.1+1)),(List.set w9.2.2.2.2.2 (Int.toNat w9.2.2.2.2.1) (y28.1,y28.2.1,y28.2.2.1,w26.1))))
 else
 some (.inr (w9.1,w9.2.1,w9.2.2.2.1,w9.2.2.2.2.2))
def Pu(N:Nat)(x0:Ql)(x1:(List Int))(x2:Qb)(x3:Int):Option (Int×Int×(List Qo)) :=
 (Qak N x0.2.2.2.1 x2.2.2.2.2.2.1).bind fun w1 =>
 (M9 N x0 x1 x2 x3).bind fun r3 =>
 (Qf (Sr N r3 x0 x2 w1.1) N (0,0,0,0,0,r3)).bind fun w30 =>
 (if(w30.2.2.1==0)&&(((decide (w30.1<0))||(decide (w30.1>1125899906842624)))||(decide ((IntKind.wrap .i64 (w30.1+w30.2.1))>1125899906842624)))then
 some 6
 else
 some w30.2.2.1:Option ((Int))).bind fun v34 =>
 if v34 != 0 then
 some (0,v34,([]:List Qo))
 else
 some (w30.1,0,w30.2.2.2)
def Oo(N:Nat)(r3:(List Qo)):(Int×Int)→Option ((Int×Int)⊕((Int))):=fun w4 =>
 if decide (w4.2<(List.length r3:Int))then
 ((idx r3 w4.2).bind fun _ =>
 (idx r3 w4.2).bind fun x6 =>
 if decide (w4.1≤1125899906842624)then
 some (IntKind.wrap .i64 (w4.1+x6.2.2.2))
 else
 some w4.1:Option ((Int))).bind fun v7 =>
 some (.inl (v7,(IntKind.wrap .i64 (w4.2+1))))
 else
 some (.inr w4.1)
def Na(N:Nat)(cx:Qz)(cq:Qb)(g8:Q7)(g9:Qm)(gk:Str)(gm:Int)(gn:Bool)(gq:(List Qq))(du:Int)(dv:Qb)(dw:Int)(dy:Str)(dz:Int)(dl:Str)(g5:Int)(dx:Int)(dq:Int)(g6:Int)(g7:Int)(ce:(List Qd))(cd:(List Qp))(cg:(List Qi))(ci:(List Qt))(cj:(List Je))(ck:(List Qk))(cm:(List Ja))(dj:(List Qo))(ge:(List Q3)):Option (Int×Qz×Qb×Q7×Qm×Ql×Int×Qb×Int×Str×Int×Str×Int×Int×Int×Int×Int×(List Qd)×(List Qp)×(List Qi)×(List Ja)×(List Qo)×(List Q3)) :=
 (Pu N (gk,gm,gn,gq,ci,cj,ck) cx.2.2.2.2.1 cq du).bind fun w1 =>
 if w1.2.1 != 0 then
 some (w1.2.1,cx,cq,g8,g9,(gk,gm,gn,gq,ci,cj,ck),du,dv,dw,dy,dz,dl,g5,dx,dq,g6,g7,ce,cd,cg,cm,dj,ge)
 else
 (Qf (Oo N w1.2.2) N (w1.1,0)).bind fun v8 =>
 if decide (v8>1125899906842624)then
 some (6,cx,cq,g8,g9,(gk,gm,gn,gq,ci,cj,ck),du,dv,dw,dy,dz,dl,g5,dx,dq,g6,g7,ce,cd,cg,cm,dj,ge)
 else
 some (0,cx,cq,g8,g9,(gk,gm,gn,gq,ci,cj,ck),du,dv,dw,dy,dz,dl,w1.1,v8,dq,g6,g7,ce,cd,cg,cm,w1.2.2,ge)
def Qg4(N:Nat)(ct:Qz)(cp:Qw)(cw:Qb)(dh:Q7)(di:Qm)(gg:Str)(gi:Int)(gj:Bool)(gr:(List Qq))(cy:Int)(cz:Qb)(d4:Int)(d5:Str)(d6:Int)(d7:Str)(d8:Int)(d9:Int)(da:Int)(db:Int)(de:Int)(cd:(List Qt))(cg:(List Je))(ci:(List Qk))(cj:(List Ja))(ck:(List Qo))(cm:(List Q3)):Option (Int×Qz×Qb×Q7×Qm×Ql×Int×Qb×Int×Str×Int×Str×Int×Int×Int×Int×Int×(List Qd)×(List Qp)×(List Qi)×(List Ja)×(List Qo)×(List Q3)) :=
 (M5 N ct cp cw dh di gg gi gj gr cy cz d4 d5 d6 d7 d8 d9 da db de cd cg ci cj ck cm).bind fun w1 =>
 (Na N w1.1 w1.2.1 w1.2.2.1 w1.2.2.2.1 w1.2.2.2.2.1 w1.2.2.2.2.2.1 w1.2.2.2.2.2.2.1 w1.2.2.2.2.2.2.2.1 w1.2.2.2.2.2.2.2.2.1 w1.2.2.2.2.2.2.2.2.2.1 w1.2.2.2.2.2.2.2.2.2.2.1 w1.2.2.2.2.2.2.2.2.2.2.2.1 w1.2.2.2.2.2.2.2.2.2.2.2.2.1 w1.2.2.2.2.2.2.2.2.2.2.2.2.2.1 w1.2.2.2.2.2.2.2.2.2.2.2.2.2.2.1 w1.2.2.2.2.2.2.2.2.2.2.2.2.2.2.2.1 w1.2.2.2.2.2.2.2.2.2.2.2.2.2.2.2.2.1 w1.2.2.2.2.2.2.2.2.2.2.2.2.2.2.2.2.2.1 w1.2.2.2.2.2.2.2.2.2.2.2.2.2.2.2.2.2.2.1 w1.2.2.2.2.2.2.2.2.2.2.2.2.2.2.2.2.2.2.2.1 w1.2.2.2.2.2.2.2.2.2.2.2.2.2.2.2.2.2.2.2.2.1 w1.2.2.2.2.2.2.2.2.2.2.2.2.2.2.2.2.2.2.2.2.2.1 w1.2.2.2.2.2.2.2.2.2.2.2.2.2.2.2.2.2.2.2.2.2.2.1 w1.2.2.2.2.2.2.2.2.2.2.2.2.2.2.2.2.2.2.2.2.2.2.2.1 w1.2.2.2.2.2.2.2.2.2.2.2.2.2.2.2.2.2.2.2.2.2.2.2.2.1 w1.2.2.2.2.2.2.2.2.2.2.2.2.2.2.2.2.2.2.2.2.2.2.2.2.2.1 w1.2.2.2.2.2.2.2.2.2.2.2.2.2.2.2.2.2.2.2.2.2.2.2.2.2.2.1 w1.2.2.2.2.2.2.2.2.2.2.2.2.2.2.2.2.2.2.2.2.2.2.2.2.2.2.2).bind fun w29 =>
 some (w29.1,w29.2.1,w29.2.2.1,w29.2.2.2.1,w29.2.2.2.2.1,w29.2.2.2.2.2.1,w29.2.2.2.2.2.2.1,w29.2.2.2.2.2.2.2.1,w29.2.2.2.2.2.2.2.2.1,w29.2.2.2.2.2.2.2.2.2.1,w29.2.2.2.2.2.2.2.2.2.2.1,w29.2.2.2.2.2.2.2.2.2.2.2.1,w29.2.2.2.2.2.2.2.2.2.2.2.2.1,w29.2.2.2.2.2.2.2.2.2.2.2.2.2.1,w29.2.2.2.2.2.2.2.2.2.2.2.2.2.2.1,w29.2.2.2.2.2.2.2.2.2.2.2.2.2.2.2.1,w29.2.2.2.2.2.2.2.2.2.2.2.2.2.2.2.2.1,w29.2.2.2.2.2.2.2.2.2.2.2.2.2.2.2.2.2.1,w29.2.2.2.2.2.2.2.2.2.2.2.2.2.2.2.2.2.2.1,w29.2.2.2.2.2.2.2.2.2.2.2.2.2.2.2.2.2.2.2.1,w29.2.2.2.2.2.2.2.2.2.2.2.2.2.2.2.2.2.2.2.2.1,w29.2.2.2.2.2.2.2.2.2.2.2.2.2.2.2.2.2.2.2.2.2.1,w29.2.2.2.2.2.2.2.2.2.2.2.2.2.2.2.2.2.2.2.2.2.2)
def Pv(N:Nat)(ct:Qz)(cp:Qw)(cw:Qb)(dh:Q7)(di:Qm)(gg:Str)(gi:Int)(gj:Bool)(gr:(List Qq))(cy:Int)(cz:Qb)(d4:Int)(d5:Str)(d6:Int)(d7:Str)(d8:Int)(d9:Int)(da:Int)(db:Int)(de:Int)(cd:(List Qt))(cg:(List Je))(ci:(List Qk))(cj:(List Ja))(ck:(List Qo))(cm:(List Q3))(dj:Int):Option (Qz×(List Qd)×(List Qp)×(List Qi)×Qb×Q7×Qm×Str×Int×Bool×(List Qq)×(List Qt)×(List Je)×(List Qk)×Int×Qb×Int×Str×Int×Str×Int×Int×Int×Int×Int×Int×(List Ja)×(List Qo)×(List Q3)) :=
 if dj==0 then
 (Qg4 N ct cp cw dh di gg gi gj gr cy cz d4 d5 d6 d7 d8 d9 da db de cd cg ci cj ck cm).bind fun w1 =>
 some (w1.2.1,w1.2.2.2.2.2.2.2.2.2.2.2.2.2.2.2.2.2.1,w1.2.2.2.2.2.2.2.2.2.2.2.2.2.2.2.2.2.2.1,w1.2.2.2.2.2.2.2.2.2.2.2.2.2.2.2.2.2.2.2.1,w1.2.2.1,w1.2.2.2.1,w1.2.2.2.2.1,w1.2.2.2.2.2.1.1,w1.2.2.2.2.2.1.2.1,w1.2.2.2.2.2.1.2.2.1,w1.2.2.2.2.2.1.2.2.2.1,w1.2.2.2.2.2.1.2.2.2.2.1,w1.2.2.2.2.2.1.2.2.2.2.2.1,w1.2.2.2.2.2.1.2.2.2.2.2.2,w1.2.2.2.2.2.2.1,w1.2.2.2.2.2.2.2.1,w1.2.2.2.2.2.2.2.2.1,w1.2.2.2.2.2.2.2.2.2.1,w1.2.2.2.2.2.2.2.2.2.2.1,w1.2.2.2.2.2.2.2.2.2.2.2.1,w1.2.2.2.2.2.2.2.2.2.2.2.2.1,w1.2.2.2.2.2.2.2.2.2.2.2.2.2.1,w1.2.2.2.2.2.2.2.2.2.2.2.2.2.2.1,w1.2.2.2.2.2.2.2.2.2.2.2.2.2.2.2.1,w1.2.2.2.2.2.2.2.2.2.2.2.2.2.2.2.2.1,w1.1,w1.2.2.2.2.2.2.2.2.2.2.2.2.2.2.2.2.2.2.2.2.1,w1.2.2.2.2.2.2.2.2.2.2.2.2.2.2.2.2.2.2.2.2.2.1,w1.2.2.2.2.2.2.2.2.2.2.2.2.2.2.2.2.2.2.2.2.2.2)
 else
 some (ct,cp.1,cp.2.1,cp.2.2,cw,dh,di,gg,gi,gj,gr,cd,cg,ci,cy,cz,d4,d5,d6,d7,d8,d9,da,db,de,dj,cj,ck,cm)
def Nb(N:Nat)(x0:Int)(x1:Int):Option (Qa) :=
 if(((decide (x0<1))||(decide (x0>28)))||(decide (x1<0)))||(decide (x1≥12622780800))then
 some (0,0)
 else
 (Gm N x0 x1).bind fun r1 =>
 (Ws N x0 r1).bind fun r2 =>
 some r2
def Aq(N:Nat)(cx:Qz)(dg:Qw)(cq:Qb)(g8:Q7)(g9:Qm)(gp:Ql)(du:Int)(dv:Qb)(dw:Int)(dy:Str)(dz:Int)(dl:Str)(g5:Int)(dx:Int)(dq:Int)(g6:Int)(g7:Int)(ce:(List Ja))(cd:(List Qo))(cg:(List Q3)):Option (Int) :=
 (Nb N g9.2.2.1 cq.2.2.2.2.2.2.1).bind fun r1 =>
 some r1.1
def Zb(N:Nat)(x0:Qi)(x1:Qi):(Int)→Option ((Int)⊕((Unit)⊕(Int))):=fun v1 =>
 if decide (v1<3)then
 (idx ([([x0.1,x1.1]:List Int),([x0.2.1,x1.2.1]:List Int),([x0.2.2.1,x1.2.2.1]:List Int)]:List (List Int)) v1).bind fun x2 =>
 (idx x2 0).bind fun _ =>
 (idx x2 0).bind fun x3 =>
 (idx x2 1).bind fun _ =>
 (idx x2 1).bind fun x4 =>
 if decide (x3<x4)then
 some (.inr (.inr (-1)))
 else
 (idx x2 0).bind fun _ =>
 (idx x2 0).bind fun x5 =>
 (idx x2 1).bind fun _ =>
 (idx x2 1).bind fun x6 =>
 if decide (x5>x6)then
 some (.inr (.inr 1))
 else
 some (.inl (IntKind.wrap .i64 (v1+1)))
 else
 some (.inr (.inl ()))
def Xx(N:Nat)(x0:Qi)(x1:Qi):Option (Int) :=
 (Qf (Zb N x0 x1) N 0).bind fun
 | .inl _ =>
  some 0
 | .inr v7 =>
  some v7
def Qdc(N:Nat)(x0:(List Qi))(x1:Int)(x2:Int)(x3:Int):(Int×Qi)→Option ((Int×Qi)⊕((Qi)⊕(Qi))):=fun w2 =>
 if decide (w2.1<(List.length x0:Int))then
 (idx x0 w2.1).bind fun x5 =>
 (Xx N x5 (x1,x2,x3,0,0)).bind fun r6 =>
 if r6==0 then
 some (.inr (.inr x5))
 else
 some (.inl ((IntKind.wrap .i64 (w2.1+1)),w2.2))
 else
 some (.inr (.inl w2.2))
def Qdd(N:Nat)(x0:(List Qi))(x1:Int)(x2:Int)(x3:Int):Option (Qi) :=
 (Qf (Qdc N x0 x1 x2 x3) N (0,(0,0,0,0,0))).bind fun
 | .inl v7 =>
  some (x1,x2,x3,0,0)
 | .inr v8 =>
  some v8
def Lk(N:Nat)(x0:Qb)(x1:Str)(x2:Str)(x3:Qi)(x4:Bool):Option (V5) :=
 if(decide (x0.2.2.2.2.2.2.1<0))||(decide (x0.2.2.2.2.2.2.1≥12622780800))then
 some (x0.2.1,x0.2.2.2.2.2.2.2.1,(-1),0,x3.2.2.2.1,x3.2.2.2.2,x1,x2,x4)
 else
 (idx ([86400,60]:List Int) 0).bind fun _ =>
 (idx ([86400,60]:List Int) 0).bind fun x5 =>
 (Qj3 .i64 x0.2.2.2.2.2.2.1 x5).bind fun n6 =>
 (G9 N n6).bind fun r7 =>
 (idx ([86400,60]:List Int) 0).bind fun _ =>
 (idx ([86400,60]:List Int) 0).bind fun x8 =>
 (Qww x0.2.2.2.2.2.2.1 x8).bind fun n9 =>
 (idx ([86400,60]:List Int) 1).bind fun _ =>
 (idx ([86400,60]:List Int) 1).bind fun x10 =>
 (Qj3 .i64 n9 x10).bind fun n11 =>
 some (x0.2.1,x0.2.2.2.2.2.2.2.1,r7,n11,x3.2.2.2.1,x3.2.2.2.2,x1,x2,x4)
def Kw(N:Nat)(x0:Int):Option (Int) :=
 if((x0==1)||(x0==2))||(x0==3)then
 some 0
 else
 if x0==4 then
 some 1
 else
 if(decide (x0>4))&&(decide (x0<16))then
 some 2
 else
 some (-1)
def Yc(N:Nat)(x0:Str):Option (Int) :=
 (if x0==([107,105,110,100]:Str)then
 some (x0==([107,105,110,100]:Str))
 else
 if x0==([117,110,105,116,115]:Str)then
 some (x0==([117,110,105,116,115]:Str))
 else
 if x0==([119,101,101,107,100,97,121]:Str)then
 some (x0==([119,101,101,107,100,97,121]:Str))
 else
 if x0==([109,105,110,117,116,101]:Str)then
 some (x0==([109,105,110,117,116,101]:Str))
 else
 if x0==([116,111,116,97,108]:Str)then
 some (x0==([116,111,116,97,108]:Str))
 else
 some (x0==([115,112,101,110,116]:Str)):Option ((Bool))).bind fun v1 =>
 if v1 then
 some 1
 else
 (if x0==([122,111,110,101]:Str)then
 some (x0==([122,111,110,101]:Str))
 else
 some (x0==([98,97,110,100]:Str)):Option ((Bool))).bind fun v2 =>
 if v2 then
 some 2
 else
 if x0==([102,97,109,105,108,121]:Str)then
 some 3
 else
 some 0
def Cs(N:Nat)(x0:Int)(x1:(List Int)):Option (Int×Int) :=
 (idx x1 0).bind fun _ =>
 (idx x1 0).bind fun x2 =>
 (idx x1 1).bind fun _ =>
 (idx x1 1).bind fun x3 =>
 (if x0==4 then
 some (3,(x2==3))
 else
 (if x0==5 then
 some (x0==5)
 else
 some (x0==6):Option ((Bool))).bind fun v4 =>
 if v4 then
 some (3,((x2==3)&&(x3==3)))
 else
 (if x0==7 then
 some (x0==7)
 else
 some (x0==8):Option ((Bool))).bind fun v5 =>
 if v5 then
 some (3,((x2==x3)&&(x2 != 3)))
 else
 (if x0==9 then
 some (x0==9)
 else
 some (x0==10):Option ((Bool))).bind fun v6 =>
 if v6 then
 some (3,((x2==1)&&(x3==1)))
 else
 some (1,((x2==1)&&(x3==1))):Option ((Int×Bool))).bind fun w7 =>
 if !w7.2 then
 some (0,7)
 else
 some (w7.1,0)
def Qbt(N:Nat)(self:Qj→Int →  Option (Int×Int))(x0:Qj)(x1:Int):(Int×(List Int))→Option ((Int×(List Int))⊕(((List Int))⊕(Int×Int))):=fun w5 =>
 if decide (w5.1<(List.length x0.ks:Int))then
 (idx x0.ks w5.1).bind fun x7 =>
 (self x7 (IntKind.wrap .i64 (x1+1))).bind fun w8 =>
 if w8.2 != 0 then
 some (.inr (.inr (0,w8.2)))
 else
 (idx w5.2 w5.1).bind fun _ =>
 (idx w5.2 w5.1).bind fun x10 =>
 some (.inl ((IntKind.wrap .i64 (w5.1+1)),(List.set w5.2 (Int.toNat w5.1) w8.1)))
 else
 some (.inr (.inl w5.2))
def V7(N:Nat):Nat→Qj→Int→Option (Int×Int)
 | 0,_,_=>none
 | n+1,x0,x1 =>
  if decide (x1>16)then
  some (0,24)
  else
  (Kw N x0.x.1).bind fun r1 =>
  if r1 != (List.length x0.ks:Int)then
  some (0,7)
  else
  if x0.x.1==1 then
  (Gp N 1099511627776 ([x0.x.2.1]:List Int)).bind fun r2 =>
  if !r2 then
  some (0,6)
  else
  some (1,0)
  else
  if x0.x.1==2 then
  if decide ((List.length x0.x.2.2:Int)>200)then
  some (0,5)
  else
  some (2,0)
  else
  if x0.x.1==3 then
  (Yc N x0.x.2.2).bind fun r3 =>
  if r3 != 0 then
  some (r3,0)
  else
  some (0,11)
  else
  (Qf (Qbt N (V7 N n) x0 x1) N (0,(List.replicate 2 0))).bind fun
  | .inl v11 =>
   (Cs N x0.x.1 v11).bind fun w12 =>
   some (w12.1,w12.2)
  | .inr w14 =>
   some (w14.1,w14.2)
def Qav(N:Nat)(x0:Qj)(x1:Int):Option (Int×Int):=V7 N N x0 x1
def Ha(N:Nat)(x0:Qj):Option (Int×Int) :=
 (Qav N x0 1).bind fun w1 =>
 some (w1.1,w1.2)
def Uq(N:Nat)(self:Qj→V5 →  Option (Bool))(x0:Int)(ca:Qj)(ce:V5):Option (Bool) :=
 (idx ca.ks x0).bind fun x1 =>
 (self x1 ce).bind fun r2 =>
 some r2
def Qe0(N:Nat)(x0:Qj)(x1:V5):Option (Str) :=
 if x0.x.1==2 then
 some x0.x.2.2
 else
 if x0.x.2.2==([122,111,110,101]:Str)then
 some x1.2.2.2.2.2.2.1
 else
 some x1.2.2.2.2.2.2.2.1
def Fp(N:Nat)(x0:Int):Option (Int×Bool) :=
 if(decide (x0<(-4611686018427387904)))||(decide (x0>4611686018427387904))then
 some (0,false)
 else
 some (x0,true)
def Nc(N:Nat)(x0:Str)(x1:V5):Option (Int) :=
 if x0==([107,105,110,100]:Str)then
 some x1.1
 else
 if x0==([117,110,105,116,115]:Str)then
 some x1.2.1
 else
 if x0==([119,101,101,107,100,97,121]:Str)then
 some x1.2.2.1
 else
 if x0==([109,105,110,117,116,101]:Str)then
 some x1.2.2.2.1
 else
 if x0==([116,111,116,97,108]:Str)then
 some x1.2.2.2.2.1
 else
 some x1.2.2.2.2.2.1
def X8(N:Nat)(self:Qj→V5 →  Option (Int×Bool))(x0:Int)(ca:Qj)(ce:V5):Option (Int×Bool) :=
 (idx ca.ks x0).bind fun x1 =>
 (self x1 ce).bind fun w2 =>
 some (w2.1,w2.2)
def Qi1(N:Nat)(x0:Int)(x1:Int):Option (Int×Bool) :=
 if((decide (x1>0))&&(decide (x0>(IntKind.wrap .i64 (4611686018427387904 - x1)))))||((decide (x1<0))&&(decide (x0<(IntKind.wrap .i64 ((-4611686018427387904) - x1)))))then
 some (0,false)
 else
 some ((IntKind.wrap .i64 (x0+x1)),true)
def Ll(N:Nat)(x0:Int)(x1:Int):Option (Int×Bool) :=
 if(x0==0)||(x1==0)then
 some (0,true)
 else
 (Qj3 .i64 4611686018427387904 (if(IntKind.wrap .i64 (0 - x1))>x1 then(IntKind.wrap .i64 (0 - x1))else x1)).bind fun n1 =>
 if decide ((if(IntKind.wrap .i64 (0 - x0))>x0 then(IntKind.wrap .i64 (0 - x0))else x0)>n1)then
 some (0,false)
 else
 some ((IntKind.wrap .i64 (x0*x1)),true)
def Ut(N:Nat):Nat→Qj→V5→Option (Int×Bool)
 | 0,_,_=>none
 | n+1,x0,x1 =>
  if x0.x.1==1 then
  (Fp N x0.x.2.1).bind fun w1 =>
  some (w1.1,w1.2)
  else
  if x0.x.1==3 then
  (Nc N x0.x.2.2 x1).bind fun r3 =>
  (Fp N r3).bind fun w4 =>
  some (w4.1,w4.2)
  else
  (X8 N (Ut N n) 0 x0 x1).bind fun w6 =>
  (X8 N (Ut N n) 1 x0 x1).bind fun w8 =>
  if(!w6.2)||(!w8.2)then
  some (0,false)
  else
  (if x0.x.1==12 then
  some (.inl (IntKind.wrap .i64 (0 - w8.1)))
  else
  if x0.x.1==11 then
  some (.inl w8.1)
  else
  if x0.x.1==13 then
  some (.inr (.inr w8.1))
  else
  some (.inr (.inl w8.1)):Option ((Int)⊕(Int)⊕(Int))).bind fun
  | .inl v10 =>
   (Qi1 N w6.1 v10).bind fun w11 =>
   some (w11.1,w11.2)
  | .inr (.inl v13) =>
   if v13==0 then
   some (0,false)
   else
   if x0.x.1==14 then
   (Qj3 .i64 w6.1 v13).bind fun n14 =>
   (Fp N n14).bind fun w15 =>
   some (w15.1,w15.2)
   else
   (Qww w6.1 v13).bind fun n17 =>
   (Fp N n17).bind fun w18 =>
   some (w18.1,w18.2)
  | .inr (.inr v20) =>
   (Ll N w6.1 v20).bind fun w21 =>
   some (w21.1,w21.2)
def Qde(N:Nat)(x0:Qj)(x1:V5):Option (Int×Bool):=Ut N N x0 x1
def Lm(N:Nat)(x0:Qj)(x1:V5):Option (Int×Bool) :=
 (idx x0.ks 0).bind fun x2 =>
 (Ha N x2).bind fun w3 =>
 if w3.1==2 then
 (idx x0.ks 0).bind fun x5 =>
 (Qe0 N x5 x1).bind fun r6 =>
 (idx x0.ks 1).bind fun x7 =>
 (Qe0 N x7 x1).bind fun r8 =>
 if Op.bytesLess r6 r8 then
 some ((-1),true)
 else
 if !(Op.bytesLess r6 r8||r6==r8)then
 some (1,true)
 else
 some (0,true)
 else
 (idx x0.ks 0).bind fun x9 =>
 (Qde N x9 x1).bind fun w10 =>
 (idx x0.ks 1).bind fun x12 =>
 (Qde N x12 x1).bind fun w13 =>
 if(!w10.2)||(!w13.2)then
 some (0,false)
 else
 if decide (w10.1<w13.1)then
 some ((-1),true)
 else
 if decide (w10.1>w13.1)then
 some (1,true)
 else
 some (0,true)
def Yl(N:Nat):Nat→Qj→V5→Option (Bool)
 | 0,_,_=>none
 | n+1,x0,x1 =>
  if x0.x.1==3 then
  some x1.2.2.2.2.2.2.2.2
  else
  if x0.x.1==4 then
  (Uq N (Yl N n) 0 x0 x1).bind fun r1 =>
  some (!r1)
  else
  if x0.x.1==5 then
  (Uq N (Yl N n) 0 x0 x1).bind fun r2 =>
  (if r2 then
  (Uq N (Yl N n) 1 x0 x1).bind fun r4 =>
  some r4
  else
  some false:Option (Bool)).bind fun v5 =>
  some v5
  else
  if x0.x.1==6 then
  (Uq N (Yl N n) 0 x0 x1).bind fun r6 =>
  (if r6 then
  some true
  else
  (Uq N (Yl N n) 1 x0 x1).bind fun r8 =>
  some r8:Option (Bool)).bind fun v9 =>
  some v9
  else
  (Lm N x0 x1).bind fun w10 =>
  if !w10.2 then
  some false
  else
  if x0.x.1==7 then
  some (w10.1==0)
  else
  if x0.x.1==8 then
  some (w10.1 != 0)
  else
  if x0.x.1==9 then
  some (decide (w10.1<0))
  else
  some (decide (w10.1≤0))
def Qf8(N:Nat)(x0:Qj)(x1:V5):Option (Bool):=Yl N N x0 x1
def Qg5(N:Nat)(x0:Qj)(x1:V5):Option (Bool) :=
 (Ha N x0).bind fun w1 =>
 if(w1.2 != 0)||(w1.1 != 3)then
 some false
 else
 (Qf8 N x0 x1).bind fun r3 =>
 some r3
def Ct(N:Nat)(x0:Qk)(ca:V5):Option (Bool) :=
 (Qg5 N x0.2.1 ca).bind fun r1 =>
 some r1
def Ss(N:Nat)(x1:Int)(x0:Int)(x2:Int):(Int×Int×Int)→Option ((Int×Int×Int)⊕((Int×Int)⊕(Int×Int))):=fun w1 =>
 if decide (w1.2.2≥0)then
 ((Jaw .i64 x1 w1.2.2).bind fun n4 =>
 if(Go.bits .and .i64 n4 1)==1 then
 (Qj3 .i64 x0 x2).bind fun n5 =>
 (Qww x0 x2).bind fun n6 =>
 some ((IntKind.wrap .i64 ((IntKind.wrap .i64 (2*w1.1))+n5)),(IntKind.wrap .i64 ((IntKind.wrap .i64 (2*w1.2.1))+n6)))
 else
 some ((IntKind.wrap .i64 (2*w1.1)),(IntKind.wrap .i64 (2*w1.2.1))):Option ((Int×Int))).bind fun w7 =>
 (Qj3 .i64 w7.2 x2).bind fun n9 =>
 (Qww w7.2 x2).bind fun n10 =>
 if decide ((IntKind.wrap .i64 (w7.1+n9))>2251799813685248)then
 some (.inr (.inr ((IntKind.wrap .i64 (w7.1+n9)),0)))
 else
 some (.inl ((IntKind.wrap .i64 (w7.1+n9)),n10,(IntKind.wrap .i64 (w1.2.2 - 1))))
 else
 some (.inr (.inl (w1.1,w1.2.1)))
def Pw(N:Nat)(x0:Int)(x1:Int)(x2:Int):Option (Int×Int) :=
 (Qf (Ss N x1 x0 x2) N (0,0,62)).bind fun
 | .inl w11 =>
  some (w11.1,w11.2)
 | .inr w13 =>
  some (w13.1,w13.2)
def Nd(N:Nat)(x0:Int):Option (Int×Int) :=
 (G7 N x0).bind fun r1 =>
 if !r1 then
 some (0,6)
 else
 some (x0,0)
def Qaw(N:Nat)(x0:Int)(x1:Int)(x2:Int):Option (Int×Int) :=
 (G7 N x0).bind fun r1 =>
 if((((!r1)||(decide (x1<0)))||(decide (x1>1099511627776)))||(decide (x2<1)))||(decide (x2>1099511627776))then
 some (0,6)
 else
 (Pw N (if(IntKind.wrap .i64 (0 - x0))>x0 then(IntKind.wrap .i64 (0 - x0))else x0) x1 x2).bind fun w2 =>
 (if decide (w2.2≥(IntKind.wrap .i64 (x2 - w2.2)))then
 some (IntKind.wrap .i64 (w2.1+1))
 else
 some w2.1:Option ((Int))).bind fun v4 =>
 (if decide (x0<0)then
 some (IntKind.wrap .i64 (0 - v4))
 else
 some v4:Option ((Int))).bind fun v5 =>
 (Nd N v5).bind fun w6 =>
 some (w6.1,w6.2)
def Nf(N:Nat)(x0:Int)(x1:Int):Option (Int×Int) :=
 if(decide (x1<0))||(decide (x1>10000))then
 some (0,6)
 else
 (Qaw N x0 x1 10000).bind fun w1 =>
 some (w1.1,w1.2)
def Oq(N:Nat)(x0:(List Qk))(x1:V5):(Int×Int×(List Q3))→Option ((Int×Int×(List Q3))⊕((Int×(List Q3))⊕(Int×Int))):=fun w3 =>
 if decide (w3.2.1<(List.length x0:Int))then
 ((idx x0 w3.2.1).bind fun x7 =>
 (Ct N x7 x1).bind fun r10 =>
 if !r10 then
 some (.inl (w3.1,w3.2.2))
 else
 (Nf N w3.1 x7.2.2).bind fun w11 =>
 if w11.2 != 0 then
 some (.inr (0,w11.2))
 else
 if w11.1 != 0 then
 (app 24 w3.2.2 ([(x7.1,w11.1)]:List Q3)).bind fun q13 =>
 some (.inl ((IntKind.wrap .i64 (w3.1 - w11.1)),q13))
 else
 some (.inl ((IntKind.wrap .i64 (w3.1 - w11.1)),w3.2.2)):Option ((Int×(List Q3))⊕(Int×Int))).bind fun
 | .inl w14 =>
  some (.inl (w14.1,(IntKind.wrap .i64 (w3.2.1+1)),w14.2))
 | .inr w16 =>
  some (.inr (.inr (w16.1,w16.2)))
 else
 some (.inr (.inl (w3.1,w3.2.2)))
def Ng(N:Nat)(x0:(List Qk))(x1:V5)(x2:Int):Option (Int×Int×(List Q3)) :=
 if(decide (x2<0))||(decide (x2>1125899906842624))then
 some (0,6,([]:List Q3))
 else
 (Qf (Oq N x0 x1) N (x2,0,([]:List Q3))).bind fun
 | .inl w18 =>
  some (w18.1,0,w18.2)
 | .inr w20 =>
  some (w20.1,w20.2,([]:List Q3))
def Fd(N:Nat)(cx:Qz)(dg:Qw)(cq:Qb)(g8:Q7)(g9:Qm)(gp:Ql)(du:Int)(dv:Qb)(dw:Int)(dy:Str)(dz:Int)(dl:Str)(g5:Int)(dx:Int)(dq:Int)(g6:Int)(g7:Int)(ce:(List Ja))(cd:(List Qo))(cg:(List Q3)):Option (Int×Qz×Qw×Qb×Q7×Qm×Ql×Int×Qb×Int×Str×Int×Str×Int×Int×Int×Int×Int×(List Ja)×(List Qo)×(List Q3)) :=
 (Aq N cx dg cq g8 g9 gp du dv dw dy dz dl g5 dx dq g6 g7 ce cd cg).bind fun r1 =>
 (Qdd N dg.2.2 cq.2.2.2.1 cq.2.1 r1).bind fun r2 =>
 (Qiy N gp.2.2.2.2.1 cx.2.2.2.2.1 cq.2.2.2.2.2.2.1).bind fun r3 =>
 (Lk N cq dl r3 r2 g8.2.2.2.2).bind fun r4 =>
 (Ng N gp.2.2.2.2.2.2 r4 dx).bind fun w5 =>
 if w5.2.1 != 0 then
 some (w5.2.1,cx,dg,cq,g8,g9,gp,du,dv,dw,dy,dz,dl,g5,dx,dq,g6,g7,ce,cd,cg)
 else
 some (0,cx,dg,cq,g8,g9,gp,du,dv,dw,dy,dz,dl,g5,dx,w5.1,g6,g7,ce,cd,w5.2.2)
def Qg6(N:Nat)(ct:Qz)(cp:Qw)(cw:Qb)(dh:Q7)(di:Qm)(gc:Ql)(cy:Int)(cz:Qb)(d4:Int)(d5:Str)(d6:Int)(d7:Str)(d8:Int)(d9:Int)(da:Int)(db:Int)(de:Int)(cd:(List Ja))(cg:(List Qo))(ci:(List Q3)):Option (Int×Qz×Qw×Qb×Q7×Qm×Ql×Int×Qb×Int×Str×Int×Str×Int×Int×Int×Int×Int×(List Ja)×(List Qo)×(List Q3)) :=
 (Fd N ct cp cw dh di gc cy cz d4 d5 d6 d7 d8 d9 da db de cd cg ci).bind fun w1 =>
 some (w1.1,w1.2.1,w1.2.2.1,w1.2.2.2.1,w1.2.2.2.2.1,w1.2.2.2.2.2.1,w1.2.2.2.2.2.2.1,w1.2.2.2.2.2.2.2.1,w1.2.2.2.2.2.2.2.2.1,w1.2.2.2.2.2.2.2.2.2.1,w1.2.2.2.2.2.2.2.2.2.2.1,w1.2.2.2.2.2.2.2.2.2.2.2.1,w1.2.2.2.2.2.2.2.2.2.2.2.2.1,w1.2.2.2.2.2.2.2.2.2.2.2.2.2.1,w1.2.2.2.2.2.2.2.2.2.2.2.2.2.2.1,w1.2.2.2.2.2.2.2.2.2.2.2.2.2.2.2.1,w1.2.2.2.2.2.2.2.2.2.2.2.2.2.2.2.2.1,w1.2.2.2.2.2.2.2.2.2.2.2.2.2.2.2.2.2.1,w1.2.2.2.2.2.2.2.2.2.2.2.2.2.2.2.2.2.2.1,w1.2.2.2.2.2.2.2.2.2.2.2.2.2.2.2.2.2.2.2.1,w1.2.2.2.2.2.2.2.2.2.2.2.2.2.2.2.2.2.2.2.2)
def Px(N:Nat)(ct:Qz)(cp:Qw)(cw:Qb)(dh:Q7)(di:Qm)(gc:Ql)(cy:Int)(cz:Qb)(d4:Int)(d5:Str)(d6:Int)(d7:Str)(d8:Int)(d9:Int)(da:Int)(db:Int)(de:Int)(cd:(List Ja))(cg:(List Qo))(ci:(List Q3))(cj:Int):Option (Qz×Qw×Qb×Q7×Qm×Ql×Int×Qb×Int×Str×Int×Str×Int×Int×Int×Int×Int×Int×(List Ja)×(List Qo)×(List Q3)) :=
 if cj==0 then
 (Qg6 N ct cp cw dh di gc cy cz d4 d5 d6 d7 d8 d9 da db de cd cg ci).bind fun w1 =>
 some (w1.2.1,w1.2.2.1,w1.2.2.2.1,w1.2.2.2.2.1,w1.2.2.2.2.2.1,w1.2.2.2.2.2.2.1,w1.2.2.2.2.2.2.2.1,w1.2.2.2.2.2.2.2.2.1,w1.2.2.2.2.2.2.2.2.2.1,w1.2.2.2.2.2.2.2.2.2.2.1,w1.2.2.2.2.2.2.2.2.2.2.2.1,w1.2.2.2.2.2.2.2.2.2.2.2.2.1,w1.2.2.2.2.2.2.2.2.2.2.2.2.2.1,w1.2.2.2.2.2.2.2.2.2.2.2.2.2.2.1,w1.2.2.2.2.2.2.2.2.2.2.2.2.2.2.2.1,w1.2.2.2.2.2.2.2.2.2.2.2.2.2.2.2.2.1,w1.2.2.2.2.2.2.2.2.2.2.2.2.2.2.2.2.2.1,w1.1,w1.2.2.2.2.2.2.2.2.2.2.2.2.2.2.2.2.2.2.1,w1.2.2.2.2.2.2.2.2.2.2.2.2.2.2.2.2.2.2.2.1,w1.2.2.2.2.2.2.2.2.2.2.2.2.2.2.2.2.2.2.2.2)
 else
 some (ct,cp,cw,dh,di,gc,cy,cz,d4,d5,d6,d7,d8,d9,da,db,de,cj,cd,cg,ci)
def Or(N:Nat)(x0:Qp):Option (Int) :=
 (G8 N x0).bind fun r1 =>
 if r1 != 0 then
 some 0
 else
 some (IntKind.wrap .i64 ((IntKind.wrap .i64 (x0.2.1 - x0.2.2.2.1)) - x0.2.2.1))
def Qax(N:Nat)(x0:Qp)(x1:Int):Option (Qp×Int) :=
 (G8 N x0).bind fun r1 =>
 if r1 != 0 then
 (Vf N x0 r1).bind fun w2 =>
 some (w2.1,w2.2)
 else
 (Yr N x1 0 1125899906842624).bind fun r4 =>
 if !r4 then
 (Vf N x0 6).bind fun w5 =>
 some (w5.1,w5.2)
 else
 (Or N x0).bind fun r7 =>
 if decide (x1>r7)then
 (Vf N x0 19).bind fun w8 =>
 some (w8.1,w8.2)
 else
 some ((x0.1,(IntKind.wrap .i64 (x0.2.1 - x1)),x0.2.2.1,x0.2.2.2.1,x0.2.2.2.2),0)
def Dr(N:Nat)(ca:(List Qp)):(Int×(List (Int×Int)))→Option ((Int×(List (Int×Int)))⊕(((List (Int×Int))))):=fun w2 =>
 if decide (w2.1<(List.length ca:Int))then
 ((idx ca w2.1).bind fun _ =>
 (idx ca w2.1).bind fun x5 =>
 if !(Qr (k:=(.int .i64)) x5.1 w2.2).isSome then
 some (Ya (k:=(.int .i64)) x5.1 w2.1 w2.2)
 else
 some w2.2:Option (((List (Int×Int))))).bind fun v6 =>
 some (.inl ((IntKind.wrap .i64 (w2.1+1)),v6))
 else
 some (.inr w2.2)
def Ar(N:Nat)(ca:(List Qp)):Option ((List (Int×Int))) :=
 (Qf (Dr N ca) N (0,([]:List (Int×Int)))).bind fun v7 =>
 some v7
def Qdf(N:Nat)(x0:Qw)(x1:Int)(x2:Int)(x3:Bool):Option (Int×Int×(List Qd)×(List Qp)×(List Qi)) :=
 (H1 N x0).bind fun w1 =>
 (Ar N w1.2.1).bind fun r4 =>
 if((!x3)||(decide (x2≤0)))||(!(Qr (k:=(.int .i64)) x1 r4).isSome)then
 some (0,x2,w1.1,w1.2.1,w1.2.2)
 else
 (idx w1.2.1 ((Qr (k:=(.int .i64)) x1 r4).getD 0)).bind fun _ =>
 (idx w1.2.1 ((Qr (k:=(.int .i64)) x1 r4).getD 0)).bind fun x5 =>
 (Or N x5).bind fun r6 =>
 (idx w1.2.1 ((Qr (k:=(.int .i64)) x1 r4).getD 0)).bind fun _ =>
 (idx w1.2.1 ((Qr (k:=(.int .i64)) x1 r4).getD 0)).bind fun x7 =>
 (Qax N x7 (if 1125899906842624<(if r6<x2 then r6 else x2)then 1125899906842624 else(if r6<x2 then r6 else x2))).bind fun w8 =>
 if w8.2 != 0 then
 some (0,x2,w1.1,w1.2.1,w1.2.2)
 else
 (idx w1.2.1 ((Qr (k:=(.int .i64)) x1 r4).getD 0)).bind fun _ =>
 (idx w1.2.1 ((Qr (k:=(.int .i64)) x1 r4).getD 0)).bind fun y10 =>
 some ((if 1125899906842624<(if r6<x2 then r6 else x2)then 1125899906842624 else(if r6<x2 then r6 else x2)),(IntKind.wrap .i64 (x2 - (if 1125899906842624<(if r6<x2 then r6 else x2)then 1125899906842624 else(if r6<x2 then r6 else x2)))),w1.1,(List.set w1.2.1 (Int.toNat ((Qr (k:=(.int .i64)) x1 r4).getD 0)) w8.1),w1.2.2)
def Su(N:Nat)(x0:Int):(Int)→Option ((Int)⊕((Unit)⊕(Bool))):=fun v1 =>
 if decide (v1<4)then
 (idx ([1,2,3,4]:List Int) v1).bind fun x2 =>
 if x2==x0 then
 some (.inr (.inr true))
 else
 some (.inl (IntKind.wrap .i64 (v1+1)))
 else
 some (.inr (.inl ()))
def Py(N:Nat)(x0:Int):Option (Bool) :=
 (Qf (Su N x0) N 0).bind fun
 | .inl _ =>
  some false
 | .inr v3 =>
  some v3
def Wt(N:Nat)(x0:Qi):Option (Bool) :=
 (if(decide (x0.1≥1))&&(decide (x0.1≤9999))then
 (Py N x0.2.1).bind fun r2 =>
 some r2
 else
 some false:Option (Bool)).bind fun v3 =>
 some ((v3&&(decide (x0.2.2.1≥0)))&&(decide (x0.2.2.1<12622780800)))
def Gq(N:Nat)(x0:Qi):Option (Bool) :=
 some ((((decide (x0.2.2.2.1≥0))&&(decide (x0.2.2.2.1≤1125899906842624)))&&(decide (x0.2.2.2.2≥0)))&&(decide (x0.2.2.2.2≤1125899906842624)))
def Sv(N:Nat)(x0:(List Qi)):(Int)→Option ((Int)⊕((Unit)⊕(Bool))):=fun v1 =>
 if decide (v1<(List.length x0:Int))then
 (idx x0 v1).bind fun x2 =>
 (Wt N x2).bind fun r3 =>
 (if !r3 then
 some true
 else
 (Gq N x2).bind fun r5 =>
 some (!r5):Option (Bool)).bind fun v6 =>
 if v6||((x2.2.2.2.1==0)&&(x2.2.2.2.2==0))then
 some (.inr (.inr false))
 else
 (if decide (v1>0)then
 (idx x0 (IntKind.wrap .i64 (v1 - 1))).bind fun x7 =>
 (Xx N x7 x2).bind fun r8 =>
 some (decide (r8≥0))
 else
 some false:Option ((Bool))).bind fun v9 =>
 if v9 then
 some (.inr (.inr false))
 else
 some (.inl (IntKind.wrap .i64 (v1+1)))
 else
 some (.inr (.inl ()))
def Pz(N:Nat)(x0:(List Qi)):Option (Bool) :=
 (Qf (Sv N x0) N 0).bind fun
 | .inl _ =>
  some true
 | .inr v10 =>
  some v10
def Sw(N:Nat)(ca:(List Qi))(ce:Qi):(Int)→Option ((Int)⊕((Unit)⊕(Int×Int))):=fun v1 =>
 if decide (v1<(List.length ca:Int))then
 (idx ca v1).bind fun x2 =>
 (Xx N x2 ce).bind fun r3 =>
 if r3==0 then
 some (.inr (.inr (v1,(IntKind.wrap .i64 (v1+1)))))
 else
 if r3==1 then
 some (.inr (.inr (v1,v1)))
 else
 some (.inl (IntKind.wrap .i64 (v1+1)))
 else
 some (.inr (.inl ()))
def P0(N:Nat)(ca:(List Qi))(ce:Qi):Option (Int×Int) :=
 (Qf (Sw N ca ce) N 0).bind fun
 | .inl _ =>
  some ((List.length ca:Int),(List.length ca:Int))
 | .inr w4 =>
  some (w4.1,w4.2)
def Qdg(N:Nat)(x0:(List Qi))(x1:Qi):Option (Int×(List Qi)) :=
 (Pz N x0).bind fun r1 =>
 (if !r1 then
 some true
 else
 (Wt N x1).bind fun r3 =>
 some (!r3):Option (Bool)).bind fun v4 =>
 if v4 then
 some (8,([]:List Qi))
 else
 (Gq N x1).bind fun r5 =>
 if !r5 then
 some (6,([]:List Qi))
 else
 (P0 N x0 x1).bind fun w6 =>
 (if decide (w6.2>w6.1)then
 (idx x0 w6.1).bind fun x10 =>
 (idx x0 w6.1).bind fun x11 =>
 some (x1.1,x1.2.1,x1.2.2.1,(IntKind.wrap .i64 (x1.2.2.2.1+x10.2.2.2.1)),(IntKind.wrap .i64 (x1.2.2.2.2+x11.2.2.2.2)))
 else
 some x1:Option ((Qi))).bind fun v12 =>
 (Gq N v12).bind fun r13 =>
 if !r13 then
 some (6,([]:List Qi))
 else
 (slc x0 0 w6.1).bind fun s14 =>
 (app 40 ([]:List Qi) s14).bind fun q15 =>
 (if(v12.2.2.2.1 != 0)||(v12.2.2.2.2 != 0)then
 (app 40 q15 ([v12]:List Qi)).bind fun q17 =>
 some q17
 else
 some q15:Option (((List Qi)))).bind fun v18 =>
 (slc x0 w6.2 (List.length x0:Int)).bind fun s19 =>
 (app 40 v18 s19).bind fun q20 =>
 some (0,q20)
def Qay(N:Nat)(cx:Qz)(dg:Qw)(cq:Qb)(g8:Q7)(g9:Qm)(gp:Ql)(du:Int)(dv:Qb)(dw:Int)(dy:Str)(dz:Int)(dl:Str)(g5:Int)(dx:Int)(dq:Int)(g6:Int)(g7:Int)(ce:(List Ja))(cd:(List Qo))(cg:(List Q3)):Option (Int×Qz×(List Qd)×(List Qp)×(List Qi)×Qb×Q7×Qm×Ql×Int×Qb×Int×Str×Int×Str×Int×Int×Int×Int×Int×(List Ja)×(List Qo)×(List Q3)) :=
 (Qdf N dg cq.2.2.1 dq g9.2.2.2.1).bind fun w1 =>
 (Aq N cx dg cq g8 g9 gp du dv dw dy dz dl g5 dx dq g6 g7 ce cd cg).bind fun r8 =>
 (Qdg N w1.2.2.2.2 (cq.2.2.2.1,cq.2.1,r8,cq.2.2.2.2.2.2.2.1,dq)).bind fun w9 =>
 if w9.1 != 0 then
 some (w9.1,cx,dg.1,dg.2.1,dg.2.2,cq,g8,g9,gp,du,dv,dw,dy,dz,dl,g5,dx,dq,g6,g7,ce,cd,cg)
 else
 some (0,cx,w1.2.2.1,w1.2.2.2.1,w9.2,cq,g8,g9,gp,du,dv,dw,dy,dz,dl,g5,dx,dq,w1.1,w1.2.1,ce,cd,cg)
def Qg7(N:Nat)(ct:Qz)(cp:Qw)(cw:Qb)(dh:Q7)(di:Qm)(gc:Ql)(cy:Int)(cz:Qb)(d4:Int)(d5:Str)(d6:Int)(d7:Str)(d8:Int)(d9:Int)(da:Int)(db:Int)(de:Int)(cd:(List Ja))(cg:(List Qo))(ci:(List Q3)):Option (Int×Qz×Qw×Qb×Q7×Qm×Ql×Int×Qb×Int×Str×Int×Str×Int×Int×Int×Int×Int×(List Ja)×(List Qo)×(List Q3)) :=
 (Qay N ct cp cw dh di gc cy cz d4 d5 d6 d7 d8 d9 da db de cd cg ci).bind fun w1 =>
 some (w1.1,w1.2.1,(w1.2.2.1,w1.2.2.2.1,w1.2.2.2.2.1),w1.2.2.2.2.2.1,w1.2.2.2.2.2.2.1,w1.2.2.2.2.2.2.2.1,w1.2.2.2.2.2.2.2.2.1,w1.2.2.2.2.2.2.2.2.2.1,w1.2.2.2.2.2.2.2.2.2.2.1,w1.2.2.2.2.2.2.2.2.2.2.2.1,w1.2.2.2.2.2.2.2.2.2.2.2.2.1,w1.2.2.2.2.2.2.2.2.2.2.2.2.2.1,w1.2.2.2.2.2.2.2.2.2.2.2.2.2.2.1,w1.2.2.2.2.2.2.2.2.2.2.2.2.2.2.2.1,w1.2.2.2.2.2.2.2.2.2.2.2.2.2.2.2.2.1,w1.2.2.2.2.2.2.2.2.2.2.2.2.2.2.2.2.2.1,w1.2.2.2.2.2.2.2.2.2.2.2.2.2.2.2.2.2.2.1,w1.2.2.2.2.2.2.2.2.2.2.2.2.2.2.2.2.2.2.2.1,w1.2.2.2.2.2.2.2.2.2.2.2.2.2.2.2.2.2.2.2.2.1,w1.2.2.2.2.2.2.2.2.2.2.2.2.2.2.2.2.2.2.2.2.2.1,w1.2.2.2.2.2.2.2.2.2.2.2.2.2.2.2.2.2.2.2.2.2.2)
def P1(N:Nat)(ct:Qz)(cp:Qw)(cw:Qb)(dh:Q7)(di:Qm)(gc:Ql)(cy:Int)(cz:Qb)(d4:Int)(d5:Str)(d6:Int)(d7:Str)(d8:Int)(d9:Int)(da:Int)(db:Int)(de:Int)(cd:(List Ja))(cg:(List Qo))(ci:(List Q3))(cj:Int):Option (Qz×Qw×Qb×Q7×Qm×Ql×Int×Qb×Int×Str×Int×Str×Int×Int×Int×Int×Int×Int×(List Ja)×(List Qo)×(List Q3)) :=
 if cj==0 then
 (Qg7 N ct cp cw dh di gc cy cz d4 d5 d6 d7 d8 d9 da db de cd cg ci).bind fun w1 =>
 some (w1.2.1,w1.2.2.1,w1.2.2.2.1,w1.2.2.2.2.1,w1.2.2.2.2.2.1,w1.2.2.2.2.2.2.1,w1.2.2.2.2.2.2.2.1,w1.2.2.2.2.2.2.2.2.1,w1.2.2.2.2.2.2.2.2.2.1,w1.2.2.2.2.2.2.2.2.2.2.1,w1.2.2.2.2.2.2.2.2.2.2.2.1,w1.2.2.2.2.2.2.2.2.2.2.2.2.1,w1.2.2.2.2.2.2.2.2.2.2.2.2.2.1,w1.2.2.2.2.2.2.2.2.2.2.2.2.2.2.1,w1.2.2.2.2.2.2.2.2.2.2.2.2.2.2.2.1,w1.2.2.2.2.2.2.2.2.2.2.2.2.2.2.2.2.1,w1.2.2.2.2.2.2.2.2.2.2.2.2.2.2.2.2.2.1,w1.1,w1.2.2.2.2.2.2.2.2.2.2.2.2.2.2.2.2.2.2.1,w1.2.2.2.2.2.2.2.2.2.2.2.2.2.2.2.2.2.2.2.1,w1.2.2.2.2.2.2.2.2.2.2.2.2.2.2.2.2.2.2.2.2)
 else
 some (ct,cp,cw,dh,di,gc,cy,cz,d4,d5,d6,d7,d8,d9,da,db,de,cj,cd,cg,ci)
def Ds(N:Nat)(x0:Qz)(x1:Qw)(x2:Qb):Option ((List Qd)×(List Qp)×(List Qi)×Qb×Int×Str×Int×Str×Int×Int×Int×Int×Int×(List Ja)×(List Qo)×(List Q3)) :=
 if x2.2.2.2.2.2.2.2.2.2.1||(x2.2.2.2.2.2.2.2.1==0)then
 (Qaf N x1).bind fun w1 =>
 some (w1.1,w1.2.1,w1.2.2,x2,0,([]:Str),0,([]:Str),0,0,0,0,0,([]:List Ja),([]:List Qo),([]:List Q3))
 else
 (Qgz N x0 x1 x2 (0,0) ([]:Str) false false 0 0 0 false false ([]:Str) 0 false 0 x2 0 ([]:Str) 0 ([]:Str) 0 0 0 0 0 ([]:List Str) ([]:List Int) ([]:List Qq) ([]:List Qt) ([]:List Je) ([]:List Qk) ([]:List Ja) ([]:List Qo) ([]:List Q3) 0).bind fun w4 =>
 (Ph N w4.1 w4.2.1 w4.2.2.1 (w4.2.2.2.1,w4.2.2.2.2.1,w4.2.2.2.2.2.1,w4.2.2.2.2.2.2.1,w4.2.2.2.2.2.2.2.1) (w4.2.2.2.2.2.2.2.2.1,w4.2.2.2.2.2.2.2.2.2.1,w4.2.2.2.2.2.2.2.2.2.2.1,w4.2.2.2.2.2.2.2.2.2.2.2.1,w4.2.2.2.2.2.2.2.2.2.2.2.2.1,w4.2.2.2.2.2.2.2.2.2.2.2.2.2.1) w4.2.2.2.2.2.2.2.2.2.2.2.2.2.2.1 w4.2.2.2.2.2.2.2.2.2.2.2.2.2.2.2.1 w4.2.2.2.2.2.2.2.2.2.2.2.2.2.2.2.2.1 w4.2.2.2.2.2.2.2.2.2.2.2.2.2.2.2.2.2.1 w4.2.2.2.2.2.2.2.2.2.2.2.2.2.2.2.2.2.2.1 w4.2.2.2.2.2.2.2.2.2.2.2.2.2.2.2.2.2.2.2.1 w4.2.2.2.2.2.2.2.2.2.2.2.2.2.2.2.2.2.2.2.2.1 w4.2.2.2.2.2.2.2.2.2.2.2.2.2.2.2.2.2.2.2.2.2.1 w4.2.2.2.2.2.2.2.2.2.2.2.2.2.2.2.2.2.2.2.2.2.2.1 w4.2.2.2.2.2.2.2.2.2.2.2.2.2.2.2.2.2.2.2.2.2.2.2.1 w4.2.2.2.2.2.2.2.2.2.2.2.2.2.2.2.2.2.2.2.2.2.2.2.2.1 w4.2.2.2.2.2.2.2.2.2.2.2.2.2.2.2.2.2.2.2.2.2.2.2.2.2.1 w4.2.2.2.2.2.2.2.2.2.2.2.2.2.2.2.2.2.2.2.2.2.2.2.2.2.2.1 w4.2.2.2.2.2.2.2.2.2.2.2.2.2.2.2.2.2.2.2.2.2.2.2.2.2.2.2.1 w4.2.2.2.2.2.2.2.2.2.2.2.2.2.2.2.2.2.2.2.2.2.2.2.2.2.2.2.2.2.1 w4.2.2.2.2.2.2.2.2.2.2.2.2.2.2.2.2.2.2.2.2.2.2.2.2.2.2.2.2.2.2.1 w4.2.2.2.2.2.2.2.2.2.2.2.2.2.2.2.2.2.2.2.2.2.2.2.2.2.2.2.2.2.2.2.1 w4.2.2.2.2.2.2.2.2.2.2.2.2.2.2.2.2.2.2.2.2.2.2.2.2.2.2.2.2.2.2.2.2.1 w4.2.2.2.2.2.2.2.2.2.2.2.2.2.2.2.2.2.2.2.2.2.2.2.2.2.2.2.2.2.2.2.2.2.1 w4.2.2.2.2.2.2.2.2.2.2.2.2.2.2.2.2.2.2.2.2.2.2.2.2.2.2.2.2.2.2.2.2.2.2.1 w4.2.2.2.2.2.2.2.2.2.2.2.2.2.2.2.2.2.2.2.2.2.2.2.2.2.2.2.2.2.2.2.2.2.2.2 w4.2.2.2.2.2.2.2.2.2.2.2.2.2.2.2.2.2.2.2.2.2.2.2.2.2.2.2.2.1).bind fun w40 =>
 (Pv N w40.1 w40.2.1 w40.2.2.1 w40.2.2.2.1 w40.2.2.2.2.1 w40.2.2.2.2.2.1 w40.2.2.2.2.2.2.1 w40.2.2.2.2.2.2.2.1 w40.2.2.2.2.2.2.2.2.1 w40.2.2.2.2.2.2.2.2.2.1 w40.2.2.2.2.2.2.2.2.2.2.1 w40.2.2.2.2.2.2.2.2.2.2.2.1 w40.2.2.2.2.2.2.2.2.2.2.2.2.1 w40.2.2.2.2.2.2.2.2.2.2.2.2.2.1 w40.2.2.2.2.2.2.2.2.2.2.2.2.2.2.1 w40.2.2.2.2.2.2.2.2.2.2.2.2.2.2.2.1 w40.2.2.2.2.2.2.2.2.2.2.2.2.2.2.2.2.1 w40.2.2.2.2.2.2.2.2.2.2.2.2.2.2.2.2.2.1 w40.2.2.2.2.2.2.2.2.2.2.2.2.2.2.2.2.2.2.1 w40.2.2.2.2.2.2.2.2.2.2.2.2.2.2.2.2.2.2.2.1 w40.2.2.2.2.2.2.2.2.2.2.2.2.2.2.2.2.2.2.2.2.2.1 w40.2.2.2.2.2.2.2.2.2.2.2.2.2.2.2.2.2.2.2.2.2.2.1 w40.2.2.2.2.2.2.2.2.2.2.2.2.2.2.2.2.2.2.2.2.2.2.2.1 w40.2.2.2.2.2.2.2.2.2.2.2.2.2.2.2.2.2.2.2.2.2.2.2.2.1 w40.2.2.2.2.2.2.2.2.2.2.2.2.2.2.2.2.2.2.2.2.2.2.2.2.2.1 w40.2.2.2.2.2.2.2.2.2.2.2.2.2.2.2.2.2.2.2.2.2.2.2.2.2.2 w40.2.2.2.2.2.2.2.2.2.2.2.2.2.2.2.2.2.2.2.2.1).bind fun w67 =>
 (Px N w67.1 (w67.2.1,w67.2.2.1,w67.2.2.2.1) w67.2.2.2.2.1 w67.2.2.2.2.2.1 w67.2.2.2.2.2.2.1 (w67.2.2.2.2.2.2.2.1,w67.2.2.2.2.2.2.2.2.1,w67.2.2.2.2.2.2.2.2.2.1,w67.2.2.2.2.2.2.2.2.2.2.1,w67.2.2.2.2.2.2.2.2.2.2.2.1,w67.2.2.2.2.2.2.2.2.2.2.2.2.1,w67.2.2.2.2.2.2.2.2.2.2.2.2.2.1) w67.2.2.2.2.2.2.2.2.2.2.2.2.2.2.1 w67.2.2.2.2.2.2.2.2.2.2.2.2.2.2.2.1 w67.2.2.2.2.2.2.2.2.2.2.2.2.2.2.2.2.1 w67.2.2.2.2.2.2.2.2.2.2.2.2.2.2.2.2.2.1 w67.2.2.2.2.2.2.2.2.2.2.2.2.2.2.2.2.2.2.1 w67.2.2.2.2.2.2.2.2.2.2.2.2.2.2.2.2.2.2.2.1 w67.2.2.2.2.2.2.2.2.2.2.2.2.2.2.2.2.2.2.2.2.1 w67.2.2.2.2.2.2.2.2.2.2.2.2.2.2.2.2.2.2.2.2.2.1 w67.2.2.2.2.2.2.2.2.2.2.2.2.2.2.2.2.2.2.2.2.2.2.1 w67.2.2.2.2.2.2.2.2.2.2.2.2.2.2.2.2.2.2.2.2.2.2.2.1 w67.2.2.2.2.2.2.2.2.2.2.2.2.2.2.2.2.2.2.2.2.2.2.2.2.1 w67.2.2.2.2.2.2.2.2.2.2.2.2.2.2.2.2.2.2.2.2.2.2.2.2.2.2.1 w67.2.2.2.2.2.2.2.2.2.2.2.2.2.2.2.2.2.2.2.2.2.2.2.2.2.2.2.1 w67.2.2.2.2.2.2.2.2.2.2.2.2.2.2.2.2.2.2.2.2.2.2.2.2.2.2.2.2 w67.2.2.2.2.2.2.2.2.2.2.2.2.2.2.2.2.2.2.2.2.2.2.2.2.2.1).bind fun w96 =>
 (P1 N w96.1 w96.2.1 w96.2.2.1 w96.2.2.2.1 w96.2.2.2.2.1 w96.2.2.2.2.2.1 w96.2.2.2.2.2.2.1 w96.2.2.2.2.2.2.2.1 w96.2.2.2.2.2.2.2.2.1 w96.2.2.2.2.2.2.2.2.2.1 w96.2.2.2.2.2.2.2.2.2.2.1 w96.2.2.2.2.2.2.2.2.2.2.2.1 w96.2.2.2.2.2.2.2.2.2.2.2.2.1 w96.2.2.2.2.2.2.2.2.2.2.2.2.2.1 w96.2.2.2.2.2.2.2.2.2.2.2.2.2.2.1 w96.2.2.2.2.2.2.2.2.2.2.2.2.2.2.2.1 w96.2.2.2.2.2.2.2.2.2.2.2.2.2.2.2.2.1 w96.2.2.2.2.2.2.2.2.2.2.2.2.2.2.2.2.2.2.1 w96.2.2.2.2.2.2.2.2.2.2.2.2.2.2.2.2.2.2.2.1 w96.2.2.2.2.2.2.2.2.2.2.2.2.2.2.2.2.2.2.2.2 w96.2.2.2.2.2.2.2.2.2.2.2.2.2.2.2.2.2.1).bind fun w117 =>
 if w117.2.2.2.2.2.2.2.2.2.2.2.2.2.2.2.2.2.1 != 0 then
 (Qaf N x1).bind fun w138 =>
 some (w138.1,w138.2.1,w138.2.2,x2,w117.2.2.2.2.2.2.2.2.2.2.2.2.2.2.2.2.2.1,([]:Str),0,([]:Str),0,0,0,0,0,([]:List Ja),([]:List Qo),([]:List Q3))
 else
 some (w117.2.1.1,w117.2.1.2.1,w117.2.1.2.2,w117.2.2.2.2.2.2.2.1,w117.2.2.2.2.2.2.2.2.1,w117.2.2.2.2.2.2.2.2.2.1,w117.2.2.2.2.2.2.2.2.2.2.1,w117.2.2.2.2.2.2.2.2.2.2.2.1,w117.2.2.2.2.2.2.2.2.2.2.2.2.1,w117.2.2.2.2.2.2.2.2.2.2.2.2.2.1,w117.2.2.2.2.2.2.2.2.2.2.2.2.2.2.1,w117.2.2.2.2.2.2.2.2.2.2.2.2.2.2.2.1,w117.2.2.2.2.2.2.2.2.2.2.2.2.2.2.2.2.1,w117.2.2.2.2.2.2.2.2.2.2.2.2.2.2.2.2.2.2.1,w117.2.2.2.2.2.2.2.2.2.2.2.2.2.2.2.2.2.2.2.1,w117.2.2.2.2.2.2.2.2.2.2.2.2.2.2.2.2.2.2.2.2)
def Hd(N:Nat)(self:Qj →  Option (Qj))(x0:Qj):(Int×Int×Int×Str×(List Qj))→Option ((Int×Int×Int×Str×(List Qj))⊕((Int×Int×Str×(List Qj)))):=fun w6 =>
 if decide (w6.1<(List.length x0.ks:Int))then
 (idx x0.ks w6.1).bind fun x11 =>
 (self x11).bind fun r12 =>
 (app 56 w6.2.2.2.2 ([r12]:List Qj)).bind fun q13 =>
 some (.inl ((IntKind.wrap .i64 (w6.1+1)),w6.2.1,w6.2.2.1,w6.2.2.2.1,q13))
 else
 some (.inr (w6.2.1,w6.2.2.1,w6.2.2.2.1,w6.2.2.2.2))
def J3(N:Nat):Nat→Qj→Option (Qj)
 | 0,_=>none
 | n+1,x0 =>
  (Qf (Hd N (J3 N n) x0) N (0,x0.x.1,x0.x.2.1,x0.x.2.2,([]:List Qj))).bind fun w14 =>
  some (Kk.mk (w14.1,w14.2.1,w14.2.2.1) w14.2.2.2)
def As(N:Nat)(x0:Qj):Option (Qj):=J3 N N x0
def Wu(N:Nat)(x0:Ql):(Int×Str×Int×Bool×(List Qq))→Option ((Int×Str×Int×Bool×(List Qq))⊕((Str×Int×Bool×(List Qq)))):=fun w6 =>
 if decide (w6.1<(List.length x0.2.2.2.1:Int))then
 (idx x0.2.2.2.1 w6.1).bind fun x11 =>
 (idx x0.2.2.2.1 w6.1).bind fun x12 =>
 (app 16 ([]:List Str) x12.2).bind fun q13 =>
 (app 40 w6.2.2.2.2 ([(x11.1,q13)]:List Qq)).bind fun q14 =>
 some (.inl ((IntKind.wrap .i64 (w6.1+1)),w6.2.1,w6.2.2.1,w6.2.2.2.1,q14))
 else
 some (.inr (w6.2.1,w6.2.2.1,w6.2.2.2.1,w6.2.2.2.2))
def Wv(N:Nat)(x0:Ql):(Int×Str×Int×Bool×(List Qq)×(List Qt))→Option ((Int×Str×Int×Bool×(List Qq)×(List Qt))⊕((Str×Int×Bool×(List Qq)×(List Qt)))):=fun w25 =>
 if decide (w25.1<(List.length x0.2.2.2.2.1:Int))then
 (idx x0.2.2.2.2.1 w25.1).bind fun x31 =>
 (idx x0.2.2.2.2.1 w25.1).bind fun x32 =>
 (app 24 ([]:List Kf) x32.2).bind fun q33 =>
 (app 40 w25.2.2.2.2.2 ([(x31.1,q33)]:List Qt)).bind fun q34 =>
 some (.inl ((IntKind.wrap .i64 (w25.1+1)),w25.2.1,w25.2.2.1,w25.2.2.2.1,w25.2.2.2.2.1,q34))
 else
 some (.inr (w25.2.1,w25.2.2.1,w25.2.2.2.1,w25.2.2.2.2.1,w25.2.2.2.2.2))
def Ww(N:Nat)(x0:Ql):(Int×Str×Int×Bool×(List Qq)×(List Qt)×(List Je))→Option ((Int×Str×Int×Bool×(List Qq)×(List Qt)×(List Je))⊕((Str×Int×Bool×(List Qq)×(List Qt)×(List Je)))):=fun w47 =>
 if decide (w47.1<(List.length x0.2.2.2.2.2.1:Int))then
 (idx x0.2.2.2.2.2.1 w47.1).bind fun x54 =>
 (app 24 ([]:List Vt) x54.2.2.2.2).bind fun q55 =>
 (app 72 w47.2.2.2.2.2.2 ([(x54.1,x54.2.1,x54.2.2.1,x54.2.2.2.1,q55)]:List Je)).bind fun q56 =>
 some (.inl ((IntKind.wrap .i64 (w47.1+1)),w47.2.1,w47.2.2.1,w47.2.2.2.1,w47.2.2.2.2.1,w47.2.2.2.2.2.1,q56))
 else
 some (.inr (w47.2.1,w47.2.2.1,w47.2.2.2.1,w47.2.2.2.2.1,w47.2.2.2.2.2.1,w47.2.2.2.2.2.2))
def Wx(N:Nat)(x0:Ql):(Int×Str×Int×Bool×(List Qq)×(List Qt)×(List Je)×(List Qk))→Option ((Int×Str×Int×Bool×(List Qq)×(List Qt)×(List Je)×(List Qk))⊕((Str×Int×Bool×(List Qq)×(List Qt)×(List Je)×(List Qk)))):=fun w71 =>
 if decide (w71.1<(List.length x0.2.2.2.2.2.2:Int))then
 (idx x0.2.2.2.2.2.2 w71.1).bind fun x79 =>
 (As N x79.2.1).bind fun r80 =>
 (app 80 w71.2.2.2.2.2.2.2 ([(x79.1,r80,x79.2.2)]:List Qk)).bind fun q81 =>
 some (.inl ((IntKind.wrap .i64 (w71.1+1)),w71.2.1,w71.2.2.1,w71.2.2.2.1,w71.2.2.2.2.1,w71.2.2.2.2.2.1,w71.2.2.2.2.2.2.1,q81))
 else
 some (.inr (w71.2.1,w71.2.2.1,w71.2.2.2.1,w71.2.2.2.2.1,w71.2.2.2.2.2.1,w71.2.2.2.2.2.2.1,w71.2.2.2.2.2.2.2))
def Kb(N:Nat)(x0:Ql):Option (Str×Int×Bool×(List Qq)×(List Qt)×(List Je)×(List Qk)) :=
 (Qf (Wu N x0) N (0,x0.1,x0.2.1,x0.2.2.1,([]:List Qq))).bind fun w15 =>
 (Qf (Wv N x0) N (0,w15.1,w15.2.1,w15.2.2.1,w15.2.2.2,([]:List Qt))).bind fun w35 =>
 (Qf (Ww N x0) N (0,w35.1,w35.2.1,w35.2.2.1,w35.2.2.2.1,w35.2.2.2.2,([]:List Je))).bind fun w57 =>
 (Qf (Wx N x0) N (0,w57.1,w57.2.1,w57.2.2.1,w57.2.2.2.1,w57.2.2.2.2.1,w57.2.2.2.2.2,([]:List Qk))).bind fun w82 =>
 some (w82.1,w82.2.1,w82.2.2.1,w82.2.2.2.1,w82.2.2.2.2.1,w82.2.2.2.2.2.1,w82.2.2.2.2.2.2)
def He(N:Nat)(x0:Qz):(Int×(List Qv)×(List Ql)×(List Kr)×(List Int))→Option ((Int×(List Qv)×(List Ql)×(List Kr)×(List Int))⊕(((List Qv)×(List Ql)×(List Kr)×(List Int)))):=fun w9 =>
 if decide (w9.1<(List.length x0.2.1:Int))then
 (idx x0.2.1 w9.1).bind fun x14 =>
 (Kb N x14).bind fun w20 =>
 (app 128 w9.2.2.1 ([(w20.1,w20.2.1,w20.2.2.1,w20.2.2.2.1,w20.2.2.2.2.1,w20.2.2.2.2.2.1,w20.2.2.2.2.2.2)]:List Ql)).bind fun q27 =>
 some (.inl ((IntKind.wrap .i64 (w9.1+1)),w9.2.1,q27,w9.2.2.2.1,w9.2.2.2.2))
 else
 some (.inr (w9.2.1,w9.2.2.1,w9.2.2.2.1,w9.2.2.2.2))
def Hf(N:Nat)(x0:Qz)(v52:Int):(Int×Str×Int×Int×Str×Bool×(List J5))→Option ((Int×Str×Int×Int×Str×Bool×(List J5))⊕((Str×Int×Int×Str×Bool×(List J5)))):=fun w91 =>
 (idx x0.2.2.1 v52).bind fun x98 =>
 if decide (w91.1<(List.length x98.2.2.2.2.2:Int))then
 (idx x0.2.2.1 v52).bind fun x99 =>
 (idx x99.2.2.2.2.2 w91.1).bind fun x100 =>
 (app 16 ([]:List Str) x100.2.1).bind fun q101 =>
 (app 64 w91.2.2.2.2.2.2 ([(x100.1,q101,x100.2.2.1,x100.2.2.2.1,x100.2.2.2.2.1,x100.2.2.2.2.2)]:List J5)).bind fun q102 =>
 some (.inl ((IntKind.wrap .i64 (w91.1+1)),w91.2.1,w91.2.2.1,w91.2.2.2.1,w91.2.2.2.2.1,w91.2.2.2.2.2.1,q102))
 else
 some (.inr (w91.2.1,w91.2.2.1,w91.2.2.2.1,w91.2.2.2.2.1,w91.2.2.2.2.2.1,w91.2.2.2.2.2.2))
def Hg(N:Nat)(x0:Qz):(Int×(List Qv)×(List Ql)×(List Qn)×(List Kr)×(List Int))→Option ((Int×(List Qv)×(List Ql)×(List Qn)×(List Kr)×(List Int))⊕(((List Qv)×(List Ql)×(List Qn)×(List Kr)×(List Int)))):=fun w52 =>
 if decide (w52.1<(List.length x0.2.2.1:Int))then
 (idx x0.2.2.1 w52.1).bind fun x78 =>
 (Qf (Hf N x0 w52.1) N (0,x78.1,x78.2.1,x78.2.2.1,x78.2.2.2.1,x78.2.2.2.2.1,([]:List J5))).bind fun w103 =>
 (app 80 w52.2.2.2.1 ([(w103.1,w103.2.1,w103.2.2.1,w103.2.2.2.1,w103.2.2.2.2.1,w103.2.2.2.2.2)]:List Qn)).bind fun q109 =>
 some (.inl ((IntKind.wrap .i64 (w52.1+1)),w52.2.1,w52.2.2.1,q109,w52.2.2.2.2.1,w52.2.2.2.2.2))
 else
 some (.inr (w52.2.1,w52.2.2.1,w52.2.2.2.1,w52.2.2.2.2.1,w52.2.2.2.2.2))
def Hh(N:Nat)(x0:Qz):(Int×(List Qv)×(List Ql)×(List Qn)×(List Kr)×(List Int)×(List Yj))→Option ((Int×(List Qv)×(List Ql)×(List Qn)×(List Kr)×(List Int)×(List Yj))⊕(((List Qv)×(List Ql)×(List Qn)×(List Kr)×(List Int)×(List Yj)))):=fun w122 =>
 if decide (w122.1<(List.length x0.2.2.2.2.2:Int))then
 (idx x0.2.2.2.2.2 w122.1).bind fun x129 =>
 (app 24 ([]:List Vt) x129.2.2.2.2.1).bind fun q130 =>
 (app 72 w122.2.2.2.2.2.2 ([(x129.1,x129.2.1,x129.2.2.1,x129.2.2.2.1,q130,x129.2.2.2.2.2)]:List Yj)).bind fun q131 =>
 some (.inl ((IntKind.wrap .i64 (w122.1+1)),w122.2.1,w122.2.2.1,w122.2.2.2.1,w122.2.2.2.2.1,w122.2.2.2.2.2.1,q131))
 else
 some (.inr (w122.2.1,w122.2.2.1,w122.2.2.2.1,w122.2.2.2.2.1,w122.2.2.2.2.2.1,w122.2.2.2.2.2.2))
def Yz(N:Nat)(x0:Qz):Option ((List Qv)×(List Ql)×(List Qn)×(List Kr)×(List Int)×(List Yj)) :=
 (app 72 ([]:List Qv) x0.1).bind fun q1 =>
 (app 32 ([]:List Kr) x0.2.2.2.1).bind fun q2 =>
 (app 8 ([]:List Int) x0.2.2.2.2.1).bind fun q3 =>
 (Qf (He N x0) N (0,q1,([]:List Ql),q2,q3)).bind fun w28 =>
 (Qf (Hg N x0) N (0,w28.1,w28.2.1,([]:List Qn),w28.2.2.1,w28.2.2.2)).bind fun w110 =>
 (Qf (Hh N x0) N (0,w110.1,w110.2.1,w110.2.2.1,w110.2.2.2.1,w110.2.2.2.2,([]:List Yj))).bind fun w132 =>
 some (w132.1,w132.2.1,w132.2.2.1,w132.2.2.2.1,w132.2.2.2.2.1,w132.2.2.2.2.2)
def Dt(N:Nat)(x0:Yg)(x1:Yg):(Int)→Option ((Int)⊕((Unit)⊕(Bool))):=fun v1 =>
 if decide (v1<(List.length x0.2.2.2.2.2.1:Int))then
 (idx x0.2.2.2.2.2.1 v1).bind fun x2 =>
 (idx x1.2.2.2.2.2.1 v1).bind fun x3 =>
 if !((x2.1==x3.1)&&((x2.2.1==x3.2.1)&&((x2.2.2.1==x3.2.2.1)&&((x2.2.2.2.1==x3.2.2.2.1)&&((x2.2.2.2.2==x3.2.2.2.2)&&true)))))then
 some (.inr (.inr false))
 else
 some (.inl (IntKind.wrap .i64 (v1+1)))
 else
 some (.inr (.inl ()))
def Du(N:Nat)(x0:Yg)(x1:Yg):(Int)→Option ((Int)⊕((Unit)⊕(Bool))):=fun v4 =>
 if decide (v4<(List.length x0.2.2.2.2.2.2.1:Int))then
 (idx x0.2.2.2.2.2.2.1 v4).bind fun x5 =>
 (idx x1.2.2.2.2.2.2.1 v4).bind fun x6 =>
 if !((x5.1==x6.1)&&((x5.2.1==x6.2.1)&&((x5.2.2.1==x6.2.2.1)&&((x5.2.2.2==x6.2.2.2)&&true))))then
 some (.inr (.inr false))
 else
 some (.inl (IntKind.wrap .i64 (v4+1)))
 else
 some (.inr (.inl ()))
def Dv(N:Nat)(x0:Yg)(x1:Yg):(Int)→Option ((Int)⊕((Unit)⊕(Bool))):=fun v7 =>
 if decide (v7<(List.length x0.2.2.2.2.2.2.2.2.2.2.1:Int))then
 (idx x0.2.2.2.2.2.2.2.2.2.2.1 v7).bind fun x8 =>
 (idx x1.2.2.2.2.2.2.2.2.2.2.1 v7).bind fun x9 =>
 if !((x8.1==x9.1)&&((x8.2==x9.2)&&true))then
 some (.inr (.inr false))
 else
 some (.inl (IntKind.wrap .i64 (v7+1)))
 else
 some (.inr (.inl ()))
def At(N:Nat)(x0:Yg)(x1:Yg):Option (Bool) :=
 if(((((((((!((x0.1.1==x1.1.1)&&((x0.1.2.1==x1.1.2.1)&&((x0.1.2.2.1==x1.1.2.2.1)&&((x0.1.2.2.2.1==x1.1.2.2.2.1)&&((x0.1.2.2.2.2.1==x1.1.2.2.2.2.1)&&((x0.1.2.2.2.2.2.1==x1.1.2.2.2.2.2.1)&&((x0.1.2.2.2.2.2.2.1==x1.1.2.2.2.2.2.2.1)&&((x0.1.2.2.2.2.2.2.2.1==x1.1.2.2.2.2.2.2.2.1)&&((x0.1.2.2.2.2.2.2.2.2.1==x1.1.2.2.2.2.2.2.2.2.1)&&((x0.1.2.2.2.2.2.2.2.2.2.1==x1.1.2.2.2.2.2.2.2.2.2.1)&&((x0.1.2.2.2.2.2.2.2.2.2.2.1==x1.1.2.2.2.2.2.2.2.2.2.2.1)&&((x0.1.2.2.2.2.2.2.2.2.2.2.2==x1.1.2.2.2.2.2.2.2.2.2.2.2)&&true)))))))))))))||(x0.2.1 != x1.2.1))||(!(x0.2.2.1==x1.2.2.1)))||(x0.2.2.2.1 != x1.2.2.2.1))||(!(x0.2.2.2.2.1==x1.2.2.2.2.1)))||(x0.2.2.2.2.2.2.2.1 != x1.2.2.2.2.2.2.2.1))||(x0.2.2.2.2.2.2.2.2.1 != x1.2.2.2.2.2.2.2.2.1))||(x0.2.2.2.2.2.2.2.2.2.1 != x1.2.2.2.2.2.2.2.2.2.1))||(x0.2.2.2.2.2.2.2.2.2.2.2.1 != x1.2.2.2.2.2.2.2.2.2.2.2.1))||(x0.2.2.2.2.2.2.2.2.2.2.2.2 != x1.2.2.2.2.2.2.2.2.2.2.2.2)then
 some false
 else
 if(((List.length x0.2.2.2.2.2.1:Int) != (List.length x1.2.2.2.2.2.1:Int))||((List.length x0.2.2.2.2.2.2.1:Int) != (List.length x1.2.2.2.2.2.2.1:Int)))||((List.length x0.2.2.2.2.2.2.2.2.2.2.1:Int) != (List.length x1.2.2.2.2.2.2.2.2.2.2.1:Int))then
 some false
 else
 (Qf (Dt N x0 x1) N 0).bind fun
 | .inl _ =>
  (Qf (Du N x0 x1) N 0).bind fun
  | .inl _ =>
   (Qf (Dv N x0 x1) N 0).bind fun
   | .inl _ =>
    some true
   | .inr v10 =>
    some v10
  | .inr v11 =>
   some v11
 | .inr v12 =>
  some v12
def Gr(N:Nat)(x0:Qd)(x1:Qd):(Int)→Option ((Int)⊕((Unit)⊕(Bool))):=fun v1 =>
 if decide (v1<(List.length x0.2.2.2.2.2.1:Int))then
 (idx x0.2.2.2.2.2.1 v1).bind fun x2 =>
 (idx x1.2.2.2.2.2.1 v1).bind fun x3 =>
 if !(x2==x3)then
 some (.inr (.inr false))
 else
 some (.inl (IntKind.wrap .i64 (v1+1)))
 else
 some (.inr (.inl ()))
def Kx(N:Nat)(x0:Qd)(x1:Qd):Option (Bool) :=
 if(List.length x0.2.2.2.2.2.1:Int) != (List.length x1.2.2.2.2.2.1:Int)then
 some false
 else
 (Qf (Gr N x0 x1) N 0).bind fun
 | .inl _ =>
  some ((((((((((x0.1==x1.1)&&(x0.2.1==x1.2.1))&&(x0.2.2.1==x1.2.2.1))&&(x0.2.2.2.1==x1.2.2.2.1))&&(x0.2.2.2.2.1==x1.2.2.2.2.1))&&((x0.2.2.2.2.2.2.1.1==x1.2.2.2.2.2.2.1.1)&&((x0.2.2.2.2.2.2.1.2==x1.2.2.2.2.2.2.1.2)&&true)))&&(x0.2.2.2.2.2.2.2.1==x1.2.2.2.2.2.2.2.1))&&(x0.2.2.2.2.2.2.2.2.1==x1.2.2.2.2.2.2.2.2.1))&&(x0.2.2.2.2.2.2.2.2.2.1==x1.2.2.2.2.2.2.2.2.2.1))&&(x0.2.2.2.2.2.2.2.2.2.2==x1.2.2.2.2.2.2.2.2.2.2))
 | .inr v4 =>
  some v4
def Hi(N:Nat)(x0:Qw)(x1:Qw):(Int)→Option ((Int)⊕((Unit)⊕(Bool))):=fun v1 =>
 if decide (v1<(List.length x0.1:Int))then
 (idx x0.1 v1).bind fun x2 =>
 (idx x1.1 v1).bind fun x3 =>
 (Kx N x2 x3).bind fun r4 =>
 if !r4 then
 some (.inr (.inr false))
 else
 some (.inl (IntKind.wrap .i64 (v1+1)))
 else
 some (.inr (.inl ()))
def Hj(N:Nat)(x0:Qw)(x1:Qw):(Int)→Option ((Int)⊕((Unit)⊕(Bool))):=fun v5 =>
 if decide (v5<(List.length x0.2.1:Int))then
 (idx x0.2.1 v5).bind fun x6 =>
 (idx x1.2.1 v5).bind fun x7 =>
 if !((x6.1==x7.1)&&((x6.2.1==x7.2.1)&&((x6.2.2.1==x7.2.2.1)&&((x6.2.2.2.1==x7.2.2.2.1)&&((x6.2.2.2.2==x7.2.2.2.2)&&true)))))then
 some (.inr (.inr false))
 else
 some (.inl (IntKind.wrap .i64 (v5+1)))
 else
 some (.inr (.inl ()))
def Hk(N:Nat)(x0:Qw)(x1:Qw):(Int)→Option ((Int)⊕((Unit)⊕(Bool))):=fun v8 =>
 if decide (v8<(List.length x0.2.2:Int))then
 (idx x0.2.2 v8).bind fun x9 =>
 (idx x1.2.2 v8).bind fun x10 =>
 if !((x9.1==x10.1)&&((x9.2.1==x10.2.1)&&((x9.2.2.1==x10.2.2.1)&&((x9.2.2.2.1==x10.2.2.2.1)&&((x9.2.2.2.2==x10.2.2.2.2)&&true)))))then
 some (.inr (.inr false))
 else
 some (.inl (IntKind.wrap .i64 (v8+1)))
 else
 some (.inr (.inl ()))
def Ur(N:Nat)(x0:Qw)(x1:Qw):Option (Bool) :=
 if(((List.length x0.1:Int) != (List.length x1.1:Int))||((List.length x0.2.1:Int) != (List.length x1.2.1:Int)))||((List.length x0.2.2:Int) != (List.length x1.2.2:Int))then
 some false
 else
 (Qf (Hi N x0 x1) N 0).bind fun
 | .inl _ =>
  (Qf (Hj N x0 x1) N 0).bind fun
  | .inl _ =>
   (Qf (Hk N x0 x1) N 0).bind fun
   | .inl _ =>
    some true
   | .inr v11 =>
    some v11
  | .inr v12 =>
   some v12
 | .inr v13 =>
  some v13
def Dw(N:Nat)(v4:Int)(x1:(List Qb)):(Int)→Option ((Int)⊕((Unit)⊕(Bool))):=fun v17 =>
 if decide (v17<v4)then
 (idx x1 v17).bind fun x18 =>
 (idx x1 v4).bind fun x19 =>
 if x18.1==x19.1 then
 some (.inr (.inr false))
 else
 some (.inl (IntKind.wrap .i64 (v17+1)))
 else
 some (.inr (.inl ()))
def Dy(N:Nat)(x1:(List Qb)):(Int)→Option ((Int)⊕((Unit)⊕(Bool))):=fun v4 =>
 if decide (v4<(List.length x1:Int))then
 (idx x1 v4).bind fun x5 =>
 (Hv N x5).bind fun r6 =>
 (if !r6 then
 some true
 else
 (idx x1 v4).bind fun x8 =>
 (Ag N x8.2.2.2.2.2.2.1).bind fun r9 =>
 some (!r9):Option (Bool)).bind fun v10 =>
 (if v10 then
 some true
 else
 (idx x1 v4).bind fun x12 =>
 some (decide ((List.length x12.2.2.2.2.1:Int)>200)):Option (Bool)).bind fun v13 =>
 (if v13 then
 some true
 else
 (idx x1 v4).bind fun x15 =>
 some (decide ((List.length x15.2.2.2.2.2.1:Int)>200)):Option (Bool)).bind fun v16 =>
 if v16 then
 some (.inr (.inr false))
 else
 (Qf (Dw N v4 x1) N 0).bind fun
 | .inl _ =>
  some (.inl (IntKind.wrap .i64 (v4+1)))
 | .inr v20 =>
  some (.inr (.inr v20))
 else
 some (.inr (.inl ()))
def Wy(N:Nat)(x0:Qz)(x1:(List Qb))(x2:Int):Option (Bool) :=
 (if decide ((List.length x1:Int)>x2)then
 some true
 else
 (E5 N x0 x2).bind fun r2 =>
 some (!r2):Option (Bool)).bind fun v3 =>
 if v3 then
 some false
 else
 (Qf (Dy N x1) N 0).bind fun
 | .inl _ =>
  some true
 | .inr v21 =>
  some v21
def Sx(N:Nat)(x0:Qw):(Int×(List Qd)×(List Qp)×(List Qi))→Option ((Int×(List Qd)×(List Qp)×(List Qi))⊕(((List Qd)×(List Qp)×(List Qi)))):=fun w7 =>
 if decide (w7.1<(List.length x0.1:Int))then
 (idx x0.1 w7.1).bind fun x11 =>
 (app 16 ([]:List Str) x11.2.2.2.2.2.1).bind fun q12 =>
 (app 120 w7.2.1 ([(x11.1,x11.2.1,x11.2.2.1,x11.2.2.2.1,x11.2.2.2.2.1,q12,x11.2.2.2.2.2.2.1,x11.2.2.2.2.2.2.2.1,x11.2.2.2.2.2.2.2.2.1,x11.2.2.2.2.2.2.2.2.2.1,x11.2.2.2.2.2.2.2.2.2.2)]:List Qd)).bind fun q13 =>
 some (.inl ((IntKind.wrap .i64 (w7.1+1)),q13,w7.2.2.1,w7.2.2.2))
 else
 some (.inr (w7.2.1,w7.2.2.1,w7.2.2.2))
def P2(N:Nat)(x0:Qw):Option ((List Qd)×(List Qp)×(List Qi)) :=
 (app 40 ([]:List Qp) x0.2.1).bind fun q1 =>
 (app 40 ([]:List Qi) x0.2.2).bind fun q2 =>
 (Qf (Sx N x0) N (0,([]:List Qd),q1,q2)).bind fun w14 =>
 some (w14.1,w14.2.1,w14.2.2)
def Cu(N:Nat)(x0:Qb):Option (Qae) :=
 some (x0.2.2.2.2.2.2.1,x0.2.2.2.2.2.2.2.2.2.2.1,x0.2.2.2.2.2.2.2.2.2.2.2,x0.1)
def Gs(N:Nat)(x0:Qae)(x1:Qae):Option (Bool) :=
 if(x0.1==x1.1)&&((x0.2.1==x1.2.1)&&((x0.2.2.1==x1.2.2.1)&&((x0.2.2.2==x1.2.2.2)&&true)))then
 some false
 else
 if x0.1 != x1.1 then
 some (decide (x0.1<x1.1))
 else
 if x0.2.1 != x1.2.1 then
 some (decide (x0.2.1<x1.2.1))
 else
 if x0.2.2.1 != x1.2.2.1 then
 some (decide (x0.2.2.1<x1.2.2.1))
 else
 some (decide (x0.2.2.2<x1.2.2.2))
def J9(N:Nat):((List Qb)×(List Qb)×(List Qb))→Option (((List Qb)×(List Qb)×(List Qb))⊕(((List Qb)))):=fun w7 =>
 if(decide ((List.length w7.1:Int)>0))||(decide ((List.length w7.2.1:Int)>0))then
 (if(List.length w7.2.1:Int)==0 then
 some true
 else
 if decide ((List.length w7.1:Int)>0)then
 (idx w7.2.1 0).bind fun x10 =>
 (Cu N x10).bind fun r11 =>
 (idx w7.1 0).bind fun x12 =>
 (Cu N x12).bind fun r13 =>
 (Gs N r11 r13).bind fun r14 =>
 some (!r14)
 else
 some false:Option ((Bool))).bind fun v15 =>
 if v15 then
 (idx w7.1 0).bind fun x16 =>
 (app 112 w7.2.2 ([x16]:List Qb)).bind fun q17 =>
 (slc w7.1 1 (List.length w7.1:Int)).bind fun s18 =>
 some (.inl (s18,w7.2.1,q17))
 else
 (idx w7.2.1 0).bind fun x19 =>
 (app 112 w7.2.2 ([x19]:List Qb)).bind fun q20 =>
 (slc w7.2.1 1 (List.length w7.2.1:Int)).bind fun s21 =>
 some (.inl (w7.1,s21,q20))
 else
 some (.inr w7.2.2)
def Zu(N:Nat):Nat→(List Qb)→Option ((List Qb))
 | 0,_=>none
 | n+1,x0 =>
  if decide ((List.length x0:Int)<2)then
  (app 112 ([]:List Qb) x0).bind fun q1 =>
  some q1
  else
  (slc x0 0 (IntKind.wrap .i64 (Int.tdiv (List.length x0:Int) 2))).bind fun s2 =>
  (Zu N n s2).bind fun r3 =>
  (slc x0 (IntKind.wrap .i64 (Int.tdiv (List.length x0:Int) 2)) (List.length x0:Int)).bind fun s4 =>
  (Zu N n s4).bind fun r5 =>
  (mkL 112 0 (List.length x0:Int) (0,0,0,0,([]:Str),([]:Str),0,0,0,false,0,0)).bind fun m6 =>
  (Qf (J9 N) N (r3,r5,m6)).bind fun v22 =>
  some v22
def C2(N:Nat)(x0:(List Qb)):Option ((List Qb)):=Zu N N x0
def Vl(N:Nat)(r4:(List Qb))(x0:Qz):(Int×(List Qd)×(List Qp)×(List Qi)×(List Yg))→Option ((Int×(List Qd)×(List Qp)×(List Qi)×(List Yg))⊕((Qw×(List Yg)))):=fun w13 =>
 if decide (w13.1<(List.length r4:Int))then
 (idx r4 w13.1).bind fun x18 =>
 (Ds N x0 (w13.2.1,w13.2.2.1,w13.2.2.2.1) x18).bind fun w42 =>
 (app 272 w13.2.2.2.2 ([(w42.2.2.2.1,w42.2.2.2.2.1,w42.2.2.2.2.2.1,w42.2.2.2.2.2.2.1,w42.2.2.2.2.2.2.2.1,w42.2.2.2.2.2.2.2.2.2.2.2.2.2.1,w42.2.2.2.2.2.2.2.2.2.2.2.2.2.2.1,w42.2.2.2.2.2.2.2.2.1,w42.2.2.2.2.2.2.2.2.2.1,w42.2.2.2.2.2.2.2.2.2.2.1,w42.2.2.2.2.2.2.2.2.2.2.2.2.2.2.2,w42.2.2.2.2.2.2.2.2.2.2.2.1,w42.2.2.2.2.2.2.2.2.2.2.2.2.1)]:List Yg)).bind fun q58 =>
 some (.inl ((IntKind.wrap .i64 (w13.1+1)),w42.1,w42.2.1,w42.2.2.1,q58))
 else
 some (.inr ((w13.2.1,w13.2.2.1,w13.2.2.2.1),w13.2.2.2.2))
def Zc(N:Nat)(x0:Qz)(x1:Qw)(x2:(List Qb)):Option (Qw×(List Yg)) :=
 (P2 N x1).bind fun w1 =>
 (C2 N x2).bind fun r4 =>
 (Qf (Vl N r4 x0) N (0,w1.1,w1.2.1,w1.2.2,([]:List Yg))).bind fun w59 =>
 some (w59.1,w59.2)
def Uu(N:Nat)(x0:Qz)(x1:(List Qb)):Option (Qw×(List Yg)) :=
 (Zc N x0 (([]:List Qd),([]:List Qp),([]:List Qi)) x1).bind fun w1 =>
 some (w1.1,w1.2)
def Qi2(N:Nat)(x0:(List Yg)):(Int×Int×Int×Int)→Option ((Int×Int×Int×Int)⊕((Int×Int×Int))):=fun w1 =>
 if decide (w1.2.2.2<(List.length x0:Int))then
 (idx x0 w1.2.2.2).bind fun x5 =>
 some (.inl ((IntKind.wrap .i64 (w1.1+x5.2.2.2.2.2.2.2.2.2.1)),(IntKind.wrap .i64 (w1.2.1+x5.2.2.2.2.2.2.2.2.2.2.2.1)),(IntKind.wrap .i64 (w1.2.2.1+x5.2.2.2.2.2.2.2.2.2.2.2.2)),(IntKind.wrap .i64 (w1.2.2.2+1))))
 else
 some (.inr (w1.1,w1.2.1,w1.2.2.1))
def Qdh(N:Nat)(x0:(List Yg)):Option (Int×Int×Int) :=
 (Qf (Qi2 N x0) N (0,0,0,0)).bind fun w6 =>
 some (w6.1,w6.2.1,w6.2.2)
def Zd(N:Nat):Option (Bool) :=
 (Dn N).bind fun r1 =>
 (Uu N r1 ([(1,1,1,1,([52,57,49,49]:Str),([52,57,49,50]:Str),1000,20,0,false,1,2),(2,1,1,1,([52,57,49,49]:Str),([52,57,49,50]:Str),500,20,0,false,1,1)]:List Qb)).bind fun w2 =>
 (if((List.length w2.2:Int) != 2)||((List.length w2.1.2.1:Int) != 1)then
 some true
 else
 (idx w2.2 0).bind fun _ =>
 (idx w2.2 0).bind fun x5 =>
 some ((List.length x5.2.2.2.2.2.1:Int) != 1):Option (Bool)).bind fun v6 =>
 (if v6 then
 some true
 else
 (idx w2.2 1).bind fun _ =>
 (idx w2.2 1).bind fun x8 =>
 some ((List.length x8.2.2.2.2.2.2.1:Int) != 1):Option (Bool)).bind fun v9 =>
 if v9 then
 some false
 else
 (Qdh N w2.2).bind fun w10 =>
 (idx w2.2 0).bind fun x13 =>
 (if x13.1.1==2 then
 (idx w2.2 0).bind fun x15 =>
 some (x15.2.2.2.2.2.2.2.2.2.1==0)
 else
 some false:Option (Bool)).bind fun v16 =>
 (if v16 then
 (idx w2.2 0).bind fun x19 =>
 (idx x19.2.2.2.2.2.1 0).bind fun x20 =>
 some (x20.2.2.2.2==20)
 else
 some false:Option (Bool)).bind fun v21 =>
 (if v21 then
 (idx w2.2 1).bind fun x23 =>
 some (x23.2.2.2.2.2.2.2.2.2.1==700)
 else
 some false:Option (Bool)).bind fun v24 =>
 (if v24 then
 (idx w2.2 1).bind fun x27 =>
 (idx x27.2.2.2.2.2.2.1 0).bind fun x28 =>
 some (x28.2.2.1==10)
 else
 some false:Option (Bool)).bind fun v29 =>
 (if((v29&&(w10.1==700))&&(w10.2.1==700))&&(w10.2.2==0)then
 (idx w2.1.2.1 0).bind fun x31 =>
 some (x31.2.1==0)
 else
 some false:Option (Bool)).bind fun v32 =>
 some v32
def Hl(N:Nat)(x0:(List Yg))(x1:(List Yg)):(Int)→Option ((Int)⊕((Unit)⊕(Bool))):=fun v1 =>
 if decide (v1<(List.length x0:Int))then
 (idx x0 v1).bind fun x2 =>
 (idx x1 v1).bind fun x3 =>
 (At N x2 x3).bind fun r4 =>
 if !r4 then
 some (.inr (.inr false))
 else
 some (.inl (IntKind.wrap .i64 (v1+1)))
 else
 some (.inr (.inl ()))
def Us(N:Nat)(x0:(List Yg))(x1:(List Yg)):Option (Bool) :=
 if(List.length x0:Int) != (List.length x1:Int)then
 some false
 else
 (Qf (Hl N x0 x1) N 0).bind fun
 | .inl _ =>
  some true
 | .inr v5 =>
  some v5
def Q6(N:Nat)(x1:(List Qb))(x2:Int):(Int×(List Qb)×(List Qb))→Option ((Int×(List Qb)×(List Qb))⊕(((List Qb)×(List Qb)))):=fun w3 =>
 if decide (w3.1<(List.length x1:Int))then
 ((idx x1 w3.1).bind fun x10 =>
 if decide (x10.2.2.2.2.2.2.1<x2)then
 (idx x1 w3.1).bind fun x12 =>
 (app 112 w3.2.1 ([x12]:List Qb)).bind fun q13 =>
 some (q13,w3.2.2)
 else
 (idx x1 w3.1).bind fun x14 =>
 (app 112 w3.2.2 ([x14]:List Qb)).bind fun q15 =>
 some (w3.2.1,q15):Option (((List Qb)×(List Qb)))).bind fun w16 =>
 some (.inl ((IntKind.wrap .i64 (w3.1+1)),w16.1,w16.2))
 else
 some (.inr (w3.2.1,w3.2.2))
def Vn(N:Nat)(x0:Qz)(x1:(List Qb))(x2:Int):Option (Bool) :=
 (Wy N x0 x1 24).bind fun r1 =>
 if !r1 then
 (Zd N).bind fun r2 =>
 some r2
 else
 (Qf (Q6 N x1 x2) N (0,([]:List Qb),([]:List Qb))).bind fun w18 =>
 (Yz N x0).bind fun w20 =>
 (Uu N (w20.1,w20.2.1,w20.2.2.1,w20.2.2.2.1,w20.2.2.2.2.1,w20.2.2.2.2.2) w18.1).bind fun w26 =>
 (Yz N x0).bind fun w34 =>
 (Zc N (w34.1,w34.2.1,w34.2.2.1,w34.2.2.2.1,w34.2.2.2.2.1,w34.2.2.2.2.2) w26.1 w18.2).bind fun w40 =>
 (Yz N x0).bind fun w42 =>
 (app 112 ([]:List Qb) x1).bind fun q48 =>
 (Uu N (w42.1,w42.2.1,w42.2.2.1,w42.2.2.2.1,w42.2.2.2.2.1,w42.2.2.2.2.2) q48).bind fun w49 =>
 (Ur N w40.1 w49.1).bind fun r51 =>
 (if r51 then
 (app 272 ([]:List Yg) w26.2).bind fun q56 =>
 (app 272 q56 w40.2).bind fun q57 =>
 (Us N q57 w49.2).bind fun r58 =>
 some r58
 else
 some false:Option (Bool)).bind fun v59 =>
 (if v59 then
 (Zd N).bind fun r61 =>
 some r61
 else
 some false:Option (Bool)).bind fun v62 =>
 some v62
end Gx
