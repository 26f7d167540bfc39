/- The Go functions as Lean functions. -/
import Derived.Test.YtjjpjagokgfbdaaGreatXRn
namespace Gx
open Go Gd
set_option linter.unusedVariables false
abbrev Jv:Ty:=.st (.pr (.int .i64) (.pr (.int .i64) (.pr (.int .i64) (.pr (.int .i64) (.pr .str (.pr .str (.int .i64)))))))
abbrev Qv:Type:=Int×Int×Int×Int×Str×Str×Int
abbrev V8:Ty:=.st (.pr .str (.sl .str))
abbrev Qq:Type:=Str×(List Str)
abbrev Kn:Ty:=.st (.pr (.int .i64) (.pr (.int .i64) (.int .i64)))
abbrev Kc:Type:=Int×Int×Int
abbrev Vv:Ty:=.st (.pr .str (.sl Kn))
abbrev Qt:Type:=Str×(List Kc)
abbrev Gz:Ty:=.st (.pr (.int .i64) (.pr (.int .i64) (.int .i64)))
abbrev Vs:Type:=Int×Int×Int
abbrev G0:Ty:=.st (.pr (.int .i64) (.pr .str (.pr .str (.pr (.int .i64) (.sl Gz)))))
abbrev Jd:Type:=Int×Str×Str×Int×(List Vs)
abbrev Ko:Ty:=.rose (.pr (.int .i64) (.pr (.int .i64) .str))
abbrev Qj:Type:=Ki (Int×Int×Str)
abbrev Vb:Ty:=.st (.pr .str (.pr Ko (.int .i64)))
abbrev Qk:Type:=Str×Qj×Int
abbrev J6:Ty:=.st (.pr .str (.pr (.int .i64) (.pr .bool (.pr (.sl V8) (.pr (.sl Vv) (.pr (.sl G0) (.sl Vb)))))))
abbrev Ql:Type:=Str×Int×Bool×(List Qq)×(List Qt)×(List Jd)×(List Qk)
abbrev K5:Ty:=.st (.pr (.int .i64) (.pr (.sl .str) (.pr (.int .i64) (.pr (.int .i64) (.pr (.int .i64) .bool)))))
abbrev J4:Type:=Int×(List Str)×Int×Int×Int×Bool
abbrev Yo:Ty:=.st (.pr .str (.pr (.int .i64) (.pr (.int .i64) (.pr .str (.pr .bool (.sl K5))))))
abbrev Qn:Type:=Str×Int×Int×Str×Bool×(List J4)
abbrev Db:Ty:=.st (.pr .str (.pr (.int .i64) (.int .i64)))
abbrev Kp:Type:=Str×Int×Int
abbrev Q8:Ty:=.st (.pr (.int .i64) (.int .i64))
abbrev Qa:Type:=Int×Int
abbrev V3:Ty:=.st (.pr (.int .i64) (.pr (.int .i64) (.pr .bool (.pr Q8 (.pr (.sl Gz) (.int .i64))))))
abbrev Yh:Type:=Int×Int×Bool×Qa×(List Vs)×Int
abbrev Vw:Ty:=.st (.pr (.sl Jv) (.pr (.sl J6) (.pr (.sl Yo) (.pr (.sl Db) (.pr (.sl (.int .i64)) (.sl V3))))))
abbrev Qz:Type:=(List Qv)×(List Ql)×(List Qn)×(List Kp)×(List Int)×(List Yh)
abbrev J0:Ty:=.st (.pr (.int .i64) (.pr (.int .i64) (.pr (.int .i64) (.pr (.int .i64) (.pr .str (.pr .str (.pr (.int .i64) (.pr (.int .i64) (.pr (.int .i64) (.pr .bool (.pr (.int .i64) (.int .i64))))))))))))
abbrev Qb:Type:=Int×Int×Int×Int×Str×Str×Int×Int×Int×Bool×Int×Int
abbrev Ym:Ty:=.st (.pr (.int .i64) (.pr (.int .i64) (.pr .str (.pr (.int .i64) (.pr (.int .i64) (.pr (.sl .str) (.pr Q8 (.pr (.int .i64) (.pr (.int .i64) (.pr (.int .i64) .bool))))))))))
abbrev Qd:Type:=Int×Int×Str×Int×Int×(List Str)×Qa×Int×Int×Int×Bool
abbrev Vq:Ty:=.st (.pr (.int .i64) (.pr (.int .i64) (.pr (.int .i64) (.pr (.int .i64) (.int .i64)))))
abbrev Qp:Type:=Int×Int×Int×Int×Int
abbrev Yp:Ty:=.st (.pr (.int .i64) (.pr (.int .i64) (.pr (.int .i64) (.pr (.int .i64) (.int .i64)))))
abbrev Qi:Type:=Int×Int×Int×Int×Int
abbrev Ud:Ty:=.st (.pr (.sl Ym) (.pr (.sl Vq) (.sl Yp)))
abbrev Qx:Type:=(List Qd)×(List Qp)×(List Qi)
abbrev Qet:Ty:=.st (.pr (.int .i64) (.pr .str (.pr (.int .i64) (.pr (.int .i64) (.int .i64)))))
abbrev Q9:Type:=Int×Str×Int×Int×Int
abbrev Lg:Ty:=.st (.pr .str (.pr (.int .i64) (.pr (.int .i64) (.int .i64))))
abbrev Qo:Type:=Str×Int×Int×Int
abbrev Qab:Ty:=.st (.pr .str (.int .i64))
abbrev Q2:Type:=Str×Int
abbrev Xa:Ty:=.st (.pr J0 (.pr (.int .i64) (.pr .str (.pr (.int .i64) (.pr .str (.pr (.sl Qet) (.pr (.sl Lg) (.pr (.int .i64) (.pr (.int .i64) (.pr (.int .i64) (.pr (.sl Qab) (.pr (.int .i64) (.int .i64)))))))))))))
abbrev Yj:Type:=Qb×Int×Str×Int×Str×(List Q9)×(List Qo)×Int×Int×Int×(List Q2)×Int×Int
abbrev Qmk:Ty:=.st (.pr (.int .i64) (.pr (.int .i64) (.pr (.int .i64) (.pr (.int .i64) (.pr (.int .i64) (.pr (.int .i64) (.int .i64)))))))
abbrev Ce:Ty:=.st (.pr Q8 (.pr .str (.pr (.sl .str) (.pr .bool .bool))))
abbrev Q6:Type:=Qa×Str×(List Str)×Bool×Bool
abbrev V0:Ty:=.st (.pr (.int .i64) (.pr (.int .i64) (.pr (.int .i64) (.pr .bool (.pr .bool (.sl (.int .i64)))))))
abbrev Qm:Type:=Int×Int×Int×Bool×Bool×(List Int)
abbrev Jcd:Ty:=.st (.pr Vw (.pr Ud (.pr J0 (.pr Ce (.pr V0 (.pr J6 (.pr (.int .i64) Xa)))))))
abbrev Qu8:Ty:=.st (.pr (.int .i64) (.pr (.int .i64) (.pr .str (.pr .str (.pr (.int .i64) (.pr (.int .i64) (.pr (.int .i64) (.int .i64))))))))
abbrev Vf:Ty:=.st (.pr (.int .i64) (.pr (.int .i64) (.pr (.int .i64) (.pr .str (.pr (.sl .str) (.pr (.sl .str) (.pr .bool .bool)))))))
abbrev Jo:Type:=Int×Int×Int×Str×(List Str)×(List Str)×Bool×Bool
abbrev R7:Ty:=.st (.pr (.int .i64) (.pr (.int .i64) (.pr (.int .i64) (.pr (.int .i64) (.pr (.int .i64) (.pr (.int .i64) (.pr .str (.pr .str .bool))))))))
abbrev V4:Type:=Int×Int×Int×Int×Int×Int×Str×Str×Bool
abbrev Lh:Ty:=.st (.pr (.int .i64) (.pr (.int .i64) (.pr (.int .i64) (.int .i64))))
abbrev Qac:Type:=Int×Int×Int×Int
abbrev U6:Ty:=.st (.pr (.sl V0) (.pr (.sl Vf) (.sl (.int .i64))))
abbrev Jq:Type:=(List Qm)×(List Jo)×(List Int)
abbrev Qra:Ty:=.st (.pr (.sl V0) (.sl Vf))
abbrev Qs0:Ty:=.st (.pr (.sl Ym) .ref)
abbrev Uw:Ty:=.st (.pr (.int .i64) (.pr .str (.pr (.int .i64) (.int .i64))))
abbrev Q5:Type:=Int×Str×Int×Int
abbrev Ue:Ty:=.st (.pr (.int .i64) (.pr (.int .i64) (.pr .str (.sl Q8))))
abbrev Jg:Type:=Int×Int×Str×(List Qa)
abbrev H9:Ty:=.st (.pr Ym (.int .i64))
abbrev Yl:Type:=Qd×Int
abbrev Vg:Ty:=.st (.pr (.int .i64) Vf)
abbrev Qy:Type:=Int×Jo
abbrev R8:Ty:=.st (.pr (.int .i64) (.pr .str (.pr (.int .i64) (.int .i64))))
abbrev Qrb:Type:=Int×Str×Int×Int
abbrev Qgu:Ty:=.st (.pr .str Q8)
abbrev Zz:Type:=Str×Qa
abbrev Qnc:Ty:=.st (.pr .ref (.pr .ref (.pr .ref (.pr .ref (.pr .ref (.pr (.sl (.int .i64)) (.sl (.int .i64))))))))
abbrev Qeu:Ty:=.st (.pr (.int .i64) (.pr (.int .i64) (.int .i64)))
abbrev F4:Type:=Int×Int×Int
abbrev Vx:Ty:=.st (.pr (.int .i64) (.pr (.int .i64) (.int .i64)))
abbrev Q7:Type:=Int×Int×Int
def Zf(N:Nat)(self:Qj→Int →  Option (Int))(x0:Qj)(x1:Int):(Int×Int)→Option ((Int×Int)⊕((Int))):=fun w1 =>
 if(decide (w1.2<(List.length x0.ks:Int)))&&(decide (w1.1<1000))then
 (idx x0.ks w1.2).bind fun x3 =>
 (self x3 (IntKind.wrap .i64 (x1+1))).bind fun r4 =>
 some (.inl ((IntKind.wrap .i64 (w1.1+r4)),(IntKind.wrap .i64 (w1.2+1))))
 else
 some (.inr w1.1)
def Yf(N:Nat):Nat→Qj→Int→Option (Int)
 | 0,_,_=>none
 | n+1,x0,x1 =>
  if decide (x1>18)then
  some 1000
  else
  (Qg (Zf N (Yf N n) x0 x1) N (1,0)).bind fun v5 =>
  some v5
def Md(N:Nat)(x0:Qj)(x1:Int):Option (Int):=Yf N N x0 x1
def A8(N:Nat)(x0:Ql)(x1:Int):(Int)→Option ((Int)⊕((Unit)⊕(Bool))):=fun v1 =>
 if decide (v1<(List.length x0.2.2.2.2.2.2:Int))then
 (idx x0.2.2.2.2.2.2 v1).bind fun x2 =>
 (Md N x2.2.1 0).bind fun r3 =>
 if decide (r3>(IntKind.wrap .i64 (4*x1)))then
 some (.inr (.inr false))
 else
 some (.inl (IntKind.wrap .i64 (v1+1)))
 else
 some (.inr (.inl ()))
def A9(N:Nat)(x0:Ql)(x1:Int):(Int)→Option ((Int)⊕((Unit)⊕(Bool))):=fun v4 =>
 if decide (v4<(List.length x0.2.2.2.1:Int))then
 (idx x0.2.2.2.1 v4).bind fun x5 =>
 if decide ((List.length x5.2:Int)>x1)then
 some (.inr (.inr false))
 else
 some (.inl (IntKind.wrap .i64 (v4+1)))
 else
 some (.inr (.inl ()))
def Ba(N:Nat)(x0:Ql)(x1:Int):(Int)→Option ((Int)⊕((Unit)⊕(Bool))):=fun v6 =>
 if decide (v6<(List.length x0.2.2.2.2.2.1:Int))then
 (idx x0.2.2.2.2.2.1 v6).bind fun x7 =>
 if decide ((List.length x7.2.2.2.2:Int)>x1)then
 some (.inr (.inr false))
 else
 some (.inl (IntKind.wrap .i64 (v6+1)))
 else
 some (.inr (.inl ()))
def Bb(N:Nat)(x0:Ql)(x1:Int):(Int)→Option ((Int)⊕((Unit)⊕(Bool))):=fun v8 =>
 if decide (v8<(List.length x0.2.2.2.2.1:Int))then
 (idx x0.2.2.2.2.1 v8).bind fun x9 =>
 if decide ((List.length x9.2:Int)>x1)then
 some (.inr (.inr false))
 else
 some (.inl (IntKind.wrap .i64 (v8+1)))
 else
 some (.inr (.inl ()))
def Ei(N:Nat)(x0:Ql)(x1:Int):Option (Bool) :=
 if(((decide ((List.length x0.2.2.2.1:Int)>x1))||(decide ((List.length x0.2.2.2.2.1:Int)>x1)))||(decide ((List.length x0.2.2.2.2.2.1:Int)>x1)))||(decide ((List.length x0.2.2.2.2.2.2:Int)>x1))then
 some false
 else
 (Qg (A8 N x0 x1) N 0).bind fun
 | .inl _ =>
  (Qg (A9 N x0 x1) N 0).bind fun
  | .inl _ =>
   (Qg (Ba N x0 x1) N 0).bind fun
   | .inl _ =>
    (Qg (Bb N x0 x1) N 0).bind fun
    | .inl _ =>
     some true
    | .inr v10 =>
     some v10
   | .inr v11 =>
    some v11
  | .inr v12 =>
   some v12
 | .inr v13 =>
  some v13
def Wg(N:Nat)(x0:Int):Option ((List Bool)) :=
 if x0==1 then
 some ([true,false,false,true,true]:List Bool)
 else
 if x0==2 then
 some ([true,false,false,false,false]:List Bool)
 else
 if x0==3 then
 some ([true,true,false,true,false]:List Bool)
 else
 (if x0==5 then
 some (x0==5)
 else
 some (x0==6):Option ((Bool))).bind fun v1 =>
 if v1 then
 some ([false,true,true,false,false]:List Bool)
 else
 (if x0==7 then
 some (x0==7)
 else
 if x0==8 then
 some (x0==8)
 else
 some (x0==9):Option ((Bool))).bind fun v2 =>
 if v2 then
 some ([false,true,false,true,false]:List Bool)
 else
 (if x0==14 then
 some (x0==14)
 else
 some (x0==15):Option ((Bool))).bind fun v3 =>
 if v3 then
 some ([true,false,false,false,true]:List Bool)
 else
 some ([false,true,false,false,false]:List Bool)
def Ea(N:Nat)(x0:Int):Option (Bool) :=
 some ((decide (x0≥1))&&(decide (x0≤9999)))
def Dc(N:Nat)(x0:Str):(Int)→Option ((Int)⊕((Unit)⊕(Bool))):=fun v7 =>
 if decide (v7<(List.length x0:Int))then
 (B4 x0 v7).bind fun c8 =>
 (if decide (c8<97)then
 some true
 else
 (B4 x0 v7).bind fun c10 =>
 some (decide (c10>122)):Option (Bool)).bind fun v11 =>
 (if v11 then
 (B4 x0 v7).bind fun c15 =>
 (if decide (c15<48)then
 some true
 else
 (B4 x0 v7).bind fun c17 =>
 some (decide (c17>57)):Option (Bool)).bind fun v18 =>
 some v18
 else
 some false:Option (Bool)).bind fun v19 =>
 (if v19 then
 (B4 x0 v7).bind fun c21 =>
 some (c21 != 45)
 else
 some false:Option (Bool)).bind fun v22 =>
 if v22 then
 some (.inr (.inr false))
 else
 some (.inl (IntKind.wrap .i64 (v7+1)))
 else
 some (.inr (.inl ()))
def Vh(N:Nat)(x0:Str):Option (Bool) :=
 (if(decide ((List.length x0:Int)<1))||(decide ((List.length x0:Int)>24))then
 some true
 else
 (B4 x0 0).bind fun c2 =>
 some (decide (c2<97)):Option (Bool)).bind fun v3 =>
 (if v3 then
 some true
 else
 (B4 x0 0).bind fun c5 =>
 some (decide (c5>122)):Option (Bool)).bind fun v6 =>
 if v6 then
 some false
 else
 (Qg (Dc N x0) N 0).bind fun
 | .inl _ =>
  some true
 | .inr v23 =>
  some v23
def Bc(N:Nat)(x0:Str):(Int)→Option ((Int)⊕((Unit)⊕(Bool))):=fun v1 =>
 if decide (v1<(List.length x0:Int))then
 (B4 x0 v1).bind fun c2 =>
 (if decide (c2<48)then
 some true
 else
 (B4 x0 v1).bind fun c4 =>
 some (decide (c4>57)):Option (Bool)).bind fun v5 =>
 if v5 then
 some (.inr (.inr false))
 else
 some (.inl (IntKind.wrap .i64 (v1+1)))
 else
 some (.inr (.inl ()))
def Xb(N:Nat)(x0:Str):Option (Bool) :=
 (Qg (Bc N x0) N 0).bind fun
 | .inl _ =>
  some ((decide ((List.length x0:Int)≥1))&&(decide ((List.length x0:Int)≤15)))
 | .inr v6 =>
  some v6
def Ej(N:Nat)(x0:Qv):Option (Bool) :=
 if x0.2.1==1 then
 some ((decide (x0.2.2.2.2.2.2≥1))&&(decide (x0.2.2.2.2.2.2≤28)))
 else
 if x0.2.1==14 then
 some ((decide (x0.2.2.2.2.2.2≥1))&&(decide (x0.2.2.2.2.2.2≤1125899906842624)))
 else
 some ((decide (x0.2.2.2.2.2.2≥(-1125899906842624)))&&(decide (x0.2.2.2.2.2.2≤0)))
def F5(N:Nat)(x0:Qv)(x1:Int):Option (Int) :=
 if(decide (x0.2.1<1))||(decide (x0.2.1>15))then
 some 7
 else
 if(decide (x0.1<0))||(decide (x0.1≥12622780800))then
 some 15
 else
 if decide (x0.1<x1)then
 some 9
 else
 (Wg N x0.2.1).bind fun r1 =>
 (idx r1 0).bind fun _ =>
 (idx r1 0).bind fun x2 =>
 (if(!x2)&&(x0.2.2.1 != 0)then
 some true
 else
 (idx r1 1).bind fun _ =>
 (idx r1 1).bind fun x4 =>
 some ((!x4)&&(x0.2.2.2.1 != 0)):Option (Bool)).bind fun v5 =>
 (if v5 then
 some true
 else
 (idx r1 2).bind fun _ =>
 (idx r1 2).bind fun x7 =>
 some ((!x7)&&(!(x0.2.2.2.2.1==([]:Str)))):Option (Bool)).bind fun v8 =>
 (if v8 then
 some true
 else
 (idx r1 3).bind fun _ =>
 (idx r1 3).bind fun x10 =>
 some ((!x10)&&(!(x0.2.2.2.2.2.1==([]:Str)))):Option (Bool)).bind fun v11 =>
 (if v11 then
 some true
 else
 (idx r1 4).bind fun _ =>
 (idx r1 4).bind fun x13 =>
 some ((!x13)&&(x0.2.2.2.2.2.2 != 0)):Option (Bool)).bind fun v14 =>
 if v14 then
 some 8
 else
 (idx r1 0).bind fun _ =>
 (idx r1 0).bind fun x15 =>
 (if x15 then
 (Ea N x0.2.2.1).bind fun r17 =>
 some (!r17)
 else
 some false:Option (Bool)).bind fun v18 =>
 (if v18 then
 some true
 else
 (idx r1 1).bind fun _ =>
 (idx r1 1).bind fun x20 =>
 (if x20 then
 (Ea N x0.2.2.2.1).bind fun r23 =>
 some (!r23)
 else
 some false:Option (Bool)).bind fun v24 =>
 some v24:Option (Bool)).bind fun v25 =>
 if v25 then
 some 6
 else
 (idx r1 3).bind fun _ =>
 (idx r1 3).bind fun x26 =>
 (if x26 then
 (Vh N x0.2.2.2.2.2.1).bind fun r28 =>
 some (!r28)
 else
 some false:Option (Bool)).bind fun v29 =>
 if v29||(((x0.2.1==1)&&(!(x0.2.2.2.2.2.1==([112,114,101,112,97,105,100]:Str))))&&(!(x0.2.2.2.2.2.1==([112,111,115,116,112,97,105,100]:Str))))then
 some 8
 else
 (idx r1 2).bind fun _ =>
 (idx r1 2).bind fun x30 =>
 (if x30 then
 (Xb N x0.2.2.2.2.1).bind fun r32 =>
 some (!r32)
 else
 some false:Option (Bool)).bind fun v33 =>
 if v33 then
 some 12
 else
 (idx r1 4).bind fun _ =>
 (idx r1 4).bind fun x34 =>
 (if x34 then
 (Ej N x0).bind fun r36 =>
 some (!r36)
 else
 some false:Option (Bool)).bind fun v37 =>
 if v37 then
 some 6
 else
 some 0
def Gb(N:Nat)(x0:Jq)(x1:Int):(Int)→Option ((Int)⊕((Unit)⊕(Int))):=fun v1 =>
 if decide (v1<(List.length x0.1:Int))then
 (idx x0.1 v1).bind fun x2 =>
 if x2.1==x1 then
 some (.inr (.inr v1))
 else
 some (.inl (IntKind.wrap .i64 (v1+1)))
 else
 some (.inr (.inl ()))
def V9(N:Nat)(x0:Jq)(x1:Int):Option (Int) :=
 (Qg (Gb N x0 x1) N 0).bind fun
 | .inl _ =>
  some (-1)
 | .inr v3 =>
  some v3
def F6(N:Nat)(x0:Jq)(x1:Int):(Int)→Option ((Int)⊕((Unit)⊕(Int))):=fun v1 =>
 if decide (v1<(List.length x0.2.1:Int))then
 (idx x0.2.1 v1).bind fun x2 =>
 if x2.1==x1 then
 some (.inr (.inr v1))
 else
 some (.inl (IntKind.wrap .i64 (v1+1)))
 else
 some (.inr (.inl ()))
def Uk(N:Nat)(x0:Jq)(x1:Int):Option (Int) :=
 (Qg (F6 N x0 x1) N 0).bind fun
 | .inl _ =>
  some (-1)
 | .inr v3 =>
  some v3
def Bd(N:Nat)(x0:Jq)(x1:Int):(Int)→Option ((Int)⊕((Unit)⊕(Bool))):=fun v1 =>
 if decide (v1<(List.length x0.2.2:Int))then
 (idx x0.2.2 v1).bind fun x2 =>
 if x2==x1 then
 some (.inr (.inr true))
 else
 some (.inl (IntKind.wrap .i64 (v1+1)))
 else
 some (.inr (.inl ()))
def Xc(N:Nat)(x0:Jq)(x1:Int):Option (Bool) :=
 (Qg (Bd N x0 x1) N 0).bind fun
 | .inl _ =>
  some false
 | .inr v3 =>
  some v3
def Dd(N:Nat)(x0:Jq)(x1:Int):(Int)→Option ((Int)⊕((Unit)⊕(Bool))):=fun v1 =>
 if decide (v1<(List.length x0.2.1:Int))then
 ((idx x0.2.1 v1).bind fun x2 =>
 if x2.2.1==x1 then
 (idx x0.2.1 v1).bind fun x3 =>
 (Xc N x0 x3.1).bind fun r4 =>
 some (!r4)
 else
 some false:Option ((Bool))).bind fun v5 =>
 if v5 then
 some (.inr (.inr true))
 else
 some (.inl (IntKind.wrap .i64 (v1+1)))
 else
 some (.inr (.inl ()))
def F7(N:Nat)(x0:Jq)(x1:Int):Option (Bool) :=
 (Qg (Dd N x0 x1) N 0).bind fun
 | .inl _ =>
  some false
 | .inr v6 =>
  some v6
def Xd(N:Nat)(x0:Jq)(x1:Qv):Option (Int) :=
 (V9 N x0 x1.2.2.1).bind fun r1 =>
 if x1.2.1==1 then
 if decide (r1≥0)then
 some 10
 else
 some 0
 else
 if decide (r1<0)then
 some 11
 else
 (idx x0.1 r1).bind fun x2 =>
 if x2.2.2.2.2.1 then
 some 17
 else
 (if x1.2.1==3 then
 (Uk N x0 x1.2.2.2.1).bind fun r4 =>
 some (decide (r4≥0))
 else
 some false:Option (Bool)).bind fun v5 =>
 if v5 then
 some 10
 else
 (if x1.2.1==2 then
 (F7 N x0 x1.2.2.1).bind fun r7 =>
 some r7
 else
 some false:Option (Bool)).bind fun v8 =>
 (if v8 then
 some true
 else
 (if decide (x1.2.1>13)then
 (idx x0.1 r1).bind fun x12 =>
 some (!x12.2.2.2.1)
 else
 some false:Option (Bool)).bind fun v13 =>
 some v13:Option (Bool)).bind fun v14 =>
 if v14 then
 some 22
 else
 some 0
def Ir(N:Nat)(x0:(List Str))(x1:Str):(Int)→Option ((Int)⊕((Unit)⊕(Bool))):=fun v1 =>
 if decide (v1<(List.length x0:Int))then
 (idx x0 v1).bind fun x2 =>
 if x2==x1 then
 some (.inr (.inr true))
 else
 some (.inl (IntKind.wrap .i64 (v1+1)))
 else
 some (.inr (.inl ()))
def Ux(N:Nat)(x0:(List Str))(x1:Str):Option (Bool) :=
 (Qg (Ir N x0 x1) N 0).bind fun
 | .inl _ =>
  some false
 | .inr v3 =>
  some v3
def Be(N:Nat)(x0:Jq)(x1:Str):(Int)→Option ((Int)⊕((Unit)⊕(Bool))):=fun v1 =>
 if decide (v1<(List.length x0.2.1:Int))then
 (idx x0.2.1 v1).bind fun x2 =>
 (Ux N x2.2.2.2.2.1 x1).bind fun r3 =>
 if r3 then
 some (.inr (.inr true))
 else
 some (.inl (IntKind.wrap .i64 (v1+1)))
 else
 some (.inr (.inl ()))
def Ek(N:Nat)(x0:Jq)(x1:Str):Option (Bool) :=
 (Qg (Be N x0 x1) N 0).bind fun
 | .inl _ =>
  some false
 | .inr v4 =>
  some v4
def El(N:Nat)(x0:Jq)(x1:Qv):Option (Int) :=
 (Uk N x0 x1.2.2.2.1).bind fun r1 =>
 if decide (r1<0)then
 some 11
 else
 (Xc N x0 x1.2.2.2.1).bind fun r2 =>
 if r2 then
 some 17
 else
 (idx x0.2.1 r1).bind fun x3 =>
 (if x1.2.1==5 then
 (Ek N x0 x1.2.2.2.2.1).bind fun r4 =>
 if r4 then
 some (.inr 12)
 else
 some (.inl ())
 else
 if x1.2.1==6 then
 (Ux N x3.2.2.2.2.1 x1.2.2.2.2.1).bind fun r5 =>
 if !r5 then
 some (.inr 12)
 else
 some (.inl ())
 else
 if x1.2.1==8 then
 (Ux N x3.2.2.2.2.2.1 x1.2.2.2.2.2.1).bind fun r6 =>
 if r6 then
 some (.inr 10)
 else
 some (.inl ())
 else
 if x1.2.1==9 then
 (Ux N x3.2.2.2.2.2.1 x1.2.2.2.2.2.1).bind fun r7 =>
 if !r7 then
 some (.inr 11)
 else
 some (.inl ())
 else
 (if x1.2.1==10 then
 some (x1.2.1==10)
 else
 some (x1.2.1==11):Option ((Bool))).bind fun v8 =>
 if v8 then
 if x3.2.2.2.2.2.2.1==(x1.2.1==10)then
 some (.inr 22)
 else
 some (.inl ())
 else
 (if x1.2.1==12 then
 some (x1.2.1==12)
 else
 some (x1.2.1==13):Option ((Bool))).bind fun v9 =>
 if v9 then
 if x3.2.2.2.2.2.2.2==(x1.2.1==12)then
 some (.inr 22)
 else
 some (.inl ())
 else
 some (.inl ()):Option ((Unit)⊕(Int))).bind fun
 | .inl _ =>
  some 0
 | .inr v10 =>
  some v10
def Em(N:Nat)(x0:Jq)(x1:Qv)(x2:Int):Option (Int) :=
 (F5 N x1 x2).bind fun r1 =>
 if r1 != 0 then
 some r1
 else
 (Wg N x1.2.1).bind fun r2 =>
 (idx r2 0).bind fun x3 =>
 if x3 then
 (Xd N x0 x1).bind fun r4 =>
 some r4
 else
 (El N x0 x1).bind fun r5 =>
 some r5
def Df(N:Nat)(x0:(List Str))(x1:Str):(Int)→Option ((Int)⊕((Int))):=fun v1 =>
 (if decide (v1<(List.length x0:Int))then
 (idx x0 v1).bind fun x3 =>
 some (Op.bytesLess x3 x1)
 else
 some false:Option (Bool)).bind fun v4 =>
 if v4 then
 some (.inl (IntKind.wrap .i64 (v1+1)))
 else
 some (.inr v1)
def Wh(N:Nat)(x0:(List Str))(x1:Str):Option ((List Str)) :=
 (Qg (Df N x0 x1) N 0).bind fun v5 =>
 (slc x0 0 v5).bind fun s6 =>
 (app 16 ([]:List Str) s6).bind fun q7 =>
 (app 16 q7 ([x1]:List Str)).bind fun q8 =>
 (slc x0 v5 (List.length x0:Int)).bind fun s9 =>
 (app 16 q8 s9).bind fun q10 =>
 some q10
def Fh(N:Nat)(x0:(List Str))(x1:Str):(Int×(List Str))→Option ((Int×(List Str))⊕(((List Str)))):=fun w2 =>
 if decide (w2.1<(List.length x0:Int))then
 ((idx x0 w2.1).bind fun x6 =>
 if !(x6==x1)then
 (idx x0 w2.1).bind fun x7 =>
 (app 16 w2.2 ([x7]:List Str)).bind fun q8 =>
 some q8
 else
 some w2.2:Option (((List Str)))).bind fun v9 =>
 some (.inl ((IntKind.wrap .i64 (w2.1+1)),v9))
 else
 some (.inr w2.2)
def Z0(N:Nat)(x0:(List Str))(x1:Str):Option ((List Str)) :=
 (Qg (Fh N x0 x1) N (0,([]:List Str))).bind fun v10 =>
 some v10
def Gc(N:Nat)(x0:Jo)(x1:Qv):Option (Jo) :=
 (if x1.2.1==4 then
 some (x0.1,x0.2.1,x0.2.2.1,x0.2.2.2.1,([]:List Str),([]:List Str),x0.2.2.2.2.2.2.1,x0.2.2.2.2.2.2.2)
 else
 if x1.2.1==5 then
 (Wh N x0.2.2.2.2.1 x1.2.2.2.2.1).bind fun r1 =>
 some (x0.1,x0.2.1,x0.2.2.1,x0.2.2.2.1,r1,x0.2.2.2.2.2.1,x0.2.2.2.2.2.2.1,x0.2.2.2.2.2.2.2)
 else
 if x1.2.1==6 then
 (Z0 N x0.2.2.2.2.1 x1.2.2.2.2.1).bind fun r2 =>
 some (x0.1,x0.2.1,x0.2.2.1,x0.2.2.2.1,r2,x0.2.2.2.2.2.1,x0.2.2.2.2.2.2.1,x0.2.2.2.2.2.2.2)
 else
 if x1.2.1==7 then
 some (x0.1,x0.2.1,x0.2.2.1,x1.2.2.2.2.2.1,x0.2.2.2.2.1,x0.2.2.2.2.2.1,x0.2.2.2.2.2.2.1,x0.2.2.2.2.2.2.2)
 else
 if x1.2.1==8 then
 (Wh N x0.2.2.2.2.2.1 x1.2.2.2.2.2.1).bind fun r3 =>
 some (x0.1,x0.2.1,x0.2.2.1,x0.2.2.2.1,x0.2.2.2.2.1,r3,x0.2.2.2.2.2.2.1,x0.2.2.2.2.2.2.2)
 else
 if x1.2.1==9 then
 (Z0 N x0.2.2.2.2.2.1 x1.2.2.2.2.2.1).bind fun r4 =>
 some (x0.1,x0.2.1,x0.2.2.1,x0.2.2.2.1,x0.2.2.2.2.1,r4,x0.2.2.2.2.2.2.1,x0.2.2.2.2.2.2.2)
 else
 if x1.2.1==10 then
 some (x0.1,x0.2.1,x0.2.2.1,x0.2.2.2.1,x0.2.2.2.2.1,x0.2.2.2.2.2.1,true,x0.2.2.2.2.2.2.2)
 else
 if x1.2.1==11 then
 some (x0.1,x0.2.1,x0.2.2.1,x0.2.2.2.1,x0.2.2.2.2.1,x0.2.2.2.2.2.1,false,x0.2.2.2.2.2.2.2)
 else
 if x1.2.1==12 then
 some (x0.1,x0.2.1,x0.2.2.1,x0.2.2.2.1,x0.2.2.2.2.1,x0.2.2.2.2.2.1,x0.2.2.2.2.2.2.1,true)
 else
 if x1.2.1==13 then
 some (x0.1,x0.2.1,x0.2.2.1,x0.2.2.2.1,x0.2.2.2.2.1,x0.2.2.2.2.2.1,x0.2.2.2.2.2.2.1,false)
 else
 some (x0.1,x0.2.1,x0.2.2.1,x0.2.2.2.1,x0.2.2.2.2.1,x0.2.2.2.2.2.1,x0.2.2.2.2.2.2.1,x0.2.2.2.2.2.2.2):Option ((Int×Int×Int×Str×(List Str)×(List Str)×Bool×Bool))).bind fun w5 =>
 some (w5.1,w5.2.1,w5.2.2.1,w5.2.2.2.1,w5.2.2.2.2.1,w5.2.2.2.2.2.1,w5.2.2.2.2.2.2.1,w5.2.2.2.2.2.2.2)
def Eo(N:Nat)(x0:Jq)(x1:Qv):Option ((List Qm)×(List Jo)×(List Int)) :=
 (app 56 ([]:List Qm) x0.1).bind fun q1 =>
 (app 96 ([]:List Jo) x0.2.1).bind fun q2 =>
 (app 8 ([]:List Int) x0.2.2).bind fun q3 =>
 (if x1.2.1==1 then
 (app 56 q1 ([(x1.2.2.1,x1.1,x1.2.2.2.2.2.2,(x1.2.2.2.2.2.1==([112,114,101,112,97,105,100]:Str)),false,([]:List Int))]:List Qm)).bind fun q12 =>
 some (.inl (q12,q2,q3))
 else
 if x1.2.1==2 then
 (V9 N x0 x1.2.2.1).bind fun r14 =>
 (idx q1 r14).bind fun _ =>
 (idx q1 r14).bind fun y15 =>
 some (.inl ((List.set q1 (Int.toNat r14) (y15.1,y15.2.1,y15.2.2.1,y15.2.2.2.1,true,y15.2.2.2.2.2)),q2,q3))
 else
 if x1.2.1==3 then
 (app 96 q2 ([(x1.2.2.2.1,x1.2.2.1,x1.1,x1.2.2.2.2.2.1,([]:List Str),([]:List Str),false,false)]:List Jo)).bind fun q16 =>
 some (.inl (q1,q16,q3))
 else
 (if x1.2.1==14 then
 some (x1.2.1==14)
 else
 some (x1.2.1==15):Option ((Bool))).bind fun v17 =>
 if v17 then
 some (.inr (q1,q2,q3))
 else
 (Uk N x0 x1.2.2.2.1).bind fun r18 =>
 (idx q2 r18).bind fun _ =>
 (idx q2 r18).bind fun x19 =>
 (Gc N x19 x1).bind fun r20 =>
 (idx q2 r18).bind fun _ =>
 (idx q2 r18).bind fun y21 =>
 if x1.2.1==4 then
 (app 8 q3 ([x1.2.2.2.1]:List Int)).bind fun q22 =>
 some (.inl (q1,(List.set q2 (Int.toNat r18) r20),q22))
 else
 some (.inl (q1,(List.set q2 (Int.toNat r18) r20),q3)):Option (((List Qm)×(List Jo)×(List Int))⊕((List Qm)×(List Jo)×(List Int)))).bind fun
 | .inl w23 =>
  some (w23.1,w23.2.1,w23.2.2)
 | .inr w26 =>
  some (w26.1,w26.2.1,w26.2.2)
def Bf(N:Nat)(x0:(List Qv)):(Int×Int×(List Qm)×(List Jo)×(List Int))→Option ((Int×Int×(List Qm)×(List Jo)×(List Int))⊕((Unit)⊕(Int×Int))):=fun w5 =>
 if decide (w5.2.1<(List.length x0:Int))then
 (idx x0 w5.2.1).bind fun x10 =>
 (Em N (w5.2.2.1,w5.2.2.2.1,w5.2.2.2.2) x10 w5.1).bind fun r13 =>
 if r13 != 0 then
 some (.inr (.inr (w5.2.1,r13)))
 else
 (idx x0 w5.2.1).bind fun x14 =>
 (Eo N (w5.2.2.1,w5.2.2.2.1,w5.2.2.2.2) x14).bind fun w17 =>
 (idx x0 w5.2.1).bind fun x20 =>
 some (.inl (x20.1,(IntKind.wrap .i64 (w5.2.1+1)),w17.1,w17.2.1,w17.2.2))
 else
 some (.inr (.inl ()))
def Ep(N:Nat)(x0:(List Qv)):Option (Int×Int) :=
 if decide ((List.length x0:Int)>4096)then
 some (0,5)
 else
 (Qg (Bf N x0) N (0,0,([]:List Qm),([]:List Jo),([]:List Int))).bind fun
 | .inl _ =>
  some (0,0)
 | .inr w21 =>
  some (w21.1,w21.2)
def Bg(N:Nat)(x0:(List Str)):(Int)→Option ((Int)⊕((Unit)⊕(Int))):=fun v1 =>
 if decide (v1<(List.length x0:Int))then
 (idx x0 v1).bind fun x2 =>
 (Vh N x2).bind fun r3 =>
 if !r3 then
 some (.inr (.inr 8))
 else
 some (.inl (IntKind.wrap .i64 (v1+1)))
 else
 some (.inr (.inl ()))
def Bh(N:Nat)(x0:(List Str)):(Int)→Option ((Int)⊕((Unit)⊕(Int))):=fun v4 =>
 if decide (v4<(List.length x0:Int))then
 (idx x0 (IntKind.wrap .i64 (v4 - 1))).bind fun x5 =>
 (idx x0 v4).bind fun x6 =>
 if !(Op.bytesLess x5 x6)then
 some (.inr (.inr 9))
 else
 some (.inl (IntKind.wrap .i64 (v4+1)))
 else
 some (.inr (.inl ()))
def Er(N:Nat)(x0:(List Str)):Option (Int) :=
 if decide ((List.length x0:Int)>64)then
 some 5
 else
 (Qg (Bg N x0) N 0).bind fun
 | .inl _ =>
  (Qg (Bh N x0) N 1).bind fun
  | .inl _ =>
   some 0
  | .inr v7 =>
   some v7
 | .inr v8 =>
  some v8
def Ho(N:Nat)(x0:J4):Option (Int) :=
 if(decide (x0.1<1))||(decide (x0.1≥5))then
 some 7
 else
 (Er N x0.2.1).bind fun r1 =>
 if r1 != 0 then
 some r1
 else
 if(((((decide (x0.2.2.1<1))||(decide (x0.2.2.1>1099511627776)))||(decide (x0.2.2.2.1<0)))||(decide (x0.2.2.2.1>1099511627776)))||(decide (x0.2.2.2.2.1<0)))||(decide (x0.2.2.2.2.1>99))then
 some 6
 else
 some 0
def Is(N:Nat)(x0:Qn):(Int)→Option ((Int)⊕((Unit)⊕(Int))):=fun v3 =>
 if decide (v3<(List.length x0.2.2.2.2.2:Int))then
 (idx x0.2.2.2.2.2 v3).bind fun x4 =>
 (Ho N x4).bind fun r5 =>
 if r5 != 0 then
 some (.inr (.inr r5))
 else
 some (.inl (IntKind.wrap .i64 (v3+1)))
 else
 some (.inr (.inl ()))
def Cf(N:Nat)(x0:Qn):Option (Int) :=
 (Vh N x0.1).bind fun r1 =>
 if !r1 then
 some 8
 else
 if(decide (x0.2.1<0))||(decide (x0.2.1≥12622780800))then
 some 15
 else
 if(decide (x0.2.2.1<0))||(decide (x0.2.2.1>1125899906842624))then
 some 6
 else
 (Vh N x0.2.2.2.1).bind fun r2 =>
 if !r2 then
 some 8
 else
 if decide ((List.length x0.2.2.2.2.2:Int)>64)then
 some 5
 else
 (Qg (Is N x0) N 0).bind fun
 | .inl _ =>
  some 0
 | .inr v6 =>
  some v6
def Bi(N:Nat)(x0:(List Qn)):(Int)→Option ((Int)⊕((Unit)⊕(Int))):=fun v1 =>
 if decide (v1<(List.length x0:Int))then
 (idx x0 v1).bind fun x2 =>
 (Cf N x2).bind fun r3 =>
 if r3 != 0 then
 some (.inr (.inr r3))
 else
 (if decide (v1>0)then
 (idx x0 (IntKind.wrap .i64 (v1 - 1))).bind fun x18 =>
 (idx x0 v1).bind fun x19 =>
 (if !(Op.bytesLess x18.1 x19.1||x18.1==x19.1)then
 some true
 else
 (idx x0 (IntKind.wrap .i64 (v1 - 1))).bind fun x26 =>
 (idx x0 v1).bind fun x27 =>
 (if x26.1==x27.1 then
 (idx x0 (IntKind.wrap .i64 (v1 - 1))).bind fun x30 =>
 (idx x0 v1).bind fun x31 =>
 some (decide (x30.2.1≥x31.2.1))
 else
 some false:Option (Bool)).bind fun v32 =>
 some v32:Option (Bool)).bind fun v33 =>
 some v33
 else
 some false:Option (Bool)).bind fun v34 =>
 if v34 then
 some (.inr (.inr 9))
 else
 some (.inl (IntKind.wrap .i64 (v1+1)))
 else
 some (.inr (.inl ()))
def Es(N:Nat)(x0:(List Qn)):Option (Int) :=
 if decide ((List.length x0:Int)>4096)then
 some 5
 else
 (Qg (Bi N x0) N 0).bind fun
 | .inl _ =>
  some 0
 | .inr v35 =>
  some v35
def Xe(N:Nat)(x0:Int):Option (Bool) :=
 some ((decide (x0≥97))&&(decide (x0≤122)))
def Et(N:Nat)(x0:Int):Option (Bool) :=
 some ((decide (x0≥48))&&(decide (x0≤57)))
def Dg(N:Nat)(x0:Str):(Int)→Option ((Int)⊕((Unit)⊕(Bool))):=fun v5 =>
 if decide (v5<(List.length x0:Int))then
 (B4 x0 v5).bind fun c6 =>
 (Xe N c6).bind fun r7 =>
 (if !r7 then
 (B4 x0 v5).bind fun c9 =>
 (Et N c9).bind fun r10 =>
 some (!r10)
 else
 some false:Option (Bool)).bind fun v11 =>
 (if v11 then
 (B4 x0 v5).bind fun c13 =>
 some (c13 != 45)
 else
 some false:Option (Bool)).bind fun v14 =>
 if v14 then
 some (.inr (.inr false))
 else
 some (.inl (IntKind.wrap .i64 (v5+1)))
 else
 some (.inr (.inl ()))
def Wi(N:Nat)(x0:Str):Option (Bool) :=
 (if(decide ((List.length x0:Int)<1))||(decide ((List.length x0:Int)>24))then
 some true
 else
 (B4 x0 0).bind fun c2 =>
 (Xe N c2).bind fun r3 =>
 some (!r3):Option (Bool)).bind fun v4 =>
 if v4 then
 some false
 else
 (Qg (Dg N x0) N 0).bind fun
 | .inl _ =>
  some true
 | .inr v15 =>
  some v15
def Dh(N:Nat)(x0:Str):(Int)→Option ((Int)⊕((Unit)⊕(Bool))):=fun v7 =>
 if decide (v7<(List.length x0:Int))then
 (B4 x0 v7).bind fun c8 =>
 (if decide (c8≥97)then
 (B4 x0 v7).bind fun c10 =>
 some (decide (c10≤122))
 else
 some false:Option (Bool)).bind fun v11 =>
 (B4 x0 v7).bind fun c12 =>
 (if decide (c12≥48)then
 (B4 x0 v7).bind fun c14 =>
 some (decide (c14≤57))
 else
 some false:Option (Bool)).bind fun v15 =>
 (if(!v11)&&(!v15)then
 (B4 x0 v7).bind fun c17 =>
 some (c17 != 45)
 else
 some false:Option (Bool)).bind fun v18 =>
 if v18 then
 some (.inr (.inr false))
 else
 some (.inl (IntKind.wrap .i64 (v7+1)))
 else
 some (.inr (.inl ()))
def Wj(N:Nat)(x0:Str):Option (Bool) :=
 (if(decide ((List.length x0:Int)<1))||(decide ((List.length x0:Int)>24))then
 some true
 else
 (B4 x0 0).bind fun c2 =>
 some (decide (c2<97)):Option (Bool)).bind fun v3 =>
 (if v3 then
 some true
 else
 (B4 x0 0).bind fun c5 =>
 some (decide (c5>122)):Option (Bool)).bind fun v6 =>
 if v6 then
 some false
 else
 (Qg (Dh N x0) N 0).bind fun
 | .inl _ =>
  some true
 | .inr v19 =>
  some v19
def Fi(N:Nat)(x0:(List Qq))(v1:Int)(x1:Int)(x2:Int):(Int)→Option ((Int)⊕((Unit)⊕(Bool))):=fun v2 =>
 (idx x0 v1).bind fun x3 =>
 if decide (v2<(List.length x3.2:Int))then
 if(v1==x1)&&(decide (v2≥x2))then
 some (.inr (.inl ()))
 else
 (idx x0 v1).bind fun x4 =>
 (idx x4.2 v2).bind fun x5 =>
 (idx x0 x1).bind fun x6 =>
 (idx x6.2 x2).bind fun x7 =>
 if x5==x7 then
 some (.inr (.inr true))
 else
 some (.inl (IntKind.wrap .i64 (v2+1)))
 else
 some (.inr (.inl ()))
def Fj(N:Nat)(x1:Int)(x0:(List Qq))(x2:Int):(Int)→Option ((Int)⊕((Unit)⊕(Bool))):=fun v1 =>
 if decide (v1≤x1)then
 (Qg (Fi N x0 v1 x1 x2) N 0).bind fun
 | .inl _ =>
  some (.inl (IntKind.wrap .i64 (v1+1)))
 | .inr v8 =>
  some (.inr (.inr v8))
 else
 some (.inr (.inl ()))
def Ge(N:Nat)(x0:(List Qq))(x1:Int)(x2:Int):Option (Bool) :=
 (Qg (Fj N x1 x0 x2) N 0).bind fun
 | .inl _ =>
  some false
 | .inr v9 =>
  some v9
def Di(N:Nat)(x1:Int)(x0:(List Qq))(x2:Qq):(Int)→Option ((Int)⊕((Unit)⊕(Int))):=fun v4 =>
 if decide (v4<x1)then
 (idx x0 v4).bind fun x5 =>
 if x5.1==x2.1 then
 some (.inr (.inr 10))
 else
 some (.inl (IntKind.wrap .i64 (v4+1)))
 else
 some (.inr (.inl ()))
def Dj(N:Nat)(x2:Qq)(x0:(List Qq))(x1:Int):(Int)→Option ((Int)⊕((Unit)⊕(Int))):=fun v6 =>
 if decide (v6<(List.length x2.2:Int))then
 (idx x2.2 v6).bind fun x7 =>
 (Xb N x7).bind fun r8 =>
 if !r8 then
 some (.inr (.inr 12))
 else
 (Ge N x0 x1 v6).bind fun r9 =>
 if r9 then
 some (.inr (.inr 10))
 else
 some (.inl (IntKind.wrap .i64 (v6+1)))
 else
 some (.inr (.inl ()))
def F8(N:Nat)(x0:(List Qq))(x1:Int):Option (Int) :=
 (idx x0 x1).bind fun x2 =>
 (Wj N x2.1).bind fun r3 =>
 if !r3 then
 some 8
 else
 (Qg (Di N x1 x0 x2) N 0).bind fun
 | .inl _ =>
  if(List.length x2.2:Int)==0 then
  some 8
  else
  if decide ((List.length x2.2:Int)>64)then
  some 5
  else
  (Qg (Dj N x2 x0 x1) N 0).bind fun
  | .inl _ =>
   some 0
  | .inr v10 =>
   some v10
 | .inr v11 =>
  some v11
def Bj(N:Nat)(x0:(List Qq)):(Int)→Option ((Int)⊕((Unit)⊕(Int))):=fun v1 =>
 if decide (v1<(List.length x0:Int))then
 (F8 N x0 v1).bind fun r2 =>
 if r2 != 0 then
 some (.inr (.inr r2))
 else
 some (.inl (IntKind.wrap .i64 (v1+1)))
 else
 some (.inr (.inl ()))
def Eu(N:Nat)(x0:(List Qq)):Option (Int) :=
 if decide ((List.length x0:Int)>64)then
 some 5
 else
 (Qg (Bj N x0) N 0).bind fun
 | .inl _ =>
  some 0
 | .inr v3 =>
  some v3
def Bk(N:Nat)(x0:(List Kc)):(Int)→Option ((Int)⊕((Unit)⊕(Int))):=fun v1 =>
 if decide (v1<(List.length x0:Int))then
 (idx x0 v1).bind fun x2 =>
 if((((decide (x2.1<1))||(decide (x2.1>255)))||(decide (x2.2.1<0)))||(decide (x2.2.1≥x2.2.2)))||(decide (x2.2.2>1440))then
 some (.inr (.inr 6))
 else
 some (.inl (IntKind.wrap .i64 (v1+1)))
 else
 some (.inr (.inl ()))
def Ev(N:Nat)(x0:(List Kc))(x1:Bool):Option (Int) :=
 if x1 then
 if decide ((List.length x0:Int)>0)then
 some 8
 else
 some 0
 else
 if(List.length x0:Int)==0 then
 some 8
 else
 if decide ((List.length x0:Int)>64)then
 some 5
 else
 (Qg (Bk N x0) N 0).bind fun
 | .inl _ =>
  some 0
 | .inr v3 =>
  some v3
def Bl(N:Nat)(v1:Int)(x0:(List Qt)):(Int)→Option ((Int)⊕((Unit)⊕(Int))):=fun v4 =>
 if decide (v4<v1)then
 (idx x0 v4).bind fun x5 =>
 (idx x0 v1).bind fun x6 =>
 if x5.1==x6.1 then
 some (.inr (.inr 10))
 else
 some (.inl (IntKind.wrap .i64 (v4+1)))
 else
 some (.inr (.inl ()))
def Bm(N:Nat)(x0:(List Qt)):(Int)→Option ((Int)⊕((Unit)⊕(Int))):=fun v1 =>
 if decide (v1<(List.length x0:Int))then
 (idx x0 v1).bind fun x2 =>
 (Wj N x2.1).bind fun r3 =>
 if !r3 then
 some (.inr (.inr 8))
 else
 (Qg (Bl N v1 x0) N 0).bind fun
 | .inl _ =>
  (idx x0 v1).bind fun x7 =>
  (Ev N x7.2 ((IntKind.wrap .i64 (v1+1))==(List.length x0:Int))).bind fun r8 =>
  if r8 != 0 then
  some (.inr (.inr r8))
  else
  some (.inl (IntKind.wrap .i64 (v1+1)))
 | .inr v9 =>
  some (.inr (.inr v9))
 else
 some (.inr (.inl ()))
def Ew(N:Nat)(x0:(List Qt)):Option (Int) :=
 if(List.length x0:Int)==0 then
 some 8
 else
 if decide ((List.length x0:Int)>64)then
 some 5
 else
 (Qg (Bm N x0) N 0).bind fun
 | .inl _ =>
  some 0
 | .inr v10 =>
  some v10
def Dk(N:Nat)(x0:Ql)(x1:Str):(Int)→Option ((Int)⊕((Unit)⊕(Bool))):=fun v1 =>
 if decide (v1<(List.length x0.2.2.2.1:Int))then
 (idx x0.2.2.2.1 v1).bind fun x2 =>
 if x2.1==x1 then
 some (.inr (.inr true))
 else
 some (.inl (IntKind.wrap .i64 (v1+1)))
 else
 some (.inr (.inl ()))
def F9(N:Nat)(x0:Ql)(x1:Str):Option (Bool) :=
 (Qg (Dk N x0 x1) N 0).bind fun
 | .inl _ =>
  some (x1==([]:Str))
 | .inr v3 =>
  some v3
def Dl(N:Nat)(x0:Ql)(x1:Str):(Int)→Option ((Int)⊕((Unit)⊕(Bool))):=fun v1 =>
 if decide (v1<(List.length x0.2.2.2.2.1:Int))then
 (idx x0.2.2.2.2.1 v1).bind fun x2 =>
 if x2.1==x1 then
 some (.inr (.inr true))
 else
 some (.inl (IntKind.wrap .i64 (v1+1)))
 else
 some (.inr (.inl ()))
def Aa(N:Nat)(x0:Ql)(x1:Str):Option (Bool) :=
 (Qg (Dl N x0 x1) N 0).bind fun
 | .inl _ =>
  some (x1==([]:Str))
 | .inr v3 =>
  some v3
def Bn(N:Nat)(x0:(List Vs)):(Int×Int)→Option ((Int×Int)⊕((Unit)⊕(Int))):=fun w1 =>
 if decide (w1.2<(List.length x0:Int))then
 (idx x0 w1.2).bind fun x3 =>
 if(((((decide (x3.1<0))||(decide (x3.1>1099511627776)))||(decide (x3.2.1<1)))||(decide (x3.2.1>1099511627776)))||(decide (x3.2.2<0)))||(decide (x3.2.2>1125899906842624))then
 some (.inr (.inr 6))
 else
 if(x3.1==0) != (w1.2==(IntKind.wrap .i64 ((List.length x0:Int) - 1)))then
 some (.inr (.inr 8))
 else
 if(x3.1 != 0)&&(decide (x3.1≤w1.1))then
 some (.inr (.inr 9))
 else
 some (.inl (x3.1,(IntKind.wrap .i64 (w1.2+1))))
 else
 some (.inr (.inl ()))
def Xf(N:Nat)(x0:(List Vs)):Option (Int) :=
 if(List.length x0:Int)==0 then
 some 8
 else
 if decide ((List.length x0:Int)>64)then
 some 5
 else
 (Qg (Bn N x0) N (0,0)).bind fun
 | .inl _ =>
  some 0
 | .inr v4 =>
  some v4
def Bo(N:Nat)(x0:Ql):(Int)→Option ((Int)⊕((Unit)⊕(Int))):=fun v1 =>
 if decide (v1<(List.length x0.2.2.2.2.2.1:Int))then
 (idx x0.2.2.2.2.2.1 v1).bind fun x2 =>
 if(decide (x2.1<1))||(decide (x2.1≥5))then
 some (.inr (.inr 7))
 else
 (F9 N x0 x2.2.1).bind fun r3 =>
 (if !r3 then
 some true
 else
 (Aa N x0 x2.2.2.1).bind fun r5 =>
 some (!r5):Option (Bool)).bind fun v6 =>
 if v6 then
 some (.inr (.inr 11))
 else
 if(decide (x2.2.2.2.1<0))||(decide (x2.2.2.2.1>1125899906842624))then
 some (.inr (.inr 6))
 else
 (Xf N x2.2.2.2.2).bind fun r7 =>
 if r7 != 0 then
 some (.inr (.inr r7))
 else
 some (.inl (IntKind.wrap .i64 (v1+1)))
 else
 some (.inr (.inl ()))
def Ey(N:Nat)(x0:Ql):Option (Int) :=
 if decide ((List.length x0.2.2.2.2.2.1:Int)>64)then
 some 5
 else
 (Qg (Bo N x0) N 0).bind fun
 | .inl _ =>
  some 0
 | .inr v8 =>
  some v8
def Ez(N:Nat)(x0:Int):Option (Int) :=
 if(decide (x0≥1))&&(decide (x0≤3))then
 some 0
 else
 if x0==4 then
 some 1
 else
 if(decide (x0>4))&&(decide (x0<16))then
 some 2
 else
 some (-1)
def Iu(N:Nat)(x0:(List Str))(x1:Str):(Int)→Option ((Int)⊕((Unit)⊕(Bool))):=fun v1 =>
 if decide (v1<(List.length x0:Int))then
 (idx x0 v1).bind fun x2 =>
 if x2==x1 then
 some (.inr (.inr true))
 else
 some (.inl (IntKind.wrap .i64 (v1+1)))
 else
 some (.inr (.inl ()))
def G1(N:Nat)(x0:(List Str))(x1:Str):Option (Bool) :=
 (Qg (Iu N x0 x1) N 0).bind fun
 | .inl _ =>
  some false
 | .inr v3 =>
  some v3
def Un(N:Nat)(x0:Str):Option (Int) :=
 (G1 N ([([107,105,110,100]:Str),([117,110,105,116,115]:Str),([119,101,101,107,100,97,121]:Str),([109,105,110,117,116,101]:Str),([116,111,116,97,108]:Str),([115,112,101,110,116]:Str)]:List Str) x0).bind fun r1 =>
 if r1 then
 some 1
 else
 (G1 N ([([122,111,110,101]:Str),([98,97,110,100]:Str)]:List Str) x0).bind fun r2 =>
 if r2 then
 some 2
 else
 if x0==([102,97,109,105,108,121]:Str)then
 some 3
 else
 some 0
def Cg(N:Nat)(x0:Qj):Option (Int) :=
 (Ez N x0.x.1).bind fun r1 =>
 if r1 != (List.length x0.ks:Int)then
 some 7
 else
 if(x0.x.1==1)&&((decide (x0.x.2.1<0))||(decide (x0.x.2.1>1099511627776)))then
 some 6
 else
 if(x0.x.1==2)&&(decide ((List.length x0.x.2.2:Int)>200))then
 some 5
 else
 (if x0.x.1==3 then
 (Un N x0.x.2.2).bind fun r3 =>
 some (r3==0)
 else
 some false:Option (Bool)).bind fun v4 =>
 if v4 then
 some 11
 else
 some 0
def Hp(N:Nat)(x0:Qj)(x1:(List Int)):Option (Int) :=
 if x0.x.1==1 then
 some 1
 else
 if x0.x.1==2 then
 some 2
 else
 if x0.x.1==3 then
 (Un N x0.x.2.2).bind fun r1 =>
 some r1
 else
 if x0.x.1==4 then
 (idx x1 0).bind fun x2 =>
 if x2==3 then
 some 3
 else
 some 0
 else
 (idx x1 0).bind fun x3 =>
 (idx x1 1).bind fun x4 =>
 if x3 != x4 then
 some 0
 else
 ((if x0.x.1==5 then
 some (x0.x.1==5)
 else
 some (x0.x.1==6):Option ((Bool))).bind fun v5 =>
 if v5 then
 (idx x1 0).bind fun x6 =>
 if x6==3 then
 some (.inr 3)
 else
 some (.inl ())
 else
 (if x0.x.1==7 then
 some (x0.x.1==7)
 else
 some (x0.x.1==8):Option ((Bool))).bind fun v7 =>
 if v7 then
 (idx x1 0).bind fun x8 =>
 if x8 != 3 then
 some (.inr 3)
 else
 some (.inl ())
 else
 (if x0.x.1==9 then
 some (x0.x.1==9)
 else
 some (x0.x.1==10):Option ((Bool))).bind fun v9 =>
 if v9 then
 (idx x1 0).bind fun x10 =>
 if x10==1 then
 some (.inr 3)
 else
 some (.inl ())
 else
 (idx x1 0).bind fun x11 =>
 if x11==1 then
 some (.inr 1)
 else
 some (.inl ()):Option ((Unit)⊕(Int))).bind fun
 | .inl _ =>
  some 0
 | .inr v12 =>
  some v12
def Me(N:Nat)(self:Qj→Int →  Option (Int×Int))(x0:Qj)(x1:Int):(Int×(List Int))→Option ((Int×(List Int))⊕(((List Int))⊕(Int×Int))):=fun w3 =>
 if decide (w3.1<(List.length x0.ks:Int))then
 (idx x0.ks w3.1).bind fun x5 =>
 (self x5 (IntKind.wrap .i64 (x1+1))).bind fun w6 =>
 if w6.2 != 0 then
 some (.inr (.inr (0,w6.2)))
 else
 (app 8 w3.2 ([w6.1]:List Int)).bind fun q8 =>
 some (.inl ((IntKind.wrap .i64 (w3.1+1)),q8))
 else
 some (.inr (.inl w3.2))
def Vi(N:Nat):Nat→Qj→Int→Option (Int×Int)
 | 0,_,_=>none
 | n+1,x0,x1 =>
  if decide (x1>16)then
  some (0,24)
  else
  (Cg N x0).bind fun r1 =>
  if r1 != 0 then
  some (0,r1)
  else
  (Qg (Me N (Vi N n) x0 x1) N (0,([]:List Int))).bind fun
  | .inl v9 =>
   (Hp N x0 v9).bind fun r10 =>
   if r10==0 then
   some (0,7)
   else
   some (r10,0)
  | .inr w11 =>
   some (w11.1,w11.2)
def Qbd(N:Nat)(x0:Qj)(x1:Int):Option (Int×Int):=Vi N N x0 x1
def Ab(N:Nat)(x0:Qj):Option (Int×Int) :=
 (Qbd N x0 1).bind fun w1 =>
 some (w1.1,w1.2)
def G9(N:Nat)(v1:Int)(x0:Ql)(x2:Qk):(Int)→Option ((Int)⊕((Unit)⊕(Int))):=fun v4 =>
 if decide (v4<v1)then
 (idx x0.2.2.2.2.2.2 v4).bind fun x5 =>
 if x5.1==x2.1 then
 some (.inr (.inr 10))
 else
 some (.inl (IntKind.wrap .i64 (v4+1)))
 else
 some (.inr (.inl ()))
def Ha(N:Nat)(x0:Ql):(Int)→Option ((Int)⊕((Unit)⊕(Int))):=fun v1 =>
 if decide (v1<(List.length x0.2.2.2.2.2.2:Int))then
 (idx x0.2.2.2.2.2.2 v1).bind fun x2 =>
 (Wi N x2.1).bind fun r3 =>
 if !r3 then
 some (.inr (.inr 8))
 else
 (Qg (G9 N v1 x0 x2) N 0).bind fun
 | .inl _ =>
  (Ab N x2.2.1).bind fun w6 =>
  if w6.2 != 0 then
  some (.inr (.inr w6.2))
  else
  if w6.1 != 3 then
  some (.inr (.inr 7))
  else
  if(decide (x2.2.2<0))||(decide (x2.2.2>10000))then
  some (.inr (.inr 6))
  else
  some (.inl (IntKind.wrap .i64 (v1+1)))
 | .inr v8 =>
  some (.inr (.inr v8))
 else
 some (.inr (.inl ()))
def Xg(N:Nat)(x0:Ql):Option (Int) :=
 if decide ((List.length x0.2.2.2.2.2.2:Int)>64)then
 some 5
 else
 (Qg (Ha N x0) N 0).bind fun
 | .inl _ =>
  some 0
 | .inr v9 =>
  some v9
def Hq(N:Nat)(x0:Ql):Option (Int) :=
 (Wi N x0.1).bind fun r1 =>
 if !r1 then
 some 8
 else
 if(decide (x0.2.1<0))||(decide (x0.2.1≥12622780800))then
 some 15
 else
 (Eu N x0.2.2.2.1).bind fun r2 =>
 (if r2==0 then
 (Ew N x0.2.2.2.2.1).bind fun r3 =>
 some r3
 else
 some r2:Option ((Int))).bind fun v4 =>
 (if v4==0 then
 (Ey N x0).bind fun r5 =>
 some r5
 else
 some v4:Option ((Int))).bind fun v6 =>
 (if v6==0 then
 (Xg N x0).bind fun r7 =>
 some r7
 else
 some v6:Option ((Int))).bind fun v8 =>
 some v8
def E0(N:Nat)(x0:Ql)(x1:Ql):Option (Int) :=
 if(Op.bytesLess x0.1 x1.1)||((x0.1==x1.1)&&(decide (x0.2.1<x1.2.1)))then
 some (-1)
 else
 if(x0.1==x1.1)&&(x0.2.1==x1.2.1)then
 some 0
 else
 some 1
def Bp(N:Nat)(x0:(List Ql)):(Int)→Option ((Int)⊕((Unit)⊕(Int))):=fun v1 =>
 if decide (v1<(List.length x0:Int))then
 (idx x0 v1).bind fun x2 =>
 (Hq N x2).bind fun r3 =>
 if r3 != 0 then
 some (.inr (.inr r3))
 else
 (if decide (v1>0)then
 (idx x0 (IntKind.wrap .i64 (v1 - 1))).bind fun x4 =>
 (idx x0 v1).bind fun x5 =>
 (E0 N x4 x5).bind fun r6 =>
 some (decide (r6≥0))
 else
 some false:Option ((Bool))).bind fun v7 =>
 if v7 then
 some (.inr (.inr 9))
 else
 some (.inl (IntKind.wrap .i64 (v1+1)))
 else
 some (.inr (.inl ()))
def E1(N:Nat)(x0:(List Ql)):Option (Int) :=
 if decide ((List.length x0:Int)>4096)then
 some 5
 else
 (Qg (Bp N x0) N 0).bind fun
 | .inl _ =>
  some 0
 | .inr v8 =>
  some v8
def Bq(N:Nat)(x0:(List Kp)):(Int)→Option ((Int)⊕((Unit)⊕(Bool))):=fun v1 =>
 if decide (v1<(List.length x0:Int))then
 (idx x0 v1).bind fun x2 =>
 (Vh N x2.1).bind fun r3 =>
 if((((!r3)||(decide (x2.2.1<0)))||(decide (x2.2.1≥12622780800)))||(decide (x2.2.2<0)))||(decide (x2.2.2>10000))then
 some (.inr (.inr false))
 else
 (if decide (v1>0)then
 (idx x0 (IntKind.wrap .i64 (v1 - 1))).bind fun x11 =>
 (if Op.bytesLess x2.1 x11.1 then
 some true
 else
 (idx x0 (IntKind.wrap .i64 (v1 - 1))).bind fun x15 =>
 (if x2.1==x15.1 then
 (idx x0 (IntKind.wrap .i64 (v1 - 1))).bind fun x17 =>
 some (decide (x2.2.1≤x17.2.1))
 else
 some false:Option (Bool)).bind fun v18 =>
 some v18:Option (Bool)).bind fun v19 =>
 some v19
 else
 some false:Option (Bool)).bind fun v20 =>
 if v20 then
 some (.inr (.inr false))
 else
 some (.inl (IntKind.wrap .i64 (v1+1)))
 else
 some (.inr (.inl ()))
def E2(N:Nat)(x0:(List Kp)):Option (Bool) :=
 (Qg (Bq N x0) N 0).bind fun
 | .inl _ =>
  some (decide ((List.length x0:Int)≤4096))
 | .inr v21 =>
  some v21
def U7(N:Nat)(x0:Qa):Option (Bool) :=
 some (((decide (x0.1≥0))&&(decide (x0.1<x0.2)))&&(decide (x0.2≤12622780800)))
def Iv(N:Nat)(x0:(List Int))(x1:Int):(Bool×Int×(List Int))→Option ((Bool×Int×(List Int))⊕((Bool×(List Int)))):=fun w3 =>
 if decide (w3.2.1<(List.length x0:Int))then
 (((if !w3.1 then
 (idx x0 w3.2.1).bind fun x14 =>
 some (decide (x14≥x1))
 else
 some false:Option (Bool)).bind fun v15 =>
 if v15 then
 (app 8 w3.2.2 ([x1]:List Int)).bind fun q16 =>
 some (true,q16)
 else
 some (w3.1,w3.2.2):Option ((Bool×(List Int)))).bind fun w17 =>
 (idx x0 w3.2.1).bind fun x19 =>
 if x19 != x1 then
 (idx x0 w3.2.1).bind fun x20 =>
 (app 8 w17.2 ([x20]:List Int)).bind fun q21 =>
 some (w17.1,q21)
 else
 some (w17.1,w17.2):Option ((Bool×(List Int)))).bind fun w22 =>
 some (.inl (w22.1,(IntKind.wrap .i64 (w3.2.1+1)),w22.2))
 else
 some (.inr (w3.1,w3.2.2))
def G2(N:Nat)(x0:(List Int))(x1:Int):Option ((List Int)) :=
 (Qg (Iv N x0 x1) N (false,0,([]:List Int))).bind fun w24 =>
 (if !w24.1 then
 (app 8 w24.2 ([x1]:List Int)).bind fun q27 =>
 some q27
 else
 some w24.2:Option (((List Int)))).bind fun v28 =>
 some v28
def Ac(N:Nat)(x1:(List Qa)):((List Int)×Int)→Option (((List Int)×Int)⊕(((List Int)))):=fun w1 =>
 if decide (w1.2<(List.length x1:Int))then
 ((idx x1 w1.2).bind fun x3 =>
 (U7 N x3).bind fun r4 =>
 if r4 then
 (idx x1 w1.2).bind fun x5 =>
 (G2 N w1.1 x5.1).bind fun r6 =>
 (idx x1 w1.2).bind fun x7 =>
 (G2 N r6 x7.2).bind fun r8 =>
 some r8
 else
 some w1.1:Option (((List Int)))).bind fun v9 =>
 some (.inl (v9,(IntKind.wrap .i64 (w1.2+1))))
 else
 some (.inr w1.1)
def Ke(N:Nat)(x0:(List Int))(x1:(List Qa)):Option ((List Int)) :=
 (Qg (Ac N x1) N (x0,0)).bind fun v10 =>
 some v10
def X9(N:Nat)(x0:Qa)(x1:Int):Option (Bool) :=
 (U7 N x0).bind fun r1 =>
 some ((r1&&(decide (x1≥x0.1)))&&(decide (x1<x0.2)))
def Mf(N:Nat)(x0:(List Qa))(x1:Int):(Int)→Option ((Int)⊕((Unit)⊕(Bool))):=fun v1 =>
 if decide (v1<(List.length x0:Int))then
 (idx x0 v1).bind fun x2 =>
 (X9 N x2 x1).bind fun r3 =>
 if r3 then
 some (.inr (.inr true))
 else
 some (.inl (IntKind.wrap .i64 (v1+1)))
 else
 some (.inr (.inl ()))
def Eb(N:Nat)(x0:(List Qa))(x1:Int):Option (Bool) :=
 (Qg (Mf N x0 x1) N 0).bind fun
 | .inl _ =>
  some false
 | .inr v4 =>
  some v4
def Ad(N:Nat)(r2:(List Int))(x0:(List Qa))(x2:Bool)(x1:(List Qa))(x3:Bool):(Int×(List Qa))→Option ((Int×(List Qa))⊕(((List Qa)))):=fun w4 =>
 if decide ((IntKind.wrap .i64 (w4.1+1))<(List.length r2:Int))then
 ((idx r2 w4.1).bind fun x11 =>
 (Eb N x0 x11).bind fun r12 =>
 (if !r12 then
 some true
 else
 (if !x2 then
 (idx r2 w4.1).bind fun x31 =>
 (Eb N x1 x31).bind fun r32 =>
 some (r32 != x3)
 else
 some false:Option (Bool)).bind fun v33 =>
 some v33:Option (Bool)).bind fun v34 =>
 if v34 then
 some w4.2
 else
 (if decide ((List.length w4.2:Int)>0)then
 (idx w4.2 (IntKind.wrap .i64 ((List.length w4.2:Int) - 1))).bind fun _ =>
 (idx w4.2 (IntKind.wrap .i64 ((List.length w4.2:Int) - 1))).bind fun x37 =>
 (idx r2 w4.1).bind fun x38 =>
 some (x37.2==x38)
 else
 some false:Option (Bool)).bind fun v39 =>
 if v39 then
 (idx r2 (IntKind.wrap .i64 (w4.1+1))).bind fun x40 =>
 (idx w4.2 (IntKind.wrap .i64 ((List.length w4.2:Int) - 1))).bind fun _ =>
 (idx w4.2 (IntKind.wrap .i64 ((List.length w4.2:Int) - 1))).bind fun y41 =>
 some (List.set w4.2 (Int.toNat (IntKind.wrap .i64 ((List.length w4.2:Int) - 1))) (y41.1,x40))
 else
 (idx r2 w4.1).bind fun x42 =>
 (idx r2 (IntKind.wrap .i64 (w4.1+1))).bind fun x43 =>
 (app 16 w4.2 ([(x42,x43)]:List Qa)).bind fun q44 =>
 some q44:Option (((List Qa)))).bind fun v45 =>
 some (.inl ((IntKind.wrap .i64 (w4.1+1)),v45))
 else
 some (.inr w4.2)
def Hr(N:Nat)(x0:(List Qa))(x1:(List Qa))(x2:Bool)(x3:Bool):Option ((List Qa)) :=
 (Ke N ([]:List Int) x0).bind fun r1 =>
 (Ke N r1 x1).bind fun r2 =>
 (Qg (Ad N r2 x0 x2 x1 x3) N (0,([]:List Qa))).bind fun v46 =>
 some v46
def Hs(N:Nat)(x0:(List Qa))(x1:(List Qa)):Option ((List Qa)) :=
 (Hr N x0 x1 false true).bind fun r1 =>
 some r1
def Xh(N:Nat)(x0:Qa)(x1:Qa):Option (Qa×Bool) :=
 (Hs N ([x0]:List Qa) ([x1]:List Qa)).bind fun r1 =>
 if(List.length r1:Int)==0 then
 some ((0,0),false)
 else
 (idx r1 0).bind fun _ =>
 (idx r1 0).bind fun x2 =>
 some (x2,true)
def Gf(N:Nat)(v1:Int)(x0:(List Yh))(x2:Yh):(Int)→Option ((Int)⊕((Unit)⊕(Bool))):=fun v9 =>
 if decide (v9<v1)then
 (idx x0 v9).bind fun x10 =>
 (Xh N x10.2.2.2.1 x2.2.2.2.1).bind fun w11 =>
 if((w11.2&&(x10.1==x2.1))&&(x10.2.1==x2.2.1))&&(x10.2.2.1==x2.2.2.1)then
 some (.inr (.inr false))
 else
 some (.inl (IntKind.wrap .i64 (v9+1)))
 else
 some (.inr (.inl ()))
def Gg(N:Nat)(x0:(List Yh)):(Int)→Option ((Int)⊕((Unit)⊕(Bool))):=fun v1 =>
 if decide (v1<(List.length x0:Int))then
 (idx x0 v1).bind fun x2 =>
 (if(((decide (x2.1<1))||(decide (x2.1>999)))||(decide (x2.2.1<1)))||(decide (x2.2.1≥5))then
 some true
 else
 (U7 N x2.2.2.2.1).bind fun r4 =>
 some (!r4):Option (Bool)).bind fun v5 =>
 (if v5 then
 some true
 else
 (Xf N x2.2.2.2.2.1).bind fun r7 =>
 some (r7 != 0):Option (Bool)).bind fun v8 =>
 if(v8||(decide (x2.2.2.2.2.2<0)))||(decide (x2.2.2.2.2.2>1125899906842624))then
 some (.inr (.inr false))
 else
 (Qg (Gf N v1 x0 x2) N 0).bind fun
 | .inl _ =>
  some (.inl (IntKind.wrap .i64 (v1+1)))
 | .inr v13 =>
  some (.inr (.inr v13))
 else
 some (.inr (.inl ()))
def Kq(N:Nat)(x0:(List Yh)):Option (Bool) :=
 (Qg (Gg N x0) N 0).bind fun
 | .inl _ =>
  some (decide ((List.length x0:Int)≤4096))
 | .inr v14 =>
  some v14
def Br(N:Nat)(x0:Qz)(x1:Int):(Int)→Option ((Int)⊕((Unit)⊕(Bool))):=fun v1 =>
 if decide (v1<(List.length x0.2.1:Int))then
 (idx x0.2.1 v1).bind fun x2 =>
 (Ei N x2 x1).bind fun r3 =>
 if !r3 then
 some (.inr (.inr false))
 else
 some (.inl (IntKind.wrap .i64 (v1+1)))
 else
 some (.inr (.inl ()))
def Bs(N:Nat)(x0:Qz)(x1:Int):(Int)→Option ((Int)⊕((Unit)⊕(Bool))):=fun v4 =>
 if decide (v4<(List.length x0.2.2.2.2.2:Int))then
 (idx x0.2.2.2.2.2 v4).bind fun x5 =>
 if decide ((List.length x5.2.2.2.2.1:Int)>x1)then
 some (.inr (.inr false))
 else
 some (.inl (IntKind.wrap .i64 (v4+1)))
 else
 some (.inr (.inl ()))
def Bt(N:Nat)(x0:Qz)(x1:Int):(Int)→Option ((Int)⊕((Unit)⊕(Bool))):=fun v6 =>
 if decide (v6<(List.length x0.2.2.1:Int))then
 (idx x0.2.2.1 v6).bind fun x7 =>
 if decide ((List.length x7.2.2.2.2.2:Int)>x1)then
 some (.inr (.inr false))
 else
 some (.inl (IntKind.wrap .i64 (v6+1)))
 else
 some (.inr (.inl ()))
def Bu(N:Nat)(x0:Qz):(Int)→Option ((Int)⊕((Unit)⊕(Bool))):=fun v8 =>
 if decide (v8<(List.length x0.2.2.2.2.1:Int))then
 (idx x0.2.2.2.2.1 v8).bind fun x9 =>
 (if decide (x9<0)then
 some true
 else
 (idx x0.2.2.2.2.1 v8).bind fun x11 =>
 some (decide (x11≥146097)):Option (Bool)).bind fun v12 =>
 (if v12 then
 some true
 else
 (if decide (v8>0)then
 (idx x0.2.2.2.2.1 v8).bind fun x19 =>
 (idx x0.2.2.2.2.1 (IntKind.wrap .i64 (v8 - 1))).bind fun x20 =>
 some (decide (x19≤x20))
 else
 some false:Option (Bool)).bind fun v21 =>
 some v21:Option (Bool)).bind fun v22 =>
 if v22 then
 some (.inr (.inr false))
 else
 some (.inl (IntKind.wrap .i64 (v8+1)))
 else
 some (.inr (.inl ()))
def E3(N:Nat)(x0:Qz)(x1:Int):Option (Bool) :=
 if(((((decide ((List.length x0.1:Int)>x1))||(decide ((List.length x0.2.1:Int)>x1)))||(decide ((List.length x0.2.2.1:Int)>x1)))||(decide ((List.length x0.2.2.2.1:Int)>x1)))||(decide ((List.length x0.2.2.2.2.1:Int)>x1)))||(decide ((List.length x0.2.2.2.2.2:Int)>x1))then
 some false
 else
 (Qg (Br N x0 x1) N 0).bind fun
 | .inl _ =>
  (Qg (Bs N x0 x1) N 0).bind fun
  | .inl _ =>
   (Qg (Bt N x0 x1) N 0).bind fun
   | .inl _ =>
    (Qg (Bu N x0) N 0).bind fun
    | .inl _ =>
     (Ep N x0.1).bind fun w23 =>
     (if w23.2==0 then
     (Es N x0.2.2.1).bind fun r26 =>
     some (r26==0)
     else
     some false:Option (Bool)).bind fun v27 =>
     (if v27 then
     (E1 N x0.2.1).bind fun r29 =>
     some (r29==0)
     else
     some false:Option (Bool)).bind fun v30 =>
     (if v30 then
     (E2 N x0.2.2.2.1).bind fun r32 =>
     some r32
     else
     some false:Option (Bool)).bind fun v33 =>
     (if v33 then
     (Kq N x0.2.2.2.2.2).bind fun r35 =>
     some r35
     else
     some false:Option (Bool)).bind fun v36 =>
     some v36
    | .inr v37 =>
     some v37
   | .inr v38 =>
    some v38
  | .inr v39 =>
   some v39
 | .inr v40 =>
  some v40
def Ht(N:Nat)(x0:Qb):Option (Bool) :=
 if(((((((((decide (x0.2.2.1<1))||(decide (x0.2.2.1>9999)))||(decide (x0.2.2.2.1<1)))||(decide (x0.2.2.2.1>9999)))||(decide (x0.2.1<1)))||(decide (x0.2.1≥5)))||(decide (x0.2.2.2.2.2.2.1<0)))||(decide (x0.2.2.2.2.2.2.1≥12622780800)))||(decide (x0.2.2.2.2.2.2.2.1<0)))||(decide (x0.2.2.2.2.2.2.2.1>1099511627776))then
 some false
 else
 some ((x0.2.1 != 1)||((decide (x0.2.2.2.2.2.2.2.1≤604800))&&(decide ((IntKind.wrap .i64 (x0.2.2.2.2.2.2.1+x0.2.2.2.2.2.2.2.1))≤12622780800))))
def Ae(N:Nat)(x0:Int):Option (Bool) :=
 some ((decide (x0<86400000))||(decide (x0>12622780800)))
def Dm(N:Nat):Option (Qz) :=
 some (([(0,1,1,0,([]:Str),([112,114,101,112,97,105,100]:Str),1),(0,3,1,1,([]:Str),([98,97,115,105,99]:Str),0),(0,8,0,1,([]:Str),([112,97,99,107]:Str),0),(0,14,1,0,([]:Str),([]:Str),700)]:List Qv),([(([98,97,115,105,99]:Str),0,false,([(([104,111,109,101]:Str),([([52,57]:Str)]:List Str))]:List Qq),([(([97,108,108]:Str),([]:List Kc))]:List Qt),([(1,([]:Str),([]:Str),500,([(0,1,20)]:List Vs))]:List Jd),([]:List Qk))]:List Ql),([(([112,97,99,107]:Str),0,0,([102,101,101]:Str),false,([(1,([]:List Str),30,0,0,false)]:List J4))]:List Qn),([]:List Kp),([]:List Int),([]:List Yh))
def Qf0(N:Nat)(x0:Qx):(Int×(List Qd)×(List Qp)×(List Qi))→Option ((Int×(List Qd)×(List Qp)×(List Qi))⊕(((List Qd)×(List Qp)×(List Qi)))):=fun w7 =>
 if decide (w7.1<(List.length x0.1:Int))then
 (idx x0.1 w7.1).bind fun x11 =>
 (app 16 ([]:List Str) x11.2.2.2.2.2.1).bind fun q12 =>
 (app 120 w7.2.1 ([(x11.1,x11.2.1,x11.2.2.1,x11.2.2.2.1,x11.2.2.2.2.1,q12,x11.2.2.2.2.2.2.1,x11.2.2.2.2.2.2.2.1,x11.2.2.2.2.2.2.2.2.1,x11.2.2.2.2.2.2.2.2.2.1,x11.2.2.2.2.2.2.2.2.2.2)]:List Qd)).bind fun q13 =>
 some (.inl ((IntKind.wrap .i64 (w7.1+1)),q13,w7.2.2.1,w7.2.2.2))
 else
 some (.inr (w7.2.1,w7.2.2.1,w7.2.2.2))
def Qad(N:Nat)(x0:Qx):Option ((List Qd)×(List Qp)×(List Qi)) :=
 (app 40 ([]:List Qp) x0.2.1).bind fun q1 =>
 (app 40 ([]:List Qi) x0.2.2).bind fun q2 =>
 (Qg (Qf0 N x0) N (0,([]:List Qd),q1,q2)).bind fun w14 =>
 some (w14.1,w14.2.1,w14.2.2)
def Od(N:Nat)(x0:(List Str))(x1:Str):(Int)→Option ((Int)⊕((Int))):=fun v1 =>
 (if decide (v1<(List.length x0:Int))then
 (idx x0 v1).bind fun x3 =>
 some (Op.bytesLess x3 x1)
 else
 some false:Option (Bool)).bind fun v4 =>
 if v4 then
 some (.inl (IntKind.wrap .i64 (v1+1)))
 else
 some (.inr v1)
def Mg(N:Nat)(x0:(List Str))(x1:Str):Option ((List Str)) :=
 (Qg (Od N x0 x1) N 0).bind fun v5 =>
 (slc x0 0 v5).bind fun s6 =>
 (app 16 ([]:List Str) s6).bind fun q7 =>
 (app 16 q7 ([x1]:List Str)).bind fun q8 =>
 (slc x0 v5 (List.length x0:Int)).bind fun s9 =>
 (app 16 q8 s9).bind fun q10 =>
 some q10
def Dn(N:Nat)(x0:(List Str))(x1:Str):(Int×(List Str))→Option ((Int×(List Str))⊕(((List Str)))):=fun w2 =>
 if decide (w2.1<(List.length x0:Int))then
 ((idx x0 w2.1).bind fun x5 =>
 if !(x5==x1)then
 (app 16 w2.2 ([x5]:List Str)).bind fun q6 =>
 some q6
 else
 some w2.2:Option (((List Str)))).bind fun v7 =>
 some (.inl ((IntKind.wrap .i64 (w2.1+1)),v7))
 else
 some (.inr w2.2)
def Af(N:Nat)(x0:(List Str))(x1:Str):Option ((List Str)) :=
 (Qg (Dn N x0 x1) N (0,([]:List Str))).bind fun v8 =>
 some v8
def Mh(N:Nat)(x0:Jo)(x1:Qv):Option (Jo) :=
 (if x1.2.1==3 then
 some (.inr (x1.2.2.2.1,x1.2.2.1,x1.1,x1.2.2.2.2.2.1,false,false))
 else
 if x1.2.1==4 then
 some (.inr (0,0,0,([]:Str),false,false))
 else
 if x1.2.1==7 then
 some (.inl (x0.1,x0.2.1,x0.2.2.1,x1.2.2.2.2.2.1,x0.2.2.2.2.1,x0.2.2.2.2.2.1,x0.2.2.2.2.2.2.1,x0.2.2.2.2.2.2.2,0,0,0,([]:Str),false,false))
 else
 if x1.2.1==8 then
 (Mg N x0.2.2.2.2.2.1 x1.2.2.2.2.2.1).bind fun r1 =>
 some (.inl (x0.1,x0.2.1,x0.2.2.1,x0.2.2.2.1,x0.2.2.2.2.1,r1,x0.2.2.2.2.2.2.1,x0.2.2.2.2.2.2.2,0,0,0,([]:Str),false,false))
 else
 if x1.2.1==9 then
 (Af N x0.2.2.2.2.2.1 x1.2.2.2.2.2.1).bind fun r2 =>
 some (.inl (x0.1,x0.2.1,x0.2.2.1,x0.2.2.2.1,x0.2.2.2.2.1,r2,x0.2.2.2.2.2.2.1,x0.2.2.2.2.2.2.2,0,0,0,([]:Str),false,false))
 else
 (if x1.2.1==10 then
 some (x1.2.1==10)
 else
 some (x1.2.1==11):Option ((Bool))).bind fun v3 =>
 if v3 then
 some (.inl (x0.1,x0.2.1,x0.2.2.1,x0.2.2.2.1,x0.2.2.2.2.1,x0.2.2.2.2.2.1,(x1.2.1==10),x0.2.2.2.2.2.2.2,0,0,0,([]:Str),false,false))
 else
 (if x1.2.1==12 then
 some (x1.2.1==12)
 else
 some (x1.2.1==13):Option ((Bool))).bind fun v4 =>
 if v4 then
 some (.inl (x0.1,x0.2.1,x0.2.2.1,x0.2.2.2.1,x0.2.2.2.2.1,x0.2.2.2.2.2.1,x0.2.2.2.2.2.2.1,(x1.2.1==12),0,0,0,([]:Str),false,false))
 else
 some (.inl (x0.1,x0.2.1,x0.2.2.1,x0.2.2.2.1,x0.2.2.2.2.1,x0.2.2.2.2.2.1,x0.2.2.2.2.2.2.1,x0.2.2.2.2.2.2.2,0,0,0,([]:Str),false,false)):Option ((Int×Int×Int×Str×(List Str)×(List Str)×Bool×Bool×Int×Int×Int×Str×Bool×Bool)⊕(Int×Int×Int×Str×Bool×Bool))).bind fun
 | .inl w5 =>
  some (w5.1,w5.2.1,w5.2.2.1,w5.2.2.2.1,w5.2.2.2.2.1,w5.2.2.2.2.2.1,w5.2.2.2.2.2.2.1,w5.2.2.2.2.2.2.2.1)
 | .inr w19 =>
  some (w19.1,w19.2.1,w19.2.2.1,w19.2.2.2.1,([]:List Str),([]:List Str),w19.2.2.2.2.1,w19.2.2.2.2.2)
def Do(N:Nat)(x0:(List Qv))(x1:Int):(Int×(List Qy)×Jo)→Option ((Int×(List Qy)×Jo)⊕(((List Qy)))):=fun w9 =>
 if decide (w9.1<(List.length x0:Int))then
 ((idx x0 w9.1).bind fun x17 =>
 if(x1==0)||(x17.2.2.2.1 != x1)then
 some (w9.2.1,w9.2.2)
 else
 (Mh N w9.2.2 x17).bind fun r18 =>
 (if decide ((List.length w9.2.1:Int)>0)then
 (idx w9.2.1 (IntKind.wrap .i64 ((List.length w9.2.1:Int) - 1))).bind fun _ =>
 (idx w9.2.1 (IntKind.wrap .i64 ((List.length w9.2.1:Int) - 1))).bind fun x21 =>
 some (x21.1==x17.1)
 else
 some false:Option (Bool)).bind fun v22 =>
 if v22 then
 (idx w9.2.1 (IntKind.wrap .i64 ((List.length w9.2.1:Int) - 1))).bind fun _ =>
 (idx w9.2.1 (IntKind.wrap .i64 ((List.length w9.2.1:Int) - 1))).bind fun y23 =>
 some ((List.set w9.2.1 (Int.toNat (IntKind.wrap .i64 ((List.length w9.2.1:Int) - 1))) (y23.1,r18)),r18)
 else
 (app 104 w9.2.1 ([(x17.1,r18)]:List Qy)).bind fun q24 =>
 some (q24,r18):Option (((List Qy)×Jo))).bind fun w25 =>
 some (.inl ((IntKind.wrap .i64 (w9.1+1)),w25.1,w25.2))
 else
 some (.inr w9.2.1)
def Ag(N:Nat)(x0:(List Qv))(x1:Int):Option ((List Qy)) :=
 (Qg (Do N x0 x1) N (0,([]:List Qy),(0,0,0,([]:Str),([]:List Str),([]:List Str),false,false))).bind fun v27 =>
 some v27
def Mi(N:Nat)(x0:Jo)(x1:Jo):(Int)→Option ((Int)⊕((Unit)⊕(Bool))):=fun v1 =>
 if decide (v1<(List.length x0.2.2.2.2.2.1:Int))then
 (idx x0.2.2.2.2.2.1 v1).bind fun x2 =>
 (idx x1.2.2.2.2.2.1 v1).bind fun x3 =>
 if !(x2==x3)then
 some (.inr (.inr false))
 else
 some (.inl (IntKind.wrap .i64 (v1+1)))
 else
 some (.inr (.inl ()))
def If(N:Nat)(x0:Jo)(x1:Jo):Option (Bool) :=
 if((((x0.1 != x1.1)||(!(x0.2.2.2.1==x1.2.2.2.1)))||(x0.2.2.2.2.2.2.1 != x1.2.2.2.2.2.2.1))||(x0.2.2.2.2.2.2.2 != x1.2.2.2.2.2.2.2))||((List.length x0.2.2.2.2.2.1:Int) != (List.length x1.2.2.2.2.2.1:Int))then
 some false
 else
 (Qg (Mi N x0 x1) N 0).bind fun
 | .inl _ =>
  some true
 | .inr v4 =>
  some v4
def E4(N:Nat)(x0:Qy)(x1:Qy):Option (Bool) :=
 (If N x0.2 x1.2).bind fun r1 =>
 some r1
def E5(N:Nat)(x0:Qy)(x1:Qy):Option (Qy) :=
 some x0
def Ul(N:Nat)(x0:(List Qy)):(Int×(List Qy))→Option ((Int×(List Qy))⊕(((List Qy)))):=fun w2 =>
 if decide (w2.1<(List.length x0:Int))then
 ((idx x0 w2.1).bind fun x9 =>
 if decide ((List.length w2.2:Int)>0)then
 (idx w2.2 (IntKind.wrap .i64 ((List.length w2.2:Int) - 1))).bind fun _ =>
 (idx w2.2 (IntKind.wrap .i64 ((List.length w2.2:Int) - 1))).bind fun x10 =>
 (E4 N x10 x9).bind fun r11 =>
 if r11 then
 (idx w2.2 (IntKind.wrap .i64 ((List.length w2.2:Int) - 1))).bind fun _ =>
 (idx w2.2 (IntKind.wrap .i64 ((List.length w2.2:Int) - 1))).bind fun x12 =>
 (E5 N x12 x9).bind fun r13 =>
 (idx w2.2 (IntKind.wrap .i64 ((List.length w2.2:Int) - 1))).bind fun _ =>
 (idx w2.2 (IntKind.wrap .i64 ((List.length w2.2:Int) - 1))).bind fun y14 =>
 some (List.set w2.2 (Int.toNat (IntKind.wrap .i64 ((List.length w2.2:Int) - 1))) r13)
 else
 (app 104 w2.2 ([x9]:List Qy)).bind fun q15 =>
 some q15
 else
 (app 104 w2.2 ([x9]:List Qy)).bind fun q16 =>
 some q16:Option (((List Qy)))).bind fun v17 =>
 some (.inl ((IntKind.wrap .i64 (w2.1+1)),v17))
 else
 some (.inr w2.2)
def Y7(N:Nat)(x0:(List Qy)):Option ((List Qy)) :=
 (Qg (Ul N x0) N (0,([]:List Qy))).bind fun v18 =>
 some v18
def Iw(N:Nat)(r2:(List Qy)):(Int×(List Q6))→Option ((Int×(List Q6))⊕(((List Q6)))):=fun w4 =>
 if decide (w4.1<(List.length r2:Int))then
 ((idx r2 w4.1).bind fun _ =>
 (idx r2 w4.1).bind fun x10 =>
 if x10.2.1==0 then
 some w4.2
 else
 (if decide ((IntKind.wrap .i64 (w4.1+1))<(List.length r2:Int))then
 (idx r2 (IntKind.wrap .i64 (w4.1+1))).bind fun _ =>
 (idx r2 (IntKind.wrap .i64 (w4.1+1))).bind fun x12 =>
 some (x10.1,x12.1)
 else
 some (x10.1,12622780800):Option ((Qa))).bind fun v13 =>
 (app 16 ([]:List Str) x10.2.2.2.2.2.2.1).bind fun q14 =>
 (app 64 w4.2 ([(v13,x10.2.2.2.2.1,q14,x10.2.2.2.2.2.2.2.1,x10.2.2.2.2.2.2.2.2)]:List Q6)).bind fun q15 =>
 some q15:Option (((List Q6)))).bind fun v16 =>
 some (.inl ((IntKind.wrap .i64 (w4.1+1)),v16))
 else
 some (.inr w4.2)
def G3(N:Nat)(x0:(List Qv))(x1:Int):Option ((List Q6)) :=
 (Ag N x0 x1).bind fun r1 =>
 (Y7 N r1).bind fun r2 =>
 (Qg (Iw N r2) N (0,([]:List Q6))).bind fun v17 =>
 some v17
def V5(N:Nat)(x0:Qa):Option (Bool) :=
 some (((decide (x0.1≥0))&&(decide (x0.1<x0.2)))&&(decide (x0.2≤12622780800)))
def Wk(N:Nat)(x0:Qa)(x1:Int):Option (Bool) :=
 (V5 N x0).bind fun r1 =>
 some ((r1&&(decide (x1≥x0.1)))&&(decide (x1<x0.2)))
def Qbe(N:Nat)(r1:(List Q6))(x2:Int):(Int×Qa×Str×Bool×Bool)→Option ((Int×Qa×Str×Bool×Bool)⊕((Qa×Str×Bool×Bool)⊕(Bool×Q6))):=fun w3 =>
 if decide (w3.1<(List.length r1:Int))then
 (idx r1 w3.1).bind fun _ =>
 (idx r1 w3.1).bind fun x8 =>
 (Wk N x8.1 x2).bind fun r9 =>
 if r9 then
 some (.inr (.inr (true,x8)))
 else
 some (.inl ((IntKind.wrap .i64 (w3.1+1)),w3.2.1,w3.2.2.1,w3.2.2.2.1,w3.2.2.2.2))
 else
 some (.inr (.inl (w3.2.1,w3.2.2.1,w3.2.2.2.1,w3.2.2.2.2)))
def Qae(N:Nat)(x0:(List Qv))(x1:Int)(x2:Int):Option (Q6×Bool) :=
 (G3 N x0 x1).bind fun r1 =>
 (Qg (Qbe N r1 x2) N (0,(0,0),([]:Str),false,false)).bind fun
 | .inl w10 =>
  some (((0,0),([]:Str),([]:List Str),false,false),false)
 | .inr w14 =>
  some (w14.2,w14.1)
def Mj(N:Nat):Option ((List (Int×Qm))×(List (Int×Jo))×(List (Int×Bool))×(List (Str×Int))×(List (Int×Int))) :=
 some (([]:List (Int×Qm)),([]:List (Int×Jo)),([]:List (Int×Bool)),([]:List (Str×Int)),([]:List (Int×Int)))
def Pd(N:Nat)(x0:(List Qv))(x1:Int):Option ((List Qv)×Int) :=
 some (x0,x1)
def Mk(N:Nat)(x1:(List Qv))(x2:Int):((Int)×(List Qv))→Option (((Int)×(List Qv))⊕(((Unit)⊕(Unit))×(List Qv))):=fun w1 =>
 if decide (w1.1<(List.length x1:Int))then
 (idx x1 w1.1).bind fun x3 =>
 if decide (x3.1≤x2)then
 if !true then
 some (.inr (.inr (),(w1.2++[x3])))
 else
 some (.inl ((IntKind.wrap .i64 (w1.1+1)),(w1.2++[x3])))
 else
 some (.inl ((IntKind.wrap .i64 (w1.1+1)),w1.2))
 else
 some (.inr (.inl (),w1.2))
def Ig(N:Nat)(x1:(List Qv))(x2:Int):Option (List Qv) :=
 (Qg (Mk N x1 x2) N (0,([]:List Qv))).bind fun
 | (.inl _,acc4) =>
  some acc4
 | (.inr _,acc5) =>
  some acc5
def Bv(N:Nat)(x0:(List Int))(x1:Int):(Int)→Option ((Int)⊕((Int))):=fun v1 =>
 (if decide (v1<(List.length x0:Int))then
 (idx x0 v1).bind fun x3 =>
 some (decide (x3<x1))
 else
 some false:Option (Bool)).bind fun v4 =>
 if v4 then
 some (.inl (IntKind.wrap .i64 (v1+1)))
 else
 some (.inr v1)
def Xi(N:Nat)(x0:(List Int))(x1:Int):Option ((List Int)) :=
 (Qg (Bv N x0 x1) N 0).bind fun v5 =>
 (slc x0 0 v5).bind fun s6 =>
 (app 8 ([]:List Int) s6).bind fun q7 =>
 (app 8 q7 ([x1]:List Int)).bind fun q8 =>
 (slc x0 v5 (List.length x0:Int)).bind fun s9 =>
 (app 8 q8 s9).bind fun q10 =>
 some q10
def Hy(N:Nat)(x0:(List Str))(x1:Str):(Int)→Option ((Int)⊕((Int))):=fun v1 =>
 (if decide (v1<(List.length x0:Int))then
 (idx x0 v1).bind fun x3 =>
 some (Op.bytesLess x3 x1)
 else
 some false:Option (Bool)).bind fun v4 =>
 if v4 then
 some (.inl (IntKind.wrap .i64 (v1+1)))
 else
 some (.inr v1)
def Zg(N:Nat)(x0:(List Str))(x1:Str):Option ((List Str)) :=
 (Qg (Hy N x0 x1) N 0).bind fun v5 =>
 (slc x0 0 v5).bind fun s6 =>
 (app 16 ([]:List Str) s6).bind fun q7 =>
 (app 16 q7 ([x1]:List Str)).bind fun q8 =>
 (slc x0 v5 (List.length x0:Int)).bind fun s9 =>
 (app 16 q8 s9).bind fun q10 =>
 some q10
def Mm(N:Nat)(x0:(List Str))(x1:Str):(Int×(List Str))→Option ((Int×(List Str))⊕(((List Str)))):=fun w2 =>
 if decide (w2.1<(List.length x0:Int))then
 ((idx x0 w2.1).bind fun x5 =>
 if !(x5==x1)then
 (app 16 w2.2 ([x5]:List Str)).bind fun q6 =>
 some q6
 else
 some w2.2:Option (((List Str)))).bind fun v7 =>
 some (.inl ((IntKind.wrap .i64 (w2.1+1)),v7))
 else
 some (.inr w2.2)
def Ec(N:Nat)(x0:(List Str))(x1:Str):Option ((List Str)) :=
 (Qg (Mm N x0 x1) N (0,([]:List Str))).bind fun v8 =>
 some v8
def Xj(N:Nat)(x1:Jo)(x2:Qv)(ce:(List (Int×Qm)))(cd:(List (Int×Jo)))(cg:(List (Int×Bool)))(ci:(List (Str×Int)))(cj:(List (Int×Int)))(ck:(List Int))(cm:(List Int)):Option (Jo×(List (Str×Int))) :=
 (if x2.2.1==5 then
 (Zg N x1.2.2.2.2.1 x2.2.2.2.2.1).bind fun r2 =>
 some ((J9 (k:=.str) x2.2.2.2.2.1 x2.2.2.2.1 ci),x1.1,x1.2.1,x1.2.2.1,x1.2.2.2.1,r2,x1.2.2.2.2.2.1,x1.2.2.2.2.2.2.1,x1.2.2.2.2.2.2.2)
 else
 if x2.2.1==6 then
 (Ec N x1.2.2.2.2.1 x2.2.2.2.2.1).bind fun r3 =>
 some ((Lf (k:=.str) x2.2.2.2.2.1 ci),x1.1,x1.2.1,x1.2.2.1,x1.2.2.2.1,r3,x1.2.2.2.2.2.1,x1.2.2.2.2.2.2.1,x1.2.2.2.2.2.2.2)
 else
 if x2.2.1==7 then
 some (ci,x1.1,x1.2.1,x1.2.2.1,x2.2.2.2.2.2.1,x1.2.2.2.2.1,x1.2.2.2.2.2.1,x1.2.2.2.2.2.2.1,x1.2.2.2.2.2.2.2)
 else
 if x2.2.1==8 then
 (Zg N x1.2.2.2.2.2.1 x2.2.2.2.2.2.1).bind fun r4 =>
 some (ci,x1.1,x1.2.1,x1.2.2.1,x1.2.2.2.1,x1.2.2.2.2.1,r4,x1.2.2.2.2.2.2.1,x1.2.2.2.2.2.2.2)
 else
 if x2.2.1==9 then
 (Ec N x1.2.2.2.2.2.1 x2.2.2.2.2.2.1).bind fun r5 =>
 some (ci,x1.1,x1.2.1,x1.2.2.1,x1.2.2.2.1,x1.2.2.2.2.1,r5,x1.2.2.2.2.2.2.1,x1.2.2.2.2.2.2.2)
 else
 if x2.2.1==10 then
 some (ci,x1.1,x1.2.1,x1.2.2.1,x1.2.2.2.1,x1.2.2.2.2.1,x1.2.2.2.2.2.1,true,x1.2.2.2.2.2.2.2)
 else
 if x2.2.1==11 then
 some (ci,x1.1,x1.2.1,x1.2.2.1,x1.2.2.2.1,x1.2.2.2.2.1,x1.2.2.2.2.2.1,false,x1.2.2.2.2.2.2.2)
 else
 if x2.2.1==12 then
 some (ci,x1.1,x1.2.1,x1.2.2.1,x1.2.2.2.1,x1.2.2.2.2.1,x1.2.2.2.2.2.1,x1.2.2.2.2.2.2.1,true)
 else
 if x2.2.1==13 then
 some (ci,x1.1,x1.2.1,x1.2.2.1,x1.2.2.2.1,x1.2.2.2.2.1,x1.2.2.2.2.2.1,x1.2.2.2.2.2.2.1,false)
 else
 some (ci,x1.1,x1.2.1,x1.2.2.1,x1.2.2.2.1,x1.2.2.2.2.1,x1.2.2.2.2.2.1,x1.2.2.2.2.2.2.1,x1.2.2.2.2.2.2.2):Option (((List (Str×Int))×Int×Int×Int×Str×(List Str)×(List Str)×Bool×Bool))).bind fun w6 =>
 some ((w6.2.1,w6.2.2.1,w6.2.2.2.1,w6.2.2.2.2.1,w6.2.2.2.2.2.1,w6.2.2.2.2.2.2.1,w6.2.2.2.2.2.2.2.1,w6.2.2.2.2.2.2.2.2),w6.1)
def Gh(N:Nat)(x1:Qv)(cd:(List (Int×Jo))):(Int×(List (Str×Int)))→Option ((Int×(List (Str×Int)))⊕(((List (Str×Int))))):=fun w30 =>
 if decide (w30.1<(List.length (((Qr (k:=(.int .i64)) x1.2.2.2.1 cd).getD (0,0,0,([]:Str),([]:List Str),([]:List Str),false,false)).2.2.2.2.1):Int))then
 (idx (((Qr (k:=(.int .i64)) x1.2.2.2.1 cd).getD (0,0,0,([]:Str),([]:List Str),([]:List Str),false,false)).2.2.2.2.1) w30.1).bind fun x32 =>
 some (.inl ((IntKind.wrap .i64 (w30.1+1)),(Lf (k:=.str) x32 w30.2)))
 else
 some (.inr w30.2)
def Kr(N:Nat)(x1:Qv)(ce:(List (Int×Qm)))(cd:(List (Int×Jo)))(cg:(List (Int×Bool)))(ci:(List (Str×Int)))(cj:(List (Int×Int)))(ck:(List Int))(cm:(List Int)):Option ((List (Int×Qm))×(List (Int×Jo))×(List (Int×Bool))×(List (Str×Int))×(List (Int×Int))×(List Int)×(List Int)) :=
 if x1.2.1==1 then
 (if !(Qr (k:=(.int .i64)) x1.2.2.1 ce).isSome then
 (Xi N ck x1.2.2.1).bind fun r7 =>
 some (ce,cd,cg,ci,cj,r7,cm)
 else
 some (ce,cd,cg,ci,cj,ck,cm):Option (((List (Int×Qm))×(List (Int×Jo))×(List (Int×Bool))×(List (Str×Int))×(List (Int×Int))×(List Int)×(List Int)))).bind fun w8 =>
 some ((J9 (k:=(.int .i64)) x1.2.2.1 (x1.2.2.1,x1.1,x1.2.2.2.2.2.2,(x1.2.2.2.2.2.1==([112,114,101,112,97,105,100]:Str)),false,([]:List Int)) w8.1),w8.2.1,w8.2.2.1,w8.2.2.2.1,w8.2.2.2.2.1,w8.2.2.2.2.2.1,w8.2.2.2.2.2.2)
 else
 if x1.2.1==2 then
 some ((J9 (k:=(.int .i64)) x1.2.2.1 (((Qr (k:=(.int .i64)) x1.2.2.1 ce).getD (0,0,0,false,false,([]:List Int))).1,((Qr (k:=(.int .i64)) x1.2.2.1 ce).getD (0,0,0,false,false,([]:List Int))).2.1,((Qr (k:=(.int .i64)) x1.2.2.1 ce).getD (0,0,0,false,false,([]:List Int))).2.2.1,((Qr (k:=(.int .i64)) x1.2.2.1 ce).getD (0,0,0,false,false,([]:List Int))).2.2.2.1,true,((Qr (k:=(.int .i64)) x1.2.2.1 ce).getD (0,0,0,false,false,([]:List Int))).2.2.2.2.2) ce),cd,cg,ci,cj,ck,cm)
 else
 if x1.2.1==3 then
 (if !((Qr (k:=(.int .i64)) x1.2.2.2.1 cg).getD false)then
 (Xi N cm x1.2.2.2.1).bind fun r21 =>
 some (ce,cd,cg,ci,cj,ck,r21)
 else
 some (ce,cd,cg,ci,cj,ck,cm):Option (((List (Int×Qm))×(List (Int×Jo))×(List (Int×Bool))×(List (Str×Int))×(List (Int×Int))×(List Int)×(List Int)))).bind fun w22 =>
 some (w22.1,(J9 (k:=(.int .i64)) x1.2.2.2.1 (x1.2.2.2.1,x1.2.2.1,x1.1,x1.2.2.2.2.2.1,([]:List Str),([]:List Str),false,false) w22.2.1),(J9 (k:=(.int .i64)) x1.2.2.2.1 true w22.2.2.1),w22.2.2.2.1,(J9 (k:=(.int .i64)) x1.2.2.1 (IntKind.wrap .i64 (((Qr (k:=(.int .i64)) x1.2.2.1 w22.2.2.2.2.1).getD 0)+1)) w22.2.2.2.2.1),w22.2.2.2.2.2.1,w22.2.2.2.2.2.2)
 else
 if x1.2.1==4 then
 (Qg (Gh N x1 cd) N (0,ci)).bind fun v33 =>
 some (ce,(Lf (k:=(.int .i64)) x1.2.2.2.1 cd),cg,v33,(J9 (k:=(.int .i64)) (((Qr (k:=(.int .i64)) x1.2.2.2.1 cd).getD (0,0,0,([]:Str),([]:List Str),([]:List Str),false,false)).2.1) (IntKind.wrap .i64 (((Qr (k:=(.int .i64)) (((Qr (k:=(.int .i64)) x1.2.2.2.1 cd).getD (0,0,0,([]:Str),([]:List Str),([]:List Str),false,false)).2.1) cj).getD 0) - 1)) cj),ck,cm)
 else
 (if x1.2.1==14 then
 some (x1.2.1==14)
 else
 some (x1.2.1==15):Option ((Bool))).bind fun v34 =>
 if v34 then
 some (ce,cd,cg,ci,cj,ck,cm)
 else
 if(Qr (k:=(.int .i64)) x1.2.2.2.1 cd).isSome then
 (Xj N ((Qr (k:=(.int .i64)) x1.2.2.2.1 cd).getD (0,0,0,([]:Str),([]:List Str),([]:List Str),false,false)) x1 ce cd cg ci cj ck cm).bind fun w35 =>
 some (ce,(J9 (k:=(.int .i64)) x1.2.2.2.1 w35.1 cd),cg,w35.2,cj,ck,cm)
 else
 some (ce,cd,cg,ci,cj,ck,cm)
def Wl(N:Nat)(cm:(List Int))(cd:(List (Int×Jo))):(Int×(List (Int×(List Int)))×(List Jo))→Option ((Int×(List (Int×(List Int)))×(List Jo))⊕(((List (Int×(List Int)))×(List Jo)))):=fun w6 =>
 if decide (w6.1<(List.length cm:Int))then
 ((idx cm w6.1).bind fun _ =>
 (idx cm w6.1).bind fun x12 =>
 if !(Qr (k:=(.int .i64)) x12 cd).isSome then
 some (w6.2.1,w6.2.2)
 else
 (chk (eqK (.int .i64) (((Qr (k:=(.int .i64)) x12 cd).getD (0,0,0,([]:Str),([]:List Str),([]:List Str),false,false)).2.1) (((Qr (k:=(.int .i64)) x12 cd).getD (0,0,0,([]:Str),([]:List Str),([]:List Str),false,false)).2.1))).bind fun _ =>
 (app 8 ((Qr (k:=(.int .i64)) (((Qr (k:=(.int .i64)) x12 cd).getD (0,0,0,([]:Str),([]:List Str),([]:List Str),false,false)).2.1) w6.2.1).getD []) ([x12]:List Int)).bind fun q16 =>
 (chk (eqK (.int .i64) (((Qr (k:=(.int .i64)) x12 cd).getD (0,0,0,([]:Str),([]:List Str),([]:List Str),false,false)).2.1) (((Qr (k:=(.int .i64)) x12 cd).getD (0,0,0,([]:Str),([]:List Str),([]:List Str),false,false)).2.1))).bind fun _ =>
 (app 96 w6.2.2 ([((Qr (k:=(.int .i64)) x12 cd).getD (0,0,0,([]:Str),([]:List Str),([]:List Str),false,false))]:List Jo)).bind fun q17 =>
 some ((J9 (k:=(.int .i64)) (((Qr (k:=(.int .i64)) x12 cd).getD (0,0,0,([]:Str),([]:List Str),([]:List Str),false,false)).2.1) q16 w6.2.1),q17):Option (((List (Int×(List Int)))×(List Jo)))).bind fun w18 =>
 some (.inl ((IntKind.wrap .i64 (w6.1+1)),w18.1,w18.2))
 else
 some (.inr (w6.2.1,w6.2.2))
def Wm(N:Nat)(ck:(List Int))(ce:(List (Int×Qm)))(v20:(List (Int×(List Int)))):(Int×(List Qm)×(List Jo))→Option ((Int×(List Qm)×(List Jo))⊕(((List Qm)×(List Jo)))):=fun w26 =>
 if decide (w26.1<(List.length ck:Int))then
 (idx ck w26.1).bind fun _ =>
 (idx ck w26.1).bind fun x29 =>
 (app 56 w26.2.1 ([(((Qr (k:=(.int .i64)) x29 ce).getD (0,0,0,false,false,([]:List Int))).1,((Qr (k:=(.int .i64)) x29 ce).getD (0,0,0,false,false,([]:List Int))).2.1,((Qr (k:=(.int .i64)) x29 ce).getD (0,0,0,false,false,([]:List Int))).2.2.1,((Qr (k:=(.int .i64)) x29 ce).getD (0,0,0,false,false,([]:List Int))).2.2.2.1,((Qr (k:=(.int .i64)) x29 ce).getD (0,0,0,false,false,([]:List Int))).2.2.2.2.1,((Qr (k:=(.int .i64)) x29 v20).getD ([]:List Int)))]:List Qm)).bind fun q30 =>
 some (.inl ((IntKind.wrap .i64 (w26.1+1)),q30,w26.2.2))
 else
 some (.inr (w26.2.1,w26.2.2))
def Z6(N:Nat)(ce:(List (Int×Qm)))(cd:(List (Int×Jo)))(cg:(List (Int×Bool)))(ci:(List (Str×Int)))(cj:(List (Int×Int)))(ck:(List Int))(cm:(List Int)):Option ((List Qm)×(List Jo)) :=
 (Qg (Wl N cm cd) N (0,([]:List (Int×(List Int))),([]:List Jo))).bind fun w20 =>
 (Qg (Wm N ck ce w20.1) N (0,([]:List Qm),w20.2)).bind fun w31 =>
 some (w31.1,w31.2)
def Wn(N:Nat):((List (Int×Qm))×(List (Int×Jo))×(List (Int×Bool))×(List (Str×Int))×(List (Int×Int))×(List Int)×(List Int))→Qv→Option ((List (Int×Qm))×(List (Int×Jo))×(List (Int×Bool))×(List (Str×Int))×(List (Int×Int))×(List Int)×(List Int)):=fun w13 e20 =>
 (Kr N e20 w13.1 w13.2.1 w13.2.2.1 w13.2.2.2.1 w13.2.2.2.2.1 w13.2.2.2.2.2.1 w13.2.2.2.2.2.2).bind fun w21 =>
 some (w21.1,w21.2.1,w21.2.2.1,w21.2.2.2.1,w21.2.2.2.2.1,w21.2.2.2.2.2.1,w21.2.2.2.2.2.2)
def Ah(N:Nat)(x0:(List Qv))(x1:Int):Option ((List Qm)×(List Jo)) :=
 (Mj N).bind fun w1 =>
 (Pd N x0 x1).bind fun w6 =>
 (Ig N w6.1 w6.2).bind fun es35 =>
 (Qmf (Wn N) es35 (w1.1,w1.2.1,w1.2.2.1,w1.2.2.2.1,w1.2.2.2.2,([]:List Int),([]:List Int))).bind fun w28 =>
 (Z6 N w28.1 w28.2.1 w28.2.2.1 w28.2.2.2.1 w28.2.2.2.2.1 w28.2.2.2.2.2.1 w28.2.2.2.2.2.2).bind fun w36 =>
 some (w36.1,w36.2)
def Qbf(N:Nat)(r2:(List Jo))(x1:Int):(Int×Int×Int×Int×Str×Bool×Bool)→Option ((Int×Int×Int×Int×Str×Bool×Bool)⊕((Int×Int×Int×Str×Bool×Bool)⊕(Bool×Jo))):=fun w4 =>
 if decide (w4.1<(List.length r2:Int))then
 (idx r2 w4.1).bind fun _ =>
 (idx r2 w4.1).bind fun x11 =>
 if x11.1==x1 then
 some (.inr (.inr (true,x11)))
 else
 some (.inl ((IntKind.wrap .i64 (w4.1+1)),w4.2.1,w4.2.2.1,w4.2.2.2.1,w4.2.2.2.2.1,w4.2.2.2.2.2.1,w4.2.2.2.2.2.2))
 else
 some (.inr (.inl (w4.2.1,w4.2.2.1,w4.2.2.2.1,w4.2.2.2.2.1,w4.2.2.2.2.2.1,w4.2.2.2.2.2.2)))
def Qaf(N:Nat)(x0:(List Qv))(x1:Int)(x2:Int):Option (Jo×Bool) :=
 (Ah N x0 x2).bind fun w1 =>
 (Qg (Qbf N w1.2 x1) N (0,0,0,0,([]:Str),false,false)).bind fun
 | .inl w12 =>
  some ((0,0,0,([]:Str),([]:List Str),([]:List Str),false,false),false)
 | .inr w18 =>
  some (w18.2,w18.1)
def Ix(N:Nat)(r1:(List Qm))(x1:Int):(Int×Int×Int×Int×Bool×Bool)→Option ((Int×Int×Int×Int×Bool×Bool)⊕((Int×Int×Int×Bool×Bool)⊕(Bool×Qm))):=fun w4 =>
 if decide (w4.1<(List.length r1:Int))then
 (idx r1 w4.1).bind fun _ =>
 (idx r1 w4.1).bind fun x10 =>
 if x10.1==x1 then
 some (.inr (.inr (true,x10)))
 else
 some (.inl ((IntKind.wrap .i64 (w4.1+1)),w4.2.1,w4.2.2.1,w4.2.2.2.1,w4.2.2.2.2.1,w4.2.2.2.2.2))
 else
 some (.inr (.inl (w4.2.1,w4.2.2.1,w4.2.2.2.1,w4.2.2.2.2.1,w4.2.2.2.2.2)))
def Ch(N:Nat)(x0:(List Qv))(x1:Int)(x2:Int):Option (Qm×Bool) :=
 (Ah N x0 x2).bind fun w1 =>
 (Qg (Ix N w1.1 x1) N (0,0,0,0,false,false)).bind fun
 | .inl w11 =>
  some ((0,0,0,false,false,([]:List Int)),false)
 | .inr w16 =>
  some (w16.2,w16.1)
def Ai(N:Nat)(cx:Qz)(dg:Qx)(cq:Qb)(je:Qa)(jf:Str)(jg:Bool)(jh:Bool)(ji:Int)(jj:Int)(jk:Int)(jl:Bool)(jm:Bool)(gk:Str)(gm:Int)(gn:Bool)(du:Int)(dv:Qb)(dw:Int)(dy:Str)(dz:Int)(dl:Str)(g5:Int)(dx:Int)(dq:Int)(g6:Int)(g7:Int)(ce:(List Str))(cd:(List Int))(cg:(List Qq))(ci:(List Qt))(cj:(List Jd))(ck:(List Qk))(cm:(List Q9))(dj:(List Qo))(ge:(List Q2)):Option (Int×Qz×Qx×Qb×Qa×Str×(List Str)×Bool×Bool×Int×Int×Int×Bool×Bool×(List Int)×Str×Int×Bool×Int×Qb×Int×Str×Int×Str×Int×Int×Int×Int×Int×(List Qq)×(List Qt)×(List Jd)×(List Qk)×(List Q9)×(List Qo)×(List Q2)) :=
 (Qae N cx.1 cq.2.2.2.1 cq.2.2.2.2.2.2.1).bind fun w1 =>
 if !w1.2 then
 some (11,cx,dg,cq,je,jf,ce,jg,jh,ji,jj,jk,jl,jm,cd,gk,gm,gn,du,dv,dw,dy,dz,dl,g5,dx,dq,g6,g7,cg,ci,cj,ck,cm,dj,ge)
 else
 (Qaf N cx.1 cq.2.2.2.1 cq.2.2.2.2.2.2.1).bind fun w3 =>
 if w3.1.2.1 != cq.2.2.1 then
 some (11,cx,dg,cq,je,jf,ce,jg,jh,ji,jj,jk,jl,jm,cd,gk,gm,gn,du,dv,dw,dy,dz,dl,g5,dx,dq,g6,g7,cg,ci,cj,ck,cm,dj,ge)
 else
 if w1.1.2.2.2.1 then
 some (16,cx,dg,cq,je,jf,ce,jg,jh,ji,jj,jk,jl,jm,cd,gk,gm,gn,du,dv,dw,dy,dz,dl,g5,dx,dq,g6,g7,cg,ci,cj,ck,cm,dj,ge)
 else
 (Ch N cx.1 w3.1.2.1 cq.2.2.2.2.2.2.1).bind fun w5 =>
 some (0,cx,dg,cq,w1.1.1,w1.1.2.1,w1.1.2.2.1,w1.1.2.2.2.1,w1.1.2.2.2.2,w5.1.1,w5.1.2.1,w5.1.2.2.1,w5.1.2.2.2.1,w5.1.2.2.2.2.1,w5.1.2.2.2.2.2,gk,gm,gn,du,dv,dw,dy,dz,dl,g5,dx,dq,g6,g7,cg,ci,cj,ck,cm,dj,ge)
def Qgv(N:Nat)(ct:Qz)(cp:Qx)(cw:Qb)(gw:Qa)(gx:Str)(gy:Bool)(gz:Bool)(j9:Int)(ja:Int)(jb:Int)(jc:Bool)(jd:Bool)(gg:Str)(gi:Int)(gj:Bool)(cy:Int)(cz:Qb)(d4:Int)(d5:Str)(d6:Int)(d7:Str)(d8:Int)(d9:Int)(da:Int)(db:Int)(de:Int)(cd:(List Str))(cg:(List Int))(ci:(List Qq))(cj:(List Qt))(ck:(List Jd))(cm:(List Qk))(dj:(List Q9))(ge:(List Qo))(gt:(List Q2)):Option (Int×Qz×Qx×Qb×Q6×Qm×Str×Int×Bool×Int×Qb×Int×Str×Int×Str×Int×Int×Int×Int×Int×(List Qq)×(List Qt)×(List Jd)×(List Qk)×(List Q9)×(List Qo)×(List Q2)) :=
 (Ai N ct cp cw gw gx gy gz j9 ja jb jc jd gg gi gj cy cz d4 d5 d6 d7 d8 d9 da db de cd cg ci cj ck cm dj ge gt).bind fun w1 =>
 some (w1.1,w1.2.1,w1.2.2.1,w1.2.2.2.1,(w1.2.2.2.2.1,w1.2.2.2.2.2.1,w1.2.2.2.2.2.2.1,w1.2.2.2.2.2.2.2.1,w1.2.2.2.2.2.2.2.2.1),(w1.2.2.2.2.2.2.2.2.2.1,w1.2.2.2.2.2.2.2.2.2.2.1,w1.2.2.2.2.2.2.2.2.2.2.2.1,w1.2.2.2.2.2.2.2.2.2.2.2.2.1,w1.2.2.2.2.2.2.2.2.2.2.2.2.2.1,w1.2.2.2.2.2.2.2.2.2.2.2.2.2.2.1),w1.2.2.2.2.2.2.2.2.2.2.2.2.2.2.2.1,w1.2.2.2.2.2.2.2.2.2.2.2.2.2.2.2.2.1,w1.2.2.2.2.2.2.2.2.2.2.2.2.2.2.2.2.2.1,w1.2.2.2.2.2.2.2.2.2.2.2.2.2.2.2.2.2.2.1,w1.2.2.2.2.2.2.2.2.2.2.2.2.2.2.2.2.2.2.2.1,w1.2.2.2.2.2.2.2.2.2.2.2.2.2.2.2.2.2.2.2.2.1,w1.2.2.2.2.2.2.2.2.2.2.2.2.2.2.2.2.2.2.2.2.2.1,w1.2.2.2.2.2.2.2.2.2.2.2.2.2.2.2.2.2.2.2.2.2.2.1,w1.2.2.2.2.2.2.2.2.2.2.2.2.2.2.2.2.2.2.2.2.2.2.2.1,w1.2.2.2.2.2.2.2.2.2.2.2.2.2.2.2.2.2.2.2.2.2.2.2.2.1,w1.2.2.2.2.2.2.2.2.2.2.2.2.2.2.2.2.2.2.2.2.2.2.2.2.2.1,w1.2.2.2.2.2.2.2.2.2.2.2.2.2.2.2.2.2.2.2.2.2.2.2.2.2.2.1,w1.2.2.2.2.2.2.2.2.2.2.2.2.2.2.2.2.2.2.2.2.2.2.2.2.2.2.2.1,w1.2.2.2.2.2.2.2.2.2.2.2.2.2.2.2.2.2.2.2.2.2.2.2.2.2.2.2.2.1,w1.2.2.2.2.2.2.2.2.2.2.2.2.2.2.2.2.2.2.2.2.2.2.2.2.2.2.2.2.2.1,w1.2.2.2.2.2.2.2.2.2.2.2.2.2.2.2.2.2.2.2.2.2.2.2.2.2.2.2.2.2.2.1,w1.2.2.2.2.2.2.2.2.2.2.2.2.2.2.2.2.2.2.2.2.2.2.2.2.2.2.2.2.2.2.2.1,w1.2.2.2.2.2.2.2.2.2.2.2.2.2.2.2.2.2.2.2.2.2.2.2.2.2.2.2.2.2.2.2.2.1,w1.2.2.2.2.2.2.2.2.2.2.2.2.2.2.2.2.2.2.2.2.2.2.2.2.2.2.2.2.2.2.2.2.2.1,w1.2.2.2.2.2.2.2.2.2.2.2.2.2.2.2.2.2.2.2.2.2.2.2.2.2.2.2.2.2.2.2.2.2.2.1,w1.2.2.2.2.2.2.2.2.2.2.2.2.2.2.2.2.2.2.2.2.2.2.2.2.2.2.2.2.2.2.2.2.2.2.2)
def Qgw(N:Nat)(ct:Qz)(cp:Qx)(cw:Qb)(gw:Qa)(gx:Str)(gy:Bool)(gz:Bool)(j9:Int)(ja:Int)(jb:Int)(jc:Bool)(jd:Bool)(gg:Str)(gi:Int)(gj:Bool)(cy:Int)(cz:Qb)(d4:Int)(d5:Str)(d6:Int)(d7:Str)(d8:Int)(d9:Int)(da:Int)(db:Int)(de:Int)(cd:(List Str))(cg:(List Int))(ci:(List Qq))(cj:(List Qt))(ck:(List Jd))(cm:(List Qk))(dj:(List Q9))(ge:(List Qo))(gt:(List Q2))(jo:Int):Option (Qz×Qx×Qb×Qa×Str×(List Str)×Bool×Bool×Int×Int×Int×Bool×Bool×(List Int)×Str×Int×Bool×Int×Qb×Int×Str×Int×Str×Int×Int×Int×Int×Int×Int×(List Qq)×(List Qt)×(List Jd)×(List Qk)×(List Q9)×(List Qo)×(List Q2)) :=
 if jo==0 then
 (Qgv N ct cp cw gw gx gy gz j9 ja jb jc jd gg gi gj cy cz d4 d5 d6 d7 d8 d9 da db de cd cg ci cj ck cm dj ge gt).bind fun w1 =>
 some (w1.2.1,w1.2.2.1,w1.2.2.2.1,w1.2.2.2.2.1.1,w1.2.2.2.2.1.2.1,w1.2.2.2.2.1.2.2.1,w1.2.2.2.2.1.2.2.2.1,w1.2.2.2.2.1.2.2.2.2,w1.2.2.2.2.2.1.1,w1.2.2.2.2.2.1.2.1,w1.2.2.2.2.2.1.2.2.1,w1.2.2.2.2.2.1.2.2.2.1,w1.2.2.2.2.2.1.2.2.2.2.1,w1.2.2.2.2.2.1.2.2.2.2.2,w1.2.2.2.2.2.2.1,w1.2.2.2.2.2.2.2.1,w1.2.2.2.2.2.2.2.2.1,w1.2.2.2.2.2.2.2.2.2.1,w1.2.2.2.2.2.2.2.2.2.2.1,w1.2.2.2.2.2.2.2.2.2.2.2.1,w1.2.2.2.2.2.2.2.2.2.2.2.2.1,w1.2.2.2.2.2.2.2.2.2.2.2.2.2.1,w1.2.2.2.2.2.2.2.2.2.2.2.2.2.2.1,w1.2.2.2.2.2.2.2.2.2.2.2.2.2.2.2.1,w1.2.2.2.2.2.2.2.2.2.2.2.2.2.2.2.2.1,w1.2.2.2.2.2.2.2.2.2.2.2.2.2.2.2.2.2.1,w1.2.2.2.2.2.2.2.2.2.2.2.2.2.2.2.2.2.2.1,w1.2.2.2.2.2.2.2.2.2.2.2.2.2.2.2.2.2.2.2.1,w1.1,w1.2.2.2.2.2.2.2.2.2.2.2.2.2.2.2.2.2.2.2.2.1,w1.2.2.2.2.2.2.2.2.2.2.2.2.2.2.2.2.2.2.2.2.2.1,w1.2.2.2.2.2.2.2.2.2.2.2.2.2.2.2.2.2.2.2.2.2.2.1,w1.2.2.2.2.2.2.2.2.2.2.2.2.2.2.2.2.2.2.2.2.2.2.2.1,w1.2.2.2.2.2.2.2.2.2.2.2.2.2.2.2.2.2.2.2.2.2.2.2.2.1,w1.2.2.2.2.2.2.2.2.2.2.2.2.2.2.2.2.2.2.2.2.2.2.2.2.2.1,w1.2.2.2.2.2.2.2.2.2.2.2.2.2.2.2.2.2.2.2.2.2.2.2.2.2.2)
 else
 some (ct,cp,cw,gw,gx,cd,gy,gz,j9,ja,jb,jc,jd,cg,gg,gi,gj,cy,cz,d4,d5,d6,d7,d8,d9,da,db,de,jo,ci,cj,ck,cm,dj,ge,gt)
def Gi(N:Nat)(x0:(List Str)):Option ((List Str)) :=
 (app 16 ([]:List Str) x0).bind fun q1 =>
 some q1
def Xk(N:Nat)(x0:(List Kc)):Option ((List Kc)) :=
 (app 24 ([]:List Kc) x0).bind fun q1 =>
 some q1
def Xl(N:Nat)(x0:(List Vs)):Option ((List Vs)) :=
 (app 24 ([]:List Vs) x0).bind fun q1 =>
 some q1
def Qcz(N:Nat)(self:Qj →  Option (Qj))(x0:Qj):(Int×(List Qj))→Option ((Int×(List Qj))⊕(((List Qj)))):=fun w2 =>
 if decide (w2.1<(List.length x0.ks:Int))then
 (idx x0.ks w2.1).bind fun x4 =>
 (self x4).bind fun r5 =>
 (app 56 w2.2 ([r5]:List Qj)).bind fun q6 =>
 some (.inl ((IntKind.wrap .i64 (w2.1+1)),q6))
 else
 some (.inr w2.2)
def Z7(N:Nat):Nat→Qj→Option (Qj)
 | 0,_=>none
 | n+1,x0 =>
  (Qg (Qcz N (Z7 N n) x0) N (0,([]:List Qj))).bind fun v7 =>
  some (Ki.mk (x0.x.1,x0.x.2.1,x0.x.2.2) v7)
def Qml(N:Nat)(x0:Qj):Option (Qj):=Z7 N N x0
def Qbg(N:Nat)(x0:Ql):(Int×Str×Int×Bool×(List Qq))→Option ((Int×Str×Int×Bool×(List Qq))⊕((Str×Int×Bool×(List Qq)))):=fun w6 =>
 if decide (w6.1<(List.length x0.2.2.2.1:Int))then
 (idx x0.2.2.2.1 w6.1).bind fun x11 =>
 (Gi N x11.2).bind fun r12 =>
 (app 40 w6.2.2.2.2 ([(x11.1,r12)]:List Qq)).bind fun q13 =>
 some (.inl ((IntKind.wrap .i64 (w6.1+1)),w6.2.1,w6.2.2.1,w6.2.2.2.1,q13))
 else
 some (.inr (w6.2.1,w6.2.2.1,w6.2.2.2.1,w6.2.2.2.2))
def Qbh(N:Nat)(x0:Ql):(Int×Str×Int×Bool×(List Qq)×(List Qt))→Option ((Int×Str×Int×Bool×(List Qq)×(List Qt))⊕((Str×Int×Bool×(List Qq)×(List Qt)))):=fun w24 =>
 if decide (w24.1<(List.length x0.2.2.2.2.1:Int))then
 (idx x0.2.2.2.2.1 w24.1).bind fun x30 =>
 (Xk N x30.2).bind fun r31 =>
 (app 40 w24.2.2.2.2.2 ([(x30.1,r31)]:List Qt)).bind fun q32 =>
 some (.inl ((IntKind.wrap .i64 (w24.1+1)),w24.2.1,w24.2.2.1,w24.2.2.2.1,w24.2.2.2.2.1,q32))
 else
 some (.inr (w24.2.1,w24.2.2.1,w24.2.2.2.1,w24.2.2.2.2.1,w24.2.2.2.2.2))
def Qbi(N:Nat)(x0:Ql):(Int×Str×Int×Bool×(List Qq)×(List Qt)×(List Jd))→Option ((Int×Str×Int×Bool×(List Qq)×(List Qt)×(List Jd))⊕((Str×Int×Bool×(List Qq)×(List Qt)×(List Jd)))):=fun w45 =>
 if decide (w45.1<(List.length x0.2.2.2.2.2.1:Int))then
 (idx x0.2.2.2.2.2.1 w45.1).bind fun x52 =>
 (Xl N x52.2.2.2.2).bind fun r53 =>
 (app 72 w45.2.2.2.2.2.2 ([(x52.1,x52.2.1,x52.2.2.1,x52.2.2.2.1,r53)]:List Jd)).bind fun q54 =>
 some (.inl ((IntKind.wrap .i64 (w45.1+1)),w45.2.1,w45.2.2.1,w45.2.2.2.1,w45.2.2.2.2.1,w45.2.2.2.2.2.1,q54))
 else
 some (.inr (w45.2.1,w45.2.2.1,w45.2.2.2.1,w45.2.2.2.2.1,w45.2.2.2.2.2.1,w45.2.2.2.2.2.2))
def Qbj(N:Nat)(x0:Ql):(Int×Str×Int×Bool×(List Qq)×(List Qt)×(List Jd)×(List Qk))→Option ((Int×Str×Int×Bool×(List Qq)×(List Qt)×(List Jd)×(List Qk))⊕((Str×Int×Bool×(List Qq)×(List Qt)×(List Jd)×(List Qk)))):=fun w69 =>
 if decide (w69.1<(List.length x0.2.2.2.2.2.2:Int))then
 (idx x0.2.2.2.2.2.2 w69.1).bind fun x77 =>
 (Qml N x77.2.1).bind fun r78 =>
 (app 80 w69.2.2.2.2.2.2.2 ([(x77.1,r78,x77.2.2)]:List Qk)).bind fun q79 =>
 some (.inl ((IntKind.wrap .i64 (w69.1+1)),w69.2.1,w69.2.2.1,w69.2.2.2.1,w69.2.2.2.2.1,w69.2.2.2.2.2.1,w69.2.2.2.2.2.2.1,q79))
 else
 some (.inr (w69.2.1,w69.2.2.1,w69.2.2.2.1,w69.2.2.2.2.1,w69.2.2.2.2.2.1,w69.2.2.2.2.2.2.1,w69.2.2.2.2.2.2.2))
def Qag(N:Nat)(x0:Ql):Option (Str×Int×Bool×(List Qq)×(List Qt)×(List Jd)×(List Qk)) :=
 (Qg (Qbg N x0) N (0,x0.1,x0.2.1,x0.2.2.1,([]:List Qq))).bind fun w14 =>
 (Qg (Qbh N x0) N (0,w14.1,w14.2.1,w14.2.2.1,w14.2.2.2,([]:List Qt))).bind fun w33 =>
 (Qg (Qbi N x0) N (0,w33.1,w33.2.1,w33.2.2.1,w33.2.2.2.1,w33.2.2.2.2,([]:List Jd))).bind fun w55 =>
 (Qg (Qbj N x0) N (0,w55.1,w55.2.1,w55.2.2.1,w55.2.2.2.1,w55.2.2.2.2.1,w55.2.2.2.2.2,([]:List Qk))).bind fun w80 =>
 some (w80.1,w80.2.1,w80.2.2.1,w80.2.2.2.1,w80.2.2.2.2.1,w80.2.2.2.2.2.1,w80.2.2.2.2.2.2)
def Qis(N:Nat)(x0:(List Ql))(x1:Str)(x2:Int):(Int×Int)→Option ((Int×Int)⊕((Int))):=fun w1 =>
 if decide (w1.2<(List.length x0:Int))then
 ((idx x0 w1.2).bind fun x3 =>
 if(x3.1==x1)&&(decide (x3.2.1≤x2))then
 some w1.2
 else
 some w1.1:Option ((Int))).bind fun v4 =>
 some (.inl (v4,(IntKind.wrap .i64 (w1.2+1))))
 else
 some (.inr w1.1)
def Qku(N:Nat)(x0:(List Ql))(x1:Str)(x2:Int):Option (Str×Int×Bool×Bool×(List Qq)×(List Qt)×(List Jd)×(List Qk)) :=
 (Qg (Qis N x0 x1 x2) N ((-1),0)).bind fun v5 =>
 if decide (v5<0)then
 some (([]:Str),0,false,false,([]:List Qq),([]:List Qt),([]:List Jd),([]:List Qk))
 else
 (idx x0 v5).bind fun x6 =>
 (Qag N x6).bind fun w7 =>
 some (w7.1,w7.2.1,w7.2.2.1,true,w7.2.2.2.1,w7.2.2.2.2.1,w7.2.2.2.2.2.1,w7.2.2.2.2.2.2)
def Qf1(N:Nat)(x0:Str):(Int)→Option ((Int)⊕((Unit)⊕(Bool))):=fun v1 =>
 if decide (v1<(List.length x0:Int))then
 (B4 x0 v1).bind fun c2 =>
 if((decide (c2<97))||(decide (c2>122)))&&((v1==0)||((c2 != 45)&&((decide (c2<48))||(decide (c2>57)))))then
 some (.inr (.inr false))
 else
 some (.inl (IntKind.wrap .i64 (v1+1)))
 else
 some (.inr (.inl ()))
def Qgx(N:Nat)(x0:Str):Option (Bool) :=
 (Qg (Qf1 N x0) N 0).bind fun
 | .inl _ =>
  some ((decide ((List.length x0:Int)≥1))&&(decide ((List.length x0:Int)≤24)))
 | .inr v3 =>
  some v3
def Pe(N:Nat)(x0:Qq)(ca:Qq):Option (Bool) :=
 some (x0.1==ca.1)
def Xr(N:Nat)(x0:(List Qq))(ca:Qq):(Int)→Option ((Int)⊕((Unit)⊕(Int))):=fun v1 =>
 if decide (v1<(List.length x0:Int))then
 (idx x0 v1).bind fun x2 =>
 (Pe N x2 ca).bind fun r3 =>
 if r3 then
 some (.inr (.inr v1))
 else
 some (.inl (IntKind.wrap .i64 (v1+1)))
 else
 some (.inr (.inl ()))
def Zl(N:Nat)(x0:(List Qq))(ca:Qq):Option (Int) :=
 (Qg (Xr N x0 ca) N 0).bind fun
 | .inl _ =>
  some (-1)
 | .inr v4 =>
  some v4
def Uf(N:Nat)(x0:(List Qq))(ca:Qq):Option (Bool) :=
 (Zl N x0 ca).bind fun r1 =>
 some (decide (r1≥0))
def Qah(N:Nat)(x0:Int):Option (Bool) :=
 some ((decide (x0≥48))&&(decide (x0≤57)))
def Qbk(N:Nat)(x0:Str):(Int)→Option ((Int)⊕((Unit)⊕(Bool))):=fun v1 =>
 if decide (v1<(List.length x0:Int))then
 (B4 x0 v1).bind fun c2 =>
 (Qah N c2).bind fun r3 =>
 if !r3 then
 some (.inr (.inr false))
 else
 some (.inl (IntKind.wrap .i64 (v1+1)))
 else
 some (.inr (.inl ()))
def Aj(N:Nat)(x0:Str):Option (Bool) :=
 (Qg (Qbk N x0) N 0).bind fun
 | .inl _ =>
  some ((decide ((List.length x0:Int)≥1))&&(decide ((List.length x0:Int)≤15)))
 | .inr v4 =>
  some v4
def Qc0(N:Nat)(x4:Qq):(Int×(List (Str×Str)))→Option ((Int×(List (Str×Str)))⊕(((List (Str×Str)))⊕(Int))):=fun w11 =>
 if decide (w11.1<(List.length x4.2:Int))then
 (idx x4.2 w11.1).bind fun x13 =>
 (Aj N x13).bind fun r14 =>
 if !r14 then
 some (.inr (.inr 12))
 else
 if(Qr (k:=.str) x13 w11.2).isSome then
 some (.inr (.inr 10))
 else
 some (.inl ((IntKind.wrap .i64 (w11.1+1)),(J9 (k:=.str) x13 x4.1 w11.2)))
 else
 some (.inr (.inl w11.2))
def Qc1(N:Nat)(x0:(List Qq)):(Int×(List (Str×Str)))→Option ((Int×(List (Str×Str)))⊕(((List (Str×Str)))⊕(Int))):=fun w2 =>
 if decide (w2.1<(List.length x0:Int))then
 (idx x0 w2.1).bind fun x4 =>
 (Qgx N x4.1).bind fun r6 =>
 if !r6 then
 some (.inr (.inr 8))
 else
 (slc x0 0 w2.1).bind fun s7 =>
 (Uf N s7 x4).bind fun r9 =>
 if r9 then
 some (.inr (.inr 10))
 else
 if(List.length x4.2:Int)==0 then
 some (.inr (.inr 8))
 else
 if decide ((List.length x4.2:Int)>64)then
 some (.inr (.inr 5))
 else
 (Qg (Qc0 N x4) N (0,w2.2)).bind fun
 | .inl v15 =>
  some (.inl ((IntKind.wrap .i64 (w2.1+1)),v15))
 | .inr v16 =>
  some (.inr (.inr v16))
 else
 some (.inr (.inl w2.2))
def Qc2(N:Nat)(x0:(List Qq)):Option ((Int×(List (Str×Str)))⊕(Int)) :=
 if decide ((List.length x0:Int)>64)then
 some (.inr 5)
 else
 (Qg (Qc1 N x0) N (0,([]:List (Str×Str)))).bind fun
 | .inl v17 =>
  some (.inl (0,v17))
 | .inr v18 =>
  some (.inr v18)
def R9(N:Nat)(x1:Str)(ca:(List (Str×Str))):(Int)→Option ((Int)⊕((Unit)⊕(Str×Bool))):=fun v1 =>
 if decide (v1>0)then
 (slc x1 0 v1).bind fun s2 =>
 if(Qr (k:=.str) s2 ca).isSome then
 some (.inr (.inr (((Qr (k:=.str) s2 ca).getD ([]:Str)),true)))
 else
 some (.inl (IntKind.wrap .i64 (v1 - 1)))
 else
 some (.inr (.inl ()))
def Pf(N:Nat)(x1:Str)(x2:Int)(ca:(List (Str×Str))):Option (Str×Bool) :=
 (Qg (R9 N x1 ca) N x2).bind fun
 | .inl _ =>
  some (([]:Str),false)
 | .inr w3 =>
  some (w3.1,w3.2)
def Qai(N:Nat)(x0:(List Qq))(x1:Str):Option (Str×Bool) :=
 (Qc2 N x0).bind fun
 | .inl w1 =>
  (if w1.1 != 0 then
  some true
  else
  (Aj N x1).bind fun r4 =>
  some (!r4):Option (Bool)).bind fun v5 =>
  if v5 then
  some (([]:Str),false)
  else
  (Pf N x1 (List.length x1:Int) w1.2).bind fun w6 =>
  some (w6.1,w6.2)
 | .inr r8 =>
  (if r8 != 0 then
  some true
  else
  (Aj N x1).bind fun r10 =>
  some (!r10):Option (Bool)).bind fun v11 =>
  if v11 then
  some (([]:Str),false)
  else
  none
def Ci(N:Nat)(cx:Qz)(dg:Qx)(cq:Qb)(g8:Q6)(g9:Qm)(gk:Str)(gm:Int)(gn:Bool)(du:Int)(dv:Qb)(dw:Int)(dy:Str)(dz:Int)(dl:Str)(g5:Int)(dx:Int)(dq:Int)(g6:Int)(g7:Int)(ce:(List Qq))(cd:(List Qt))(cg:(List Jd))(ci:(List Qk))(cj:(List Q9))(ck:(List Qo))(cm:(List Q2)):Option (Int×Qz×Qx×Qb×Q6×Qm×Str×Int×Bool×(List Qq)×Int×Qb×Int×Str×Int×Str×Int×Int×Int×Int×Int×(List Qt)×(List Jd)×(List Qk)×(List Q9)×(List Qo)×(List Q2)) :=
 (Qku N cx.2.1 g8.2.1 cq.2.2.2.2.2.2.1).bind fun w1 =>
 if !w1.2.2.2.1 then
 some (18,cx,dg,cq,g8,g9,gk,gm,gn,ce,du,dv,dw,dy,dz,dl,g5,dx,dq,g6,g7,cd,cg,ci,cj,ck,cm)
 else
 (Qai N w1.2.2.2.2.1 cq.2.2.2.2.2.1).bind fun w9 =>
 some (0,cx,dg,cq,g8,g9,w1.1,w1.2.1,w1.2.2.1,w1.2.2.2.2.1,du,dv,dw,w1.1,w1.2.1,w9.1,g5,dx,dq,g6,g7,w1.2.2.2.2.2.1,w1.2.2.2.2.2.2.1,w1.2.2.2.2.2.2.2,cj,ck,cm)
def Qgy(N:Nat)(ct:Qz)(cp:Qx)(cw:Qb)(dh:Q6)(di:Qm)(gg:Str)(gi:Int)(gj:Bool)(cy:Int)(cz:Qb)(d4:Int)(d5:Str)(d6:Int)(d7:Str)(d8:Int)(d9:Int)(da:Int)(db:Int)(de:Int)(cd:(List Qq))(cg:(List Qt))(ci:(List Jd))(cj:(List Qk))(ck:(List Q9))(cm:(List Qo))(dj:(List Q2)):Option (Int×Qz×Qx×Qb×Q6×Qm×Str×Int×Bool×(List Qq)×Int×Qb×Int×Str×Int×Str×Int×Int×Int×Int×Int×(List Qt)×(List Jd)×(List Qk)×(List Q9)×(List Qo)×(List Q2)) :=
 (Ci N ct cp cw dh di gg gi gj cy cz d4 d5 d6 d7 d8 d9 da db de cd cg ci cj ck cm dj).bind fun w1 =>
 some (w1.1,w1.2.1,w1.2.2.1,w1.2.2.2.1,w1.2.2.2.2.1,w1.2.2.2.2.2.1,w1.2.2.2.2.2.2.1,w1.2.2.2.2.2.2.2.1,w1.2.2.2.2.2.2.2.2.1,w1.2.2.2.2.2.2.2.2.2.1,w1.2.2.2.2.2.2.2.2.2.2.1,w1.2.2.2.2.2.2.2.2.2.2.2.1,w1.2.2.2.2.2.2.2.2.2.2.2.2.1,w1.2.2.2.2.2.2.2.2.2.2.2.2.2.1,w1.2.2.2.2.2.2.2.2.2.2.2.2.2.2.1,w1.2.2.2.2.2.2.2.2.2.2.2.2.2.2.2.1,w1.2.2.2.2.2.2.2.2.2.2.2.2.2.2.2.2.1,w1.2.2.2.2.2.2.2.2.2.2.2.2.2.2.2.2.2.1,w1.2.2.2.2.2.2.2.2.2.2.2.2.2.2.2.2.2.2.1,w1.2.2.2.2.2.2.2.2.2.2.2.2.2.2.2.2.2.2.2.1,w1.2.2.2.2.2.2.2.2.2.2.2.2.2.2.2.2.2.2.2.2.1,w1.2.2.2.2.2.2.2.2.2.2.2.2.2.2.2.2.2.2.2.2.2.1,w1.2.2.2.2.2.2.2.2.2.2.2.2.2.2.2.2.2.2.2.2.2.2.1,w1.2.2.2.2.2.2.2.2.2.2.2.2.2.2.2.2.2.2.2.2.2.2.2.1,w1.2.2.2.2.2.2.2.2.2.2.2.2.2.2.2.2.2.2.2.2.2.2.2.2.1,w1.2.2.2.2.2.2.2.2.2.2.2.2.2.2.2.2.2.2.2.2.2.2.2.2.2.1,w1.2.2.2.2.2.2.2.2.2.2.2.2.2.2.2.2.2.2.2.2.2.2.2.2.2.2)
def Pg(N:Nat)(ct:Qz)(cp:Qx)(cw:Qb)(dh:Q6)(di:Qm)(gg:Str)(gi:Int)(gj:Bool)(cy:Int)(cz:Qb)(d4:Int)(d5:Str)(d6:Int)(d7:Str)(d8:Int)(d9:Int)(da:Int)(db:Int)(de:Int)(cd:(List Qq))(cg:(List Qt))(ci:(List Jd))(cj:(List Qk))(ck:(List Q9))(cm:(List Qo))(dj:(List Q2))(ge:Int):Option (Qz×Qx×Qb×Q6×Qm×Str×Int×Bool×(List Qq)×Int×Qb×Int×Str×Int×Str×Int×Int×Int×Int×Int×Int×(List Qt)×(List Jd)×(List Qk)×(List Q9)×(List Qo)×(List Q2)) :=
 if ge==0 then
 (Qgy N ct cp cw dh di gg gi gj cy cz d4 d5 d6 d7 d8 d9 da db de cd cg ci cj ck cm dj).bind fun w1 =>
 some (w1.2.1,w1.2.2.1,w1.2.2.2.1,w1.2.2.2.2.1,w1.2.2.2.2.2.1,w1.2.2.2.2.2.2.1,w1.2.2.2.2.2.2.2.1,w1.2.2.2.2.2.2.2.2.1,w1.2.2.2.2.2.2.2.2.2.1,w1.2.2.2.2.2.2.2.2.2.2.1,w1.2.2.2.2.2.2.2.2.2.2.2.1,w1.2.2.2.2.2.2.2.2.2.2.2.2.1,w1.2.2.2.2.2.2.2.2.2.2.2.2.2.1,w1.2.2.2.2.2.2.2.2.2.2.2.2.2.2.1,w1.2.2.2.2.2.2.2.2.2.2.2.2.2.2.2.1,w1.2.2.2.2.2.2.2.2.2.2.2.2.2.2.2.2.1,w1.2.2.2.2.2.2.2.2.2.2.2.2.2.2.2.2.2.1,w1.2.2.2.2.2.2.2.2.2.2.2.2.2.2.2.2.2.2.1,w1.2.2.2.2.2.2.2.2.2.2.2.2.2.2.2.2.2.2.2.1,w1.2.2.2.2.2.2.2.2.2.2.2.2.2.2.2.2.2.2.2.2.1,w1.1,w1.2.2.2.2.2.2.2.2.2.2.2.2.2.2.2.2.2.2.2.2.2.1,w1.2.2.2.2.2.2.2.2.2.2.2.2.2.2.2.2.2.2.2.2.2.2.1,w1.2.2.2.2.2.2.2.2.2.2.2.2.2.2.2.2.2.2.2.2.2.2.2.1,w1.2.2.2.2.2.2.2.2.2.2.2.2.2.2.2.2.2.2.2.2.2.2.2.2.1,w1.2.2.2.2.2.2.2.2.2.2.2.2.2.2.2.2.2.2.2.2.2.2.2.2.2.1,w1.2.2.2.2.2.2.2.2.2.2.2.2.2.2.2.2.2.2.2.2.2.2.2.2.2.2)
 else
 some (ct,cp,cw,dh,di,gg,gi,gj,cd,cy,cz,d4,d5,d6,d7,d8,d9,da,db,de,ge,cg,ci,cj,ck,cm,dj)
def Mp(N:Nat)(x0:(List Qd)):(Int×(List Qd))→Option ((Int×(List Qd))⊕(((List Qd)))):=fun w2 =>
 if decide (w2.1<(List.length x0:Int))then
 (idx x0 w2.1).bind fun x4 =>
 (app 16 ([]:List Str) x4.2.2.2.2.2.1).bind fun q5 =>
 (app 120 w2.2 ([(x4.1,x4.2.1,x4.2.2.1,x4.2.2.2.1,x4.2.2.2.2.1,q5,x4.2.2.2.2.2.2.1,x4.2.2.2.2.2.2.2.1,x4.2.2.2.2.2.2.2.2.1,x4.2.2.2.2.2.2.2.2.2.1,x4.2.2.2.2.2.2.2.2.2.2)]:List Qd)).bind fun q6 =>
 some (.inl ((IntKind.wrap .i64 (w2.1+1)),q6))
 else
 some (.inr w2.2)
def Ih(N:Nat)(x0:(List Qd)):Option ((List Qd)) :=
 (Qg (Mp N x0) N (0,([]:List Qd))).bind fun v7 =>
 some v7
def Hz(N:Nat)(x0:Qx):Option ((List Qd)×(List Qp)×(List Qi)) :=
 (Ih N x0.1).bind fun r1 =>
 (app 40 ([]:List Qp) x0.2.1).bind fun q2 =>
 (app 40 ([]:List Qi) x0.2.2).bind fun q3 =>
 some (r1,q2,q3)
def Oe(N:Nat)(x0:(List Qv))(x1:Int)(x2:Int):(Int)→Option ((Int)⊕((Unit)⊕(Bool))):=fun v1 =>
 if decide (v1<(List.length x0:Int))then
 (idx x0 v1).bind fun x3 =>
 if((x3.2.1==1)&&(x3.2.2.1==x1))&&(decide (x3.1≤x2))then
 some (.inr (.inr (x3.2.2.2.2.2.1==([112,114,101,112,97,105,100]:Str))))
 else
 some (.inl (IntKind.wrap .i64 (v1+1)))
 else
 some (.inr (.inl ()))
def Mq(N:Nat)(x0:(List Qv))(x1:Int)(x2:Int):Option (Bool) :=
 (Qg (Oe N x0 x1 x2) N 0).bind fun
 | .inl _ =>
  some false
 | .inr v4 =>
  some v4
def Of(N:Nat)(x0:(List Qp)):(Int×(List (Int×Int)))→Option ((Int×(List (Int×Int)))⊕(((List (Int×Int))))):=fun w2 =>
 if decide (w2.1<(List.length x0:Int))then
 ((idx x0 w2.1).bind fun x5 =>
 if !(Qr (k:=(.int .i64)) x5.1 w2.2).isSome then
 some (J9 (k:=(.int .i64)) x5.1 w2.1 w2.2)
 else
 some w2.2:Option (((List (Int×Int))))).bind fun v6 =>
 some (.inl ((IntKind.wrap .i64 (w2.1+1)),v6))
 else
 some (.inr w2.2)
def Ms(N:Nat)(x0:(List Qp)):Option ((List (Int×Int))) :=
 (Qg (Of N x0) N (0,([]:List (Int×Int)))).bind fun v7 =>
 some v7
def Qbl(N:Nat)(x0:(List Qp))(x1:Int):(Int)→Option ((Int)⊕((Int))):=fun v3 =>
 (if decide (v3<(List.length x0:Int))then
 (idx x0 v3).bind fun x5 =>
 some (decide (x5.1<x1))
 else
 some false:Option (Bool)).bind fun v6 =>
 if v6 then
 some (.inl (IntKind.wrap .i64 (v3+1)))
 else
 some (.inr v3)
def Qaj(N:Nat)(x0:(List Qp))(x1:Int):Option (Int×(List Qp)) :=
 (Ms N x0).bind fun r1 =>
 if(Qr (k:=(.int .i64)) x1 r1).isSome then
 (app 40 ([]:List Qp) x0).bind fun q2 =>
 some (((Qr (k:=(.int .i64)) x1 r1).getD 0),q2)
 else
 (Qg (Qbl N x0 x1) N 0).bind fun v7 =>
 (slc x0 0 v7).bind fun s8 =>
 (app 40 ([]:List Qp) s8).bind fun q9 =>
 (app 40 q9 ([(x1,0,0,0,(-1))]:List Qp)).bind fun q10 =>
 (slc x0 v7 (List.length x0:Int)).bind fun s11 =>
 (app 40 q10 s11).bind fun q12 =>
 some (v7,q12)
def Yq(N:Nat)(x0:Int)(x1:Int)(x2:Int):Option (Bool) :=
 some ((decide (x0≥x1))&&(decide (x0≤x2)))
def G4(N:Nat)(x0:Int):Option (Bool) :=
 some ((decide (x0≥(-1125899906842624)))&&(decide (x0≤1125899906842624)))
def G5(N:Nat)(x0:Qp):Option (Int) :=
 (Yq N x0.1 1 9999).bind fun r1 =>
 (if !r1 then
 some true
 else
 (G4 N x0.2.1).bind fun r3 =>
 some (!r3):Option (Bool)).bind fun v4 =>
 (if v4 then
 some true
 else
 (Yq N x0.2.2.1 (-1125899906842624) 0).bind fun r6 =>
 some (!r6):Option (Bool)).bind fun v7 =>
 if v7 then
 some 6
 else
 (Yq N x0.2.2.2.1 0 1125899906842624).bind fun r8 =>
 (if !r8 then
 some true
 else
 (Yq N x0.2.2.2.2 (-1) 12622780799).bind fun r10 =>
 some (!r10):Option (Bool)).bind fun v11 =>
 if v11 then
 some 6
 else
 if decide ((IntKind.wrap .i64 (x0.2.1 - x0.2.2.2.1))<x0.2.2.1)then
 some 19
 else
 some 0
def Vc(N:Nat)(x0:Qp)(x1:Int):Option (Qp×Int) :=
 if x1 != 0 then
 some ((0,0,0,0,0),x1)
 else
 some (x0,0)
def Ph(N:Nat)(x0:Qp)(x1:Int):Option (Qp×Int) :=
 (G5 N x0).bind fun r1 =>
 if r1 != 0 then
 (Vc N x0 r1).bind fun w2 =>
 some (w2.1,w2.2)
 else
 (Yq N x1 0 1125899906842624).bind fun r4 =>
 (if !r4 then
 some true
 else
 (G4 N (IntKind.wrap .i64 (x0.2.1+x1))).bind fun r6 =>
 some (!r6):Option (Bool)).bind fun v7 =>
 if v7 then
 (Vc N x0 6).bind fun w8 =>
 some (w8.1,w8.2)
 else
 some ((x0.1,(IntKind.wrap .i64 (x0.2.1+x1)),x0.2.2.1,x0.2.2.2.1,x0.2.2.2.2),0)
def Wo(N:Nat)(x0:Qp)(x1:Int)(ca:Qp):Option (Qp) :=
 if x1==0 then
 some x0
 else
 some ca
def Qak(N:Nat)(x0:Qp)(x1:Int):Option (Qp×Int) :=
 (G5 N x0).bind fun r1 =>
 if r1 != 0 then
 (Vc N x0 r1).bind fun w2 =>
 some (w2.1,w2.2)
 else
 (Yq N x1 (-1125899906842624) 0).bind fun r4 =>
 if !r4 then
 (Vc N x0 6).bind fun w5 =>
 some (w5.1,w5.2)
 else
 if decide ((IntKind.wrap .i64 (x0.2.1 - x0.2.2.2.1))<x1)then
 (Vc N x0 19).bind fun w7 =>
 some (w7.1,w7.2)
 else
 some ((x0.1,x0.2.1,x1,x0.2.2.2.1,x0.2.2.2.2),0)
def Mt(N:Nat)(x0:(List Qv))(x2:Int)(r8:(List Qp))(r7:Int)(x3:Int):(Int×Qp)→Option ((Int×Qp)⊕((Qp))):=fun w11 =>
 if decide (w11.1<(List.length x0:Int))then
 ((idx x0 w11.1).bind fun x17 =>
 (if x17.2.2.1 != x2 then
 some true
 else
 (idx r8 r7).bind fun _ =>
 (idx r8 r7).bind fun x19 =>
 some (decide (x17.1≤x19.2.2.2.2)):Option (Bool)).bind fun v20 =>
 if v20||(decide (x17.1>x3))then
 some w11.2
 else
 if x17.2.1==14 then
 (Ph N w11.2 x17.2.2.2.2.2.2).bind fun w21 =>
 (Wo N w21.1 w21.2 w11.2).bind fun r23 =>
 some r23
 else
 if x17.2.1==15 then
 (Qak N w11.2 x17.2.2.2.2.2.2).bind fun w24 =>
 (Wo N w24.1 w24.2 w11.2).bind fun r26 =>
 some r26
 else
 some w11.2:Option ((Qp))).bind fun v27 =>
 some (.inl ((IntKind.wrap .i64 (w11.1+1)),v27))
 else
 some (.inr w11.2)
def Ii(N:Nat)(x0:(List Qv))(x1:Qx)(x2:Int)(x3:Int):Option ((List Qd)×(List Qp)×(List Qi)) :=
 (Hz N x1).bind fun w1 =>
 (if(decide (x3<0))||(decide (x3≥12622780800))then
 some true
 else
 (Mq N x0 x2 x3).bind fun r5 =>
 some (!r5):Option (Bool)).bind fun v6 =>
 if v6 then
 some (w1.1,w1.2.1,w1.2.2)
 else
 (Qaj N w1.2.1 x2).bind fun w7 =>
 (idx w7.2 w7.1).bind fun _ =>
 (idx w7.2 w7.1).bind fun x9 =>
 (Qg (Mt N x0 x2 w7.2 w7.1 x3) N (0,x9)).bind fun v28 =>
 (idx w7.2 w7.1).bind fun _ =>
 (idx w7.2 w7.1).bind fun y29 =>
 some (w1.1,(List.set w7.2 (Int.toNat w7.1) (v28.1,v28.2.1,v28.2.2.1,v28.2.2.2.1,(if x3>v28.2.2.2.2 then x3 else v28.2.2.2.2))),w1.2.2)
def Ak(N:Nat)(x0:Qd):Option (Int×Int×Str×Int×Int×Qa×Int×Int×Int×Bool×(List Str)) :=
 (app 16 ([]:List Str) x0.2.2.2.2.2.1).bind fun q1 =>
 some (x0.1,x0.2.1,x0.2.2.1,x0.2.2.2.1,x0.2.2.2.2.1,x0.2.2.2.2.2.2.1,x0.2.2.2.2.2.2.2.1,x0.2.2.2.2.2.2.2.2.1,x0.2.2.2.2.2.2.2.2.2.1,x0.2.2.2.2.2.2.2.2.2.2,q1)
def Sa(N:Nat)(x0:Qd):Option (Q5) :=
 some (x0.2.1,x0.2.2.1,x0.2.2.2.1,x0.2.2.2.2.2.2.1.1)
def Sc(N:Nat)(x0:(List Qv))(x1:Int):(Int)→Option ((Int)⊕((Unit)⊕(Int))):=fun v1 =>
 if decide (v1<(List.length x0:Int))then
 (idx x0 v1).bind fun x2 =>
 if(x2.2.1==1)&&(x2.2.2.1==x1)then
 some (.inr (.inr x2.2.2.2.2.2.2))
 else
 some (.inl (IntKind.wrap .i64 (v1+1)))
 else
 some (.inr (.inl ()))
def Pi(N:Nat)(x0:(List Qv))(x1:Int):Option (Int) :=
 (Qg (Sc N x0 x1) N 0).bind fun
 | .inl _ =>
  some 0
 | .inr v3 =>
  some v3
def Bw(N:Nat)(x0:Q6)(ca:Str):(Int)→Option ((Int)⊕((Unit)⊕(Bool))):=fun v1 =>
 if decide (v1<(List.length x0.2.2.1:Int))then
 (idx x0.2.2.1 v1).bind fun x2 =>
 if x2==ca then
 some (.inr (.inr true))
 else
 some (.inl (IntKind.wrap .i64 (v1+1)))
 else
 some (.inr (.inl ()))
def E6(N:Nat)(x0:Q6)(ca:Str):Option (Bool) :=
 (Qg (Bw N x0 ca) N 0).bind fun
 | .inl _ =>
  some false
 | .inr v3 =>
  some v3
def E7(N:Nat)(x0:Qa)(x1:Qa):Option (Bool) :=
 some (x0.2==x1.1)
def E8(N:Nat)(x0:Qa)(x1:Qa):Option (Qa) :=
 some (x0.1,x1.2)
def Ks(N:Nat)(x0:(List Qa)):(Int×(List Qa))→Option ((Int×(List Qa))⊕(((List Qa)))):=fun w2 =>
 if decide (w2.1<(List.length x0:Int))then
 ((idx x0 w2.1).bind fun x9 =>
 if decide ((List.length w2.2:Int)>0)then
 (idx w2.2 (IntKind.wrap .i64 ((List.length w2.2:Int) - 1))).bind fun _ =>
 (idx w2.2 (IntKind.wrap .i64 ((List.length w2.2:Int) - 1))).bind fun x10 =>
 (E7 N x10 x9).bind fun r11 =>
 if r11 then
 (idx w2.2 (IntKind.wrap .i64 ((List.length w2.2:Int) - 1))).bind fun _ =>
 (idx w2.2 (IntKind.wrap .i64 ((List.length w2.2:Int) - 1))).bind fun x12 =>
 (E8 N x12 x9).bind fun r13 =>
 (idx w2.2 (IntKind.wrap .i64 ((List.length w2.2:Int) - 1))).bind fun _ =>
 (idx w2.2 (IntKind.wrap .i64 ((List.length w2.2:Int) - 1))).bind fun y14 =>
 some (List.set w2.2 (Int.toNat (IntKind.wrap .i64 ((List.length w2.2:Int) - 1))) r13)
 else
 (app 16 w2.2 ([x9]:List Qa)).bind fun q15 =>
 some q15
 else
 (app 16 w2.2 ([x9]:List Qa)).bind fun q16 =>
 some q16:Option (((List Qa)))).bind fun v17 =>
 some (.inl ((IntKind.wrap .i64 (w2.1+1)),v17))
 else
 some (.inr w2.2)
def Uo(N:Nat)(x0:(List Qa)):Option ((List Qa)) :=
 (Qg (Ks N x0) N (0,([]:List Qa))).bind fun v18 =>
 some v18
def Iy(N:Nat)(r1:(List Q6))(ca:Str):(Int×(List Qa))→Option ((Int×(List Qa))⊕(((List Qa)))):=fun w3 =>
 if decide (w3.1<(List.length r1:Int))then
 ((idx r1 w3.1).bind fun _ =>
 (idx r1 w3.1).bind fun x6 =>
 (E6 N x6 ca).bind fun r7 =>
 if r7 then
 (app 16 w3.2 ([x6.1]:List Qa)).bind fun q8 =>
 some q8
 else
 some w3.2:Option (((List Qa)))).bind fun v9 =>
 some (.inl ((IntKind.wrap .i64 (w3.1+1)),v9))
 else
 some (.inr w3.2)
def Cj(N:Nat)(x0:(List Qv))(x1:Int)(ca:Str):Option ((List Qa)) :=
 (G3 N x0 x1).bind fun r1 =>
 (Qg (Iy N r1 ca) N (0,([]:List Qa))).bind fun v10 =>
 (Uo N v10).bind fun r11 =>
 some r11
def Ck(N:Nat)(x0:(List Qv))(x1:Int)(x2:Str):Option ((List Qa)) :=
 (Cj N x0 x1 x2).bind fun r1 =>
 some r1
def Pj(N:Nat)(x0:Jg)(x1:Jg):Option (Bool) :=
 some ((decide (x0.2.1<x1.2.1))||((x0.2.1==x1.2.1)&&(Op.bytesLess x0.2.2.1 x1.2.2.1)))
def Mu(N:Nat)(v17:(List Jg))(x1:Int)(x21:Qv)(r53:(List Qa)):(Int)→Option ((Int)⊕((Int))):=fun v55 =>
 (if decide (v55<(List.length v17:Int))then
 (idx v17 v55).bind fun _ =>
 (idx v17 v55).bind fun x56 =>
 (Pj N x56 (x1,x21.2.2.2.1,x21.2.2.2.2.2.1,r53)).bind fun r57 =>
 some r57
 else
 some false:Option ((Bool))).bind fun v58 =>
 if v58 then
 some (.inl (IntKind.wrap .i64 (v55+1)))
 else
 some (.inr v55)
def Mv(N:Nat)(x0:(List Qv))(x1:Int):(Int×(List (Int×Bool))×(List (Str×(List (Int×Bool))))×(List Jg))→Option ((Int×(List (Int×Bool))×(List (Str×(List (Int×Bool))))×(List Jg))⊕(((List Jg)))):=fun w8 =>
 if decide (w8.1<(List.length x0:Int))then
 ((idx x0 w8.1).bind fun x21 =>
 (if(x21.2.1==3)&&(x21.2.2.1==x1)then
 some (J9 (k:=(.int .i64)) x21.2.2.2.1 true w8.2.1)
 else
 some w8.2.1:Option (((List (Int×Bool))))).bind fun v32 =>
 ((some ((Qr (k:=.str) x21.2.2.2.2.2.1 w8.2.2.1))).bind fun
 | some r33 =>
  (if(x21.2.1 != 8)||(!((Qr (k:=(.int .i64)) x21.2.2.2.1 v32).getD false))then
  some true
  else
  (chk (eqK .str x21.2.2.2.2.2.1 x21.2.2.2.2.2.1)).bind fun _ =>
  some ((Qr (k:=(.int .i64)) x21.2.2.2.1 r33).getD false):Option (Bool)).bind fun v39 =>
  some (v39,(J9 (k:=.str) x21.2.2.2.2.2.1 r33 w8.2.2.1))
 | none =>
  (if(x21.2.1 != 8)||(!((Qr (k:=(.int .i64)) x21.2.2.2.1 v32).getD false))then
  some true
  else
  (chk (isNone (Qr (k:=.str) x21.2.2.2.2.2.1 w8.2.2.1))).bind fun _ =>
  some false:Option (Bool)).bind fun v41 =>
  some (v41,w8.2.2.1):Option ((Bool×(List (Str×(List (Int×Bool))))))).bind fun w44 =>
 if w44.1 then
 some (v32,w44.2,w8.2.2.2)
 else
 (((some ((Qr (k:=.str) x21.2.2.2.2.2.1 w44.2))).bind fun
 | some r46 =>
  (chk (eqK .str x21.2.2.2.2.2.1 x21.2.2.2.2.2.1)).bind fun _ =>
  some (false,(J9 (k:=.str) x21.2.2.2.2.2.1 r46 w44.2))
 | none =>
  (chk (isNone (Qr (k:=.str) x21.2.2.2.2.2.1 w44.2))).bind fun _ =>
  some (true,w44.2):Option ((Bool×(List (Str×(List (Int×Bool))))))).bind fun w48 =>
 if w48.1 then
 some (J9 (k:=.str) x21.2.2.2.2.2.1 ([]:List (Int×Bool)) w48.2)
 else
 some w48.2:Option (((List (Str×(List (Int×Bool))))))).bind fun v50 =>
 ((some ((Qr (k:=.str) x21.2.2.2.2.2.1 v50))).bind fun
 | some r51 =>
  (chk (eqK .str x21.2.2.2.2.2.1 x21.2.2.2.2.2.1)).bind fun _ =>
  some (J9 (k:=.str) x21.2.2.2.2.2.1 (J9 (k:=(.int .i64)) x21.2.2.2.1 true r51) v50)
 | none =>
  (chk (isNone (Qr (k:=.str) x21.2.2.2.2.2.1 v50))).bind fun _ =>
  none:Option (((List (Str×(List (Int×Bool))))))).bind fun v52 =>
 (Ck N x0 x21.2.2.2.1 x21.2.2.2.2.2.1).bind fun r53 =>
 (Qg (Mu N w8.2.2.2 x1 x21 r53) N 0).bind fun v59 =>
 (slc w8.2.2.2 0 v59).bind fun s60 =>
 (app 56 ([]:List Jg) s60).bind fun q61 =>
 (app 56 q61 ([(x1,x21.2.2.2.1,x21.2.2.2.2.2.1,r53)]:List Jg)).bind fun q62 =>
 (slc w8.2.2.2 v59 (List.length w8.2.2.2:Int)).bind fun s63 =>
 (app 56 q62 s63).bind fun q64 =>
 some (v32,v52,q64):Option (((List (Int×Bool))×(List (Str×(List (Int×Bool))))×(List Jg)))).bind fun w65 =>
 some (.inl ((IntKind.wrap .i64 (w8.1+1)),w65.1,w65.2.1,w65.2.2))
 else
 some (.inr w8.2.2.2)
def Ij(N:Nat)(x0:(List Qv))(x1:Int):Option ((List Jg)) :=
 (Qg (Mv N x0 x1) N (0,([]:List (Int×Bool)),([]:List (Str×(List (Int×Bool)))),([]:List Jg))).bind fun v68 =>
 some v68
def U8(N:Nat)(x0:Qa)(x1:Qa):Option (Qa×Bool) :=
 (V5 N x0).bind fun r1 =>
 (if !r1 then
 some true
 else
 (V5 N x1).bind fun r3 =>
 some (!r3):Option (Bool)).bind fun v4 =>
 if v4||(decide ((if x1.1>x0.1 then x1.1 else x0.1)≥(if x1.2<x0.2 then x1.2 else x0.2)))then
 some ((0,0),false)
 else
 some (((if x1.1>x0.1 then x1.1 else x0.1),(if x1.2<x0.2 then x1.2 else x0.2)),true)
def Zq(N:Nat)(x0:Int):Option (Int) :=
 (if decide ((IntKind.wrap .i64 (x0 - 2000))>0)then
 some (IntKind.wrap .i64 ((IntKind.wrap .i64 (365*(IntKind.wrap .i64 (x0 - 2000))))+(IntKind.wrap .i64 ((IntKind.wrap .i64 ((IntKind.wrap .i64 ((IntKind.wrap .i64 (Int.tdiv (IntKind.wrap .i64 ((IntKind.wrap .i64 (x0 - 2000)) - 1)) 4)) - (IntKind.wrap .i64 (Int.tdiv (IntKind.wrap .i64 ((IntKind.wrap .i64 (x0 - 2000)) - 1)) 100))))+(IntKind.wrap .i64 (Int.tdiv (IntKind.wrap .i64 ((IntKind.wrap .i64 (x0 - 2000)) - 1)) 400))))+1))))
 else
 some (IntKind.wrap .i64 (365*(IntKind.wrap .i64 (x0 - 2000)))):Option ((Int))).bind fun v1 =>
 some v1
def Pk(N:Nat)(x0:Int):Option (Bool) :=
 some ((((Int.tmod x0 4)==0)&&((Int.tmod x0 100) != 0))||((Int.tmod x0 400)==0))
def Z8(N:Nat)(x0:Int)(x1:Int):Option (Int) :=
 (if x1==2 then
 (Pk N x0).bind fun r2 =>
 some r2
 else
 some false:Option (Bool)).bind fun v3 =>
 if v3 then
 some 29
 else
 (idx ([31,28,31,30,31,30,31,31,30,31,30,31]:List Int) (IntKind.wrap .i64 (x1 - 1))).bind fun _ =>
 (idx ([31,28,31,30,31,30,31,31,30,31,30,31]:List Int) (IntKind.wrap .i64 (x1 - 1))).bind fun x4 =>
 some x4
def Sd(N:Nat)(x0:Int):(F4)→Option ((F4)⊕((F4))):=fun v1 =>
 (Zq N (IntKind.wrap .i64 (v1.1+1))).bind fun r2 =>
 if decide (r2≤x0)then
 some (.inl ((IntKind.wrap .i64 (v1.1+1)),v1.2.1,v1.2.2))
 else
 some (.inr v1)
def Se(N:Nat):(Int×F4)→Option ((Int×F4)⊕((Int×F4))):=fun w6 =>
 (Z8 N w6.2.1 w6.2.2.1).bind fun r8 =>
 if decide (w6.1≥r8)then
 (Z8 N w6.2.1 w6.2.2.1).bind fun r9 =>
 some (.inl ((IntKind.wrap .i64 (w6.1 - r9)),(w6.2.1,(IntKind.wrap .i64 (w6.2.2.1+1)),w6.2.2.2)))
 else
 some (.inr (w6.1,w6.2))
def Pl(N:Nat)(x0:Int):Option (F4) :=
 if(decide (x0<0))||(decide (x0≥146097))then
 some (0,0,0)
 else
 (Qg (Sd N x0) N ((IntKind.wrap .i64 (2000+(IntKind.wrap .i64 (Int.tdiv x0 366)))),1,0)).bind fun v3 =>
 (Zq N v3.1).bind fun r4 =>
 (Qg (Se N) N ((IntKind.wrap .i64 (x0 - r4)),v3)).bind fun w10 =>
 some (w10.2.1,w10.2.2.1,(IntKind.wrap .i64 (w10.1+1)))
def Gj(N:Nat)(x0:Int)(x1:Int):Option (Int) :=
 (Pl N (IntKind.wrap .i64 (Int.tdiv x1 86400))).bind fun r1 =>
 (if decide (r1.2.2<x0)then
 some (IntKind.wrap .i64 ((IntKind.wrap .i64 ((IntKind.wrap .i64 ((IntKind.wrap .i64 (12*(IntKind.wrap .i64 (r1.1 - 2000))))+r1.2.1)) - 1)) - 1))
 else
 some (IntKind.wrap .i64 ((IntKind.wrap .i64 ((IntKind.wrap .i64 (12*(IntKind.wrap .i64 (r1.1 - 2000))))+r1.2.1)) - 1)):Option ((Int))).bind fun v2 =>
 some v2
def Ik(N:Nat)(x0:Int)(x1:Int):Option (Int) :=
 if(((decide (x0<2000))||(decide (x0>2399)))||(decide (x1<1)))||(decide (x1>12))then
 some 0
 else
 (Z8 N x0 x1).bind fun r1 =>
 some r1
def Qbm(N:Nat)(x0:F4):(Int×Int)→Option ((Int×Int)⊕((Int))):=fun w4 =>
 if decide (w4.2<x0.2.1)then
 (Z8 N x0.1 w4.2).bind fun r6 =>
 some (.inl ((IntKind.wrap .i64 (w4.1+r6)),(IntKind.wrap .i64 (w4.2+1))))
 else
 some (.inr w4.1)
def Qal(N:Nat)(x0:F4):Option (Int×Int) :=
 (if decide (x0.2.2<1)then
 some true
 else
 (Ik N x0.1 x0.2.1).bind fun r1 =>
 some (decide (x0.2.2>r1)):Option ((Bool))).bind fun v2 =>
 if v2 then
 some (0,6)
 else
 (Zq N x0.1).bind fun r3 =>
 (Qg (Qbm N x0) N ((IntKind.wrap .i64 ((IntKind.wrap .i64 (r3+x0.2.2)) - 1)),1)).bind fun v7 =>
 some (v7,0)
def Al(N:Nat)(x0:Int)(x1:Int):Option (Int) :=
 (Qal N ((IntKind.wrap .i64 (2000+(IntKind.wrap .i64 (Int.tdiv x1 12)))),(IntKind.wrap .i64 ((Int.tmod x1 12)+1)),x0)).bind fun w1 =>
 if w1.2 != 0 then
 some 12622780800
 else
 some (IntKind.wrap .i64 (w1.1*86400))
def Wp(N:Nat)(x0:Int)(x1:Int):Option (Qa) :=
 (Al N x0 (IntKind.wrap .i64 (x1+1))).bind fun r1 =>
 (if decide (x1≥0)then
 (Al N x0 x1).bind fun r3 =>
 some (r3,r1)
 else
 some (0,r1):Option ((Qa))).bind fun v4 =>
 some v4
def Mw(N:Nat)(x0:Int)(x1:Qa):(Int×(List Qa))→Option ((Int×(List Qa))⊕(((List Qa)))):=fun w3 =>
 (Gj N x0 (IntKind.wrap .i64 (x1.2 - 1))).bind fun r5 =>
 if decide (w3.1≤r5)then
 (Wp N x0 w3.1).bind fun r6 =>
 (app 16 w3.2 ([r6]:List Qa)).bind fun q7 =>
 some (.inl ((IntKind.wrap .i64 (w3.1+1)),q7))
 else
 some (.inr w3.2)
def Ed(N:Nat)(x0:Int)(x1:Qa):Option ((List Qa)) :=
 if((((decide (x0<1))||(decide (x0>28)))||(decide (x1.1<0)))||(decide (x1.1≥x1.2)))||(decide (x1.2>12622780800))then
 some ([]:List Qa)
 else
 (Gj N x0 x1.1).bind fun r1 =>
 (Qg (Mw N x0 x1) N (r1,([]:List Qa))).bind fun v8 =>
 some v8
def E9(N:Nat)(x0:Qa)(ca:Int)(cd:(List Qa))(cg:Int):Option ((List Qa)) :=
 (U8 N x0 (0,(IntKind.wrap .i64 (ca+1)))).bind fun w1 =>
 if w1.2 then
 (Ed N cg w1.1).bind fun r3 =>
 (app 16 cd r3).bind fun q4 =>
 some q4
 else
 some cd
def Bx(N:Nat)(x0:(List Qa))(x1:Int):(Int×(List Q7))→Option ((Int×(List Q7))⊕(((List Q7)))):=fun w4 =>
 if decide (w4.1<(List.length x0:Int))then
 ((idx x0 w4.1).bind fun x8 =>
 (V5 N x8).bind fun r9 =>
 if r9 then
 (app 24 w4.2 ([(x8.1,x1,1),(x8.2,x1,(-1))]:List Q7)).bind fun q10 =>
 some q10
 else
 some w4.2:Option (((List Q7)))).bind fun v11 =>
 some (.inl ((IntKind.wrap .i64 (w4.1+1)),v11))
 else
 some (.inr w4.2)
def Fa(N:Nat)(x0:(List Qa))(x1:Int)(ce:(List Q7)):Option ((List Q7)) :=
 (Qg (Bx N x0 x1) N (0,ce)).bind fun v12 =>
 some v12
def H0(N:Nat)(x0:(List Qa))(x1:Int):(Int×(List Q7))→Option ((Int×(List Q7))⊕(((List Q7)))):=fun w4 =>
 if decide (w4.1<(List.length x0:Int))then
 ((idx x0 w4.1).bind fun x8 =>
 (V5 N x8).bind fun r9 =>
 if r9 then
 (app 24 w4.2 ([(x8.1,x1,1),(x8.2,x1,(-1))]:List Q7)).bind fun q10 =>
 some q10
 else
 some w4.2:Option (((List Q7)))).bind fun v11 =>
 some (.inl ((IntKind.wrap .i64 (w4.1+1)),v11))
 else
 some (.inr w4.2)
def Wa(N:Nat)(x0:(List Qa))(x1:Int)(ce:(List Q7)):Option ((List Q7)) :=
 (Qg (H0 N x0 x1) N (0,ce)).bind fun v12 =>
 some v12
def Cl(N:Nat)(x0:Bool)(x1:Bool):Option (Bool) :=
 some x0
def Iz(N:Nat)(r3:(List Q7)):(Bool×Int×(List Qa)×(List Int))→Option ((Bool×Int×(List Qa)×(List Int))⊕(((List Qa)))):=fun w9 =>
 if decide (w9.2.1<(List.length r3:Int))then
 ((idx r3 w9.2.1).bind fun _ =>
 (idx r3 w9.2.1).bind fun x28 =>
 (idx w9.2.2.2 x28.2.1).bind fun _ =>
 (idx w9.2.2.2 x28.2.1).bind fun x31 =>
 (idx w9.2.2.2 x28.2.1).bind fun _ =>
 (idx w9.2.2.2 x28.2.1).bind fun x32 =>
 (if decide ((IntKind.wrap .i64 (w9.2.1+1))<(List.length r3:Int))then
 (idx r3 (IntKind.wrap .i64 (w9.2.1+1))).bind fun _ =>
 (idx r3 (IntKind.wrap .i64 (w9.2.1+1))).bind fun x34 =>
 some (x34.1==x28.1)
 else
 some false:Option (Bool)).bind fun v35 =>
 if v35 then
 some (w9.1,w9.2.2.1,(List.set w9.2.2.2 (Int.toNat x28.2.1) (IntKind.wrap .i64 (x31+x28.2.2))))
 else
 (idx (List.set w9.2.2.2 (Int.toNat x28.2.1) (IntKind.wrap .i64 (x31+x28.2.2))) 0).bind fun _ =>
 (idx (List.set w9.2.2.2 (Int.toNat x28.2.1) (IntKind.wrap .i64 (x31+x28.2.2))) 0).bind fun x36 =>
 (idx (List.set w9.2.2.2 (Int.toNat x28.2.1) (IntKind.wrap .i64 (x31+x28.2.2))) 1).bind fun _ =>
 (idx (List.set w9.2.2.2 (Int.toNat x28.2.1) (IntKind.wrap .i64 (x31+x28.2.2))) 1).bind fun x37 =>
 (Cl N (decide (x36>0)) (decide (x37>0))).bind fun r38 =>
 (if r38&&(!w9.1)then
 (app 16 w9.2.2.1 ([(x28.1,0)]:List Qa)).bind fun q40 =>
 some q40
 else
 if(!r38)&&w9.1 then
 (idx w9.2.2.1 (IntKind.wrap .i64 ((List.length w9.2.2.1:Int) - 1))).bind fun _ =>
 (idx w9.2.2.1 (IntKind.wrap .i64 ((List.length w9.2.2.1:Int) - 1))).bind fun y41 =>
 some (List.set w9.2.2.1 (Int.toNat (IntKind.wrap .i64 ((List.length w9.2.2.1:Int) - 1))) (y41.1,x28.1))
 else
 some w9.2.2.1:Option (((List Qa)))).bind fun v42 =>
 some (r38,v42,(List.set w9.2.2.2 (Int.toNat x28.2.1) (IntKind.wrap .i64 (x31+x28.2.2)))):Option ((Bool×(List Qa)×(List Int)))).bind fun w43 =>
 some (.inl (w43.1,(IntKind.wrap .i64 (w9.2.1+1)),w43.2.1,w43.2.2))
 else
 some (.inr w9.2.2.1)
def Cm(N:Nat)(x0:(List Qa))(x1:(List Qa)):Option ((List Qa)) :=
 (Fa N x0 0 ([]:List Q7)).bind fun r1 =>
 (Wa N x1 1 r1).bind fun r2 =>
 (Qfz (fun x:Q7=>x.1) r2).bind fun r3 =>
 (Qg (Iz N r3) N (false,0,([]:List Qa),(List.replicate 2 0))).bind fun v46 =>
 some v46
def Mx(N:Nat)(x0:(List Qa)):Option ((List Qa)) :=
 (Cm N x0 ([]:List Qa)).bind fun r1 =>
 some r1
def Sf(N:Nat)(x22:Jg):(Int×Int×Int×(List Qa))→Option ((Int×Int×Int×(List Qa))⊕((Int×Int×(List Qa)))):=fun w24 =>
 if decide (w24.1<(List.length x22.2.2.2:Int))then
 (idx x22.2.2.2 w24.1).bind fun x28 =>
 (E9 N x28 w24.2.2.1 w24.2.2.2 w24.2.1).bind fun r29 =>
 some (.inl ((IntKind.wrap .i64 (w24.1+1)),w24.2.1,w24.2.2.1,r29))
 else
 some (.inr (w24.2.1,w24.2.2.1,w24.2.2.2))
def Sg(N:Nat)(x0:(List Jg)):(Int×Int×Int×(List Qa))→Option ((Int×Int×Int×(List Qa))⊕((Int×(List Qa)))):=fun w7 =>
 if decide (w7.1<(List.length x0:Int))then
 (idx x0 w7.1).bind fun x22 =>
 (Qg (Sf N x22) N (0,w7.2.1,w7.2.2.1,w7.2.2.2)).bind fun w30 =>
 some (.inl ((IntKind.wrap .i64 (w7.1+1)),w30.1,w30.2.1,w30.2.2))
 else
 some (.inr (w7.2.1,w7.2.2.2))
def Si(N:Nat)(r35:(List Qa))(v33:Int):(Int×(List Qa))→Option ((Int×(List Qa))⊕(((List Qa)))):=fun w37 =>
 if decide (w37.1<(List.length r35:Int))then
 (idx r35 w37.1).bind fun _ =>
 (idx r35 w37.1).bind fun x39 =>
 (Ed N v33 x39).bind fun r40 =>
 (app 16 w37.2 r40).bind fun q41 =>
 some (.inl ((IntKind.wrap .i64 (w37.1+1)),q41))
 else
 some (.inr w37.2)
def Pm(N:Nat)(x0:(List Jg))(x1:Int)(x2:Int):Option ((List Qa)) :=
 (Qg (Sg N x0) N (0,x1,x2,([]:List Qa))).bind fun w33 =>
 (Mx N w33.2).bind fun r35 =>
 (Qg (Si N r35 w33.1) N (0,([]:List Qa))).bind fun v42 =>
 some v42
def Qam(N:Nat)(x0:Qn)(ca:Str)(ce:Int):Option (Bool) :=
 some ((x0.1==ca)&&(decide (x0.2.1≤ce)))
def K6(N:Nat)(x0:(List Qn))(ca:Str)(ce:Int):(Int×(List Qn))→Option ((Int×(List Qn))⊕(((List Qn)))):=fun w2 =>
 if decide (w2.1<(List.length x0:Int))then
 ((idx x0 w2.1).bind fun x5 =>
 (Qam N x5 ca ce).bind fun r6 =>
 if r6 then
 (app 80 w2.2 ([x5]:List Qn)).bind fun q7 =>
 some q7
 else
 some w2.2:Option (((List Qn)))).bind fun v8 =>
 some (.inl ((IntKind.wrap .i64 (w2.1+1)),v8))
 else
 some (.inr w2.2)
def U9(N:Nat)(x0:(List Qn))(ca:Str)(ce:Int):Option ((List Qn)) :=
 (Qg (K6 N x0 ca ce) N (0,([]:List Qn))).bind fun v9 =>
 some v9
def Sj(N:Nat)(x0:Qn):(Int×(List J4))→Option ((Int×(List J4))⊕(((List J4)))):=fun w2 =>
 if decide (w2.1<(List.length x0.2.2.2.2.2:Int))then
 (idx x0.2.2.2.2.2 w2.1).bind fun x4 =>
 (app 16 ([]:List Str) x4.2.1).bind fun q5 =>
 (app 64 w2.2 ([(x4.1,q5,x4.2.2.1,x4.2.2.2.1,x4.2.2.2.2.1,x4.2.2.2.2.2)]:List J4)).bind fun q6 =>
 some (.inl ((IntKind.wrap .i64 (w2.1+1)),q6))
 else
 some (.inr w2.2)
def Pn(N:Nat)(x0:Qn):Option (Str×Int×Int×Str×Bool×(List J4)) :=
 (Qg (Sj N x0) N (0,([]:List J4))).bind fun v7 =>
 some (x0.1,x0.2.1,x0.2.2.1,x0.2.2.2.1,x0.2.2.2.2.1,v7)
def Qgz(N:Nat)(x0:(List Qn))(x1:Str)(x2:Int):Option (Str×Int×Int×Str×Bool×Bool×(List J4)) :=
 (U9 N x0 x1 x2).bind fun r1 =>
 if(List.length r1:Int)==0 then
 some (([]:Str),0,0,([]:Str),false,false,([]:List J4))
 else
 (idx r1 (IntKind.wrap .i64 ((List.length r1:Int) - 1))).bind fun _ =>
 (idx r1 (IntKind.wrap .i64 ((List.length r1:Int) - 1))).bind fun x3 =>
 (Pn N x3).bind fun w4 =>
 some (w4.1,w4.2.1,w4.2.2.1,w4.2.2.2.1,w4.2.2.2.2.1,true,w4.2.2.2.2.2)
def Fk(N:Nat)(r12:(List J4))(x0:Jg)(r4:Qa):(Int×(List Yl))→Option ((Int×(List Yl))⊕(((List Yl)))):=fun w14 =>
 if decide (w14.1<(List.length r12:Int))then
 (idx r12 w14.1).bind fun _ =>
 (idx r12 w14.1).bind fun x16 =>
 (app 128 w14.2 ([((x0.1,x0.2.1,x0.2.2.1,w14.1,x16.1,x16.2.1,r4,x16.2.2.1,x16.2.2.1,x16.2.2.2.2.1,x16.2.2.2.2.2),x16.2.2.2.1)]:List Yl)).bind fun q17 =>
 some (.inl ((IntKind.wrap .i64 (w14.1+1)),q17))
 else
 some (.inr w14.2)
def Fl(N:Nat)(x0:Jg)(x2:Qa)(x1:(List Qn)):(Int)→Option ((Int)⊕((Unit)⊕((List Yl)))):=fun v1 =>
 if decide (v1<(List.length x0.2.2.2:Int))then
 (idx x0.2.2.2 v1).bind fun x3 =>
 (U8 N x3 x2).bind fun w4 =>
 if !w4.2 then
 some (.inl (IntKind.wrap .i64 (v1+1)))
 else
 (Qgz N x1 x0.2.2.1 w4.1.1).bind fun w6 =>
 (Qg (Fk N w6.2.2.2.2.2.2 x0 w4.1) N (0,([]:List Yl))).bind fun v18 =>
 some (.inr (.inr v18))
 else
 some (.inr (.inl ()))
def Gk(N:Nat)(x0:Jg)(x1:(List Qn))(x2:Qa):Option ((List Yl)) :=
 (Qg (Fl N x0 x2 x1) N 0).bind fun
 | .inl _ =>
  some ([]:List Yl)
 | .inr v19 =>
  some v19
def Ee(N:Nat)(x0:Qd)(x1:Qd):Option (Bool) :=
 some (((((x0.2.1==x1.2.1)&&(x0.2.2.1==x1.2.2.1))&&(x0.2.2.2.1==x1.2.2.2.1))&&(x0.2.2.2.2.1==x1.2.2.2.2.1))&&(x0.2.2.2.2.2.2.1.2==x1.2.2.2.2.2.2.1.1))
def Qan(N:Nat)(x0:Qd)(x1:Qd)(x2:Int):Option (Int×Int×Str×Int×Int×Qa×Int×Int×Int×Bool×(List Str)) :=
 (Ak N x1).bind fun w1 =>
 ((Ee N x0 x1).bind fun r14 =>
 if r14 then
 some (w1.1,w1.2.1,w1.2.2.1,w1.2.2.2.1,w1.2.2.2.2.1,w1.2.2.2.2.2.1,(IntKind.wrap .i64 (w1.2.2.2.2.2.2.1+(if(if 0>x2 then 0 else x2)<(if 0>x0.2.2.2.2.2.2.2.2.1 then 0 else x0.2.2.2.2.2.2.2.2.1)then(if 0>x2 then 0 else x2)else(if 0>x0.2.2.2.2.2.2.2.2.1 then 0 else x0.2.2.2.2.2.2.2.2.1)))),(IntKind.wrap .i64 (w1.2.2.2.2.2.2.2.1+(if(if 0>x2 then 0 else x2)<(if 0>x0.2.2.2.2.2.2.2.2.1 then 0 else x0.2.2.2.2.2.2.2.2.1)then(if 0>x2 then 0 else x2)else(if 0>x0.2.2.2.2.2.2.2.2.1 then 0 else x0.2.2.2.2.2.2.2.2.1)))),w1.2.2.2.2.2.2.2.2.1,w1.2.2.2.2.2.2.2.2.2.1,w1.2.2.2.2.2.2.2.2.2.2)
 else
 some (w1.1,w1.2.1,w1.2.2.1,w1.2.2.2.1,w1.2.2.2.2.1,w1.2.2.2.2.2.1,w1.2.2.2.2.2.2.1,w1.2.2.2.2.2.2.2.1,w1.2.2.2.2.2.2.2.2.1,w1.2.2.2.2.2.2.2.2.2.1,w1.2.2.2.2.2.2.2.2.2.2):Option ((Int×Int×Str×Int×Int×Qa×Int×Int×Int×Bool×(List Str)))).bind fun w15 =>
 some (w15.1,w15.2.1,w15.2.2.1,w15.2.2.2.1,w15.2.2.2.2.1,w15.2.2.2.2.2.1,w15.2.2.2.2.2.2.1,w15.2.2.2.2.2.2.2.1,w15.2.2.2.2.2.2.2.2.1,w15.2.2.2.2.2.2.2.2.2.1,w15.2.2.2.2.2.2.2.2.2.2)
def Po(N:Nat)(x0:Qd)(x1:Qd):Option (Bool) :=
 if x0.1 != x1.1 then
 some (decide (x0.1<x1.1))
 else
 if x0.2.1 != x1.2.1 then
 some (decide (x0.2.1<x1.2.1))
 else
 if !(x0.2.2.1==x1.2.2.1)then
 some (Op.bytesLess x0.2.2.1 x1.2.2.1)
 else
 if x0.2.2.2.1 != x1.2.2.2.1 then
 some (decide (x0.2.2.2.1<x1.2.2.2.1))
 else
 some (decide (x0.2.2.2.2.2.2.1.1<x1.2.2.2.2.2.2.1.1))
def I0(N:Nat)(ce:(List Qd))(x1:Yl):(Int×Int×Int×Str×Int×Int×Qa×Int×Int×Int×Bool×(List Str))→Option ((Int×Int×Int×Str×Int×Int×Qa×Int×Int×Int×Bool×(List Str))⊕((Int×Int×Str×Int×Int×Qa×Int×Int×Int×Bool×(List Str)))):=fun w15 =>
 if decide (w15.1<(List.length ce:Int))then
 (idx ce w15.1).bind fun _ =>
 (idx ce w15.1).bind fun x27 =>
 (Ee N x27 (w15.2.1,w15.2.2.1,w15.2.2.2.1,w15.2.2.2.2.1,w15.2.2.2.2.2.1,w15.2.2.2.2.2.2.2.2.2.2.2,w15.2.2.2.2.2.2.1,w15.2.2.2.2.2.2.2.1,w15.2.2.2.2.2.2.2.2.1,w15.2.2.2.2.2.2.2.2.2.1,w15.2.2.2.2.2.2.2.2.2.2.1)).bind fun r28 =>
 if r28 then
 (Qan N x27 (w15.2.1,w15.2.2.1,w15.2.2.2.1,w15.2.2.2.2.1,w15.2.2.2.2.2.1,w15.2.2.2.2.2.2.2.2.2.2.2,w15.2.2.2.2.2.2.1,w15.2.2.2.2.2.2.2.1,w15.2.2.2.2.2.2.2.2.1,w15.2.2.2.2.2.2.2.2.2.1,w15.2.2.2.2.2.2.2.2.2.2.1) x1.2).bind fun w29 =>
 some (.inr (w29.1,w29.2.1,w29.2.2.1,w29.2.2.2.1,w29.2.2.2.2.1,w29.2.2.2.2.2.1,w29.2.2.2.2.2.2.1,w29.2.2.2.2.2.2.2.1,w29.2.2.2.2.2.2.2.2.1,w29.2.2.2.2.2.2.2.2.2.1,w29.2.2.2.2.2.2.2.2.2.2))
 else
 some (.inl ((IntKind.wrap .i64 (w15.1+1)),w15.2.1,w15.2.2.1,w15.2.2.2.1,w15.2.2.2.2.1,w15.2.2.2.2.2.1,w15.2.2.2.2.2.2.1,w15.2.2.2.2.2.2.2.1,w15.2.2.2.2.2.2.2.2.1,w15.2.2.2.2.2.2.2.2.2.1,w15.2.2.2.2.2.2.2.2.2.2.1,w15.2.2.2.2.2.2.2.2.2.2.2))
 else
 some (.inr (w15.2.1,w15.2.2.1,w15.2.2.2.1,w15.2.2.2.2.1,w15.2.2.2.2.2.1,w15.2.2.2.2.2.2.1,w15.2.2.2.2.2.2.2.1,w15.2.2.2.2.2.2.2.2.1,w15.2.2.2.2.2.2.2.2.2.1,w15.2.2.2.2.2.2.2.2.2.2.1,w15.2.2.2.2.2.2.2.2.2.2.2))
def I1(N:Nat)(ce:(List Qd))(v40:Int)(v41:Int)(v42:Str)(v43:Int)(v44:Int)(v50:(List Str))(v45:Qa)(v46:Int)(v47:Int)(v48:Int)(v49:Bool):(Int)→Option ((Int)⊕((Int))):=fun v51 =>
 (if decide (v51<(List.length ce:Int))then
 (idx ce v51).bind fun _ =>
 (idx ce v51).bind fun x52 =>
 (Po N x52 (v40,v41,v42,v43,v44,v50,v45,v46,v47,v48,v49)).bind fun r53 =>
 some r53
 else
 some false:Option ((Bool))).bind fun v54 =>
 if v54 then
 some (.inl (IntKind.wrap .i64 (v51+1)))
 else
 some (.inr v51)
def Cn(N:Nat)(x1:Yl)(ce:(List Qd))(cd:(List (Q5×Bool))):Option ((List (Q5×Bool))×(List Qd)) :=
 (Sa N x1.1).bind fun r1 =>
 if(Qr (k:=Uw) r1 cd).getD false then
 some (cd,ce)
 else
 (Ak N x1.1).bind fun w2 =>
 (Qg (I0 N ce x1) N (0,w2.1,w2.2.1,w2.2.2.1,w2.2.2.2.1,w2.2.2.2.2.1,w2.2.2.2.2.2.1,w2.2.2.2.2.2.2.1,w2.2.2.2.2.2.2.2.1,w2.2.2.2.2.2.2.2.2.1,w2.2.2.2.2.2.2.2.2.2.1,w2.2.2.2.2.2.2.2.2.2.2)).bind fun w40 =>
 (Qg (I1 N ce w40.1 w40.2.1 w40.2.2.1 w40.2.2.2.1 w40.2.2.2.2.1 w40.2.2.2.2.2.2.2.2.2.2 w40.2.2.2.2.2.1 w40.2.2.2.2.2.2.1 w40.2.2.2.2.2.2.2.1 w40.2.2.2.2.2.2.2.2.1 w40.2.2.2.2.2.2.2.2.2.1) N 0).bind fun v55 =>
 (slc ce 0 v55).bind fun s56 =>
 (app 120 ([]:List Qd) s56).bind fun q57 =>
 (app 120 q57 ([(w40.1,w40.2.1,w40.2.2.1,w40.2.2.2.1,w40.2.2.2.2.1,w40.2.2.2.2.2.2.2.2.2.2,w40.2.2.2.2.2.1,w40.2.2.2.2.2.2.1,w40.2.2.2.2.2.2.2.1,w40.2.2.2.2.2.2.2.2.1,w40.2.2.2.2.2.2.2.2.2.1)]:List Qd)).bind fun q58 =>
 (slc ce v55 (List.length ce:Int)).bind fun s59 =>
 (app 120 q58 s59).bind fun q60 =>
 (Sa N (w40.1,w40.2.1,w40.2.2.1,w40.2.2.2.1,w40.2.2.2.2.1,w40.2.2.2.2.2.2.2.2.2.2,w40.2.2.2.2.2.1,w40.2.2.2.2.2.2.1,w40.2.2.2.2.2.2.2.1,w40.2.2.2.2.2.2.2.2.1,w40.2.2.2.2.2.2.2.2.2.1)).bind fun r61 =>
 some ((J9 (k:=Uw) r61 true cd),q60)
def Og(N:Nat)(x2:Qx):(Int×(List Qd)×(List (Q5×Bool)))→Option ((Int×(List Qd)×(List (Q5×Bool)))⊕(((List Qd)×(List (Q5×Bool))))):=fun w4 =>
 if decide (w4.1<(List.length x2.1:Int))then
 (idx x2.1 w4.1).bind fun x7 =>
 (Ak N x7).bind fun w28 =>
 (app 120 w4.2.1 ([(w28.1,w28.2.1,w28.2.2.1,w28.2.2.2.1,w28.2.2.2.2.1,w28.2.2.2.2.2.2.2.2.2.2,w28.2.2.2.2.2.1,w28.2.2.2.2.2.2.1,w28.2.2.2.2.2.2.2.1,w28.2.2.2.2.2.2.2.2.1,w28.2.2.2.2.2.2.2.2.2.1)]:List Qd)).bind fun q40 =>
 (Sa N x7).bind fun r41 =>
 some (.inl ((IntKind.wrap .i64 (w4.1+1)),q40,(J9 (k:=Uw) r41 true w4.2.2)))
 else
 some (.inr (w4.2.1,w4.2.2))
def Oh(N:Nat)(r118:(List Yl))(x4:Int):(Int×(List Qd)×(List (Q5×Bool)))→Option ((Int×(List Qd)×(List (Q5×Bool)))⊕(((List Qd)×(List (Q5×Bool))))):=fun w121 =>
 if decide (w121.1<(List.length r118:Int))then
 ((idx r118 w121.1).bind fun _ =>
 (idx r118 w121.1).bind fun x127 =>
 if decide (x127.1.2.2.2.2.2.2.1.1≤x4)then
 (Cn N x127 w121.2.1 w121.2.2).bind fun w128 =>
 some (w128.2,w128.1)
 else
 some (w121.2.1,w121.2.2):Option (((List Qd)×(List (Q5×Bool))))).bind fun w130 =>
 some (.inl ((IntKind.wrap .i64 (w121.1+1)),w130.1,w130.2))
 else
 some (.inr (w121.2.1,w121.2.2))
def Oi(N:Nat)(r54:(List Jg))(x1:(List Qn))(x109:Qa)(x4:Int):(Int×(List Qd)×(List (Q5×Bool)))→Option ((Int×(List Qd)×(List (Q5×Bool)))⊕(((List Qd)×(List (Q5×Bool))))):=fun w114 =>
 if decide (w114.1<(List.length r54:Int))then
 (idx r54 w114.1).bind fun x117 =>
 (Gk N x117 x1 x109).bind fun r118 =>
 (Qg (Oh N r118 x4) N (0,w114.2.1,w114.2.2)).bind fun w132 =>
 some (.inl ((IntKind.wrap .i64 (w114.1+1)),w132.1,w132.2))
 else
 some (.inr (w114.2.1,w114.2.2))
def Oj(N:Nat)(r56:(List Qa))(r54:(List Jg))(x1:(List Qn))(x4:Int):(Int×(List Qd)×(List (Q5×Bool)))→Option ((Int×(List Qd)×(List (Q5×Bool)))⊕(((List Qd)×(List (Q5×Bool))))):=fun w86 =>
 if decide (w86.1<(List.length r56:Int))then
 (idx r56 w86.1).bind fun _ =>
 (idx r56 w86.1).bind fun x109 =>
 (Qg (Oi N r54 x1 x109 x4) N (0,w86.2.1,w86.2.2)).bind fun w134 =>
 some (.inl ((IntKind.wrap .i64 (w86.1+1)),w134.1,w134.2))
 else
 some (.inr (w86.2.1,w86.2.2))
def My(N:Nat)(x0:(List Qv))(x1:(List Qn))(x2:Qx)(x3:Int)(x4:Int):Option ((List Qd)×(List Qp)×(List Qi)) :=
 (Qg (Og N x2) N (0,([]:List Qd),([]:List (Q5×Bool)))).bind fun w42 =>
 (app 40 ([]:List Qp) x2.2.1).bind fun q44 =>
 (app 40 ([]:List Qi) x2.2.2).bind fun q45 =>
 (Pi N x0 x3).bind fun r46 =>
 (if((decide (x4≥0))&&(decide (x4<12622780800)))&&(decide (r46>0))then
 (Ij N x0 x3).bind fun r54 =>
 (Pm N r54 r46 x4).bind fun r56 =>
 (Qg (Oj N r56 r54 x1 x4) N (0,w42.1,w42.2)).bind fun w136 =>
 some (w136.1,w136.2)
 else
 some (w42.1,w42.2):Option (((List Qd)×(List (Q5×Bool))))).bind fun w138 =>
 some (w138.1,q44,q45)
def Qao(N:Nat)(x0:Qd):Option (Int×Int×Str×Int×Int×Qa×Int×Int×Int×Bool×(List Str)) :=
 (app 16 ([]:List Str) x0.2.2.2.2.2.1).bind fun q1 =>
 some (x0.1,x0.2.1,x0.2.2.1,x0.2.2.2.1,x0.2.2.2.2.1,x0.2.2.2.2.2.2.1,x0.2.2.2.2.2.2.2.1,x0.2.2.2.2.2.2.2.2.1,x0.2.2.2.2.2.2.2.2.2.1,x0.2.2.2.2.2.2.2.2.2.2,q1)
def Sl(N:Nat)(x0:(List Qd)):(Int×(List Qd))→Option ((Int×(List Qd))⊕(((List Qd)))):=fun w2 =>
 if decide (w2.1<(List.length x0:Int))then
 (idx x0 w2.1).bind fun x4 =>
 (Qao N x4).bind fun w14 =>
 (app 120 w2.2 ([(w14.1,w14.2.1,w14.2.2.1,w14.2.2.2.1,w14.2.2.2.2.1,w14.2.2.2.2.2.2.2.2.2.2,w14.2.2.2.2.2.1,w14.2.2.2.2.2.2.1,w14.2.2.2.2.2.2.2.1,w14.2.2.2.2.2.2.2.2.1,w14.2.2.2.2.2.2.2.2.2.1)]:List Qd)).bind fun q25 =>
 some (.inl ((IntKind.wrap .i64 (w2.1+1)),q25))
 else
 some (.inr w2.2)
def Pp(N:Nat)(x0:(List Qd)):Option ((List Qd)) :=
 (Qg (Sl N x0) N (0,([]:List Qd))).bind fun v26 =>
 some v26
def Kt(N:Nat)(x0:Int)(x1:Int):Option (Int) :=
 if decide (x0<x1)then
 some (-1)
 else
 if decide (x0>x1)then
 some 1
 else
 some 0
def Mz(N:Nat)(x0:Qd)(x1:Qd):Option (Bool) :=
 (Kt N x0.2.2.2.2.2.2.2.2.2.1 x1.2.2.2.2.2.2.2.2.2.1).bind fun r1 =>
 if r1 != 0 then
 some (decide (r1<0))
 else
 (Kt N x0.2.2.2.2.2.2.1.2 x1.2.2.2.2.2.2.1.2).bind fun r2 =>
 if r2 != 0 then
 some (decide (r2<0))
 else
 (Kt N x0.2.1 x1.2.1).bind fun r3 =>
 if r3 != 0 then
 some (decide (r3<0))
 else
 if !(x0.2.2.1==x1.2.2.1)then
 some (Op.bytesLess x0.2.2.1 x1.2.2.1)
 else
 (Kt N x0.2.2.2.1 x1.2.2.2.1).bind fun r4 =>
 if r4 != 0 then
 some (decide (r4<0))
 else
 some (decide (x0.2.2.2.2.2.2.1.1<x1.2.2.2.2.2.2.1.1))
def Co(N:Nat)(x2:Int):(Int×(List Int))→Option ((Int×(List Int))⊕(((List Int)))):=fun w2 =>
 if decide (w2.1<x2)then
 (app 8 w2.2 ([w2.1]:List Int)).bind fun q4 =>
 some (.inl ((IntKind.wrap .i64 (w2.1+1)),q4))
 else
 some (.inr w2.2)
def Sm(N:Nat)(r6:(List Int))(r7:(List Int))(x0:(List Qd)):(Int×Int×(List Int))→Option ((Int×Int×(List Int))⊕(((List Int)))):=fun w9 =>
 if(decide (w9.1<(List.length r6:Int)))||(decide (w9.2.1<(List.length r7:Int)))then
 (if w9.2.1==(List.length r7:Int)then
 some true
 else
 if decide (w9.1<(List.length r6:Int))then
 (idx r7 w9.2.1).bind fun x12 =>
 (idx x0 x12).bind fun x13 =>
 (idx r6 w9.1).bind fun x14 =>
 (idx x0 x14).bind fun x15 =>
 (Mz N x13 x15).bind fun r16 =>
 some (!r16)
 else
 some false:Option ((Bool))).bind fun v17 =>
 if v17 then
 (idx r6 w9.1).bind fun x18 =>
 (app 8 w9.2.2 ([x18]:List Int)).bind fun q19 =>
 some (.inl ((IntKind.wrap .i64 (w9.1+1)),w9.2.1,q19))
 else
 (idx r7 w9.2.1).bind fun x20 =>
 (app 8 w9.2.2 ([x20]:List Int)).bind fun q21 =>
 some (.inl (w9.1,(IntKind.wrap .i64 (w9.2.1+1)),q21))
 else
 some (.inr w9.2.2)
def Ug(N:Nat):Nat→(List Qd)→Int→Int→Option ((List Int))
 | 0,_,_,_=>none
 | n+1,x0,x1,x2 =>
  if decide ((IntKind.wrap .i64 (x2 - x1))<2)then
  (Qg (Co N x2) N (x1,([]:List Int))).bind fun v5 =>
  some v5
  else
  (Ug N n x0 x1 (IntKind.wrap .i64 (x1+(IntKind.wrap .i64 (Int.tdiv (IntKind.wrap .i64 (x2 - x1)) 2))))).bind fun r6 =>
  (Ug N n x0 (IntKind.wrap .i64 (x1+(IntKind.wrap .i64 (Int.tdiv (IntKind.wrap .i64 (x2 - x1)) 2)))) x2).bind fun r7 =>
  (mkL 8 0 (IntKind.wrap .i64 (x2 - x1)) 0).bind fun m8 =>
  (Qg (Sm N r6 r7 x0) N (0,0,m8)).bind fun v22 =>
  some v22
def Qf2(N:Nat)(x0:(List Qd))(x1:Int)(x2:Int):Option ((List Int)):=Ug N N x0 x1 x2
def Sn(N:Nat)(x0:Qd)(x4:Str):(Int)→Option ((Int)⊕((Unit)⊕(Bool))):=fun v4 =>
 if decide (v4<(List.length x0.2.2.2.2.2.1:Int))then
 (idx x0.2.2.2.2.2.1 v4).bind fun x7 =>
 if x7==x4 then
 some (.inr (.inr true))
 else
 some (.inl (IntKind.wrap .i64 (v4+1)))
 else
 some (.inr (.inl ()))
def Pq(N:Nat)(x0:Qd)(x1:Int)(x2:Int)(x3:Int)(x4:Str)(x5:Bool)(x6:Int):Option (Bool) :=
 (if(decide (x0.2.2.2.2.2.2.2.2.1≤0))||(x0.2.2.2.2.1 != x3)then
 some true
 else
 (Wk N x0.2.2.2.2.2.2.1 x6).bind fun r2 =>
 some (!r2):Option (Bool)).bind fun v3 =>
 if v3 then
 some false
 else
 if(x0.2.1 != x2)&&(((!x0.2.2.2.2.2.2.2.2.2.2)||(x0.1 != x1))||(!x5))then
 some false
 else
 (Qg (Sn N x0 x4) N 0).bind fun
 | .inl _ =>
  some ((List.length x0.2.2.2.2.2.1:Int)==0)
 | .inr v8 =>
  some v8
def Qkv(N:Nat)(x0:Qd):Option (Qrb) :=
 some (x0.2.1,x0.2.2.1,x0.2.2.2.1,x0.2.2.2.2.2.2.1.1)
def Qc3(N:Nat)(r2:(List Int))(x0:(List Qd))(x1:Int)(x2:Int)(x3:Int)(x4:Str)(x5:Bool)(x6:Int):(Int×Int×(List Qd)×(List Q9))→Option ((Int×Int×(List Qd)×(List Q9))⊕((Int×(List Qd)×(List Q9)))):=fun w8 =>
 if decide (w8.2.1<(List.length r2:Int))then
 ((idx r2 w8.2.1).bind fun x27 =>
 if w8.1==0 then
 some (.inr (w8.1,w8.2.2.1,w8.2.2.2))
 else
 (idx x0 x27).bind fun x30 =>
 (Pq N x30 x1 x2 x3 x4 x5 x6).bind fun r31 =>
 if !r31 then
 some (.inl (w8.1,w8.2.2.1,w8.2.2.2))
 else
 (idx w8.2.2.1 x27).bind fun _ =>
 (idx w8.2.2.1 x27).bind fun x32 =>
 (idx w8.2.2.1 x27).bind fun _ =>
 (idx w8.2.2.1 x27).bind fun x33 =>
 (idx w8.2.2.1 x27).bind fun _ =>
 (idx w8.2.2.1 x27).bind fun y34 =>
 (idx x0 x27).bind fun x35 =>
 (Qkv N x35).bind fun r36 =>
 (app 48 w8.2.2.2 ([(r36.1,r36.2.1,r36.2.2.1,r36.2.2.2,(if x32.2.2.2.2.2.2.2.2.1<w8.1 then x32.2.2.2.2.2.2.2.2.1 else w8.1))]:List Q9)).bind fun q37 =>
 some (.inl ((IntKind.wrap .i64 (w8.1 - (if x32.2.2.2.2.2.2.2.2.1<w8.1 then x32.2.2.2.2.2.2.2.2.1 else w8.1))),(List.set w8.2.2.1 (Int.toNat x27) (y34.1,y34.2.1,y34.2.2.1,y34.2.2.2.1,y34.2.2.2.2.1,y34.2.2.2.2.2.1,y34.2.2.2.2.2.2.1,y34.2.2.2.2.2.2.2.1,(IntKind.wrap .i64 (x33.2.2.2.2.2.2.2.2.1 - (if x32.2.2.2.2.2.2.2.2.1<w8.1 then x32.2.2.2.2.2.2.2.2.1 else w8.1))),y34.2.2.2.2.2.2.2.2.2.1,y34.2.2.2.2.2.2.2.2.2.2)),q37)):Option ((Int×(List Qd)×(List Q9))⊕(Int×(List Qd)×(List Q9)))).bind fun
 | .inl w38 =>
  some (.inl (w38.1,(IntKind.wrap .i64 (w8.2.1+1)),w38.2.1,w38.2.2))
 | .inr w41 =>
  some (.inr (w41.1,w41.2.1,w41.2.2))
 else
 some (.inr (w8.1,w8.2.2.1,w8.2.2.2))
def Qc4(N:Nat)(x0:(List Qd))(x1:Int)(x2:Int)(x3:Int)(x4:Str)(x5:Bool)(x6:Int)(x7:Int):Option (Int×(List Qd)×(List Q9)) :=
 (Pp N x0).bind fun r1 =>
 (Qf2 N x0 0 (List.length x0:Int)).bind fun r2 =>
 (Qg (Qc3 N r2 x0 x1 x2 x3 x4 x5 x6) N ((if 0>x7 then 0 else x7),0,r1,([]:List Q9))).bind fun w44 =>
 some (w44.1,w44.2.1,w44.2.2)
def Pr(N:Nat)(x0:Qx)(x1:Qb)(x2:Str)(x3:Bool):Option (Int×(List Qd)×(List Qp)×(List Qi)×(List Q9)) :=
 (Hz N x0).bind fun w1 =>
 (Qc4 N x0.1 x1.2.2.1 x1.2.2.2.1 x1.2.1 x2 x3 x1.2.2.2.2.2.2.1 x1.2.2.2.2.2.2.2.1).bind fun w4 =>
 some (w4.1,w4.2.1,w1.2.1,w1.2.2,w4.2.2)
def M2(N:Nat)(cx:Qz)(dg:Qx)(cq:Qb)(g8:Q6)(g9:Qm)(gk:Str)(gm:Int)(gn:Bool)(gq:(List Qq))(du:Int)(dv:Qb)(dw:Int)(dy:Str)(dz:Int)(dl:Str)(g5:Int)(dx:Int)(dq:Int)(g6:Int)(g7:Int)(ce:(List Qt))(cd:(List Jd))(cg:(List Qk))(ci:(List Q9))(cj:(List Qo))(ck:(List Q2)):Option (Qz×Qb×Q6×Qm×Str×Int×Bool×(List Qq)×Int×Qb×Int×Str×Int×Str×Int×Int×Int×Int×Int×(List Qd)×(List Qp)×(List Qi)×(List Qt)×(List Jd)×(List Qk)×(List Q9)×(List Qo)×(List Q2)) :=
 (Ii N cx.1 dg cq.2.2.1 cq.2.2.2.2.2.2.1).bind fun w1 =>
 (My N cx.1 cx.2.2.1 (w1.1,w1.2.1,w1.2.2) cq.2.2.1 cq.2.2.2.2.2.2.1).bind fun w4 =>
 (Pr N (w4.1,w4.2.1,w4.2.2) cq dl g8.2.2.2.2).bind fun w7 =>
 some (cx,cq,g8,g9,gk,gm,gn,gq,(IntKind.wrap .i64 (cq.2.2.2.2.2.2.2.1 - w7.1)),dv,dw,dy,dz,dl,g5,dx,dq,g6,g7,w7.2.1,w7.2.2.1,w7.2.2.2.1,ce,cd,cg,w7.2.2.2.2,cj,ck)
def M3(N:Nat)(x0:Qb)(x1:Int):Option (Bool) :=
 if((((decide (x1<0))||(decide (x0.2.2.2.2.2.2.2.1>1099511627776)))||(decide (x0.2.2.2.2.2.2.2.1≤x1)))||(decide (x0.2.2.2.2.2.2.1<0)))||(decide (x0.2.2.2.2.2.2.1≥12622780800))then
 some false
 else
 some ((x0.2.1 != 1)||((decide (x0.2.2.2.2.2.2.2.1≤604800))&&(decide ((IntKind.wrap .i64 (x0.2.2.2.2.2.2.1+x0.2.2.2.2.2.2.2.1))≤12622780800))))
def Qf3(N:Nat)(x0:Str):(Int)→Option ((Int)⊕((Unit)⊕(Bool))):=fun v1 =>
 if decide (v1<(List.length x0:Int))then
 (B4 x0 v1).bind fun c2 =>
 if((decide (c2<97))||(decide (c2>122)))&&((v1==0)||((c2 != 45)&&((decide (c2<48))||(decide (c2>57)))))then
 some (.inr (.inr false))
 else
 some (.inl (IntKind.wrap .i64 (v1+1)))
 else
 some (.inr (.inl ()))
def Qg0(N:Nat)(x0:Str):Option (Bool) :=
 (Qg (Qf3 N x0) N 0).bind fun
 | .inl _ =>
  some ((decide ((List.length x0:Int)≥1))&&(decide ((List.length x0:Int)≤24)))
 | .inr v3 =>
  some v3
def Ps(N:Nat)(x0:Qt)(ca:Qt):Option (Bool) :=
 some (x0.1==ca.1)
def Xs(N:Nat)(x0:(List Qt))(ca:Qt):(Int)→Option ((Int)⊕((Unit)⊕(Int))):=fun v1 =>
 if decide (v1<(List.length x0:Int))then
 (idx x0 v1).bind fun x2 =>
 (Ps N x2 ca).bind fun r3 =>
 if r3 then
 some (.inr (.inr v1))
 else
 some (.inl (IntKind.wrap .i64 (v1+1)))
 else
 some (.inr (.inl ()))
def Zm(N:Nat)(x0:(List Qt))(ca:Qt):Option (Int) :=
 (Qg (Xs N x0 ca) N 0).bind fun
 | .inl _ =>
  some (-1)
 | .inr v4 =>
  some v4
def Uh(N:Nat)(x0:(List Qt))(ca:Qt):Option (Bool) :=
 (Zm N x0 ca).bind fun r1 =>
 some (decide (r1≥0))
def Qc5(N:Nat)(x0:(List Kc)):(Int)→Option ((Int)⊕((Unit)⊕(Int))):=fun v1 =>
 if decide (v1<(List.length x0:Int))then
 (idx x0 v1).bind fun x2 =>
 if((((decide (x2.1<1))||(decide (x2.1>255)))||(decide (x2.2.1<0)))||(decide (x2.2.1≥x2.2.2)))||(decide (x2.2.2>1440))then
 some (.inr (.inr 6))
 else
 some (.inl (IntKind.wrap .i64 (v1+1)))
 else
 some (.inr (.inl ()))
def Qc6(N:Nat)(x0:(List Kc)):Option (Int) :=
 if(List.length x0:Int)==0 then
 some 8
 else
 if decide ((List.length x0:Int)>64)then
 some 5
 else
 (Qg (Qc5 N x0) N 0).bind fun
 | .inl _ =>
  some 0
 | .inr v3 =>
  some v3
def Qc7(N:Nat)(x0:(List Qt)):(Int)→Option ((Int)⊕((Unit)⊕(Int))):=fun v1 =>
 if decide (v1<(List.length x0:Int))then
 ((idx x0 v1).bind fun x2 =>
 (Qg0 N x2.1).bind fun r3 =>
 if !r3 then
 some (.inr 8)
 else
 (slc x0 0 v1).bind fun s4 =>
 (Uh N s4 x2).bind fun r5 =>
 if r5 then
 some (.inr 10)
 else
 if v1==(IntKind.wrap .i64 ((List.length x0:Int) - 1))then
 if decide ((List.length x2.2:Int)>0)then
 some (.inr 8)
 else
 some (.inl ())
 else
 (Qc6 N x2.2).bind fun r6 =>
 if r6 != 0 then
 some (.inr r6)
 else
 some (.inl ()):Option ((Unit)⊕(Int))).bind fun
 | .inl _ =>
  some (.inl (IntKind.wrap .i64 (v1+1)))
 | .inr v7 =>
  some (.inr (.inr v7))
 else
 some (.inr (.inl ()))
def Dp(N:Nat)(x0:(List Qt)):Option (Int) :=
 if(List.length x0:Int)==0 then
 some 8
 else
 if decide ((List.length x0:Int)>64)then
 some 5
 else
 (Qg (Qc7 N x0) N 0).bind fun
 | .inl _ =>
  some 0
 | .inr v8 =>
  some v8
def I2(N:Nat)(x0:(List Int))(x1:Int):(Int)→Option ((Int)⊕((Unit)⊕(Int))):=fun v1 =>
 if decide (v1<(List.length x0:Int))then
 (idx x0 v1).bind fun x2 =>
 if x1==x2 then
 some (.inr (.inr v1))
 else
 some (.inl (IntKind.wrap .i64 (v1+1)))
 else
 some (.inr (.inl ()))
def Cp(N:Nat)(x0:(List Int))(x1:Int):Option (Int) :=
 (Qg (I2 N x0 x1) N 0).bind fun
 | .inl _ =>
  some (-1)
 | .inr v3 =>
  some v3
def Hu(N:Nat)(x0:(List Int))(x1:Int):Option (Bool) :=
 (Cp N x0 x1).bind fun r1 =>
 some (decide (r1≥0))
def G6(N:Nat)(x0:Int):Option (Int) :=
 if(decide (x0<0))||(decide (x0≥146097))then
 some (-1)
 else
 some (Int.tmod (IntKind.wrap .i64 (x0+5)) 7)
def Qev(N:Nat)(x0:(List Int))(x1:Int):Option (Int) :=
 (Hu N x0 x1).bind fun r1 =>
 if r1 then
 some 128
 else
 (G6 N x1).bind fun r2 =>
 (Jar .i64 1 r2).bind fun n3 =>
 some n3
def Qap(N:Nat)(x0:Kc)(ca:Int)(ce:Int):Option (Bool) :=
 some ((((Go.bits .and .i64 x0.1 ca) != 0)&&(decide (ce≥x0.2.1)))&&(decide (ce<x0.2.2)))
def Xt(N:Nat)(x0:(List Kc))(ca:Int)(ce:Int):(Int)→Option ((Int)⊕((Unit)⊕(Int))):=fun v1 =>
 if decide (v1<(List.length x0:Int))then
 (idx x0 v1).bind fun x2 =>
 (Qap N x2 ca ce).bind fun r3 =>
 if r3 then
 some (.inr (.inr v1))
 else
 some (.inl (IntKind.wrap .i64 (v1+1)))
 else
 some (.inr (.inl ()))
def Zn(N:Nat)(x0:(List Kc))(ca:Int)(ce:Int):Option (Int) :=
 (Qg (Xt N x0 ca ce) N 0).bind fun
 | .inl _ =>
  some (-1)
 | .inr v4 =>
  some v4
def Ui(N:Nat)(x0:(List Kc))(ca:Int)(ce:Int):Option (Bool) :=
 (Zn N x0 ca ce).bind fun r1 =>
 some (decide (r1≥0))
def Qf4(N:Nat)(x0:(List Qt))(x1:Int)(x2:Int):(Int)→Option ((Int)⊕((Unit)⊕(Str))):=fun v1 =>
 if decide (v1<(List.length x0:Int))then
 (idx x0 v1).bind fun x3 =>
 (Ui N x3.2 x1 x2).bind fun r4 =>
 if r4 then
 some (.inr (.inr x3.1))
 else
 some (.inl (IntKind.wrap .i64 (v1+1)))
 else
 some (.inr (.inl ()))
def Qaq(N:Nat)(x0:(List Qt))(x1:Int)(x2:Int):Option (Str) :=
 (Qg (Qf4 N x0 x1 x2) N 0).bind fun
 | .inl _ =>
  (idx x0 (IntKind.wrap .i64 ((List.length x0:Int) - 1))).bind fun x5 =>
  some x5.1
 | .inr v6 =>
  some v6
def Qit(N:Nat)(x0:(List Qt))(x1:(List Int))(x2:Int):Option (Str) :=
 (Dp N x0).bind fun r1 =>
 if((r1 != 0)||(decide (x2<0)))||(decide (x2≥12622780800))then
 some ([]:Str)
 else
 (Qev N x1 (IntKind.wrap .i64 (Int.tdiv x2 86400))).bind fun r2 =>
 (Qaq N x0 r2 (IntKind.wrap .i64 (Int.tdiv (Int.tmod x2 86400) 60))).bind fun r3 =>
 some r3
def Qbn(N:Nat)(x3:Qt)(x1:Int):(Int×(List Int))→Option ((Int×(List Int))⊕(((List Int)))):=fun w4 =>
 if decide (w4.1<(List.length x3.2:Int))then
 ((idx x3.2 w4.1).bind fun x7 =>
 if(Go.bits .and .i64 x7.1 x1) != 0 then
 (app 8 w4.2 ([x7.2.1,x7.2.2]:List Int)).bind fun q8 =>
 some q8
 else
 some w4.2:Option (((List Int)))).bind fun v9 =>
 some (.inl ((IntKind.wrap .i64 (w4.1+1)),v9))
 else
 some (.inr w4.2)
def Qbo(N:Nat)(x0:(List Qt))(x1:Int):(Int×(List Int))→Option ((Int×(List Int))⊕(((List Int)))):=fun w1 =>
 if decide (w1.1<(List.length x0:Int))then
 (idx x0 w1.1).bind fun x3 =>
 (Qg (Qbn N x3 x1) N (0,w1.2)).bind fun v10 =>
 some (.inl ((IntKind.wrap .i64 (w1.1+1)),v10))
 else
 some (.inr w1.2)
def Qar(N:Nat)(x0:(List Qt))(x1:Int):Option ((List Int)) :=
 (Qg (Qbo N x0 x1) N (0,([0]:List Int))).bind fun v11 =>
 (Qu1 v11).bind fun r12 =>
 (R6 r12).bind fun r13 =>
 (Qu2 (fun m=>decide (m≥1440)) r13).bind fun r14 =>
 some r14
def Qiu(N:Nat)(r9:(List Int))(v6:Int)(x2:Qa)(x0:(List Qt))(r8:Int):(Int×(List Zz))→Option ((Int×(List Zz))⊕(((List Zz)))):=fun w11 =>
 if decide (w11.1<(List.length r9:Int))then
 ((idx r9 w11.1).bind fun _ =>
 (idx r9 w11.1).bind fun x26 =>
 (if decide ((IntKind.wrap .i64 (w11.1+1))<(List.length r9:Int))then
 (idx r9 (IntKind.wrap .i64 (w11.1+1))).bind fun _ =>
 (idx r9 (IntKind.wrap .i64 (w11.1+1))).bind fun x32 =>
 some ((IntKind.wrap .i64 ((IntKind.wrap .i64 (v6*86400))+(IntKind.wrap .i64 (60*x26)))),(IntKind.wrap .i64 ((IntKind.wrap .i64 (v6*86400))+(IntKind.wrap .i64 (60*x32)))))
 else
 some ((IntKind.wrap .i64 ((IntKind.wrap .i64 (v6*86400))+(IntKind.wrap .i64 (60*x26)))),(IntKind.wrap .i64 ((IntKind.wrap .i64 (v6+1))*86400))):Option ((Qa))).bind fun v35 =>
 (U8 N v35 x2).bind fun w36 =>
 if !w36.2 then
 some w11.2
 else
 (Qaq N x0 r8 x26).bind fun r38 =>
 (if decide ((IntKind.wrap .i64 ((List.length w11.2:Int) - 1))≥0)then
 (idx w11.2 (IntKind.wrap .i64 ((List.length w11.2:Int) - 1))).bind fun _ =>
 (idx w11.2 (IntKind.wrap .i64 ((List.length w11.2:Int) - 1))).bind fun x40 =>
 some (x40.1==r38)
 else
 some false:Option (Bool)).bind fun v41 =>
 if v41 then
 (idx w11.2 (IntKind.wrap .i64 ((List.length w11.2:Int) - 1))).bind fun _ =>
 (idx w11.2 (IntKind.wrap .i64 ((List.length w11.2:Int) - 1))).bind fun y42 =>
 some (List.set w11.2 (Int.toNat (IntKind.wrap .i64 ((List.length w11.2:Int) - 1))) (y42.1,(y42.2.1,w36.1.2)))
 else
 (app 32 w11.2 ([(r38,w36.1)]:List Zz)).bind fun q43 =>
 some q43:Option (((List Zz)))).bind fun v44 =>
 some (.inl ((IntKind.wrap .i64 (w11.1+1)),v44))
 else
 some (.inr w11.2)
def Qiv(N:Nat)(x2:Qa)(x1:(List Int))(x0:(List Qt)):(Int×(List Zz))→Option ((Int×(List Zz))⊕(((List Zz)))):=fun w6 =>
 if decide (w6.1≤(IntKind.wrap .i64 (Int.tdiv (IntKind.wrap .i64 (x2.2 - 1)) 86400)))then
 (Qev N x1 w6.1).bind fun r8 =>
 (Qar N x0 r8).bind fun r9 =>
 (Qg (Qiu N r9 w6.1 x2 x0 r8) N (0,w6.2)).bind fun v45 =>
 some (.inl ((IntKind.wrap .i64 (w6.1+1)),v45))
 else
 some (.inr w6.2)
def Qkw(N:Nat)(x0:(List Qt))(x1:(List Int))(x2:Qa):Option ((List Zz)) :=
 (Dp N x0).bind fun r1 =>
 (if r1 != 0 then
 some true
 else
 (V5 N x2).bind fun r3 =>
 some (!r3):Option (Bool)).bind fun v4 =>
 if v4||(decide ((IntKind.wrap .i64 (x2.2 - x2.1))>2678400))then
 some ([]:List Zz)
 else
 (Qg (Qiv N x2 x1 x0) N ((IntKind.wrap .i64 (Int.tdiv x2.1 86400)),([]:List Zz))).bind fun v46 =>
 some v46
def M4(N:Nat)(x0:Jd)(ca:Int)(ce:Str)(cd:Str):Option (Bool) :=
 some (((x0.1==ca)&&((x0.2.1==ce)||(x0.2.1==([]:Str))))&&((x0.2.2.1==cd)||(x0.2.2.1==([]:Str))))
def Qbp(N:Nat)(x0:Ql)(x1:Int)(x2:Str)(x3:Str):(Int×Int×Str×Str×Int)→Option ((Int×Int×Str×Str×Int)⊕((Int×Str×Str×Int)⊕(Bool×Int×Str×Str×Int×(List Vs)))):=fun w2 =>
 if decide (w2.1<(List.length x0.2.2.2.2.2.1:Int))then
 (idx x0.2.2.2.2.2.1 w2.1).bind fun x7 =>
 (M4 N x7 x1 x2 x3).bind fun r8 =>
 if r8 then
 (app 24 ([]:List Vs) x7.2.2.2.2).bind fun q9 =>
 some (.inr (.inr (true,x7.1,x7.2.1,x7.2.2.1,x7.2.2.2.1,q9)))
 else
 some (.inl ((IntKind.wrap .i64 (w2.1+1)),w2.2.1,w2.2.2.1,w2.2.2.2.1,w2.2.2.2.2))
 else
 some (.inr (.inl (w2.2.1,w2.2.2.1,w2.2.2.2.1,w2.2.2.2.2)))
def Qas(N:Nat)(x0:Ql)(x1:Int)(x2:Str)(x3:Str):Option (Int×Str×Str×Int×Bool×(List Vs)) :=
 (Qg (Qbp N x0 x1 x2 x3) N (0,0,([]:Str),([]:Str),0)).bind fun
 | .inl w10 =>
  some (0,([]:Str),([]:Str),0,false,([]:List Vs))
 | .inr w14 =>
  some (w14.2.1,w14.2.2.1,w14.2.2.2.1,w14.2.2.2.2.1,w14.1,w14.2.2.2.2.2)
def Ol(N:Nat)(x1:(List Int))(x0:Int):(Int)→Option ((Int)⊕((Unit)⊕(Bool))):=fun v1 =>
 if decide (v1<(List.length x1:Int))then
 (idx x1 v1).bind fun x2 =>
 if(decide (x2<0))||(decide (x2>x0))then
 some (.inr (.inr false))
 else
 some (.inl (IntKind.wrap .i64 (v1+1)))
 else
 some (.inr (.inl ()))
def Gl(N:Nat)(x0:Int)(x1:(List Int)):Option (Bool) :=
 (Qg (Ol N x1 x0) N 0).bind fun
 | .inl _ =>
  some true
 | .inr v3 =>
  some v3
def I3(N:Nat)(ca:(List Vs)):(Int×Int)→Option ((Int×Int)⊕((Unit)⊕(Int))):=fun w1 =>
 if decide (w1.2<(List.length ca:Int))then
 (idx ca w1.2).bind fun _ =>
 (idx ca w1.2).bind fun x3 =>
 (Gl N 1099511627776 ([x3.1,x3.2.1]:List Int)).bind fun r4 =>
 (if(!r4)||(x3.2.1==0)then
 some true
 else
 (Gl N 1125899906842624 ([x3.2.2]:List Int)).bind fun r6 =>
 some (!r6):Option (Bool)).bind fun v7 =>
 if v7 then
 some (.inr (.inr 6))
 else
 if(x3.1==0) != (w1.2==(IntKind.wrap .i64 ((List.length ca:Int) - 1)))then
 some (.inr (.inr 8))
 else
 if(x3.1 != 0)&&(decide (x3.1≤w1.1))then
 some (.inr (.inr 9))
 else
 some (.inl (x3.1,(IntKind.wrap .i64 (w1.2+1))))
 else
 some (.inr (.inl ()))
def Cq(N:Nat)(ca:(List Vs)):Option (Int) :=
 if(List.length ca:Int)==0 then
 some 8
 else
 if decide ((List.length ca:Int)>64)then
 some 5
 else
 (Qg (I3 N ca) N (0,0)).bind fun
 | .inl _ =>
  some 0
 | .inr v8 =>
  some v8
def M5(N:Nat)(ca:(List Vs))(x1:Int):(Int×Int×Int)→Option ((Int×Int×Int)⊕((Int)⊕(Int×Bool))):=fun w1 =>
 if decide (w1.2.2<(List.length ca:Int))then
 (idx ca w1.2.2).bind fun _ =>
 (idx ca w1.2.2).bind fun x4 =>
 (if x4.1 != 0 then
 some (if x4.1<x1 then x4.1 else x1)
 else
 some x1:Option ((Int))).bind fun v5 =>
 if decide (v5≤w1.2.1)then
 some (.inr (.inl w1.1))
 else
 (Qjx .i64 (IntKind.wrap .i64 ((IntKind.wrap .i64 ((IntKind.wrap .i64 (v5 - w1.2.1))+x4.2.1)) - 1)) x4.2.1).bind fun n6 =>
 (Qjx .i64 (IntKind.wrap .i64 (1125899906842624 - w1.1)) n6).bind fun n7 =>
 if decide (x4.2.2>n7)then
 some (.inr (.inr (0,false)))
 else
 some (.inl ((IntKind.wrap .i64 (w1.1+(IntKind.wrap .i64 (n6*x4.2.2)))),v5,(IntKind.wrap .i64 (w1.2.2+1))))
 else
 some (.inr (.inl w1.1))
def Ef(N:Nat)(x1:Int)(ca:(List Vs)):Option (Int×Bool) :=
 (Qg (M5 N ca x1) N (0,0,0)).bind fun
 | .inl v8 =>
  some (v8,true)
 | .inr w9 =>
  some (w9.1,w9.2)
def Am(N:Nat)(x1:Int)(x2:Int)(ca:(List Vs)):Option (Int×Int) :=
 (Cq N ca).bind fun r1 =>
 if r1 != 0 then
 some (0,8)
 else
 if(((decide (x1<0))||(decide (x2<0)))||(decide (x1>1099511627776)))||(decide (x2>(IntKind.wrap .i64 (1099511627776 - x1))))then
 some (0,6)
 else
 (Ef N (IntKind.wrap .i64 (x1+x2)) ca).bind fun w2 =>
 if !w2.2 then
 some (0,6)
 else
 (Ef N x1 ca).bind fun w4 =>
 some ((IntKind.wrap .i64 (w2.1 - w4.1)),0)
def Om(N:Nat)(r7:(List Zz)):(Int×(List Qo))→Option ((Int×(List Qo))⊕(((List Qo)))):=fun w9 =>
 if decide (w9.1<(List.length r7:Int))then
 (idx r7 w9.1).bind fun _ =>
 (idx r7 w9.1).bind fun x11 =>
 (app 40 w9.2 ([(x11.1,x11.2.1,(IntKind.wrap .i64 (x11.2.2 - x11.2.1)),0)]:List Qo)).bind fun q12 =>
 some (.inl ((IntKind.wrap .i64 (w9.1+1)),q12))
 else
 some (.inr w9.2)
def M6(N:Nat)(x0:Ql)(x1:(List Int))(x2:Qb)(x3:Int):Option ((List Qo)) :=
 (M3 N x2 x3).bind fun r1 =>
 (if !r1 then
 some true
 else
 (Dp N x0.2.2.2.2.1).bind fun r3 =>
 some (r3 != 0):Option (Bool)).bind fun v4 =>
 if v4 then
 some ([]:List Qo)
 else
 (if x2.2.1==1 then
 some (IntKind.wrap .i64 (x2.2.2.2.2.2.2.1+x3))
 else
 some x2.2.2.2.2.2.2.1:Option ((Int))).bind fun v5 =>
 if(x2.2.1 != 1)||(!x0.2.2.1)then
 (Qit N x0.2.2.2.2.1 x1 v5).bind fun r6 =>
 some ([(r6,v5,(IntKind.wrap .i64 (x2.2.2.2.2.2.2.2.1 - x3)),0)]:List Qo)
 else
 (Qkw N x0.2.2.2.2.1 x1 (v5,(IntKind.wrap .i64 (x2.2.2.2.2.2.2.1+x2.2.2.2.2.2.2.2.1)))).bind fun r7 =>
 (Qg (Om N r7) N (0,([]:List Qo))).bind fun v13 =>
 some v13
def So(N:Nat)(r3:(List Qo))(x0:Ql)(x2:Qb)(r1:Str):(Int×Int×Int×Int×Int×(List Qo))→Option ((Int×Int×Int×Int×Int×(List Qo))⊕((Int×Int×Int×(List Qo)))):=fun w9 =>
 if decide (w9.2.2.2.2.1<(List.length r3:Int))then
 (idx w9.2.2.2.2.2 w9.2.2.2.2.1).bind fun _ =>
 (idx w9.2.2.2.2.2 w9.2.2.2.2.1).bind fun x15 =>
 (Qas N x0 x2.2.1 r1 x15.1).bind fun w16 =>
 if !w16.2.2.2.2.1 then
 some (.inr (w9.1,w9.2.1,18,w9.2.2.2.2.2))
 else
 (if w9.2.2.2.2.1==0 then
 some w16.2.2.2.1
 else
 some w9.1:Option ((Int))).bind fun v24 =>
 (idx w9.2.2.2.2.2 w9.2.2.2.2.1).bind fun _ =>
 (idx w9.2.2.2.2.2 w9.2.2.2.2.1).bind fun x25 =>
 (Am N w9.2.2.1 x25.2.2.1 w16.2.2.2.2.2).bind fun w26 =>
 if w26.2 != 0 then
 some (.inr (v24,w9.2.1,w26.2,w9.2.2.2.2.2))
 else
 (idx w9.2.2.2.2.2 w9.2.2.2.2.1).bind fun _ =>
 (idx w9.2.2.2.2.2 w9.2.2.2.2.1).bind fun y28 =>
 (idx (List.set w9.2.2.2.2.2 (Int.toNat w9.2.2.2.2.1) (y28.1,y28.2.1,y28.2.2.1,w26.1)) w9.2.2.2.2.1).bind fun _ =>
 (idx (List.set w9.2.2.2.2.2 (Int.toNat w9.2.2.2.2.1) (y28.1,y28.2.1,y28.2.2.1,w26.1)) w9.2.2.2.2.1).bind fun x29 =>
 some (.inl (v24,(if 1125899906842625<(IntKind.wrap .i64 (w9.2.1+w26.1))then 1125899906842625 else(IntKind.wrap .i64 (w9.2.1+w26.1))),(IntKind.wrap .i64 (w9.2.2.1+x29.2.2.1)),w9.2.2.2.1,(IntKind.wrap .i64 (w9.2.2.2.2.1+1)),(List.set w9.2.2.2.2.2 (Int.toNat w9.2.2.2.2.1) (y28.1,y28.2.1,y28.2.2.1,w26.1))))
 else
 some (.inr (w9.1,w9.2.1,w9.2.2.2.1,w9.2.2.2.2.2))
def Pt(N:Nat)(x0:Ql)(x1:(List Int))(x2:Qb)(x3:Int):Option (Int×Int×(List Qo)) :=
 (Qai N x0.2.2.2.1 x2.2.2.2.2.2.1).bind fun w1 =>
 (M6 N x0 x1 x2 x3).bind fun r3 =>
 (Qg (So N r3 x0 x2 w1.1) N (0,0,0,0,0,r3)).bind fun w30 =>
 (if(w30.2.2.1==0)&&(((decide (w30.1<0))||(decide (w30.1>1125899906842624)))||(decide ((IntKind.wrap .i64 (w30.1+w30.2.1))>1125899906842624)))then
 some 6
 else
 some w30.2.2.1:Option ((Int))).bind fun v34 =>
 if v34 != 0 then
 some (0,v34,([]:List Qo))
 else
 some (w30.1,0,w30.2.2.2)
def On(N:Nat)(r3:(List Qo)):(Int×Int)→Option ((Int×Int)⊕((Int))):=fun w4 =>
 if decide (w4.2<(List.length r3:Int))then
 ((idx r3 w4.2).bind fun _ =>
 (idx r3 w4.2).bind fun x6 =>
 if decide (w4.1≤1125899906842624)then
 some (IntKind.wrap .i64 (w4.1+x6.2.2.2))
 else
 some w4.1:Option ((Int))).bind fun v7 =>
 some (.inl (v7,(IntKind.wrap .i64 (w4.2+1))))
 else
 some (.inr w4.1)
def M7(N:Nat)(cx:Qz)(cq:Qb)(g8:Q6)(g9:Qm)(gk:Str)(gm:Int)(gn:Bool)(gq:(List Qq))(du:Int)(dv:Qb)(dw:Int)(dy:Str)(dz:Int)(dl:Str)(g5:Int)(dx:Int)(dq:Int)(g6:Int)(g7:Int)(ce:(List Qd))(cd:(List Qp))(cg:(List Qi))(ci:(List Qt))(cj:(List Jd))(ck:(List Qk))(cm:(List Q9))(dj:(List Qo))(ge:(List Q2)):Option (Int×Qz×Qb×Q6×Qm×Ql×Int×Qb×Int×Str×Int×Str×Int×Int×Int×Int×Int×(List Qd)×(List Qp)×(List Qi)×(List Q9)×(List Qo)×(List Q2)) :=
 (Pt N (gk,gm,gn,gq,ci,cj,ck) cx.2.2.2.2.1 cq du).bind fun w1 =>
 if w1.2.1 != 0 then
 some (w1.2.1,cx,cq,g8,g9,(gk,gm,gn,gq,ci,cj,ck),du,dv,dw,dy,dz,dl,g5,dx,dq,g6,g7,ce,cd,cg,cm,dj,ge)
 else
 (Qg (On N w1.2.2) N (w1.1,0)).bind fun v8 =>
 if decide (v8>1125899906842624)then
 some (6,cx,cq,g8,g9,(gk,gm,gn,gq,ci,cj,ck),du,dv,dw,dy,dz,dl,g5,dx,dq,g6,g7,ce,cd,cg,cm,dj,ge)
 else
 some (0,cx,cq,g8,g9,(gk,gm,gn,gq,ci,cj,ck),du,dv,dw,dy,dz,dl,w1.1,v8,dq,g6,g7,ce,cd,cg,cm,w1.2.2,ge)
def Qg1(N:Nat)(ct:Qz)(cp:Qx)(cw:Qb)(dh:Q6)(di:Qm)(gg:Str)(gi:Int)(gj:Bool)(gr:(List Qq))(cy:Int)(cz:Qb)(d4:Int)(d5:Str)(d6:Int)(d7:Str)(d8:Int)(d9:Int)(da:Int)(db:Int)(de:Int)(cd:(List Qt))(cg:(List Jd))(ci:(List Qk))(cj:(List Q9))(ck:(List Qo))(cm:(List Q2)):Option (Int×Qz×Qb×Q6×Qm×Ql×Int×Qb×Int×Str×Int×Str×Int×Int×Int×Int×Int×(List Qd)×(List Qp)×(List Qi)×(List Q9)×(List Qo)×(List Q2)) :=
 (M2 N ct cp cw dh di gg gi gj gr cy cz d4 d5 d6 d7 d8 d9 da db de cd cg ci cj ck cm).bind fun w1 =>
 (M7 N w1.1 w1.2.1 w1.2.2.1 w1.2.2.2.1 w1.2.2.2.2.1 w1.2.2.2.2.2.1 w1.2.2.2.2.2.2.1 w1.2.2.2.2.2.2.2.1 w1.2.2.2.2.2.2.2.2.1 w1.2.2.2.2.2.2.2.2.2.1 w1.2.2.2.2.2.2.2.2.2.2.1 w1.2.2.2.2.2.2.2.2.2.2.2.1 w1.2.2.2.2.2.2.2.2.2.2.2.2.1 w1.2.2.2.2.2.2.2.2.2.2.2.2.2.1 w1.2.2.2.2.2.2.2.2.2.2.2.2.2.2.1 w1.2.2.2.2.2.2.2.2.2.2.2.2.2.2.2.1 w1.2.2.2.2.2.2.2.2.2.2.2.2.2.2.2.2.1 w1.2.2.2.2.2.2.2.2.2.2.2.2.2.2.2.2.2.1 w1.2.2.2.2.2.2.2.2.2.2.2.2.2.2.2.2.2.2.1 w1.2.2.2.2.2.2.2.2.2.2.2.2.2.2.2.2.2.2.2.1 w1.2.2.2.2.2.2.2.2.2.2.2.2.2.2.2.2.2.2.2.2.1 w1.2.2.2.2.2.2.2.2.2.2.2.2.2.2.2.2.2.2.2.2.2.1 w1.2.2.2.2.2.2.2.2.2.2.2.2.2.2.2.2.2.2.2.2.2.2.1 w1.2.2.2.2.2.2.2.2.2.2.2.2.2.2.2.2.2.2.2.2.2.2.2.1 w1.2.2.2.2.2.2.2.2.2.2.2.2.2.2.2.2.2.2.2.2.2.2.2.2.1 w1.2.2.2.2.2.2.2.2.2.2.2.2.2.2.2.2.2.2.2.2.2.2.2.2.2.1 w1.2.2.2.2.2.2.2.2.2.2.2.2.2.2.2.2.2.2.2.2.2.2.2.2.2.2.1 w1.2.2.2.2.2.2.2.2.2.2.2.2.2.2.2.2.2.2.2.2.2.2.2.2.2.2.2).bind fun w29 =>
 some (w29.1,w29.2.1,w29.2.2.1,w29.2.2.2.1,w29.2.2.2.2.1,w29.2.2.2.2.2.1,w29.2.2.2.2.2.2.1,w29.2.2.2.2.2.2.2.1,w29.2.2.2.2.2.2.2.2.1,w29.2.2.2.2.2.2.2.2.2.1,w29.2.2.2.2.2.2.2.2.2.2.1,w29.2.2.2.2.2.2.2.2.2.2.2.1,w29.2.2.2.2.2.2.2.2.2.2.2.2.1,w29.2.2.2.2.2.2.2.2.2.2.2.2.2.1,w29.2.2.2.2.2.2.2.2.2.2.2.2.2.2.1,w29.2.2.2.2.2.2.2.2.2.2.2.2.2.2.2.1,w29.2.2.2.2.2.2.2.2.2.2.2.2.2.2.2.2.1,w29.2.2.2.2.2.2.2.2.2.2.2.2.2.2.2.2.2.1,w29.2.2.2.2.2.2.2.2.2.2.2.2.2.2.2.2.2.2.1,w29.2.2.2.2.2.2.2.2.2.2.2.2.2.2.2.2.2.2.2.1,w29.2.2.2.2.2.2.2.2.2.2.2.2.2.2.2.2.2.2.2.2.1,w29.2.2.2.2.2.2.2.2.2.2.2.2.2.2.2.2.2.2.2.2.2.1,w29.2.2.2.2.2.2.2.2.2.2.2.2.2.2.2.2.2.2.2.2.2.2)
def Pu(N:Nat)(ct:Qz)(cp:Qx)(cw:Qb)(dh:Q6)(di:Qm)(gg:Str)(gi:Int)(gj:Bool)(gr:(List Qq))(cy:Int)(cz:Qb)(d4:Int)(d5:Str)(d6:Int)(d7:Str)(d8:Int)(d9:Int)(da:Int)(db:Int)(de:Int)(cd:(List Qt))(cg:(List Jd))(ci:(List Qk))(cj:(List Q9))(ck:(List Qo))(cm:(List Q2))(dj:Int):Option (Qz×(List Qd)×(List Qp)×(List Qi)×Qb×Q6×Qm×Str×Int×Bool×(List Qq)×(List Qt)×(List Jd)×(List Qk)×Int×Qb×Int×Str×Int×Str×Int×Int×Int×Int×Int×Int×(List Q9)×(List Qo)×(List Q2)) :=
 if dj==0 then
 (Qg1 N ct cp cw dh di gg gi gj gr cy cz d4 d5 d6 d7 d8 d9 da db de cd cg ci cj ck cm).bind fun w1 =>
 some (w1.2.1,w1.2.2.2.2.2.2.2.2.2.2.2.2.2.2.2.2.2.1,w1.2.2.2.2.2.2.2.2.2.2.2.2.2.2.2.2.2.2.1,w1.2.2.2.2.2.2.2.2.2.2.2.2.2.2.2.2.2.2.2.1,w1.2.2.1,w1.2.2.2.1,w1.2.2.2.2.1,w1.2.2.2.2.2.1.1,w1.2.2.2.2.2.1.2.1,w1.2.2.2.2.2.1.2.2.1,w1.2.2.2.2.2.1.2.2.2.1,w1.2.2.2.2.2.1.2.2.2.2.1,w1.2.2.2.2.2.1.2.2.2.2.2.1,w1.2.2.2.2.2.1.2.2.2.2.2.2,w1.2.2.2.2.2.2.1,w1.2.2.2.2.2.2.2.1,w1.2.2.2.2.2.2.2.2.1,w1.2.2.2.2.2.2.2.2.2.1,w1.2.2.2.2.2.2.2.2.2.2.1,w1.2.2.2.2.2.2.2.2.2.2.2.1,w1.2.2.2.2.2.2.2.2.2.2.2.2.1,w1.2.2.2.2.2.2.2.2.2.2.2.2.2.1,w1.2.2.2.2.2.2.2.2.2.2.2.2.2.2.1,w1.2.2.2.2.2.2.2.2.2.2.2.2.2.2.2.1,w1.2.2.2.2.2.2.2.2.2.2.2.2.2.2.2.2.1,w1.1,w1.2.2.2.2.2.2.2.2.2.2.2.2.2.2.2.2.2.2.2.2.1,w1.2.2.2.2.2.2.2.2.2.2.2.2.2.2.2.2.2.2.2.2.2.1,w1.2.2.2.2.2.2.2.2.2.2.2.2.2.2.2.2.2.2.2.2.2.2)
 else
 some (ct,cp.1,cp.2.1,cp.2.2,cw,dh,di,gg,gi,gj,gr,cd,cg,ci,cy,cz,d4,d5,d6,d7,d8,d9,da,db,de,dj,cj,ck,cm)
def M8(N:Nat)(x0:Int)(x1:Int):Option (Qa) :=
 if(((decide (x0<1))||(decide (x0>28)))||(decide (x1<0)))||(decide (x1≥12622780800))then
 some (0,0)
 else
 (Gj N x0 x1).bind fun r1 =>
 (Wp N x0 r1).bind fun r2 =>
 some r2
def Ao(N:Nat)(cx:Qz)(dg:Qx)(cq:Qb)(g8:Q6)(g9:Qm)(gp:Ql)(du:Int)(dv:Qb)(dw:Int)(dy:Str)(dz:Int)(dl:Str)(g5:Int)(dx:Int)(dq:Int)(g6:Int)(g7:Int)(ce:(List Q9))(cd:(List Qo))(cg:(List Q2)):Option (Int) :=
 (M8 N g9.2.2.1 cq.2.2.2.2.2.2.1).bind fun r1 =>
 some r1.1
def Za(N:Nat)(x0:Qi)(x1:Qi):(Int)→Option ((Int)⊕((Unit)⊕(Int))):=fun v1 =>
 if decide (v1<3)then
 (idx ([([x0.1,x1.1]:List Int),([x0.2.1,x1.2.1]:List Int),([x0.2.2.1,x1.2.2.1]:List Int)]:List (List Int)) v1).bind fun x2 =>
 (idx x2 0).bind fun _ =>
 (idx x2 0).bind fun x3 =>
 (idx x2 1).bind fun _ =>
 (idx x2 1).bind fun x4 =>
 if decide (x3<x4)then
 some (.inr (.inr (-1)))
 else
 (idx x2 0).bind fun _ =>
 (idx x2 0).bind fun x5 =>
 (idx x2 1).bind fun _ =>
 (idx x2 1).bind fun x6 =>
 if decide (x5>x6)then
 some (.inr (.inr 1))
 else
 some (.inl (IntKind.wrap .i64 (v1+1)))
 else
 some (.inr (.inl ()))
def Xu(N:Nat)(x0:Qi)(x1:Qi):Option (Int) :=
 (Qg (Za N x0 x1) N 0).bind fun
 | .inl _ =>
  some 0
 | .inr v7 =>
  some v7
def Qc8(N:Nat)(x0:(List Qi))(x1:Int)(x2:Int)(x3:Int):(Int×Qi)→Option ((Int×Qi)⊕((Qi)⊕(Qi))):=fun w2 =>
 if decide (w2.1<(List.length x0:Int))then
 (idx x0 w2.1).bind fun x5 =>
 (Xu N x5 (x1,x2,x3,0,0)).bind fun r6 =>
 if r6==0 then
 some (.inr (.inr x5))
 else
 some (.inl ((IntKind.wrap .i64 (w2.1+1)),w2.2))
 else
 some (.inr (.inl w2.2))
def Qc9(N:Nat)(x0:(List Qi))(x1:Int)(x2:Int)(x3:Int):Option (Qi) :=
 (Qg (Qc8 N x0 x1 x2 x3) N (0,(0,0,0,0,0))).bind fun
 | .inl v7 =>
  some (x1,x2,x3,0,0)
 | .inr v8 =>
  some v8
def Li(N:Nat)(x0:Qb)(x1:Str)(x2:Str)(x3:Qi)(x4:Bool):Option (V4) :=
 if(decide (x0.2.2.2.2.2.2.1<0))||(decide (x0.2.2.2.2.2.2.1≥12622780800))then
 some (x0.2.1,x0.2.2.2.2.2.2.2.1,(-1),0,x3.2.2.2.1,x3.2.2.2.2,x1,x2,x4)
 else
 (idx ([86400,60]:List Int) 0).bind fun _ =>
 (idx ([86400,60]:List Int) 0).bind fun x5 =>
 (Qjx .i64 x0.2.2.2.2.2.2.1 x5).bind fun n6 =>
 (G6 N n6).bind fun r7 =>
 (idx ([86400,60]:List Int) 0).bind fun _ =>
 (idx ([86400,60]:List Int) 0).bind fun x8 =>
 (Qwp x0.2.2.2.2.2.2.1 x8).bind fun n9 =>
 (idx ([86400,60]:List Int) 1).bind fun _ =>
 (idx ([86400,60]:List Int) 1).bind fun x10 =>
 (Qjx .i64 n9 x10).bind fun n11 =>
 some (x0.2.1,x0.2.2.2.2.2.2.2.1,r7,n11,x3.2.2.2.1,x3.2.2.2.2,x1,x2,x4)
def Ku(N:Nat)(x0:Int):Option (Int) :=
 if((x0==1)||(x0==2))||(x0==3)then
 some 0
 else
 if x0==4 then
 some 1
 else
 if(decide (x0>4))&&(decide (x0<16))then
 some 2
 else
 some (-1)
def Yb(N:Nat)(x0:Str):Option (Int) :=
 (if x0==([107,105,110,100]:Str)then
 some (x0==([107,105,110,100]:Str))
 else
 if x0==([117,110,105,116,115]:Str)then
 some (x0==([117,110,105,116,115]:Str))
 else
 if x0==([119,101,101,107,100,97,121]:Str)then
 some (x0==([119,101,101,107,100,97,121]:Str))
 else
 if x0==([109,105,110,117,116,101]:Str)then
 some (x0==([109,105,110,117,116,101]:Str))
 else
 if x0==([116,111,116,97,108]:Str)then
 some (x0==([116,111,116,97,108]:Str))
 else
 some (x0==([115,112,101,110,116]:Str)):Option ((Bool))).bind fun v1 =>
 if v1 then
 some 1
 else
 (if x0==([122,111,110,101]:Str)then
 some (x0==([122,111,110,101]:Str))
 else
 some (x0==([98,97,110,100]:Str)):Option ((Bool))).bind fun v2 =>
 if v2 then
 some 2
 else
 if x0==([102,97,109,105,108,121]:Str)then
 some 3
 else
 some 0
def Cr(N:Nat)(x0:Int)(x1:(List Int)):Option (Int×Int) :=
 (idx x1 0).bind fun _ =>
 (idx x1 0).bind fun x2 =>
 (idx x1 1).bind fun _ =>
 (idx x1 1).bind fun x3 =>
 (if x0==4 then
 some (3,(x2==3))
 else
 (if x0==5 then
 some (x0==5)
 else
 some (x0==6):Option ((Bool))).bind fun v4 =>
 if v4 then
 some (3,((x2==3)&&(x3==3)))
 else
 (if x0==7 then
 some (x0==7)
 else
 some (x0==8):Option ((Bool))).bind fun v5 =>
 if v5 then
 some (3,((x2==x3)&&(x2 != 3)))
 else
 (if x0==9 then
 some (x0==9)
 else
 some (x0==10):Option ((Bool))).bind fun v6 =>
 if v6 then
 some (3,((x2==1)&&(x3==1)))
 else
 some (1,((x2==1)&&(x3==1))):Option ((Int×Bool))).bind fun w7 =>
 if !w7.2 then
 some (0,7)
 else
 some (w7.1,0)
def Qbq(N:Nat)(self:Qj→Int →  Option (Int×Int))(x0:Qj)(x1:Int):(Int×(List Int))→Option ((Int×(List Int))⊕(((List Int))⊕(Int×Int))):=fun w5 =>
 if decide (w5.1<(List.length x0.ks:Int))then
 (idx x0.ks w5.1).bind fun x7 =>
 (self x7 (IntKind.wrap .i64 (x1+1))).bind fun w8 =>
 if w8.2 != 0 then
 some (.inr (.inr (0,w8.2)))
 else
 (idx w5.2 w5.1).bind fun _ =>
 (idx w5.2 w5.1).bind fun x10 =>
 some (.inl ((IntKind.wrap .i64 (w5.1+1)),(List.set w5.2 (Int.toNat w5.1) w8.1)))
 else
 some (.inr (.inl w5.2))
def V6(N:Nat):Nat→Qj→Int→Option (Int×Int)
 | 0,_,_=>none
 | n+1,x0,x1 =>
  if decide (x1>16)then
  some (0,24)
  else
  (Ku N x0.x.1).bind fun r1 =>
  if r1 != (List.length x0.ks:Int)then
  some (0,7)
  else
  if x0.x.1==1 then
  (Gl N 1099511627776 ([x0.x.2.1]:List Int)).bind fun r2 =>
  if !r2 then
  some (0,6)
  else
  some (1,0)
  else
  if x0.x.1==2 then
  if decide ((List.length x0.x.2.2:Int)>200)then
  some (0,5)
  else
  some (2,0)
  else
  if x0.x.1==3 then
  (Yb N x0.x.2.2).bind fun r3 =>
  if r3 != 0 then
  some (r3,0)
  else
  some (0,11)
  else
  (Qg (Qbq N (V6 N n) x0 x1) N (0,(List.replicate 2 0))).bind fun
  | .inl v11 =>
   (Cr N x0.x.1 v11).bind fun w12 =>
   some (w12.1,w12.2)
  | .inr w14 =>
   some (w14.1,w14.2)
def Qat(N:Nat)(x0:Qj)(x1:Int):Option (Int×Int):=V6 N N x0 x1
def G7(N:Nat)(x0:Qj):Option (Int×Int) :=
 (Qat N x0 1).bind fun w1 =>
 some (w1.1,w1.2)
def Up(N:Nat)(self:Qj→V4 →  Option (Bool))(x0:Int)(ca:Qj)(ce:V4):Option (Bool) :=
 (idx ca.ks x0).bind fun x1 =>
 (self x1 ce).bind fun r2 =>
 some r2
def Qew(N:Nat)(x0:Qj)(x1:V4):Option (Str) :=
 if x0.x.1==2 then
 some x0.x.2.2
 else
 if x0.x.2.2==([122,111,110,101]:Str)then
 some x1.2.2.2.2.2.2.1
 else
 some x1.2.2.2.2.2.2.2.1
def Fn(N:Nat)(x0:Int):Option (Int×Bool) :=
 if(decide (x0<(-4611686018427387904)))||(decide (x0>4611686018427387904))then
 some (0,false)
 else
 some (x0,true)
def M9(N:Nat)(x0:Str)(x1:V4):Option (Int) :=
 if x0==([107,105,110,100]:Str)then
 some x1.1
 else
 if x0==([117,110,105,116,115]:Str)then
 some x1.2.1
 else
 if x0==([119,101,101,107,100,97,121]:Str)then
 some x1.2.2.1
 else
 if x0==([109,105,110,117,116,101]:Str)then
 some x1.2.2.2.1
 else
 if x0==([116,111,116,97,108]:Str)then
 some x1.2.2.2.2.1
 else
 some x1.2.2.2.2.2.1
def X5(N:Nat)(self:Qj→V4 →  Option (Int×Bool))(x0:Int)(ca:Qj)(ce:V4):Option (Int×Bool) :=
 (idx ca.ks x0).bind fun x1 =>
 (self x1 ce).bind fun w2 =>
 some (w2.1,w2.2)
def Qiw(N:Nat)(x0:Int)(x1:Int):Option (Int×Bool) :=
 if((decide (x1>0))&&(decide (x0>(IntKind.wrap .i64 (4611686018427387904 - x1)))))||((decide (x1<0))&&(decide (x0<(IntKind.wrap .i64 ((-4611686018427387904) - x1)))))then
 some (0,false)
 else
 some ((IntKind.wrap .i64 (x0+x1)),true)
def Lj(N:Nat)(x0:Int)(x1:Int):Option (Int×Bool) :=
 if(x0==0)||(x1==0)then
 some (0,true)
 else
 (Qjx .i64 4611686018427387904 (if(IntKind.wrap .i64 (0 - x1))>x1 then(IntKind.wrap .i64 (0 - x1))else x1)).bind fun n1 =>
 if decide ((if(IntKind.wrap .i64 (0 - x0))>x0 then(IntKind.wrap .i64 (0 - x0))else x0)>n1)then
 some (0,false)
 else
 some ((IntKind.wrap .i64 (x0*x1)),true)
def Us(N:Nat):Nat→Qj→V4→Option (Int×Bool)
 | 0,_,_=>none
 | n+1,x0,x1 =>
  if x0.x.1==1 then
  (Fn N x0.x.2.1).bind fun w1 =>
  some (w1.1,w1.2)
  else
  if x0.x.1==3 then
  (M9 N x0.x.2.2 x1).bind fun r3 =>
  (Fn N r3).bind fun w4 =>
  some (w4.1,w4.2)
  else
  (X5 N (Us N n) 0 x0 x1).bind fun w6 =>
  (X5 N (Us N n) 1 x0 x1).bind fun w8 =>
  if(!w6.2)||(!w8.2)then
  some (0,false)
  else
  (if x0.x.1==12 then
  some (.inl (IntKind.wrap .i64 (0 - w8.1)))
  else
  if x0.x.1==11 then
  some (.inl w8.1)
  else
  if x0.x.1==13 then
  some (.inr (.inr w8.1))
  else
  some (.inr (.inl w8.1)):Option ((Int)⊕(Int)⊕(Int))).bind fun
  | .inl v10 =>
   (Qiw N w6.1 v10).bind fun w11 =>
   some (w11.1,w11.2)
  | .inr (.inl v13) =>
   if v13==0 then
   some (0,false)
   else
   if x0.x.1==14 then
   (Qjx .i64 w6.1 v13).bind fun n14 =>
   (Fn N n14).bind fun w15 =>
   some (w15.1,w15.2)
   else
   (Qwp w6.1 v13).bind fun n17 =>
   (Fn N n17).bind fun w18 =>
   some (w18.1,w18.2)
  | .inr (.inr v20) =>
   (Lj N w6.1 v20).bind fun w21 =>
   some (w21.1,w21.2)
def Qda(N:Nat)(x0:Qj)(x1:V4):Option (Int×Bool):=Us N N x0 x1
def Lk(N:Nat)(x0:Qj)(x1:V4):Option (Int×Bool) :=
 (idx x0.ks 0).bind fun x2 =>
 (G7 N x2).bind fun w3 =>
 if w3.1==2 then
 (idx x0.ks 0).bind fun x5 =>
 (Qew N x5 x1).bind fun r6 =>
 (idx x0.ks 1).bind fun x7 =>
 (Qew N x7 x1).bind fun r8 =>
 if Op.bytesLess r6 r8 then
 some ((-1),true)
 else
 if !(Op.bytesLess r6 r8||r6==r8)then
 some (1,true)
 else
 some (0,true)
 else
 (idx x0.ks 0).bind fun x9 =>
 (Qda N x9 x1).bind fun w10 =>
 (idx x0.ks 1).bind fun x12 =>
 (Qda N x12 x1).bind fun w13 =>
 if(!w10.2)||(!w13.2)then
 some (0,false)
 else
 if decide (w10.1<w13.1)then
 some ((-1),true)
 else
 if decide (w10.1>w13.1)then
 some (1,true)
 else
 some (0,true)
def Yk(N:Nat):Nat→Qj→V4→Option (Bool)
 | 0,_,_=>none
 | n+1,x0,x1 =>
  if x0.x.1==3 then
  some x1.2.2.2.2.2.2.2.2
  else
  if x0.x.1==4 then
  (Up N (Yk N n) 0 x0 x1).bind fun r1 =>
  some (!r1)
  else
  if x0.x.1==5 then
  (Up N (Yk N n) 0 x0 x1).bind fun r2 =>
  (if r2 then
  (Up N (Yk N n) 1 x0 x1).bind fun r4 =>
  some r4
  else
  some false:Option (Bool)).bind fun v5 =>
  some v5
  else
  if x0.x.1==6 then
  (Up N (Yk N n) 0 x0 x1).bind fun r6 =>
  (if r6 then
  some true
  else
  (Up N (Yk N n) 1 x0 x1).bind fun r8 =>
  some r8:Option (Bool)).bind fun v9 =>
  some v9
  else
  (Lk N x0 x1).bind fun w10 =>
  if !w10.2 then
  some false
  else
  if x0.x.1==7 then
  some (w10.1==0)
  else
  if x0.x.1==8 then
  some (w10.1 != 0)
  else
  if x0.x.1==9 then
  some (decide (w10.1<0))
  else
  some (decide (w10.1≤0))
def Qf5(N:Nat)(x0:Qj)(x1:V4):Option (Bool):=Yk N N x0 x1
def Qg2(N:Nat)(x0:Qj)(x1:V4):Option (Bool) :=
 (G7 N x0).bind fun w1 =>
 if(w1.2 != 0)||(w1.1 != 3)then
 some false
 else
 (Qf5 N x0 x1).bind fun r3 =>
 some r3
def Cs(N:Nat)(x0:Qk)(ca:V4):Option (Bool) :=
 (Qg2 N x0.2.1 ca).bind fun r1 =>
 some r1
def Sp(N:Nat)(x1:Int)(x0:Int)(x2:Int):(Int×Int×Int)→Option ((Int×Int×Int)⊕((Int×Int)⊕(Int×Int))):=fun w1 =>
 if decide (w1.2.2≥0)then
 ((Jaq .i64 x1 w1.2.2).bind fun n4 =>
 if(Go.bits .and .i64 n4 1)==1 then
 (Qjx .i64 x0 x2).bind fun n5 =>
 (Qwp x0 x2).bind fun n6 =>
 some ((IntKind.wrap .i64 ((IntKind.wrap .i64 (2*w1.1))+n5)),(IntKind.wrap .i64 ((IntKind.wrap .i64 (2*w1.2.1))+n6)))
 else
 some ((IntKind.wrap .i64 (2*w1.1)),(IntKind.wrap .i64 (2*w1.2.1))):Option ((Int×Int))).bind fun w7 =>
 (Qjx .i64 w7.2 x2).bind fun n9 =>
 (Qwp w7.2 x2).bind fun n10 =>
 if decide ((IntKind.wrap .i64 (w7.1+n9))>2251799813685248)then
 some (.inr (.inr ((IntKind.wrap .i64 (w7.1+n9)),0)))
 else
 some (.inl ((IntKind.wrap .i64 (w7.1+n9)),n10,(IntKind.wrap .i64 (w1.2.2 - 1))))
 else
 some (.inr (.inl (w1.1,w1.2.1)))
def Pv(N:Nat)(x0:Int)(x1:Int)(x2:Int):Option (Int×Int) :=
 (Qg (Sp N x1 x0 x2) N (0,0,62)).bind fun
 | .inl w11 =>
  some (w11.1,w11.2)
 | .inr w13 =>
  some (w13.1,w13.2)
def Na(N:Nat)(x0:Int):Option (Int×Int) :=
 (G4 N x0).bind fun r1 =>
 if !r1 then
 some (0,6)
 else
 some (x0,0)
def Qau(N:Nat)(x0:Int)(x1:Int)(x2:Int):Option (Int×Int) :=
 (G4 N x0).bind fun r1 =>
 if((((!r1)||(decide (x1<0)))||(decide (x1>1099511627776)))||(decide (x2<1)))||(decide (x2>1099511627776))then
 some (0,6)
 else
 (Pv N (if(IntKind.wrap .i64 (0 - x0))>x0 then(IntKind.wrap .i64 (0 - x0))else x0) x1 x2).bind fun w2 =>
 (if decide (w2.2≥(IntKind.wrap .i64 (x2 - w2.2)))then
 some (IntKind.wrap .i64 (w2.1+1))
 else
 some w2.1:Option ((Int))).bind fun v4 =>
 (if decide (x0<0)then
 some (IntKind.wrap .i64 (0 - v4))
 else
 some v4:Option ((Int))).bind fun v5 =>
 (Na N v5).bind fun w6 =>
 some (w6.1,w6.2)
def Nb(N:Nat)(x0:Int)(x1:Int):Option (Int×Int) :=
 if(decide (x1<0))||(decide (x1>10000))then
 some (0,6)
 else
 (Qau N x0 x1 10000).bind fun w1 =>
 some (w1.1,w1.2)
def Oo(N:Nat)(x0:(List Qk))(x1:V4):(Int×Int×(List Q2))→Option ((Int×Int×(List Q2))⊕((Int×(List Q2))⊕(Int×Int))):=fun w3 =>
 if decide (w3.2.1<(List.length x0:Int))then
 ((idx x0 w3.2.1).bind fun x7 =>
 (Cs N x7 x1).bind fun r10 =>
 if !r10 then
 some (.inl (w3.1,w3.2.2))
 else
 (Nb N w3.1 x7.2.2).bind fun w11 =>
 if w11.2 != 0 then
 some (.inr (0,w11.2))
 else
 if w11.1 != 0 then
 (app 24 w3.2.2 ([(x7.1,w11.1)]:List Q2)).bind fun q13 =>
 some (.inl ((IntKind.wrap .i64 (w3.1 - w11.1)),q13))
 else
 some (.inl ((IntKind.wrap .i64 (w3.1 - w11.1)),w3.2.2)):Option ((Int×(List Q2))⊕(Int×Int))).bind fun
 | .inl w14 =>
  some (.inl (w14.1,(IntKind.wrap .i64 (w3.2.1+1)),w14.2))
 | .inr w16 =>
  some (.inr (.inr (w16.1,w16.2)))
 else
 some (.inr (.inl (w3.1,w3.2.2)))
def Nc(N:Nat)(x0:(List Qk))(x1:V4)(x2:Int):Option (Int×Int×(List Q2)) :=
 if(decide (x2<0))||(decide (x2>1125899906842624))then
 some (0,6,([]:List Q2))
 else
 (Qg (Oo N x0 x1) N (x2,0,([]:List Q2))).bind fun
 | .inl w18 =>
  some (w18.1,0,w18.2)
 | .inr w20 =>
  some (w20.1,w20.2,([]:List Q2))
def Fb(N:Nat)(cx:Qz)(dg:Qx)(cq:Qb)(g8:Q6)(g9:Qm)(gp:Ql)(du:Int)(dv:Qb)(dw:Int)(dy:Str)(dz:Int)(dl:Str)(g5:Int)(dx:Int)(dq:Int)(g6:Int)(g7:Int)(ce:(List Q9))(cd:(List Qo))(cg:(List Q2)):Option (Int×Qz×Qx×Qb×Q6×Qm×Ql×Int×Qb×Int×Str×Int×Str×Int×Int×Int×Int×Int×(List Q9)×(List Qo)×(List Q2)) :=
 (Ao N cx dg cq g8 g9 gp du dv dw dy dz dl g5 dx dq g6 g7 ce cd cg).bind fun r1 =>
 (Qc9 N dg.2.2 cq.2.2.2.1 cq.2.1 r1).bind fun r2 =>
 (Qit N gp.2.2.2.2.1 cx.2.2.2.2.1 cq.2.2.2.2.2.2.1).bind fun r3 =>
 (Li N cq dl r3 r2 g8.2.2.2.2).bind fun r4 =>
 (Nc N gp.2.2.2.2.2.2 r4 dx).bind fun w5 =>
 if w5.2.1 != 0 then
 some (w5.2.1,cx,dg,cq,g8,g9,gp,du,dv,dw,dy,dz,dl,g5,dx,dq,g6,g7,ce,cd,cg)
 else
 some (0,cx,dg,cq,g8,g9,gp,du,dv,dw,dy,dz,dl,g5,dx,w5.1,g6,g7,ce,cd,w5.2.2)
def Qg3(N:Nat)(ct:Qz)(cp:Qx)(cw:Qb)(dh:Q6)(di:Qm)(gc:Ql)(cy:Int)(cz:Qb)(d4:Int)(d5:Str)(d6:Int)(d7:Str)(d8:Int)(d9:Int)(da:Int)(db:Int)(de:Int)(cd:(List Q9))(cg:(List Qo))(ci:(List Q2)):Option (Int×Qz×Qx×Qb×Q6×Qm×Ql×Int×Qb×Int×Str×Int×Str×Int×Int×Int×Int×Int×(List Q9)×(List Qo)×(List Q2)) :=
 (Fb N ct cp cw dh di gc cy cz d4 d5 d6 d7 d8 d9 da db de cd cg ci).bind fun w1 =>
 some (w1.1,w1.2.1,w1.2.2.1,w1.2.2.2.1,w1.2.2.2.2.1,w1.2.2.2.2.2.1,w1.2.2.2.2.2.2.1,w1.2.2.2.2.2.2.2.1,w1.2.2.2.2.2.2.2.2.1,w1.2.2.2.2.2.2.2.2.2.1,w1.2.2.2.2.2.2.2.2.2.2.1,w1.2.2.2.2.2.2.2.2.2.2.2.1,w1.2.2.2.2.2.2.2.2.2.2.2.2.1,w1.2.2.2.2.2.2.2.2.2.2.2.2.2.1,w1.2.2.2.2.2.2.2.2.2.2.2.2.2.2.1,w1.2.2.2.2.2.2.2.2.2.2.2.2.2.2.2.1,w1.2.2.2.2.2.2.2.2.2.2.2.2.2.2.2.2.1,w1.2.2.2.2.2.2.2.2.2.2.2.2.2.2.2.2.2.1,w1.2.2.2.2.2.2.2.2.2.2.2.2.2.2.2.2.2.2.1,w1.2.2.2.2.2.2.2.2.2.2.2.2.2.2.2.2.2.2.2.1,w1.2.2.2.2.2.2.2.2.2.2.2.2.2.2.2.2.2.2.2.2)
def Pw(N:Nat)(ct:Qz)(cp:Qx)(cw:Qb)(dh:Q6)(di:Qm)(gc:Ql)(cy:Int)(cz:Qb)(d4:Int)(d5:Str)(d6:Int)(d7:Str)(d8:Int)(d9:Int)(da:Int)(db:Int)(de:Int)(cd:(List Q9))(cg:(List Qo))(ci:(List Q2))(cj:Int):Option (Qz×Qx×Qb×Q6×Qm×Ql×Int×Qb×Int×Str×Int×Str×Int×Int×Int×Int×Int×Int×(List Q9)×(List Qo)×(List Q2)) :=
 if cj==0 then
 (Qg3 N ct cp cw dh di gc cy cz d4 d5 d6 d7 d8 d9 da db de cd cg ci).bind fun w1 =>
 some (w1.2.1,w1.2.2.1,w1.2.2.2.1,w1.2.2.2.2.1,w1.2.2.2.2.2.1,w1.2.2.2.2.2.2.1,w1.2.2.2.2.2.2.2.1,w1.2.2.2.2.2.2.2.2.1,w1.2.2.2.2.2.2.2.2.2.1,w1.2.2.2.2.2.2.2.2.2.2.1,w1.2.2.2.2.2.2.2.2.2.2.2.1,w1.2.2.2.2.2.2.2.2.2.2.2.2.1,w1.2.2.2.2.2.2.2.2.2.2.2.2.2.1,w1.2.2.2.2.2.2.2.2.2.2.2.2.2.2.1,w1.2.2.2.2.2.2.2.2.2.2.2.2.2.2.2.1,w1.2.2.2.2.2.2.2.2.2.2.2.2.2.2.2.2.1,w1.2.2.2.2.2.2.2.2.2.2.2.2.2.2.2.2.2.1,w1.1,w1.2.2.2.2.2.2.2.2.2.2.2.2.2.2.2.2.2.2.1,w1.2.2.2.2.2.2.2.2.2.2.2.2.2.2.2.2.2.2.2.1,w1.2.2.2.2.2.2.2.2.2.2.2.2.2.2.2.2.2.2.2.2)
 else
 some (ct,cp,cw,dh,di,gc,cy,cz,d4,d5,d6,d7,d8,d9,da,db,de,cj,cd,cg,ci)
def Oq(N:Nat)(x0:Qp):Option (Int) :=
 (G5 N x0).bind fun r1 =>
 if r1 != 0 then
 some 0
 else
 some (IntKind.wrap .i64 ((IntKind.wrap .i64 (x0.2.1 - x0.2.2.2.1)) - x0.2.2.1))
def Qav(N:Nat)(x0:Qp)(x1:Int):Option (Qp×Int) :=
 (G5 N x0).bind fun r1 =>
 if r1 != 0 then
 (Vc N x0 r1).bind fun w2 =>
 some (w2.1,w2.2)
 else
 (Yq N x1 0 1125899906842624).bind fun r4 =>
 if !r4 then
 (Vc N x0 6).bind fun w5 =>
 some (w5.1,w5.2)
 else
 (Oq N x0).bind fun r7 =>
 if decide (x1>r7)then
 (Vc N x0 19).bind fun w8 =>
 some (w8.1,w8.2)
 else
 some ((x0.1,(IntKind.wrap .i64 (x0.2.1 - x1)),x0.2.2.1,x0.2.2.2.1,x0.2.2.2.2),0)
def Dq(N:Nat)(ca:(List Qp)):(Int×(List (Int×Int)))→Option ((Int×(List (Int×Int)))⊕(((List (Int×Int))))):=fun w2 =>
 if decide (w2.1<(List.length ca:Int))then
 ((idx ca w2.1).bind fun _ =>
 (idx ca w2.1).bind fun x5 =>
 if !(Qr (k:=(.int .i64)) x5.1 w2.2).isSome then
 some (J9 (k:=(.int .i64)) x5.1 w2.1 w2.2)
 else
 some w2.2:Option (((List (Int×Int))))).bind fun v6 =>
 some (.inl ((IntKind.wrap .i64 (w2.1+1)),v6))
 else
 some (.inr w2.2)
def Ap(N:Nat)(ca:(List Qp)):Option ((List (Int×Int))) :=
 (Qg (Dq N ca) N (0,([]:List (Int×Int)))).bind fun v7 =>
 some v7
def Qdb(N:Nat)(x0:Qx)(x1:Int)(x2:Int)(x3:Bool):Option (Int×Int×(List Qd)×(List Qp)×(List Qi)) :=
 (Hz N x0).bind fun w1 =>
 (Ap N w1.2.1).bind fun r4 =>
 if((!x3)||(decide (x2≤0)))||(!(Qr (k:=(.int .i64)) x1 r4).isSome)then
 some (0,x2,w1.1,w1.2.1,w1.2.2)
 else
 (idx w1.2.1 ((Qr (k:=(.int .i64)) x1 r4).getD 0)).bind fun _ =>
 (idx w1.2.1 ((Qr (k:=(.int .i64)) x1 r4).getD 0)).bind fun x5 =>
 (Oq N x5).bind fun r6 =>
 (idx w1.2.1 ((Qr (k:=(.int .i64)) x1 r4).getD 0)).bind fun _ =>
 (idx w1.2.1 ((Qr (k:=(.int .i64)) x1 r4).getD 0)).bind fun x7 =>
 (Qav N x7 (if 1125899906842624<(if r6<x2 then r6 else x2)then 1125899906842624 else(if r6<x2 then r6 else x2))).bind fun w8 =>
 if w8.2 != 0 then
 some (0,x2,w1.1,w1.2.1,w1.2.2)
 else
 (idx w1.2.1 ((Qr (k:=(.int .i64)) x1 r4).getD 0)).bind fun _ =>
 (idx w1.2.1 ((Qr (k:=(.int .i64)) x1 r4).getD 0)).bind fun y10 =>
 some ((if 1125899906842624<(if r6<x2 then r6 else x2)then 1125899906842624 else(if r6<x2 then r6 else x2)),(IntKind.wrap .i64 (x2 - (if 1125899906842624<(if r6<x2 then r6 else x2)then 1125899906842624 else(if r6<x2 then r6 else x2)))),w1.1,(List.set w1.2.1 (Int.toNat ((Qr (k:=(.int .i64)) x1 r4).getD 0)) w8.1),w1.2.2)
def Sq(N:Nat)(x0:Int):(Int)→Option ((Int)⊕((Unit)⊕(Bool))):=fun v1 =>
 if decide (v1<4)then
 (idx ([1,2,3,4]:List Int) v1).bind fun x2 =>
 if x2==x0 then
 some (.inr (.inr true))
 else
 some (.inl (IntKind.wrap .i64 (v1+1)))
 else
 some (.inr (.inl ()))
def Px(N:Nat)(x0:Int):Option (Bool) :=
 (Qg (Sq N x0) N 0).bind fun
 | .inl _ =>
  some false
 | .inr v3 =>
  some v3
def Wq(N:Nat)(x0:Qi):Option (Bool) :=
 (if(decide (x0.1≥1))&&(decide (x0.1≤9999))then
 (Px N x0.2.1).bind fun r2 =>
 some r2
 else
 some false:Option (Bool)).bind fun v3 =>
 some ((v3&&(decide (x0.2.2.1≥0)))&&(decide (x0.2.2.1<12622780800)))
def Gm(N:Nat)(x0:Qi):Option (Bool) :=
 some ((((decide (x0.2.2.2.1≥0))&&(decide (x0.2.2.2.1≤1125899906842624)))&&(decide (x0.2.2.2.2≥0)))&&(decide (x0.2.2.2.2≤1125899906842624)))
def Sr(N:Nat)(x0:(List Qi)):(Int)→Option ((Int)⊕((Unit)⊕(Bool))):=fun v1 =>
 if decide (v1<(List.length x0:Int))then
 (idx x0 v1).bind fun x2 =>
 (Wq N x2).bind fun r3 =>
 (if !r3 then
 some true
 else
 (Gm N x2).bind fun r5 =>
 some (!r5):Option (Bool)).bind fun v6 =>
 if v6||((x2.2.2.2.1==0)&&(x2.2.2.2.2==0))then
 some (.inr (.inr false))
 else
 (if decide (v1>0)then
 (idx x0 (IntKind.wrap .i64 (v1 - 1))).bind fun x7 =>
 (Xu N x7 x2).bind fun r8 =>
 some (decide (r8≥0))
 else
 some false:Option ((Bool))).bind fun v9 =>
 if v9 then
 some (.inr (.inr false))
 else
 some (.inl (IntKind.wrap .i64 (v1+1)))
 else
 some (.inr (.inl ()))
def Py(N:Nat)(x0:(List Qi)):Option (Bool) :=
 (Qg (Sr N x0) N 0).bind fun
 | .inl _ =>
  some true
 | .inr v10 =>
  some v10
def Ss(N:Nat)(ca:(List Qi))(ce:Qi):(Int)→Option ((Int)⊕((Unit)⊕(Int×Int))):=fun v1 =>
 if decide (v1<(List.length ca:Int))then
 (idx ca v1).bind fun x2 =>
 (Xu N x2 ce).bind fun r3 =>
 if r3==0 then
 some (.inr (.inr (v1,(IntKind.wrap .i64 (v1+1)))))
 else
 if r3==1 then
 some (.inr (.inr (v1,v1)))
 else
 some (.inl (IntKind.wrap .i64 (v1+1)))
 else
 some (.inr (.inl ()))
def Pz(N:Nat)(ca:(List Qi))(ce:Qi):Option (Int×Int) :=
 (Qg (Ss N ca ce) N 0).bind fun
 | .inl _ =>
  some ((List.length ca:Int),(List.length ca:Int))
 | .inr w4 =>
  some (w4.1,w4.2)
def Qdc(N:Nat)(x0:(List Qi))(x1:Qi):Option (Int×(List Qi)) :=
 (Py N x0).bind fun r1 =>
 (if !r1 then
 some true
 else
 (Wq N x1).bind fun r3 =>
 some (!r3):Option (Bool)).bind fun v4 =>
 if v4 then
 some (8,([]:List Qi))
 else
 (Gm N x1).bind fun r5 =>
 if !r5 then
 some (6,([]:List Qi))
 else
 (Pz N x0 x1).bind fun w6 =>
 (if decide (w6.2>w6.1)then
 (idx x0 w6.1).bind fun x10 =>
 (idx x0 w6.1).bind fun x11 =>
 some (x1.1,x1.2.1,x1.2.2.1,(IntKind.wrap .i64 (x1.2.2.2.1+x10.2.2.2.1)),(IntKind.wrap .i64 (x1.2.2.2.2+x11.2.2.2.2)))
 else
 some x1:Option ((Qi))).bind fun v12 =>
 (Gm N v12).bind fun r13 =>
 if !r13 then
 some (6,([]:List Qi))
 else
 (slc x0 0 w6.1).bind fun s14 =>
 (app 40 ([]:List Qi) s14).bind fun q15 =>
 (if(v12.2.2.2.1 != 0)||(v12.2.2.2.2 != 0)then
 (app 40 q15 ([v12]:List Qi)).bind fun q17 =>
 some q17
 else
 some q15:Option (((List Qi)))).bind fun v18 =>
 (slc x0 w6.2 (List.length x0:Int)).bind fun s19 =>
 (app 40 v18 s19).bind fun q20 =>
 some (0,q20)
def Qaw(N:Nat)(cx:Qz)(dg:Qx)(cq:Qb)(g8:Q6)(g9:Qm)(gp:Ql)(du:Int)(dv:Qb)(dw:Int)(dy:Str)(dz:Int)(dl:Str)(g5:Int)(dx:Int)(dq:Int)(g6:Int)(g7:Int)(ce:(List Q9))(cd:(List Qo))(cg:(List Q2)):Option (Int×Qz×(List Qd)×(List Qp)×(List Qi)×Qb×Q6×Qm×Ql×Int×Qb×Int×Str×Int×Str×Int×Int×Int×Int×Int×(List Q9)×(List Qo)×(List Q2)) :=
 (Qdb N dg cq.2.2.1 dq g9.2.2.2.1).bind fun w1 =>
 (Ao N cx dg cq g8 g9 gp du dv dw dy dz dl g5 dx dq g6 g7 ce cd cg).bind fun r8 =>
 (Qdc N w1.2.2.2.2 (cq.2.2.2.1,cq.2.1,r8,cq.2.2.2.2.2.2.2.1,dq)).bind fun w9 =>
 if w9.1 != 0 then
 some (w9.1,cx,dg.1,dg.2.1,dg.2.2,cq,g8,g9,gp,du,dv,dw,dy,dz,dl,g5,dx,dq,g6,g7,ce,cd,cg)
 else
 some (0,cx,w1.2.2.1,w1.2.2.2.1,w9.2,cq,g8,g9,gp,du,dv,dw,dy,dz,dl,g5,dx,dq,w1.1,w1.2.1,ce,cd,cg)
def Qg4(N:Nat)(ct:Qz)(cp:Qx)(cw:Qb)(dh:Q6)(di:Qm)(gc:Ql)(cy:Int)(cz:Qb)(d4:Int)(d5:Str)(d6:Int)(d7:Str)(d8:Int)(d9:Int)(da:Int)(db:Int)(de:Int)(cd:(List Q9))(cg:(List Qo))(ci:(List Q2)):Option (Int×Qz×Qx×Qb×Q6×Qm×Ql×Int×Qb×Int×Str×Int×Str×Int×Int×Int×Int×Int×(List Q9)×(List Qo)×(List Q2)) :=
 (Qaw N ct cp cw dh di gc cy cz d4 d5 d6 d7 d8 d9 da db de cd cg ci).bind fun w1 =>
 some (w1.1,w1.2.1,(w1.2.2.1,w1.2.2.2.1,w1.2.2.2.2.1),w1.2.2.2.2.2.1,w1.2.2.2.2.2.2.1,w1.2.2.2.2.2.2.2.1,w1.2.2.2.2.2.2.2.2.1,w1.2.2.2.2.2.2.2.2.2.1,w1.2.2.2.2.2.2.2.2.2.2.1,w1.2.2.2.2.2.2.2.2.2.2.2.1,w1.2.2.2.2.2.2.2.2.2.2.2.2.1,w1.2.2.2.2.2.2.2.2.2.2.2.2.2.1,w1.2.2.2.2.2.2.2.2.2.2.2.2.2.2.1,w1.2.2.2.2.2.2.2.2.2.2.2.2.2.2.2.1,w1.2.2.2.2.2.2.2.2.2.2.2.2.2.2.2.2.1,w1.2.2.2.2.2.2.2.2.2.2.2.2.2.2.2.2.2.1,w1.2.2.2.2.2.2.2.2.2.2.2.2.2.2.2.2.2.2.1,w1.2.2.2.2.2.2.2.2.2.2.2.2.2.2.2.2.2.2.2.1,w1.2.2.2.2.2.2.2.2.2.2.2.2.2.2.2.2.2.2.2.2.1,w1.2.2.2.2.2.2.2.2.2.2.2.2.2.2.2.2.2.2.2.2.2.1,w1.2.2.2.2.2.2.2.2.2.2.2.2.2.2.2.2.2.2.2.2.2.2)
def P0(N:Nat)(ct:Qz)(cp:Qx)(cw:Qb)(dh:Q6)(di:Qm)(gc:Ql)(cy:Int)(cz:Qb)(d4:Int)(d5:Str)(d6:Int)(d7:Str)(d8:Int)(d9:Int)(da:Int)(db:Int)(de:Int)(cd:(List Q9))(cg:(List Qo))(ci:(List Q2))(cj:Int):Option (Qz×Qx×Qb×Q6×Qm×Ql×Int×Qb×Int×Str×Int×Str×Int×Int×Int×Int×Int×Int×(List Q9)×(List Qo)×(List Q2)) :=
 if cj==0 then
 (Qg4 N ct cp cw dh di gc cy cz d4 d5 d6 d7 d8 d9 da db de cd cg ci).bind fun w1 =>
 some (w1.2.1,w1.2.2.1,w1.2.2.2.1,w1.2.2.2.2.1,w1.2.2.2.2.2.1,w1.2.2.2.2.2.2.1,w1.2.2.2.2.2.2.2.1,w1.2.2.2.2.2.2.2.2.1,w1.2.2.2.2.2.2.2.2.2.1,w1.2.2.2.2.2.2.2.2.2.2.1,w1.2.2.2.2.2.2.2.2.2.2.2.1,w1.2.2.2.2.2.2.2.2.2.2.2.2.1,w1.2.2.2.2.2.2.2.2.2.2.2.2.2.1,w1.2.2.2.2.2.2.2.2.2.2.2.2.2.2.1,w1.2.2.2.2.2.2.2.2.2.2.2.2.2.2.2.1,w1.2.2.2.2.2.2.2.2.2.2.2.2.2.2.2.2.1,w1.2.2.2.2.2.2.2.2.2.2.2.2.2.2.2.2.2.1,w1.1,w1.2.2.2.2.2.2.2.2.2.2.2.2.2.2.2.2.2.2.1,w1.2.2.2.2.2.2.2.2.2.2.2.2.2.2.2.2.2.2.2.1,w1.2.2.2.2.2.2.2.2.2.2.2.2.2.2.2.2.2.2.2.2)
 else
 some (ct,cp,cw,dh,di,gc,cy,cz,d4,d5,d6,d7,d8,d9,da,db,de,cj,cd,cg,ci)
def Nd(N:Nat)(x0:Qz)(x1:Qx)(x2:Qb):Option ((List Qd)×(List Qp)×(List Qi)×Qb×Int×Str×Int×Str×Int×Int×Int×Int×Int×(List Q9)×(List Qo)×(List Q2)) :=
 if x2.2.2.2.2.2.2.2.2.2.1||(x2.2.2.2.2.2.2.2.1==0)then
 (Qad N x1).bind fun w1 =>
 some (w1.1,w1.2.1,w1.2.2,x2,0,([]:Str),0,([]:Str),0,0,0,0,0,([]:List Q9),([]:List Qo),([]:List Q2))
 else
 (Qgw N x0 x1 x2 (0,0) ([]:Str) false false 0 0 0 false false ([]:Str) 0 false 0 x2 0 ([]:Str) 0 ([]:Str) 0 0 0 0 0 ([]:List Str) ([]:List Int) ([]:List Qq) ([]:List Qt) ([]:List Jd) ([]:List Qk) ([]:List Q9) ([]:List Qo) ([]:List Q2) 0).bind fun w4 =>
 (Pg N w4.1 w4.2.1 w4.2.2.1 (w4.2.2.2.1,w4.2.2.2.2.1,w4.2.2.2.2.2.1,w4.2.2.2.2.2.2.1,w4.2.2.2.2.2.2.2.1) (w4.2.2.2.2.2.2.2.2.1,w4.2.2.2.2.2.2.2.2.2.1,w4.2.2.2.2.2.2.2.2.2.2.1,w4.2.2.2.2.2.2.2.2.2.2.2.1,w4.2.2.2.2.2.2.2.2.2.2.2.2.1,w4.2.2.2.2.2.2.2.2.2.2.2.2.2.1) w4.2.2.2.2.2.2.2.2.2.2.2.2.2.2.1 w4.2.2.2.2.2.2.2.2.2.2.2.2.2.2.2.1 w4.2.2.2.2.2.2.2.2.2.2.2.2.2.2.2.2.1 w4.2.2.2.2.2.2.2.2.2.2.2.2.2.2.2.2.2.1 w4.2.2.2.2.2.2.2.2.2.2.2.2.2.2.2.2.2.2.1 w4.2.2.2.2.2.2.2.2.2.2.2.2.2.2.2.2.2.2.2.1 w4.2.2.2.2.2.2.2.2.2.2.2.2.2.2.2.2.2.2.2.2.1 w4.2.2.2.2.2.2.2.2.2.2.2.2.2.2.2.2.2.2.2.2.2.1 w4.2.2.2.2.2.2.2.2.2.2.2.2.2.2.2.2.2.2.2.2.2.2.1 w4.2.2.2.2.2.2.2.2.2.2.2.2.2.2.2.2.2.2.2.2.2.2.2.1 w4.2.2.2.2.2.2.2.2.2.2.2.2.2.2.2.2.2.2.2.2.2.2.2.2.1 w4.2.2.2.2.2.2.2.2.2.2.2.2.2.2.2.2.2.2.2.2.2.2.2.2.2.1 w4.2.2.2.2.2.2.2.2.2.2.2.2.2.2.2.2.2.2.2.2.2.2.2.2.2.2.1 w4.2.2.2.2.2.2.2.2.2.2.2.2.2.2.2.2.2.2.2.2.2.2.2.2.2.2.2.1 w4.2.2.2.2.2.2.2.2.2.2.2.2.2.2.2.2.2.2.2.2.2.2.2.2.2.2.2.2.2.1 w4.2.2.2.2.2.2.2.2.2.2.2.2.2.2.2.2.2.2.2.2.2.2.2.2.2.2.2.2.2.2.1 w4.2.2.2.2.2.2.2.2.2.2.2.2.2.2.2.2.2.2.2.2.2.2.2.2.2.2.2.2.2.2.2.1 w4.2.2.2.2.2.2.2.2.2.2.2.2.2.2.2.2.2.2.2.2.2.2.2.2.2.2.2.2.2.2.2.2.1 w4.2.2.2.2.2.2.2.2.2.2.2.2.2.2.2.2.2.2.2.2.2.2.2.2.2.2.2.2.2.2.2.2.2.1 w4.2.2.2.2.2.2.2.2.2.2.2.2.2.2.2.2.2.2.2.2.2.2.2.2.2.2.2.2.2.2.2.2.2.2.1 w4.2.2.2.2.2.2.2.2.2.2.2.2.2.2.2.2.2.2.2.2.2.2.2.2.2.2.2.2.2.2.2.2.2.2.2 w4.2.2.2.2.2.2.2.2.2.2.2.2.2.2.2.2.2.2.2.2.2.2.2.2.2.2.2.2.1).bind fun w40 =>
 (Pu N w40.1 w40.2.1 w40.2.2.1 w40.2.2.2.1 w40.2.2.2.2.1 w40.2.2.2.2.2.1 w40.2.2.2.2.2.2.1 w40.2.2.2.2.2.2.2.1 w40.2.2.2.2.2.2.2.2.1 w40.2.2.2.2.2.2.2.2.2.1 w40.2.2.2.2.2.2.2.2.2.2.1 w40.2.2.2.2.2.2.2.2.2.2.2.1 w40.2.2.2.2.2.2.2.2.2.2.2.2.1 w40.2.2.2.2.2.2.2.2.2.2.2.2.2.1 w40.2.2.2.2.2.2.2.2.2.2.2.2.2.2.1 w40.2.2.2.2.2.2.2.2.2.2.2.2.2.2.2.1 w40.2.2.2.2.2.2.2.2.2.2.2.2.2.2.2.2.1 w40.2.2.2.2.2.2.2.2.2.2.2.2.2.2.2.2.2.1 w40.2.2.2.2.2.2.2.2.2.2.2.2.2.2.2.2.2.2.1 w40.2.2.2.2.2.2.2.2.2.2.2.2.2.2.2.2.2.2.2.1 w40.2.2.2.2.2.2.2.2.2.2.2.2.2.2.2.2.2.2.2.2.2.1 w40.2.2.2.2.2.2.2.2.2.2.2.2.2.2.2.2.2.2.2.2.2.2.1 w40.2.2.2.2.2.2.2.2.2.2.2.2.2.2.2.2.2.2.2.2.2.2.2.1 w40.2.2.2.2.2.2.2.2.2.2.2.2.2.2.2.2.2.2.2.2.2.2.2.2.1 w40.2.2.2.2.2.2.2.2.2.2.2.2.2.2.2.2.2.2.2.2.2.2.2.2.2.1 w40.2.2.2.2.2.2.2.2.2.2.2.2.2.2.2.2.2.2.2.2.2.2.2.2.2.2 w40.2.2.2.2.2.2.2.2.2.2.2.2.2.2.2.2.2.2.2.2.1).bind fun w67 =>
 (Pw N w67.1 (w67.2.1,w67.2.2.1,w67.2.2.2.1) w67.2.2.2.2.1 w67.2.2.2.2.2.1 w67.2.2.2.2.2.2.1 (w67.2.2.2.2.2.2.2.1,w67.2.2.2.2.2.2.2.2.1,w67.2.2.2.2.2.2.2.2.2.1,w67.2.2.2.2.2.2.2.2.2.2.1,w67.2.2.2.2.2.2.2.2.2.2.2.1,w67.2.2.2.2.2.2.2.2.2.2.2.2.1,w67.2.2.2.2.2.2.2.2.2.2.2.2.2.1) w67.2.2.2.2.2.2.2.2.2.2.2.2.2.2.1 w67.2.2.2.2.2.2.2.2.2.2.2.2.2.2.2.1 w67.2.2.2.2.2.2.2.2.2.2.2.2.2.2.2.2.1 w67.2.2.2.2.2.2.2.2.2.2.2.2.2.2.2.2.2.1 w67.2.2.2.2.2.2.2.2.2.2.2.2.2.2.2.2.2.2.1 w67.2.2.2.2.2.2.2.2.2.2.2.2.2.2.2.2.2.2.2.1 w67.2.2.2.2.2.2.2.2.2.2.2.2.2.2.2.2.2.2.2.2.1 w67.2.2.2.2.2.2.2.2.2.2.2.2.2.2.2.2.2.2.2.2.2.1 w67.2.2.2.2.2.2.2.2.2.2.2.2.2.2.2.2.2.2.2.2.2.2.1 w67.2.2.2.2.2.2.2.2.2.2.2.2.2.2.2.2.2.2.2.2.2.2.2.1 w67.2.2.2.2.2.2.2.2.2.2.2.2.2.2.2.2.2.2.2.2.2.2.2.2.1 w67.2.2.2.2.2.2.2.2.2.2.2.2.2.2.2.2.2.2.2.2.2.2.2.2.2.2.1 w67.2.2.2.2.2.2.2.2.2.2.2.2.2.2.2.2.2.2.2.2.2.2.2.2.2.2.2.1 w67.2.2.2.2.2.2.2.2.2.2.2.2.2.2.2.2.2.2.2.2.2.2.2.2.2.2.2.2 w67.2.2.2.2.2.2.2.2.2.2.2.2.2.2.2.2.2.2.2.2.2.2.2.2.2.1).bind fun w96 =>
 (P0 N w96.1 w96.2.1 w96.2.2.1 w96.2.2.2.1 w96.2.2.2.2.1 w96.2.2.2.2.2.1 w96.2.2.2.2.2.2.1 w96.2.2.2.2.2.2.2.1 w96.2.2.2.2.2.2.2.2.1 w96.2.2.2.2.2.2.2.2.2.1 w96.2.2.2.2.2.2.2.2.2.2.1 w96.2.2.2.2.2.2.2.2.2.2.2.1 w96.2.2.2.2.2.2.2.2.2.2.2.2.1 w96.2.2.2.2.2.2.2.2.2.2.2.2.2.1 w96.2.2.2.2.2.2.2.2.2.2.2.2.2.2.1 w96.2.2.2.2.2.2.2.2.2.2.2.2.2.2.2.1 w96.2.2.2.2.2.2.2.2.2.2.2.2.2.2.2.2.1 w96.2.2.2.2.2.2.2.2.2.2.2.2.2.2.2.2.2.2.1 w96.2.2.2.2.2.2.2.2.2.2.2.2.2.2.2.2.2.2.2.1 w96.2.2.2.2.2.2.2.2.2.2.2.2.2.2.2.2.2.2.2.2 w96.2.2.2.2.2.2.2.2.2.2.2.2.2.2.2.2.2.1).bind fun w117 =>
 if w117.2.2.2.2.2.2.2.2.2.2.2.2.2.2.2.2.2.1 != 0 then
 (Qad N x1).bind fun w138 =>
 some (w138.1,w138.2.1,w138.2.2,x2,w117.2.2.2.2.2.2.2.2.2.2.2.2.2.2.2.2.2.1,([]:Str),0,([]:Str),0,0,0,0,0,([]:List Q9),([]:List Qo),([]:List Q2))
 else
 some (w117.2.1.1,w117.2.1.2.1,w117.2.1.2.2,w117.2.2.2.2.2.2.2.1,w117.2.2.2.2.2.2.2.2.1,w117.2.2.2.2.2.2.2.2.2.1,w117.2.2.2.2.2.2.2.2.2.2.1,w117.2.2.2.2.2.2.2.2.2.2.2.1,w117.2.2.2.2.2.2.2.2.2.2.2.2.1,w117.2.2.2.2.2.2.2.2.2.2.2.2.2.1,w117.2.2.2.2.2.2.2.2.2.2.2.2.2.2.1,w117.2.2.2.2.2.2.2.2.2.2.2.2.2.2.2.1,w117.2.2.2.2.2.2.2.2.2.2.2.2.2.2.2.2.1,w117.2.2.2.2.2.2.2.2.2.2.2.2.2.2.2.2.2.2.1,w117.2.2.2.2.2.2.2.2.2.2.2.2.2.2.2.2.2.2.2.1,w117.2.2.2.2.2.2.2.2.2.2.2.2.2.2.2.2.2.2.2.2)
def Hb(N:Nat)(self:Qj →  Option (Qj))(x0:Qj):(Int×Int×Int×Str×(List Qj))→Option ((Int×Int×Int×Str×(List Qj))⊕((Int×Int×Str×(List Qj)))):=fun w6 =>
 if decide (w6.1<(List.length x0.ks:Int))then
 (idx x0.ks w6.1).bind fun x11 =>
 (self x11).bind fun r12 =>
 (app 56 w6.2.2.2.2 ([r12]:List Qj)).bind fun q13 =>
 some (.inl ((IntKind.wrap .i64 (w6.1+1)),w6.2.1,w6.2.2.1,w6.2.2.2.1,q13))
 else
 some (.inr (w6.2.1,w6.2.2.1,w6.2.2.2.1,w6.2.2.2.2))
def J2(N:Nat):Nat→Qj→Option (Qj)
 | 0,_=>none
 | n+1,x0 =>
  (Qg (Hb N (J2 N n) x0) N (0,x0.x.1,x0.x.2.1,x0.x.2.2,([]:List Qj))).bind fun w14 =>
  some (Ki.mk (w14.1,w14.2.1,w14.2.2.1) w14.2.2.2)
def Aq(N:Nat)(x0:Qj):Option (Qj):=J2 N N x0
def Wr(N:Nat)(x0:Ql):(Int×Str×Int×Bool×(List Qq))→Option ((Int×Str×Int×Bool×(List Qq))⊕((Str×Int×Bool×(List Qq)))):=fun w6 =>
 if decide (w6.1<(List.length x0.2.2.2.1:Int))then
 (idx x0.2.2.2.1 w6.1).bind fun x11 =>
 (idx x0.2.2.2.1 w6.1).bind fun x12 =>
 (app 16 ([]:List Str) x12.2).bind fun q13 =>
 (app 40 w6.2.2.2.2 ([(x11.1,q13)]:List Qq)).bind fun q14 =>
 some (.inl ((IntKind.wrap .i64 (w6.1+1)),w6.2.1,w6.2.2.1,w6.2.2.2.1,q14))
 else
 some (.inr (w6.2.1,w6.2.2.1,w6.2.2.2.1,w6.2.2.2.2))
def Ws(N:Nat)(x0:Ql):(Int×Str×Int×Bool×(List Qq)×(List Qt))→Option ((Int×Str×Int×Bool×(List Qq)×(List Qt))⊕((Str×Int×Bool×(List Qq)×(List Qt)))):=fun w25 =>
 if decide (w25.1<(List.length x0.2.2.2.2.1:Int))then
 (idx x0.2.2.2.2.1 w25.1).bind fun x31 =>
 (idx x0.2.2.2.2.1 w25.1).bind fun x32 =>
 (app 24 ([]:List Kc) x32.2).bind fun q33 =>
 (app 40 w25.2.2.2.2.2 ([(x31.1,q33)]:List Qt)).bind fun q34 =>
 some (.inl ((IntKind.wrap .i64 (w25.1+1)),w25.2.1,w25.2.2.1,w25.2.2.2.1,w25.2.2.2.2.1,q34))
 else
 some (.inr (w25.2.1,w25.2.2.1,w25.2.2.2.1,w25.2.2.2.2.1,w25.2.2.2.2.2))
def Wt(N:Nat)(x0:Ql):(Int×Str×Int×Bool×(List Qq)×(List Qt)×(List Jd))→Option ((Int×Str×Int×Bool×(List Qq)×(List Qt)×(List Jd))⊕((Str×Int×Bool×(List Qq)×(List Qt)×(List Jd)))):=fun w47 =>
 if decide (w47.1<(List.length x0.2.2.2.2.2.1:Int))then
 (idx x0.2.2.2.2.2.1 w47.1).bind fun x54 =>
 (app 24 ([]:List Vs) x54.2.2.2.2).bind fun q55 =>
 (app 72 w47.2.2.2.2.2.2 ([(x54.1,x54.2.1,x54.2.2.1,x54.2.2.2.1,q55)]:List Jd)).bind fun q56 =>
 some (.inl ((IntKind.wrap .i64 (w47.1+1)),w47.2.1,w47.2.2.1,w47.2.2.2.1,w47.2.2.2.2.1,w47.2.2.2.2.2.1,q56))
 else
 some (.inr (w47.2.1,w47.2.2.1,w47.2.2.2.1,w47.2.2.2.2.1,w47.2.2.2.2.2.1,w47.2.2.2.2.2.2))
def Wu(N:Nat)(x0:Ql):(Int×Str×Int×Bool×(List Qq)×(List Qt)×(List Jd)×(List Qk))→Option ((Int×Str×Int×Bool×(List Qq)×(List Qt)×(List Jd)×(List Qk))⊕((Str×Int×Bool×(List Qq)×(List Qt)×(List Jd)×(List Qk)))):=fun w71 =>
 if decide (w71.1<(List.length x0.2.2.2.2.2.2:Int))then
 (idx x0.2.2.2.2.2.2 w71.1).bind fun x79 =>
 (Aq N x79.2.1).bind fun r80 =>
 (app 80 w71.2.2.2.2.2.2.2 ([(x79.1,r80,x79.2.2)]:List Qk)).bind fun q81 =>
 some (.inl ((IntKind.wrap .i64 (w71.1+1)),w71.2.1,w71.2.2.1,w71.2.2.2.1,w71.2.2.2.2.1,w71.2.2.2.2.2.1,w71.2.2.2.2.2.2.1,q81))
 else
 some (.inr (w71.2.1,w71.2.2.1,w71.2.2.2.1,w71.2.2.2.2.1,w71.2.2.2.2.2.1,w71.2.2.2.2.2.2.1,w71.2.2.2.2.2.2.2))
def Z9(N:Nat)(x0:Ql):Option (Str×Int×Bool×(List Qq)×(List Qt)×(List Jd)×(List Qk)) :=
 (Qg (Wr N x0) N (0,x0.1,x0.2.1,x0.2.2.1,([]:List Qq))).bind fun w15 =>
 (Qg (Ws N x0) N (0,w15.1,w15.2.1,w15.2.2.1,w15.2.2.2,([]:List Qt))).bind fun w35 =>
 (Qg (Wt N x0) N (0,w35.1,w35.2.1,w35.2.2.1,w35.2.2.2.1,w35.2.2.2.2,([]:List Jd))).bind fun w57 =>
 (Qg (Wu N x0) N (0,w57.1,w57.2.1,w57.2.2.1,w57.2.2.2.1,w57.2.2.2.2.1,w57.2.2.2.2.2,([]:List Qk))).bind fun w82 =>
 some (w82.1,w82.2.1,w82.2.2.1,w82.2.2.2.1,w82.2.2.2.2.1,w82.2.2.2.2.2.1,w82.2.2.2.2.2.2)
def Hc(N:Nat)(x0:Qz):(Int×(List Qv)×(List Ql)×(List Kp)×(List Int))→Option ((Int×(List Qv)×(List Ql)×(List Kp)×(List Int))⊕(((List Qv)×(List Ql)×(List Kp)×(List Int)))):=fun w9 =>
 if decide (w9.1<(List.length x0.2.1:Int))then
 (idx x0.2.1 w9.1).bind fun x14 =>
 (Z9 N x14).bind fun w20 =>
 (app 128 w9.2.2.1 ([(w20.1,w20.2.1,w20.2.2.1,w20.2.2.2.1,w20.2.2.2.2.1,w20.2.2.2.2.2.1,w20.2.2.2.2.2.2)]:List Ql)).bind fun q27 =>
 some (.inl ((IntKind.wrap .i64 (w9.1+1)),w9.2.1,q27,w9.2.2.2.1,w9.2.2.2.2))
 else
 some (.inr (w9.2.1,w9.2.2.1,w9.2.2.2.1,w9.2.2.2.2))
def Hd(N:Nat)(x0:Qz)(v52:Int):(Int×Str×Int×Int×Str×Bool×(List J4))→Option ((Int×Str×Int×Int×Str×Bool×(List J4))⊕((Str×Int×Int×Str×Bool×(List J4)))):=fun w91 =>
 (idx x0.2.2.1 v52).bind fun x98 =>
 if decide (w91.1<(List.length x98.2.2.2.2.2:Int))then
 (idx x0.2.2.1 v52).bind fun x99 =>
 (idx x99.2.2.2.2.2 w91.1).bind fun x100 =>
 (app 16 ([]:List Str) x100.2.1).bind fun q101 =>
 (app 64 w91.2.2.2.2.2.2 ([(x100.1,q101,x100.2.2.1,x100.2.2.2.1,x100.2.2.2.2.1,x100.2.2.2.2.2)]:List J4)).bind fun q102 =>
 some (.inl ((IntKind.wrap .i64 (w91.1+1)),w91.2.1,w91.2.2.1,w91.2.2.2.1,w91.2.2.2.2.1,w91.2.2.2.2.2.1,q102))
 else
 some (.inr (w91.2.1,w91.2.2.1,w91.2.2.2.1,w91.2.2.2.2.1,w91.2.2.2.2.2.1,w91.2.2.2.2.2.2))
def He(N:Nat)(x0:Qz):(Int×(List Qv)×(List Ql)×(List Qn)×(List Kp)×(List Int))→Option ((Int×(List Qv)×(List Ql)×(List Qn)×(List Kp)×(List Int))⊕(((List Qv)×(List Ql)×(List Qn)×(List Kp)×(List Int)))):=fun w52 =>
 if decide (w52.1<(List.length x0.2.2.1:Int))then
 (idx x0.2.2.1 w52.1).bind fun x78 =>
 (Qg (Hd N x0 w52.1) N (0,x78.1,x78.2.1,x78.2.2.1,x78.2.2.2.1,x78.2.2.2.2.1,([]:List J4))).bind fun w103 =>
 (app 80 w52.2.2.2.1 ([(w103.1,w103.2.1,w103.2.2.1,w103.2.2.2.1,w103.2.2.2.2.1,w103.2.2.2.2.2)]:List Qn)).bind fun q109 =>
 some (.inl ((IntKind.wrap .i64 (w52.1+1)),w52.2.1,w52.2.2.1,q109,w52.2.2.2.2.1,w52.2.2.2.2.2))
 else
 some (.inr (w52.2.1,w52.2.2.1,w52.2.2.2.1,w52.2.2.2.2.1,w52.2.2.2.2.2))
def Hf(N:Nat)(x0:Qz):(Int×(List Qv)×(List Ql)×(List Qn)×(List Kp)×(List Int)×(List Yh))→Option ((Int×(List Qv)×(List Ql)×(List Qn)×(List Kp)×(List Int)×(List Yh))⊕(((List Qv)×(List Ql)×(List Qn)×(List Kp)×(List Int)×(List Yh)))):=fun w122 =>
 if decide (w122.1<(List.length x0.2.2.2.2.2:Int))then
 (idx x0.2.2.2.2.2 w122.1).bind fun x129 =>
 (app 24 ([]:List Vs) x129.2.2.2.2.1).bind fun q130 =>
 (app 72 w122.2.2.2.2.2.2 ([(x129.1,x129.2.1,x129.2.2.1,x129.2.2.2.1,q130,x129.2.2.2.2.2)]:List Yh)).bind fun q131 =>
 some (.inl ((IntKind.wrap .i64 (w122.1+1)),w122.2.1,w122.2.2.1,w122.2.2.2.1,w122.2.2.2.2.1,w122.2.2.2.2.2.1,q131))
 else
 some (.inr (w122.2.1,w122.2.2.1,w122.2.2.2.1,w122.2.2.2.2.1,w122.2.2.2.2.2.1,w122.2.2.2.2.2.2))
def Vj(N:Nat)(x0:Qz):Option ((List Qv)×(List Ql)×(List Qn)×(List Kp)×(List Int)×(List Yh)) :=
 (app 72 ([]:List Qv) x0.1).bind fun q1 =>
 (app 32 ([]:List Kp) x0.2.2.2.1).bind fun q2 =>
 (app 8 ([]:List Int) x0.2.2.2.2.1).bind fun q3 =>
 (Qg (Hc N x0) N (0,q1,([]:List Ql),q2,q3)).bind fun w28 =>
 (Qg (He N x0) N (0,w28.1,w28.2.1,([]:List Qn),w28.2.2.1,w28.2.2.2)).bind fun w110 =>
 (Qg (Hf N x0) N (0,w110.1,w110.2.1,w110.2.2.1,w110.2.2.2.1,w110.2.2.2.2,([]:List Yh))).bind fun w132 =>
 some (w132.1,w132.2.1,w132.2.2.1,w132.2.2.2.1,w132.2.2.2.2.1,w132.2.2.2.2.2)
def Dr(N:Nat)(x0:Yj)(x1:Yj):(Int)→Option ((Int)⊕((Unit)⊕(Bool))):=fun v1 =>
 if decide (v1<(List.length x0.2.2.2.2.2.1:Int))then
 (idx x0.2.2.2.2.2.1 v1).bind fun x2 =>
 (idx x1.2.2.2.2.2.1 v1).bind fun x3 =>
 if !((x2.1==x3.1)&&((x2.2.1==x3.2.1)&&((x2.2.2.1==x3.2.2.1)&&((x2.2.2.2.1==x3.2.2.2.1)&&((x2.2.2.2.2==x3.2.2.2.2)&&true)))))then
 some (.inr (.inr false))
 else
 some (.inl (IntKind.wrap .i64 (v1+1)))
 else
 some (.inr (.inl ()))
def Ds(N:Nat)(x0:Yj)(x1:Yj):(Int)→Option ((Int)⊕((Unit)⊕(Bool))):=fun v4 =>
 if decide (v4<(List.length x0.2.2.2.2.2.2.1:Int))then
 (idx x0.2.2.2.2.2.2.1 v4).bind fun x5 =>
 (idx x1.2.2.2.2.2.2.1 v4).bind fun x6 =>
 if !((x5.1==x6.1)&&((x5.2.1==x6.2.1)&&((x5.2.2.1==x6.2.2.1)&&((x5.2.2.2==x6.2.2.2)&&true))))then
 some (.inr (.inr false))
 else
 some (.inl (IntKind.wrap .i64 (v4+1)))
 else
 some (.inr (.inl ()))
def Dt(N:Nat)(x0:Yj)(x1:Yj):(Int)→Option ((Int)⊕((Unit)⊕(Bool))):=fun v7 =>
 if decide (v7<(List.length x0.2.2.2.2.2.2.2.2.2.2.1:Int))then
 (idx x0.2.2.2.2.2.2.2.2.2.2.1 v7).bind fun x8 =>
 (idx x1.2.2.2.2.2.2.2.2.2.2.1 v7).bind fun x9 =>
 if !((x8.1==x9.1)&&((x8.2==x9.2)&&true))then
 some (.inr (.inr false))
 else
 some (.inl (IntKind.wrap .i64 (v7+1)))
 else
 some (.inr (.inl ()))
def Ar(N:Nat)(x0:Yj)(x1:Yj):Option (Bool) :=
 if(((((((((!((x0.1.1==x1.1.1)&&((x0.1.2.1==x1.1.2.1)&&((x0.1.2.2.1==x1.1.2.2.1)&&((x0.1.2.2.2.1==x1.1.2.2.2.1)&&((x0.1.2.2.2.2.1==x1.1.2.2.2.2.1)&&((x0.1.2.2.2.2.2.1==x1.1.2.2.2.2.2.1)&&((x0.1.2.2.2.2.2.2.1==x1.1.2.2.2.2.2.2.1)&&((x0.1.2.2.2.2.2.2.2.1==x1.1.2.2.2.2.2.2.2.1)&&((x0.1.2.2.2.2.2.2.2.2.1==x1.1.2.2.2.2.2.2.2.2.1)&&((x0.1.2.2.2.2.2.2.2.2.2.1==x1.1.2.2.2.2.2.2.2.2.2.1)&&((x0.1.2.2.2.2.2.2.2.2.2.2.1==x1.1.2.2.2.2.2.2.2.2.2.2.1)&&((x0.1.2.2.2.2.2.2.2.2.2.2.2==x1.1.2.2.2.2.2.2.2.2.2.2.2)&&true)))))))))))))||(x0.2.1 != x1.2.1))||(!(x0.2.2.1==x1.2.2.1)))||(x0.2.2.2.1 != x1.2.2.2.1))||(!(x0.2.2.2.2.1==x1.2.2.2.2.1)))||(x0.2.2.2.2.2.2.2.1 != x1.2.2.2.2.2.2.2.1))||(x0.2.2.2.2.2.2.2.2.1 != x1.2.2.2.2.2.2.2.2.1))||(x0.2.2.2.2.2.2.2.2.2.1 != x1.2.2.2.2.2.2.2.2.2.1))||(x0.2.2.2.2.2.2.2.2.2.2.2.1 != x1.2.2.2.2.2.2.2.2.2.2.2.1))||(x0.2.2.2.2.2.2.2.2.2.2.2.2 != x1.2.2.2.2.2.2.2.2.2.2.2.2)then
 some false
 else
 if(((List.length x0.2.2.2.2.2.1:Int) != (List.length x1.2.2.2.2.2.1:Int))||((List.length x0.2.2.2.2.2.2.1:Int) != (List.length x1.2.2.2.2.2.2.1:Int)))||((List.length x0.2.2.2.2.2.2.2.2.2.2.1:Int) != (List.length x1.2.2.2.2.2.2.2.2.2.2.1:Int))then
 some false
 else
 (Qg (Dr N x0 x1) N 0).bind fun
 | .inl _ =>
  (Qg (Ds N x0 x1) N 0).bind fun
  | .inl _ =>
   (Qg (Dt N x0 x1) N 0).bind fun
   | .inl _ =>
    some true
   | .inr v10 =>
    some v10
  | .inr v11 =>
   some v11
 | .inr v12 =>
  some v12
def Gn(N:Nat)(x0:Qd)(x1:Qd):(Int)→Option ((Int)⊕((Unit)⊕(Bool))):=fun v1 =>
 if decide (v1<(List.length x0.2.2.2.2.2.1:Int))then
 (idx x0.2.2.2.2.2.1 v1).bind fun x2 =>
 (idx x1.2.2.2.2.2.1 v1).bind fun x3 =>
 if !(x2==x3)then
 some (.inr (.inr false))
 else
 some (.inl (IntKind.wrap .i64 (v1+1)))
 else
 some (.inr (.inl ()))
def Kv(N:Nat)(x0:Qd)(x1:Qd):Option (Bool) :=
 if(List.length x0.2.2.2.2.2.1:Int) != (List.length x1.2.2.2.2.2.1:Int)then
 some false
 else
 (Qg (Gn N x0 x1) N 0).bind fun
 | .inl _ =>
  some ((((((((((x0.1==x1.1)&&(x0.2.1==x1.2.1))&&(x0.2.2.1==x1.2.2.1))&&(x0.2.2.2.1==x1.2.2.2.1))&&(x0.2.2.2.2.1==x1.2.2.2.2.1))&&((x0.2.2.2.2.2.2.1.1==x1.2.2.2.2.2.2.1.1)&&((x0.2.2.2.2.2.2.1.2==x1.2.2.2.2.2.2.1.2)&&true)))&&(x0.2.2.2.2.2.2.2.1==x1.2.2.2.2.2.2.2.1))&&(x0.2.2.2.2.2.2.2.2.1==x1.2.2.2.2.2.2.2.2.1))&&(x0.2.2.2.2.2.2.2.2.2.1==x1.2.2.2.2.2.2.2.2.2.1))&&(x0.2.2.2.2.2.2.2.2.2.2==x1.2.2.2.2.2.2.2.2.2.2))
 | .inr v4 =>
  some v4
def Hg(N:Nat)(x0:Qx)(x1:Qx):(Int)→Option ((Int)⊕((Unit)⊕(Bool))):=fun v1 =>
 if decide (v1<(List.length x0.1:Int))then
 (idx x0.1 v1).bind fun x2 =>
 (idx x1.1 v1).bind fun x3 =>
 (Kv N x2 x3).bind fun r4 =>
 if !r4 then
 some (.inr (.inr false))
 else
 some (.inl (IntKind.wrap .i64 (v1+1)))
 else
 some (.inr (.inl ()))
def Hh(N:Nat)(x0:Qx)(x1:Qx):(Int)→Option ((Int)⊕((Unit)⊕(Bool))):=fun v5 =>
 if decide (v5<(List.length x0.2.1:Int))then
 (idx x0.2.1 v5).bind fun x6 =>
 (idx x1.2.1 v5).bind fun x7 =>
 if !((x6.1==x7.1)&&((x6.2.1==x7.2.1)&&((x6.2.2.1==x7.2.2.1)&&((x6.2.2.2.1==x7.2.2.2.1)&&((x6.2.2.2.2==x7.2.2.2.2)&&true)))))then
 some (.inr (.inr false))
 else
 some (.inl (IntKind.wrap .i64 (v5+1)))
 else
 some (.inr (.inl ()))
def Hi(N:Nat)(x0:Qx)(x1:Qx):(Int)→Option ((Int)⊕((Unit)⊕(Bool))):=fun v8 =>
 if decide (v8<(List.length x0.2.2:Int))then
 (idx x0.2.2 v8).bind fun x9 =>
 (idx x1.2.2 v8).bind fun x10 =>
 if !((x9.1==x10.1)&&((x9.2.1==x10.2.1)&&((x9.2.2.1==x10.2.2.1)&&((x9.2.2.2.1==x10.2.2.2.1)&&((x9.2.2.2.2==x10.2.2.2.2)&&true)))))then
 some (.inr (.inr false))
 else
 some (.inl (IntKind.wrap .i64 (v8+1)))
 else
 some (.inr (.inl ()))
def Uq(N:Nat)(x0:Qx)(x1:Qx):Option (Bool) :=
 if(((List.length x0.1:Int) != (List.length x1.1:Int))||((List.length x0.2.1:Int) != (List.length x1.2.1:Int)))||((List.length x0.2.2:Int) != (List.length x1.2.2:Int))then
 some false
 else
 (Qg (Hg N x0 x1) N 0).bind fun
 | .inl _ =>
  (Qg (Hh N x0 x1) N 0).bind fun
  | .inl _ =>
   (Qg (Hi N x0 x1) N 0).bind fun
   | .inl _ =>
    some true
   | .inr v11 =>
    some v11
  | .inr v12 =>
   some v12
 | .inr v13 =>
  some v13
def Du(N:Nat)(v4:Int)(x1:(List Qb)):(Int)→Option ((Int)⊕((Unit)⊕(Bool))):=fun v17 =>
 if decide (v17<v4)then
 (idx x1 v17).bind fun x18 =>
 (idx x1 v4).bind fun x19 =>
 if x18.1==x19.1 then
 some (.inr (.inr false))
 else
 some (.inl (IntKind.wrap .i64 (v17+1)))
 else
 some (.inr (.inl ()))
def Dv(N:Nat)(x1:(List Qb)):(Int)→Option ((Int)⊕((Unit)⊕(Bool))):=fun v4 =>
 if decide (v4<(List.length x1:Int))then
 (idx x1 v4).bind fun x5 =>
 (Ht N x5).bind fun r6 =>
 (if !r6 then
 some true
 else
 (idx x1 v4).bind fun x8 =>
 (Ae N x8.2.2.2.2.2.2.1).bind fun r9 =>
 some (!r9):Option (Bool)).bind fun v10 =>
 (if v10 then
 some true
 else
 (idx x1 v4).bind fun x12 =>
 some (decide ((List.length x12.2.2.2.2.1:Int)>200)):Option (Bool)).bind fun v13 =>
 (if v13 then
 some true
 else
 (idx x1 v4).bind fun x15 =>
 some (decide ((List.length x15.2.2.2.2.2.1:Int)>200)):Option (Bool)).bind fun v16 =>
 if v16 then
 some (.inr (.inr false))
 else
 (Qg (Du N v4 x1) N 0).bind fun
 | .inl _ =>
  some (.inl (IntKind.wrap .i64 (v4+1)))
 | .inr v20 =>
  some (.inr (.inr v20))
 else
 some (.inr (.inl ()))
def Wv(N:Nat)(x0:Qz)(x1:(List Qb))(x2:Int):Option (Bool) :=
 (if decide ((List.length x1:Int)>x2)then
 some true
 else
 (E3 N x0 x2).bind fun r2 =>
 some (!r2):Option (Bool)).bind fun v3 =>
 if v3 then
 some false
 else
 (Qg (Dv N x1) N 0).bind fun
 | .inl _ =>
  some true
 | .inr v21 =>
  some v21
def Su(N:Nat)(x0:Qx):(Int×(List Qd)×(List Qp)×(List Qi))→Option ((Int×(List Qd)×(List Qp)×(List Qi))⊕(((List Qd)×(List Qp)×(List Qi)))):=fun w7 =>
 if decide (w7.1<(List.length x0.1:Int))then
 (idx x0.1 w7.1).bind fun x11 =>
 (app 16 ([]:List Str) x11.2.2.2.2.2.1).bind fun q12 =>
 (app 120 w7.2.1 ([(x11.1,x11.2.1,x11.2.2.1,x11.2.2.2.1,x11.2.2.2.2.1,q12,x11.2.2.2.2.2.2.1,x11.2.2.2.2.2.2.2.1,x11.2.2.2.2.2.2.2.2.1,x11.2.2.2.2.2.2.2.2.2.1,x11.2.2.2.2.2.2.2.2.2.2)]:List Qd)).bind fun q13 =>
 some (.inl ((IntKind.wrap .i64 (w7.1+1)),q13,w7.2.2.1,w7.2.2.2))
 else
 some (.inr (w7.2.1,w7.2.2.1,w7.2.2.2))
def P1(N:Nat)(x0:Qx):Option ((List Qd)×(List Qp)×(List Qi)) :=
 (app 40 ([]:List Qp) x0.2.1).bind fun q1 =>
 (app 40 ([]:List Qi) x0.2.2).bind fun q2 =>
 (Qg (Su N x0) N (0,([]:List Qd),q1,q2)).bind fun w14 =>
 some (w14.1,w14.2.1,w14.2.2)
def Ct(N:Nat)(x0:Qb):Option (Qac) :=
 some (x0.2.2.2.2.2.2.1,x0.2.2.2.2.2.2.2.2.2.2.1,x0.2.2.2.2.2.2.2.2.2.2.2,x0.1)
def Gp(N:Nat)(x0:Qac)(x1:Qac):Option (Bool) :=
 if(x0.1==x1.1)&&((x0.2.1==x1.2.1)&&((x0.2.2.1==x1.2.2.1)&&((x0.2.2.2==x1.2.2.2)&&true)))then
 some false
 else
 if x0.1 != x1.1 then
 some (decide (x0.1<x1.1))
 else
 if x0.2.1 != x1.2.1 then
 some (decide (x0.2.1<x1.2.1))
 else
 if x0.2.2.1 != x1.2.2.1 then
 some (decide (x0.2.2.1<x1.2.2.1))
 else
 some (decide (x0.2.2.2<x1.2.2.2))
def J8(N:Nat):((List Qb)×(List Qb)×(List Qb))→Option (((List Qb)×(List Qb)×(List Qb))⊕(((List Qb)))):=fun w7 =>
 if(decide ((List.length w7.1:Int)>0))||(decide ((List.length w7.2.1:Int)>0))then
 (if(List.length w7.2.1:Int)==0 then
 some true
 else
 if decide ((List.length w7.1:Int)>0)then
 (idx w7.2.1 0).bind fun x10 =>
 (Ct N x10).bind fun r11 =>
 (idx w7.1 0).bind fun x12 =>
 (Ct N x12).bind fun r13 =>
 (Gp N r11 r13).bind fun r14 =>
 some (!r14)
 else
 some false:Option ((Bool))).bind fun v15 =>
 if v15 then
 (idx w7.1 0).bind fun x16 =>
 (app 112 w7.2.2 ([x16]:List Qb)).bind fun q17 =>
 (slc w7.1 1 (List.length w7.1:Int)).bind fun s18 =>
 some (.inl (s18,w7.2.1,q17))
 else
 (idx w7.2.1 0).bind fun x19 =>
 (app 112 w7.2.2 ([x19]:List Qb)).bind fun q20 =>
 (slc w7.2.1 1 (List.length w7.2.1:Int)).bind fun s21 =>
 some (.inl (w7.1,s21,q20))
 else
 some (.inr w7.2.2)
def Zr(N:Nat):Nat→(List Qb)→Option ((List Qb))
 | 0,_=>none
 | n+1,x0 =>
  if decide ((List.length x0:Int)<2)then
  (app 112 ([]:List Qb) x0).bind fun q1 =>
  some q1
  else
  (slc x0 0 (IntKind.wrap .i64 (Int.tdiv (List.length x0:Int) 2))).bind fun s2 =>
  (Zr N n s2).bind fun r3 =>
  (slc x0 (IntKind.wrap .i64 (Int.tdiv (List.length x0:Int) 2)) (List.length x0:Int)).bind fun s4 =>
  (Zr N n s4).bind fun r5 =>
  (mkL 112 0 (List.length x0:Int) (0,0,0,0,([]:Str),([]:Str),0,0,0,false,0,0)).bind fun m6 =>
  (Qg (J8 N) N (r3,r5,m6)).bind fun v22 =>
  some v22
def C1(N:Nat)(x0:(List Qb)):Option ((List Qb)):=Zr N N x0
def Vk(N:Nat)(r4:(List Qb))(x0:Qz):(Int×(List Qd)×(List Qp)×(List Qi)×(List Yj))→Option ((Int×(List Qd)×(List Qp)×(List Qi)×(List Yj))⊕((Qx×(List Yj)))):=fun w13 =>
 if decide (w13.1<(List.length r4:Int))then
 (idx r4 w13.1).bind fun x18 =>
 (Nd N x0 (w13.2.1,w13.2.2.1,w13.2.2.2.1) x18).bind fun w42 =>
 (app 272 w13.2.2.2.2 ([(w42.2.2.2.1,w42.2.2.2.2.1,w42.2.2.2.2.2.1,w42.2.2.2.2.2.2.1,w42.2.2.2.2.2.2.2.1,w42.2.2.2.2.2.2.2.2.2.2.2.2.2.1,w42.2.2.2.2.2.2.2.2.2.2.2.2.2.2.1,w42.2.2.2.2.2.2.2.2.1,w42.2.2.2.2.2.2.2.2.2.1,w42.2.2.2.2.2.2.2.2.2.2.1,w42.2.2.2.2.2.2.2.2.2.2.2.2.2.2.2,w42.2.2.2.2.2.2.2.2.2.2.2.1,w42.2.2.2.2.2.2.2.2.2.2.2.2.1)]:List Yj)).bind fun q58 =>
 some (.inl ((IntKind.wrap .i64 (w13.1+1)),w42.1,w42.2.1,w42.2.2.1,q58))
 else
 some (.inr ((w13.2.1,w13.2.2.1,w13.2.2.2.1),w13.2.2.2.2))
def As(N:Nat)(x0:Qz)(x1:Qx)(x2:(List Qb)):Option (Qx×(List Yj)) :=
 (P1 N x1).bind fun w1 =>
 (C1 N x2).bind fun r4 =>
 (Qg (Vk N r4 x0) N (0,w1.1,w1.2.1,w1.2.2,([]:List Yj))).bind fun w59 =>
 some (w59.1,w59.2)
def Ut(N:Nat)(x0:Qz)(x1:(List Qb)):Option (Qx×(List Yj)) :=
 (As N x0 (([]:List Qd),([]:List Qp),([]:List Qi)) x1).bind fun w1 =>
 some (w1.1,w1.2)
def Qix(N:Nat)(x0:(List Yj)):(Int×Int×Int×Int)→Option ((Int×Int×Int×Int)⊕((Int×Int×Int))):=fun w1 =>
 if decide (w1.2.2.2<(List.length x0:Int))then
 (idx x0 w1.2.2.2).bind fun x5 =>
 some (.inl ((IntKind.wrap .i64 (w1.1+x5.2.2.2.2.2.2.2.2.2.1)),(IntKind.wrap .i64 (w1.2.1+x5.2.2.2.2.2.2.2.2.2.2.2.1)),(IntKind.wrap .i64 (w1.2.2.1+x5.2.2.2.2.2.2.2.2.2.2.2.2)),(IntKind.wrap .i64 (w1.2.2.2+1))))
 else
 some (.inr (w1.1,w1.2.1,w1.2.2.1))
def Qdd(N:Nat)(x0:(List Yj)):Option (Int×Int×Int) :=
 (Qg (Qix N x0) N (0,0,0,0)).bind fun w6 =>
 some (w6.1,w6.2.1,w6.2.2)
def Zb(N:Nat):Option (Bool) :=
 (Dm N).bind fun r1 =>
 (Ut N r1 ([(1,1,1,1,([52,57,49,49]:Str),([52,57,49,50]:Str),1000,20,0,false,1,2),(2,1,1,1,([52,57,49,49]:Str),([52,57,49,50]:Str),500,20,0,false,1,1)]:List Qb)).bind fun w2 =>
 (if((List.length w2.2:Int) != 2)||((List.length w2.1.2.1:Int) != 1)then
 some true
 else
 (idx w2.2 0).bind fun _ =>
 (idx w2.2 0).bind fun x5 =>
 some ((List.length x5.2.2.2.2.2.1:Int) != 1):Option (Bool)).bind fun v6 =>
 (if v6 then
 some true
 else
 (idx w2.2 1).bind fun _ =>
 (idx w2.2 1).bind fun x8 =>
 some ((List.length x8.2.2.2.2.2.2.1:Int) != 1):Option (Bool)).bind fun v9 =>
 if v9 then
 some false
 else
 (Qdd N w2.2).bind fun w10 =>
 (idx w2.2 0).bind fun x13 =>
 (if x13.1.1==2 then
 (idx w2.2 0).bind fun x15 =>
 some (x15.2.2.2.2.2.2.2.2.2.1==0)
 else
 some false:Option (Bool)).bind fun v16 =>
 (if v16 then
 (idx w2.2 0).bind fun x19 =>
 (idx x19.2.2.2.2.2.1 0).bind fun x20 =>
 some (x20.2.2.2.2==20)
 else
 some false:Option (Bool)).bind fun v21 =>
 (if v21 then
 (idx w2.2 1).bind fun x23 =>
 some (x23.2.2.2.2.2.2.2.2.2.1==700)
 else
 some false:Option (Bool)).bind fun v24 =>
 (if v24 then
 (idx w2.2 1).bind fun x27 =>
 (idx x27.2.2.2.2.2.2.1 0).bind fun x28 =>
 some (x28.2.2.1==10)
 else
 some false:Option (Bool)).bind fun v29 =>
 (if((v29&&(w10.1==700))&&(w10.2.1==700))&&(w10.2.2==0)then
 (idx w2.1.2.1 0).bind fun x31 =>
 some (x31.2.1==0)
 else
 some false:Option (Bool)).bind fun v32 =>
 some v32
def Hj(N:Nat)(x0:(List Yj))(x1:(List Yj)):(Int)→Option ((Int)⊕((Unit)⊕(Bool))):=fun v1 =>
 if decide (v1<(List.length x0:Int))then
 (idx x0 v1).bind fun x2 =>
 (idx x1 v1).bind fun x3 =>
 (Ar N x2 x3).bind fun r4 =>
 if !r4 then
 some (.inr (.inr false))
 else
 some (.inl (IntKind.wrap .i64 (v1+1)))
 else
 some (.inr (.inl ()))
def Ur(N:Nat)(x0:(List Yj))(x1:(List Yj)):Option (Bool) :=
 if(List.length x0:Int) != (List.length x1:Int)then
 some false
 else
 (Qg (Hj N x0 x1) N 0).bind fun
 | .inl _ =>
  some true
 | .inr v5 =>
  some v5
def Vl(N:Nat)(x0:Qz)(x1:(List Qb))(x2:Int):Option (Bool) :=
 (Wv N x0 x1 24).bind fun r1 =>
 if((!r1)||(decide (x2<0)))||(decide (x2>(List.length x1:Int)))then
 (Zb N).bind fun r2 =>
 some r2
 else
 (slc x1 x2 (List.length x1:Int)).bind fun s3 =>
 (app 112 ([]:List Qb) s3).bind fun q4 =>
 (slc x1 0 x2).bind fun s5 =>
 (app 112 q4 s5).bind fun q6 =>
 (Vj N x0).bind fun w7 =>
 (Ut N (w7.1,w7.2.1,w7.2.2.1,w7.2.2.2.1,w7.2.2.2.2.1,w7.2.2.2.2.2) q6).bind fun w13 =>
 (Vj N x0).bind fun w15 =>
 (app 112 ([]:List Qb) x1).bind fun q21 =>
 (Ut N (w15.1,w15.2.1,w15.2.2.1,w15.2.2.2.1,w15.2.2.2.2.1,w15.2.2.2.2.2) q21).bind fun w22 =>
 (Uq N w13.1 w22.1).bind fun r24 =>
 (if r24 then
 (Ur N w13.2 w22.2).bind fun r26 =>
 some r26
 else
 some false:Option (Bool)).bind fun v27 =>
 (if v27 then
 (Zb N).bind fun r29 =>
 some r29
 else
 some false:Option (Bool)).bind fun v30 =>
 some v30
end Gx
