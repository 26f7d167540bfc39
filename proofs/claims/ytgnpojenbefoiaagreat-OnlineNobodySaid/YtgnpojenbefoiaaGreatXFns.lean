/- The Go functions as Lean functions. -/
import Derived.Test.YtgnpojenbefoiaaGreatXX1
import Derived.Test.YtgnpojenbefoiaaGreatXRl
namespace Gx
open Go Gd
set_option linter.unusedVariables false
noncomputable section
abbrev Y8:Ty:=.st (.pr (.int .i64) (.int .i64))
abbrev Jz:Type:=Int×Int
abbrev Jz.From (x:Jz):Int:=x.1
abbrev Jz.To (x:Jz):Int:=x.2
abbrev Jr:Ty:=.st (.pr (.int .i64) (.pr (.int .i64) (.pr .str (.pr (.int .i64) (.pr (.int .i64) (.pr (.sl .str) (.pr Y8 (.pr (.int .i64) (.pr (.int .i64) (.pr (.int .i64) .bool))))))))))
abbrev Ql:Type:=Int×Int×Str×Int×Int×(List Str)×Jz×Int×Int×Int×Bool
abbrev Ql.Account (x:Ql):Int:=x.1
abbrev Ql.Sub (x:Ql):Int:=x.2.1
abbrev Ql.Product (x:Ql):Str:=x.2.2.1
abbrev Ql.Index (x:Ql):Int:=x.2.2.2.1
abbrev Ql.Kind (x:Ql):Int:=x.2.2.2.2.1
abbrev Ql.Zones (x:Ql):(List Str):=x.2.2.2.2.2.1
abbrev Ql.Valid (x:Ql):Jz:=x.2.2.2.2.2.2.1
abbrev Ql.Units (x:Ql):Int:=x.2.2.2.2.2.2.2.1
abbrev Ql.Left (x:Ql):Int:=x.2.2.2.2.2.2.2.2.1
abbrev Ql.Priority (x:Ql):Int:=x.2.2.2.2.2.2.2.2.2.1
abbrev Ql.Shared (x:Ql):Bool:=x.2.2.2.2.2.2.2.2.2.2
abbrev Yw:Ty:=.st (.pr (.int .i64) (.pr (.int .i64) (.pr (.int .i64) (.pr (.int .i64) (.int .i64)))))
abbrev Jj:Type:=Int×Int×Int×Int×Int
abbrev Jj.Account (x:Jj):Int:=x.1
abbrev Jj.Balance (x:Jj):Int:=x.2.1
abbrev Jj.Floor (x:Jj):Int:=x.2.2.1
abbrev Jj.Held (x:Jj):Int:=x.2.2.2.1
abbrev Jj.Until (x:Jj):Int:=x.2.2.2.2
abbrev Yr:Ty:=.st (.pr (.int .i64) (.pr (.int .i64) (.pr (.int .i64) (.pr (.int .i64) (.int .i64)))))
abbrev Jb:Type:=Int×Int×Int×Int×Int
abbrev Jb.Sub (x:Jb):Int:=x.1
abbrev Jb.Kind (x:Jb):Int:=x.2.1
abbrev Jb.From (x:Jb):Int:=x.2.2.1
abbrev Jb.Units (x:Jb):Int:=x.2.2.2.1
abbrev Jb.Spent (x:Jb):Int:=x.2.2.2.2
abbrev Qk:Ty:=.st (.pr (.sl Jr) (.pr (.sl Yw) (.sl Yr)))
abbrev Qq:Type:=(List Ql)×(List Jj)×(List Jb)
abbrev Qq.Buckets (x:Qq):(List Ql):=x.1
abbrev Qq.Wallets (x:Qq):(List Jj):=x.2.1
abbrev Qq.Counters (x:Qq):(List Jb):=x.2.2
abbrev Y4:Ty:=.st (.pr (.int .i64) (.pr (.int .i64) (.int .i64)))
abbrev Jk:Type:=Int×Int×Int
abbrev Jk.Upto (x:Jk):Int:=x.1
abbrev Jk.Quantum (x:Jk):Int:=x.2.1
abbrev Jk.Price (x:Jk):Int:=x.2.2
abbrev Uf:Ty:=.st (.pr (.int .i64) (.pr .str (.pr .str (.pr (.int .i64) (.sl Y4)))))
abbrev Yz:Type:=Int×Str×Str×Int×(List Jk)
abbrev Yz.Kind (x:Yz):Int:=x.1
abbrev Yz.Zone (x:Yz):Str:=x.2.1
abbrev Yz.Band (x:Yz):Str:=x.2.2.1
abbrev Yz.Setup (x:Yz):Int:=x.2.2.2.1
abbrev Yz.Steps (x:Yz):(List Jk):=x.2.2.2.2
abbrev Wx:Ty:=.st (.pr (.int .i64) (.pr (.int .i64) (.pr (.int .i64) (.pr .str (.pr .str (.pr (.int .i64) (.pr Uf (.pr (.int .i64) (.int .i64)))))))))
abbrev Yt:Type:=Int×Int×Int×Str×Str×Int×Yz×Int×Int
abbrev Yt.Account (x:Yt):Int:=x.1
abbrev Yt.Sub (x:Yt):Int:=x.2.1
abbrev Yt.Kind (x:Yt):Int:=x.2.2.1
abbrev Yt.Zone (x:Yt):Str:=x.2.2.2.1
abbrev Yt.Plan (x:Yt):Str:=x.2.2.2.2.1
abbrev Yt.Version (x:Yt):Int:=x.2.2.2.2.2.1
abbrev Yt.Rate (x:Yt):Yz:=x.2.2.2.2.2.2.1
abbrev Yt.Free (x:Yt):Int:=x.2.2.2.2.2.2.2.1
abbrev Yt.Paid (x:Yt):Int:=x.2.2.2.2.2.2.2.2
abbrev X4:Ty:=.st (.pr (.int .i64) (.pr .str (.pr (.int .i64) (.pr (.int .i64) (.int .i64)))))
abbrev J0:Type:=Int×Str×Int×Int×Int
abbrev J0.Sub (x:J0):Int:=x.1
abbrev J0.Product (x:J0):Str:=x.2.1
abbrev J0.Index (x:J0):Int:=x.2.2.1
abbrev J0.From (x:J0):Int:=x.2.2.2.1
abbrev J0.Units (x:J0):Int:=x.2.2.2.2
abbrev Yd:Ty:=.st (.pr (.int .i64) (.pr (.int .i64) (.pr (.int .i64) (.pr (.int .i64) (.int .i64)))))
abbrev Ju:Type:=Int×Int×Int×Int×Int
abbrev Ju.Session (x:Ju):Int:=x.1
abbrev Ju.Seq (x:Ju):Int:=x.2.1
abbrev Ju.Granted (x:Ju):Int:=x.2.2.1
abbrev Ju.Until (x:Ju):Int:=x.2.2.2.1
abbrev Ju.Err (x:Ju):Int:=x.2.2.2.2
abbrev Qj:Ty:=.st (.pr (.int .i64) (.pr (.int .i64) (.pr (.int .i64) (.pr (.int .i64) (.pr Wx (.pr (.int .i64) (.pr (.sl X4) (.pr (.int .i64) (.pr (.int .i64) (.pr .bool Yd))))))))))
abbrev Qg:Type:=Int×Int×Int×Int×Yt×Int×(List J0)×Int×Int×Bool×Ju
abbrev Qg.Id (x:Qg):Int:=x.1
abbrev Qg.Seq (x:Qg):Int:=x.2.1
abbrev Qg.Start (x:Qg):Int:=x.2.2.1
abbrev Qg.Until (x:Qg):Int:=x.2.2.2.1
abbrev Qg.Meter (x:Qg):Yt:=x.2.2.2.2.1
abbrev Qg.Granted (x:Qg):Int:=x.2.2.2.2.2.1
abbrev Qg.Takes (x:Qg):(List J0):=x.2.2.2.2.2.2.1
abbrev Qg.Held (x:Qg):Int:=x.2.2.2.2.2.2.2.1
abbrev Qg.Spent (x:Qg):Int:=x.2.2.2.2.2.2.2.2.1
abbrev Qg.Closed (x:Qg):Bool:=x.2.2.2.2.2.2.2.2.2.1
abbrev Qg.Last (x:Qg):Ju:=x.2.2.2.2.2.2.2.2.2.2
abbrev J5:Ty:=.st (.pr (.int .i64) (.pr (.int .i64) (.pr (.int .i64) (.pr (.int .i64) (.pr (.int .i64) (.pr (.int .i64) (.pr .str (.pr (.int .i64) (.int .i64)))))))))
abbrev Q6:Type:=Int×Int×Int×Int×Int×Int×Str×Int×Int
abbrev Q6.Session (x:Q6):Int:=x.1
abbrev Q6.Seq (x:Q6):Int:=x.2.1
abbrev Q6.Kind (x:Q6):Int:=x.2.2.1
abbrev Q6.At (x:Q6):Int:=x.2.2.2.1
abbrev Q6.Sub (x:Q6):Int:=x.2.2.2.2.1
abbrev Q6.Usage (x:Q6):Int:=x.2.2.2.2.2.1
abbrev Q6.B (x:Q6):Str:=x.2.2.2.2.2.2.1
abbrev Q6.Used (x:Q6):Int:=x.2.2.2.2.2.2.2.1
abbrev Q6.Ask (x:Q6):Int:=x.2.2.2.2.2.2.2.2
abbrev Qz:Ty:=.st (.pr (.int .i64) (.pr (.int .i64) (.pr (.int .i64) (.pr (.int .i64) (.pr .str (.pr .str (.int .i64)))))))
abbrev Qr:Type:=Int×Int×Int×Int×Str×Str×Int
abbrev Qr.At (x:Qr):Int:=x.1
abbrev Qr.Kind (x:Qr):Int:=x.2.1
abbrev Qr.Account (x:Qr):Int:=x.2.2.1
abbrev Qr.Sub (x:Qr):Int:=x.2.2.2.1
abbrev Qr.Number (x:Qr):Str:=x.2.2.2.2.1
abbrev Qr.Name (x:Qr):Str:=x.2.2.2.2.2.1
abbrev Qr.Value (x:Qr):Int:=x.2.2.2.2.2.2
abbrev Wy:Ty:=.st (.pr .str (.sl .str))
abbrev Kp:Type:=Str×(List Str)
abbrev Kp.Name (x:Kp):Str:=x.1
abbrev Kp.Prefixes (x:Kp):(List Str):=x.2
abbrev K6:Ty:=.st (.pr (.int .i64) (.pr (.int .i64) (.int .i64)))
abbrev Zn:Type:=Int×Int×Int
abbrev Zn.Days (x:Zn):Int:=x.1
abbrev Zn.From (x:Zn):Int:=x.2.1
abbrev Zn.To (x:Zn):Int:=x.2.2
abbrev Y5:Ty:=.st (.pr .str (.sl K6))
abbrev Yn:Type:=Str×(List Zn)
abbrev Yn.Name (x:Yn):Str:=x.1
abbrev Yn.Slots (x:Yn):(List Zn):=x.2
abbrev L1:Ty:=.rose (.pr (.int .i64) (.pr (.int .i64) .str))
abbrev Wh:Type:=Bd (Int×Int×Str)
abbrev Wh.Op (x:Wh):Int:=x.x.1
abbrev Wh.Num (x:Wh):Int:=x.x.2.1
abbrev Wh.Text (x:Wh):Str:=x.x.2.2
abbrev Wh.Args (x:Wh):List Wh:=x.ks
abbrev Xi:Ty:=.st (.pr .str (.pr L1 (.int .i64)))
abbrev Vx:Type:=Str×Wh×Int
abbrev Vx.Name (x:Vx):Str:=x.1
abbrev Vx.When (x:Vx):Wh:=x.2.1
abbrev Vx.Points (x:Vx):Int:=x.2.2
abbrev Jd:Ty:=.st (.pr .str (.pr (.int .i64) (.pr .bool (.pr (.sl Wy) (.pr (.sl Y5) (.pr (.sl Uf) (.sl Xi)))))))
abbrev Qu:Type:=Str×Int×Bool×(List Kp)×(List Yn)×(List Yz)×(List Vx)
abbrev Qu.Name (x:Qu):Str:=x.1
abbrev Qu.From (x:Qu):Int:=x.2.1
abbrev Qu.Split (x:Qu):Bool:=x.2.2.1
abbrev Qu.Zones (x:Qu):(List Kp):=x.2.2.2.1
abbrev Qu.Bands (x:Qu):(List Yn):=x.2.2.2.2.1
abbrev Qu.Rates (x:Qu):(List Yz):=x.2.2.2.2.2.1
abbrev Qu.Discounts (x:Qu):(List Vx):=x.2.2.2.2.2.2
abbrev Ch:Ty:=.st (.pr (.int .i64) (.pr (.sl .str) (.pr (.int .i64) (.pr (.int .i64) (.pr (.int .i64) .bool)))))
abbrev Ug:Type:=Int×(List Str)×Int×Int×Int×Bool
abbrev Ug.Kind (x:Ug):Int:=x.1
abbrev Ug.Zones (x:Ug):(List Str):=x.2.1
abbrev Ug.Units (x:Ug):Int:=x.2.2.1
abbrev Ug.Rollover (x:Ug):Int:=x.2.2.2.1
abbrev Ug.Priority (x:Ug):Int:=x.2.2.2.2.1
abbrev Ug.Shared (x:Ug):Bool:=x.2.2.2.2.2
abbrev Jq:Ty:=.st (.pr .str (.pr (.int .i64) (.pr (.int .i64) (.pr .str (.pr .bool (.sl Ch))))))
abbrev Q4:Type:=Str×Int×Int×Str×Bool×(List Ug)
abbrev Q4.Name (x:Q4):Str:=x.1
abbrev Q4.From (x:Q4):Int:=x.2.1
abbrev Q4.Fee (x:Q4):Int:=x.2.2.1
abbrev Q4.Category (x:Q4):Str:=x.2.2.2.1
abbrev Q4.Prorate (x:Q4):Bool:=x.2.2.2.2.1
abbrev Q4.Bundles (x:Q4):(List Ug):=x.2.2.2.2.2
abbrev Vj:Ty:=.st (.pr .str (.pr (.int .i64) (.int .i64)))
abbrev Vy:Type:=Str×Int×Int
abbrev Vy.Category (x:Vy):Str:=x.1
abbrev Vy.From (x:Vy):Int:=x.2.1
abbrev Vy.Points (x:Vy):Int:=x.2.2
abbrev Jc:Ty:=.st (.pr (.int .i64) (.pr (.int .i64) (.pr .bool (.pr Y8 (.pr (.sl Y4) (.int .i64))))))
abbrev Qw:Type:=Int×Int×Bool×Jz×(List Jk)×Int
abbrev Qw.Partner (x:Qw):Int:=x.1
abbrev Qw.Kind (x:Qw):Int:=x.2.1
abbrev Qw.Inbound (x:Qw):Bool:=x.2.2.1
abbrev Qw.Valid (x:Qw):Jz:=x.2.2.2.1
abbrev Qw.Steps (x:Qw):(List Jk):=x.2.2.2.2.1
abbrev Qw.Cap (x:Qw):Int:=x.2.2.2.2.2
abbrev Ya:Ty:=.st (.pr (.sl Qz) (.pr (.sl Jd) (.pr (.sl Jq) (.pr (.sl Vj) (.pr (.sl (.int .i64)) (.sl Jc))))))
abbrev J2:Type:=(List Qr)×(List Qu)×(List Q4)×(List Vy)×(List Int)×(List Qw)
abbrev J2.Events (x:J2):(List Qr):=x.1
abbrev J2.Tariffs (x:J2):(List Qu):=x.2.1
abbrev J2.Products (x:J2):(List Q4):=x.2.2.1
abbrev J2.Taxes (x:J2):(List Vy):=x.2.2.2.1
abbrev J2.Holidays (x:J2):(List Int):=x.2.2.2.2.1
abbrev J2.Agreements (x:J2):(List Qw):=x.2.2.2.2.2
abbrev Rh:Ty:=.st (.pr Ya (.pr Qk .ref))
abbrev K7:Type:=J2×Qq×Unit
abbrev K7.book (x:K7):J2:=x.1
abbrev K7.state (x:K7):Qq:=x.2.1
abbrev K7.sessions (x:K7):Unit:=x.2.2
abbrev Vn:Ty:=.st (.pr Qj Qk)
abbrev Yv:Type:=Qg×Qq
abbrev Yv.Session (x:Yv):Qg:=x.1
abbrev Yv.state (x:Yv):Qq:=x.2
abbrev L2:Ty:=.st (.pr (.int .i64) (.pr .str (.pr (.int .i64) (.int .i64))))
abbrev Zw:Type:=Int×Str×Int×Int
abbrev Zw.sub (x:Zw):Int:=x.1
abbrev Zw.product (x:Zw):Str:=x.2.1
abbrev Zw.index (x:Zw):Int:=x.2.2.1
abbrev Kc:Ty:=.st (.pr Y8 (.pr .str (.pr (.sl .str) (.pr .bool .bool))))
abbrev Vc:Type:=Jz×Str×(List Str)×Bool×Bool
abbrev Vc.Period (x:Vc):Jz:=x.1
abbrev Vc.Plan (x:Vc):Str:=x.2.1
abbrev Vc.Products (x:Vc):(List Str):=x.2.2.1
abbrev Vc.Suspended (x:Vc):Bool:=x.2.2.2.1
abbrev Vc.Family (x:Vc):Bool:=x.2.2.2.2
abbrev Vk:Ty:=.st (.pr (.int .i64) (.pr (.int .i64) (.pr (.int .i64) (.pr .str (.pr (.sl .str) (.pr (.sl .str) (.pr .bool .bool)))))))
abbrev J8:Type:=Int×Int×Int×Str×(List Str)×(List Str)×Bool×Bool
abbrev J8.Id (x:J8):Int:=x.1
abbrev J8.Account (x:J8):Int:=x.2.1
abbrev J8.Since (x:J8):Int:=x.2.2.1
abbrev J8.Plan (x:J8):Str:=x.2.2.2.1
abbrev J8.Numbers (x:J8):(List Str):=x.2.2.2.2.1
abbrev J8.Products (x:J8):(List Str):=x.2.2.2.2.2.1
abbrev J8.Suspended (x:J8):Bool:=x.2.2.2.2.2.2.1
abbrev J8.Family (x:J8):Bool:=x.2.2.2.2.2.2.2
abbrev Yj:Ty:=.st (.pr (.int .i64) (.pr (.int .i64) (.pr (.int .i64) (.pr .bool (.pr .bool (.sl (.int .i64)))))))
abbrev Q7:Type:=Int×Int×Int×Bool×Bool×(List Int)
abbrev Q7.Id (x:Q7):Int:=x.1
abbrev Q7.Since (x:Q7):Int:=x.2.1
abbrev Q7.Anchor (x:Q7):Int:=x.2.2.1
abbrev Q7.Prepaid (x:Q7):Bool:=x.2.2.2.1
abbrev Q7.Closed (x:Q7):Bool:=x.2.2.2.2.1
abbrev Q7.Subs (x:Q7):(List Int):=x.2.2.2.2.2
abbrev Ri:Ty:=.st (.pr (.sl Yj) (.sl Vk))
abbrev G9:Type:=(List Q7)×(List J8)
abbrev G9.Accounts (x:G9):(List Q7):=x.1
abbrev G9.Subs (x:G9):(List J8):=x.2
abbrev Sg:Ty:=.st (.pr (.sl Jr) .ref)
abbrev E1:Type:=(List Ql)×Unit
abbrev E1.list (x:E1):(List Ql):=x.1
abbrev E1.has (x:E1):Unit:=x.2
abbrev L3:Ty:=.st (.pr (.int .i64) (.pr .str (.pr (.int .i64) (.int .i64))))
abbrev Zx:Type:=Int×Str×Int×Int
abbrev Zx.sub (x:Zx):Int:=x.1
abbrev Zx.product (x:Zx):Str:=x.2.1
abbrev Zx.index (x:Zx):Int:=x.2.2.1
abbrev Gy:Ty:=.st (.pr (.int .i64) (.pr (.int .i64) (.pr .str (.sl Y8))))
abbrev Vl:Type:=Int×Int×Str×(List Jz)
abbrev Vl.account (x:Vl):Int:=x.1
abbrev Vl.sub (x:Vl):Int:=x.2.1
abbrev Vl.product (x:Vl):Str:=x.2.2.1
abbrev Vl.active (x:Vl):(List Jz):=x.2.2.2
abbrev Bc:Ty:=.st (.pr Jr (.int .i64))
abbrev Ga:Type:=Ql×Int
abbrev Ga.bucket (x:Ga):Ql:=x.1
abbrev Ga.rollover (x:Ga):Int:=x.2
abbrev Xj:Ty:=.st Wx
abbrev Ky:Type:=Yt
abbrev Ky.Meter (x:Ky):Yt:=x
abbrev Yo:Ty:=.st (.pr (.int .i64) Vk)
abbrev Ja:Type:=Int×J8
abbrev Ja.at_ (x:Ja):Int:=x.1
abbrev Ja.s (x:Ja):J8:=x.2
abbrev Ng:Ty:=.st (.pr .ref (.pr .ref (.pr .ref (.pr .ref (.pr .ref (.pr (.sl (.int .i64)) (.sl (.int .i64))))))))
abbrev Yp:Type:=Unit×Unit×Unit×Unit×Unit×(List Int)×(List Int)
abbrev Yp.accounts (x:Yp):Unit:=x.1
abbrev Yp.subs (x:Yp):Unit:=x.2.1
abbrev Yp.ever (x:Yp):Unit:=x.2.2.1
abbrev Yp.owners (x:Yp):Unit:=x.2.2.2.1
abbrev Yp.live (x:Yp):Unit:=x.2.2.2.2.1
abbrev Yp.opened (x:Yp):(List Int):=x.2.2.2.2.2.1
abbrev Yp.added (x:Yp):(List Int):=x.2.2.2.2.2.2
abbrev Vp:Ty:=.st (.pr (.int .i64) (.pr (.int .i64) (.int .i64)))
abbrev Yk:Type:=Int×Int×Int
abbrev Yk.at_ (x:Yk):Int:=x.1
abbrev Yk.list (x:Yk):Int:=x.2.1
def Z36 (N:Nat):Option (Bool) :=
 some false
def Z10 (N:Nat) (x1:Q6):Option (Ju) :=
 (Z36 N).bind fun r1 =>
 if (!r1) then
  some (0,0,0,0,0)
 else
  if ((decide (x1.Kind<1))||(decide (x1.Kind≥5))) then
   none
  else
   none
def Z11 (N:Nat) (x1:Int):Option (Unit) :=
 (Z36 N).bind fun r1 =>
 if (!r1) then
  some ()
 else
  none
def Z13 (N:Nat):Option (Qq) :=
 (Z36 N).bind fun r1 =>
 if (!r1) then
  some (([]:(List Ql)),([]:(List Jj)),([]:(List Jb)))
 else
  none
def Q5i (N:Nat) (x0:(List Ql)):(Unit)→Option ((Unit)⊕((Unit))):=fun _ =>
 if (decide (0<(List.length x0:Int))) then
  none
 else
  some (.inr ())
def Z42 (N:Nat) (x0:(List Ql)) (x1:(List Ql)):Option (Bool) :=
 if ((List.length x0:Int) != (List.length x1:Int)) then
  none
 else
  (Jg (Q5i N x0) N ()).bind fun _ =>
  some true
def Q5j (N:Nat) (x0:Qq):(Unit)→Option ((Unit)⊕((Unit))):=fun _ =>
 if (decide (0<(List.length x0.Wallets:Int))) then
  none
 else
  some (.inr ())
def Q5k (N:Nat) (x0:Qq):(Unit)→Option ((Unit)⊕((Unit))):=fun _ =>
 if (decide (0<(List.length x0.Counters:Int))) then
  none
 else
  some (.inr ())
def Z12 (N:Nat) (x0:Qq) (x1:Qq):Option (Bool) :=
 (Z42 N x0.Buckets x1.Buckets).bind fun r1 =>
 if (((!r1)||((List.length x0.Wallets:Int) != (List.length x1.Wallets:Int)))||((List.length x0.Counters:Int) != (List.length x1.Counters:Int))) then
  none
 else
  (Jg (Q5j N x0) N ()).bind fun _ =>
  (Jg (Q5k N x0) N ()).bind fun _ =>
  some true
def Z14 (N:Nat):Option (Unit) :=
 (Z36 N).bind fun r1 =>
 if (!r1) then
  some ()
 else
  none
def Z15 (N:Nat) (x1:Int):Option (Int) :=
 (Z36 N).bind fun r1 =>
 if (!r1) then
  some 0
 else
  none
def Z16 (N:Nat):Option (Unit) :=
 (Z36 N).bind fun r1 =>
 if (!r1) then
  some ()
 else
  none
def D4 (N:Nat) (m5001:(List Qr)) (m5002:(List Qu)) (m5003:(List Q4)) (m5004:(List Vy)) (m5005:(List Int)) (m5006:(List Qw)) (m5007:(List Ql)) (m5008:(List Jj)) (m5009:(List Jb)):Option (Bool) :=
 some false
def Qqn (N:Nat) (x1:Int) (m5001:(List Qr)) (m5002:(List Qu)) (m5003:(List Q4)) (m5004:(List Vy)) (m5005:(List Int)) (m5006:(List Qw)) (m5007:(List Ql)) (m5008:(List Jj)) (m5009:(List Jb)):Option (Unit) :=
 (D4 N m5001 m5002 m5003 m5004 m5005 m5006 m5007 m5008 m5009).bind fun r1 =>
 if (!r1) then
  some ()
 else
  none
def Qqo (N:Nat) (m5001:(List Qr)) (m5002:(List Qu)) (m5003:(List Q4)) (m5004:(List Vy)) (m5005:(List Int)) (m5006:(List Qw)) (m5007:(List Ql)) (m5008:(List Jj)) (m5009:(List Jb)):Option (Qq) :=
 (D4 N m5001 m5002 m5003 m5004 m5005 m5006 m5007 m5008 m5009).bind fun r1 =>
 if (!r1) then
  some (([]:(List Ql)),([]:(List Jj)),([]:(List Jb)))
 else
  none
def Qqp (N:Nat) (m5001:(List Qr)) (m5002:(List Qu)) (m5003:(List Q4)) (m5004:(List Vy)) (m5005:(List Int)) (m5006:(List Qw)) (m5007:(List Ql)) (m5008:(List Jj)) (m5009:(List Jb)):Option (Unit) :=
 (D4 N m5001 m5002 m5003 m5004 m5005 m5006 m5007 m5008 m5009).bind fun r1 =>
 if (!r1) then
  some ()
 else
  none
def Qqq (N:Nat) (x1:Int) (m5001:(List Qr)) (m5002:(List Qu)) (m5003:(List Q4)) (m5004:(List Vy)) (m5005:(List Int)) (m5006:(List Qw)) (m5007:(List Ql)) (m5008:(List Jj)) (m5009:(List Jb)):Option (Int) :=
 (D4 N m5001 m5002 m5003 m5004 m5005 m5006 m5007 m5008 m5009).bind fun r1 =>
 if (!r1) then
  some 0
 else
  none
def Qqr (N:Nat) (m5001:(List Qr)) (m5002:(List Qu)) (m5003:(List Q4)) (m5004:(List Vy)) (m5005:(List Int)) (m5006:(List Qw)) (m5007:(List Ql)) (m5008:(List Jj)) (m5009:(List Jb)):Option (Unit) :=
 (D4 N m5001 m5002 m5003 m5004 m5005 m5006 m5007 m5008 m5009).bind fun r1 =>
 if (!r1) then
  some ()
 else
  none
def Qqs (N:Nat) (x1:Q6) (m5001:(List Qr)) (m5002:(List Qu)) (m5003:(List Q4)) (m5004:(List Vy)) (m5005:(List Int)) (m5006:(List Qw)) (m5007:(List Ql)) (m5008:(List Jj)) (m5009:(List Jb)):Option (Ju) :=
 (D4 N m5001 m5002 m5003 m5004 m5005 m5006 m5007 m5008 m5009).bind fun r1 =>
 if (!r1) then
  some (0,0,0,0,0)
 else
  if ((decide (x1.Kind<1))||(decide (x1.Kind≥5))) then
   none
  else
   none
def Z45 (N:Nat):Option (J2) :=
 some (([(0,1,1,0,([]:Str),([112,111,115,116,112,97,105,100]:Str),1),(0,3,1,1,([]:Str),([98,97,115,105,99]:Str),0)]:(List Qr)),([(([98,97,115,105,99]:Str),0,false,([]:(List Kp)),([(([97,108,108]:Str),([]:(List Zn)))]:(List Yn)),([(1,([]:Str),([]:Str),0,([(0,1,2)]:(List Jk)))]:(List Yz)),([]:(List Vx)))]:(List Qu)),([]:(List Q4)),([]:(List Vy)),([]:(List Int)),([]:(List Qw)))
def Q5l (N:Nat) (r2:(List Kp)):(Unit)→Option ((Unit)⊕((Unit))):=fun _ =>
 if (decide (0<(List.length r2:Int))) then
  none
 else
  some (.inr ())
def Q5m (N:Nat) (r3:(List Yn)):(Int×(List Yn))→Option ((Int×(List Yn))⊕(((List Yn)))):=fun (v7,v8) =>
 if (decide (v7<(List.length r3:Int))) then
  (idx v8 v7).bind fun _ =>
  (idx v8 v7).bind fun x9 =>
  (Yc 24 x9.Slots).bind fun r10 =>
  (idx v8 v7).bind fun _ =>
  (idx v8 v7).bind fun y11 =>
  some (.inl ((IntKind.wrap .i64 (v7+1)),(List.set v8 (Int.toNat v7) (y11.Name,r10))))
 else
  some (.inr v8)
def Q5n (N:Nat) (r4:(List Yz)):(Int×(List Yz))→Option ((Int×(List Yz))⊕(((List Yz)))):=fun (v14,v15) =>
 if (decide (v14<(List.length r4:Int))) then
  (idx v15 v14).bind fun _ =>
  (idx v15 v14).bind fun x16 =>
  (Yc 24 x16.Steps).bind fun r17 =>
  (idx v15 v14).bind fun _ =>
  (idx v15 v14).bind fun y18 =>
  some (.inl ((IntKind.wrap .i64 (v14+1)),(List.set v15 (Int.toNat v14) (y18.Kind,y18.Zone,y18.Band,y18.Setup,r17))))
 else
  some (.inr v15)
def Q5o (N:Nat) (r5:(List Vx)):(Unit)→Option ((Unit)⊕((Unit))):=fun _ =>
 if (decide (0<(List.length r5:Int))) then
  none
 else
  some (.inr ())
def Z97 (N:Nat) (x0:Qu):Option (Qu) :=
 (Yc 40 x0.Zones).bind fun r2 =>
 (Yc 40 x0.Bands).bind fun r3 =>
 (Yc 72 x0.Rates).bind fun r4 =>
 (Yc 80 x0.Discounts).bind fun r5 =>
 (Jg (Q5l N r2) N ()).bind fun _ =>
 (Jg (Q5m N r3) N (0,r3)).bind fun v12 =>
 (Jg (Q5n N r4) N (0,r4)).bind fun v19 =>
 (Jg (Q5o N r5) N ()).bind fun _ =>
 some (x0.Name,x0.From,x0.Split,r2,v12,v19,r5)
def Q5p (N:Nat) (r4:(List Qu)):(Int×(List Qu))→Option ((Int×(List Qu))⊕(((List Qu)))):=fun (v8,v9) =>
 if (decide (v8<(List.length r4:Int))) then
  (idx v9 v8).bind fun _ =>
  (idx v9 v8).bind fun x10 =>
  (Z97 N x10).bind fun r17 =>
  (idx v9 v8).bind fun _ =>
  (idx v9 v8).bind fun y18 =>
  some (.inl ((IntKind.wrap .i64 (v8+1)),(List.set v9 (Int.toNat v8) r17)))
 else
  some (.inr v9)
def Q5q (N:Nat) (r5:(List Q4)):(Unit)→Option ((Unit)⊕((Unit))):=fun _ =>
 if (decide (0<(List.length r5:Int))) then
  none
 else
  some (.inr ())
def Q5r (N:Nat) (r6:(List Qw)):(Unit)→Option ((Unit)⊕((Unit))):=fun _ =>
 if (decide (0<(List.length r6:Int))) then
  none
 else
  some (.inr ())
def Z49 (N:Nat) (x0:J2):Option ((List Qr)×(List Vy)×(List Int)×(List Qu)×(List Q4)×(List Qw)) :=
 (Yc 72 x0.Events).bind fun r1 =>
 (Yc 32 x0.Taxes).bind fun r2 =>
 (Yc 8 x0.Holidays).bind fun r3 =>
 (Yc 128 x0.Tariffs).bind fun r4 =>
 (Yc 80 x0.Products).bind fun r5 =>
 (Yc 72 x0.Agreements).bind fun r6 =>
 (Jg (Q5p N r4) N (0,r4)).bind fun v19 =>
 (Jg (Q5q N r5) N ()).bind fun _ =>
 (Jg (Q5r N r6) N ()).bind fun _ =>
 some (r1,r2,r3,v19,r5,r6)
def Q5s (N:Nat) (r1:(List Ql)):(Unit)→Option ((Unit)⊕((Unit))):=fun _ =>
 if (decide (0<(List.length r1:Int))) then
  none
 else
  some (.inr ())
def Z43 (N:Nat) (x0:Qq):Option (Qq) :=
 (Yc 120 x0.Buckets).bind fun r1 =>
 (Yc 40 x0.Wallets).bind fun r2 =>
 (Yc 40 x0.Counters).bind fun r3 =>
 (Jg (Q5s N r1) N ()).bind fun _ =>
 some (r1,r2,r3)
def Z19 (N:Nat) (x0:J2) (x1:Qq):Option ((List Qr)×(List Vy)×(List Int)×Qq×(List Qu)×(List Q4)×(List Qw)×(List (Int×Qg))) :=
 (Z49 N x0).bind fun (r1,r2,r3,r4,r5,r6) =>
 (Z43 N x1).bind fun r7 =>
 some (r1,r2,r3,r7,r4,r5,r6,([]:List (Int×Qg)))
def Qqt (N:Nat) (m5000_0_0:(List Qr)) (m5000_0_3:(List Vy)) (m5000_0_4:(List Int)) (m5000_1:Qq) (m5001:(List Qu)) (m5002:(List Q4)) (m5003:(List Qw)) (m5004:(List (Int×Qg))):Option (Bool) :=
 some true
def Q9z (N:Nat) (x0:Int):Option (Bool) :=
 some ((decide (x0≥48))&&(decide (x0≤57)))
def Quk (N:Nat) (x0:Str):(Int)→Option ((Int)⊕((Unit))):=fun v1 =>
 if (decide (v1<(List.length x0:Int))) then
  (Qoe x0 v1).bind fun c2 =>
  (Q9z N c2).bind fun r3 =>
  if (!r3) then
   none
  else
   some (.inl (IntKind.wrap .i64 (v1+1)))
 else
  some (.inr ())
def Q5t (N:Nat) (x0:Str):Option (Bool) :=
 (Jg (Quk N x0) N 0).bind fun _ =>
 some ((decide ((List.length x0:Int)≥1))&&(decide ((List.length x0:Int)≤15)))
def Q90 (N:Nat) (x0:J8) (x1:Qr):Option (J8) :=
 if (x1.Kind==3) then
  some (x1.Sub,x1.Account,x1.At,x1.Name,([]:(List Str)),([]:(List Str)),false,false)
 else
  none
def Qul (N:Nat) (x0:(List Qr)) (x1:Int):(Int×(List Ja)×J8)→Option ((Int×(List Ja)×J8)⊕(((List Ja)))):=fun (v9,v10,v11) =>
 if (decide (v9<(List.length x0:Int))) then
  ((idx x0 v9).bind fun x14 =>
  if ((x1==0)||(x14.Sub != x1)) then
   some (v10,v11)
  else
   (Q90 N v11 x14).bind fun r15 =>
   (if (decide ((List.length v10:Int)>0)) then
    none
   else
    some false:Option (Bool)).bind fun v17 =>
   if v17 then
    none
   else
    (app 104 v10 ([(x14.At,r15)]:(List Ja))).bind fun q18 =>
    some (q18,r15):Option (((List Ja)×J8))).bind fun (v19,v20) =>
  some (.inl ((IntKind.wrap .i64 (v9+1)),v19,v20))
 else
  some (.inr v10)
def Q91 (N:Nat) (x0:(List Qr)) (x1:Int):Option ((List Ja)) :=
 (Jg (Qul N x0 x1) N (0,([]:(List Ja)),(0,0,0,([]:Str),([]:(List Str)),([]:(List Str)),false,false))).bind fun v21 =>
 some v21
def Qum (N:Nat) (x0:(List Ja)):(Int×(List Ja))→Option ((Int×(List Ja))⊕(((List Ja)))):=fun (v2,v3) =>
 if (decide (v2<(List.length x0:Int))) then
  (idx x0 v2).bind fun x4 =>
  if (decide ((List.length v3:Int)>0)) then
   none
  else
   (app 104 v3 ([x4]:(List Ja))).bind fun q5 =>
   some (.inl ((IntKind.wrap .i64 (v2+1)),q5))
 else
  some (.inr v3)
def Q92 (N:Nat) (x0:(List Ja)):Option ((List Ja)) :=
 (Jg (Qum N x0) N (0,([]:(List Ja)))).bind fun v6 =>
 some v6
def Qun (N:Nat) (r2:(List Ja)):(Int×(List Vc))→Option ((Int×(List Vc))⊕(((List Vc)))):=fun (v4,v5) =>
 if (decide (v4<(List.length r2:Int))) then
  (idx r2 v4).bind fun _ =>
  (idx r2 v4).bind fun x6 =>
  if (x6.s.Id==0) then
   none
  else
   if (decide ((IntKind.wrap .i64 (v4+1))<(List.length r2:Int))) then
    none
   else
    (app 16 ([]:(List Str)) x6.s.Products).bind fun q9 =>
    (app 64 v5 ([((x6.at_,12622780800),x6.s.Plan,q9,x6.s.Suspended,x6.s.Family)]:(List Vc))).bind fun q10 =>
    some (.inl ((IntKind.wrap .i64 (v4+1)),q10))
 else
  some (.inr v5)
def Q5u (N:Nat) (x0:(List Qr)) (x1:Int):Option ((List Vc)) :=
 (Q91 N x0 x1).bind fun r1 =>
 (Q92 N r1).bind fun r2 =>
 (Jg (Qun N r2) N (0,([]:(List Vc)))).bind fun v11 =>
 some v11
def Q93 (N:Nat) (x0:Jz):Option (Bool) :=
 some (((decide (x0.From≥0))&&(decide (x0.From<x0.To)))&&(decide (x0.To≤12622780800)))
def Q5v (N:Nat) (x0:Jz) (x1:Int):Option (Bool) :=
 (Q93 N x0).bind fun r1 =>
 some ((r1&&(decide (x1≥x0.From)))&&(decide (x1<x0.To)))
def Quo (N:Nat) (r1:(List Vc)) (x2:Int):(Jz×Str×Bool×Bool)→Option ((Jz×Str×Bool×Bool)⊕((Bool×Vc))):=fun (v2,v3,v4,v5) =>
 if (decide (0<(List.length r1:Int))) then
  (idx r1 0).bind fun _ =>
  (idx r1 0).bind fun x6 =>
  (Q5v N x6.Period x2).bind fun r7 =>
  if r7 then
   some (.inr (true,x6))
  else
   none
 else
  none
def Q5w (N:Nat) (x0:(List Qr)) (x1:Int) (x2:Int):Option (Vc×Bool) :=
 (Q5u N x0 x1).bind fun r1 =>
 (Jg (Quo N r1 x2) N ((0,0),([]:Str),false,false)).bind fun (v8,v9) =>
 some (v9,v8)
def Q94 (N:Nat):Option ((List (Int×Q7))×(List (Int×J8))×(List (Int×Bool))×(List (Str×Int))×(List (Int×Int))) :=
 some (([]:List (Int×Q7)),([]:List (Int×J8)),([]:List (Int×Bool)),([]:List (Str×Int)),([]:List (Int×Int)))
def Q95 (N:Nat) (x0:(List Qr)) (x1:Int):Option ((List Qr)×Int) :=
 some (x0,x1)
def Qup (N:Nat) (x1:(List Qr)) (x2:Int):((Int)×(List Qr))→Option (((Int)×(List Qr))⊕(((Unit))×(List Qr))):=fun (v1,acc2) =>
 if (decide (v1<(List.length x1:Int))) then
  (idx x1 v1).bind fun x3 =>
  if (decide (x3.At≤x2)) then
   if (!true) then
    none
   else
    some (.inl ((IntKind.wrap .i64 (v1+1)),(acc2++[x3])))
  else
   some (.inl ((IntKind.wrap .i64 (v1+1)),acc2))
 else
  some (.inr ((),acc2))
def Q96 (N:Nat) (x1:(List Qr)) (x2:Int):Option (List Qr) :=
 (Jg (Qup N x1 x2) N (0,([]:(List Qr)))).bind fun (_,acc4) =>
 some acc4
def Quq (N:Nat) (x0:(List Int)):(Unit)→Option ((Unit)⊕((Unit))):=fun _ =>
 (if (decide (0<(List.length x0:Int))) then
  none
 else
  some false:Option (Bool)).bind fun v1 =>
 if v1 then
  none
 else
  some (.inr ())
def Q5x (N:Nat) (x0:(List Int)) (x1:Int):Option ((List Int)) :=
 (Jg (Quq N x0) N ()).bind fun _ =>
 (slc x0 0 0).bind fun s2 =>
 (app 8 ([]:(List Int)) s2).bind fun q3 =>
 (app 8 q3 ([x1]:(List Int))).bind fun q4 =>
 (slc x0 0 (List.length x0:Int)).bind fun s5 =>
 (app 8 q4 s5).bind fun q6 =>
 some q6
def Qi8 (N:Nat) (x1:Qr) (m5000_5:(List Int)) (m5000_6:(List Int)) (m5001:(List (Int×Q7))) (m5002:(List (Int×J8))) (m5003:(List (Int×Bool))) (m5004:(List (Str×Int))) (m5005:(List (Int×Int))):Option ((List Int)×(List Int)×(List (Int×Q7))×(List (Int×J8))×(List (Int×Bool))×(List (Str×Int))×(List (Int×Int))) :=
 if (x1.Kind==1) then
  if (!(Qx (k:=(.int .i64)) x1.Account m5001).isSome) then
   (Q5x N m5000_5 x1.Account).bind fun r1 =>
   some (r1,m5000_6,(Yx (k:=(.int .i64)) x1.Account (x1.Account,x1.At,x1.Value,(x1.Name==([112,114,101,112,97,105,100]:Str)),false,([]:(List Int))) m5001),m5002,m5003,m5004,m5005)
  else
   none
 else
  if (x1.Kind==2) then
   none
  else
   if (x1.Kind==3) then
    if (!((Qx (k:=(.int .i64)) x1.Sub m5003).getD false)) then
     (Q5x N m5000_6 x1.Sub).bind fun r2 =>
     some (m5000_5,r2,m5001,(Yx (k:=(.int .i64)) x1.Sub (x1.Sub,x1.Account,x1.At,x1.Name,([]:(List Str)),([]:(List Str)),false,false) m5002),(Yx (k:=(.int .i64)) x1.Sub true m5003),m5004,(Yx (k:=(.int .i64)) x1.Account (IntKind.wrap .i64 (((Qx (k:=(.int .i64)) x1.Account m5005).getD 0)+1)) m5005))
    else
     none
   else
    none
def Qur (N:Nat) (m5000_6:(List Int)) (m5002:(List (Int×J8))):(Int×(List (Int×(List Int)))×(List J8))→Option ((Int×(List (Int×(List Int)))×(List J8))⊕(((List (Int×(List Int)))×(List J8)))):=fun (v4,v5,v6) =>
 if (decide (v4<(List.length m5000_6:Int))) then
  (idx m5000_6 v4).bind fun x7 =>
  if (!(Qx (k:=(.int .i64)) x7 m5002).isSome) then
   none
  else
   (chk (eqK (.int .i64) (((Qx (k:=(.int .i64)) x7 m5002).getD (0,0,0,([]:Str),([]:(List Str)),([]:(List Str)),false,false)).Account) (((Qx (k:=(.int .i64)) x7 m5002).getD (0,0,0,([]:Str),([]:(List Str)),([]:(List Str)),false,false)).Account))).bind fun _ =>
   (app 8 (Qf5 (fun (y:(List Int))=>(y:(List Int))) (Qx (k:=(.int .i64)) (((Qx (k:=(.int .i64)) x7 m5002).getD (0,0,0,([]:Str),([]:(List Str)),([]:(List Str)),false,false)).Account) v5)) ([x7]:(List Int))).bind fun q8 =>
   (chk (eqK (.int .i64) (((Qx (k:=(.int .i64)) x7 m5002).getD (0,0,0,([]:Str),([]:(List Str)),([]:(List Str)),false,false)).Account) (((Qx (k:=(.int .i64)) x7 m5002).getD (0,0,0,([]:Str),([]:(List Str)),([]:(List Str)),false,false)).Account))).bind fun _ =>
   (app 96 v6 ([((Qx (k:=(.int .i64)) x7 m5002).getD (0,0,0,([]:Str),([]:(List Str)),([]:(List Str)),false,false))]:(List J8))).bind fun q9 =>
   some (.inl ((IntKind.wrap .i64 (v4+1)),(Yx (k:=(.int .i64)) (((Qx (k:=(.int .i64)) x7 m5002).getD (0,0,0,([]:Str),([]:(List Str)),([]:(List Str)),false,false)).Account) q8 v5),q9))
 else
  some (.inr (v5,v6))
def Qus (N:Nat) (m5000_5:(List Int)) (m5001:(List (Int×Q7))) (v10:(List (Int×(List Int)))):(Int×(List Q7)×(List J8))→Option ((Int×(List Q7)×(List J8))⊕(((List Q7)×(List J8)))):=fun (v15,v16,v17) =>
 if (decide (v15<(List.length m5000_5:Int))) then
  (idx m5000_5 v15).bind fun x18 =>
  (app 56 v16 ([(((Qx (k:=(.int .i64)) x18 m5001).getD (0,0,0,false,false,([]:(List Int)))).Id,((Qx (k:=(.int .i64)) x18 m5001).getD (0,0,0,false,false,([]:(List Int)))).Since,((Qx (k:=(.int .i64)) x18 m5001).getD (0,0,0,false,false,([]:(List Int)))).Anchor,((Qx (k:=(.int .i64)) x18 m5001).getD (0,0,0,false,false,([]:(List Int)))).Prepaid,((Qx (k:=(.int .i64)) x18 m5001).getD (0,0,0,false,false,([]:(List Int)))).Closed,((Qx (k:=(.int .i64)) x18 v10).getD ([]:(List Int))))]:(List Q7))).bind fun q19 =>
  some (.inl ((IntKind.wrap .i64 (v15+1)),q19,v17))
 else
  some (.inr (v16,v17))
def Q97 (N:Nat) (m5000_5:(List Int)) (m5000_6:(List Int)) (m5001:(List (Int×Q7))) (m5002:(List (Int×J8))) (m5003:(List (Int×Bool))) (m5004:(List (Str×Int))) (m5005:(List (Int×Int))):Option ((List Q7)×(List J8)) :=
 (Jg (Qur N m5000_6 m5002) N (0,([]:List (Int×(List Int))),([]:(List J8)))).bind fun (v10,v11) =>
 (Jg (Qus N m5000_5 m5001 v10) N (0,([]:(List Q7)),v11)).bind fun (v20,v21) =>
 some (v20,v21)
def Qut (N:Nat):((List Int)×(List Int)×(List (Int×Q7))×(List (Int×J8))×(List (Int×Bool))×(List (Str×Int))×(List (Int×Int)))→Qr→Option ((List Int)×(List Int)×(List (Int×Q7))×(List (Int×J8))×(List (Int×Bool))×(List (Str×Int))×(List (Int×Int))):=fun (v13,v14,v15,v16,v17,v18,v19) e20 =>
 (Qi8 N e20 v13 v14 v15 v16 v17 v18 v19).bind fun (r21,r22,r23,r24,r25,r26,r27) =>
 some (r21,r22,r23,r24,r25,r26,r27)
def Quu (N:Nat) (x0:(List Qr)) (x1:Int):Option ((List Q7)×(List J8)) :=
 (Q94 N).bind fun (r1,r2,r3,r4,r5) =>
 (Q95 N x0 x1).bind fun (r6,r7) =>
 (Q96 N r6 r7).bind fun es35 =>
 (Qds (Qut N) es35 (([]:(List Int)),([]:(List Int)),r1,r2,r3,r4,r5)).bind fun (v28,v29,v30,v31,v32,v33,v34) =>
 (Q97 N v28 v29 v30 v31 v32 v33 v34).bind fun (r36,r37) =>
 some (r36,r37)
def Quv (N:Nat) (r2:(List J8)) (x1:Int):(Int×Int×Int×Str×Bool×Bool)→Option ((Int×Int×Int×Str×Bool×Bool)⊕((Bool×J8))):=fun (v3,v4,v5,v6,v7,v8) =>
 if (decide (0<(List.length r2:Int))) then
  (idx r2 0).bind fun _ =>
  (idx r2 0).bind fun x9 =>
  if (x9.Id==x1) then
   some (.inr (true,x9))
  else
   none
 else
  none
def Q98 (N:Nat) (x0:(List Qr)) (x1:Int) (x2:Int):Option (J8×Bool) :=
 (Quu N x0 x2).bind fun (r1,r2) =>
 (Jg (Quv N r2 x1) N (0,0,0,([]:Str),false,false)).bind fun (v10,v11) =>
 some (v11,v10)
def Q99 (N:Nat) (x0:(List Zn)):Option ((List Zn)) :=
 (app 24 ([]:(List Zn)) x0).bind fun q1 =>
 some q1
def Jaa (N:Nat) (x0:(List Jk)):Option ((List Jk)) :=
 (app 24 ([]:(List Jk)) x0).bind fun q1 =>
 some q1
def Quw (N:Nat) (x0:Qu):(Unit)→Option ((Unit)⊕((Unit))):=fun _ =>
 if (decide (0<(List.length x0.Zones:Int))) then
  none
 else
  some (.inr ())
def Qux (N:Nat) (x0:Qu):(Int×Str×Int×Bool×(List Yn))→Option ((Int×Str×Int×Bool×(List Yn))⊕((Str×Int×Bool×(List Yn)))):=fun (v6,v7,v8,v9,v10) =>
 if (decide (v6<(List.length x0.Bands:Int))) then
  (idx x0.Bands v6).bind fun x11 =>
  (Q99 N x11.Slots).bind fun r12 =>
  (app 40 v10 ([(x11.Name,r12)]:(List Yn))).bind fun q13 =>
  some (.inl ((IntKind.wrap .i64 (v6+1)),v7,v8,v9,q13))
 else
  some (.inr (v7,v8,v9,v10))
def Quy (N:Nat) (x0:Qu):(Int×Str×Int×Bool×(List Yn)×(List Yz))→Option ((Int×Str×Int×Bool×(List Yn)×(List Yz))⊕((Str×Int×Bool×(List Yn)×(List Yz)))):=fun (v24,v25,v26,v27,v28,v29) =>
 if (decide (v24<(List.length x0.Rates:Int))) then
  (idx x0.Rates v24).bind fun x30 =>
  (Jaa N x30.Steps).bind fun r31 =>
  (app 72 v29 ([(x30.Kind,x30.Zone,x30.Band,x30.Setup,r31)]:(List Yz))).bind fun q32 =>
  some (.inl ((IntKind.wrap .i64 (v24+1)),v25,v26,v27,v28,q32))
 else
  some (.inr (v25,v26,v27,v28,v29))
def Quz (N:Nat) (x0:Qu):(Unit)→Option ((Unit)⊕((Unit))):=fun _ =>
 if (decide (0<(List.length x0.Discounts:Int))) then
  none
 else
  some (.inr ())
def Jab (N:Nat) (x0:Qu):Option (Str×Int×Bool×(List Yn)×(List Yz)) :=
 (Jg (Quw N x0) N ()).bind fun _ =>
 (Jg (Qux N x0) N (0,x0.Name,x0.From,x0.Split,([]:(List Yn)))).bind fun (v14,v15,v16,v17) =>
 (Jg (Quy N x0) N (0,v14,v15,v16,v17,([]:(List Yz)))).bind fun (v33,v34,v35,v36,v37) =>
 (Jg (Quz N x0) N ()).bind fun _ =>
 some (v33,v34,v35,v36,v37)
def Qu0 (N:Nat) (x0:(List Qu)) (x1:Str) (x2:Int):(Int×Int)→Option ((Int×Int)⊕((Int))):=fun (v1,v2) =>
 if (decide (v2<(List.length x0:Int))) then
  (idx x0 v2).bind fun x3 =>
  if ((x3.Name==x1)&&(decide (x3.From≤x2))) then
   some (.inl (v2,(IntKind.wrap .i64 (v2+1))))
  else
   none
 else
  some (.inr v1)
def Jac (N:Nat) (x0:(List Qu)) (x1:Str) (x2:Int):Option (Str×Int×Bool×Bool×(List Yn)×(List Yz)) :=
 (Jg (Qu0 N x0 x1 x2) N ((-1),0)).bind fun v4 =>
 if (decide (v4<0)) then
  none
 else
  (idx x0 v4).bind fun x5 =>
  (Jab N x5).bind fun (r6,r7,r8,r9,r10) =>
  some (r6,r7,r8,true,r9,r10)
def Qu1 (N:Nat) (x0:(List Kp)):(Unit)→Option ((Unit)⊕((Unit))):=fun _ =>
 if (decide (0<(List.length x0:Int))) then
  none
 else
  some (.inr ())
def Jad (N:Nat) (x0:(List Kp)):Option (Int×(List (Str×Str))) :=
 if (decide ((List.length x0:Int)>64)) then
  none
 else
  (Jg (Qu1 N x0) N ()).bind fun _ =>
  some (0,([]:List (Str×Str)))
def Qu2 (N:Nat) (x1:Str) (m5000:(List (Str×Str))):(Int)→Option ((Int)⊕((Unit))):=fun v1 =>
 if (decide (v1>0)) then
  (slc x1 0 v1).bind fun s2 =>
  if (Qx (k:=.str) s2 m5000).isSome then
   none
  else
   some (.inl (IntKind.wrap .i64 (v1 - 1)))
 else
  some (.inr ())
def Jae (N:Nat) (x1:Str) (x2:Int) (m5000:(List (Str×Str))):Option (Str×Bool) :=
 (Jg (Qu2 N x1 m5000) N x2).bind fun _ =>
 some (([]:Str),false)
def Jaf (N:Nat) (x0:(List Kp)) (x1:Str):Option (Str×Bool) :=
 (Jad N x0).bind fun (r1,r2) =>
 (if (r1 != 0) then
  some true
 else
  (Q5t N x1).bind fun r4 =>
  some (!r4):Option (Bool)).bind fun v5 =>
 if v5 then
  none
 else
  (Jae N x1 (List.length x1:Int) r2).bind fun (r6,r7) =>
  some (r6,r7)
def Qu3 (N:Nat) (x0:Str):(Int)→Option ((Int)⊕((Unit))):=fun v1 =>
 if (decide (v1<(List.length x0:Int))) then
  (Qoe x0 v1).bind fun c2 =>
  if (((decide (c2<97))||(decide (c2>122)))&&((v1==0)||((c2 != 45)&&((decide (c2<48))||(decide (c2>57)))))) then
   none
  else
   some (.inl (IntKind.wrap .i64 (v1+1)))
 else
  some (.inr ())
def Jag (N:Nat) (x0:Str):Option (Bool) :=
 (Jg (Qu3 N x0) N 0).bind fun _ =>
 some ((decide ((List.length x0:Int)≥1))&&(decide ((List.length x0:Int)≤24)))
def Qu4 (N:Nat) (x0:(List Yn)):(Unit)→Option ((Unit)⊕((Unit))):=fun _ =>
 if (decide (0<(List.length x0:Int))) then
  none
 else
  some (.inr ())
def Jah (N:Nat) (x0:(List Yn)) (m5000:Yn):Option (Int) :=
 (Jg (Qu4 N x0) N ()).bind fun _ =>
 some (-1)
def Jai (N:Nat) (x0:(List Yn)) (m5000:Yn):Option (Bool) :=
 (Jah N x0 m5000).bind fun r1 =>
 some (decide (r1≥0))
def Qu5 (N:Nat) (x0:(List Yn)):(Int)→Option ((Int)⊕((Unit))):=fun v1 =>
 if (decide (v1<(List.length x0:Int))) then
  (idx x0 v1).bind fun x2 =>
  (Jag N x2.Name).bind fun r3 =>
  if (!r3) then
   none
  else
   (slc x0 0 v1).bind fun s4 =>
   (Jai N s4 x2).bind fun r5 =>
   if r5 then
    none
   else
    if (v1==(IntKind.wrap .i64 ((List.length x0:Int) - 1))) then
     if (decide ((List.length x2.Slots:Int)>0)) then
      none
     else
      some (.inl (IntKind.wrap .i64 (v1+1)))
    else
     none
 else
  some (.inr ())
def Jaj (N:Nat) (x0:(List Yn)):Option (Int) :=
 if ((List.length x0:Int)==0) then
  none
 else
  if (decide ((List.length x0:Int)>64)) then
   none
  else
   (Jg (Qu5 N x0) N 0).bind fun _ =>
   some 0
def Qu6 (N:Nat) (x0:(List Int)):(Unit)→Option ((Unit)⊕((Unit))):=fun _ =>
 if (decide (0<(List.length x0:Int))) then
  none
 else
  some (.inr ())
def Jak (N:Nat) (x0:(List Int)) (x1:Int):Option (Int) :=
 (Jg (Qu6 N x0) N ()).bind fun _ =>
 some (-1)
def Jal (N:Nat) (x0:(List Int)) (x1:Int):Option (Bool) :=
 (Jak N x0 x1).bind fun r1 =>
 some (decide (r1≥0))
def Jam (N:Nat) (x0:Int):Option (Int) :=
 if ((decide (x0<0))||(decide (x0≥146097))) then
  none
 else
  some (Int.tmod (IntKind.wrap .i64 (x0+5)) 7)
def Jan (N:Nat) (x0:(List Int)) (x1:Int):Option (Int) :=
 (Jal N x0 x1).bind fun r1 =>
 if r1 then
  none
 else
  (Jam N x1).bind fun r2 =>
  (Qta .i64 1 r2).bind fun n3 =>
  some n3
def Qu7 (N:Nat) (x0:(List Zn)):(Unit)→Option ((Unit)⊕((Unit))):=fun _ =>
 if (decide (0<(List.length x0:Int))) then
  none
 else
  some (.inr ())
def Jao (N:Nat) (x0:(List Zn)) (m5000:Int) (m5001:Int):Option (Int) :=
 (Jg (Qu7 N x0) N ()).bind fun _ =>
 some (-1)
def Jap (N:Nat) (x0:(List Zn)) (m5000:Int) (m5001:Int):Option (Bool) :=
 (Jao N x0 m5000 m5001).bind fun r1 =>
 some (decide (r1≥0))
def Qu8 (N:Nat) (x0:(List Yn)) (x1:Int) (x2:Int):(Int)→Option ((Int)⊕((Unit))):=fun v1 =>
 if (decide (v1<(List.length x0:Int))) then
  (idx x0 v1).bind fun x3 =>
  (Jap N x3.Slots x1 x2).bind fun r4 =>
  if r4 then
   none
  else
   some (.inl (IntKind.wrap .i64 (v1+1)))
 else
  some (.inr ())
def Jaq (N:Nat) (x0:(List Yn)) (x1:Int) (x2:Int):Option (Str) :=
 (Jg (Qu8 N x0 x1 x2) N 0).bind fun _ =>
 (idx x0 (IntKind.wrap .i64 ((List.length x0:Int) - 1))).bind fun x5 =>
 some x5.Name
def Jar (N:Nat) (x0:(List Yn)) (x1:(List Int)) (x2:Int):Option (Str) :=
 (Jaj N x0).bind fun r1 =>
 if (((r1 != 0)||(decide (x2<0)))||(decide (x2≥12622780800))) then
  none
 else
  (Jan N x1 (IntKind.wrap .i64 (Int.tdiv x2 86400))).bind fun r2 =>
  (Jaq N x0 r2 (IntKind.wrap .i64 (Int.tdiv (Int.tmod x2 86400) 60))).bind fun r3 =>
  some r3
def Jas (N:Nat) (x0:Yz) (m5000:Int) (m5001:Str) (m5002:Str):Option (Bool) :=
 some (((x0.Kind==m5000)&&((x0.Zone==m5001)||(x0.Zone==([]:Str))))&&((x0.Band==m5002)||(x0.Band==([]:Str))))
def Qu9 (N:Nat) (x0:Qu) (x1:Int) (x2:Str) (x3:Str):(Int×Str×Str×Int)→Option ((Int×Str×Str×Int)⊕((Bool×Int×Str×Str×Int×(List Jk)))):=fun (v1,v2,v3,v4) =>
 if (decide (0<(List.length x0.Rates:Int))) then
  (idx x0.Rates 0).bind fun x5 =>
  (Jas N x5 x1 x2 x3).bind fun r6 =>
  if r6 then
   (app 24 ([]:(List Jk)) x5.Steps).bind fun q7 =>
   some (.inr (true,x5.Kind,x5.Zone,x5.Band,x5.Setup,q7))
  else
   none
 else
  none
def Jat (N:Nat) (x0:Qu) (x1:Int) (x2:Str) (x3:Str):Option (Yz×Bool) :=
 (Jg (Qu9 N x0 x1 x2 x3) N (0,([]:Str),([]:Str),0)).bind fun (v8,v9,v10,v11,v12,v13) =>
 some ((v9,v10,v11,v12,v13),v8)
def Z61 (N:Nat) (x0:J2) (x1:Qq) (x2:Int) (x3:Int) (x4:Str) (x5:Int):Option (Int×Int×Int×Str×Str×Int×Int×Str×Str×Int×Int×Int×Int×(List Jk)) :=
 if ((decide (x5<0))||(decide (x5≥12622780800))) then
  none
 else
  if ((decide (x3<1))||(decide (x3≥5))) then
   none
  else
   (Q5t N x4).bind fun r1 =>
   if ((!r1)&&(!((x4==([]:Str))&&((x3==3)||(x3==4))))) then
    none
   else
    (Q5w N x0.Events x2 x5).bind fun (r2,r3) =>
    (Q98 N x0.Events x2 x5).bind fun (r4,r5) =>
    if ((!r3)||(!r5)) then
     none
    else
     if r2.Suspended then
      none
     else
      (Jac N x0.Tariffs r2.Plan x5).bind fun (r6,r7,r8,r9,r10,r11) =>
      if (!r9) then
       none
      else
       (Jaf N ([]:(List Kp)) x4).bind fun (r12,r13) =>
       (Jar N r10 x0.Holidays x5).bind fun r18 =>
       (Jat N (r6,r7,r8,([]:(List Kp)),r10,r11,([]:(List Vx))) x3 r12 r18).bind fun (r19,r20) =>
       if (!r20) then
        none
       else
        (Yc 24 r19.Steps).bind fun r21 =>
        some (r4.Account,x2,x3,r12,r6,r7,r19.Kind,r19.Zone,r19.Band,r19.Setup,0,0,0,r21)
def Q5y (N:Nat) (x0:Qg):Option (Qg) :=
 (Yc 48 x0.Takes).bind fun r1 =>
 (Yc 24 x0.Meter.Rate.Steps).bind fun r2 =>
 some (x0.Id,x0.Seq,x0.Start,x0.Until,(x0.Meter.Account,x0.Meter.Sub,x0.Meter.Kind,x0.Meter.Zone,x0.Meter.Plan,x0.Meter.Version,(x0.Meter.Rate.Kind,x0.Meter.Rate.Zone,x0.Meter.Rate.Band,x0.Meter.Rate.Setup,r2),x0.Meter.Free,x0.Meter.Paid),x0.Granted,r1,x0.Held,x0.Spent,x0.Closed,x0.Last)
def Q5z (N:Nat) (r1:(List Ql)):(Unit)→Option ((Unit)⊕((Unit))):=fun _ =>
 if (decide (0<(List.length r1:Int))) then
  none
 else
  some (.inr ())
def Z32 (N:Nat) (x0:Qq):Option (Qq) :=
 (Yc 120 x0.Buckets).bind fun r1 =>
 (Yc 40 x0.Wallets).bind fun r2 =>
 (Yc 40 x0.Counters).bind fun r3 =>
 (Jg (Q5z N r1) N ()).bind fun _ =>
 some (r1,r2,r3)
def Z62 (N:Nat) (x0:Qq) (x1:Qg):Option (Yv) :=
 (Q5y N x1).bind fun r1 =>
 (Z32 N x0).bind fun r2 =>
 some (r1,r2)
def Qva (N:Nat) (x0:(List Qr)) (x1:Int):(Unit)→Option ((Unit)⊕((Int))):=fun _ =>
 if (decide (0<(List.length x0:Int))) then
  (idx x0 0).bind fun x2 =>
  if ((x2.Kind==1)&&(x2.Account==x1)) then
   some (.inr x2.Value)
  else
   none
 else
  none
def Jau (N:Nat) (x0:(List Qr)) (x1:Int):Option (Int) :=
 (Jg (Qva N x0 x1) N ()).bind fun v3 =>
 some v3
def Qvb (N:Nat) (x0:(List Qr)) (x1:Int):(Int×(List (Int×Bool)))→Option ((Int×(List (Int×Bool)))⊕((Unit))):=fun (v2,v3) =>
 if (decide (v2<(List.length x0:Int))) then
  (idx x0 v2).bind fun x4 =>
  (if ((x4.Kind==3)&&(x4.Account==x1)) then
   some (Yx (k:=(.int .i64)) x4.Sub true v3)
  else
   some v3:Option (((List (Int×Bool))))).bind fun v5 =>
  (if ((x4.Kind != 8)||(!((Qx (k:=(.int .i64)) x4.Sub v5).getD false))) then
   some true
  else
   none:Option (Bool)).bind fun v6 =>
  if v6 then
   some (.inl ((IntKind.wrap .i64 (v2+1)),v5))
  else
   none
 else
  some (.inr ())
def Jav (N:Nat) (x0:(List Qr)) (x1:Int):Option (Unit) :=
 (Jg (Qvb N x0 x1) N (0,([]:List (Int×Bool)))).bind fun _ =>
 some ()
def Qvc (N:Nat) (x0:(List Jz)):(Unit)→Option ((Unit)⊕((Unit))):=fun _ =>
 if (decide (0<(List.length x0:Int))) then
  none
 else
  some (.inr ())
def Jaw (N:Nat) (x0:(List Jz)) (x1:Int) (m5001:(List Yk)):Option ((List Yk)) :=
 (Jg (Qvc N x0) N ()).bind fun _ =>
 some m5001
def Qgv (N:Nat) (x0:(List Jz)):(Unit)→Option ((Unit)⊕((Unit))):=fun _ =>
 if (decide (0<(List.length x0:Int))) then
  none
 else
  some (.inr ())
def Qi9 (N:Nat) (x0:(List Jz)) (x1:Int) (m5001:(List Yk)):Option (Unit) :=
 (Jg (Qgv N x0) N ()).bind fun _ =>
 some ()
def Jax (N:Nat) (x0:Int):Option (Int) :=
 if (decide (x0≥4294967296)) then
  none
 else
  if (decide (x0≥65536)) then
   none
  else
   if (decide (x0≥256)) then
    none
   else
    (Qoe ([0,1,2,2,3,3,3,3,4,4,4,4,4,4,4,4,5,5,5,5,5,5,5,5,5,5,5,5,5,5,5,5,6,6,6,6,6,6,6,6,6,6,6,6,6,6,6,6,6,6,6,6,6,6,6,6,6,6,6,6,6,6,6,6,7,7,7,7,7,7,7,7,7,7,7,7,7,7,7,7,7,7,7,7,7,7,7,7,7,7,7,7,7,7,7,7,7,7,7,7,7,7,7,7,7,7,7,7,7,7,7,7,7,7,7,7,7,7,7,7,7,7,7,7,7,7,7,7,8,8,8,8,8,8,8,8,8,8,8,8,8,8,8,8,8,8,8,8,8,8,8,8,8,8,8,8,8,8,8,8,8,8,8,8,8,8,8,8,8,8,8,8,8,8,8,8,8,8,8,8,8,8,8,8,8,8,8,8,8,8,8,8,8,8,8,8,8,8,8,8,8,8,8,8,8,8,8,8,8,8,8,8,8,8,8,8,8,8,8,8,8,8,8,8,8,8,8,8,8,8,8,8,8,8,8,8,8,8,8,8,8,8,8,8,8,8,8,8,8,8,8,8,8,8,8,8]:Str) (IntKind.wrap .u8 x0)).bind fun c1 =>
    some (IntKind.wrap .i64 (0+(IntKind.wrap .i64 c1)))
def Jay (N:Nat) (x0:Int):Option (Int) :=
 (Jax N x0).bind fun r1 =>
 some r1
def Qvd (N:Nat) (x1:Int) (x2:Int):(Unit)→Option ((Unit)⊕((Unit))):=fun _ =>
 if (decide ((IntKind.wrap .i64 (x1+1))<x2)) then
  none
 else
  some (.inr ())
def Jaz (N:Nat) (x0:(List Yk)) (x1:Int) (x2:Int):Option (Unit) :=
 (Jg (Qvd N x1 x2) N ()).bind fun _ =>
 some ()
def Qve (N:Nat) (x2:Int) (x1:Int) (x0:(List Yk)):(Unit)→Option ((Unit)⊕((Unit))):=fun _ =>
 if (decide ((IntKind.wrap .i64 (x2 - x1))≤12)) then
  (Jaz N x0 x1 x2).bind fun _ =>
  some (.inr ())
 else
  none
def Ja0 (N:Nat) (x0:(List Yk)) (x1:Int) (x2:Int) (x3:Int):Option (Unit) :=
 (Jg (Qve N x2 x1 x0) N ()).bind fun _ =>
 some ()
def Ja1 (N:Nat) (x0:(List Yk)):Option (Unit) :=
 (Jay N (IntKind.wrap .u64 (List.length x0:Int))).bind fun r1 =>
 (Ja0 N x0 0 (List.length x0:Int) r1).bind fun _ =>
 some ()
def Qvf (N:Nat) (r1:(List Yk)):(Unit)→Option ((Unit)⊕((Unit))):=fun _ =>
 if (decide (0<(List.length r1:Int))) then
  none
 else
  some (.inr ())
def Ja2 (N:Nat) (x0:(List Jz)) (x1:(List Jz)):Option (Unit) :=
 (Jaw N x0 0 ([]:(List Yk))).bind fun r1 =>
 (Qi9 N x1 1 r1).bind fun _ =>
 (Ja1 N r1).bind fun _ =>
 (Jg (Qvf N r1) N ()).bind fun _ =>
 some ()
def Ja3 (N:Nat) (x0:(List Jz)):Option (Unit) :=
 (Ja2 N x0 ([]:(List Jz))).bind fun _ =>
 some ()
def Qvg (N:Nat) (x0:(List Vl)):(Unit)→Option ((Unit)⊕((Unit))):=fun _ =>
 if (decide (0<(List.length x0:Int))) then
  none
 else
  some (.inr ())
def Qvh (N:Nat):(Unit)→Option ((Unit)⊕((Unit))):=fun _ =>
 if (decide (0<((0:Nat):Int))) then
  none
 else
  some (.inr ())
def Ja4 (N:Nat) (x0:(List Vl)) (x1:Int) (x2:Int):Option (Unit) :=
 (Jg (Qvg N x0) N ()).bind fun _ =>
 (Ja3 N ([]:(List Jz))).bind fun _ =>
 (Jg (Qvh N) N ()).bind fun _ =>
 some ()
def Qvi (N:Nat) (x2:Qq):(Unit)→Option ((Unit)⊕((Unit))):=fun _ =>
 if (decide (0<(List.length x2.Buckets:Int))) then
  none
 else
  some (.inr ())
def Qvj (N:Nat):(Unit)→Option ((Unit)⊕((Unit))):=fun _ =>
 if (decide (0<((0:Nat):Int))) then
  none
 else
  some (.inr ())
def Ja5 (N:Nat) (x0:(List Qr)) (x1:(List Q4)) (x2:Qq) (x3:Int) (x4:Int):Option (Qq) :=
 (Jg (Qvi N x2) N ()).bind fun _ =>
 (app 40 ([]:(List Jj)) x2.Wallets).bind fun q1 =>
 (app 40 ([]:(List Jb)) x2.Counters).bind fun q2 =>
 (Jau N x0 x3).bind fun r3 =>
 if (((decide (x4≥0))&&(decide (x4<12622780800)))&&(decide (r3>0))) then
  (Jav N x0 x3).bind fun _ =>
  (Ja4 N ([]:(List Vl)) r3 x4).bind fun _ =>
  (Jg (Qvj N) N ()).bind fun _ =>
  some (([]:(List Ql)),q1,q2)
 else
  none
def Qvk (N:Nat) (x0:(List Ql)):(Unit)→Option ((Unit)⊕((Unit))):=fun _ =>
 if (decide (0<(List.length x0:Int))) then
  none
 else
  some (.inr ())
def Ja6 (N:Nat) (x0:(List Ql)):Option ((List Ql)) :=
 (Jg (Qvk N x0) N ()).bind fun _ =>
 some ([]:(List Ql))
def Ja7 (N:Nat) (x0:Qq):Option ((List Ql)×(List Jj)×(List Jb)) :=
 (Ja6 N x0.Buckets).bind fun r1 =>
 (app 40 ([]:(List Jj)) x0.Wallets).bind fun q2 =>
 (app 40 ([]:(List Jb)) x0.Counters).bind fun q3 =>
 some (r1,q2,q3)
def Qvl (N:Nat) (x0:(List Qr)) (x1:Int) (x2:Int):(Unit)→Option ((Unit)⊕((Bool))):=fun _ =>
 if (decide (0<(List.length x0:Int))) then
  (idx x0 0).bind fun x3 =>
  if (((x3.Kind==1)&&(x3.Account==x1))&&(decide (x3.At≤x2))) then
   some (.inr (x3.Name==([112,114,101,112,97,105,100]:Str)))
  else
   none
 else
  none
def Ja8 (N:Nat) (x0:(List Qr)) (x1:Int) (x2:Int):Option (Bool) :=
 (Jg (Qvl N x0 x1 x2) N ()).bind fun v4 =>
 some v4
def Ja9 (N:Nat) (x0:(List Qr)) (x1:Qq) (x2:Int) (x3:Int):Option (Qq) :=
 (Ja7 N x1).bind fun (r1,r2,r3) =>
 (if ((decide (x3<0))||(decide (x3≥12622780800))) then
  some true
 else
  (Ja8 N x0 x2 x3).bind fun r5 =>
  some (!r5):Option (Bool)).bind fun v6 =>
 if v6 then
  some (r1,r2,r3)
 else
  none
def Qgw (N:Nat) (r1:(List Vc)) (x2:Int):(Jz×Str×Bool×Bool)→Option ((Jz×Str×Bool×Bool)⊕((Bool×Vc))):=fun (v2,v3,v4,v5) =>
 if (decide (0<(List.length r1:Int))) then
  (idx r1 0).bind fun _ =>
  (idx r1 0).bind fun x6 =>
  (Q5v N x6.Period x2).bind fun r7 =>
  if r7 then
   some (.inr (true,x6))
  else
   none
 else
  none
def Qja (N:Nat) (x0:(List Qr)) (x1:Int) (x2:Int):Option (Vc×Bool) :=
 (Q5u N x0 x1).bind fun r1 =>
 (Jg (Qgw N r1 x2) N ((0,0),([]:Str),false,false)).bind fun (v8,v9) =>
 some (v9,v8)
def Qgx (N:Nat) (x0:Int) (x1:Int):Option (Bool) :=
 some ((decide (x0≥0))&&(decide (x0≤x1)))
def Q50 (N:Nat) (x0:(List Ql)):(Unit)→Option ((Unit)⊕((Unit))):=fun _ =>
 if (decide (0<(List.length x0:Int))) then
  none
 else
  some (.inr ())
def Z69 (N:Nat) (x0:(List Ql)):Option (Unit) :=
 (Jg (Q50 N x0) N ()).bind fun _ =>
 some ()
def Qvm (N:Nat) (x1:Int) (x2:Int):(Unit)→Option ((Unit)⊕((Unit))):=fun _ =>
 if (decide (x1<x2)) then
  none
 else
  some (.inr ())
def Jba (N:Nat) (x0:(List Ql)) (x1:Int) (x2:Int):Option (Unit) :=
 if (decide ((IntKind.wrap .i64 (x2 - x1))<2)) then
  (Jg (Qvm N x1 x2) N ()).bind fun _ =>
  some ()
 else
  none
def Qvn (N:Nat):(Unit)→Option ((Unit)⊕((Unit))):=fun _ =>
 if (decide (0<((0:Nat):Int))) then
  none
 else
  some (.inr ())
def Jbb (N:Nat) (x0:(List Ql)) (x1:Int) (x2:Int) (x3:Int) (x4:Str) (x5:Bool) (x6:Int) (x7:Int):Option (Int) :=
 (Z69 N x0).bind fun _ =>
 (Jba N x0 0 (List.length x0:Int)).bind fun _ =>
 (Jg (Qvn N) N ()).bind fun _ =>
 some (if 0>x7 then 0 else x7)
def Qvo (N:Nat) (r1:(List Q7)) (x1:Int):(Int×Int×Int×Bool×Bool)→Option ((Int×Int×Int×Bool×Bool)⊕((Bool×Q7))):=fun (v3,v4,v5,v6,v7) =>
 if (decide (0<(List.length r1:Int))) then
  (idx r1 0).bind fun _ =>
  (idx r1 0).bind fun x8 =>
  if (x8.Id==x1) then
   some (.inr (true,x8))
  else
   none
 else
  none
def Jbc (N:Nat) (x0:(List Qr)) (x1:Int) (x2:Int):Option (Q7×Bool) :=
 (Quu N x0 x2).bind fun (r1,r2) =>
 (Jg (Qvo N r1 x1) N (0,0,0,false,false)).bind fun (v9,v10) =>
 some (v10,v9)
def Jbd (N:Nat) (x0:J2) (x1:Qq) (x2:Yt) (x3:Int):Option (Int) :=
 (Jbc N x0.Events x2.Account x3).bind fun (r1,r2) =>
 if ((!r2)||(!r1.Prepaid)) then
  some 1125899906842624
 else
  none
def Qvp (N:Nat) (x1:(List Int)) (x0:Int):(Int)→Option ((Int)⊕((Unit))):=fun v1 =>
 if (decide (v1<(List.length x1:Int))) then
  (idx x1 v1).bind fun x2 =>
  if ((decide (x2<0))||(decide (x2>x0))) then
   none
  else
   some (.inl (IntKind.wrap .i64 (v1+1)))
 else
  some (.inr ())
def Q51 (N:Nat) (x0:Int) (x1:(List Int)):Option (Bool) :=
 (Jg (Qvp N x1 x0) N 0).bind fun _ =>
 some true
def Qvq (N:Nat) (x0:(List Jk)):(Int×Int)→Option ((Int×Int)⊕((Unit))):=fun (v1,v2) =>
 if (decide (v2<(List.length x0:Int))) then
  (idx x0 v2).bind fun x3 =>
  (Q51 N 1099511627776 ([x3.Upto,x3.Quantum]:(List Int))).bind fun r4 =>
  (if ((!r4)||(x3.Quantum==0)) then
   some true
  else
   (Q51 N 1125899906842624 ([x3.Price]:(List Int))).bind fun r6 =>
   some (!r6):Option (Bool)).bind fun v7 =>
  if v7 then
   none
  else
   if ((x3.Upto==0) != (v2==(IntKind.wrap .i64 ((List.length x0:Int) - 1)))) then
    none
   else
    if ((x3.Upto != 0)&&(decide (x3.Upto≤v1))) then
     none
    else
     some (.inl (x3.Upto,(IntKind.wrap .i64 (v2+1))))
 else
  some (.inr ())
def Jbe (N:Nat) (x0:(List Jk)):Option (Int) :=
 if ((List.length x0:Int)==0) then
  none
 else
  if (decide ((List.length x0:Int)>64)) then
   none
  else
   (Jg (Qvq N x0) N (0,0)).bind fun _ =>
   some 0
def Qvr (N:Nat) (x0:(List Jk)) (x1:Int):(Int×Int×Int)→Option ((Int×Int×Int)⊕((Int))):=fun (v1,v2,v3) =>
 if (decide (v3<(List.length x0:Int))) then
  (idx x0 v3).bind fun x4 =>
  if (x4.Upto != 0) then
   none
  else
   if (decide (x1≤v2)) then
    some (.inr v1)
   else
    (Qog .i64 (IntKind.wrap .i64 ((IntKind.wrap .i64 ((IntKind.wrap .i64 (x1 - v2))+x4.Quantum)) - 1)) x4.Quantum).bind fun n5 =>
    (Qog .i64 (IntKind.wrap .i64 (1125899906842624 - v1)) n5).bind fun n6 =>
    if (decide (x4.Price>n6)) then
     none
    else
     some (.inl ((IntKind.wrap .i64 (v1+(IntKind.wrap .i64 (n5*x4.Price)))),x1,(IntKind.wrap .i64 (v3+1))))
 else
  some (.inr v1)
def Jbf (N:Nat) (x0:(List Jk)) (x1:Int):Option (Int×Bool) :=
 (Jg (Qvr N x0 x1) N (0,0,0)).bind fun v7 =>
 some (v7,true)
def Jbg (N:Nat) (x0:(List Jk)) (x1:Int):Option (Int×Int) :=
 (Jbe N x0).bind fun r1 =>
 if (r1 != 0) then
  none
 else
  if ((decide (x1<0))||(decide (x1>1099511627776))) then
   none
  else
   (Jbf N x0 x1).bind fun (r2,r3) =>
   if (!r3) then
    none
   else
    some (r2,0)
def Q52 (N:Nat) (x0:Ky) (x1:Int):Option (Int×Int) :=
 (Jbg N x0.Meter.Rate.Steps x1).bind fun (r1,r2) =>
 if (r2 != 0) then
  none
 else
  if (x1==0) then
   some (0,0)
  else
   if (decide ((IntKind.wrap .i64 (x0.Meter.Rate.Setup+r1))>1125899906842624)) then
    none
   else
    some ((IntKind.wrap .i64 (x0.Meter.Rate.Setup+r1)),0)
def Q53 (N:Nat) (x0:Ky) (x1:Int):Option (Int×Int) :=
 (Qgx N x1 1099511627776).bind fun r1 =>
 (if (!r1) then
  some true
 else
  (Qgx N x0.Meter.Paid 1099511627776).bind fun r3 =>
  some (!r3):Option (Bool)).bind fun v4 =>
 (if (v4||(decide ((IntKind.wrap .i64 (x0.Meter.Paid+x1))>1099511627776))) then
  some true
 else
  (Qgx N x0.Meter.Rate.Setup 1125899906842624).bind fun r6 =>
  some (!r6):Option (Bool)).bind fun v7 =>
 if v7 then
  none
 else
  (Q52 N x0 (IntKind.wrap .i64 (x0.Meter.Paid+x1))).bind fun (r8,r9) =>
  if (r9 != 0) then
   none
  else
   (Q52 N x0 x0.Meter.Paid).bind fun (r10,r11) =>
   if (r11 != 0) then
    none
   else
    some ((IntKind.wrap .i64 (r8 - r10)),0)
def Jbh (N:Nat) (x0:Int) (m5000:Ky) (m5001:Int):Option (Bool) :=
 (Q53 N m5000 x0).bind fun (r1,r2) =>
 some ((r2==0)&&(decide (r1≤m5001)))
def Qvs (N:Nat) (x1:Int) (x0:Ky) (x2:Int):(Int)→Option ((Int)⊕((Int))):=fun v1 =>
 if (decide (v1<x1)) then
  (Jbh N (IntKind.wrap .i64 (x1 - (IntKind.wrap .i64 (Int.tdiv (IntKind.wrap .i64 (x1 - v1)) 2)))) x0 x2).bind fun r2 =>
  if r2 then
   some (.inl (IntKind.wrap .i64 (x1 - (IntKind.wrap .i64 (Int.tdiv (IntKind.wrap .i64 (x1 - v1)) 2)))))
  else
   none
 else
  some (.inr v1)
def Jbi (N:Nat) (x0:Ky) (x1:Int) (x2:Int):Option (Int) :=
 if (decide (x1≤0)) then
  none
 else
  (Jg (Qvs N x1 x0 x2) N 0).bind fun v3 =>
  some v3
def Jbj (N:Nat) (x0:J2) (x1:Qq) (x2:Yt) (x3:Int) (x4:Int):Option (Int×Int) :=
 if ((((decide (x4<1))||(decide (x4>1099511627776)))||(decide (x3<0)))||(decide (x3≥12622780800))) then
  none
 else
  (Qgx N x2.Free 1099511627776).bind fun r1 =>
  if r1 then
   if (decide ((if (IntKind.wrap .i64 (1099511627776 - x2.Free))<x4 then (IntKind.wrap .i64 (1099511627776 - x2.Free)) else x4)>0)) then
    (Q5w N x0.Events x2.Sub x3).bind fun (r2,r3) =>
    (Jbb N x1.Buckets x2.Account x2.Sub x2.Kind x2.Zone r2.Family x3 (if (IntKind.wrap .i64 (1099511627776 - x2.Free))<x4 then (IntKind.wrap .i64 (1099511627776 - x2.Free)) else x4)).bind fun r4 =>
    (Jbd N x0 x1 x2 x3).bind fun r5 =>
    (Jbi N x2 (IntKind.wrap .i64 (x4 - (IntKind.wrap .i64 ((if (IntKind.wrap .i64 (1099511627776 - x2.Free))<x4 then (IntKind.wrap .i64 (1099511627776 - x2.Free)) else x4) - r4)))) r5).bind fun r6 =>
    some ((IntKind.wrap .i64 ((if (IntKind.wrap .i64 (1099511627776 - x2.Free))<x4 then (IntKind.wrap .i64 (1099511627776 - x2.Free)) else x4) - r4)),r6)
   else
    none
  else
   none
def Qgy (N:Nat) (r1:(List Q7)) (x1:Int):(Int×Int×Int×Bool×Bool)→Option ((Int×Int×Int×Bool×Bool)⊕((Bool×Q7))):=fun (v3,v4,v5,v6,v7) =>
 if (decide (0<(List.length r1:Int))) then
  (idx r1 0).bind fun _ =>
  (idx r1 0).bind fun x8 =>
  if (x8.Id==x1) then
   some (.inr (true,x8))
  else
   none
 else
  none
def Qjb (N:Nat) (x0:(List Qr)) (x1:Int) (x2:Int):Option (Q7×Bool) :=
 (Quu N x0 x2).bind fun (r1,r2) =>
 (Jg (Qgy N r1 x1) N (0,0,0,false,false)).bind fun (v9,v10) =>
 some (v10,v9)
def Z63 (N:Nat) (x1:J2) (x2:Int) (x3:Int) (m5000:Yv):Option (Int×Yv) :=
 (Ja5 N x1.Events x1.Products m5000.state m5000.Session.Meter.Account x2).bind fun r1 =>
 (Ja9 N x1.Events r1 m5000.Session.Meter.Account x2).bind fun r2 =>
 (Qja N x1.Events m5000.Session.Meter.Sub x2).bind fun (r3,r4) =>
 if (!r4) then
  none
 else
  if r3.Suspended then
   none
  else
   (Jbj N x1 r2 m5000.Session.Meter x2 x3).bind fun (r5,r6) =>
   if ((IntKind.wrap .i64 (r5+r6))==0) then
    none
   else
    if (decide (r5>0)) then
     none
    else
     (Qjb N x1.Events m5000.Session.Meter.Account x2).bind fun (r7,r8) =>
     if (r8&&r7.Prepaid) then
      none
     else
      some (0,((m5000.Session.Id,m5000.Session.Seq,m5000.Session.Start,(if 12622780800<(IntKind.wrap .i64 (x2+3600)) then 12622780800 else (IntKind.wrap .i64 (x2+3600))),m5000.Session.Meter,(IntKind.wrap .i64 (r5+r6)),m5000.Session.Takes,m5000.Session.Held,m5000.Session.Spent,m5000.Session.Closed,m5000.Session.Last),r2))
def Z67 (N:Nat) (x1:Q6) (x2:Int) (x3:Int) (x4:Int) (m5000:Yv):Option (Qq×Qg×Ju×Yv) :=
 some (m5000.state,(m5000.Session.Id,x1.Seq,m5000.Session.Start,m5000.Session.Until,m5000.Session.Meter,m5000.Session.Granted,m5000.Session.Takes,m5000.Session.Held,m5000.Session.Spent,m5000.Session.Closed,(x1.Session,x1.Seq,x2,x3,x4)),(x1.Session,x1.Seq,x2,x3,x4),((m5000.Session.Id,x1.Seq,m5000.Session.Start,m5000.Session.Until,m5000.Session.Meter,m5000.Session.Granted,m5000.Session.Takes,m5000.Session.Held,m5000.Session.Spent,m5000.Session.Closed,(x1.Session,x1.Seq,x2,x3,x4)),m5000.state))
def Z64 (N:Nat) (x1:Q6) (x2:Int) (m5000:Yv):Option (Qq×Qg×Ju×Yv) :=
 if (decide (m5000.Session.Granted>0)) then
  (Z67 N x1 m5000.Session.Granted m5000.Session.Until x2 m5000).bind fun (r1,r2,r3,r4) =>
  some (r1,r2,r3,r4)
 else
  none
def Z29 (N:Nat) (x0:J2) (x1:Qq) (x2:Q6):Option (Qq×Qg×Ju) :=
 if (x2.Kind==4) then
  none
 else
  if ((x2.Kind != 1)&&(x2.Kind != 4)) then
   none
  else
   if ((decide (x2.Session<1))||(decide (x2.Session>999999999))) then
    none
   else
    if (x2.Seq != 1) then
     none
    else
     if (((x2.Used != 0)||(decide (x2.Ask<0)))||(decide (x2.Ask>1099511627776))) then
      none
     else
      if (0 != 0) then
       none
      else
       (Z61 N x0 x1 x2.Sub x2.Usage x2.B x2.At).bind fun (r1,r2,r3,r4,r5,r6,r7,r8,r9,r10,r11,r12,r13,r14) =>
       if (r13 != 0) then
        none
       else
        (Z62 N x1 (x2.Session,0,x2.At,0,(r1,r2,r3,r4,r5,r6,(r7,r8,r9,r10,r14),r11,r12),0,([]:(List J0)),0,0,false,(0,0,0,0,0))).bind fun r15 =>
        (Z63 N x0 x2.At x2.Ask r15).bind fun (r16,r17) =>
        if (x2.Kind==1) then
         (Z64 N x2 r16 r17).bind fun (r18,r19,r20,r21) =>
         some (r18,r19,r20)
        else
         none
def Z38 (N:Nat) (x1:Q6) (m5000_0_0:(List Qr)) (m5000_0_3:(List Vy)) (m5000_0_4:(List Int)) (m5000_1:Qq) (m5001:(List Qu)) (m5002:(List Q4)) (m5003:(List Qw)) (m5004:(List (Int×Qg))):Option (Ju×(List Qr)×(List Vy)×(List Int)×Qq×(List (Int×Qg))×(List Qu)×(List Q4)×(List Qw)) :=
 (Z29 N (m5000_0_0,m5001,m5002,m5000_0_3,m5000_0_4,m5003) m5000_1 x1).bind fun (r4,r5,r6) =>
 if (r5.Id==0) then
  none
 else
  some (r6,m5000_0_0,m5000_0_3,m5000_0_4,r4,(Yx (k:=(.int .i64)) x1.Session r5 (Yx (k:=(.int .i64)) x1.Session ((Qx (k:=(.int .i64)) x1.Session (Yx (k:=(.int .i64)) x1.Session (0,0,0,0,(0,0,0,([]:Str),([]:Str),0,(0,([]:Str),([]:Str),0,([]:(List Jk))),0,0),0,([]:(List J0)),0,0,false,(0,0,0,0,0)) m5004)).getD (0,0,0,0,(0,0,0,([]:Str),([]:Str),0,(0,([]:Str),([]:Str),0,([]:(List Jk))),0,0),0,([]:(List J0)),0,0,false,(0,0,0,0,0))) (Yx (k:=(.int .i64)) x1.Session (0,0,0,0,(0,0,0,([]:Str),([]:Str),0,(0,([]:Str),([]:Str),0,([]:(List Jk))),0,0),0,([]:(List J0)),0,0,false,(0,0,0,0,0)) m5004))),m5001,m5002,m5003)
def Z37 (N:Nat) (x0:Q6) (x1:Int):Option (Ju) :=
 some (x0.Session,x0.Seq,0,0,x1)
def Z68 (N:Nat) (x0:Qg) (x1:Q6) (x2:Int) (x3:Int):Option (Int) :=
 if (x1.Kind != x2) then
  none
 else
  if (x1.Session != x0.Id) then
   none
  else
   if x0.Closed then
    none
   else
    if (x1.Seq != (IntKind.wrap .i64 (x0.Seq+1))) then
     some 20
    else
     none
def Ql7 (N:Nat) (r1:(List Ql)):(Unit)→Option ((Unit)⊕((Unit))):=fun _ =>
 if (decide (0<(List.length r1:Int))) then
  none
 else
  some (.inr ())
def Qqu (N:Nat) (x0:Qq):Option (Qq) :=
 (Yc 120 x0.Buckets).bind fun r1 =>
 (Yc 40 x0.Wallets).bind fun r2 =>
 (Yc 40 x0.Counters).bind fun r3 =>
 (Jg (Ql7 N r1) N ()).bind fun _ =>
 some (r1,r2,r3)
def Z60 (N:Nat) (x0:Qq) (x1:Qg) (x2:Q6) (x3:Int):Option (Qq×Qg×Ju) :=
 (Qqu N x0).bind fun r5 =>
 (Q5y N x1).bind fun r6 =>
 some (r5,r6,(x2.Session,x2.Seq,0,0,x3))
def Z30 (N:Nat) (x0:J2) (x1:Qq) (x2:Qg) (x3:Q6):Option (Qq×Qg×Ju) :=
 (Z68 N x2 x3 2 1099511627776).bind fun r1 =>
 if (r1 != 0) then
  (Z60 N x1 x2 x3 r1).bind fun (r2,r3,r4) =>
  some (r2,r3,r4)
 else
  none
def Qqv (N:Nat) (x1:Q6) (m5000_0_0:(List Qr)) (m5000_0_3:(List Vy)) (m5000_0_4:(List Int)) (m5000_1:Qq) (m5001:(List Qu)) (m5002:(List Q4)) (m5003:(List Qw)) (m5004:(List (Int×Qg))):Option (Ju×(List Qr)×(List Qu)×(List Q4)×(List Vy)×(List Int)×(List Qw)×Qq×(List (Int×Qg))) :=
 (Qqt N m5000_0_0 m5000_0_3 m5000_0_4 m5000_1 m5001 m5002 m5003 m5004).bind fun r1 =>
 if (!r1) then
  some ((0,0,0,0,0),m5000_0_0,m5001,m5002,m5000_0_3,m5000_0_4,m5003,m5000_1,m5004)
 else
  if ((decide (x1.Kind<1))||(decide (x1.Kind≥5))) then
   none
  else
   if ((Qx (k:=(.int .i64)) x1.Session m5004).isSome&&((((Qx (k:=(.int .i64)) x1.Session m5004).getD (0,0,0,0,(0,0,0,([]:Str),([]:Str),0,(0,([]:Str),([]:Str),0,([]:(List Jk))),0,0),0,([]:(List J0)),0,0,false,(0,0,0,0,0))).Seq)==x1.Seq)) then
    some (((Qx (k:=(.int .i64)) x1.Session m5004).getD (0,0,0,0,(0,0,0,([]:Str),([]:Str),0,(0,([]:Str),([]:Str),0,([]:(List Jk))),0,0),0,([]:(List J0)),0,0,false,(0,0,0,0,0))).Last,m5000_0_0,m5001,m5002,m5000_0_3,m5000_0_4,m5003,m5000_1,m5004)
   else
    if ((x1.Kind==1)||(x1.Kind==4)) then
     if (Qx (k:=(.int .i64)) x1.Session m5004).isSome then
      none
     else
      (Z38 N x1 m5000_0_0 m5000_0_3 m5000_0_4 m5000_1 m5001 m5002 m5003 m5004).bind fun (r2,r3,r4,r5,r6,r7,r8,r9,r10) =>
      some (r2,r3,r8,r9,r4,r5,r10,r6,r7)
    else
     if (!(Qx (k:=(.int .i64)) x1.Session m5004).isSome) then
      (Z37 N x1 11).bind fun r11 =>
      some (r11,m5000_0_0,m5001,m5002,m5000_0_3,m5000_0_4,m5003,m5000_1,m5004)
     else
      if (x1.Kind==3) then
       none
      else
       (Z30 N (m5000_0_0,m5001,m5002,m5000_0_3,m5000_0_4,m5003) m5000_1 ((Qx (k:=(.int .i64)) x1.Session m5004).getD (0,0,0,0,(0,0,0,([]:Str),([]:Str),0,(0,([]:Str),([]:Str),0,([]:(List Jk))),0,0),0,([]:(List J0)),0,0,false,(0,0,0,0,0))) x1).bind fun (r12,r13,r14) =>
       some (r14,m5000_0_0,m5001,m5002,m5000_0_3,m5000_0_4,m5003,r12,(Yx (k:=(.int .i64)) x1.Session r13 m5004))
def L4 (N:Nat) (m5000_0:J2) (m5000_1:Qq) (m5001:(List (Int×Qg))):Option (Bool) :=
 some true
def Qgz (N:Nat) (x1:Q6) (m5000_0:J2) (m5000_1:Qq) (m5001:(List (Int×Qg))):Option (Ju×J2×Qq×(List (Int×Qg))) :=
 (Z29 N m5000_0 m5000_1 x1).bind fun (r1,r2,r3) =>
 if (r2.Id==0) then
  none
 else
  some (r3,m5000_0,r1,(Yx (k:=(.int .i64)) x1.Session r2 (Yx (k:=(.int .i64)) x1.Session ((Qx (k:=(.int .i64)) x1.Session (Yx (k:=(.int .i64)) x1.Session (0,0,0,0,(0,0,0,([]:Str),([]:Str),0,(0,([]:Str),([]:Str),0,([]:(List Jk))),0,0),0,([]:(List J0)),0,0,false,(0,0,0,0,0)) m5001)).getD (0,0,0,0,(0,0,0,([]:Str),([]:Str),0,(0,([]:Str),([]:Str),0,([]:(List Jk))),0,0),0,([]:(List J0)),0,0,false,(0,0,0,0,0))) (Yx (k:=(.int .i64)) x1.Session (0,0,0,0,(0,0,0,([]:Str),([]:Str),0,(0,([]:Str),([]:Str),0,([]:(List Jk))),0,0),0,([]:(List J0)),0,0,false,(0,0,0,0,0)) m5001))))
def Qqw (N:Nat) (x1:Q6) (m5000_0:J2) (m5000_1:Qq) (m5001:(List (Int×Qg))):Option (Ju×J2×Qq×(List (Int×Qg))) :=
 (L4 N m5000_0 m5000_1 m5001).bind fun r1 =>
 if (!r1) then
  some ((0,0,0,0,0),m5000_0,m5000_1,m5001)
 else
  if ((decide (x1.Kind<1))||(decide (x1.Kind≥5))) then
   none
  else
   if ((Qx (k:=(.int .i64)) x1.Session m5001).isSome&&((((Qx (k:=(.int .i64)) x1.Session m5001).getD (0,0,0,0,(0,0,0,([]:Str),([]:Str),0,(0,([]:Str),([]:Str),0,([]:(List Jk))),0,0),0,([]:(List J0)),0,0,false,(0,0,0,0,0))).Seq)==x1.Seq)) then
    some (((Qx (k:=(.int .i64)) x1.Session m5001).getD (0,0,0,0,(0,0,0,([]:Str),([]:Str),0,(0,([]:Str),([]:Str),0,([]:(List Jk))),0,0),0,([]:(List J0)),0,0,false,(0,0,0,0,0))).Last,m5000_0,m5000_1,m5001)
   else
    if ((x1.Kind==1)||(x1.Kind==4)) then
     if (Qx (k:=(.int .i64)) x1.Session m5001).isSome then
      none
     else
      (Qgz N x1 m5000_0 m5000_1 m5001).bind fun (r2,r3,r4,r5) =>
      some (r2,r3,r4,r5)
    else
     if (!(Qx (k:=(.int .i64)) x1.Session m5001).isSome) then
      (Z37 N x1 11).bind fun r6 =>
      some (r6,m5000_0,m5000_1,m5001)
     else
      if (x1.Kind==3) then
       none
      else
       (Z30 N m5000_0 m5000_1 ((Qx (k:=(.int .i64)) x1.Session m5001).getD (0,0,0,0,(0,0,0,([]:Str),([]:Str),0,(0,([]:Str),([]:Str),0,([]:(List Jk))),0,0),0,([]:(List J0)),0,0,false,(0,0,0,0,0))) x1).bind fun (r7,r8,r9) =>
       some (r9,m5000_0,r7,(Yx (k:=(.int .i64)) x1.Session r8 m5001))
def Qg0 (N:Nat) (x1:Q6) (m5000_0:J2) (m5000_1:Qq) (m5001:(List (Int×Qg))):Option (Ju×J2×Qq×(List (Int×Qg))) :=
 (L4 N m5000_0 m5000_1 m5001).bind fun r1 =>
 if (!r1) then
  some ((0,0,0,0,0),m5000_0,m5000_1,m5001)
 else
  if ((decide (x1.Kind<1))||(decide (x1.Kind≥5))) then
   none
  else
   if ((Qx (k:=(.int .i64)) x1.Session m5001).isSome&&((((Qx (k:=(.int .i64)) x1.Session m5001).getD (0,0,0,0,(0,0,0,([]:Str),([]:Str),0,(0,([]:Str),([]:Str),0,([]:(List Jk))),0,0),0,([]:(List J0)),0,0,false,(0,0,0,0,0))).Seq)==x1.Seq)) then
    some (((Qx (k:=(.int .i64)) x1.Session m5001).getD (0,0,0,0,(0,0,0,([]:Str),([]:Str),0,(0,([]:Str),([]:Str),0,([]:(List Jk))),0,0),0,([]:(List J0)),0,0,false,(0,0,0,0,0))).Last,m5000_0,m5000_1,m5001)
   else
    if ((x1.Kind==1)||(x1.Kind==4)) then
     if (Qx (k:=(.int .i64)) x1.Session m5001).isSome then
      none
     else
      (Qgz N x1 m5000_0 m5000_1 m5001).bind fun (r2,r3,r4,r5) =>
      some (r2,r3,r4,r5)
    else
     if (!(Qx (k:=(.int .i64)) x1.Session m5001).isSome) then
      (Z37 N x1 11).bind fun r6 =>
      some (r6,m5000_0,m5000_1,m5001)
     else
      if (x1.Kind==3) then
       none
      else
       (Z30 N m5000_0 m5000_1 ((Qx (k:=(.int .i64)) x1.Session m5001).getD (0,0,0,0,(0,0,0,([]:Str),([]:Str),0,(0,([]:Str),([]:Str),0,([]:(List Jk))),0,0),0,([]:(List J0)),0,0,false,(0,0,0,0,0))) x1).bind fun (r7,r8,r9) =>
       some (r9,m5000_0,r7,(Yx (k:=(.int .i64)) x1.Session r8 m5001))
def Qqx (N:Nat) (m5000:(List (Int×Qg))):Option ((List (Int×Qg))) :=
 some m5000
def Qg1 (N:Nat) (m5000_0:J2) (m5000_1:Qq) (m5001:(List (Int×Qg))):Option ((List Int)×(List (Int×Qg))) :=
 (Qqx N m5001).bind fun r1 =>
 (T9 r1).bind fun r2 =>
 some (r2,r1)
def Jbk (N:Nat) (x0:Yt) (x1:Int) (x2:Int):Option (Int×Int×Int×Str×Str×Int×Int×Str×Str×Int×Int×Int×Int×Int×(List Jk)) :=
 (Qgx N x1 1099511627776).bind fun r1 =>
 (if (!r1) then
  some true
 else
  (Qgx N x0.Free 1099511627776).bind fun r3 =>
  some (!r3):Option (Bool)).bind fun v4 =>
 if (v4||(decide ((IntKind.wrap .i64 (x1+x0.Free))>1099511627776))) then
  none
 else
  (Q53 N x0 x2).bind fun (r5,r6) =>
  if (r6 != 0) then
   none
  else
   (Yc 24 x0.Rate.Steps).bind fun r7 =>
   some (x0.Account,x0.Sub,x0.Kind,x0.Zone,x0.Plan,x0.Version,x0.Rate.Kind,x0.Rate.Zone,x0.Rate.Band,x0.Rate.Setup,(IntKind.wrap .i64 (x0.Free+x1)),(IntKind.wrap .i64 (x0.Paid+x2)),r5,0,r7)
def Qvt (N:Nat) (x0:(List Jj)):(Unit)→Option ((Unit)⊕((Unit))):=fun _ =>
 if (decide (0<(List.length x0:Int))) then
  none
 else
  some (.inr ())
def Jbl (N:Nat) (x0:(List Jj)) (m5001_0_0:Int) (m5001_0_1:Int) (m5001_0_2:Int) (m5001_0_3:Int) (m5001_0_4_0:Int) (m5001_0_4_1:Int) (m5001_0_4_2:Int) (m5001_0_4_3:Str) (m5001_0_4_4:Str) (m5001_0_4_5:Int) (m5001_0_4_6_0:Int) (m5001_0_4_6_1:Str) (m5001_0_4_6_2:Str) (m5001_0_4_6_3:Int) (m5001_0_4_7:Int) (m5001_0_4_8:Int) (m5001_0_5:Int) (m5001_0_6:(List J0)) (m5001_0_7:Int) (m5001_0_8:Int) (m5001_0_9:Bool) (m5001_0_10:Ju) (m5001_1:Qq) (m5002:(List Jk)):Option (Int) :=
 (Jg (Qvt N x0) N ()).bind fun _ =>
 some (-1)
def Jbm (N:Nat) (m5000_0_0:Int) (m5000_0_1:Int) (m5000_0_2:Int) (m5000_0_3:Int) (m5000_0_4_0:Int) (m5000_0_4_1:Int) (m5000_0_4_2:Int) (m5000_0_4_3:Str) (m5000_0_4_4:Str) (m5000_0_4_5:Int) (m5000_0_4_6_0:Int) (m5000_0_4_6_1:Str) (m5000_0_4_6_2:Str) (m5000_0_4_6_3:Int) (m5000_0_4_7:Int) (m5000_0_4_8:Int) (m5000_0_5:Int) (m5000_0_6:(List J0)) (m5000_0_7:Int) (m5000_0_8:Int) (m5000_0_9:Bool) (m5000_0_10:Ju) (m5000_1:Qq) (m5001:(List Jk)):Option (Int) :=
 (Jbl N m5000_1.Wallets m5000_0_0 m5000_0_1 m5000_0_2 m5000_0_3 m5000_0_4_0 m5000_0_4_1 m5000_0_4_2 m5000_0_4_3 m5000_0_4_4 m5000_0_4_5 m5000_0_4_6_0 m5000_0_4_6_1 m5000_0_4_6_2 m5000_0_4_6_3 m5000_0_4_7 m5000_0_4_8 m5000_0_5 m5000_0_6 m5000_0_7 m5000_0_8 m5000_0_9 m5000_0_10 m5000_1 m5001).bind fun r1 =>
 some r1
def Q54 (N:Nat) (m5000:Yv):(Unit)→Option ((Unit)⊕((Unit))):=fun _ =>
 if (decide (0<(List.length m5000.Session.Takes:Int))) then
  none
 else
  some (.inr ())
def Z65 (N:Nat) (x1:Int) (m5000:Yv):Option (Int×Int×Int×Int×Int×Int×Int×Str×Str×Int×Int×Str×Str×Int×Int×Int×Int×Int×Int×Bool×Ju×Qq×(List Jk)) :=
 (Jg (Q54 N m5000) N ()).bind fun _ =>
 if (decide ((List.length ([]:(List J0)):Int)>0)) then
  none
 else
  (Jbk N m5000.Session.Meter 0 (IntKind.wrap .i64 (x1 - 0))).bind fun (r1,r2,r3,r4,r5,r6,r7,r8,r9,r10,r11,r12,r13,r14,r15) =>
  if (r14==0) then
   (Jbm N m5000.Session.Id m5000.Session.Seq m5000.Session.Start m5000.Session.Until r1 r2 r3 r4 r5 r6 r7 r8 r9 r10 r11 r12 m5000.Session.Granted m5000.Session.Takes m5000.Session.Held (IntKind.wrap .i64 (m5000.Session.Spent+r13)) m5000.Session.Closed m5000.Session.Last m5000.state r15).bind fun r16 =>
   if ((decide (m5000.Session.Held>0))&&(decide (r16≥0))) then
    none
   else
    some (m5000.Session.Id,m5000.Session.Seq,m5000.Session.Start,m5000.Session.Until,r1,r2,r3,r4,r5,r6,r7,r8,r9,r10,r11,r12,0,0,(IntKind.wrap .i64 (m5000.Session.Spent+r13)),m5000.Session.Closed,m5000.Session.Last,m5000.state,r15)
  else
   none
def Z41 (N:Nat) (x0:Qq) (x1:Qg):Option (Qq×Qg) :=
 (Z62 N x0 x1).bind fun r1 =>
 if (!x1.Closed) then
  (Z65 N x1.Granted r1).bind fun (r2,r3,r4,r5,r6,r7,r8,r9,r10,r11,r12,r13,r14,r15,r16,r17,r18,r19,r20,r21,r22,r23,r24) =>
  some (r23,(r2,r3,r4,r5,(r6,r7,r8,r9,r10,r11,(r12,r13,r14,r15,r24),r16,r17),r18,([]:(List J0)),r19,r20,true,r22))
 else
  none
def Ql8 (N:Nat) (r2:(List Int)) (x1:Int):(Int×J2×Qq×(List (Int×Qg))×(List Int))→Option ((Int×J2×Qq×(List (Int×Qg))×(List Int))⊕((J2×Qq×(List (Int×Qg))×(List Int)))):=fun (v9,v10,v11,v12,v13) =>
 if (decide (v9<(List.length r2:Int))) then
  (idx r2 v9).bind fun x14 =>
  if ((!((Qx (k:=(.int .i64)) x14 v12).getD (0,0,0,0,(0,0,0,([]:Str),([]:Str),0,(0,([]:Str),([]:Str),0,([]:(List Jk))),0,0),0,([]:(List J0)),0,0,false,(0,0,0,0,0))).Closed)&&(decide ((((Qx (k:=(.int .i64)) x14 v12).getD (0,0,0,0,(0,0,0,([]:Str),([]:Str),0,(0,([]:Str),([]:Str),0,([]:(List Jk))),0,0),0,([]:(List J0)),0,0,false,(0,0,0,0,0))).Until)≤x1))) then
   (Z41 N v11 ((Qx (k:=(.int .i64)) x14 v12).getD (0,0,0,0,(0,0,0,([]:Str),([]:Str),0,(0,([]:Str),([]:Str),0,([]:(List Jk))),0,0),0,([]:(List J0)),0,0,false,(0,0,0,0,0)))).bind fun (r37,r38) =>
   (app 8 v13 ([x14]:(List Int))).bind fun q39 =>
   some (.inl ((IntKind.wrap .i64 (v9+1)),v10,r37,(Yx (k:=(.int .i64)) x14 r38 v12),q39))
  else
   none
 else
  some (.inr (v10,v11,v12,v13))
def Qqy (N:Nat) (x1:Int) (m5000_0:J2) (m5000_1:Qq) (m5001:(List (Int×Qg))):Option (J2×Qq×(List (Int×Qg))×(List Int)) :=
 (L4 N m5000_0 m5000_1 m5001).bind fun r1 =>
 if (!r1) then
  some (m5000_0,m5000_1,m5001,([]:(List Int)))
 else
  (Qg1 N m5000_0 m5000_1 m5001).bind fun (r2,r3) =>
  (Jg (Ql8 N r2 x1) N (0,m5000_0,m5000_1,r3,([]:(List Int)))).bind fun (v40,v41,v42,v43) =>
  some (v40,v41,v42,v43)
def Z44 (N:Nat) (x0:Qg):Option (Int×Int×Int×Int×Int×Int×Int×Str×Str×Int×Int×Str×Str×Int×Int×Int×Int×Int×Int×Bool×Ju×(List Jk)×(List J0)) :=
 (Yc 48 x0.Takes).bind fun r1 =>
 (Yc 24 x0.Meter.Rate.Steps).bind fun r2 =>
 some (x0.Id,x0.Seq,x0.Start,x0.Until,x0.Meter.Account,x0.Meter.Sub,x0.Meter.Kind,x0.Meter.Zone,x0.Meter.Plan,x0.Meter.Version,x0.Meter.Rate.Kind,x0.Meter.Rate.Zone,x0.Meter.Rate.Band,x0.Meter.Rate.Setup,x0.Meter.Free,x0.Meter.Paid,x0.Granted,x0.Held,x0.Spent,x0.Closed,x0.Last,r2,r1)
def Ql9 (N:Nat) (r2:(List Int)) (r3:(List (Int×Qg))):(Int×(List Qg))→Option ((Int×(List Qg))⊕(((List Qg)))):=fun (v5,v6) =>
 if (decide (v5<(List.length r2:Int))) then
  (idx r2 v5).bind fun x7 =>
  (Z44 N ((Qx (k:=(.int .i64)) x7 r3).getD (0,0,0,0,(0,0,0,([]:Str),([]:Str),0,(0,([]:Str),([]:Str),0,([]:(List Jk))),0,0),0,([]:(List J0)),0,0,false,(0,0,0,0,0)))).bind fun (r29,r30,r31,r32,r33,r34,r35,r36,r37,r38,r39,r40,r41,r42,r43,r44,r45,r46,r47,r48,r49,r50,r51) =>
  (app 280 v6 ([(r29,r30,r31,r32,(r33,r34,r35,r36,r37,r38,(r39,r40,r41,r42,r50),r43,r44),r45,r51,r46,r47,r48,r49)]:(List Qg))).bind fun q52 =>
  some (.inl ((IntKind.wrap .i64 (v5+1)),q52))
 else
  some (.inr v6)
def Qqz (N:Nat) (m5000_0:J2) (m5000_1:Qq) (m5001:(List (Int×Qg))):Option ((List (Int×Qg))×(List Qg)) :=
 (L4 N m5000_0 m5000_1 m5001).bind fun r1 =>
 if (!r1) then
  some (m5001,([]:(List Qg)))
 else
  (Qg1 N m5000_0 m5000_1 m5001).bind fun (r2,r3) =>
  (Jg (Ql9 N r2 r3) N (0,([]:(List Qg)))).bind fun v53 =>
  some (r3,v53)
def Qma (N:Nat) (x1:Int):((Int×Qg))→(Int)→Option ((Int)⊕(Empty)):=fun (k3,v4) v2 =>
 if (v4.Meter.Sub==x1) then
  some (.inl (IntKind.wrap .i64 (v2+v4.Spent)))
 else
  none
def Qq0 (N:Nat) (x1:Int) (m5000_0:J2) (m5000_1:Qq) (m5001:(List (Int×Qg))):Option (Int) :=
 (L4 N m5000_0 m5000_1 m5001).bind fun r1 =>
 if (!r1) then
  some 0
 else
  (Nm (Qma N x1) m5001 0).bind fun
   | .inl v5 =>
    some v5
   | .inr _ =>
    none
def Ea (N:Nat):Option (Bool) :=
 (Z45 N).bind fun r1 =>
 (Z19 N r1 (([]:(List Ql)),([]:(List Jj)),([]:(List Jb)))).bind fun (r2,r3,r4,r5,r6,r7,r8,r9) =>
 (Qqv N (7,1,1,10,1,1,([52,57]:Str),0,5) r2 r3 r4 r5 r6 r7 r8 r9).bind fun (r10,r11,r12,r13,r14,r15,r16,r17,r18) =>
 (Qqw N (7,1,1,10,1,1,([52,57]:Str),0,5) (r11,r12,r13,r14,r15,r16) r17 r18).bind fun (r19,r20,r21,r22) =>
 (Qg0 N (7,3,2,10,0,0,([]:Str),0,0) r20 r21 r22).bind fun (r23,r24,r25,r26) =>
 (Qg0 N (8,3,2,10,0,0,([]:Str),0,0) r24 r25 r26).bind fun (r27,r28,r29,r30) =>
 (Qqy N 3610 r28 r29 r30).bind fun (r31,r32,r33,r34) =>
 (if ((r10.Granted==5)&&((r10.Session==r19.Session)&&((r10.Seq==r19.Seq)&&((r10.Granted==r19.Granted)&&((r10.Until==r19.Until)&&((r10.Err==r19.Err)&&true)))))) then
  (Qqz N r31 r32 r33).bind fun (r37,r38) =>
  some (((List.length r38:Int)==1),r37)
 else
  some (false,r33):Option (Bool×(List (Int×Qg)))).bind fun (v39,v40) =>
 (if (((v39&&(r23.Err==20))&&(r27.Err==11))&&((List.length r34:Int)==1)) then
  (idx r34 0).bind fun _ =>
  (idx r34 0).bind fun x42 =>
  some (x42==7)
 else
  some false:Option (Bool)).bind fun v43 =>
 (if v43 then
  (Qq0 N 1 r31 r32 v40).bind fun r45 =>
  some (r45==10)
 else
  some false:Option (Bool)).bind fun v46 =>
 some v46
def Jbn (N:Nat) (x0:Q6) (x1:Int):(Int×(List Qr)×(List Qu)×(List Q4)×(List Vy)×(List Int)×(List Qw)×(List Ql)×(List Jj)×(List Jb))→Option ((Int×(List Qr)×(List Qu)×(List Q4)×(List Vy)×(List Int)×(List Qw)×(List Ql)×(List Jj)×(List Jb))⊕(((List Qr)×(List Qu)×(List Q4)×(List Vy)×(List Int)×(List Qw)×(List Ql)×(List Jj)×(List Jb)))):=fun (v5,v6,v7,v10,v11,v16,v17,v20,v21,v22) =>
 if (decide (v5<(2:Int))) then
  if v5=0 then
   (Z10 N x0).bind fun r30 =>
   (if (!((r30.Session==0)&&((r30.Seq==0)&&((r30.Granted==0)&&((r30.Until==0)&&((r30.Err==0)&&true)))))) then
    some true
   else
    (Z11 N x1).bind fun _ =>
    some (((0:Nat):Int) != 0):Option (Bool)).bind fun v31 =>
   (if v31 then
    some true
   else
    (Z13 N).bind fun r39 =>
    (Z12 N r39 (([]:(List Ql)),([]:(List Jj)),([]:(List Jb)))).bind fun r40 =>
    some (!r40):Option (Bool)).bind fun v41 =>
   (if v41 then
    some true
   else
    (Z14 N).bind fun _ =>
    some (((0:Nat):Int) != 0):Option (Bool)).bind fun v42 =>
   (if v42 then
    some true
   else
    (Z15 N x1).bind fun r44 =>
    some (r44 != 0):Option (Bool)).bind fun v45 =>
   (if v45 then
    some true
   else
    (Z16 N).bind fun _ =>
    some false:Option (Bool)).bind fun v46 =>
   if v46 then
    none
   else
    some (.inl ((IntKind.wrap .i64 (v5+1)),v6,v7,v10,v11,v16,v17,v20,v21,v22))
  else
   if v5=1 then
    (Qqs N x0 v6 v7 v10 v11 v16 v17 v20 v21 v22).bind fun r47 =>
    (if (!((r47.Session==0)&&((r47.Seq==0)&&((r47.Granted==0)&&((r47.Until==0)&&((r47.Err==0)&&true)))))) then
     some true
    else
     (Qqn N x1 v6 v7 v10 v11 v16 v17 v20 v21 v22).bind fun _ =>
     some (((0:Nat):Int) != 0):Option (Bool)).bind fun v48 =>
    (if v48 then
     some true
    else
     (Qqo N v6 v7 v10 v11 v16 v17 v20 v21 v22).bind fun r51 =>
     (Z12 N r51 (([]:(List Ql)),([]:(List Jj)),([]:(List Jb)))).bind fun r52 =>
     some (!r52):Option (Bool)).bind fun v53 =>
    (if v53 then
     some true
    else
     (Qqp N v6 v7 v10 v11 v16 v17 v20 v21 v22).bind fun _ =>
     some (((0:Nat):Int) != 0):Option (Bool)).bind fun v54 =>
    (if v54 then
     some true
    else
     (Qqq N x1 v6 v7 v10 v11 v16 v17 v20 v21 v22).bind fun r56 =>
     some (r56 != 0):Option (Bool)).bind fun v57 =>
    (if v57 then
     some true
    else
     (Qqr N v6 v7 v10 v11 v16 v17 v20 v21 v22).bind fun _ =>
     some false:Option (Bool)).bind fun v58 =>
    if v58 then
     none
    else
     some (.inl ((IntKind.wrap .i64 (v5+1)),v6,v7,v10,v11,v16,v17,v20,v21,v22))
   else
    none
 else
  some (.inr (v6,v7,v10,v11,v16,v17,v20,v21,v22))
def Z4 (N:Nat) (x0:Q6) (x1:Int):Option (Bool) :=
 (Jg (Jbn N x0 x1) N (0,([]:(List Qr)),([]:(List Qu)),([]:(List Q4)),([]:(List Vy)),([]:(List Int)),([]:(List Qw)),([]:(List Ql)),([]:(List Jj)),([]:(List Jb)))).bind fun (v59,v60,v61,v62,v63,v64,v65,v66,v67) =>
 (Ea N).bind fun r68 =>
 some r68
end
end Gx
