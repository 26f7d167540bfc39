/- The Go functions as Lean functions. -/
import Derived.Test.YtgnpojenbefoiaaGreatXX1
import Derived.Test.YtgnpojenbefoiaaGreatXRl
namespace Gx
open Go Gd
set_option linter.unusedVariables false
noncomputable section
abbrev Yc:Ty:=.st (.pr (.int .i64) (.int .i64))
abbrev Jq:Type:=Int×Int
abbrev Jq.From (x:Jq):Int:=x.1
abbrev Jq.To (x:Jq):Int:=x.2
abbrev Qg:Ty:=.st (.pr (.int .i64) (.pr (.int .i64) (.pr .str (.pr (.int .i64) (.pr (.int .i64) (.pr (.sl .str) (.pr Yc (.pr (.int .i64) (.pr (.int .i64) (.pr (.int .i64) .bool))))))))))
abbrev Qa:Type:=Int×Int×Str×Int×Int×(List Str)×Jq×Int×Int×Int×Bool
abbrev Qa.Account (x:Qa):Int:=x.1
abbrev Qa.Sub (x:Qa):Int:=x.2.1
abbrev Qa.Product (x:Qa):Str:=x.2.2.1
abbrev Qa.Index (x:Qa):Int:=x.2.2.2.1
abbrev Qa.Kind (x:Qa):Int:=x.2.2.2.2.1
abbrev Qa.Zones (x:Qa):(List Str):=x.2.2.2.2.2.1
abbrev Qa.Valid (x:Qa):Jq:=x.2.2.2.2.2.2.1
abbrev Qa.Units (x:Qa):Int:=x.2.2.2.2.2.2.2.1
abbrev Qa.Left (x:Qa):Int:=x.2.2.2.2.2.2.2.2.1
abbrev Qa.Priority (x:Qa):Int:=x.2.2.2.2.2.2.2.2.2.1
abbrev Qa.Shared (x:Qa):Bool:=x.2.2.2.2.2.2.2.2.2.2
abbrev Ql:Ty:=.st (.pr (.int .i64) (.pr (.int .i64) (.pr (.int .i64) (.pr (.int .i64) (.int .i64)))))
abbrev Qh:Type:=Int×Int×Int×Int×Int
abbrev Qh.Account (x:Qh):Int:=x.1
abbrev Qh.Balance (x:Qh):Int:=x.2.1
abbrev Qh.Floor (x:Qh):Int:=x.2.2.1
abbrev Qh.Held (x:Qh):Int:=x.2.2.2.1
abbrev Qh.Until (x:Qh):Int:=x.2.2.2.2
abbrev Qp:Ty:=.st (.pr (.int .i64) (.pr (.int .i64) (.pr (.int .i64) (.pr (.int .i64) (.int .i64)))))
abbrev Qn:Type:=Int×Int×Int×Int×Int
abbrev Qn.Sub (x:Qn):Int:=x.1
abbrev Qn.Kind (x:Qn):Int:=x.2.1
abbrev Qn.From (x:Qn):Int:=x.2.2.1
abbrev Qn.Units (x:Qn):Int:=x.2.2.2.1
abbrev Qn.Spent (x:Qn):Int:=x.2.2.2.2
abbrev Ye:Ty:=.st (.pr (.sl Qg) (.pr (.sl Ql) (.sl Qp)))
abbrev Je:Type:=(List Qa)×(List Qh)×(List Qn)
abbrev Je.Buckets (x:Je):(List Qa):=x.1
abbrev Je.Wallets (x:Je):(List Qh):=x.2.1
abbrev Je.Counters (x:Je):(List Qn):=x.2.2
abbrev Yp:Ty:=.st (.pr (.int .i64) (.pr (.int .i64) (.int .i64)))
abbrev Yo:Type:=Int×Int×Int
abbrev Yo.Upto (x:Yo):Int:=x.1
abbrev Yo.Quantum (x:Yo):Int:=x.2.1
abbrev Yo.Price (x:Yo):Int:=x.2.2
abbrev Zv:Ty:=.st (.pr (.int .i64) (.pr .str (.pr .str (.pr (.int .i64) (.sl Yp)))))
abbrev Vc:Type:=Int×Str×Str×Int×(List Yo)
abbrev Vc.Kind (x:Vc):Int:=x.1
abbrev Vc.Zone (x:Vc):Str:=x.2.1
abbrev Vc.Band (x:Vc):Str:=x.2.2.1
abbrev Vc.Setup (x:Vc):Int:=x.2.2.2.1
abbrev Vc.Steps (x:Vc):(List Yo):=x.2.2.2.2
abbrev Yf:Ty:=.st (.pr (.int .i64) (.pr (.int .i64) (.pr (.int .i64) (.pr .str (.pr .str (.pr (.int .i64) (.pr Zv (.pr (.int .i64) (.int .i64)))))))))
abbrev Jf:Type:=Int×Int×Int×Str×Str×Int×Vc×Int×Int
abbrev Jf.Account (x:Jf):Int:=x.1
abbrev Jf.Sub (x:Jf):Int:=x.2.1
abbrev Jf.Kind (x:Jf):Int:=x.2.2.1
abbrev Jf.Zone (x:Jf):Str:=x.2.2.2.1
abbrev Jf.Plan (x:Jf):Str:=x.2.2.2.2.1
abbrev Jf.Version (x:Jf):Int:=x.2.2.2.2.2.1
abbrev Jf.Rate (x:Jf):Vc:=x.2.2.2.2.2.2.1
abbrev Jf.Free (x:Jf):Int:=x.2.2.2.2.2.2.2.1
abbrev Jf.Paid (x:Jf):Int:=x.2.2.2.2.2.2.2.2
abbrev Jr:Ty:=.st (.pr (.int .i64) (.pr .str (.pr (.int .i64) (.pr (.int .i64) (.int .i64)))))
abbrev Qw:Type:=Int×Str×Int×Int×Int
abbrev Qw.Sub (x:Qw):Int:=x.1
abbrev Qw.Product (x:Qw):Str:=x.2.1
abbrev Qw.Index (x:Qw):Int:=x.2.2.1
abbrev Qw.From (x:Qw):Int:=x.2.2.2.1
abbrev Qw.Units (x:Qw):Int:=x.2.2.2.2
abbrev Jh:Ty:=.st (.pr (.int .i64) (.pr (.int .i64) (.pr (.int .i64) (.pr (.int .i64) (.int .i64)))))
abbrev Ja:Type:=Int×Int×Int×Int×Int
abbrev Ja.Session (x:Ja):Int:=x.1
abbrev Ja.Seq (x:Ja):Int:=x.2.1
abbrev Ja.Granted (x:Ja):Int:=x.2.2.1
abbrev Ja.Until (x:Ja):Int:=x.2.2.2.1
abbrev Ja.Err (x:Ja):Int:=x.2.2.2.2
abbrev Qz:Ty:=.st (.pr (.int .i64) (.pr (.int .i64) (.pr (.int .i64) (.pr (.int .i64) (.pr Yf (.pr (.int .i64) (.pr (.sl Jr) (.pr (.int .i64) (.pr (.int .i64) (.pr .bool Jh))))))))))
abbrev Qd:Type:=Int×Int×Int×Int×Jf×Int×(List Qw)×Int×Int×Bool×Ja
abbrev Qd.Id (x:Qd):Int:=x.1
abbrev Qd.Seq (x:Qd):Int:=x.2.1
abbrev Qd.Start (x:Qd):Int:=x.2.2.1
abbrev Qd.Until (x:Qd):Int:=x.2.2.2.1
abbrev Qd.Meter (x:Qd):Jf:=x.2.2.2.2.1
abbrev Qd.Granted (x:Qd):Int:=x.2.2.2.2.2.1
abbrev Qd.Takes (x:Qd):(List Qw):=x.2.2.2.2.2.2.1
abbrev Qd.Held (x:Qd):Int:=x.2.2.2.2.2.2.2.1
abbrev Qd.Spent (x:Qd):Int:=x.2.2.2.2.2.2.2.2.1
abbrev Qd.Closed (x:Qd):Bool:=x.2.2.2.2.2.2.2.2.2.1
abbrev Qd.Last (x:Qd):Ja:=x.2.2.2.2.2.2.2.2.2.2
abbrev Vx:Ty:=.st (.pr (.int .i64) (.pr (.int .i64) (.pr (.int .i64) (.pr (.int .i64) (.pr (.int .i64) (.pr (.int .i64) (.pr .str (.pr (.int .i64) (.int .i64)))))))))
abbrev Jj:Type:=Int×Int×Int×Int×Int×Int×Str×Int×Int
abbrev Jj.Session (x:Jj):Int:=x.1
abbrev Jj.Seq (x:Jj):Int:=x.2.1
abbrev Jj.Kind (x:Jj):Int:=x.2.2.1
abbrev Jj.At (x:Jj):Int:=x.2.2.2.1
abbrev Jj.Sub (x:Jj):Int:=x.2.2.2.2.1
abbrev Jj.Usage (x:Jj):Int:=x.2.2.2.2.2.1
abbrev Jj.B (x:Jj):Str:=x.2.2.2.2.2.2.1
abbrev Jj.Used (x:Jj):Int:=x.2.2.2.2.2.2.2.1
abbrev Jj.Ask (x:Jj):Int:=x.2.2.2.2.2.2.2.2
abbrev J5:Ty:=.st (.pr (.int .i64) (.pr (.int .i64) (.pr (.int .i64) (.pr (.int .i64) (.pr .str (.pr .str (.int .i64)))))))
abbrev Q5:Type:=Int×Int×Int×Int×Str×Str×Int
abbrev Q5.At (x:Q5):Int:=x.1
abbrev Q5.Kind (x:Q5):Int:=x.2.1
abbrev Q5.Account (x:Q5):Int:=x.2.2.1
abbrev Q5.Sub (x:Q5):Int:=x.2.2.2.1
abbrev Q5.Number (x:Q5):Str:=x.2.2.2.2.1
abbrev Q5.Name (x:Q5):Str:=x.2.2.2.2.2.1
abbrev Q5.Value (x:Q5):Int:=x.2.2.2.2.2.2
abbrev Ai:Ty:=.st (.pr .str (.sl .str))
abbrev Xn:Type:=Str×(List Str)
abbrev Xn.Name (x:Xn):Str:=x.1
abbrev Xn.Prefixes (x:Xn):(List Str):=x.2
abbrev Ge:Ty:=.st (.pr (.int .i64) (.pr (.int .i64) (.int .i64)))
abbrev Z7:Type:=Int×Int×Int
abbrev Z7.Days (x:Z7):Int:=x.1
abbrev Z7.From (x:Z7):Int:=x.2.1
abbrev Z7.To (x:Z7):Int:=x.2.2
abbrev Vo:Ty:=.st (.pr .str (.sl Ge))
abbrev Yy:Type:=Str×(List Z7)
abbrev Yy.Name (x:Yy):Str:=x.1
abbrev Yy.Slots (x:Yy):(List Z7):=x.2
abbrev Oe:Ty:=.rose (.pr (.int .i64) (.pr (.int .i64) .str))
abbrev Wj:Type:=Ck (Int×Int×Str)
abbrev Wj.Op (x:Wj):Int:=x.x.1
abbrev Wj.Num (x:Wj):Int:=x.x.2.1
abbrev Wj.Text (x:Wj):Str:=x.x.2.2
abbrev Wj.Args (x:Wj):List Wj:=x.ks
abbrev Fs:Ty:=.st (.pr .str (.pr Oe (.int .i64)))
abbrev Uh:Type:=Str×Wj×Int
abbrev Uh.Name (x:Uh):Str:=x.1
abbrev Uh.When (x:Uh):Wj:=x.2.1
abbrev Uh.Points (x:Uh):Int:=x.2.2
abbrev Xz:Ty:=.st (.pr .str (.pr (.int .i64) (.pr .bool (.pr (.sl Ai) (.pr (.sl Vo) (.pr (.sl Zv) (.sl Fs)))))))
abbrev Jz:Type:=Str×Int×Bool×(List Xn)×(List Yy)×(List Vc)×(List Uh)
abbrev Jz.Name (x:Jz):Str:=x.1
abbrev Jz.From (x:Jz):Int:=x.2.1
abbrev Jz.Split (x:Jz):Bool:=x.2.2.1
abbrev Jz.Zones (x:Jz):(List Xn):=x.2.2.2.1
abbrev Jz.Bands (x:Jz):(List Yy):=x.2.2.2.2.1
abbrev Jz.Rates (x:Jz):(List Vc):=x.2.2.2.2.2.1
abbrev Jz.Discounts (x:Jz):(List Uh):=x.2.2.2.2.2.2
abbrev Dv:Ty:=.st (.pr (.int .i64) (.pr (.sl .str) (.pr (.int .i64) (.pr (.int .i64) (.pr (.int .i64) .bool)))))
abbrev V6:Type:=Int×(List Str)×Int×Int×Int×Bool
abbrev V6.Kind (x:V6):Int:=x.1
abbrev V6.Zones (x:V6):(List Str):=x.2.1
abbrev V6.Units (x:V6):Int:=x.2.2.1
abbrev V6.Rollover (x:V6):Int:=x.2.2.2.1
abbrev V6.Priority (x:V6):Int:=x.2.2.2.2.1
abbrev V6.Shared (x:V6):Bool:=x.2.2.2.2.2
abbrev Hp:Ty:=.st (.pr .str (.pr (.int .i64) (.pr (.int .i64) (.pr .str (.pr .bool (.sl Dv))))))
abbrev Y3:Type:=Str×Int×Int×Str×Bool×(List V6)
abbrev Y3.Name (x:Y3):Str:=x.1
abbrev Y3.From (x:Y3):Int:=x.2.1
abbrev Y3.Fee (x:Y3):Int:=x.2.2.1
abbrev Y3.Category (x:Y3):Str:=x.2.2.2.1
abbrev Y3.Prorate (x:Y3):Bool:=x.2.2.2.2.1
abbrev Y3.Bundles (x:Y3):(List V6):=x.2.2.2.2.2
abbrev Qai:Ty:=.st (.pr .str (.pr (.int .i64) (.int .i64)))
abbrev Bo:Type:=Str×Int×Int
abbrev Bo.Category (x:Bo):Str:=x.1
abbrev Bo.From (x:Bo):Int:=x.2.1
abbrev Bo.Points (x:Bo):Int:=x.2.2
abbrev Ek:Ty:=.st (.pr (.int .i64) (.pr (.int .i64) (.pr .bool (.pr Yc (.pr (.sl Yp) (.int .i64))))))
abbrev Yl:Type:=Int×Int×Bool×Jq×(List Yo)×Int
abbrev Yl.Partner (x:Yl):Int:=x.1
abbrev Yl.Kind (x:Yl):Int:=x.2.1
abbrev Yl.Inbound (x:Yl):Bool:=x.2.2.1
abbrev Yl.Valid (x:Yl):Jq:=x.2.2.2.1
abbrev Yl.Steps (x:Yl):(List Yo):=x.2.2.2.2.1
abbrev Yl.Cap (x:Yl):Int:=x.2.2.2.2.2
abbrev K7:Ty:=.st (.pr (.sl J5) (.pr (.sl Xz) (.pr (.sl Hp) (.pr (.sl Qai) (.pr (.sl (.int .i64)) (.sl Ek))))))
abbrev Vy:Type:=(List Q5)×(List Jz)×(List Y3)×(List Bo)×(List Int)×(List Yl)
abbrev Vy.Events (x:Vy):(List Q5):=x.1
abbrev Vy.Tariffs (x:Vy):(List Jz):=x.2.1
abbrev Vy.Products (x:Vy):(List Y3):=x.2.2.1
abbrev Vy.Taxes (x:Vy):(List Bo):=x.2.2.2.1
abbrev Vy.Holidays (x:Vy):(List Int):=x.2.2.2.2.1
abbrev Vy.Agreements (x:Vy):(List Yl):=x.2.2.2.2.2
abbrev El:Ty:=.st (.pr K7 (.pr Ye (.sl Vx)))
abbrev Vu:Type:=Vy×Je×(List Jj)
abbrev Vu.Book (x:Vu):Vy:=x.1
abbrev Vu.State (x:Vu):Je:=x.2.1
abbrev Vu.Requests (x:Vu):(List Jj):=x.2.2
abbrev P5:Ty:=.st (.pr Qz Ye)
abbrev Gn:Type:=Qd×Je
abbrev Gn.Session (x:Gn):Qd:=x.1
abbrev Gn.state (x:Gn):Je:=x.2
abbrev Aj:Ty:=.st (.pr (.int .i64) (.pr .str (.pr (.int .i64) (.int .i64))))
abbrev Vl:Type:=Int×Str×Int×Int
abbrev Vl.sub (x:Vl):Int:=x.1
abbrev Vl.product (x:Vl):Str:=x.2.1
abbrev Vl.index (x:Vl):Int:=x.2.2.1
abbrev Vl.from_ (x:Vl):Int:=x.2.2.2
abbrev Z8:Ty:=.st (.pr Yc (.pr .str (.pr (.sl .str) (.pr .bool .bool))))
abbrev Y0:Type:=Jq×Str×(List Str)×Bool×Bool
abbrev Y0.Period (x:Y0):Jq:=x.1
abbrev Y0.Plan (x:Y0):Str:=x.2.1
abbrev Y0.Products (x:Y0):(List Str):=x.2.2.1
abbrev Y0.Suspended (x:Y0):Bool:=x.2.2.2.1
abbrev Y0.Family (x:Y0):Bool:=x.2.2.2.2
abbrev Y7:Ty:=.st (.pr (.int .i64) (.pr (.int .i64) (.pr (.int .i64) (.pr .str (.pr (.sl .str) (.pr (.sl .str) (.pr .bool .bool)))))))
abbrev J0:Type:=Int×Int×Int×Str×(List Str)×(List Str)×Bool×Bool
abbrev J0.Id (x:J0):Int:=x.1
abbrev J0.Account (x:J0):Int:=x.2.1
abbrev J0.Since (x:J0):Int:=x.2.2.1
abbrev J0.Plan (x:J0):Str:=x.2.2.2.1
abbrev J0.Numbers (x:J0):(List Str):=x.2.2.2.2.1
abbrev J0.Products (x:J0):(List Str):=x.2.2.2.2.2.1
abbrev J0.Suspended (x:J0):Bool:=x.2.2.2.2.2.2.1
abbrev J0.Family (x:J0):Bool:=x.2.2.2.2.2.2.2
abbrev Yd:Ty:=.st (.pr (.int .i64) (.pr (.int .i64) (.pr (.int .i64) (.pr .bool (.pr .bool (.sl (.int .i64)))))))
abbrev Q6:Type:=Int×Int×Int×Bool×Bool×(List Int)
abbrev Q6.Id (x:Q6):Int:=x.1
abbrev Q6.Since (x:Q6):Int:=x.2.1
abbrev Q6.Anchor (x:Q6):Int:=x.2.2.1
abbrev Q6.Prepaid (x:Q6):Bool:=x.2.2.2.1
abbrev Q6.Closed (x:Q6):Bool:=x.2.2.2.2.1
abbrev Q6.Subs (x:Q6):(List Int):=x.2.2.2.2.2
abbrev Qaj:Ty:=.st (.pr (.sl Yd) (.sl Y7))
abbrev Hq:Type:=(List Q6)×(List J0)
abbrev Hq.Accounts (x:Hq):(List Q6):=x.1
abbrev Hq.Subs (x:Hq):(List J0):=x.2
abbrev Qbl:Ty:=.st (.pr (.sl Qg) .ref)
abbrev Fc:Type:=(List Qa)×Unit
abbrev Fc.list (x:Fc):(List Qa):=x.1
abbrev Fc.has (x:Fc):Unit:=x.2
abbrev Of:Ty:=.st (.pr (.int .i64) (.pr .str (.pr (.int .i64) (.int .i64))))
abbrev V3:Type:=Int×Str×Int×Int
abbrev V3.sub (x:V3):Int:=x.1
abbrev V3.product (x:V3):Str:=x.2.1
abbrev V3.index (x:V3):Int:=x.2.2.1
abbrev V3.from_ (x:V3):Int:=x.2.2.2
abbrev Hd:Ty:=.st (.pr (.int .i64) (.pr (.int .i64) (.pr .str (.sl Yc))))
abbrev Y8:Type:=Int×Int×Str×(List Jq)
abbrev Y8.account (x:Y8):Int:=x.1
abbrev Y8.sub (x:Y8):Int:=x.2.1
abbrev Y8.product (x:Y8):Str:=x.2.2.1
abbrev Y8.active (x:Y8):(List Jq):=x.2.2.2
abbrev Ce:Ty:=.st (.pr Qg (.int .i64))
abbrev Gp:Type:=Qa×Int
abbrev Gp.bucket (x:Gp):Qa:=x.1
abbrev Gp.rollover (x:Gp):Int:=x.2
abbrev Xk:Ty:=.st Yf
abbrev Kx:Type:=Jf
abbrev Kx.Meter (x:Kx):Jf:=x
abbrev Yi:Ty:=.st (.pr (.int .i64) Y7)
abbrev Q9:Type:=Int×J0
abbrev Q9.at_ (x:Q9):Int:=x.1
abbrev Q9.s (x:Q9):J0:=x.2
abbrev P6:Ty:=.st (.pr .ref (.pr .ref (.pr .ref (.pr .ref (.pr .ref (.pr (.sl (.int .i64)) (.sl (.int .i64))))))))
abbrev Yj:Type:=Unit×Unit×Unit×Unit×Unit×(List Int)×(List Int)
abbrev Yj.accounts (x:Yj):Unit:=x.1
abbrev Yj.subs (x:Yj):Unit:=x.2.1
abbrev Yj.ever (x:Yj):Unit:=x.2.2.1
abbrev Yj.owners (x:Yj):Unit:=x.2.2.2.1
abbrev Yj.live (x:Yj):Unit:=x.2.2.2.2.1
abbrev Yj.opened (x:Yj):(List Int):=x.2.2.2.2.2.1
abbrev Yj.added (x:Yj):(List Int):=x.2.2.2.2.2.2
abbrev Vb:Ty:=.st (.pr (.int .i64) (.pr (.int .i64) (.int .i64)))
abbrev Yg:Type:=Int×Int×Int
abbrev Yg.at_ (x:Yg):Int:=x.1
abbrev Yg.list (x:Yg):Int:=x.2.1
def Z28 (N:Nat):Option (Vu) :=
 some ((([(0,1,1,0,([]:Str),([112,114,101,112,97,105,100]:Str),1),(0,3,1,1,([]:Str),([98,97,115,105,99]:Str),0),(0,14,1,0,([]:Str),([]:Str),200)]:(List Q5)),([(([98,97,115,105,99]:Str),0,false,([]:(List Xn)),([(([97,108,108]:Str),([]:(List Z7)))]:(List Yy)),([(1,([]:Str),([]:Str),100,([(0,60,60)]:(List Yo)))]:(List Vc)),([]:(List Uh)))]:(List Jz)),([]:(List Y3)),([]:(List Bo)),([]:(List Int)),([]:(List Yl))),(([]:(List Qa)),([]:(List Qh)),([]:(List Qn))),([(7,1,1,10,1,1,([52,57]:Str),0,100),(7,2,2,20,0,0,([]:Str),20,61)]:(List Jj)))
def Jay (N:Nat) (x0:Int):Option (Bool) :=
 some ((decide (x0≥48))&&(decide (x0≤57)))
def Qxg (N:Nat) (x0:Str):(Int)→Option ((Int)⊕((Unit))):=fun v1 =>
 if (decide (v1<(List.length x0:Int))) then
  (Qrd x0 v1).bind fun c2 =>
  (Jay N c2).bind fun r3 =>
  if (!r3) then
   none
  else
   some (.inl (IntKind.wrap .i64 (v1+1)))
 else
  some (.inr ())
def Q8f (N:Nat) (x0:Str):Option (Bool) :=
 (Qx (Qxg N x0) N 0).bind fun _ =>
 some ((decide ((List.length x0:Int)≥1))&&(decide ((List.length x0:Int)≤15)))
def Jaz (N:Nat) (x0:J0) (x1:Q5):Option (J0) :=
 if (x1.Kind==3) then
  some (x1.Sub,x1.Account,x1.At,x1.Name,([]:(List Str)),([]:(List Str)),false,false)
 else
  none
def Qxh (N:Nat) (x0:(List Q5)) (x1:Int):(Int×(List Q9)×J0)→Option ((Int×(List Q9)×J0)⊕(((List Q9)))):=fun (v9,v10,v11) =>
 if (decide (v9<(List.length x0:Int))) then
  ((idx x0 v9).bind fun x14 =>
  if ((x1==0)||(x14.Sub != x1)) then
   some (v10,v11)
  else
   (Jaz N v11 x14).bind fun r15 =>
   (if (decide ((List.length v10:Int)>0)) then
    none
   else
    some false:Option (Bool)).bind fun v17 =>
   if v17 then
    none
   else
    (app 104 v10 ([(x14.At,r15)]:(List Q9))).bind fun q18 =>
    some (q18,r15):Option (((List Q9)×J0))).bind fun (v19,v20) =>
  some (.inl ((IntKind.wrap .i64 (v9+1)),v19,v20))
 else
  some (.inr v10)
def Ja0 (N:Nat) (x0:(List Q5)) (x1:Int):Option ((List Q9)) :=
 (Qx (Qxh N x0 x1) N (0,([]:(List Q9)),(0,0,0,([]:Str),([]:(List Str)),([]:(List Str)),false,false))).bind fun v21 =>
 some v21
def Qxi (N:Nat) (x0:(List Q9)):(Int×(List Q9))→Option ((Int×(List Q9))⊕(((List Q9)))):=fun (v2,v3) =>
 if (decide (v2<(List.length x0:Int))) then
  (idx x0 v2).bind fun x4 =>
  if (decide ((List.length v3:Int)>0)) then
   none
  else
   (app 104 v3 ([x4]:(List Q9))).bind fun q5 =>
   some (.inl ((IntKind.wrap .i64 (v2+1)),q5))
 else
  some (.inr v3)
def Ja1 (N:Nat) (x0:(List Q9)):Option ((List Q9)) :=
 (Qx (Qxi N x0) N (0,([]:(List Q9)))).bind fun v6 =>
 some v6
def Qxj (N:Nat) (r2:(List Q9)):(Int×(List Y0))→Option ((Int×(List Y0))⊕(((List Y0)))):=fun (v4,v5) =>
 if (decide (v4<(List.length r2:Int))) then
  (idx r2 v4).bind fun _ =>
  (idx r2 v4).bind fun x6 =>
  if (x6.s.Id==0) then
   none
  else
   if (decide ((IntKind.wrap .i64 (v4+1))<(List.length r2:Int))) then
    none
   else
    (app 16 ([]:(List Str)) x6.s.Products).bind fun q9 =>
    (app 64 v5 ([((x6.at_,12622780800),x6.s.Plan,q9,x6.s.Suspended,x6.s.Family)]:(List Y0))).bind fun q10 =>
    some (.inl ((IntKind.wrap .i64 (v4+1)),q10))
 else
  some (.inr v5)
def Q8g (N:Nat) (x0:(List Q5)) (x1:Int):Option ((List Y0)) :=
 (Ja0 N x0 x1).bind fun r1 =>
 (Ja1 N r1).bind fun r2 =>
 (Qx (Qxj N r2) N (0,([]:(List Y0)))).bind fun v11 =>
 some v11
def Ja2 (N:Nat) (x0:Jq):Option (Bool) :=
 some (((decide (x0.From≥0))&&(decide (x0.From<x0.To)))&&(decide (x0.To≤12622780800)))
def Q8h (N:Nat) (x0:Jq) (x1:Int):Option (Bool) :=
 (Ja2 N x0).bind fun r1 =>
 some ((r1&&(decide (x1≥x0.From)))&&(decide (x1<x0.To)))
def Qxk (N:Nat) (r1:(List Y0)) (x2:Int):(Jq×Str×Bool×Bool)→Option ((Jq×Str×Bool×Bool)⊕((Bool×Y0))):=fun (v2,v3,v4,v5) =>
 if (decide (0<(List.length r1:Int))) then
  (idx r1 0).bind fun _ =>
  (idx r1 0).bind fun x6 =>
  (Q8h N x6.Period x2).bind fun r7 =>
  if r7 then
   some (.inr (true,x6))
  else
   none
 else
  none
def Q8i (N:Nat) (x0:(List Q5)) (x1:Int) (x2:Int):Option (Y0×Bool) :=
 (Q8g N x0 x1).bind fun r1 =>
 (Qx (Qxk N r1 x2) N ((0,0),([]:Str),false,false)).bind fun (v8,v9) =>
 some (v9,v8)
def Ja3 (N:Nat):Option ((List (Int×Q6))×(List (Int×J0))×(List (Int×Bool))×(List (Str×Int))×(List (Int×Int))) :=
 some (([]:List (Int×Q6)),([]:List (Int×J0)),([]:List (Int×Bool)),([]:List (Str×Int)),([]:List (Int×Int)))
def Ja4 (N:Nat) (x0:(List Q5)) (x1:Int):Option ((List Q5)×Int) :=
 some (x0,x1)
def Qxl (N:Nat) (x1:(List Q5)) (x2:Int):((Int)×(List Q5))→Option (((Int)×(List Q5))⊕(((Unit))×(List Q5))):=fun (v1,acc2) =>
 if (decide (v1<(List.length x1:Int))) then
  (idx x1 v1).bind fun x3 =>
  if (decide (x3.At≤x2)) then
   if (!true) then
    none
   else
    some (.inl ((IntKind.wrap .i64 (v1+1)),(acc2++[x3])))
  else
   some (.inl ((IntKind.wrap .i64 (v1+1)),acc2))
 else
  some (.inr ((),acc2))
def Ja5 (N:Nat) (x1:(List Q5)) (x2:Int):Option (List Q5) :=
 (Qx (Qxl N x1 x2) N (0,([]:(List Q5)))).bind fun (_,acc4) =>
 some acc4
def Qxm (N:Nat) (x0:(List Int)):(Unit)→Option ((Unit)⊕((Unit))):=fun _ =>
 (if (decide (0<(List.length x0:Int))) then
  none
 else
  some false:Option (Bool)).bind fun v1 =>
 if v1 then
  none
 else
  some (.inr ())
def Q8j (N:Nat) (x0:(List Int)) (x1:Int):Option ((List Int)) :=
 (Qx (Qxm N x0) N ()).bind fun _ =>
 (slc x0 0 0).bind fun s2 =>
 (app 8 ([]:(List Int)) s2).bind fun q3 =>
 (app 8 q3 ([x1]:(List Int))).bind fun q4 =>
 (slc x0 0 (List.length x0:Int)).bind fun s5 =>
 (app 8 q4 s5).bind fun q6 =>
 some q6
def Qnq (N:Nat) (x1:Q5) (m5000_5:(List Int)) (m5000_6:(List Int)) (m5001:(List (Int×Q6))) (m5002:(List (Int×J0))) (m5003:(List (Int×Bool))) (m5004:(List (Str×Int))) (m5005:(List (Int×Int))):Option ((List Int)×(List Int)×(List (Int×Q6))×(List (Int×J0))×(List (Int×Bool))×(List (Str×Int))×(List (Int×Int))) :=
 if (x1.Kind==1) then
  if (!(Qy (k:=(.int .i64)) x1.Account m5001).isSome) then
   (Q8j N m5000_5 x1.Account).bind fun r1 =>
   some (r1,m5000_6,(Vq (k:=(.int .i64)) x1.Account (x1.Account,x1.At,x1.Value,(x1.Name==([112,114,101,112,97,105,100]:Str)),false,([]:(List Int))) m5001),m5002,m5003,m5004,m5005)
  else
   none
 else
  if (x1.Kind==2) then
   none
  else
   if (x1.Kind==3) then
    if (!((Qy (k:=(.int .i64)) x1.Sub m5003).getD false)) then
     (Q8j N m5000_6 x1.Sub).bind fun r2 =>
     some (m5000_5,r2,m5001,(Vq (k:=(.int .i64)) x1.Sub (x1.Sub,x1.Account,x1.At,x1.Name,([]:(List Str)),([]:(List Str)),false,false) m5002),(Vq (k:=(.int .i64)) x1.Sub true m5003),m5004,(Vq (k:=(.int .i64)) x1.Account (IntKind.wrap .i64 (((Qy (k:=(.int .i64)) x1.Account m5005).getD 0)+1)) m5005))
    else
     none
   else
    if (x1.Kind==4) then
     none
    else
     if (x1.Kind==14) then
      if (x1.Kind==14) then
       some (m5000_5,m5000_6,m5001,m5002,m5003,m5004,m5005)
      else
       none
     else
      none
def Qxn (N:Nat) (m5000_6:(List Int)) (m5002:(List (Int×J0))):(Int×(List (Int×(List Int)))×(List J0))→Option ((Int×(List (Int×(List Int)))×(List J0))⊕(((List (Int×(List Int)))×(List J0)))):=fun (v4,v5,v6) =>
 if (decide (v4<(List.length m5000_6:Int))) then
  (idx m5000_6 v4).bind fun x7 =>
  if (!(Qy (k:=(.int .i64)) x7 m5002).isSome) then
   none
  else
   (chk (eqK (.int .i64) (((Qy (k:=(.int .i64)) x7 m5002).getD (0,0,0,([]:Str),([]:(List Str)),([]:(List Str)),false,false)).Account) (((Qy (k:=(.int .i64)) x7 m5002).getD (0,0,0,([]:Str),([]:(List Str)),([]:(List Str)),false,false)).Account))).bind fun _ =>
   (app 8 (Qjn (fun (y:(List Int))=>(y:(List Int))) (Qy (k:=(.int .i64)) (((Qy (k:=(.int .i64)) x7 m5002).getD (0,0,0,([]:Str),([]:(List Str)),([]:(List Str)),false,false)).Account) v5)) ([x7]:(List Int))).bind fun q8 =>
   (chk (eqK (.int .i64) (((Qy (k:=(.int .i64)) x7 m5002).getD (0,0,0,([]:Str),([]:(List Str)),([]:(List Str)),false,false)).Account) (((Qy (k:=(.int .i64)) x7 m5002).getD (0,0,0,([]:Str),([]:(List Str)),([]:(List Str)),false,false)).Account))).bind fun _ =>
   (app 96 v6 ([((Qy (k:=(.int .i64)) x7 m5002).getD (0,0,0,([]:Str),([]:(List Str)),([]:(List Str)),false,false))]:(List J0))).bind fun q9 =>
   some (.inl ((IntKind.wrap .i64 (v4+1)),(Vq (k:=(.int .i64)) (((Qy (k:=(.int .i64)) x7 m5002).getD (0,0,0,([]:Str),([]:(List Str)),([]:(List Str)),false,false)).Account) q8 v5),q9))
 else
  some (.inr (v5,v6))
def Qxo (N:Nat) (m5000_5:(List Int)) (m5001:(List (Int×Q6))) (v10:(List (Int×(List Int)))):(Int×(List Q6)×(List J0))→Option ((Int×(List Q6)×(List J0))⊕(((List Q6)×(List J0)))):=fun (v15,v16,v17) =>
 if (decide (v15<(List.length m5000_5:Int))) then
  (idx m5000_5 v15).bind fun x18 =>
  (app 56 v16 ([(((Qy (k:=(.int .i64)) x18 m5001).getD (0,0,0,false,false,([]:(List Int)))).Id,((Qy (k:=(.int .i64)) x18 m5001).getD (0,0,0,false,false,([]:(List Int)))).Since,((Qy (k:=(.int .i64)) x18 m5001).getD (0,0,0,false,false,([]:(List Int)))).Anchor,((Qy (k:=(.int .i64)) x18 m5001).getD (0,0,0,false,false,([]:(List Int)))).Prepaid,((Qy (k:=(.int .i64)) x18 m5001).getD (0,0,0,false,false,([]:(List Int)))).Closed,((Qy (k:=(.int .i64)) x18 v10).getD ([]:(List Int))))]:(List Q6))).bind fun q19 =>
  some (.inl ((IntKind.wrap .i64 (v15+1)),q19,v17))
 else
  some (.inr (v16,v17))
def Ja6 (N:Nat) (m5000_5:(List Int)) (m5000_6:(List Int)) (m5001:(List (Int×Q6))) (m5002:(List (Int×J0))) (m5003:(List (Int×Bool))) (m5004:(List (Str×Int))) (m5005:(List (Int×Int))):Option ((List Q6)×(List J0)) :=
 (Qx (Qxn N m5000_6 m5002) N (0,([]:List (Int×(List Int))),([]:(List J0)))).bind fun (v10,v11) =>
 (Qx (Qxo N m5000_5 m5001 v10) N (0,([]:(List Q6)),v11)).bind fun (v20,v21) =>
 some (v20,v21)
def Qxp (N:Nat):((List Int)×(List Int)×(List (Int×Q6))×(List (Int×J0))×(List (Int×Bool))×(List (Str×Int))×(List (Int×Int)))→Q5→Option ((List Int)×(List Int)×(List (Int×Q6))×(List (Int×J0))×(List (Int×Bool))×(List (Str×Int))×(List (Int×Int))):=fun (v13,v14,v15,v16,v17,v18,v19) e20 =>
 (Qnq N e20 v13 v14 v15 v16 v17 v18 v19).bind fun (r21,r22,r23,r24,r25,r26,r27) =>
 some (r21,r22,r23,r24,r25,r26,r27)
def Qxq (N:Nat) (x0:(List Q5)) (x1:Int):Option ((List Q6)×(List J0)) :=
 (Ja3 N).bind fun (r1,r2,r3,r4,r5) =>
 (Ja4 N x0 x1).bind fun (r6,r7) =>
 (Ja5 N r6 r7).bind fun es35 =>
 (Qgp (Qxp N) es35 (([]:(List Int)),([]:(List Int)),r1,r2,r3,r4,r5)).bind fun (v28,v29,v30,v31,v32,v33,v34) =>
 (Ja6 N v28 v29 v30 v31 v32 v33 v34).bind fun (r36,r37) =>
 some (r36,r37)
def Qxr (N:Nat) (r2:(List J0)) (x1:Int):(Int×Int×Int×Str×Bool×Bool)→Option ((Int×Int×Int×Str×Bool×Bool)⊕((Bool×J0))):=fun (v3,v4,v5,v6,v7,v8) =>
 if (decide (0<(List.length r2:Int))) then
  (idx r2 0).bind fun _ =>
  (idx r2 0).bind fun x9 =>
  if (x9.Id==x1) then
   some (.inr (true,x9))
  else
   none
 else
  none
def Ja7 (N:Nat) (x0:(List Q5)) (x1:Int) (x2:Int):Option (J0×Bool) :=
 (Qxq N x0 x2).bind fun (r1,r2) =>
 (Qx (Qxr N r2 x1) N (0,0,0,([]:Str),false,false)).bind fun (v10,v11) =>
 some (v11,v10)
def Ja8 (N:Nat) (x0:(List Z7)):Option ((List Z7)) :=
 (app 24 ([]:(List Z7)) x0).bind fun q1 =>
 some q1
def Ja9 (N:Nat) (x0:(List Yo)):Option ((List Yo)) :=
 (app 24 ([]:(List Yo)) x0).bind fun q1 =>
 some q1
def Qxs (N:Nat) (x0:Jz):(Unit)→Option ((Unit)⊕((Unit))):=fun _ =>
 if (decide (0<(List.length x0.Zones:Int))) then
  none
 else
  some (.inr ())
def Qxt (N:Nat) (x0:Jz):(Int×Str×Int×Bool×(List Yy))→Option ((Int×Str×Int×Bool×(List Yy))⊕((Str×Int×Bool×(List Yy)))):=fun (v6,v7,v8,v9,v10) =>
 if (decide (v6<(List.length x0.Bands:Int))) then
  (idx x0.Bands v6).bind fun x11 =>
  (Ja8 N x11.Slots).bind fun r12 =>
  (app 40 v10 ([(x11.Name,r12)]:(List Yy))).bind fun q13 =>
  some (.inl ((IntKind.wrap .i64 (v6+1)),v7,v8,v9,q13))
 else
  some (.inr (v7,v8,v9,v10))
def Qxu (N:Nat) (x0:Jz):(Int×Str×Int×Bool×(List Yy)×(List Vc))→Option ((Int×Str×Int×Bool×(List Yy)×(List Vc))⊕((Str×Int×Bool×(List Yy)×(List Vc)))):=fun (v24,v25,v26,v27,v28,v29) =>
 if (decide (v24<(List.length x0.Rates:Int))) then
  (idx x0.Rates v24).bind fun x30 =>
  (Ja9 N x30.Steps).bind fun r31 =>
  (app 72 v29 ([(x30.Kind,x30.Zone,x30.Band,x30.Setup,r31)]:(List Vc))).bind fun q32 =>
  some (.inl ((IntKind.wrap .i64 (v24+1)),v25,v26,v27,v28,q32))
 else
  some (.inr (v25,v26,v27,v28,v29))
def Qxv (N:Nat) (x0:Jz):(Unit)→Option ((Unit)⊕((Unit))):=fun _ =>
 if (decide (0<(List.length x0.Discounts:Int))) then
  none
 else
  some (.inr ())
def Jba (N:Nat) (x0:Jz):Option (Str×Int×Bool×(List Yy)×(List Vc)) :=
 (Qx (Qxs N x0) N ()).bind fun _ =>
 (Qx (Qxt N x0) N (0,x0.Name,x0.From,x0.Split,([]:(List Yy)))).bind fun (v14,v15,v16,v17) =>
 (Qx (Qxu N x0) N (0,v14,v15,v16,v17,([]:(List Vc)))).bind fun (v33,v34,v35,v36,v37) =>
 (Qx (Qxv N x0) N ()).bind fun _ =>
 some (v33,v34,v35,v36,v37)
def Qxw (N:Nat) (x0:(List Jz)) (x1:Str) (x2:Int):(Int×Int)→Option ((Int×Int)⊕((Int))):=fun (v1,v2) =>
 if (decide (v2<(List.length x0:Int))) then
  (idx x0 v2).bind fun x3 =>
  if ((x3.Name==x1)&&(decide (x3.From≤x2))) then
   some (.inl (v2,(IntKind.wrap .i64 (v2+1))))
  else
   none
 else
  some (.inr v1)
def Jbb (N:Nat) (x0:(List Jz)) (x1:Str) (x2:Int):Option (Str×Int×Bool×Bool×(List Yy)×(List Vc)) :=
 (Qx (Qxw N x0 x1 x2) N ((-1),0)).bind fun v4 =>
 if (decide (v4<0)) then
  none
 else
  (idx x0 v4).bind fun x5 =>
  (Jba N x5).bind fun (r6,r7,r8,r9,r10) =>
  some (r6,r7,r8,true,r9,r10)
def Qxx (N:Nat) (x0:(List Xn)):(Unit)→Option ((Unit)⊕((Unit))):=fun _ =>
 if (decide (0<(List.length x0:Int))) then
  none
 else
  some (.inr ())
def Jbc (N:Nat) (x0:(List Xn)):Option (Int×(List (Str×Str))) :=
 if (decide ((List.length x0:Int)>64)) then
  none
 else
  (Qx (Qxx N x0) N ()).bind fun _ =>
  some (0,([]:List (Str×Str)))
def Qxy (N:Nat) (x1:Str) (m5000:(List (Str×Str))):(Int)→Option ((Int)⊕((Unit))):=fun v1 =>
 if (decide (v1>0)) then
  (slc x1 0 v1).bind fun s2 =>
  if (Qy (k:=.str) s2 m5000).isSome then
   none
  else
   some (.inl (IntKind.wrap .i64 (v1 - 1)))
 else
  some (.inr ())
def Jbd (N:Nat) (x1:Str) (x2:Int) (m5000:(List (Str×Str))):Option (Str×Bool) :=
 (Qx (Qxy N x1 m5000) N x2).bind fun _ =>
 some (([]:Str),false)
def Jbe (N:Nat) (x0:(List Xn)) (x1:Str):Option (Str×Bool) :=
 (Jbc N x0).bind fun (r1,r2) =>
 (if (r1 != 0) then
  some true
 else
  (Q8f N x1).bind fun r4 =>
  some (!r4):Option (Bool)).bind fun v5 =>
 if v5 then
  none
 else
  (Jbd N x1 (List.length x1:Int) r2).bind fun (r6,r7) =>
  some (r6,r7)
def Qxz (N:Nat) (x0:Str):(Int)→Option ((Int)⊕((Unit))):=fun v1 =>
 if (decide (v1<(List.length x0:Int))) then
  (Qrd x0 v1).bind fun c2 =>
  if (((decide (c2<97))||(decide (c2>122)))&&((v1==0)||((c2 != 45)&&((decide (c2<48))||(decide (c2>57)))))) then
   none
  else
   some (.inl (IntKind.wrap .i64 (v1+1)))
 else
  some (.inr ())
def Jbf (N:Nat) (x0:Str):Option (Bool) :=
 (Qx (Qxz N x0) N 0).bind fun _ =>
 some ((decide ((List.length x0:Int)≥1))&&(decide ((List.length x0:Int)≤24)))
def Qx0 (N:Nat) (x0:(List Yy)):(Unit)→Option ((Unit)⊕((Unit))):=fun _ =>
 if (decide (0<(List.length x0:Int))) then
  none
 else
  some (.inr ())
def Jbg (N:Nat) (x0:(List Yy)) (m5000:Yy):Option (Int) :=
 (Qx (Qx0 N x0) N ()).bind fun _ =>
 some (-1)
def Jbh (N:Nat) (x0:(List Yy)) (m5000:Yy):Option (Bool) :=
 (Jbg N x0 m5000).bind fun r1 =>
 some (decide (r1≥0))
def Qx1 (N:Nat) (x0:(List Yy)):(Int)→Option ((Int)⊕((Unit))):=fun v1 =>
 if (decide (v1<(List.length x0:Int))) then
  (idx x0 v1).bind fun x2 =>
  (Jbf N x2.Name).bind fun r3 =>
  if (!r3) then
   none
  else
   (slc x0 0 v1).bind fun s4 =>
   (Jbh N s4 x2).bind fun r5 =>
   if r5 then
    none
   else
    if (v1==(IntKind.wrap .i64 ((List.length x0:Int) - 1))) then
     if (decide ((List.length x2.Slots:Int)>0)) then
      none
     else
      some (.inl (IntKind.wrap .i64 (v1+1)))
    else
     none
 else
  some (.inr ())
def Jbi (N:Nat) (x0:(List Yy)):Option (Int) :=
 if ((List.length x0:Int)==0) then
  none
 else
  if (decide ((List.length x0:Int)>64)) then
   none
  else
   (Qx (Qx1 N x0) N 0).bind fun _ =>
   some 0
def Qx2 (N:Nat) (x0:(List Int)):(Unit)→Option ((Unit)⊕((Unit))):=fun _ =>
 if (decide (0<(List.length x0:Int))) then
  none
 else
  some (.inr ())
def Jbj (N:Nat) (x0:(List Int)) (x1:Int):Option (Int) :=
 (Qx (Qx2 N x0) N ()).bind fun _ =>
 some (-1)
def Jbk (N:Nat) (x0:(List Int)) (x1:Int):Option (Bool) :=
 (Jbj N x0 x1).bind fun r1 =>
 some (decide (r1≥0))
def Jbl (N:Nat) (x0:Int):Option (Int) :=
 if ((decide (x0<0))||(decide (x0≥146097))) then
  none
 else
  some (Int.tmod (IntKind.wrap .i64 (x0+5)) 7)
def Jbm (N:Nat) (x0:(List Int)) (x1:Int):Option (Int) :=
 (Jbk N x0 x1).bind fun r1 =>
 if r1 then
  none
 else
  (Jbl N x1).bind fun r2 =>
  (Qv7 .i64 1 r2).bind fun n3 =>
  some n3
def Qx3 (N:Nat) (x0:(List Z7)):(Unit)→Option ((Unit)⊕((Unit))):=fun _ =>
 if (decide (0<(List.length x0:Int))) then
  none
 else
  some (.inr ())
def Jbn (N:Nat) (x0:(List Z7)) (m5000:Int) (m5001:Int):Option (Int) :=
 (Qx (Qx3 N x0) N ()).bind fun _ =>
 some (-1)
def Jbo (N:Nat) (x0:(List Z7)) (m5000:Int) (m5001:Int):Option (Bool) :=
 (Jbn N x0 m5000 m5001).bind fun r1 =>
 some (decide (r1≥0))
def Qx4 (N:Nat) (x0:(List Yy)) (x1:Int) (x2:Int):(Int)→Option ((Int)⊕((Unit))):=fun v1 =>
 if (decide (v1<(List.length x0:Int))) then
  (idx x0 v1).bind fun x3 =>
  (Jbo N x3.Slots x1 x2).bind fun r4 =>
  if r4 then
   none
  else
   some (.inl (IntKind.wrap .i64 (v1+1)))
 else
  some (.inr ())
def Jbp (N:Nat) (x0:(List Yy)) (x1:Int) (x2:Int):Option (Str) :=
 (Qx (Qx4 N x0 x1 x2) N 0).bind fun _ =>
 (idx x0 (IntKind.wrap .i64 ((List.length x0:Int) - 1))).bind fun x5 =>
 some x5.Name
def Jbq (N:Nat) (x0:(List Yy)) (x1:(List Int)) (x2:Int):Option (Str) :=
 (Jbi N x0).bind fun r1 =>
 if (((r1 != 0)||(decide (x2<0)))||(decide (x2≥12622780800))) then
  none
 else
  (Jbm N x1 (IntKind.wrap .i64 (Int.tdiv x2 86400))).bind fun r2 =>
  (Jbp N x0 r2 (IntKind.wrap .i64 (Int.tdiv (Int.tmod x2 86400) 60))).bind fun r3 =>
  some r3
def Jbr (N:Nat) (x0:Vc) (m5000:Int) (m5001:Str) (m5002:Str):Option (Bool) :=
 some (((x0.Kind==m5000)&&((x0.Zone==m5001)||(x0.Zone==([]:Str))))&&((x0.Band==m5002)||(x0.Band==([]:Str))))
def Qx5 (N:Nat) (x0:Jz) (x1:Int) (x2:Str) (x3:Str):(Int×Str×Str×Int)→Option ((Int×Str×Str×Int)⊕((Bool×Int×Str×Str×Int×(List Yo)))):=fun (v1,v2,v3,v4) =>
 if (decide (0<(List.length x0.Rates:Int))) then
  (idx x0.Rates 0).bind fun x5 =>
  (Jbr N x5 x1 x2 x3).bind fun r6 =>
  if r6 then
   (app 24 ([]:(List Yo)) x5.Steps).bind fun q7 =>
   some (.inr (true,x5.Kind,x5.Zone,x5.Band,x5.Setup,q7))
  else
   none
 else
  none
def Jbs (N:Nat) (x0:Jz) (x1:Int) (x2:Str) (x3:Str):Option (Vc×Bool) :=
 (Qx (Qx5 N x0 x1 x2 x3) N (0,([]:Str),([]:Str),0)).bind fun (v8,v9,v10,v11,v12,v13) =>
 some ((v9,v10,v11,v12,v13),v8)
def Z61 (N:Nat) (x0:Vy) (x1:Je) (x2:Int) (x3:Int) (x4:Str) (x5:Int):Option (Int×Int×Int×Str×Str×Int×Int×Str×Str×Int×Int×Int×Int×(List Yo)) :=
 if ((decide (x5<0))||(decide (x5≥12622780800))) then
  none
 else
  if ((decide (x3<1))||(decide (x3≥5))) then
   none
  else
   (Q8f N x4).bind fun r1 =>
   if ((!r1)&&(!((x4==([]:Str))&&((x3==3)||(x3==4))))) then
    none
   else
    (Q8i N x0.Events x2 x5).bind fun (r2,r3) =>
    (Ja7 N x0.Events x2 x5).bind fun (r4,r5) =>
    if ((!r3)||(!r5)) then
     none
    else
     if r2.Suspended then
      none
     else
      (Jbb N x0.Tariffs r2.Plan x5).bind fun (r6,r7,r8,r9,r10,r11) =>
      if (!r9) then
       none
      else
       (Jbe N ([]:(List Xn)) x4).bind fun (r12,r13) =>
       (Jbq N r10 x0.Holidays x5).bind fun r18 =>
       (Jbs N (r6,r7,r8,([]:(List Xn)),r10,r11,([]:(List Uh))) x3 r12 r18).bind fun (r19,r20) =>
       if (!r20) then
        none
       else
        (Xg 24 r19.Steps).bind fun r21 =>
        some (r4.Account,x2,x3,r12,r6,r7,r19.Kind,r19.Zone,r19.Band,r19.Setup,0,0,0,r21)
def Jbt (N:Nat) (x0:Qd):Option (Qd) :=
 (Xg 48 x0.Takes).bind fun r1 =>
 (Xg 24 x0.Meter.Rate.Steps).bind fun r2 =>
 some (x0.Id,x0.Seq,x0.Start,x0.Until,(x0.Meter.Account,x0.Meter.Sub,x0.Meter.Kind,x0.Meter.Zone,x0.Meter.Plan,x0.Meter.Version,(x0.Meter.Rate.Kind,x0.Meter.Rate.Zone,x0.Meter.Rate.Band,x0.Meter.Rate.Setup,r2),x0.Meter.Free,x0.Meter.Paid),x0.Granted,r1,x0.Held,x0.Spent,x0.Closed,x0.Last)
def Ky (N:Nat) (r1:(List Qa)):(Int×(List Qa))→Option ((Int×(List Qa))⊕(((List Qa)))):=fun (v5,v6) =>
 if (decide (v5<(List.length r1:Int))) then
  (idx v6 v5).bind fun _ =>
  (idx v6 v5).bind fun x7 =>
  (Xg 16 x7.Zones).bind fun r8 =>
  (idx v6 v5).bind fun _ =>
  (idx v6 v5).bind fun y9 =>
  some (.inl ((IntKind.wrap .i64 (v5+1)),(List.set v6 (Int.toNat v5) (y9.Account,y9.Sub,y9.Product,y9.Index,y9.Kind,r8,y9.Valid,y9.Units,y9.Left,y9.Priority,y9.Shared))))
 else
  some (.inr v6)
def Zb (N:Nat) (x0:Je):Option ((List Qa)×(List Qh)×(List Qn)) :=
 (Xg 120 x0.Buckets).bind fun r1 =>
 (Xg 40 x0.Wallets).bind fun r2 =>
 (Xg 40 x0.Counters).bind fun r3 =>
 (Qx (Ky N r1) N (0,r1)).bind fun v10 =>
 some (v10,r2,r3)
def Z62 (N:Nat) (x0:Je) (x1:Qd):Option (Qd×(List Qa)×(List Qh)×(List Qn)) :=
 (Jbt N x1).bind fun r1 =>
 (Zb N x0).bind fun (r2,r3,r4) =>
 some (r1,r2,r3,r4)
def Qx6 (N:Nat) (x0:(List Q5)) (x1:Int):(Unit)→Option ((Unit)⊕((Int))):=fun _ =>
 if (decide (0<(List.length x0:Int))) then
  (idx x0 0).bind fun x2 =>
  if ((x2.Kind==1)&&(x2.Account==x1)) then
   some (.inr x2.Value)
  else
   none
 else
  none
def Jbu (N:Nat) (x0:(List Q5)) (x1:Int):Option (Int) :=
 (Qx (Qx6 N x0 x1) N ()).bind fun v3 =>
 some v3
def Qx7 (N:Nat) (x0:(List Q5)) (x1:Int):(Int×(List (Int×Bool)))→Option ((Int×(List (Int×Bool)))⊕((Unit))):=fun (v2,v3) =>
 if (decide (v2<(List.length x0:Int))) then
  (idx x0 v2).bind fun x4 =>
  (if ((x4.Kind==3)&&(x4.Account==x1)) then
   some (Vq (k:=(.int .i64)) x4.Sub true v3)
  else
   some v3:Option (((List (Int×Bool))))).bind fun v5 =>
  (if ((x4.Kind != 8)||(!((Qy (k:=(.int .i64)) x4.Sub v5).getD false))) then
   some true
  else
   none:Option (Bool)).bind fun v6 =>
  if v6 then
   some (.inl ((IntKind.wrap .i64 (v2+1)),v5))
  else
   none
 else
  some (.inr ())
def Jbv (N:Nat) (x0:(List Q5)) (x1:Int):Option (Unit) :=
 (Qx (Qx7 N x0 x1) N (0,([]:List (Int×Bool)))).bind fun _ =>
 some ()
def Qx8 (N:Nat) (x0:(List Jq)):(Unit)→Option ((Unit)⊕((Unit))):=fun _ =>
 if (decide (0<(List.length x0:Int))) then
  none
 else
  some (.inr ())
def Jbw (N:Nat) (x0:(List Jq)) (x1:Int) (m5001:(List Yg)):Option ((List Yg)) :=
 (Qx (Qx8 N x0) N ()).bind fun _ =>
 some m5001
def Qkd (N:Nat) (x0:(List Jq)):(Unit)→Option ((Unit)⊕((Unit))):=fun _ =>
 if (decide (0<(List.length x0:Int))) then
  none
 else
  some (.inr ())
def Qnr (N:Nat) (x0:(List Jq)) (x1:Int) (m5001:(List Yg)):Option (Unit) :=
 (Qx (Qkd N x0) N ()).bind fun _ =>
 some ()
def Jbx (N:Nat) (x0:Int):Option (Int) :=
 if (decide (x0≥4294967296)) then
  none
 else
  if (decide (x0≥65536)) then
   none
  else
   if (decide (x0≥256)) then
    none
   else
    (Qrd ([0,1,2,2,3,3,3,3,4,4,4,4,4,4,4,4,5,5,5,5,5,5,5,5,5,5,5,5,5,5,5,5,6,6,6,6,6,6,6,6,6,6,6,6,6,6,6,6,6,6,6,6,6,6,6,6,6,6,6,6,6,6,6,6,7,7,7,7,7,7,7,7,7,7,7,7,7,7,7,7,7,7,7,7,7,7,7,7,7,7,7,7,7,7,7,7,7,7,7,7,7,7,7,7,7,7,7,7,7,7,7,7,7,7,7,7,7,7,7,7,7,7,7,7,7,7,7,7,8,8,8,8,8,8,8,8,8,8,8,8,8,8,8,8,8,8,8,8,8,8,8,8,8,8,8,8,8,8,8,8,8,8,8,8,8,8,8,8,8,8,8,8,8,8,8,8,8,8,8,8,8,8,8,8,8,8,8,8,8,8,8,8,8,8,8,8,8,8,8,8,8,8,8,8,8,8,8,8,8,8,8,8,8,8,8,8,8,8,8,8,8,8,8,8,8,8,8,8,8,8,8,8,8,8,8,8,8,8,8,8,8,8,8,8,8,8,8,8,8,8,8,8,8,8,8,8]:Str) (IntKind.wrap .u8 x0)).bind fun c1 =>
    some (IntKind.wrap .i64 (0+(IntKind.wrap .i64 c1)))
def Jby (N:Nat) (x0:Int):Option (Int) :=
 (Jbx N x0).bind fun r1 =>
 some r1
def Qx9 (N:Nat) (x1:Int) (x2:Int):(Unit)→Option ((Unit)⊕((Unit))):=fun _ =>
 if (decide ((IntKind.wrap .i64 (x1+1))<x2)) then
  none
 else
  some (.inr ())
def Jbz (N:Nat) (x0:(List Yg)) (x1:Int) (x2:Int):Option (Unit) :=
 (Qx (Qx9 N x1 x2) N ()).bind fun _ =>
 some ()
def Qya (N:Nat) (x2:Int) (x1:Int) (x0:(List Yg)):(Unit)→Option ((Unit)⊕((Unit))):=fun _ =>
 if (decide ((IntKind.wrap .i64 (x2 - x1))≤12)) then
  (Jbz N x0 x1 x2).bind fun _ =>
  some (.inr ())
 else
  none
def Jb0 (N:Nat) (x0:(List Yg)) (x1:Int) (x2:Int) (x3:Int):Option (Unit) :=
 (Qx (Qya N x2 x1 x0) N ()).bind fun _ =>
 some ()
def Jb1 (N:Nat) (x0:(List Yg)):Option (Unit) :=
 (Jby N (IntKind.wrap .u64 (List.length x0:Int))).bind fun r1 =>
 (Jb0 N x0 0 (List.length x0:Int) r1).bind fun _ =>
 some ()
def Qyb (N:Nat) (r1:(List Yg)):(Unit)→Option ((Unit)⊕((Unit))):=fun _ =>
 if (decide (0<(List.length r1:Int))) then
  none
 else
  some (.inr ())
def Jb2 (N:Nat) (x0:(List Jq)) (x1:(List Jq)):Option (Unit) :=
 (Jbw N x0 0 ([]:(List Yg))).bind fun r1 =>
 (Qnr N x1 1 r1).bind fun _ =>
 (Jb1 N r1).bind fun _ =>
 (Qx (Qyb N r1) N ()).bind fun _ =>
 some ()
def Jb3 (N:Nat) (x0:(List Jq)):Option (Unit) :=
 (Jb2 N x0 ([]:(List Jq))).bind fun _ =>
 some ()
def Qyc (N:Nat) (x0:(List Y8)):(Unit)→Option ((Unit)⊕((Unit))):=fun _ =>
 if (decide (0<(List.length x0:Int))) then
  none
 else
  some (.inr ())
def Qyd (N:Nat):(Unit)→Option ((Unit)⊕((Unit))):=fun _ =>
 if (decide (0<((0:Nat):Int))) then
  none
 else
  some (.inr ())
def Jb4 (N:Nat) (x0:(List Y8)) (x1:Int) (x2:Int):Option (Unit) :=
 (Qx (Qyc N x0) N ()).bind fun _ =>
 (Jb3 N ([]:(List Jq))).bind fun _ =>
 (Qx (Qyd N) N ()).bind fun _ =>
 some ()
def Qye (N:Nat) (x2:Je):(Unit)→Option ((Unit)⊕((Unit))):=fun _ =>
 if (decide (0<(List.length x2.Buckets:Int))) then
  none
 else
  some (.inr ())
def Qyf (N:Nat):(Unit)→Option ((Unit)⊕((Unit))):=fun _ =>
 if (decide (0<((0:Nat):Int))) then
  none
 else
  some (.inr ())
def Q8k (N:Nat) (x0:(List Q5)) (x1:(List Y3)) (x2:Je) (x3:Int) (x4:Int):Option (Je) :=
 (Qx (Qye N x2) N ()).bind fun _ =>
 (app 40 ([]:(List Qh)) x2.Wallets).bind fun q1 =>
 (app 40 ([]:(List Qn)) x2.Counters).bind fun q2 =>
 (Jbu N x0 x3).bind fun r3 =>
 if (((decide (x4≥0))&&(decide (x4<12622780800)))&&(decide (r3>0))) then
  (Jbv N x0 x3).bind fun _ =>
  (Jb4 N ([]:(List Y8)) r3 x4).bind fun _ =>
  (Qx (Qyf N) N ()).bind fun _ =>
  some (([]:(List Qa)),q1,q2)
 else
  none
def Qyg (N:Nat) (x0:(List Qa)):(Unit)→Option ((Unit)⊕((Unit))):=fun _ =>
 if (decide (0<(List.length x0:Int))) then
  none
 else
  some (.inr ())
def Jb5 (N:Nat) (x0:(List Qa)):Option ((List Qa)) :=
 (Qx (Qyg N x0) N ()).bind fun _ =>
 some ([]:(List Qa))
def Jb6 (N:Nat) (x0:Je):Option ((List Qa)×(List Qh)×(List Qn)) :=
 (Jb5 N x0.Buckets).bind fun r1 =>
 (app 40 ([]:(List Qh)) x0.Wallets).bind fun q2 =>
 (app 40 ([]:(List Qn)) x0.Counters).bind fun q3 =>
 some (r1,q2,q3)
def Qyh (N:Nat) (x0:(List Q5)) (x1:Int) (x2:Int):(Unit)→Option ((Unit)⊕((Bool))):=fun _ =>
 if (decide (0<(List.length x0:Int))) then
  (idx x0 0).bind fun x3 =>
  if (((x3.Kind==1)&&(x3.Account==x1))&&(decide (x3.At≤x2))) then
   some (.inr (x3.Name==([112,114,101,112,97,105,100]:Str)))
  else
   none
 else
  none
def Jb7 (N:Nat) (x0:(List Q5)) (x1:Int) (x2:Int):Option (Bool) :=
 (Qx (Qyh N x0 x1 x2) N ()).bind fun v4 =>
 some v4
def Qyi (N:Nat) (x0:(List Qh)):(Int×(List (Int×Int)))→Option ((Int×(List (Int×Int)))⊕(((List (Int×Int))))):=fun (v2,v3) =>
 if (decide (v2<(List.length x0:Int))) then
  (idx x0 v2).bind fun x4 =>
  if (!(Qy (k:=(.int .i64)) x4.Account v3).isSome) then
   some (.inl ((IntKind.wrap .i64 (v2+1)),(Vq (k:=(.int .i64)) x4.Account v2 v3)))
  else
   none
 else
  some (.inr v3)
def Jb8 (N:Nat) (x0:(List Qh)):Option ((List (Int×Int))) :=
 (Qx (Qyi N x0) N (0,([]:List (Int×Int)))).bind fun v5 =>
 some v5
def Qyj (N:Nat) (x0:(List Qh)):(Unit)→Option ((Unit)⊕((Unit))):=fun _ =>
 (if (decide (0<(List.length x0:Int))) then
  none
 else
  some false:Option (Bool)).bind fun v3 =>
 if v3 then
  none
 else
  some (.inr ())
def Jb9 (N:Nat) (x0:(List Qh)) (x1:Int):Option (Int×(List Qh)) :=
 (Jb8 N x0).bind fun r1 =>
 if (Qy (k:=(.int .i64)) x1 r1).isSome then
  (app 40 ([]:(List Qh)) x0).bind fun q2 =>
  some (((Qy (k:=(.int .i64)) x1 r1).getD 0),q2)
 else
  (Qx (Qyj N x0) N ()).bind fun _ =>
  (slc x0 0 0).bind fun s4 =>
  (app 40 ([]:(List Qh)) s4).bind fun q5 =>
  (app 40 q5 ([(x1,0,0,0,(-1))]:(List Qh))).bind fun q6 =>
  (slc x0 0 (List.length x0:Int)).bind fun s7 =>
  (app 40 q6 s7).bind fun q8 =>
  some (0,q8)
def Qgv (N:Nat) (x0:Int) (x1:Int) (x2:Int):Option (Bool) :=
 some ((decide (x0≥x1))&&(decide (x0≤x2)))
def Q8l (N:Nat) (x0:Int):Option (Bool) :=
 some ((decide (x0≥(-1125899906842624)))&&(decide (x0≤1125899906842624)))
def Qqn (N:Nat) (x0:Qh):Option (Int) :=
 (Qgv N x0.Account 1 9999).bind fun r1 =>
 (if (!r1) then
  some true
 else
  (Q8l N x0.Balance).bind fun r3 =>
  some (!r3):Option (Bool)).bind fun v4 =>
 (if v4 then
  some true
 else
  (Qgv N x0.Floor (-1125899906842624) 0).bind fun r6 =>
  some (!r6):Option (Bool)).bind fun v7 =>
 if v7 then
  none
 else
  (Qgv N x0.Held 0 1125899906842624).bind fun r8 =>
  (if (!r8) then
   some true
  else
   (Qgv N x0.Until (-1) 12622780799).bind fun r10 =>
   some (!r10):Option (Bool)).bind fun v11 =>
  if v11 then
   none
  else
   if (decide ((IntKind.wrap .i64 (x0.Balance - x0.Held))<x0.Floor)) then
    none
   else
    some 0
def Jca (N:Nat) (x0:Qh) (x1:Int):Option (Qh×Int) :=
 (Qqn N x0).bind fun r1 =>
 if (r1 != 0) then
  none
 else
  (Qgv N x1 0 1125899906842624).bind fun r2 =>
  (if (!r2) then
   some true
  else
   (Q8l N (IntKind.wrap .i64 (x0.Balance+x1))).bind fun r4 =>
   some (!r4):Option (Bool)).bind fun v5 =>
  if v5 then
   none
  else
   some ((x0.Account,(IntKind.wrap .i64 (x0.Balance+x1)),x0.Floor,x0.Held,x0.Until),0)
def Jcb (N:Nat) (x0:Qh) (x1:Int) (m5000:Qh):Option (Qh) :=
 if (x1==0) then
  some x0
 else
  none
def Qke (N:Nat) (r1:(List Y0)) (x2:Int):(Jq×Str×Bool×Bool)→Option ((Jq×Str×Bool×Bool)⊕((Bool×Y0))):=fun (v2,v3,v4,v5) =>
 if (decide (0<(List.length r1:Int))) then
  (idx r1 0).bind fun _ =>
  (idx r1 0).bind fun x6 =>
  (Q8h N x6.Period x2).bind fun r7 =>
  if r7 then
   some (.inr (true,x6))
  else
   none
 else
  none
def Qed (N:Nat) (x0:(List Q5)) (x1:Int) (x2:Int):Option (Y0×Bool) :=
 (Q8g N x0 x1).bind fun r1 =>
 (Qx (Qke N r1 x2) N ((0,0),([]:Str),false,false)).bind fun (v8,v9) =>
 some (v9,v8)
def Qkf (N:Nat) (x0:Int) (x1:Int):Option (Bool) :=
 some ((decide (x0≥0))&&(decide (x0≤x1)))
def Bp (N:Nat) (x0:Qa):Option (Int×Int×Str×Int×Int×Jq×Int×Int×Int×Bool×(List Str)) :=
 (app 16 ([]:(List Str)) x0.Zones).bind fun q1 =>
 some (x0.Account,x0.Sub,x0.Product,x0.Index,x0.Kind,x0.Valid,x0.Units,x0.Left,x0.Priority,x0.Shared,q1)
def Gf (N:Nat) (x0:(List Qa)):(Int×(List Qa))→Option ((Int×(List Qa))⊕(((List Qa)))):=fun (v2,v3) =>
 if (decide (v2<(List.length x0:Int))) then
  (idx x0 v2).bind fun x4 =>
  (Bp N x4).bind fun (r14,r15,r16,r17,r18,r19,r20,r21,r22,r23,r24) =>
  (app 120 v3 ([(r14,r15,r16,r17,r18,r24,r19,r20,r21,r22,r23)]:(List Qa))).bind fun q25 =>
  some (.inl ((IntKind.wrap .i64 (v2+1)),q25))
 else
  some (.inr v3)
def Xl (N:Nat) (x0:(List Qa)):Option ((List Qa)) :=
 (Qx (Gf N x0) N (0,([]:(List Qa)))).bind fun v26 =>
 some v26
def Qyk (N:Nat) (x1:Int) (x2:Int):(Unit)→Option ((Unit)⊕((Unit))):=fun _ =>
 if (decide (x1<x2)) then
  none
 else
  some (.inr ())
def Jcc (N:Nat) (x0:(List Qa)) (x1:Int) (x2:Int):Option (Unit) :=
 if (decide ((IntKind.wrap .i64 (x2 - x1))<2)) then
  (Qx (Qyk N x1 x2) N ()).bind fun _ =>
  some ()
 else
  none
def Qyl (N:Nat):(Unit)→Option ((Unit)⊕((Unit))):=fun _ =>
 if (decide (0<((0:Nat):Int))) then
  none
 else
  some (.inr ())
def Jcd (N:Nat) (x0:(List Qa)) (x1:Int) (x2:Int) (x3:Int) (x4:Str) (x5:Bool) (x6:Int) (x7:Int):Option (Int×(List Qa)) :=
 (Xl N x0).bind fun r1 =>
 (Jcc N x0 0 (List.length x0:Int)).bind fun _ =>
 (Qx (Qyl N) N ()).bind fun _ =>
 some ((if 0>x7 then 0 else x7),r1)
def Qym (N:Nat) (r1:(List Q6)) (x1:Int):(Int×Int×Int×Bool×Bool)→Option ((Int×Int×Int×Bool×Bool)⊕((Bool×Q6))):=fun (v3,v4,v5,v6,v7) =>
 if (decide (0<(List.length r1:Int))) then
  (idx r1 0).bind fun _ =>
  (idx r1 0).bind fun x8 =>
  if (x8.Id==x1) then
   some (.inr (true,x8))
  else
   none
 else
  none
def Jce (N:Nat) (x0:(List Q5)) (x1:Int) (x2:Int):Option (Q6×Bool) :=
 (Qxq N x0 x2).bind fun (r1,r2) =>
 (Qx (Qym N r1 x1) N (0,0,0,false,false)).bind fun (v9,v10) =>
 some (v10,v9)
def Q8m (N:Nat) (x0:Qh):Option (Int) :=
 (Qqn N x0).bind fun r1 =>
 if (r1 != 0) then
  none
 else
  some (IntKind.wrap .i64 ((IntKind.wrap .i64 (x0.Balance - x0.Held)) - x0.Floor))
def Qyn (N:Nat) (x1:(List Int)) (x0:Int):(Int)→Option ((Int)⊕((Unit))):=fun v1 =>
 if (decide (v1<(List.length x1:Int))) then
  (idx x1 v1).bind fun x2 =>
  if ((decide (x2<0))||(decide (x2>x0))) then
   none
  else
   some (.inl (IntKind.wrap .i64 (v1+1)))
 else
  some (.inr ())
def Q8n (N:Nat) (x0:Int) (x1:(List Int)):Option (Bool) :=
 (Qx (Qyn N x1 x0) N 0).bind fun _ =>
 some true
def Qyo (N:Nat) (x0:(List Yo)):(Int×Int)→Option ((Int×Int)⊕((Unit))):=fun (v1,v2) =>
 if (decide (v2<(List.length x0:Int))) then
  (idx x0 v2).bind fun x3 =>
  (Q8n N 1099511627776 ([x3.Upto,x3.Quantum]:(List Int))).bind fun r4 =>
  (if ((!r4)||(x3.Quantum==0)) then
   some true
  else
   (Q8n N 1125899906842624 ([x3.Price]:(List Int))).bind fun r6 =>
   some (!r6):Option (Bool)).bind fun v7 =>
  if v7 then
   none
  else
   if ((x3.Upto==0) != (v2==(IntKind.wrap .i64 ((List.length x0:Int) - 1)))) then
    none
   else
    if ((x3.Upto != 0)&&(decide (x3.Upto≤v1))) then
     none
    else
     some (.inl (x3.Upto,(IntKind.wrap .i64 (v2+1))))
 else
  some (.inr ())
def Jcf (N:Nat) (x0:(List Yo)):Option (Int) :=
 if ((List.length x0:Int)==0) then
  none
 else
  if (decide ((List.length x0:Int)>64)) then
   none
  else
   (Qx (Qyo N x0) N (0,0)).bind fun _ =>
   some 0
def Qyp (N:Nat) (x0:(List Yo)) (x1:Int):(Int×Int×Int)→Option ((Int×Int×Int)⊕((Int))):=fun (v1,v2,v3) =>
 if (decide (v3<(List.length x0:Int))) then
  (idx x0 v3).bind fun x4 =>
  if (x4.Upto != 0) then
   none
  else
   if (decide (x1≤v2)) then
    some (.inr v1)
   else
    (Qrf .i64 (IntKind.wrap .i64 ((IntKind.wrap .i64 ((IntKind.wrap .i64 (x1 - v2))+x4.Quantum)) - 1)) x4.Quantum).bind fun n5 =>
    (Qrf .i64 (IntKind.wrap .i64 (1125899906842624 - v1)) n5).bind fun n6 =>
    if (decide (x4.Price>n6)) then
     none
    else
     some (.inl ((IntKind.wrap .i64 (v1+(IntKind.wrap .i64 (n5*x4.Price)))),x1,(IntKind.wrap .i64 (v3+1))))
 else
  some (.inr v1)
def Jcg (N:Nat) (x0:(List Yo)) (x1:Int):Option (Int×Bool) :=
 (Qx (Qyp N x0 x1) N (0,0,0)).bind fun v7 =>
 some (v7,true)
def Jch (N:Nat) (x0:(List Yo)) (x1:Int):Option (Int×Int) :=
 (Jcf N x0).bind fun r1 =>
 if (r1 != 0) then
  none
 else
  if ((decide (x1<0))||(decide (x1>1099511627776))) then
   none
  else
   (Jcg N x0 x1).bind fun (r2,r3) =>
   if (!r3) then
    none
   else
    some (r2,0)
def Q8o (N:Nat) (x0:Kx) (x1:Int):Option (Int×Int) :=
 (Jch N x0.Meter.Rate.Steps x1).bind fun (r1,r2) =>
 if (r2 != 0) then
  none
 else
  if (x1==0) then
   some (0,0)
  else
   if (decide ((IntKind.wrap .i64 (x0.Meter.Rate.Setup+r1))>1125899906842624)) then
    none
   else
    some ((IntKind.wrap .i64 (x0.Meter.Rate.Setup+r1)),0)
def Qyq (N:Nat) (x0:Kx) (x1:Int):Option (Int×Int) :=
 (Qkf N x1 1099511627776).bind fun r1 =>
 (if (!r1) then
  some true
 else
  (Qkf N x0.Meter.Paid 1099511627776).bind fun r3 =>
  some (!r3):Option (Bool)).bind fun v4 =>
 (if (v4||(decide ((IntKind.wrap .i64 (x0.Meter.Paid+x1))>1099511627776))) then
  some true
 else
  (Qkf N x0.Meter.Rate.Setup 1125899906842624).bind fun r6 =>
  some (!r6):Option (Bool)).bind fun v7 =>
 if v7 then
  none
 else
  (Q8o N x0 (IntKind.wrap .i64 (x0.Meter.Paid+x1))).bind fun (r8,r9) =>
  if (r9 != 0) then
   none
  else
   (Q8o N x0 x0.Meter.Paid).bind fun (r10,r11) =>
   if (r11 != 0) then
    none
   else
    some ((IntKind.wrap .i64 (r8 - r10)),0)
def Jci (N:Nat) (x0:Int) (m5000:Kx) (m5001:Int):Option (Bool) :=
 (Qyq N m5000 x0).bind fun (r1,r2) =>
 some ((r2==0)&&(decide (r1≤m5001)))
def Qyr (N:Nat) (x0:Kx) (x2:Int):(Int×Int)→Option ((Int×Int)⊕((Int))):=fun (v1,v2) =>
 if (decide (v1<v2)) then
  (Jci N (IntKind.wrap .i64 (v2 - (IntKind.wrap .i64 (Int.tdiv (IntKind.wrap .i64 (v2 - v1)) 2)))) x0 x2).bind fun r3 =>
  if r3 then
   some (.inl ((IntKind.wrap .i64 (v2 - (IntKind.wrap .i64 (Int.tdiv (IntKind.wrap .i64 (v2 - v1)) 2)))),v2))
  else
   some (.inl (v1,(IntKind.wrap .i64 ((IntKind.wrap .i64 (v2 - (IntKind.wrap .i64 (Int.tdiv (IntKind.wrap .i64 (v2 - v1)) 2)))) - 1))))
 else
  some (.inr v1)
def Jcj (N:Nat) (x0:Kx) (x1:Int) (x2:Int):Option (Int) :=
 if (decide (x1≤0)) then
  none
 else
  (Qx (Qyr N x0 x2) N (0,x1)).bind fun v4 =>
  some v4
def Qkg (N:Nat) (r1:(List Q6)) (x1:Int):(Int×Int×Int×Bool×Bool)→Option ((Int×Int×Int×Bool×Bool)⊕((Bool×Q6))):=fun (v3,v4,v5,v6,v7) =>
 if (decide (0<(List.length r1:Int))) then
  (idx r1 0).bind fun _ =>
  (idx r1 0).bind fun x8 =>
  if (x8.Id==x1) then
   some (.inr (true,x8))
  else
   none
 else
  none
def Qee (N:Nat) (x0:(List Q5)) (x1:Int) (x2:Int):Option (Q6×Bool) :=
 (Qxq N x0 x2).bind fun (r1,r2) =>
 (Qx (Qkg N r1 x1) N (0,0,0,false,false)).bind fun (v9,v10) =>
 some (v10,v9)
def Q8p (N:Nat) (x0:Jf) (x1:Int):Option (Int×Int) :=
 (Qyq N x0 x1).bind fun (r1,r2) =>
 some (r1,r2)
def Q8q (N:Nat) (x0:Qh) (x1:Int):Option (Qh×Int) :=
 (Qqn N x0).bind fun r1 =>
 if (r1 != 0) then
  none
 else
  (Qgv N x1 0 1125899906842624).bind fun r2 =>
  if (!r2) then
   none
  else
   (Q8m N x0).bind fun r3 =>
   if (decide (x1>r3)) then
    none
   else
    if (decide ((IntKind.wrap .i64 (x0.Held+x1))>1125899906842624)) then
     none
    else
     some ((x0.Account,x0.Balance,x0.Floor,(IntKind.wrap .i64 (x0.Held+x1)),x0.Until),0)
def Qkh (N:Nat) (x0:(List Q5)) (x2:Int) (r8:(List Qh)) (r7:Int) (x3:Int):(Int×Qh)→Option ((Int×Qh)⊕((Qh))):=fun (v11,v12) =>
 if (decide (v11<(List.length x0:Int))) then
  ((idx x0 v11).bind fun x17 =>
  (if (x17.Account != x2) then
   some true
  else
   (idx r8 r7).bind fun _ =>
   (idx r8 r7).bind fun x19 =>
   some (decide (x17.At≤x19.Until)):Option (Bool)).bind fun v20 =>
  if (v20||(decide (x17.At>x3))) then
   some v12
  else
   if (x17.Kind==14) then
    (Jca N v12 x17.Value).bind fun (r21,r22) =>
    (Jcb N r21 r22 v12).bind fun r23 =>
    some r23
   else
    if (x17.Kind==15) then
     none
    else
     some v12:Option ((Qh))).bind fun v24 =>
  some (.inl ((IntKind.wrap .i64 (v11+1)),v24))
 else
  some (.inr v12)
def Qef (N:Nat) (x0:(List Q5)) (x1:Je) (x2:Int) (x3:Int):Option ((List Qa)×(List Qh)×(List Qn)) :=
 (Jb6 N x1).bind fun (r1,r2,r3) =>
 (if ((decide (x3<0))||(decide (x3≥12622780800))) then
  some true
 else
  (Jb7 N x0 x2 x3).bind fun r5 =>
  some (!r5):Option (Bool)).bind fun v6 =>
 if v6 then
  none
 else
  (Jb9 N r2 x2).bind fun (r7,r8) =>
  (idx r8 r7).bind fun _ =>
  (idx r8 r7).bind fun x9 =>
  (Qx (Qkh N x0 x2 r8 r7 x3) N (0,x9)).bind fun v25 =>
  (idx r8 r7).bind fun _ =>
  (idx r8 r7).bind fun y26 =>
  some (r1,(List.set r8 (Int.toNat r7) (v25.Account,v25.Balance,v25.Floor,v25.Held,(if x3>v25.Until then x3 else v25.Until))),r3)
def Qki (N:Nat) (m5000:(List Qh)) (x2:Jf):(Unit)→Option ((Unit)⊕((Int))):=fun _ =>
 if (decide (0<(List.length m5000:Int))) then
  (idx m5000 0).bind fun _ =>
  (idx m5000 0).bind fun x4 =>
  if (x4.Account==x2.Account) then
   (Qqn N x4).bind fun r5 =>
   if (r5 != 0) then
    none
   else
    (Q8m N x4).bind fun r6 =>
    some (.inr (if (IntKind.wrap .i64 (1125899906842624 - x4.Held))<r6 then (IntKind.wrap .i64 (1125899906842624 - x4.Held)) else r6))
  else
   none
 else
  none
def Qns (N:Nat) (x0:Vy) (x1_0:(List Qa)) (x2:Jf) (x3:Int) (m5000:(List Qh)) (m5001:(List Qn)):Option (Int) :=
 (Jce N x0.Events x2.Account x3).bind fun (r1,r2) =>
 if ((!r2)||(!r1.Prepaid)) then
  none
 else
  (Qx (Qki N m5000 x2) N ()).bind fun v7 =>
  some v7
def Qeg (N:Nat) (x0:Vy) (x1_0:(List Qa)) (x2:Jf) (x3:Int) (x4:Int) (m5000:(List Qh)) (m5001:(List Qn)):Option (Int×Int) :=
 if ((((decide (x4<1))||(decide (x4>1099511627776)))||(decide (x3<0)))||(decide (x3≥12622780800))) then
  none
 else
  (Qkf N x2.Free 1099511627776).bind fun r1 =>
  if r1 then
   if (decide ((if (IntKind.wrap .i64 (1099511627776 - x2.Free))<x4 then (IntKind.wrap .i64 (1099511627776 - x2.Free)) else x4)>0)) then
    (Q8i N x0.Events x2.Sub x3).bind fun (r2,r3) =>
    (Jcd N x1_0 x2.Account x2.Sub x2.Kind x2.Zone r2.Family x3 (if (IntKind.wrap .i64 (1099511627776 - x2.Free))<x4 then (IntKind.wrap .i64 (1099511627776 - x2.Free)) else x4)).bind fun (r4,r5) =>
    (Qns N x0 x1_0 x2 x3 m5000 m5001).bind fun r6 =>
    (Jcj N x2 (IntKind.wrap .i64 (x4 - (IntKind.wrap .i64 ((if (IntKind.wrap .i64 (1099511627776 - x2.Free))<x4 then (IntKind.wrap .i64 (1099511627776 - x2.Free)) else x4) - r4)))) r6).bind fun r7 =>
    some ((IntKind.wrap .i64 ((if (IntKind.wrap .i64 (1099511627776 - x2.Free))<x4 then (IntKind.wrap .i64 (1099511627776 - x2.Free)) else x4) - r4)),r7)
   else
    none
  else
   none
def Qnt (N:Nat) (x0:Qh) (m5001_0:Qd) (m5001_1_0:(List Qa)) (m5002:(List Qh)) (m5003:(List Qn)):Option (Bool) :=
 some (x0.Account==m5001_0.Meter.Account)
def Qkj (N:Nat) (m5000:(List Qh)) (m5002_0:Qd) (m5002_1_0:(List Qa)) (m5003:(List Qn)):(Unit)→Option ((Unit)⊕((Int))):=fun _ =>
 if (decide (0<(List.length m5000:Int))) then
  (idx m5000 0).bind fun _ =>
  (idx m5000 0).bind fun x1 =>
  (Qnt N x1 m5002_0 m5002_1_0 m5000 m5003).bind fun r2 =>
  if r2 then
   some (.inr 0)
  else
   none
 else
  none
def Qnu (N:Nat) (m5000:(List Qh)) (m5002_0:Qd) (m5002_1_0:(List Qa)) (m5003:(List Qn)):Option (Int) :=
 (Qx (Qkj N m5000 m5002_0 m5002_1_0 m5003) N ()).bind fun v3 =>
 some v3
def Qnv (N:Nat) (m5000_0:Qd) (m5000_1_0:(List Qa)) (m5001:(List Qh)) (m5002:(List Qn)):Option (Int×(List Qh)) :=
 (Qnu N m5001 m5000_0 m5000_1_0 m5002).bind fun r1 =>
 some (r1,m5001)
def Qnw (N:Nat) (x1:Int) (m5000_0:Qd) (m5000_1_0:(List Qa)) (m5001:(List Qh)) (m5002:(List Qn)):Option (Qd×(List Qa)×(List Qh)×(List Qn)) :=
 (Q8p N m5000_0.Meter x1).bind fun (r1,r2) =>
 (Qnv N m5000_0 m5000_1_0 m5001 m5002).bind fun (r3,r4) =>
 if (((r2 != 0)||(r1==0))||(decide (r3<0))) then
  some (m5000_0,m5000_1_0,r4,m5002)
 else
  (idx r4 r3).bind fun _ =>
  (idx r4 r3).bind fun x5 =>
  (Q8q N x5 r1).bind fun (r6,r7) =>
  if (r7==0) then
   (idx r4 r3).bind fun _ =>
   (idx r4 r3).bind fun y8 =>
   some ((m5000_0.Id,m5000_0.Seq,m5000_0.Start,m5000_0.Until,m5000_0.Meter,m5000_0.Granted,m5000_0.Takes,r1,m5000_0.Spent,m5000_0.Closed,m5000_0.Last),m5000_1_0,(List.set r4 (Int.toNat r3) r6),m5002)
  else
   none
def Z63 (N:Nat) (x1:Vy) (x2:Int) (x3:Int) (m5000_0:Qd) (m5001:(List Qa)) (m5002:(List Qh)) (m5003:(List Qn)):Option (Int×Qd×(List Qa)×(List Qh)×(List Qn)) :=
 (Q8k N x1.Events x1.Products (m5001,m5002,m5003) m5000_0.Meter.Account x2).bind fun r2 =>
 (Qef N x1.Events r2 m5000_0.Meter.Account x2).bind fun (r3,r4,r5) =>
 (Qed N x1.Events m5000_0.Meter.Sub x2).bind fun (r6,r7) =>
 if (!r7) then
  none
 else
  if r6.Suspended then
   none
  else
   (Qeg N x1 r3 m5000_0.Meter x2 x3 r4 r5).bind fun (r10,r11) =>
   if ((IntKind.wrap .i64 (r10+r11))==0) then
    none
   else
    if (decide (r10>0)) then
     none
    else
     (Qee N x1.Events m5000_0.Meter.Account x2).bind fun (r12,r13) =>
     if (r13&&r12.Prepaid) then
      (Qnw N r11 (m5000_0.Id,m5000_0.Seq,m5000_0.Start,(if 12622780800<(IntKind.wrap .i64 (x2+3600)) then 12622780800 else (IntKind.wrap .i64 (x2+3600))),m5000_0.Meter,m5000_0.Granted,m5000_0.Takes,m5000_0.Held,m5000_0.Spent,m5000_0.Closed,m5000_0.Last) r3 r4 r5).bind fun (r14,r15,r16,r17) =>
      some (0,(r14.Id,r14.Seq,r14.Start,r14.Until,r14.Meter,(IntKind.wrap .i64 (r10+r11)),r14.Takes,r14.Held,r14.Spent,r14.Closed,r14.Last),r15,r16,r17)
     else
      none
def Z67 (N:Nat) (x1:Jj) (x2:Int) (x3:Int) (x4:Int) (m5000_0:Qd) (m5000_1_0:(List Qa)) (m5001:(List Qh)) (m5002:(List Qn)):Option ((List Qa)×Qd×Ja×Qd×(List Qa)×(List Qh)×(List Qn)) :=
 some (m5000_1_0,(m5000_0.Id,x1.Seq,m5000_0.Start,m5000_0.Until,m5000_0.Meter,m5000_0.Granted,m5000_0.Takes,m5000_0.Held,m5000_0.Spent,m5000_0.Closed,(x1.Session,x1.Seq,x2,x3,x4)),(x1.Session,x1.Seq,x2,x3,x4),(m5000_0.Id,x1.Seq,m5000_0.Start,m5000_0.Until,m5000_0.Meter,m5000_0.Granted,m5000_0.Takes,m5000_0.Held,m5000_0.Spent,m5000_0.Closed,(x1.Session,x1.Seq,x2,x3,x4)),m5000_1_0,m5001,m5002)
def Z64 (N:Nat) (x1:Jj) (x2:Int) (m5000_0:Qd) (m5000_1_0:(List Qa)) (m5001:(List Qh)) (m5002:(List Qn)):Option ((List Qa)×Qd×Ja×Qd×(List Qa)×(List Qh)×(List Qn)) :=
 if (decide (m5000_0.Granted>0)) then
  (Z67 N x1 m5000_0.Granted m5000_0.Until x2 m5000_0 m5000_1_0 m5001 m5002).bind fun (r1,r2,r3,r4,r5,r6,r7) =>
  some (r1,r2,r3,r4,r5,r6,r7)
 else
  none
def Z29 (N:Nat) (x0:Vy) (x1:Je) (x2:Jj):Option (Je×Qd×Ja) :=
 if (x2.Kind==4) then
  none
 else
  if ((x2.Kind != 1)&&(x2.Kind != 4)) then
   none
  else
   if ((decide (x2.Session<1))||(decide (x2.Session>999999999))) then
    none
   else
    if (x2.Seq != 1) then
     none
    else
     if (((x2.Used != 0)||(decide (x2.Ask<0)))||(decide (x2.Ask>1099511627776))) then
      none
     else
      if (0 != 0) then
       none
      else
       (Z61 N x0 x1 x2.Sub x2.Usage x2.B x2.At).bind fun (r1,r2,r3,r4,r5,r6,r7,r8,r9,r10,r11,r12,r13,r14) =>
       if (r13 != 0) then
        none
       else
        (Z62 N x1 (x2.Session,0,x2.At,0,(r1,r2,r3,r4,r5,r6,(r7,r8,r9,r10,r14),r11,r12),0,([]:(List Qw)),0,0,false,(0,0,0,0,0))).bind fun (r15,r16,r17,r18) =>
        (Z63 N x0 x2.At x2.Ask r15 r16 r17 r18).bind fun (r19,r20,r21,r22,r23) =>
        if (x2.Kind==1) then
         (Z64 N x2 r19 r20 r21 r22 r23).bind fun (r24,r25,r26,r27,r28,r29,r30) =>
         some ((r24,r29,r30),r25,r26)
        else
         none
def Z68 (N:Nat) (x0:Qd) (x1:Jj) (x2:Int) (x3:Int):Option (Int) :=
 if (x1.Kind != x2) then
  none
 else
  if (x1.Session != x0.Id) then
   none
  else
   if x0.Closed then
    none
   else
    if (x1.Seq != (IntKind.wrap .i64 (x0.Seq+1))) then
     none
    else
     if (((decide (x1.At<0))||(decide (x1.At≥12622780800)))||(decide (x1.At<x0.Start))) then
      none
     else
      if ((((decide (x1.Used<0))||(decide (x1.Used>x0.Granted)))||(decide (x1.Ask<0)))||(decide (x1.Ask>x3))) then
       none
      else
       some 0
def Jck (N:Nat) (x0:Jf) (x1:Int) (x2:Int):Option (Int×Int×Int×Str×Str×Int×Int×Str×Str×Int×Int×Int×Int×Int×(List Yo)) :=
 (Qkf N x1 1099511627776).bind fun r1 =>
 (if (!r1) then
  some true
 else
  (Qkf N x0.Free 1099511627776).bind fun r3 =>
  some (!r3):Option (Bool)).bind fun v4 =>
 if (v4||(decide ((IntKind.wrap .i64 (x1+x0.Free))>1099511627776))) then
  none
 else
  (Qyq N x0 x2).bind fun (r5,r6) =>
  if (r6 != 0) then
   none
  else
   (Xg 24 x0.Rate.Steps).bind fun r7 =>
   some (x0.Account,x0.Sub,x0.Kind,x0.Zone,x0.Plan,x0.Version,x0.Rate.Kind,x0.Rate.Zone,x0.Rate.Band,x0.Rate.Setup,(IntKind.wrap .i64 (x0.Free+x1)),(IntKind.wrap .i64 (x0.Paid+x2)),r5,0,r7)
def Qnx (N:Nat) (x0:Qh) (m5001_0_0:Int) (m5001_0_1:Int) (m5001_0_2:Int) (m5001_0_3:Int) (m5001_0_4_0:Int) (m5001_0_4_1:Int) (m5001_0_4_2:Int) (m5001_0_4_3:Str) (m5001_0_4_4:Str) (m5001_0_4_5:Int) (m5001_0_4_6_0:Int) (m5001_0_4_6_1:Str) (m5001_0_4_6_2:Str) (m5001_0_4_6_3:Int) (m5001_0_4_7:Int) (m5001_0_4_8:Int) (m5001_0_5:Int) (m5001_0_6:(List Qw)) (m5001_0_7:Int) (m5001_0_8:Int) (m5001_0_9:Bool) (m5001_0_10:Ja) (m5002:(List Yo)) (m5003:(List Qa)) (m5004:(List Qh)) (m5005:(List Qn)):Option (Bool) :=
 some (x0.Account==m5001_0_4_0)
def Qkk (N:Nat) (m5000:(List Qh)) (m5002_0_0:Int) (m5002_0_1:Int) (m5002_0_2:Int) (m5002_0_3:Int) (m5002_0_4_0:Int) (m5002_0_4_1:Int) (m5002_0_4_2:Int) (m5002_0_4_3:Str) (m5002_0_4_4:Str) (m5002_0_4_5:Int) (m5002_0_4_6_0:Int) (m5002_0_4_6_1:Str) (m5002_0_4_6_2:Str) (m5002_0_4_6_3:Int) (m5002_0_4_7:Int) (m5002_0_4_8:Int) (m5002_0_5:Int) (m5002_0_6:(List Qw)) (m5002_0_7:Int) (m5002_0_8:Int) (m5002_0_9:Bool) (m5002_0_10:Ja) (m5003:(List Yo)) (m5004:(List Qa)) (m5005:(List Qn)):(Unit)→Option ((Unit)⊕((Int))):=fun _ =>
 if (decide (0<(List.length m5000:Int))) then
  (idx m5000 0).bind fun _ =>
  (idx m5000 0).bind fun x1 =>
  (Qnx N x1 m5002_0_0 m5002_0_1 m5002_0_2 m5002_0_3 m5002_0_4_0 m5002_0_4_1 m5002_0_4_2 m5002_0_4_3 m5002_0_4_4 m5002_0_4_5 m5002_0_4_6_0 m5002_0_4_6_1 m5002_0_4_6_2 m5002_0_4_6_3 m5002_0_4_7 m5002_0_4_8 m5002_0_5 m5002_0_6 m5002_0_7 m5002_0_8 m5002_0_9 m5002_0_10 m5003 m5004 m5000 m5005).bind fun r2 =>
  if r2 then
   some (.inr 0)
  else
   none
 else
  none
def Qny (N:Nat) (m5000:(List Qh)) (m5002_0_0:Int) (m5002_0_1:Int) (m5002_0_2:Int) (m5002_0_3:Int) (m5002_0_4_0:Int) (m5002_0_4_1:Int) (m5002_0_4_2:Int) (m5002_0_4_3:Str) (m5002_0_4_4:Str) (m5002_0_4_5:Int) (m5002_0_4_6_0:Int) (m5002_0_4_6_1:Str) (m5002_0_4_6_2:Str) (m5002_0_4_6_3:Int) (m5002_0_4_7:Int) (m5002_0_4_8:Int) (m5002_0_5:Int) (m5002_0_6:(List Qw)) (m5002_0_7:Int) (m5002_0_8:Int) (m5002_0_9:Bool) (m5002_0_10:Ja) (m5003:(List Yo)) (m5004:(List Qa)) (m5005:(List Qn)):Option (Int) :=
 (Qx (Qkk N m5000 m5002_0_0 m5002_0_1 m5002_0_2 m5002_0_3 m5002_0_4_0 m5002_0_4_1 m5002_0_4_2 m5002_0_4_3 m5002_0_4_4 m5002_0_4_5 m5002_0_4_6_0 m5002_0_4_6_1 m5002_0_4_6_2 m5002_0_4_6_3 m5002_0_4_7 m5002_0_4_8 m5002_0_5 m5002_0_6 m5002_0_7 m5002_0_8 m5002_0_9 m5002_0_10 m5003 m5004 m5005) N ()).bind fun v3 =>
 some v3
def Qnz (N:Nat) (m5000_0_0:Int) (m5000_0_1:Int) (m5000_0_2:Int) (m5000_0_3:Int) (m5000_0_4_0:Int) (m5000_0_4_1:Int) (m5000_0_4_2:Int) (m5000_0_4_3:Str) (m5000_0_4_4:Str) (m5000_0_4_5:Int) (m5000_0_4_6_0:Int) (m5000_0_4_6_1:Str) (m5000_0_4_6_2:Str) (m5000_0_4_6_3:Int) (m5000_0_4_7:Int) (m5000_0_4_8:Int) (m5000_0_5:Int) (m5000_0_6:(List Qw)) (m5000_0_7:Int) (m5000_0_8:Int) (m5000_0_9:Bool) (m5000_0_10:Ja) (m5001:(List Yo)) (m5002:(List Qa)) (m5003:(List Qh)) (m5004:(List Qn)):Option (Int×(List Qh)) :=
 (Qny N m5003 m5000_0_0 m5000_0_1 m5000_0_2 m5000_0_3 m5000_0_4_0 m5000_0_4_1 m5000_0_4_2 m5000_0_4_3 m5000_0_4_4 m5000_0_4_5 m5000_0_4_6_0 m5000_0_4_6_1 m5000_0_4_6_2 m5000_0_4_6_3 m5000_0_4_7 m5000_0_4_8 m5000_0_5 m5000_0_6 m5000_0_7 m5000_0_8 m5000_0_9 m5000_0_10 m5001 m5002 m5004).bind fun r1 =>
 some (r1,m5003)
def Jcl (N:Nat) (x0:Qh) (x1:Int) (x2:Int):Option (Qh×Int) :=
 (Qqn N x0).bind fun r1 =>
 if (r1 != 0) then
  none
 else
  (Qgv N x2 0 x1).bind fun r2 =>
  if ((!r2)||(decide (x1>x0.Held))) then
   none
  else
   some ((x0.Account,(IntKind.wrap .i64 (x0.Balance - x2)),x0.Floor,(IntKind.wrap .i64 (x0.Held - x1)),x0.Until),0)
def Q8r (N:Nat) (m5000_0:Qd):(Unit)→Option ((Unit)⊕((Unit))):=fun _ =>
 if (decide (0<(List.length m5000_0.Takes:Int))) then
  none
 else
  some (.inr ())
def Z65 (N:Nat) (x1:Int) (m5000_0:Qd) (m5001:(List Qa)) (m5002:(List Qh)) (m5003:(List Qn)):Option (Int×Int×Int×Int×Int×Int×Int×Str×Str×Int×Int×Str×Str×Int×Int×Int×Int×Int×Int×Bool×Ja×(List Yo)×(List Qa)×(List Qh)×(List Qn)) :=
 (Qx (Q8r N m5000_0) N ()).bind fun _ =>
 if (decide ((List.length ([]:(List Qw)):Int)>0)) then
  none
 else
  (Jck N m5000_0.Meter 0 (IntKind.wrap .i64 (x1 - 0))).bind fun (r1,r2,r3,r4,r5,r6,r7,r8,r9,r10,r11,r12,r13,r14,r15) =>
  if (r14==0) then
   (Qnz N m5000_0.Id m5000_0.Seq m5000_0.Start m5000_0.Until r1 r2 r3 r4 r5 r6 r7 r8 r9 r10 r11 r12 m5000_0.Granted m5000_0.Takes m5000_0.Held (IntKind.wrap .i64 (m5000_0.Spent+r13)) m5000_0.Closed m5000_0.Last r15 m5001 m5002 m5003).bind fun (r16,r17) =>
   if ((decide (m5000_0.Held>0))&&(decide (r16≥0))) then
    (idx r17 r16).bind fun _ =>
    (idx r17 r16).bind fun x18 =>
    (Jcl N x18 m5000_0.Held r13).bind fun (r19,r20) =>
    if (r20==0) then
     (idx r17 r16).bind fun _ =>
     (idx r17 r16).bind fun y21 =>
     some (m5000_0.Id,m5000_0.Seq,m5000_0.Start,m5000_0.Until,r1,r2,r3,r4,r5,r6,r7,r8,r9,r10,r11,r12,0,0,(IntKind.wrap .i64 (m5000_0.Spent+r13)),m5000_0.Closed,m5000_0.Last,r15,m5001,(List.set r17 (Int.toNat r16) r19),m5003)
    else
     none
   else
    none
  else
   none
def Qn0 (N:Nat) (x0:Qh) (m5001_0_0:Int) (m5001_0_1:Int) (m5001_0_2:Int) (m5001_0_3:Int) (m5001_0_4:Jf) (m5001_0_5:Int) (m5001_0_7:Int) (m5001_0_8:Int) (m5001_0_9:Bool) (m5001_0_10:Ja) (m5001_1_0:(List Qa)) (m5002:(List Qw)) (m5003:(List Qh)) (m5004:(List Qn)):Option (Bool) :=
 some (x0.Account==m5001_0_4.Account)
def Qkl (N:Nat) (m5000:(List Qh)) (m5002_0_0:Int) (m5002_0_1:Int) (m5002_0_2:Int) (m5002_0_3:Int) (m5002_0_4:Jf) (m5002_0_5:Int) (m5002_0_7:Int) (m5002_0_8:Int) (m5002_0_9:Bool) (m5002_0_10:Ja) (m5002_1_0:(List Qa)) (m5003:(List Qw)) (m5004:(List Qn)):(Unit)→Option ((Unit)⊕((Int))):=fun _ =>
 if (decide (0<(List.length m5000:Int))) then
  (idx m5000 0).bind fun _ =>
  (idx m5000 0).bind fun x1 =>
  (Qn0 N x1 m5002_0_0 m5002_0_1 m5002_0_2 m5002_0_3 m5002_0_4 m5002_0_5 m5002_0_7 m5002_0_8 m5002_0_9 m5002_0_10 m5002_1_0 m5003 m5000 m5004).bind fun r2 =>
  if r2 then
   some (.inr 0)
  else
   none
 else
  none
def Qn1 (N:Nat) (m5000:(List Qh)) (m5002_0_0:Int) (m5002_0_1:Int) (m5002_0_2:Int) (m5002_0_3:Int) (m5002_0_4:Jf) (m5002_0_5:Int) (m5002_0_7:Int) (m5002_0_8:Int) (m5002_0_9:Bool) (m5002_0_10:Ja) (m5002_1_0:(List Qa)) (m5003:(List Qw)) (m5004:(List Qn)):Option (Int) :=
 (Qx (Qkl N m5000 m5002_0_0 m5002_0_1 m5002_0_2 m5002_0_3 m5002_0_4 m5002_0_5 m5002_0_7 m5002_0_8 m5002_0_9 m5002_0_10 m5002_1_0 m5003 m5004) N ()).bind fun v3 =>
 some v3
def Qn2 (N:Nat) (m5000_0_0:Int) (m5000_0_1:Int) (m5000_0_2:Int) (m5000_0_3:Int) (m5000_0_4:Jf) (m5000_0_5:Int) (m5000_0_7:Int) (m5000_0_8:Int) (m5000_0_9:Bool) (m5000_0_10:Ja) (m5000_1_0:(List Qa)) (m5001:(List Qw)) (m5002:(List Qh)) (m5003:(List Qn)):Option (Int×(List Qh)) :=
 (Qn1 N m5002 m5000_0_0 m5000_0_1 m5000_0_2 m5000_0_3 m5000_0_4 m5000_0_5 m5000_0_7 m5000_0_8 m5000_0_9 m5000_0_10 m5000_1_0 m5001 m5003).bind fun r1 =>
 some (r1,m5002)
def Qn3 (N:Nat) (x1:Int) (m5000_0_0:Int) (m5000_0_1:Int) (m5000_0_2:Int) (m5000_0_3:Int) (m5000_0_4:Jf) (m5000_0_5:Int) (m5000_0_7:Int) (m5000_0_8:Int) (m5000_0_9:Bool) (m5000_0_10:Ja) (m5000_1_0:(List Qa)) (m5001:(List Qw)) (m5002:(List Qh)) (m5003:(List Qn)):Option (Int×Int×Int×Int×Jf×Int×Int×Int×Bool×Ja×(List Qa)×(List Qw)×(List Qh)×(List Qn)) :=
 (Q8p N m5000_0_4 x1).bind fun (r1,r2) =>
 (Qn2 N m5000_0_0 m5000_0_1 m5000_0_2 m5000_0_3 m5000_0_4 m5000_0_5 m5000_0_7 m5000_0_8 m5000_0_9 m5000_0_10 m5000_1_0 m5001 m5002 m5003).bind fun (r3,r4) =>
 if (((r2 != 0)||(r1==0))||(decide (r3<0))) then
  some (m5000_0_0,m5000_0_1,m5000_0_2,m5000_0_3,m5000_0_4,m5000_0_5,m5000_0_7,m5000_0_8,m5000_0_9,m5000_0_10,m5000_1_0,m5001,r4,m5003)
 else
  (idx r4 r3).bind fun _ =>
  (idx r4 r3).bind fun x5 =>
  (Q8q N x5 r1).bind fun (r6,r7) =>
  if (r7==0) then
   (idx r4 r3).bind fun _ =>
   (idx r4 r3).bind fun y8 =>
   some (m5000_0_0,m5000_0_1,m5000_0_2,m5000_0_3,m5000_0_4,m5000_0_5,r1,m5000_0_8,m5000_0_9,m5000_0_10,m5000_1_0,m5001,(List.set r4 (Int.toNat r3) r6),m5003)
  else
   none
def Qth (N:Nat) (x1:Vy) (x2:Int) (x3:Int) (m5000_0_0:Int) (m5000_0_1:Int) (m5000_0_2:Int) (m5000_0_3:Int) (m5000_0_4_0:Int) (m5000_0_4_1:Int) (m5000_0_4_2:Int) (m5000_0_4_3:Str) (m5000_0_4_4:Str) (m5000_0_4_5:Int) (m5000_0_4_6_0:Int) (m5000_0_4_6_1:Str) (m5000_0_4_6_2:Str) (m5000_0_4_6_3:Int) (m5000_0_4_7:Int) (m5000_0_4_8:Int) (m5000_0_5:Int) (m5000_0_7:Int) (m5000_0_8:Int) (m5000_0_9:Bool) (m5000_0_10:Ja) (m5001:(List Yo)) (m5002:(List Qw)) (m5003:(List Qa)) (m5004:(List Qh)) (m5005:(List Qn)):Option (Int×Int×Int×Int×Int×Jf×Int×Int×Int×Bool×Ja×(List Qa)×(List Qw)×(List Qh)×(List Qn)) :=
 (Q8k N x1.Events x1.Products (m5003,m5004,m5005) m5000_0_4_0 x2).bind fun r2 =>
 (Qef N x1.Events r2 m5000_0_4_0 x2).bind fun (r3,r4,r5) =>
 (Qed N x1.Events m5000_0_4_1 x2).bind fun (r6,r7) =>
 if (!r7) then
  none
 else
  if r6.Suspended then
   none
  else
   (Qeg N x1 r3 (m5000_0_4_0,m5000_0_4_1,m5000_0_4_2,m5000_0_4_3,m5000_0_4_4,m5000_0_4_5,(m5000_0_4_6_0,m5000_0_4_6_1,m5000_0_4_6_2,m5000_0_4_6_3,m5001),m5000_0_4_7,m5000_0_4_8) x2 x3 r4 r5).bind fun (r10,r11) =>
   if ((IntKind.wrap .i64 (r10+r11))==0) then
    none
   else
    if (decide (r10>0)) then
     none
    else
     (Qee N x1.Events m5000_0_4_0 x2).bind fun (r12,r13) =>
     if (r13&&r12.Prepaid) then
      (Qn3 N r11 m5000_0_0 m5000_0_1 m5000_0_2 (if 12622780800<(IntKind.wrap .i64 (x2+3600)) then 12622780800 else (IntKind.wrap .i64 (x2+3600))) (m5000_0_4_0,m5000_0_4_1,m5000_0_4_2,m5000_0_4_3,m5000_0_4_4,m5000_0_4_5,(m5000_0_4_6_0,m5000_0_4_6_1,m5000_0_4_6_2,m5000_0_4_6_3,m5001),m5000_0_4_7,m5000_0_4_8) m5000_0_5 m5000_0_7 m5000_0_8 m5000_0_9 m5000_0_10 r3 m5002 r4 r5).bind fun (r14,r15,r16,r17,r18,r19,r20,r21,r22,r23,r24,r25,r26,r27) =>
      some (0,r14,r15,r16,r17,r18,(IntKind.wrap .i64 (r10+r11)),r20,r21,r22,r23,r24,r25,r26,r27)
     else
      none
def Qti (N:Nat) (x1:Jj) (x2:Int) (x3:Int) (x4:Int) (m5000_0_0:Int) (m5000_0_1:Int) (m5000_0_2:Int) (m5000_0_3:Int) (m5000_0_4:Jf) (m5000_0_5:Int) (m5000_0_7:Int) (m5000_0_8:Int) (m5000_0_9:Bool) (m5000_0_10:Ja) (m5000_1_0:(List Qa)) (m5001:(List Qw)) (m5002:(List Qh)) (m5003:(List Qn)):Option ((List Qa)×Int×Int×Int×Int×Jf×Int×Int×Int×Bool×Ja×Ja×Int×Int×Int×Int×Jf×Int×Int×Int×Bool×Ja×(List Qa)×(List Qh)×(List Qn)×(List Qw)) :=
 some (m5000_1_0,m5000_0_0,x1.Seq,m5000_0_2,m5000_0_3,m5000_0_4,m5000_0_5,m5000_0_7,m5000_0_8,m5000_0_9,(x1.Session,x1.Seq,x2,x3,x4),(x1.Session,x1.Seq,x2,x3,x4),m5000_0_0,x1.Seq,m5000_0_2,m5000_0_3,m5000_0_4,m5000_0_5,m5000_0_7,m5000_0_8,m5000_0_9,(x1.Session,x1.Seq,x2,x3,x4),m5000_1_0,m5002,m5003,m5001)
def Qtj (N:Nat) (x1:Jj) (x2:Int) (m5000_0_0:Int) (m5000_0_1:Int) (m5000_0_2:Int) (m5000_0_3:Int) (m5000_0_4:Jf) (m5000_0_5:Int) (m5000_0_7:Int) (m5000_0_8:Int) (m5000_0_9:Bool) (m5000_0_10:Ja) (m5000_1_0:(List Qa)) (m5001:(List Qw)) (m5002:(List Qh)) (m5003:(List Qn)):Option ((List Qa)×Int×Int×Int×Int×Jf×Int×Int×Int×Bool×Ja×Ja×Int×Int×Int×Int×Jf×Int×Int×Int×Bool×Ja×(List Qa)×(List Qh)×(List Qn)×(List Qw)) :=
 if (decide (m5000_0_5>0)) then
  (Qti N x1 m5000_0_5 m5000_0_3 x2 m5000_0_0 m5000_0_1 m5000_0_2 m5000_0_3 m5000_0_4 m5000_0_5 m5000_0_7 m5000_0_8 m5000_0_9 m5000_0_10 m5000_1_0 m5001 m5002 m5003).bind fun (r1,r2,r3,r4,r5,r6,r7,r8,r9,r10,r11,r12,r13,r14,r15,r16,r17,r18,r19,r20,r21,r22,r23,r24,r25,r26) =>
  some (r1,r2,r3,r4,r5,r6,r7,r8,r9,r10,r11,r12,r13,r14,r15,r16,r17,r18,r19,r20,r21,r22,r23,r24,r25,r26)
 else
  none
def Z30 (N:Nat) (x0:Vy) (x1:Je) (x2:Qd) (x3:Jj):Option (Je×Qd×Ja) :=
 (Z68 N x2 x3 2 1099511627776).bind fun r1 =>
 if (r1 != 0) then
  none
 else
  (Z62 N x1 x2).bind fun (r2,r3,r4,r5) =>
  (Z65 N x3.Used r2 r3 r4 r5).bind fun (r6,r7,r8,r9,r10,r11,r12,r13,r14,r15,r16,r17,r18,r19,r20,r21,r22,r23,r24,r25,r26,r27,r28,r29,r30) =>
  (Qth N x0 x3.At x3.Ask r6 r7 r8 r9 r10 r11 r12 r13 r14 r15 r16 r17 r18 r19 r20 r21 r22 r23 r24 r25 r26 r27 ([]:(List Qw)) r28 r29 r30).bind fun (r31,r32,r33,r34,r35,r36,r37,r38,r39,r40,r41,r42,r43,r44,r45) =>
  (Qtj N x3 r31 r32 r33 r34 r35 r36 r37 r38 r39 r40 r41 r42 r43 r44 r45).bind fun (r46,r47,r48,r49,r50,r51,r52,r53,r54,r55,r56,r57,r58,r59,r60,r61,r62,r63,r64,r65,r66,r67,r68,r69,r70,r71) =>
  some ((r46,r69,r70),(r47,r48,r49,r50,r51,r52,r71,r53,r54,r55,r56),r57)
def Vv (N:Nat):Option (Bool) :=
 (Z28 N).bind fun r1 =>
 (idx r1.Requests 0).bind fun x2 =>
 (Z29 N r1.Book r1.State x2).bind fun (r3,r4,r5) =>
 (if ((((r5.Granted != 60)||(r5.Err != 0))||(r4.Held != 160))||((List.length r3.Wallets:Int) != 1)) then
  some true
 else
  (idx r3.Wallets 0).bind fun x7 =>
  some (x7.Held != 160):Option (Bool)).bind fun v8 =>
 if v8 then
  none
 else
  (idx r1.Requests 1).bind fun x9 =>
  (Z30 N r1.Book r3 r4 x9).bind fun (r10,r11,r12) =>
  (if (((((r12.Granted==40)&&(r12.Until==3620))&&(r11.Spent==160))&&(r11.Held==0))&&((List.length r10.Wallets:Int)==1)) then
   (idx r10.Wallets 0).bind fun x14 =>
   some (x14.Balance==40)
  else
   some false:Option (Bool)).bind fun v15 =>
  (if v15 then
   (idx r10.Wallets 0).bind fun x17 =>
   some (x17.Held==0)
  else
   some false:Option (Bool)).bind fun v18 =>
  some v18
def Og (N:Nat) (x0:Qa):Option (Vl) :=
 some (x0.Sub,x0.Product,x0.Index,x0.Valid.From)
def Fd (N:Nat) (x0:Int) (x1:Int) (x2:Int):Option (Bool) :=
 if ((decide (x0>0))&&(decide (x1>(IntKind.wrap .i64 (9223372036854775807 - x0))))) then
  some false
 else
  some (decide ((IntKind.wrap .i64 (x0+x1))≤x2))
def Wk (N:Nat) (v6:(List Qa)) (x7:Qw):(Int×Int)→Option ((Int×Int)⊕((Int))):=fun (v9,v10) =>
 if (decide (v10<(List.length v6:Int))) then
  (idx v6 v10).bind fun _ =>
  (idx v6 v10).bind fun x11 =>
  (Og N x11).bind fun r12 =>
  if ((r12.sub==x7.Sub)&&((r12.product==x7.Product)&&((r12.index==x7.Index)&&((r12.from_==x7.From)&&true)))) then
   some (.inr v10)
  else
   some (.inl (v9,(IntKind.wrap .i64 (v10+1))))
 else
  some (.inr v9)
def Wl (N:Nat) (x1:(List Qw)):(Int×(List Qa))→Option ((Int×(List Qa))⊕(((List Qa))⊕(Int))):=fun (v3,v6) =>
 if (decide (v3<(List.length x1:Int))) then
  (idx x1 v3).bind fun x7 =>
  if (decide (x7.Units<0)) then
   some (.inr (.inr 6))
  else
   (Qx (Wk N v6 x7) N ((-1),0)).bind fun v13 =>
   if (decide (v13<0)) then
    some (.inr (.inr 11))
   else
    (idx v6 v13).bind fun _ =>
    (idx v6 v13).bind fun x14 =>
    (idx v6 v13).bind fun _ =>
    (idx v6 v13).bind fun x15 =>
    (Fd N x14.Left x7.Units x15.Units).bind fun r16 =>
    if (!r16) then
     some (.inr (.inr 6))
    else
     (idx v6 v13).bind fun _ =>
     (idx v6 v13).bind fun x17 =>
     (idx v6 v13).bind fun _ =>
     (idx v6 v13).bind fun y18 =>
     some (.inl ((IntKind.wrap .i64 (v3+1)),(List.set v6 (Int.toNat v13) (y18.Account,y18.Sub,y18.Product,y18.Index,y18.Kind,y18.Zones,y18.Valid,y18.Units,(IntKind.wrap .i64 (x17.Left+x7.Units)),y18.Priority,y18.Shared))))
 else
  some (.inr (.inl v6))
def Ff (N:Nat) (x0:(List Qa)) (x1:(List Qw)):Option (Int×(List Qa)) :=
 (Xl N x0).bind fun r1 =>
 (Qx (Wl N x1) N (0,r1)).bind fun
  | .inl v19 =>
   some (0,v19)
  | .inr v20 =>
   some (v20,([]:(List Qa)))
def K8 (N:Nat) (x26:Qd):(Int×Int)→Option ((Int×Int)⊕((Unit)⊕(Bool))):=fun (v34,v35) =>
 if (decide (v35<(List.length x26.Takes:Int))) then
  (idx x26.Takes v35).bind fun x36 =>
  if (((decide (x36.Units<1))||(decide (x36.Units>2199023255552)))||(decide (x36.Units>v34))) then
   some (.inr (.inr false))
  else
   some (.inl ((IntKind.wrap .i64 (v34 - x36.Units)),(IntKind.wrap .i64 (v35+1))))
 else
  some (.inr (.inl ()))
def K9 (N:Nat) (x1:(List Qd)):(Int×(List (Int×Int))×(List Qw))→Option ((Int×(List (Int×Int))×(List Qw))⊕(((List (Int×Int))×(List Qw))⊕(Bool))):=fun (v3,v4,v5) =>
 if (decide (v3<(List.length x1:Int))) then
  ((idx x1 v3).bind fun x26 =>
  (if (decide (x26.Id<1)) then
   some true
  else
   (if (decide (v3>0)) then
    (idx x1 (IntKind.wrap .i64 (v3 - 1))).bind fun x31 =>
    some (decide (x26.Id≤x31.Id))
   else
    some false:Option (Bool)).bind fun v32 =>
   some v32:Option (Bool)).bind fun v33 =>
  if v33 then
   some (.inr false)
  else
   if (((((decide (x26.Granted<0))||(decide (x26.Granted>1125899906842624)))||(decide (x26.Held<0)))||(decide (x26.Held>1125899906842624)))||(x26.Closed&&(((decide (x26.Granted>0))||(decide (x26.Held>0)))||(decide ((List.length x26.Takes:Int)>0))))) then
    some (.inr false)
   else
    (Qx (K8 N x26) N (x26.Granted,0)).bind fun
     | .inl _ =>
      (app 48 v5 x26.Takes).bind fun q37 =>
      if (decide (x26.Held>0)) then
       some (.inl ((Vq (k:=(.int .i64)) x26.Meter.Account (IntKind.wrap .i64 (((Qy (k:=(.int .i64)) x26.Meter.Account v4).getD 0)+x26.Held)) v4),q37))
      else
       some (.inl (v4,q37))
     | .inr v38 =>
      some (.inr v38):Option (((List (Int×Int))×(List Qw))⊕(Bool))).bind fun
   | .inl (v39,v40) =>
    some (.inl ((IntKind.wrap .i64 (v3+1)),v39,v40))
   | .inr v41 =>
    some (.inr (.inr v41))
 else
  some (.inr (.inl (v4,v5)))
def Xa (N:Nat) (x0:Je) (v42:(List (Int×Int))):(Int×(List (Int×Bool)))→Option ((Int×(List (Int×Bool)))⊕(((List (Int×Bool)))⊕(Bool))):=fun (v45,v46) =>
 if (decide (v45<(List.length x0.Wallets:Int))) then
  (idx x0.Wallets v45).bind fun x47 =>
  if (x47.Held != ((Qy (k:=(.int .i64)) x47.Account v42).getD 0)) then
   some (.inr (.inr false))
  else
   some (.inl ((IntKind.wrap .i64 (v45+1)),(Vq (k:=(.int .i64)) x47.Account true v46)))
 else
  some (.inr (.inl v46))
def Xb (N:Nat) (v48:(List (Int×Bool))):((Int×Int))→(Unit)→Option ((Unit)⊕((Bool))):=fun (k49,v50) _ =>
 if (!((Qy (k:=(.int .i64)) k49 v48).getD false)) then
  some (.inr false)
 else
  some (.inl ())
def Gq (N:Nat) (x0:Je) (x1:(List Qd)):Option (Bool) :=
 (Qx (K9 N x1) N (0,([]:List (Int×Int)),([]:(List Qw)))).bind fun
  | .inl (v42,v43) =>
   (Qx (Xa N x0 v42) N (0,([]:List (Int×Bool)))).bind fun
    | .inl v48 =>
     (Ba (Xb N v48) v42 ()).bind fun
      | .inl _ =>
       (Zb N x0).bind fun (r51,r52,r53) =>
       (Ff N r51 v43).bind fun (r54,r55) =>
       some (r54==0)
      | .inr v56 =>
       some v56
    | .inr v57 =>
     some v57
  | .inr v58 =>
   some v58
def Vn (N:Nat) (x0:Qd):(Int×Int)→Option ((Int×Int)⊕((Int)⊕(Bool))):=fun (v1,v2) =>
 if (decide (v2<(List.length x0.Takes:Int))) then
  (idx x0.Takes v2).bind fun x3 =>
  (if (decide (x3.Units<1)) then
   some true
  else
   (idx x0.Takes v2).bind fun x5 =>
   some (decide (x5.Units>2199023255552)):Option (Bool)).bind fun v6 =>
  if v6 then
   some (.inr (.inr false))
  else
   (idx x0.Takes v2).bind fun x7 =>
   some (.inl ((IntKind.wrap .i64 (v1+x7.Units)),(IntKind.wrap .i64 (v2+1))))
 else
  some (.inr (.inl v1))
def Y4 (N:Nat) (x0:Qd):Option (Bool) :=
 if ((((decide (x0.Granted<0))||(decide (x0.Granted>1125899906842624)))||(decide (x0.Held<0)))||(decide (x0.Held>1125899906842624))) then
  some false
 else
  (Qx (Vn N x0) N (0,0)).bind fun
   | .inl v8 =>
    some ((decide (v8≤x0.Granted))&&((!x0.Closed)||(((x0.Granted==0)&&(x0.Held==0))&&((List.length x0.Takes:Int)==0))))
   | .inr v9 =>
    some v9
def Us (N:Nat) (x0:(List Qh)) (x1:Int):(Int)→Option ((Int)⊕((Unit)⊕(Int))):=fun v1 =>
 if (decide (v1<(List.length x0:Int))) then
  (idx x0 v1).bind fun x2 =>
  if (x2.Account==x1) then
   some (.inr (.inr v1))
  else
   some (.inl (IntKind.wrap .i64 (v1+1)))
 else
  some (.inr (.inl ()))
def Yx (N:Nat) (x0:(List Qh)) (x1:Int):Option (Int) :=
 (Qx (Us N x0 x1) N 0).bind fun
  | .inl _ =>
   some (-1)
  | .inr v3 =>
   some v3
def Wm (N:Nat) (x0:Qa):Option (Int×Int×Str×Int×Int×Jq×Int×Int×Int×Bool×(List Str)) :=
 (app 16 ([]:(List Str)) x0.Zones).bind fun q1 =>
 some (x0.Account,x0.Sub,x0.Product,x0.Index,x0.Kind,x0.Valid,x0.Units,x0.Left,x0.Priority,x0.Shared,q1)
def Z9 (N:Nat) (x0:(List Qa)):(Int×(List Qa))→Option ((Int×(List Qa))⊕(((List Qa)))):=fun (v2,v3) =>
 if (decide (v2<(List.length x0:Int))) then
  (idx x0 v2).bind fun x4 =>
  (Wm N x4).bind fun (r14,r15,r16,r17,r18,r19,r20,r21,r22,r23,r24) =>
  (app 120 v3 ([(r14,r15,r16,r17,r18,r24,r19,r20,r21,r22,r23)]:(List Qa))).bind fun q25 =>
  some (.inl ((IntKind.wrap .i64 (v2+1)),q25))
 else
  some (.inr v3)
def Zm (N:Nat) (x0:(List Qa)):Option ((List Qa)) :=
 (Qx (Z9 N x0) N (0,([]:(List Qa)))).bind fun v26 =>
 some v26
def V7 (N:Nat) (m5000:(List Qa)) (x1:Qw):(Int)→Option ((Int)⊕((Unit)⊕(Int))):=fun v1 =>
 if (decide (v1<(List.length m5000:Int))) then
  (idx m5000 v1).bind fun _ =>
  (idx m5000 v1).bind fun x2 =>
  if ((((x2.Sub==x1.Sub)&&(x2.Product==x1.Product))&&(x2.Index==x1.Index))&&(x2.Valid.From==x1.From)) then
   some (.inr (.inr v1))
  else
   some (.inl (IntKind.wrap .i64 (v1+1)))
 else
  some (.inr (.inl ()))
def Zc (N:Nat) (x1:Qw) (m5000:(List Qa)):Option (Int) :=
 (Qx (V7 N m5000 x1) N 0).bind fun
  | .inl _ =>
   some (-1)
  | .inr v3 =>
   some v3
def Zd (N:Nat) (x1:(List Qw)):(Int×(List Qa))→Option ((Int×(List Qa))⊕(((List Qa))⊕(Int))):=fun (v3,v4) =>
 if (decide (v3<(List.length x1:Int))) then
  (idx x1 v3).bind fun x5 =>
  if (decide (x5.Units<0)) then
   some (.inr (.inr 6))
  else
   (Zc N x5 v4).bind fun r6 =>
   if (decide (r6<0)) then
    some (.inr (.inr 11))
   else
    (idx v4 r6).bind fun _ =>
    (idx v4 r6).bind fun x7 =>
    (idx v4 r6).bind fun _ =>
    (idx v4 r6).bind fun x8 =>
    (idx v4 r6).bind fun _ =>
    (idx v4 r6).bind fun x9 =>
    (idx v4 r6).bind fun _ =>
    (idx v4 r6).bind fun x10 =>
    if ((decide (x9.Left>x10.Units))||((decide ((IntKind.wrap .i64 (x7.Units - x8.Left))≥0))&&(decide (x5.Units>(IntKind.wrap .i64 (x7.Units - x8.Left)))))) then
     some (.inr (.inr 6))
    else
     (idx v4 r6).bind fun _ =>
     (idx v4 r6).bind fun x11 =>
     (idx v4 r6).bind fun _ =>
     (idx v4 r6).bind fun y12 =>
     some (.inl ((IntKind.wrap .i64 (v3+1)),(List.set v4 (Int.toNat r6) (y12.Account,y12.Sub,y12.Product,y12.Index,y12.Kind,y12.Zones,y12.Valid,y12.Units,(IntKind.wrap .i64 (x11.Left+x5.Units)),y12.Priority,y12.Shared))))
 else
  some (.inr (.inl v4))
def Kn (N:Nat) (x0:(List Qa)) (x1:(List Qw)):Option (Int×(List Qa)) :=
 (Zm N x0).bind fun r1 =>
 (Qx (Zd N x1) N (0,r1)).bind fun
  | .inl v13 =>
   some (0,v13)
  | .inr v14 =>
   some (v14,([]:(List Qa)))
def Ut (N:Nat) (x1:(List Qd)) (x0:Je):(Int×(List Qw))→Option ((Int×(List Qw))⊕(((List Qw))⊕(Bool))):=fun (v2,v3) =>
 if (decide (v2<(List.length x1:Int))) then
  (idx x1 v2).bind fun x4 =>
  (if (decide (x4.Id<1)) then
   some true
  else
   if (decide (v2>0)) then
    (idx x1 (IntKind.wrap .i64 (v2 - 1))).bind fun x5 =>
    if (decide (x5.Id≥x4.Id)) then
     some true
    else
     (Y4 N x4).bind fun r8 =>
     if (!r8) then
      some true
     else
      if (decide (x4.Held>0)) then
       (Yx N x0.Wallets x4.Meter.Account).bind fun r9 =>
       some (decide (r9<0))
      else
       some false
   else
    (Y4 N x4).bind fun r10 =>
    if (!r10) then
     some true
    else
     if (decide (x4.Held>0)) then
      (Yx N x0.Wallets x4.Meter.Account).bind fun r11 =>
      some (decide (r11<0))
     else
      some false:Option ((Bool))).bind fun v12 =>
  if v12 then
   some (.inr (.inr false))
  else
   (app 48 v3 x4.Takes).bind fun q13 =>
   some (.inl ((IntKind.wrap .i64 (v2+1)),q13))
 else
  some (.inr (.inl v3))
def Uu (N:Nat) (x1:(List Qd)) (x0:Je) (v15:Int):(Int×Int)→Option ((Int×Int)⊕((Int))):=fun (v16,v17) =>
 if (decide (v17<(List.length x1:Int))) then
  ((idx x1 v17).bind fun x18 =>
  (idx x0.Wallets v15).bind fun x19 =>
  if (x18.Meter.Account==x19.Account) then
   (idx x1 v17).bind fun x20 =>
   some (IntKind.wrap .i64 (v16+x20.Held))
  else
   some v16:Option ((Int))).bind fun v21 =>
  some (.inl (v21,(IntKind.wrap .i64 (v17+1))))
 else
  some (.inr v16)
def Uv (N:Nat) (x0:Je) (x1:(List Qd)):(Int)→Option ((Int)⊕((Unit)⊕(Bool))):=fun v15 =>
 if (decide (v15<(List.length x0.Wallets:Int))) then
  (Qx (Uu N x1 x0 v15) N (0,0)).bind fun v22 =>
  (idx x0.Wallets v15).bind fun x23 =>
  if (v22 != x23.Held) then
   some (.inr (.inr false))
  else
   some (.inl (IntKind.wrap .i64 (v15+1)))
 else
  some (.inr (.inl ()))
def Ka (N:Nat) (x0:Je) (x1:(List Qd)):Option (Bool) :=
 (Qx (Ut N x1 x0) N (0,([]:(List Qw)))).bind fun
  | .inl v14 =>
   (Qx (Uv N x0 x1) N 0).bind fun
    | .inl _ =>
     (Kn N x0.Buckets v14).bind fun (r24,r25) =>
     some (r24==0)
    | .inr v26 =>
     some v26
  | .inr v27 =>
   some v27
def V4 (N:Nat) (x1:(List Qd)):(Int)→Option ((Int)⊕((Unit)⊕(Bool))):=fun v2 =>
 if (decide (v2<(List.length x1:Int))) then
  (idx x1 v2).bind fun x3 =>
  (if (decide ((List.length x3.Takes:Int)>8)) then
   some true
  else
   (idx x1 v2).bind fun x5 =>
   some (decide ((List.length x5.Meter.Rate.Steps:Int)>8)):Option (Bool)).bind fun v6 =>
  if v6 then
   (Vv N).bind fun r7 =>
   some (.inr (.inr r7))
  else
   some (.inl (IntKind.wrap .i64 (v2+1)))
 else
  some (.inr (.inl ()))
def Up (N:Nat) (x0:Je) (x1:(List Qd)):Option (Bool) :=
 if (((decide ((List.length x0.Buckets:Int)>12))||(decide ((List.length x0.Wallets:Int)>12)))||(decide ((List.length x1:Int)>8))) then
  (Vv N).bind fun r1 =>
  some r1
 else
  (Qx (V4 N x1) N 0).bind fun
   | .inl _ =>
    ((Gq N x0 x1).bind fun r8 =>
    (Ka N x0 x1).bind fun r9 =>
    (if (r8==r9) then
     (Vv N).bind fun r11 =>
     some r11
    else
     some false:Option (Bool)).bind fun v12 =>
    some v12:Option ((Bool))).bind fun v13 =>
    some v13
   | .inr v14 =>
    some v14
end
end Gx
