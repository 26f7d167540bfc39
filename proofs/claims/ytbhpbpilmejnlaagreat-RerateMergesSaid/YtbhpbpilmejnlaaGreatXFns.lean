/- The Go functions as Lean functions. -/
import Derived.Test.YtbhpbpilmejnlaaGreatXRl
namespace Gx
open Go Gd
set_option linter.unusedVariables false
abbrev Qk:Ty:=.st (.pr (.int .i64) (.pr (.int .i64) (.pr (.int .i64) (.pr (.int .i64) (.pr .str (.pr .str (.pr (.int .i64) (.pr (.int .i64) (.pr (.int .i64) (.pr .bool (.pr (.int .i64) (.int .i64))))))))))))
abbrev Qh:Type:=Int×Int×Int×Int×Str×Str×Int×Int×Int×Bool×Int×Int
abbrev Qh.Id (x:Qh):Int:=x.1
abbrev Qh.Kind (x:Qh):Int:=x.2.1
abbrev Qh.Account (x:Qh):Int:=x.2.2.1
abbrev Qh.Sub (x:Qh):Int:=x.2.2.2.1
abbrev Qh.A (x:Qh):Str:=x.2.2.2.2.1
abbrev Qh.B (x:Qh):Str:=x.2.2.2.2.2.1
abbrev Qh.Start (x:Qh):Int:=x.2.2.2.2.2.2.1
abbrev Qh.Units (x:Qh):Int:=x.2.2.2.2.2.2.2.1
abbrev Qh.Trunk (x:Qh):Int:=x.2.2.2.2.2.2.2.2.1
abbrev Qh.Inbound (x:Qh):Bool:=x.2.2.2.2.2.2.2.2.2.1
abbrev Qh.Source (x:Qh):Int:=x.2.2.2.2.2.2.2.2.2.2.1
abbrev Qh.Serial (x:Qh):Int:=x.2.2.2.2.2.2.2.2.2.2.2
abbrev J2:Ty:=.st (.pr (.int .i64) (.pr .str (.pr (.int .i64) (.pr (.int .i64) (.int .i64)))))
abbrev Jz:Type:=Int×Str×Int×Int×Int
abbrev Jz.Sub (x:Jz):Int:=x.1
abbrev Jz.Product (x:Jz):Str:=x.2.1
abbrev Jz.Index (x:Jz):Int:=x.2.2.1
abbrev Jz.From (x:Jz):Int:=x.2.2.2.1
abbrev Jz.Units (x:Jz):Int:=x.2.2.2.2
abbrev Q9:Ty:=.st (.pr .str (.pr (.int .i64) (.pr (.int .i64) (.int .i64))))
abbrev Q2:Type:=Str×Int×Int×Int
abbrev Q2.Band (x:Q2):Str:=x.1
abbrev Q2.Start (x:Q2):Int:=x.2.1
abbrev Q2.Units (x:Q2):Int:=x.2.2.1
abbrev Q2.Amount (x:Q2):Int:=x.2.2.2
abbrev Jw:Ty:=.st (.pr .str (.int .i64))
abbrev J8:Type:=Str×Int
abbrev J8.Name (x:J8):Str:=x.1
abbrev J8.Amount (x:J8):Int:=x.2
abbrev Yn:Ty:=.st (.pr Qk (.pr (.int .i64) (.pr .str (.pr (.int .i64) (.pr .str (.pr (.sl J2) (.pr (.sl Q9) (.pr (.int .i64) (.pr (.int .i64) (.pr (.int .i64) (.pr (.sl Jw) (.pr (.int .i64) (.int .i64)))))))))))))
abbrev Q6:Type:=Qh×Int×Str×Int×Str×(List Jz)×(List Q2)×Int×Int×Int×(List J8)×Int×Int
abbrev Q6.Usage (x:Q6):Qh:=x.1
abbrev Q6.Err (x:Q6):Int:=x.2.1
abbrev Q6.Plan (x:Q6):Str:=x.2.2.1
abbrev Q6.Version (x:Q6):Int:=x.2.2.2.1
abbrev Q6.Zone (x:Q6):Str:=x.2.2.2.2.1
abbrev Q6.Takes (x:Q6):(List Jz):=x.2.2.2.2.2.1
abbrev Q6.Segments (x:Q6):(List Q2):=x.2.2.2.2.2.2.1
abbrev Q6.Setup (x:Q6):Int:=x.2.2.2.2.2.2.2.1
abbrev Q6.Gross (x:Q6):Int:=x.2.2.2.2.2.2.2.2.1
abbrev Q6.Net (x:Q6):Int:=x.2.2.2.2.2.2.2.2.2.1
abbrev Q6.Given (x:Q6):(List J8):=x.2.2.2.2.2.2.2.2.2.2.1
abbrev Q6.Paid (x:Q6):Int:=x.2.2.2.2.2.2.2.2.2.2.2.1
abbrev Q6.Owed (x:Q6):Int:=x.2.2.2.2.2.2.2.2.2.2.2.2
abbrev Ql:Ty:=.st (.pr (.int .i64) (.pr (.int .i64) (.pr (.int .i64) (.pr (.int .i64) (.pr (.int .i64) (.pr (.int .i64) (.int .i64)))))))
abbrev Qa:Type:=Int×Int×Int×Int×Int×Int×Int
abbrev Qa.Usage (x:Qa):Int:=x.1
abbrev Qa.Account (x:Qa):Int:=x.2.1
abbrev Qa.Sub (x:Qa):Int:=x.2.2.1
abbrev Qa.Kind (x:Qa):Int:=x.2.2.2.1
abbrev Qa.Start (x:Qa):Int:=x.2.2.2.2.1
abbrev Qa.Paid (x:Qa):Int:=x.2.2.2.2.2.1
abbrev Qa.Owed (x:Qa):Int:=x.2.2.2.2.2.2
abbrev Qp:Ty:=.st (.pr (.int .i64) (.int .i64))
abbrev Qg:Type:=Int×Int
abbrev Qg.From (x:Qg):Int:=x.1
abbrev Qg.To (x:Qg):Int:=x.2
abbrev Qy:Ty:=.st (.pr (.int .i64) (.pr (.int .i64) (.pr .str (.pr (.int .i64) (.pr (.int .i64) (.pr (.sl .str) (.pr Qp (.pr (.int .i64) (.pr (.int .i64) (.pr (.int .i64) .bool))))))))))
abbrev Qj:Type:=Int×Int×Str×Int×Int×(List Str)×Qg×Int×Int×Int×Bool
abbrev Qj.Account (x:Qj):Int:=x.1
abbrev Qj.Sub (x:Qj):Int:=x.2.1
abbrev Qj.Product (x:Qj):Str:=x.2.2.1
abbrev Qj.Index (x:Qj):Int:=x.2.2.2.1
abbrev Qj.Kind (x:Qj):Int:=x.2.2.2.2.1
abbrev Qj.Zones (x:Qj):(List Str):=x.2.2.2.2.2.1
abbrev Qj.Valid (x:Qj):Qg:=x.2.2.2.2.2.2.1
abbrev Qj.Units (x:Qj):Int:=x.2.2.2.2.2.2.2.1
abbrev Qj.Left (x:Qj):Int:=x.2.2.2.2.2.2.2.2.1
abbrev Qj.Priority (x:Qj):Int:=x.2.2.2.2.2.2.2.2.2.1
abbrev Qj.Shared (x:Qj):Bool:=x.2.2.2.2.2.2.2.2.2.2
abbrev Jo:Ty:=.st (.pr (.int .i64) (.pr (.int .i64) (.pr (.int .i64) (.pr (.int .i64) (.int .i64)))))
abbrev Q0:Type:=Int×Int×Int×Int×Int
abbrev Q0.Account (x:Q0):Int:=x.1
abbrev Q0.Balance (x:Q0):Int:=x.2.1
abbrev Q0.Floor (x:Q0):Int:=x.2.2.1
abbrev Q0.Held (x:Q0):Int:=x.2.2.2.1
abbrev Q0.Until (x:Q0):Int:=x.2.2.2.2
abbrev Je:Ty:=.st (.pr (.int .i64) (.pr (.int .i64) (.pr (.int .i64) (.pr (.int .i64) (.int .i64)))))
abbrev Qv:Type:=Int×Int×Int×Int×Int
abbrev Qv.Sub (x:Qv):Int:=x.1
abbrev Qv.Kind (x:Qv):Int:=x.2.1
abbrev Qv.From (x:Qv):Int:=x.2.2.1
abbrev Qv.Units (x:Qv):Int:=x.2.2.2.1
abbrev Qv.Spent (x:Qv):Int:=x.2.2.2.2
abbrev Q3:Ty:=.st (.pr (.sl Qy) (.pr (.sl Jo) (.sl Je)))
abbrev Ja:Type:=(List Qj)×(List Q0)×(List Qv)
abbrev Ja.Buckets (x:Ja):(List Qj):=x.1
abbrev Ja.Wallets (x:Ja):(List Q0):=x.2.1
abbrev Ja.Counters (x:Ja):(List Qv):=x.2.2
abbrev Yg:Ty:=.st (.pr (.int .i64) (.pr (.int .i64) (.pr (.int .i64) (.pr (.int .i64) (.pr .str (.pr .str (.int .i64)))))))
abbrev Jg:Type:=Int×Int×Int×Int×Str×Str×Int
abbrev Jg.At (x:Jg):Int:=x.1
abbrev Jg.Kind (x:Jg):Int:=x.2.1
abbrev Jg.Account (x:Jg):Int:=x.2.2.1
abbrev Jg.Sub (x:Jg):Int:=x.2.2.2.1
abbrev Jg.Number (x:Jg):Str:=x.2.2.2.2.1
abbrev Jg.Name (x:Jg):Str:=x.2.2.2.2.2.1
abbrev Jg.Value (x:Jg):Int:=x.2.2.2.2.2.2
abbrev Yk:Ty:=.st (.pr .str (.sl .str))
abbrev Ye:Type:=Str×(List Str)
abbrev Ye.Name (x:Ye):Str:=x.1
abbrev Ye.Prefixes (x:Ye):(List Str):=x.2
abbrev Ge:Ty:=.st (.pr (.int .i64) (.pr (.int .i64) (.int .i64)))
abbrev Kl:Type:=Int×Int×Int
abbrev Kl.Days (x:Kl):Int:=x.1
abbrev Kl.From (x:Kl):Int:=x.2.1
abbrev Kl.To (x:Kl):Int:=x.2.2
abbrev Yo:Ty:=.st (.pr .str (.sl Ge))
abbrev Yj:Type:=Str×(List Kl)
abbrev Yj.Name (x:Yj):Str:=x.1
abbrev Yj.Slots (x:Yj):(List Kl):=x.2
abbrev Kx:Ty:=.st (.pr (.int .i64) (.pr (.int .i64) (.int .i64)))
abbrev Ub:Type:=Int×Int×Int
abbrev Ub.Upto (x:Ub):Int:=x.1
abbrev Ub.Quantum (x:Ub):Int:=x.2.1
abbrev Ub.Price (x:Ub):Int:=x.2.2
abbrev Vn:Ty:=.st (.pr (.int .i64) (.pr .str (.pr .str (.pr (.int .i64) (.sl Kx)))))
abbrev Y0:Type:=Int×Str×Str×Int×(List Ub)
abbrev Y0.Kind (x:Y0):Int:=x.1
abbrev Y0.Zone (x:Y0):Str:=x.2.1
abbrev Y0.Band (x:Y0):Str:=x.2.2.1
abbrev Y0.Setup (x:Y0):Int:=x.2.2.2.1
abbrev Y0.Steps (x:Y0):(List Ub):=x.2.2.2.2
abbrev Ol:Ty:=.rose (.pr (.int .i64) (.pr (.int .i64) .str))
abbrev Wl:Type:=B7 (Int×Int×Str)
abbrev Wl.Op (x:Wl):Int:=x.x.1
abbrev Wl.Num (x:Wl):Int:=x.x.2.1
abbrev Wl.Text (x:Wl):Str:=x.x.2.2
abbrev Wl.Args (x:Wl):List Wl:=x.ks
abbrev Y2:Ty:=.st (.pr .str (.pr Ol (.int .i64)))
abbrev J9:Type:=Str×Wl×Int
abbrev J9.Name (x:J9):Str:=x.1
abbrev J9.When (x:J9):Wl:=x.2.1
abbrev J9.Points (x:J9):Int:=x.2.2
abbrev Jp:Ty:=.st (.pr .str (.pr (.int .i64) (.pr .bool (.pr (.sl Yk) (.pr (.sl Yo) (.pr (.sl Vn) (.sl Y2)))))))
abbrev Q5:Type:=Str×Int×Bool×(List Ye)×(List Yj)×(List Y0)×(List J9)
abbrev Q5.Name (x:Q5):Str:=x.1
abbrev Q5.From (x:Q5):Int:=x.2.1
abbrev Q5.Split (x:Q5):Bool:=x.2.2.1
abbrev Q5.Zones (x:Q5):(List Ye):=x.2.2.2.1
abbrev Q5.Bands (x:Q5):(List Yj):=x.2.2.2.2.1
abbrev Q5.Rates (x:Q5):(List Y0):=x.2.2.2.2.2.1
abbrev Q5.Discounts (x:Q5):(List J9):=x.2.2.2.2.2.2
abbrev Xb:Ty:=.st (.pr (.int .i64) (.pr (.sl .str) (.pr (.int .i64) (.pr (.int .i64) (.pr (.int .i64) .bool)))))
abbrev Yy:Type:=Int×(List Str)×Int×Int×Int×Bool
abbrev Yy.Kind (x:Yy):Int:=x.1
abbrev Yy.Zones (x:Yy):(List Str):=x.2.1
abbrev Yy.Units (x:Yy):Int:=x.2.2.1
abbrev Yy.Rollover (x:Yy):Int:=x.2.2.2.1
abbrev Yy.Priority (x:Yy):Int:=x.2.2.2.2.1
abbrev Yy.Shared (x:Yy):Bool:=x.2.2.2.2.2
abbrev Vr:Ty:=.st (.pr .str (.pr (.int .i64) (.pr (.int .i64) (.pr .str (.pr .bool (.sl Xb))))))
abbrev Jm:Type:=Str×Int×Int×Str×Bool×(List Yy)
abbrev Jm.Name (x:Jm):Str:=x.1
abbrev Jm.From (x:Jm):Int:=x.2.1
abbrev Jm.Fee (x:Jm):Int:=x.2.2.1
abbrev Jm.Category (x:Jm):Str:=x.2.2.2.1
abbrev Jm.Prorate (x:Jm):Bool:=x.2.2.2.2.1
abbrev Jm.Bundles (x:Jm):(List Yy):=x.2.2.2.2.2
abbrev Qah:Ty:=.st (.pr .str (.pr (.int .i64) (.int .i64)))
abbrev Bn:Type:=Str×Int×Int
abbrev Bn.Category (x:Bn):Str:=x.1
abbrev Bn.From (x:Bn):Int:=x.2.1
abbrev Bn.Points (x:Bn):Int:=x.2.2
abbrev Es:Ty:=.st (.pr (.int .i64) (.pr (.int .i64) (.pr .bool (.pr Qp (.pr (.sl Kx) (.int .i64))))))
abbrev Y7:Type:=Int×Int×Bool×Qg×(List Ub)×Int
abbrev Y7.Partner (x:Y7):Int:=x.1
abbrev Y7.Kind (x:Y7):Int:=x.2.1
abbrev Y7.Inbound (x:Y7):Bool:=x.2.2.1
abbrev Y7.Valid (x:Y7):Qg:=x.2.2.2.1
abbrev Y7.Steps (x:Y7):(List Ub):=x.2.2.2.2.1
abbrev Y7.Cap (x:Y7):Int:=x.2.2.2.2.2
abbrev Js:Ty:=.st (.pr (.sl Yg) (.pr (.sl Jp) (.pr (.sl Vr) (.pr (.sl Qah) (.pr (.sl (.int .i64)) (.sl Es))))))
abbrev Jv:Type:=(List Jg)×(List Q5)×(List Jm)×(List Bn)×(List Int)×(List Y7)
abbrev Jv.Events (x:Jv):(List Jg):=x.1
abbrev Jv.Tariffs (x:Jv):(List Q5):=x.2.1
abbrev Jv.Products (x:Jv):(List Jm):=x.2.2.1
abbrev Jv.Taxes (x:Jv):(List Bn):=x.2.2.2.1
abbrev Jv.Holidays (x:Jv):(List Int):=x.2.2.2.2.1
abbrev Jv.Agreements (x:Jv):(List Y7):=x.2.2.2.2.2
abbrev Xk:Ty:=.st (.pr (.int .i64) (.pr (.int .i64) (.pr .str (.pr .str (.pr (.int .i64) (.pr (.int .i64) (.pr (.int .i64) (.int .i64))))))))
abbrev Yr:Type:=Int×Int×Str×Str×Int×Int×Int×Int
abbrev Yr.Kind (x:Yr):Int:=x.1
abbrev Yr.Sub (x:Yr):Int:=x.2.1
abbrev Yr.Name (x:Yr):Str:=x.2.2.1
abbrev Yr.Category (x:Yr):Str:=x.2.2.2.1
abbrev Yr.Count (x:Yr):Int:=x.2.2.2.2.1
abbrev Yr.Units (x:Yr):Int:=x.2.2.2.2.2.1
abbrev Yr.Amount (x:Yr):Int:=x.2.2.2.2.2.2.1
abbrev Yr.Rounded (x:Yr):Int:=x.2.2.2.2.2.2.2
abbrev Jn:Ty:=.st (.pr Qp (.pr .str (.pr (.sl .str) (.pr .bool .bool))))
abbrev Ji:Type:=Qg×Str×(List Str)×Bool×Bool
abbrev Ji.Period (x:Ji):Qg:=x.1
abbrev Ji.Plan (x:Ji):Str:=x.2.1
abbrev Ji.Products (x:Ji):(List Str):=x.2.2.1
abbrev Ji.Suspended (x:Ji):Bool:=x.2.2.2.1
abbrev Ji.Family (x:Ji):Bool:=x.2.2.2.2
abbrev Qx:Ty:=.st (.pr (.int .i64) (.pr (.int .i64) (.pr (.int .i64) (.pr .bool (.pr .bool (.sl (.int .i64)))))))
abbrev Qu:Type:=Int×Int×Int×Bool×Bool×(List Int)
abbrev Qu.Id (x:Qu):Int:=x.1
abbrev Qu.Since (x:Qu):Int:=x.2.1
abbrev Qu.Anchor (x:Qu):Int:=x.2.2.1
abbrev Qu.Prepaid (x:Qu):Bool:=x.2.2.2.1
abbrev Qu.Closed (x:Qu):Bool:=x.2.2.2.2.1
abbrev Qu.Subs (x:Qu):(List Int):=x.2.2.2.2.2
abbrev Gf:Ty:=.st (.pr Js (.pr Q3 (.pr Qk (.pr Jn (.pr Qx (.pr Jp (.pr (.int .i64) Yn)))))))
abbrev V6:Type:=Jv×Ja×Qh×Ji×Qu×Q5×Int×Q6
abbrev V6.book (x:V6):Jv:=x.1
abbrev V6.state (x:V6):Ja:=x.2.1
abbrev V6.u (x:V6):Qh:=x.2.2.1
abbrev V6.spell (x:V6):Ji:=x.2.2.2.1
abbrev V6.account (x:V6):Qu:=x.2.2.2.2.1
abbrev V6.tariff (x:V6):Q5:=x.2.2.2.2.2.1
abbrev V6.free (x:V6):Int:=x.2.2.2.2.2.2.1
abbrev V6.r (x:V6):Q6:=x.2.2.2.2.2.2.2
abbrev Vt:Ty:=.st (.pr (.int .i64) (.pr (.int .i64) (.pr (.int .i64) (.pr .str (.pr (.sl .str) (.pr (.sl .str) (.pr .bool .bool)))))))
abbrev Ys:Type:=Int×Int×Int×Str×(List Str)×(List Str)×Bool×Bool
abbrev Ys.Id (x:Ys):Int:=x.1
abbrev Ys.Account (x:Ys):Int:=x.2.1
abbrev Ys.Since (x:Ys):Int:=x.2.2.1
abbrev Ys.Plan (x:Ys):Str:=x.2.2.2.1
abbrev Ys.Numbers (x:Ys):(List Str):=x.2.2.2.2.1
abbrev Ys.Products (x:Ys):(List Str):=x.2.2.2.2.2.1
abbrev Ys.Suspended (x:Ys):Bool:=x.2.2.2.2.2.2.1
abbrev Ys.Family (x:Ys):Bool:=x.2.2.2.2.2.2.2
abbrev Qai:Ty:=.st (.pr (.int .i64) (.pr (.int .i64) (.pr (.int .i64) (.pr (.int .i64) (.pr (.int .i64) (.pr (.int .i64) (.pr .str (.pr .str .bool))))))))
abbrev Z4:Type:=Int×Int×Int×Int×Int×Int×Str×Str×Bool
abbrev Z4.Kind (x:Z4):Int:=x.1
abbrev Z4.Units (x:Z4):Int:=x.2.1
abbrev Z4.Weekday (x:Z4):Int:=x.2.2.1
abbrev Z4.Minute (x:Z4):Int:=x.2.2.2.1
abbrev Z4.Total (x:Z4):Int:=x.2.2.2.2.1
abbrev Z4.Spent (x:Z4):Int:=x.2.2.2.2.2.1
abbrev Z4.Zone (x:Z4):Str:=x.2.2.2.2.2.2.1
abbrev Z4.Band (x:Z4):Str:=x.2.2.2.2.2.2.2.1
abbrev Z4.Family (x:Z4):Bool:=x.2.2.2.2.2.2.2.2
abbrev Qaj:Ty:=.st (.pr (.sl Qx) (.sl Vt))
abbrev Hr:Type:=(List Qu)×(List Ys)
abbrev Hr.Accounts (x:Hr):(List Qu):=x.1
abbrev Hr.Subs (x:Hr):(List Ys):=x.2
abbrev Qbc:Ty:=.st (.pr (.sl Qy) .ref)
abbrev Fo:Type:=(List Qj)×Unit
abbrev Fo.list (x:Fo):(List Qj):=x.1
abbrev Fo.has (x:Fo):Unit:=x.2
abbrev J4:Ty:=.st (.pr (.int .i64) (.pr .str (.pr (.int .i64) (.int .i64))))
abbrev Jf:Type:=Int×Str×Int×Int
abbrev Jf.sub (x:Jf):Int:=x.1
abbrev Jf.product (x:Jf):Str:=x.2.1
abbrev Jf.index (x:Jf):Int:=x.2.2.1
abbrev Jf.from_ (x:Jf):Int:=x.2.2.2
abbrev V5:Ty:=.st (.pr (.int .i64) (.pr (.int .i64) (.pr .str (.sl Qp))))
abbrev Jj:Type:=Int×Int×Str×(List Qg)
abbrev Jj.account (x:Jj):Int:=x.1
abbrev Jj.sub (x:Jj):Int:=x.2.1
abbrev Jj.product (x:Jj):Str:=x.2.2.1
abbrev Jj.active (x:Jj):(List Qg):=x.2.2.2
abbrev Ul:Ty:=.st (.pr Qy (.int .i64))
abbrev Y9:Type:=Qj×Int
abbrev Y9.bucket (x:Y9):Qj:=x.1
abbrev Y9.rollover (x:Y9):Int:=x.2
abbrev Hs:Ty:=.st (.pr (.int .i64) (.pr (.int .i64) (.pr (.int .i64) (.int .i64))))
abbrev Uy:Type:=Int×Int×Int×Int
abbrev Uy.start (x:Uy):Int:=x.1
abbrev Uy.source (x:Uy):Int:=x.2.1
abbrev Uy.serial (x:Uy):Int:=x.2.2.1
abbrev Uy.id (x:Uy):Int:=x.2.2.2
abbrev Y3:Ty:=.st (.pr (.int .i64) Vt)
abbrev Jl:Type:=Int×Ys
abbrev Jl.at_ (x:Jl):Int:=x.1
abbrev Jl.s (x:Jl):Ys:=x.2
abbrev Ao:Ty:=.st (.pr (.int .i64) (.pr .str (.pr (.int .i64) (.int .i64))))
abbrev V4:Type:=Int×Str×Int×Int
abbrev V4.sub (x:V4):Int:=x.1
abbrev V4.product (x:V4):Str:=x.2.1
abbrev V4.index (x:V4):Int:=x.2.2.1
abbrev V4.from_ (x:V4):Int:=x.2.2.2
abbrev Qak:Ty:=.st (.pr .str Qp)
abbrev M7:Type:=Str×Qg
abbrev M7.Band (x:M7):Str:=x.1
abbrev M7.Period (x:M7):Qg:=x.2
abbrev P8:Ty:=.st (.pr .ref (.pr .ref (.pr .ref (.pr .ref (.pr .ref (.pr (.sl (.int .i64)) (.sl (.int .i64))))))))
abbrev Y4:Type:=Unit×Unit×Unit×Unit×Unit×(List Int)×(List Int)
abbrev Y4.accounts (x:Y4):Unit:=x.1
abbrev Y4.subs (x:Y4):Unit:=x.2.1
abbrev Y4.ever (x:Y4):Unit:=x.2.2.1
abbrev Y4.owners (x:Y4):Unit:=x.2.2.2.1
abbrev Y4.live (x:Y4):Unit:=x.2.2.2.2.1
abbrev Y4.opened (x:Y4):(List Int):=x.2.2.2.2.2.1
abbrev Y4.added (x:Y4):(List Int):=x.2.2.2.2.2.2
abbrev Om:Ty:=.st (.pr (.int .i64) (.pr (.int .i64) (.int .i64)))
abbrev Ht:Type:=Int×Int×Int
abbrev Ht.Year (x:Ht):Int:=x.1
abbrev Ht.Month (x:Ht):Int:=x.2.1
abbrev Ht.Day (x:Ht):Int:=x.2.2
abbrev J5:Ty:=.st (.pr (.int .i64) (.pr (.int .i64) (.int .i64)))
abbrev Q8:Type:=Int×Int×Int
abbrev Q8.at_ (x:Q8):Int:=x.1
abbrev Q8.list (x:Q8):Int:=x.2.1
abbrev Q8.by_ (x:Q8):Int:=x.2.2
def Z27 (N:Nat):Option (Jv) :=
 some (([(0,1,1,0,([]:Str),([112,114,101,112,97,105,100]:Str),1),(0,3,1,1,([]:Str),([98,97,115,105,99]:Str),0),(0,8,0,1,([]:Str),([112,97,99,107]:Str),0),(0,14,1,0,([]:Str),([]:Str),700)]:(List Jg)),([(([98,97,115,105,99]:Str),0,false,([(([104,111,109,101]:Str),([([52,57]:Str)]:(List Str)))]:(List Ye)),([(([97,108,108]:Str),([]:(List Kl)))]:(List Yj)),([(1,([]:Str),([]:Str),500,([(0,1,20)]:(List Ub)))]:(List Y0)),([]:(List J9)))]:(List Q5)),([(([112,97,99,107]:Str),0,0,([102,101,101]:Str),false,([(1,([]:(List Str)),30,0,0,false)]:(List Yy)))]:(List Jm)),([]:(List Bn)),([]:(List Int)),([]:(List Y7)))
def Qyx (N:Nat) (x0:(List Str)):(Unit)→Option ((Unit)⊕((Unit))):=fun _ =>
 (if (decide (0<(List.length x0:Int))) then
  none
 else
  some false:Option (Bool)).bind fun v1 =>
 if v1 then
  none
 else
  some (.inr ())
def Jj7 (N:Nat) (x0:(List Str)) (x1:Str):Option ((List Str)) :=
 (Qw (Qyx N x0) N ()).bind fun _ =>
 (slc x0 0 0).bind fun s2 =>
 (app 16 ([]:(List Str)) s2).bind fun q3 =>
 (app 16 q3 ([x1]:(List Str))).bind fun q4 =>
 (slc x0 0 (List.length x0:Int)).bind fun s5 =>
 (app 16 q4 s5).bind fun q6 =>
 some q6
def Jj8 (N:Nat) (x0:Ys) (x1:Jg):Option (Int×Int×Int×Str×(List Str)×Bool×Bool×(List Str)) :=
 if (x1.Kind==3) then
  some (x1.Sub,x1.Account,x1.At,x1.Name,([]:(List Str)),false,false,([]:(List Str)))
 else
  if (x1.Kind==4) then
   none
  else
   if (x1.Kind==7) then
    none
   else
    if (x1.Kind==8) then
     (Jj7 N x0.Products x1.Name).bind fun r1 =>
     some (x0.Id,x0.Account,x0.Since,x0.Plan,x0.Numbers,x0.Suspended,x0.Family,r1)
    else
     none
def Qyy (N:Nat) (x0:(List Jg)) (x1:Int):(Int×(List Jl)×Int×Int×Int×Str×(List Str)×Bool×Bool×(List Str))→Option ((Int×(List Jl)×Int×Int×Int×Str×(List Str)×Bool×Bool×(List Str))⊕(((List Jl)))):=fun (v9,v10,v11,v12,v13,v14,v15,v16,v17,v18) =>
 if (decide (v9<(List.length x0:Int))) then
  ((idx x0 v9).bind fun x22 =>
  if ((x1==0)||(x22.Sub != x1)) then
   some (v10,v11,v12,v13,v14,v15,v16,v17,v18)
  else
   (Jj8 N (v11,v12,v13,v14,v15,v18,v16,v17) x22).bind fun (r51,r52,r53,r54,r55,r56,r57,r58) =>
   (if (decide ((List.length v10:Int)>0)) then
    (idx v10 (IntKind.wrap .i64 ((List.length v10:Int) - 1))).bind fun _ =>
    (idx v10 (IntKind.wrap .i64 ((List.length v10:Int) - 1))).bind fun x60 =>
    some (x60.at_==x22.At)
   else
    some false:Option (Bool)).bind fun v61 =>
   if v61 then
    (idx v10 (IntKind.wrap .i64 ((List.length v10:Int) - 1))).bind fun _ =>
    (idx v10 (IntKind.wrap .i64 ((List.length v10:Int) - 1))).bind fun y62 =>
    some ((List.set v10 (Int.toNat (IntKind.wrap .i64 ((List.length v10:Int) - 1))) (y62.at_,(r51,r52,r53,r54,r55,r58,r56,r57))),r51,r52,r53,r54,r55,r56,r57,r58)
   else
    (app 104 v10 ([(x22.At,(r51,r52,r53,r54,r55,r58,r56,r57))]:(List Jl))).bind fun q63 =>
    some (q63,r51,r52,r53,r54,r55,r56,r57,r58):Option (((List Jl)×Int×Int×Int×Str×(List Str)×Bool×Bool×(List Str)))).bind fun (v64,v65,v66,v67,v68,v69,v70,v71,v72) =>
  some (.inl ((IntKind.wrap .i64 (v9+1)),v64,v65,v66,v67,v68,v69,v70,v71,v72))
 else
  some (.inr v10)
def Jj9 (N:Nat) (x0:(List Jg)) (x1:Int):Option ((List Jl)) :=
 (Qw (Qyy N x0 x1) N (0,([]:(List Jl)),0,0,0,([]:Str),([]:(List Str)),false,false,([]:(List Str)))).bind fun v73 =>
 some v73
def Qyz (N:Nat) (x0:(List Jl)):(Int×(List Jl))→Option ((Int×(List Jl))⊕(((List Jl)))):=fun (v2,v3) =>
 if (decide (v2<(List.length x0:Int))) then
  (idx x0 v2).bind fun x4 =>
  if (decide ((List.length v3:Int)>0)) then
   none
  else
   (app 104 v3 ([x4]:(List Jl))).bind fun q5 =>
   some (.inl ((IntKind.wrap .i64 (v2+1)),q5))
 else
  some (.inr v3)
def Jka (N:Nat) (x0:(List Jl)):Option ((List Jl)) :=
 (Qw (Qyz N x0) N (0,([]:(List Jl)))).bind fun v6 =>
 some v6
def Jb9 (N:Nat) (r2:(List Jl)):(Int×(List Ji))→Option ((Int×(List Ji))⊕(((List Ji)))):=fun (v4,v5) =>
 if (decide (v4<(List.length r2:Int))) then
  (idx r2 v4).bind fun _ =>
  (idx r2 v4).bind fun x6 =>
  if (x6.s.Id==0) then
   none
  else
   if (decide ((IntKind.wrap .i64 (v4+1))<(List.length r2:Int))) then
    none
   else
    (app 16 ([]:(List Str)) x6.s.Products).bind fun q9 =>
    (app 64 v5 ([((x6.at_,12622780800),x6.s.Plan,q9,x6.s.Suspended,x6.s.Family)]:(List Ji))).bind fun q10 =>
    some (.inl ((IntKind.wrap .i64 (v4+1)),q10))
 else
  some (.inr v5)
def Z82 (N:Nat) (x0:(List Jg)) (x1:Int):Option ((List Ji)) :=
 (Jj9 N x0 x1).bind fun r1 =>
 (Jka N r1).bind fun r2 =>
 (Qw (Jb9 N r2) N (0,([]:(List Ji)))).bind fun v11 =>
 some v11
def Qqo (N:Nat) (x0:Qg):Option (Bool) :=
 some (((decide (x0.From≥0))&&(decide (x0.From<x0.To)))&&(decide (x0.To≤12622780800)))
def Z83 (N:Nat) (x0:Qg) (x1:Int):Option (Bool) :=
 (Qqo N x0).bind fun r1 =>
 some ((r1&&(decide (x1≥x0.From)))&&(decide (x1<x0.To)))
def Jca (N:Nat) (r1:(List Ji)) (x2:Int):(Qg×Str×Bool×Bool)→Option ((Qg×Str×Bool×Bool)⊕((Qg×Str×Bool×Bool)⊕(Bool×Ji))):=fun (v2,v3,v4,v5) =>
 if (decide (0<(List.length r1:Int))) then
  (idx r1 0).bind fun _ =>
  (idx r1 0).bind fun x6 =>
  (Z83 N x6.Period x2).bind fun r7 =>
  if r7 then
   some (.inr (.inr (true,x6)))
  else
   none
 else
  some (.inr (.inl (v2,v3,v4,v5)))
def Z63 (N:Nat) (x0:(List Jg)) (x1:Int) (x2:Int):Option (Ji×Bool) :=
 (Z82 N x0 x1).bind fun r1 =>
 (Qw (Jca N r1 x2) N ((0,0),([]:Str),false,false)).bind fun
  | .inl (v8,v9,v10,v11) =>
   some (((0,0),([]:Str),([]:(List Str)),false,false),false)
  | .inr (v12,v13) =>
   some (v13,v12)
def Jkb (N:Nat):Option ((List (Int×Qu))×(List (Int×Ys))×(List (Int×Bool))×(List (Str×Int))×(List (Int×Int))) :=
 some (([]:List (Int×Qu)),([]:List (Int×Ys)),([]:List (Int×Bool)),([]:List (Str×Int)),([]:List (Int×Int)))
def Jkc (N:Nat) (x0:(List Jg)) (x1:Int):Option ((List Jg)×Int) :=
 some (x0,x1)
def Qy0 (N:Nat) (x1:(List Jg)) (x2:Int):((Int)×(List Jg))→Option (((Int)×(List Jg))⊕(((Unit))×(List Jg))):=fun (v1,acc2) =>
 if (decide (v1<(List.length x1:Int))) then
  (idx x1 v1).bind fun x3 =>
  if (decide (x3.At≤x2)) then
   if (!true) then
    none
   else
    some (.inl ((IntKind.wrap .i64 (v1+1)),(acc2++[x3])))
  else
   some (.inl ((IntKind.wrap .i64 (v1+1)),acc2))
 else
  some (.inr ((),acc2))
def Jkd (N:Nat) (x1:(List Jg)) (x2:Int):Option (List Jg) :=
 (Qw (Qy0 N x1 x2) N (0,([]:(List Jg)))).bind fun (_,acc4) =>
 some acc4
def Qy1 (N:Nat) (x0:(List Int)):(Unit)→Option ((Unit)⊕((Unit))):=fun _ =>
 (if (decide (0<(List.length x0:Int))) then
  none
 else
  some false:Option (Bool)).bind fun v1 =>
 if v1 then
  none
 else
  some (.inr ())
def Jcb (N:Nat) (x0:(List Int)) (x1:Int):Option ((List Int)) :=
 (Qw (Qy1 N x0) N ()).bind fun _ =>
 (slc x0 0 0).bind fun s2 =>
 (app 8 ([]:(List Int)) s2).bind fun q3 =>
 (app 8 q3 ([x1]:(List Int))).bind fun q4 =>
 (slc x0 0 (List.length x0:Int)).bind fun s5 =>
 (app 8 q4 s5).bind fun q6 =>
 some q6
def Qy2 (N:Nat) (x0:(List Str)):(Unit)→Option ((Unit)⊕((Unit))):=fun _ =>
 (if (decide (0<(List.length x0:Int))) then
  none
 else
  some false:Option (Bool)).bind fun v1 =>
 if v1 then
  none
 else
  some (.inr ())
def Jke (N:Nat) (x0:(List Str)) (x1:Str):Option ((List Str)) :=
 (Qw (Qy2 N x0) N ()).bind fun _ =>
 (slc x0 0 0).bind fun s2 =>
 (app 16 ([]:(List Str)) s2).bind fun q3 =>
 (app 16 q3 ([x1]:(List Str))).bind fun q4 =>
 (slc x0 0 (List.length x0:Int)).bind fun s5 =>
 (app 16 q4 s5).bind fun q6 =>
 some q6
def Qms (N:Nat) (x1:Ys) (x2:Jg) (m5000_5:(List Int)) (m5000_6:(List Int)) (m5001:(List (Int×Qu))) (m5002:(List (Int×Ys))) (m5003:(List (Int×Bool))) (m5004:(List (Str×Int))) (m5005:(List (Int×Int))):Option (Int×Int×Int×Str×(List Str)×Bool×Bool×(List Str)) :=
 if (x2.Kind==5) then
  none
 else
  if (x2.Kind==6) then
   none
  else
   if (x2.Kind==7) then
    none
   else
    if (x2.Kind==8) then
     (Jke N x1.Products x2.Name).bind fun r1 =>
     some (x1.Id,x1.Account,x1.Since,x1.Plan,x1.Numbers,x1.Suspended,x1.Family,r1)
    else
     none
def Qmt (N:Nat) (x1:Jg) (m5000_5:(List Int)) (m5000_6:(List Int)) (m5001:(List (Int×Qu))) (m5002:(List (Int×Ys))) (m5003:(List (Int×Bool))) (m5004:(List (Str×Int))) (m5005:(List (Int×Int))):Option ((List Int)×(List Int)×(List (Int×Qu))×(List (Int×Ys))×(List (Int×Bool))×(List (Str×Int))×(List (Int×Int))) :=
 if (x1.Kind==1) then
  if (!(Q4 (k:=(.int .i64)) x1.Account m5001).isSome) then
   (Jcb N m5000_5 x1.Account).bind fun r1 =>
   some (r1,m5000_6,(Vp (k:=(.int .i64)) x1.Account (x1.Account,x1.At,x1.Value,(x1.Name==([112,114,101,112,97,105,100]:Str)),false,([]:(List Int))) m5001),m5002,m5003,m5004,m5005)
  else
   none
 else
  if (x1.Kind==2) then
   none
  else
   if (x1.Kind==3) then
    if (!((Q4 (k:=(.int .i64)) x1.Sub m5003).getD false)) then
     (Jcb N m5000_6 x1.Sub).bind fun r2 =>
     some (m5000_5,r2,m5001,(Vp (k:=(.int .i64)) x1.Sub (x1.Sub,x1.Account,x1.At,x1.Name,([]:(List Str)),([]:(List Str)),false,false) m5002),(Vp (k:=(.int .i64)) x1.Sub true m5003),m5004,(Vp (k:=(.int .i64)) x1.Account (IntKind.wrap .i64 (((Q4 (k:=(.int .i64)) x1.Account m5005).getD 0)+1)) m5005))
    else
     none
   else
    if (x1.Kind==4) then
     none
    else
     (if (x1.Kind==14) then
      some (x1.Kind==14)
     else
      some (x1.Kind==15):Option ((Bool))).bind fun v3 =>
     if v3 then
      some (m5000_5,m5000_6,m5001,m5002,m5003,m5004,m5005)
     else
      if (Q4 (k:=(.int .i64)) x1.Sub m5002).isSome then
       (Qms N ((Q4 (k:=(.int .i64)) x1.Sub m5002).getD (0,0,0,([]:Str),([]:(List Str)),([]:(List Str)),false,false)) x1 m5000_5 m5000_6 m5001 m5002 m5003 m5004 m5005).bind fun (r4,r5,r6,r7,r8,r9,r10,r11) =>
       some (m5000_5,m5000_6,m5001,(Vp (k:=(.int .i64)) x1.Sub (r4,r5,r6,r7,r8,r11,r9,r10) m5002),m5003,m5004,m5005)
      else
       none
def Qy3 (N:Nat) (m5000_6:(List Int)) (m5002:(List (Int×Ys))):(Int×(List (Int×(List Int)))×(List Ys))→Option ((Int×(List (Int×(List Int)))×(List Ys))⊕(((List (Int×(List Int)))×(List Ys)))):=fun (v4,v5,v6) =>
 if (decide (v4<(List.length m5000_6:Int))) then
  (idx m5000_6 v4).bind fun x7 =>
  if (!(Q4 (k:=(.int .i64)) x7 m5002).isSome) then
   none
  else
   (chk (eqK (.int .i64) (((Q4 (k:=(.int .i64)) x7 m5002).getD (0,0,0,([]:Str),([]:(List Str)),([]:(List Str)),false,false)).Account) (((Q4 (k:=(.int .i64)) x7 m5002).getD (0,0,0,([]:Str),([]:(List Str)),([]:(List Str)),false,false)).Account))).bind fun _ =>
   (app 8 (Qjl (fun (y:(List Int))=>(y:(List Int))) (Q4 (k:=(.int .i64)) (((Q4 (k:=(.int .i64)) x7 m5002).getD (0,0,0,([]:Str),([]:(List Str)),([]:(List Str)),false,false)).Account) v5)) ([x7]:(List Int))).bind fun q8 =>
   (chk (eqK (.int .i64) (((Q4 (k:=(.int .i64)) x7 m5002).getD (0,0,0,([]:Str),([]:(List Str)),([]:(List Str)),false,false)).Account) (((Q4 (k:=(.int .i64)) x7 m5002).getD (0,0,0,([]:Str),([]:(List Str)),([]:(List Str)),false,false)).Account))).bind fun _ =>
   (app 96 v6 ([((Q4 (k:=(.int .i64)) x7 m5002).getD (0,0,0,([]:Str),([]:(List Str)),([]:(List Str)),false,false))]:(List Ys))).bind fun q9 =>
   some (.inl ((IntKind.wrap .i64 (v4+1)),(Vp (k:=(.int .i64)) (((Q4 (k:=(.int .i64)) x7 m5002).getD (0,0,0,([]:Str),([]:(List Str)),([]:(List Str)),false,false)).Account) q8 v5),q9))
 else
  some (.inr (v5,v6))
def Qy4 (N:Nat) (m5000_5:(List Int)) (m5001:(List (Int×Qu))) (v10:(List (Int×(List Int)))):(Int×(List Qu)×(List Ys))→Option ((Int×(List Qu)×(List Ys))⊕(((List Qu)×(List Ys)))):=fun (v15,v16,v17) =>
 if (decide (v15<(List.length m5000_5:Int))) then
  (idx m5000_5 v15).bind fun x18 =>
  (app 56 v16 ([(((Q4 (k:=(.int .i64)) x18 m5001).getD (0,0,0,false,false,([]:(List Int)))).Id,((Q4 (k:=(.int .i64)) x18 m5001).getD (0,0,0,false,false,([]:(List Int)))).Since,((Q4 (k:=(.int .i64)) x18 m5001).getD (0,0,0,false,false,([]:(List Int)))).Anchor,((Q4 (k:=(.int .i64)) x18 m5001).getD (0,0,0,false,false,([]:(List Int)))).Prepaid,((Q4 (k:=(.int .i64)) x18 m5001).getD (0,0,0,false,false,([]:(List Int)))).Closed,((Q4 (k:=(.int .i64)) x18 v10).getD ([]:(List Int))))]:(List Qu))).bind fun q19 =>
  some (.inl ((IntKind.wrap .i64 (v15+1)),q19,v17))
 else
  some (.inr (v16,v17))
def Jkf (N:Nat) (m5000_5:(List Int)) (m5000_6:(List Int)) (m5001:(List (Int×Qu))) (m5002:(List (Int×Ys))) (m5003:(List (Int×Bool))) (m5004:(List (Str×Int))) (m5005:(List (Int×Int))):Option ((List Qu)×(List Ys)) :=
 (Qw (Qy3 N m5000_6 m5002) N (0,([]:List (Int×(List Int))),([]:(List Ys)))).bind fun (v10,v11) =>
 (Qw (Qy4 N m5000_5 m5001 v10) N (0,([]:(List Qu)),v11)).bind fun (v20,v21) =>
 some (v20,v21)
def Jcc (N:Nat):((List Int)×(List Int)×(List (Int×Qu))×(List (Int×Ys))×(List (Int×Bool))×(List (Str×Int))×(List (Int×Int)))→Jg→Option ((List Int)×(List Int)×(List (Int×Qu))×(List (Int×Ys))×(List (Int×Bool))×(List (Str×Int))×(List (Int×Int))):=fun (v13,v14,v15,v16,v17,v18,v19) e20 =>
 (Qmt N e20 v13 v14 v15 v16 v17 v18 v19).bind fun (r21,r22,r23,r24,r25,r26,r27) =>
 some (r21,r22,r23,r24,r25,r26,r27)
def Z84 (N:Nat) (x0:(List Jg)) (x1:Int):Option ((List Qu)×(List Ys)) :=
 (Jkb N).bind fun (r1,r2,r3,r4,r5) =>
 (Jkc N x0 x1).bind fun (r6,r7) =>
 (Jkd N r6 r7).bind fun es35 =>
 (Qgr (Jcc N) es35 (([]:(List Int)),([]:(List Int)),r1,r2,r3,r4,r5)).bind fun (v28,v29,v30,v31,v32,v33,v34) =>
 (Jkf N v28 v29 v30 v31 v32 v33 v34).bind fun (r36,r37) =>
 some (r36,r37)
def Jcd (N:Nat) (r2:(List Ys)) (x1:Int):(Int×Int×Int×Str×Bool×Bool)→Option ((Int×Int×Int×Str×Bool×Bool)⊕((Bool×Ys))):=fun (v3,v4,v5,v6,v7,v8) =>
 if (decide (0<(List.length r2:Int))) then
  (idx r2 0).bind fun _ =>
  (idx r2 0).bind fun x9 =>
  if (x9.Id==x1) then
   some (.inr (true,x9))
  else
   none
 else
  none
def Z64 (N:Nat) (x0:(List Jg)) (x1:Int) (x2:Int):Option (Ys×Bool) :=
 (Z84 N x0 x2).bind fun (r1,r2) =>
 (Qw (Jcd N r2 x1) N (0,0,0,([]:Str),false,false)).bind fun (v10,v11) =>
 some (v11,v10)
def Jce (N:Nat) (r1:(List Qu)) (x1:Int):(Int×Int×Int×Bool×Bool)→Option ((Int×Int×Int×Bool×Bool)⊕((Bool×Qu))):=fun (v3,v4,v5,v6,v7) =>
 if (decide (0<(List.length r1:Int))) then
  (idx r1 0).bind fun _ =>
  (idx r1 0).bind fun x8 =>
  if (x8.Id==x1) then
   some (.inr (true,x8))
  else
   none
 else
  none
def Z65 (N:Nat) (x0:(List Jg)) (x1:Int) (x2:Int):Option (Qu×Bool) :=
 (Z84 N x0 x2).bind fun (r1,r2) =>
 (Qw (Jce N r1 x1) N (0,0,0,false,false)).bind fun (v9,v10) =>
 some (v10,v9)
def Z49 (N:Nat) (m5000_0:Jv) (m5000_1:Ja) (m5000_2:Qh) (m5000_3_0:Qg) (m5000_3_1:Str) (m5000_3_3:Bool) (m5000_3_4:Bool) (m5000_4_0:Int) (m5000_4_1:Int) (m5000_4_2:Int) (m5000_4_3:Bool) (m5000_4_4:Bool) (m5000_5_0:Str) (m5000_5_1:Int) (m5000_5_2:Bool) (m5000_6:Int) (m5000_7_0:Qh) (m5000_7_1:Int) (m5000_7_2:Str) (m5000_7_3:Int) (m5000_7_4:Str) (m5000_7_7:Int) (m5000_7_8:Int) (m5000_7_9:Int) (m5000_7_11:Int) (m5000_7_12:Int) (m5001:(List Str)) (m5002:(List Int)) (m5003:(List Ye)) (m5004:(List Yj)) (m5005:(List Y0)) (m5006:(List J9)) (m5007:(List Jz)) (m5008:(List Q2)) (m5009:(List J8)):Option (Int×Jv×Ja×Qh×Qg×Str×(List Str)×Bool×Bool×Int×Int×Int×Bool×Bool×(List Int)×Str×Int×Bool×Int×Qh×Int×Str×Int×Str×Int×Int×Int×Int×Int×(List Ye)×(List Yj)×(List Y0)×(List J9)×(List Jz)×(List Q2)×(List J8)) :=
 (Z63 N m5000_0.Events m5000_2.Sub m5000_2.Start).bind fun (r1,r2) =>
 if (!r2) then
  some (11,m5000_0,m5000_1,m5000_2,m5000_3_0,m5000_3_1,m5001,m5000_3_3,m5000_3_4,m5000_4_0,m5000_4_1,m5000_4_2,m5000_4_3,m5000_4_4,m5002,m5000_5_0,m5000_5_1,m5000_5_2,m5000_6,m5000_7_0,m5000_7_1,m5000_7_2,m5000_7_3,m5000_7_4,m5000_7_7,m5000_7_8,m5000_7_9,m5000_7_11,m5000_7_12,m5003,m5004,m5005,m5006,m5007,m5008,m5009)
 else
  (Z64 N m5000_0.Events m5000_2.Sub m5000_2.Start).bind fun (r3,r4) =>
  if (r3.Account != m5000_2.Account) then
   none
  else
   if r1.Suspended then
    none
   else
    (Z65 N m5000_0.Events r3.Account m5000_2.Start).bind fun (r7,r8) =>
    some (0,m5000_0,m5000_1,m5000_2,r1.Period,r1.Plan,r1.Products,r1.Suspended,r1.Family,r7.Id,r7.Since,r7.Anchor,r7.Prepaid,r7.Closed,r7.Subs,m5000_5_0,m5000_5_1,m5000_5_2,m5000_6,m5000_7_0,m5000_7_1,m5000_7_2,m5000_7_3,m5000_7_4,m5000_7_7,m5000_7_8,m5000_7_9,m5000_7_11,m5000_7_12,m5003,m5004,m5005,m5006,m5007,m5008,m5009)
def Z48 (N:Nat) (m5001_0:Jv) (m5001_1:Ja) (m5001_2:Qh) (m5001_3_0:Qg) (m5001_3_1:Str) (m5001_3_3:Bool) (m5001_3_4:Bool) (m5001_4_0:Int) (m5001_4_1:Int) (m5001_4_2:Int) (m5001_4_3:Bool) (m5001_4_4:Bool) (m5001_5_0:Str) (m5001_5_1:Int) (m5001_5_2:Bool) (m5001_6:Int) (m5001_7_0:Qh) (m5001_7_1:Int) (m5001_7_2:Str) (m5001_7_3:Int) (m5001_7_4:Str) (m5001_7_7:Int) (m5001_7_8:Int) (m5001_7_9:Int) (m5001_7_11:Int) (m5001_7_12:Int) (m5002:(List Str)) (m5003:(List Int)) (m5004:(List Ye)) (m5005:(List Yj)) (m5006:(List Y0)) (m5007:(List J9)) (m5008:(List Jz)) (m5009:(List Q2)) (m5010:(List J8)):Option (Int×Jv×Ja×Qh×Ji×Qu×Str×Int×Bool×Int×Qh×Int×Str×Int×Str×Int×Int×Int×Int×Int×(List Ye)×(List Yj)×(List Y0)×(List J9)×(List Jz)×(List Q2)×(List J8)) :=
 (Z49 N m5001_0 m5001_1 m5001_2 m5001_3_0 m5001_3_1 m5001_3_3 m5001_3_4 m5001_4_0 m5001_4_1 m5001_4_2 m5001_4_3 m5001_4_4 m5001_5_0 m5001_5_1 m5001_5_2 m5001_6 m5001_7_0 m5001_7_1 m5001_7_2 m5001_7_3 m5001_7_4 m5001_7_7 m5001_7_8 m5001_7_9 m5001_7_11 m5001_7_12 m5002 m5003 m5004 m5005 m5006 m5007 m5008 m5009 m5010).bind fun (r1,r2,r3,r4,r5,r6,r7,r8,r9,r10,r11,r12,r13,r14,r15,r16,r17,r18,r19,r20,r21,r22,r23,r24,r25,r26,r27,r28,r29,r30,r31,r32,r33,r34,r35,r36) =>
 some (r1,r2,r3,r4,(r5,r6,r7,r8,r9),(r10,r11,r12,r13,r14,r15),r16,r17,r18,r19,r20,r21,r22,r23,r24,r25,r26,r27,r28,r29,r30,r31,r32,r33,r34,r35,r36)
def Z47 (N:Nat) (m5001_0:Jv) (m5001_1:Ja) (m5001_2:Qh) (m5001_3_0:Qg) (m5001_3_1:Str) (m5001_3_3:Bool) (m5001_3_4:Bool) (m5001_4_0:Int) (m5001_4_1:Int) (m5001_4_2:Int) (m5001_4_3:Bool) (m5001_4_4:Bool) (m5001_5_0:Str) (m5001_5_1:Int) (m5001_5_2:Bool) (m5001_6:Int) (m5001_7_0:Qh) (m5001_7_1:Int) (m5001_7_2:Str) (m5001_7_3:Int) (m5001_7_4:Str) (m5001_7_7:Int) (m5001_7_8:Int) (m5001_7_9:Int) (m5001_7_11:Int) (m5001_7_12:Int) (m5002:(List Str)) (m5003:(List Int)) (m5004:(List Ye)) (m5005:(List Yj)) (m5006:(List Y0)) (m5007:(List J9)) (m5008:(List Jz)) (m5009:(List Q2)) (m5010:(List J8)) (m5011:Int):Option (Jv×Ja×Qh×Qg×Str×(List Str)×Bool×Bool×Int×Int×Int×Bool×Bool×(List Int)×Str×Int×Bool×Int×Qh×Int×Str×Int×Str×Int×Int×Int×Int×Int×Int×(List Ye)×(List Yj)×(List Y0)×(List J9)×(List Jz)×(List Q2)×(List J8)) :=
 if (m5011==0) then
  (Z48 N m5001_0 m5001_1 m5001_2 m5001_3_0 m5001_3_1 m5001_3_3 m5001_3_4 m5001_4_0 m5001_4_1 m5001_4_2 m5001_4_3 m5001_4_4 m5001_5_0 m5001_5_1 m5001_5_2 m5001_6 m5001_7_0 m5001_7_1 m5001_7_2 m5001_7_3 m5001_7_4 m5001_7_7 m5001_7_8 m5001_7_9 m5001_7_11 m5001_7_12 m5002 m5003 m5004 m5005 m5006 m5007 m5008 m5009 m5010).bind fun (r1,r2,r3,r4,r5,r6,r7,r8,r9,r10,r11,r12,r13,r14,r15,r16,r17,r18,r19,r20,r21,r22,r23,r24,r25,r26,r27) =>
  some (r2,r3,r4,r5.Period,r5.Plan,r5.Products,r5.Suspended,r5.Family,r6.Id,r6.Since,r6.Anchor,r6.Prepaid,r6.Closed,r6.Subs,r7,r8,r9,r10,r11,r12,r13,r14,r15,r16,r17,r18,r19,r20,r1,r21,r22,r23,r24,r25,r26,r27)
 else
  some (m5001_0,m5001_1,m5001_2,m5001_3_0,m5001_3_1,m5002,m5001_3_3,m5001_3_4,m5001_4_0,m5001_4_1,m5001_4_2,m5001_4_3,m5001_4_4,m5003,m5001_5_0,m5001_5_1,m5001_5_2,m5001_6,m5001_7_0,m5001_7_1,m5001_7_2,m5001_7_3,m5001_7_4,m5001_7_7,m5001_7_8,m5001_7_9,m5001_7_11,m5001_7_12,m5011,m5004,m5005,m5006,m5007,m5008,m5009,m5010)
def Jkg (N:Nat) (x0:(List Str)):Option ((List Str)) :=
 (app 16 ([]:(List Str)) x0).bind fun q1 =>
 some q1
def Jkh (N:Nat) (x0:(List Kl)):Option ((List Kl)) :=
 (app 24 ([]:(List Kl)) x0).bind fun q1 =>
 some q1
def Jki (N:Nat) (x0:(List Ub)):Option ((List Ub)) :=
 (app 24 ([]:(List Ub)) x0).bind fun q1 =>
 some q1
def Jcf (N:Nat) (x0:Q5):(Int×Str×Int×Bool×(List Ye))→Option ((Int×Str×Int×Bool×(List Ye))⊕((Str×Int×Bool×(List Ye)))):=fun (v6,v7,v8,v9,v10) =>
 if (decide (v6<(List.length x0.Zones:Int))) then
  (idx x0.Zones v6).bind fun x11 =>
  (Jkg N x11.Prefixes).bind fun r12 =>
  (app 40 v10 ([(x11.Name,r12)]:(List Ye))).bind fun q13 =>
  some (.inl ((IntKind.wrap .i64 (v6+1)),v7,v8,v9,q13))
 else
  some (.inr (v7,v8,v9,v10))
def Jcg (N:Nat) (x0:Q5):(Int×Str×Int×Bool×(List Ye)×(List Yj))→Option ((Int×Str×Int×Bool×(List Ye)×(List Yj))⊕((Str×Int×Bool×(List Ye)×(List Yj)))):=fun (v24,v25,v26,v27,v28,v29) =>
 if (decide (v24<(List.length x0.Bands:Int))) then
  (idx x0.Bands v24).bind fun x30 =>
  (Jkh N x30.Slots).bind fun r31 =>
  (app 40 v29 ([(x30.Name,r31)]:(List Yj))).bind fun q32 =>
  some (.inl ((IntKind.wrap .i64 (v24+1)),v25,v26,v27,v28,q32))
 else
  some (.inr (v25,v26,v27,v28,v29))
def Jch (N:Nat) (x0:Q5):(Int×Str×Int×Bool×(List Ye)×(List Yj)×(List Y0))→Option ((Int×Str×Int×Bool×(List Ye)×(List Yj)×(List Y0))⊕((Str×Int×Bool×(List Ye)×(List Yj)×(List Y0)))):=fun (v45,v46,v47,v48,v49,v50,v51) =>
 if (decide (v45<(List.length x0.Rates:Int))) then
  (idx x0.Rates v45).bind fun x52 =>
  (Jki N x52.Steps).bind fun r53 =>
  (app 72 v51 ([(x52.Kind,x52.Zone,x52.Band,x52.Setup,r53)]:(List Y0))).bind fun q54 =>
  some (.inl ((IntKind.wrap .i64 (v45+1)),v46,v47,v48,v49,v50,q54))
 else
  some (.inr (v46,v47,v48,v49,v50,v51))
def Jci (N:Nat) (x0:Q5):(Unit)→Option ((Unit)⊕((Unit))):=fun _ =>
 if (decide (0<(List.length x0.Discounts:Int))) then
  none
 else
  some (.inr ())
def Z85 (N:Nat) (x0:Q5):Option (Str×Int×Bool×(List Ye)×(List Yj)×(List Y0)) :=
 (Qw (Jcf N x0) N (0,x0.Name,x0.From,x0.Split,([]:(List Ye)))).bind fun (v14,v15,v16,v17) =>
 (Qw (Jcg N x0) N (0,v14,v15,v16,v17,([]:(List Yj)))).bind fun (v33,v34,v35,v36,v37) =>
 (Qw (Jch N x0) N (0,v33,v34,v35,v36,v37,([]:(List Y0)))).bind fun (v55,v56,v57,v58,v59,v60) =>
 (Qw (Jci N x0) N ()).bind fun _ =>
 some (v55,v56,v57,v58,v59,v60)
def Jcj (N:Nat) (x0:(List Q5)) (x1:Str) (x2:Int):(Int×Int)→Option ((Int×Int)⊕((Int))):=fun (v1,v2) =>
 if (decide (v2<(List.length x0:Int))) then
  (idx x0 v2).bind fun x3 =>
  if ((x3.Name==x1)&&(decide (x3.From≤x2))) then
   some (.inl (v2,(IntKind.wrap .i64 (v2+1))))
  else
   none
 else
  some (.inr v1)
def Z66 (N:Nat) (x0:(List Q5)) (x1:Str) (x2:Int):Option (Q5×Bool) :=
 (Qw (Jcj N x0 x1 x2) N ((-1),0)).bind fun v4 =>
 if (decide (v4<0)) then
  none
 else
  (idx x0 v4).bind fun x5 =>
  (Z85 N x5).bind fun (r6,r7,r8,r9,r10,r11) =>
  some ((r6,r7,r8,r9,r10,r11,([]:(List J9))),true)
def Qy5 (N:Nat) (x0:Str):(Int)→Option ((Int)⊕((Unit))):=fun v1 =>
 if (decide (v1<(List.length x0:Int))) then
  (Qo0 x0 v1).bind fun c2 =>
  if (((decide (c2<97))||(decide (c2>122)))&&((v1==0)||((c2 != 45)&&((decide (c2<48))||(decide (c2>57)))))) then
   none
  else
   some (.inl (IntKind.wrap .i64 (v1+1)))
 else
  some (.inr ())
def Jkj (N:Nat) (x0:Str):Option (Bool) :=
 (Qw (Qy5 N x0) N 0).bind fun _ =>
 some ((decide ((List.length x0:Int)≥1))&&(decide ((List.length x0:Int)≤24)))
def Qy6 (N:Nat) (x0:(List Ye)):(Unit)→Option ((Unit)⊕((Unit))):=fun _ =>
 if (decide (0<(List.length x0:Int))) then
  none
 else
  some (.inr ())
def Jkk (N:Nat) (x0:(List Ye)) (m5000:Ye):Option (Int) :=
 (Qw (Qy6 N x0) N ()).bind fun _ =>
 some (-1)
def Jkl (N:Nat) (x0:(List Ye)) (m5000:Ye):Option (Bool) :=
 (Jkk N x0 m5000).bind fun r1 =>
 some (decide (r1≥0))
def Jkm (N:Nat) (x0:Int):Option (Bool) :=
 some ((decide (x0≥48))&&(decide (x0≤57)))
def Jck (N:Nat) (x0:Str):(Int)→Option ((Int)⊕((Unit))):=fun v1 =>
 if (decide (v1<(List.length x0:Int))) then
  (Qo0 x0 v1).bind fun c2 =>
  (Jkm N c2).bind fun r3 =>
  if (!r3) then
   none
  else
   some (.inl (IntKind.wrap .i64 (v1+1)))
 else
  some (.inr ())
def Z87 (N:Nat) (x0:Str):Option (Bool) :=
 (Qw (Jck N x0) N 0).bind fun _ =>
 some ((decide ((List.length x0:Int)≥1))&&(decide ((List.length x0:Int)≤15)))
def Jcl (N:Nat) (x4:Ye):(Int×(List (Str×Str)))→Option ((Int×(List (Str×Str)))⊕(((List (Str×Str))))):=fun (v11,v12) =>
 if (decide (v11<(List.length x4.Prefixes:Int))) then
  (idx x4.Prefixes v11).bind fun x13 =>
  (Z87 N x13).bind fun r14 =>
  if (!r14) then
   none
  else
   if (Q4 (k:=.str) x13 v12).isSome then
    none
   else
    some (.inl ((IntKind.wrap .i64 (v11+1)),(Vp (k:=.str) x13 x4.Name v12)))
 else
  some (.inr v12)
def Jcm (N:Nat) (x0:(List Ye)):(Int×(List (Str×Str)))→Option ((Int×(List (Str×Str)))⊕(((List (Str×Str))))):=fun (v2,v3) =>
 if (decide (v2<(List.length x0:Int))) then
  (idx x0 v2).bind fun x4 =>
  (Jkj N x4.Name).bind fun r6 =>
  if (!r6) then
   none
  else
   (slc x0 0 v2).bind fun s7 =>
   (Jkl N s7 x4).bind fun r9 =>
   if r9 then
    none
   else
    if ((List.length x4.Prefixes:Int)==0) then
     none
    else
     if (decide ((List.length x4.Prefixes:Int)>64)) then
      none
     else
      (Qw (Jcl N x4) N (0,v3)).bind fun v15 =>
      some (.inl ((IntKind.wrap .i64 (v2+1)),v15))
 else
  some (.inr v3)
def Z86 (N:Nat) (x0:(List Ye)):Option (Int×(List (Str×Str))) :=
 if (decide ((List.length x0:Int)>64)) then
  none
 else
  (Qw (Jcm N x0) N (0,([]:List (Str×Str)))).bind fun v16 =>
  some (0,v16)
def Jcn (N:Nat) (x1:Str) (m5000:(List (Str×Str))):(Int)→Option ((Int)⊕((Str×Bool))):=fun v1 =>
 if (decide (v1>0)) then
  (slc x1 0 v1).bind fun s2 =>
  if (Q4 (k:=.str) s2 m5000).isSome then
   some (.inr (((Q4 (k:=.str) s2 m5000).getD ([]:Str)),true))
  else
   some (.inl (IntKind.wrap .i64 (v1 - 1)))
 else
  none
def Z88 (N:Nat) (x1:Str) (x2:Int) (m5000:(List (Str×Str))):Option (Str×Bool) :=
 (Qw (Jcn N x1 m5000) N x2).bind fun (v3,v4) =>
 some (v3,v4)
def Z67 (N:Nat) (x0:(List Ye)) (x1:Str):Option (Str×Bool) :=
 (Z86 N x0).bind fun (r1,r2) =>
 (if (r1 != 0) then
  some true
 else
  (Z87 N x1).bind fun r4 =>
  some (!r4):Option (Bool)).bind fun v5 =>
 if v5 then
  none
 else
  (Z88 N x1 (List.length x1:Int) r2).bind fun (r6,r7) =>
  some (r6,r7)
def Z51 (N:Nat) (m5000_0:Jv) (m5000_1:Ja) (m5000_2:Qh) (m5000_3:Ji) (m5000_4:Qu) (m5000_5_0:Str) (m5000_5_1:Int) (m5000_5_2:Bool) (m5000_6:Int) (m5000_7_0:Qh) (m5000_7_1:Int) (m5000_7_2:Str) (m5000_7_3:Int) (m5000_7_4:Str) (m5000_7_7:Int) (m5000_7_8:Int) (m5000_7_9:Int) (m5000_7_11:Int) (m5000_7_12:Int) (m5001:(List Ye)) (m5002:(List Yj)) (m5003:(List Y0)) (m5004:(List J9)) (m5005:(List Jz)) (m5006:(List Q2)) (m5007:(List J8)):Option (Int×Jv×Ja×Qh×Ji×Qu×Q5×Int×Qh×Int×Str×Int×Str×Int×Int×Int×Int×Int×(List Jz)×(List Q2)×(List J8)) :=
 (Z66 N m5000_0.Tariffs m5000_3.Plan m5000_2.Start).bind fun (r1,r2) =>
 if (!r2) then
  none
 else
  (Z67 N r1.Zones m5000_2.B).bind fun (r5,r6) =>
  some (0,m5000_0,m5000_1,m5000_2,m5000_3,m5000_4,r1,m5000_6,m5000_7_0,m5000_7_1,r1.Name,r1.From,r5,m5000_7_7,m5000_7_8,m5000_7_9,m5000_7_11,m5000_7_12,m5005,m5006,m5007)
def Z50 (N:Nat) (m5001_0:Jv) (m5001_1:Ja) (m5001_2:Qh) (m5001_3:Ji) (m5001_4:Qu) (m5001_5_0:Str) (m5001_5_1:Int) (m5001_5_2:Bool) (m5001_6:Int) (m5001_7_0:Qh) (m5001_7_1:Int) (m5001_7_2:Str) (m5001_7_3:Int) (m5001_7_4:Str) (m5001_7_7:Int) (m5001_7_8:Int) (m5001_7_9:Int) (m5001_7_11:Int) (m5001_7_12:Int) (m5002:(List Ye)) (m5003:(List Yj)) (m5004:(List Y0)) (m5005:(List J9)) (m5006:(List Jz)) (m5007:(List Q2)) (m5008:(List J8)):Option (Int×Jv×Ja×Qh×Ji×Qu×Q5×Int×Qh×Int×Str×Int×Str×Int×Int×Int×Int×Int×(List Jz)×(List Q2)×(List J8)) :=
 (Z51 N m5001_0 m5001_1 m5001_2 m5001_3 m5001_4 m5001_5_0 m5001_5_1 m5001_5_2 m5001_6 m5001_7_0 m5001_7_1 m5001_7_2 m5001_7_3 m5001_7_4 m5001_7_7 m5001_7_8 m5001_7_9 m5001_7_11 m5001_7_12 m5002 m5003 m5004 m5005 m5006 m5007 m5008).bind fun (r1,r2,r3,r4,r5,r6,r7,r8,r9,r10,r11,r12,r13,r14,r15,r16,r17,r18,r19,r20,r21) =>
 some (r1,r2,r3,r4,r5,r6,r7,r8,r9,r10,r11,r12,r13,r14,r15,r16,r17,r18,r19,r20,r21)
def Qt3 (N:Nat) (m5001_0:Jv) (m5001_1:Ja) (m5001_2:Qh) (m5001_3:Ji) (m5001_4:Qu) (m5001_5_0:Str) (m5001_5_1:Int) (m5001_5_2:Bool) (m5001_6:Int) (m5001_7_0:Qh) (m5001_7_1:Int) (m5001_7_2:Str) (m5001_7_3:Int) (m5001_7_4:Str) (m5001_7_7:Int) (m5001_7_8:Int) (m5001_7_9:Int) (m5001_7_11:Int) (m5001_7_12:Int) (m5002:(List Ye)) (m5003:(List Yj)) (m5004:(List Y0)) (m5005:(List J9)) (m5006:(List Jz)) (m5007:(List Q2)) (m5008:(List J8)) (m5009:Int):Option (Jv×Ja×Qh×Ji×Qu×Str×Int×Bool×(List Ye)×(List Yj)×(List Y0)×(List J9)×Int×Qh×Int×Str×Int×Str×Int×Int×Int×Int×Int×Int×(List Jz)×(List Q2)×(List J8)) :=
 if (m5009==0) then
  (Z50 N m5001_0 m5001_1 m5001_2 m5001_3 m5001_4 m5001_5_0 m5001_5_1 m5001_5_2 m5001_6 m5001_7_0 m5001_7_1 m5001_7_2 m5001_7_3 m5001_7_4 m5001_7_7 m5001_7_8 m5001_7_9 m5001_7_11 m5001_7_12 m5002 m5003 m5004 m5005 m5006 m5007 m5008).bind fun (r1,r2,r3,r4,r5,r6,r7,r8,r9,r10,r11,r12,r13,r14,r15,r16,r17,r18,r19,r20,r21) =>
  some (r2,r3,r4,r5,r6,r7.Name,r7.From,r7.Split,r7.Zones,r7.Bands,r7.Rates,r7.Discounts,r8,r9,r10,r11,r12,r13,r14,r15,r16,r17,r18,r1,r19,r20,r21)
 else
  some (m5001_0,m5001_1,m5001_2,m5001_3,m5001_4,m5001_5_0,m5001_5_1,m5001_5_2,m5002,m5003,m5004,m5005,m5001_6,m5001_7_0,m5001_7_1,m5001_7_2,m5001_7_3,m5001_7_4,m5001_7_7,m5001_7_8,m5001_7_9,m5001_7_11,m5001_7_12,m5009,m5006,m5007,m5008)
def Qy7 (N:Nat) (x0:(List Qj)):(Int×(List Qj))→Option ((Int×(List Qj))⊕(((List Qj)))):=fun (v2,v3) =>
 if (decide (v2<(List.length x0:Int))) then
  (idx x0 v2).bind fun x4 =>
  (app 16 ([]:(List Str)) x4.Zones).bind fun q5 =>
  (app 120 v3 ([(x4.Account,x4.Sub,x4.Product,x4.Index,x4.Kind,q5,x4.Valid,x4.Units,x4.Left,x4.Priority,x4.Shared)]:(List Qj))).bind fun q6 =>
  some (.inl ((IntKind.wrap .i64 (v2+1)),q6))
 else
  some (.inr v3)
def Jkn (N:Nat) (x0:(List Qj)):Option ((List Qj)) :=
 (Qw (Qy7 N x0) N (0,([]:(List Qj)))).bind fun v7 =>
 some v7
def Z89 (N:Nat) (x0:Ja):Option ((List Qj)×(List Q0)×(List Qv)) :=
 (Jkn N x0.Buckets).bind fun r1 =>
 (app 40 ([]:(List Q0)) x0.Wallets).bind fun q2 =>
 (app 40 ([]:(List Qv)) x0.Counters).bind fun q3 =>
 some (r1,q2,q3)
def Jco (N:Nat) (x0:(List Jg)) (x1:Int) (x2:Int):(Unit)→Option ((Unit)⊕((Bool))):=fun _ =>
 if (decide (0<(List.length x0:Int))) then
  (idx x0 0).bind fun x3 =>
  if (((x3.Kind==1)&&(x3.Account==x1))&&(decide (x3.At≤x2))) then
   some (.inr (x3.Name==([112,114,101,112,97,105,100]:Str)))
  else
   none
 else
  none
def Z90 (N:Nat) (x0:(List Jg)) (x1:Int) (x2:Int):Option (Bool) :=
 (Qw (Jco N x0 x1 x2) N ()).bind fun v4 =>
 some v4
def Qy8 (N:Nat) (x0:(List Q0)):(Int×(List (Int×Int)))→Option ((Int×(List (Int×Int)))⊕(((List (Int×Int))))):=fun (v2,v3) =>
 if (decide (v2<(List.length x0:Int))) then
  (idx x0 v2).bind fun x4 =>
  if (!(Q4 (k:=(.int .i64)) x4.Account v3).isSome) then
   some (.inl ((IntKind.wrap .i64 (v2+1)),(Vp (k:=(.int .i64)) x4.Account v2 v3)))
  else
   none
 else
  some (.inr v3)
def Jko (N:Nat) (x0:(List Q0)):Option ((List (Int×Int))) :=
 (Qw (Qy8 N x0) N (0,([]:List (Int×Int)))).bind fun v5 =>
 some v5
def Jcp (N:Nat) (x0:(List Q0)):(Unit)→Option ((Unit)⊕((Unit))):=fun _ =>
 (if (decide (0<(List.length x0:Int))) then
  none
 else
  some false:Option (Bool)).bind fun v3 =>
 if v3 then
  none
 else
  some (.inr ())
def Z91 (N:Nat) (x0:(List Q0)) (x1:Int):Option (Int×(List Q0)) :=
 (Jko N x0).bind fun r1 =>
 if (Q4 (k:=(.int .i64)) x1 r1).isSome then
  (app 40 ([]:(List Q0)) x0).bind fun q2 =>
  some (((Q4 (k:=(.int .i64)) x1 r1).getD 0),q2)
 else
  (Qw (Jcp N x0) N ()).bind fun _ =>
  (slc x0 0 0).bind fun s4 =>
  (app 40 ([]:(List Q0)) s4).bind fun q5 =>
  (app 40 q5 ([(x1,0,0,0,(-1))]:(List Q0))).bind fun q6 =>
  (slc x0 0 (List.length x0:Int)).bind fun s7 =>
  (app 40 q6 s7).bind fun q8 =>
  some (0,q8)
def Qj9 (N:Nat) (x0:Int) (x1:Int) (x2:Int):Option (Bool) :=
 some ((decide (x0≥x1))&&(decide (x0≤x2)))
def Jcq (N:Nat) (x0:Int):Option (Bool) :=
 some ((decide (x0≥(-1125899906842624)))&&(decide (x0≤1125899906842624)))
def Qy9 (N:Nat) (x0:Q0):Option (Int) :=
 (Qj9 N x0.Account 1 9999).bind fun r1 =>
 (if (!r1) then
  some true
 else
  (Jcq N x0.Balance).bind fun r3 =>
  some (!r3):Option (Bool)).bind fun v4 =>
 (if v4 then
  some true
 else
  (Qj9 N x0.Floor (-1125899906842624) 0).bind fun r6 =>
  some (!r6):Option (Bool)).bind fun v7 =>
 if v7 then
  none
 else
  (Qj9 N x0.Held 0 1125899906842624).bind fun r8 =>
  (if (!r8) then
   some true
  else
   (Qj9 N x0.Until (-1) 12622780799).bind fun r10 =>
   some (!r10):Option (Bool)).bind fun v11 =>
  if v11 then
   none
  else
   if (decide ((IntKind.wrap .i64 (x0.Balance - x0.Held))<x0.Floor)) then
    none
   else
    some 0
def Z93 (N:Nat) (x0:Q0) (x1:Int):Option (Q0×Int) :=
 (Qy9 N x0).bind fun r1 =>
 if (r1 != 0) then
  none
 else
  (Qj9 N x1 0 1125899906842624).bind fun r2 =>
  (if (!r2) then
   some true
  else
   (Jcq N (IntKind.wrap .i64 (x0.Balance+x1))).bind fun r4 =>
   some (!r4):Option (Bool)).bind fun v5 =>
  if v5 then
   none
  else
   some ((x0.Account,(IntKind.wrap .i64 (x0.Balance+x1)),x0.Floor,x0.Held,x0.Until),0)
def Z92 (N:Nat) (x0:Q0) (x1:Int) (m5000:Q0):Option (Q0) :=
 if (x1==0) then
  some x0
 else
  none
def Jcr (N:Nat) (x0:(List Jg)) (x2:Int) (r8:(List Q0)) (r7:Int) (x3:Int):(Int×Q0)→Option ((Int×Q0)⊕((Q0))):=fun (v11,v12) =>
 if (decide (v11<(List.length x0:Int))) then
  ((idx x0 v11).bind fun x17 =>
  (if (x17.Account != x2) then
   some true
  else
   (idx r8 r7).bind fun _ =>
   (idx r8 r7).bind fun x19 =>
   some (decide (x17.At≤x19.Until)):Option (Bool)).bind fun v20 =>
  if (v20||(decide (x17.At>x3))) then
   some v12
  else
   if (x17.Kind==14) then
    (Z93 N v12 x17.Value).bind fun (r21,r22) =>
    (Z92 N r21 r22 v12).bind fun r23 =>
    some r23
   else
    if (x17.Kind==15) then
     none
    else
     some v12:Option ((Q0))).bind fun v24 =>
  some (.inl ((IntKind.wrap .i64 (v11+1)),v24))
 else
  some (.inr v12)
def Z68 (N:Nat) (x0:(List Jg)) (x1:Ja) (x2:Int) (x3:Int):Option (Ja) :=
 (Z89 N x1).bind fun (r1,r2,r3) =>
 (if ((decide (x3<0))||(decide (x3≥12622780800))) then
  some true
 else
  (Z90 N x0 x2 x3).bind fun r5 =>
  some (!r5):Option (Bool)).bind fun v6 =>
 if v6 then
  none
 else
  (Z91 N r2 x2).bind fun (r7,r8) =>
  (idx r8 r7).bind fun _ =>
  (idx r8 r7).bind fun x9 =>
  (Qw (Jcr N x0 x2 r8 r7 x3) N (0,x9)).bind fun v25 =>
  (idx r8 r7).bind fun _ =>
  (idx r8 r7).bind fun y26 =>
  some (r1,(List.set r8 (Int.toNat r7) (v25.Account,v25.Balance,v25.Floor,v25.Held,(if x3>v25.Until then x3 else v25.Until))),r3)
def Z95 (N:Nat) (x0:Qj):Option (Qj) :=
 (app 16 ([]:(List Str)) x0.Zones).bind fun q1 =>
 some (x0.Account,x0.Sub,x0.Product,x0.Index,x0.Kind,q1,x0.Valid,x0.Units,x0.Left,x0.Priority,x0.Shared)
def Qt4 (N:Nat) (x0:Qj):Option (Int×Int×Str×Int×Int×Qg×Int×Int×Int×Bool×(List Str)) :=
 (app 16 ([]:(List Str)) x0.Zones).bind fun q1 =>
 some (x0.Account,x0.Sub,x0.Product,x0.Index,x0.Kind,x0.Valid,x0.Units,x0.Left,x0.Priority,x0.Shared,q1)
def Z96 (N:Nat) (x0:Qj):Option (Jf) :=
 some (x0.Sub,x0.Product,x0.Index,x0.Valid.From)
def Jcs (N:Nat) (x0:(List Jg)) (x1:Int):(Unit)→Option ((Unit)⊕((Int))):=fun _ =>
 if (decide (0<(List.length x0:Int))) then
  (idx x0 0).bind fun x2 =>
  if ((x2.Kind==1)&&(x2.Account==x1)) then
   some (.inr x2.Value)
  else
   none
 else
  none
def Z97 (N:Nat) (x0:(List Jg)) (x1:Int):Option (Int) :=
 (Qw (Jcs N x0 x1) N ()).bind fun v3 =>
 some v3
def Qza (N:Nat) (x0:Ji) (m5000:Str):(Unit)→Option ((Unit)⊕((Bool))):=fun _ =>
 if (decide (0<(List.length x0.Products:Int))) then
  (idx x0.Products 0).bind fun x1 =>
  if (x1==m5000) then
   some (.inr true)
  else
   none
 else
  none
def Jkp (N:Nat) (x0:Ji) (m5000:Str):Option (Bool) :=
 (Qw (Qza N x0 m5000) N ()).bind fun v2 =>
 some v2
def Qzb (N:Nat) (x0:(List Qg)):(Int×(List Qg))→Option ((Int×(List Qg))⊕(((List Qg)))):=fun (v2,v3) =>
 if (decide (v2<(List.length x0:Int))) then
  (idx x0 v2).bind fun x4 =>
  if (decide ((List.length v3:Int)>0)) then
   none
  else
   (app 16 v3 ([x4]:(List Qg))).bind fun q5 =>
   some (.inl ((IntKind.wrap .i64 (v2+1)),q5))
 else
  some (.inr v3)
def Jkq (N:Nat) (x0:(List Qg)):Option ((List Qg)) :=
 (Qw (Qzb N x0) N (0,([]:(List Qg)))).bind fun v6 =>
 some v6
def Qzc (N:Nat) (r1:(List Ji)) (m5000:Str):(Int×(List Qg))→Option ((Int×(List Qg))⊕(((List Qg)))):=fun (v3,v4) =>
 if (decide (v3<(List.length r1:Int))) then
  (idx r1 v3).bind fun _ =>
  (idx r1 v3).bind fun x5 =>
  (Jkp N x5 m5000).bind fun r6 =>
  if r6 then
   (app 16 v4 ([x5.Period]:(List Qg))).bind fun q7 =>
   some (.inl ((IntKind.wrap .i64 (v3+1)),q7))
  else
   none
 else
  some (.inr v4)
def Jkr (N:Nat) (x0:(List Jg)) (x1:Int) (m5000:Str):Option ((List Qg)) :=
 (Z82 N x0 x1).bind fun r1 =>
 (Qw (Qzc N r1 m5000) N (0,([]:(List Qg)))).bind fun v8 =>
 (Jkq N v8).bind fun r9 =>
 some r9
def Jks (N:Nat) (x0:(List Jg)) (x1:Int) (x2:Str):Option ((List Qg)) :=
 (Jkr N x0 x1 x2).bind fun r1 =>
 some r1
def Jct (N:Nat) (v17:(List Jj)):(Unit)→Option ((Unit)⊕((Unit))):=fun _ =>
 (if (decide (0<(List.length v17:Int))) then
  none
 else
  some false:Option ((Bool))).bind fun v31 =>
 if v31 then
  none
 else
  some (.inr ())
def Jcu (N:Nat) (x0:(List Jg)) (x1:Int):(Int×(List (Int×Bool))×(List (Str×Unit))×(List Jj))→Option ((Int×(List (Int×Bool))×(List (Str×Unit))×(List Jj))⊕(((List Jj)))):=fun (v9,v10,v15,v17) =>
 if (decide (v9<(List.length x0:Int))) then
  ((idx x0 v9).bind fun x21 =>
  (if ((x21.Kind==3)&&(x21.Account==x1)) then
   some (Vp (k:=(.int .i64)) x21.Sub true v10)
  else
   some v10:Option (((List (Int×Bool))))).bind fun v27 =>
  (if ((x21.Kind != 8)||(!((Q4 (k:=(.int .i64)) x21.Sub v27).getD false))) then
   some true
  else
   (chk (isNone (Q4 (k:=.str) x21.Name v15))).bind fun _ =>
   some false:Option (Bool)).bind fun v29 =>
  if v29 then
   some (v27,v15,v17)
  else
   (chk (isNone (Q4 (k:=.str) x21.Name v15))).bind fun _ =>
   (chk (eqK .str x21.Name x21.Name)).bind fun _ =>
   (Jks N x0 x21.Sub x21.Name).bind fun r30 =>
   (Qw (Jct N v17) N ()).bind fun _ =>
   (slc v17 0 0).bind fun s32 =>
   (app 56 ([]:(List Jj)) s32).bind fun q33 =>
   (app 56 q33 ([(x1,x21.Sub,x21.Name,r30)]:(List Jj))).bind fun q34 =>
   (slc v17 0 (List.length v17:Int)).bind fun s35 =>
   (app 56 q34 s35).bind fun q36 =>
   some (v27,(Vp (k:=.str) x21.Name () v15),q36):Option (((List (Int×Bool))×(List (Str×Unit))×(List Jj)))).bind fun (v37,v38,v39) =>
  some (.inl ((IntKind.wrap .i64 (v9+1)),v37,v38,v39))
 else
  some (.inr v17)
def Z98 (N:Nat) (x0:(List Jg)) (x1:Int):Option ((List Jj)) :=
 (Qw (Jcu N x0 x1) N (0,([]:List (Int×Bool)),([]:List (Str×Unit)),([]:(List Jj)))).bind fun v40 =>
 some v40
def Jcv (N:Nat) (x0:Qg) (x1:Qg):Option (Qg×Bool) :=
 (Qqo N x0).bind fun r1 =>
 (if (!r1) then
  some true
 else
  (Qqo N x1).bind fun r3 =>
  some (!r3):Option (Bool)).bind fun v4 =>
 if (v4||(decide ((if x1.From>x0.From then x1.From else x0.From)≥(if x1.To<x0.To then x1.To else x0.To)))) then
  none
 else
  some (((if x1.From>x0.From then x1.From else x0.From),(if x1.To<x0.To then x1.To else x0.To)),true)
def Qzd (N:Nat) (x0:Int):Option (Int) :=
 (if (decide ((IntKind.wrap .i64 (x0 - 2000))>0)) then
  some (IntKind.wrap .i64 ((IntKind.wrap .i64 (365*(IntKind.wrap .i64 (x0 - 2000))))+(IntKind.wrap .i64 ((IntKind.wrap .i64 ((IntKind.wrap .i64 ((IntKind.wrap .i64 (Int.tdiv (IntKind.wrap .i64 ((IntKind.wrap .i64 (x0 - 2000)) - 1)) 4)) - (IntKind.wrap .i64 (Int.tdiv (IntKind.wrap .i64 ((IntKind.wrap .i64 (x0 - 2000)) - 1)) 100))))+(IntKind.wrap .i64 (Int.tdiv (IntKind.wrap .i64 ((IntKind.wrap .i64 (x0 - 2000)) - 1)) 400))))+1))))
 else
  some (IntKind.wrap .i64 (365*(IntKind.wrap .i64 (x0 - 2000)))):Option ((Int))).bind fun v1 =>
 some v1
def Jkt (N:Nat) (x0:Int):Option (Bool) :=
 some ((((Int.tmod x0 4)==0)&&((Int.tmod x0 100) != 0))||((Int.tmod x0 400)==0))
def Qze (N:Nat) (x0:Int) (x1:Int):Option (Int) :=
 (if (x1==2) then
  (Jkt N x0).bind fun r2 =>
  some r2
 else
  some false:Option (Bool)).bind fun v3 =>
 if v3 then
  some 29
 else
  (idx ([31,28,31,30,31,30,31,31,30,31,30,31]:(List Int)) (IntKind.wrap .i64 (x1 - 1))).bind fun _ =>
  (idx ([31,28,31,30,31,30,31,31,30,31,30,31]:(List Int)) (IntKind.wrap .i64 (x1 - 1))).bind fun x4 =>
  some x4
def Qzf (N:Nat) (x0:Int):(Unit)→Option ((Unit)⊕((Unit))):=fun _ =>
 (Qzd N (IntKind.wrap .i64 ((IntKind.wrap .i64 (2000+(IntKind.wrap .i64 (Int.tdiv x0 366))))+1))).bind fun r1 =>
 if (decide (r1≤x0)) then
  none
 else
  some (.inr ())
def Qzg (N:Nat) (x0:Int) (r2:Int):(Unit)→Option ((Unit)⊕((Unit))):=fun _ =>
 (Qze N (IntKind.wrap .i64 (2000+(IntKind.wrap .i64 (Int.tdiv x0 366)))) 1).bind fun r3 =>
 if (decide ((IntKind.wrap .i64 (x0 - r2))≥r3)) then
  none
 else
  some (.inr ())
def Jku (N:Nat) (x0:Int):Option (Ht) :=
 if ((decide (x0<0))||(decide (x0≥146097))) then
  none
 else
  (Qw (Qzf N x0) N ()).bind fun _ =>
  (Qzd N (IntKind.wrap .i64 (2000+(IntKind.wrap .i64 (Int.tdiv x0 366))))).bind fun r2 =>
  (Qw (Qzg N x0 r2) N ()).bind fun _ =>
  some ((IntKind.wrap .i64 (2000+(IntKind.wrap .i64 (Int.tdiv x0 366)))),1,(IntKind.wrap .i64 ((IntKind.wrap .i64 (x0 - r2))+1)))
def Qqp (N:Nat) (x0:Int) (x1:Int):Option (Int) :=
 (Jku N (IntKind.wrap .i64 (Int.tdiv x1 86400))).bind fun r1 =>
 if (decide (r1.Day<x0)) then
  none
 else
  some (IntKind.wrap .i64 ((IntKind.wrap .i64 ((IntKind.wrap .i64 (12*(IntKind.wrap .i64 (r1.Year - 2000))))+r1.Month)) - 1))
def Jkv (N:Nat) (x0:Int) (x1:Int):Option (Int) :=
 if ((((decide (x0<2000))||(decide (x0>2399)))||(decide (x1<1)))||(decide (x1>12))) then
  none
 else
  (Qze N x0 x1).bind fun r1 =>
  some r1
def Qzh (N:Nat) (x0:Ht):(Int×Int)→Option ((Int×Int)⊕((Int))):=fun (v4,v5) =>
 if (decide (v5<x0.Month)) then
  (Qze N x0.Year v5).bind fun r6 =>
  some (.inl ((IntKind.wrap .i64 (v4+r6)),(IntKind.wrap .i64 (v5+1))))
 else
  some (.inr v4)
def Jkw (N:Nat) (x0:Ht):Option (Int×Int) :=
 (if (decide (x0.Day<1)) then
  some true
 else
  (Jkv N x0.Year x0.Month).bind fun r1 =>
  some (decide (x0.Day>r1)):Option ((Bool))).bind fun v2 =>
 if v2 then
  none
 else
  (Qzd N x0.Year).bind fun r3 =>
  (Qw (Qzh N x0) N ((IntKind.wrap .i64 ((IntKind.wrap .i64 (r3+x0.Day)) - 1)),1)).bind fun v7 =>
  some (v7,0)
def Jcw (N:Nat) (x0:Int) (x1:Int):Option (Int) :=
 (Jkw N ((IntKind.wrap .i64 (2000+(IntKind.wrap .i64 (Int.tdiv x1 12)))),(IntKind.wrap .i64 ((Int.tmod x1 12)+1)),x0)).bind fun (r1,r2) =>
 if (r2 != 0) then
  none
 else
  some (IntKind.wrap .i64 (r1*86400))
def Qzi (N:Nat) (x0:Int) (x1:Int):Option (Qg) :=
 (Jcw N x0 (IntKind.wrap .i64 (x1+1))).bind fun r1 =>
 if (decide (x1≥0)) then
  (Jcw N x0 x1).bind fun r2 =>
  some (r2,r1)
 else
  none
def Qzj (N:Nat) (x0:Int) (x1:Qg):(Int×(List Qg))→Option ((Int×(List Qg))⊕(((List Qg)))):=fun (v3,v4) =>
 (Qqp N x0 (IntKind.wrap .i64 (x1.To - 1))).bind fun r5 =>
 if (decide (v3≤r5)) then
  (Qzi N x0 v3).bind fun r6 =>
  (app 16 v4 ([r6]:(List Qg))).bind fun q7 =>
  some (.inl ((IntKind.wrap .i64 (v3+1)),q7))
 else
  some (.inr v4)
def Jkx (N:Nat) (x0:Int) (x1:Qg):Option ((List Qg)) :=
 if (((((decide (x0<1))||(decide (x0>28)))||(decide (x1.From<0)))||(decide (x1.From≥x1.To)))||(decide (x1.To>12622780800))) then
  none
 else
  (Qqp N x0 x1.From).bind fun r1 =>
  (Qw (Qzj N x0 x1) N (r1,([]:(List Qg)))).bind fun v8 =>
  some v8
def Qka (N:Nat) (x0:Int) (x1:Qg):(Int×(List Qg))→Option ((Int×(List Qg))⊕(((List Qg)))):=fun (v3,v4) =>
 (Qqp N x0 (IntKind.wrap .i64 (x1.To - 1))).bind fun r5 =>
 if (decide (v3≤r5)) then
  (Qzi N x0 v3).bind fun r6 =>
  (app 16 v4 ([r6]:(List Qg))).bind fun q7 =>
  some (.inl ((IntKind.wrap .i64 (v3+1)),q7))
 else
  some (.inr v4)
def Qmu (N:Nat) (x0:Int) (x1:Qg):Option ((List Qg)) :=
 if (((((decide (x0<1))||(decide (x0>28)))||(decide (x1.From<0)))||(decide (x1.From≥x1.To)))||(decide (x1.To>12622780800))) then
  none
 else
  (Qqp N x0 x1.From).bind fun r1 =>
  (Qw (Qka N x0 x1) N (r1,([]:(List Qg)))).bind fun v8 =>
  some v8
def Qmv (N:Nat) (x0:Qg) (m5000:Int) (m5002:(List Qg)) (m5003:Int):Option ((List Qg)) :=
 (Jcv N x0 (0,(IntKind.wrap .i64 (m5000+1)))).bind fun (r1,r2) =>
 if r2 then
  (Jkx N m5003 r1).bind fun r3 =>
  (app 16 m5002 r3).bind fun q4 =>
  some q4
 else
  none
def Qzk (N:Nat) (x0:(List Qg)) (x1:Int):(Int×(List Q8))→Option ((Int×(List Q8))⊕(((List Q8)))):=fun (v4,v5) =>
 if (decide (v4<(List.length x0:Int))) then
  (idx x0 v4).bind fun x6 =>
  (Qqo N x6).bind fun r7 =>
  if r7 then
   (app 24 v5 ([(x6.From,x1,1),(x6.To,x1,(-1))]:(List Q8))).bind fun q8 =>
   some (.inl ((IntKind.wrap .i64 (v4+1)),q8))
  else
   none
 else
  some (.inr v5)
def Jky (N:Nat) (x0:(List Qg)) (x1:Int) (m5001:(List Q8)):Option ((List Q8)) :=
 (Qw (Qzk N x0 x1) N (0,m5001)).bind fun v9 =>
 some v9
def Qkb (N:Nat) (x0:(List Qg)) (x1:Int):(Int×(List Q8))→Option ((Int×(List Q8))⊕(((List Q8)))):=fun (v4,v5) =>
 if (decide (v4<(List.length x0:Int))) then
  (idx x0 v4).bind fun x6 =>
  (Qqo N x6).bind fun r7 =>
  if r7 then
   (app 24 v5 ([(x6.From,x1,1),(x6.To,x1,(-1))]:(List Q8))).bind fun q8 =>
   some (.inl ((IntKind.wrap .i64 (v4+1)),q8))
  else
   none
 else
  some (.inr v5)
def Qmw (N:Nat) (x0:(List Qg)) (x1:Int) (m5001:(List Q8)):Option ((List Q8)) :=
 (Qw (Qkb N x0 x1) N (0,m5001)).bind fun v9 =>
 some v9
def Jkz (N:Nat) (x0:Int):Option (Int) :=
 if (decide (x0≥4294967296)) then
  none
 else
  if (decide (x0≥65536)) then
   none
  else
   if (decide (x0≥256)) then
    none
   else
    (Qo0 ([0,1,2,2,3,3,3,3,4,4,4,4,4,4,4,4,5,5,5,5,5,5,5,5,5,5,5,5,5,5,5,5,6,6,6,6,6,6,6,6,6,6,6,6,6,6,6,6,6,6,6,6,6,6,6,6,6,6,6,6,6,6,6,6,7,7,7,7,7,7,7,7,7,7,7,7,7,7,7,7,7,7,7,7,7,7,7,7,7,7,7,7,7,7,7,7,7,7,7,7,7,7,7,7,7,7,7,7,7,7,7,7,7,7,7,7,7,7,7,7,7,7,7,7,7,7,7,7,8,8,8,8,8,8,8,8,8,8,8,8,8,8,8,8,8,8,8,8,8,8,8,8,8,8,8,8,8,8,8,8,8,8,8,8,8,8,8,8,8,8,8,8,8,8,8,8,8,8,8,8,8,8,8,8,8,8,8,8,8,8,8,8,8,8,8,8,8,8,8,8,8,8,8,8,8,8,8,8,8,8,8,8,8,8,8,8,8,8,8,8,8,8,8,8,8,8,8,8,8,8,8,8,8,8,8,8,8,8,8,8,8,8,8,8,8,8,8,8,8,8,8,8,8,8,8,8]:Str) (IntKind.wrap .u8 x0)).bind fun c1 =>
    some (IntKind.wrap .i64 (0+(IntKind.wrap .i64 c1)))
def Jk0 (N:Nat) (x0:Int):Option (Int) :=
 (Jkz N x0).bind fun r1 =>
 some r1
def Jk1 (N:Nat) (x0:Q8) (x1:Q8):Option (Int) :=
 some (IntKind.wrap .i64 (x0.at_ - x1.at_))
def Qzl (N:Nat) (v1:Int) (x1:Int) (x0:(List Q8)):(Unit)→Option ((Unit)⊕((Unit))):=fun _ =>
 if (decide (v1>x1)) then
  (idx x0 v1).bind fun x3 =>
  (idx x0 (IntKind.wrap .i64 (v1 - 1))).bind fun x4 =>
  (Jk1 N x3 x4).bind fun r5 =>
  if (decide (r5<0)) then
   none
  else
   some (.inr ())
 else
  some (.inr ())
def Qzm (N:Nat) (x2:Int) (x1:Int) (x0:(List Q8)):(Int)→Option ((Int)⊕((Unit))):=fun v1 =>
 if (decide (v1<x2)) then
  (Qw (Qzl N v1 x1 x0) N ()).bind fun _ =>
  some (.inl (IntKind.wrap .i64 (v1+1)))
 else
  some (.inr ())
def Jk2 (N:Nat) (x0:(List Q8)) (x1:Int) (x2:Int):Option (Unit) :=
 (Qw (Qzm N x2 x1 x0) N (IntKind.wrap .i64 (x1+1))).bind fun _ =>
 some ()
def Qzn (N:Nat) (x2:Int) (x1:Int) (x0:(List Q8)):(Unit)→Option ((Unit)⊕((Unit))):=fun _ =>
 if (decide ((IntKind.wrap .i64 (x2 - x1))≤12)) then
  (Jk2 N x0 x1 x2).bind fun _ =>
  some (.inr ())
 else
  none
def Jk3 (N:Nat) (x0:(List Q8)) (x1:Int) (x2:Int) (x3:Int):Option (Unit) :=
 (Qw (Qzn N x2 x1 x0) N ()).bind fun _ =>
 some ()
def Jk4 (N:Nat) (x0:(List Q8)):Option (Unit) :=
 (Jk0 N (IntKind.wrap .u64 (List.length x0:Int))).bind fun r1 =>
 (Jk3 N x0 0 (List.length x0:Int) r1).bind fun _ =>
 some ()
def Jk5 (N:Nat) (x0:Bool) (x1:Bool):Option (Bool) :=
 some x0
def Qzo (N:Nat) (r2:(List Q8)):(Bool×Int×(List Qg)×(List Int))→Option ((Bool×Int×(List Qg)×(List Int))⊕(((List Qg)))):=fun (v8,v9,v10,v11) =>
 if (decide (v9<(List.length r2:Int))) then
  (idx r2 v9).bind fun x13 =>
  (idx v11 x13.list).bind fun _ =>
  (idx v11 x13.list).bind fun x16 =>
  (idx v11 x13.list).bind fun _ =>
  (idx v11 x13.list).bind fun x17 =>
  (if (decide ((IntKind.wrap .i64 (v9+1))<(List.length r2:Int))) then
   (idx r2 (IntKind.wrap .i64 (v9+1))).bind fun x20 =>
   some (x20.at_==x13.at_)
  else
   some false:Option (Bool)).bind fun v21 =>
  if v21 then
   none
  else
   (idx (List.set v11 (Int.toNat x13.list) (IntKind.wrap .i64 (x16+x13.by_))) 0).bind fun _ =>
   (idx (List.set v11 (Int.toNat x13.list) (IntKind.wrap .i64 (x16+x13.by_))) 0).bind fun x22 =>
   (idx (List.set v11 (Int.toNat x13.list) (IntKind.wrap .i64 (x16+x13.by_))) 1).bind fun _ =>
   (idx (List.set v11 (Int.toNat x13.list) (IntKind.wrap .i64 (x16+x13.by_))) 1).bind fun x23 =>
   (Jk5 N (decide (x22>0)) (decide (x23>0))).bind fun r24 =>
   (if (r24&&(!v8)) then
    (app 16 v10 ([(x13.at_,0)]:(List Qg))).bind fun q26 =>
    some q26
   else
    if ((!r24)&&v8) then
     (idx v10 (IntKind.wrap .i64 ((List.length v10:Int) - 1))).bind fun _ =>
     (idx v10 (IntKind.wrap .i64 ((List.length v10:Int) - 1))).bind fun y27 =>
     some (List.set v10 (Int.toNat (IntKind.wrap .i64 ((List.length v10:Int) - 1))) (y27.From,x13.at_))
    else
     none:Option (((List Qg)))).bind fun v28 =>
   some (.inl (r24,(IntKind.wrap .i64 (v9+1)),v28,(List.set v11 (Int.toNat x13.list) (IntKind.wrap .i64 (x16+x13.by_)))))
 else
  some (.inr v10)
def Jk6 (N:Nat) (x0:(List Qg)) (x1:(List Qg)):Option ((List Qg)) :=
 (Jky N x0 0 ([]:(List Q8))).bind fun r1 =>
 (Qmw N x1 1 r1).bind fun r2 =>
 (Jk4 N r2).bind fun _ =>
 (Qw (Qzo N r2) N (false,0,([]:(List Qg)),(List.replicate 2 0))).bind fun v29 =>
 some v29
def Jk7 (N:Nat) (x0:(List Qg)):Option ((List Qg)) :=
 (Jk6 N x0 ([]:(List Qg))).bind fun r1 =>
 some r1
def Jcx (N:Nat) (x22:Jj):(Int×Int×Int×(List Qg))→Option ((Int×Int×Int×(List Qg))⊕((Int×Int×(List Qg)))):=fun (v24,v25,v26,v27) =>
 if (decide (v24<(List.length x22.active:Int))) then
  (idx x22.active v24).bind fun x28 =>
  (Qmv N x28 v26 v27 v25).bind fun r29 =>
  some (.inl ((IntKind.wrap .i64 (v24+1)),v25,v26,r29))
 else
  some (.inr (v25,v26,v27))
def Jcy (N:Nat) (x0:(List Jj)):(Int×Int×Int×(List Qg))→Option ((Int×Int×Int×(List Qg))⊕((Int×(List Qg)))):=fun (v7,v16,v17,v21) =>
 if (decide (v7<(List.length x0:Int))) then
  (idx x0 v7).bind fun x22 =>
  (Qw (Jcx N x22) N (0,v16,v17,v21)).bind fun (v30,v31,v32) =>
  some (.inl ((IntKind.wrap .i64 (v7+1)),v30,v31,v32))
 else
  some (.inr (v16,v21))
def Jcz (N:Nat) (r35:(List Qg)) (v33:Int):(Int×(List Qg))→Option ((Int×(List Qg))⊕(((List Qg)))):=fun (v37,v38) =>
 if (decide (v37<(List.length r35:Int))) then
  (idx r35 v37).bind fun _ =>
  (idx r35 v37).bind fun x39 =>
  (Qmu N v33 x39).bind fun r40 =>
  (app 16 v38 r40).bind fun q41 =>
  some (.inl ((IntKind.wrap .i64 (v37+1)),q41))
 else
  some (.inr v38)
def Z99 (N:Nat) (x0:(List Jj)) (x1:Int) (x2:Int):Option ((List Qg)) :=
 (Qw (Jcy N x0) N (0,x1,x2,([]:(List Qg)))).bind fun (v33,v34) =>
 (Jk7 N v34).bind fun r35 =>
 (Qw (Jcz N r35 v33) N (0,([]:(List Qg)))).bind fun v42 =>
 some v42
def Jk8 (N:Nat) (x0:Jm) (m5000:Str) (m5001:Int):Option (Bool) :=
 some ((x0.Name==m5000)&&(decide (x0.From≤m5001)))
def Qzp (N:Nat) (x0:(List Jm)) (m5000:Str) (m5001:Int):(Int×(List Jm))→Option ((Int×(List Jm))⊕(((List Jm)))):=fun (v2,v3) =>
 if (decide (v2<(List.length x0:Int))) then
  (idx x0 v2).bind fun x4 =>
  (Jk8 N x4 m5000 m5001).bind fun r5 =>
  if r5 then
   (app 80 v3 ([x4]:(List Jm))).bind fun q6 =>
   some (.inl ((IntKind.wrap .i64 (v2+1)),q6))
  else
   none
 else
  some (.inr v3)
def Jk9 (N:Nat) (x0:(List Jm)) (m5000:Str) (m5001:Int):Option ((List Jm)) :=
 (Qw (Qzp N x0 m5000 m5001) N (0,([]:(List Jm)))).bind fun v7 =>
 some v7
def Qzq (N:Nat) (x0:Jm):(Int×(List Yy))→Option ((Int×(List Yy))⊕(((List Yy)))):=fun (v2,v3) =>
 if (decide (v2<(List.length x0.Bundles:Int))) then
  (idx x0.Bundles v2).bind fun x4 =>
  (app 16 ([]:(List Str)) x4.Zones).bind fun q5 =>
  (app 64 v3 ([(x4.Kind,q5,x4.Units,x4.Rollover,x4.Priority,x4.Shared)]:(List Yy))).bind fun q6 =>
  some (.inl ((IntKind.wrap .i64 (v2+1)),q6))
 else
  some (.inr v3)
def Jla (N:Nat) (x0:Jm):Option (Str×Int×Int×Str×Bool×(List Yy)) :=
 (Qw (Qzq N x0) N (0,([]:(List Yy)))).bind fun v7 =>
 some (x0.Name,x0.From,x0.Fee,x0.Category,x0.Prorate,v7)
def Jlb (N:Nat) (x0:(List Jm)) (x1:Str) (x2:Int):Option (Str×Int×Int×Str×Bool×Bool×(List Yy)) :=
 (Jk9 N x0 x1 x2).bind fun r1 =>
 if ((List.length r1:Int)==0) then
  none
 else
  (idx r1 (IntKind.wrap .i64 ((List.length r1:Int) - 1))).bind fun _ =>
  (idx r1 (IntKind.wrap .i64 ((List.length r1:Int) - 1))).bind fun x3 =>
  (Jla N x3).bind fun (r4,r5,r6,r7,r8,r9) =>
  some (r4,r5,r6,r7,r8,true,r9)
def Qzr (N:Nat) (r12:(List Yy)) (x0:Jj) (r4:Qg):(Int×(List Y9))→Option ((Int×(List Y9))⊕(((List Y9)))):=fun (v14,v15) =>
 if (decide (v14<(List.length r12:Int))) then
  (idx r12 v14).bind fun _ =>
  (idx r12 v14).bind fun x16 =>
  (app 128 v15 ([((x0.account,x0.sub,x0.product,v14,x16.Kind,x16.Zones,r4,x16.Units,x16.Units,x16.Priority,x16.Shared),x16.Rollover)]:(List Y9))).bind fun q17 =>
  some (.inl ((IntKind.wrap .i64 (v14+1)),q17))
 else
  some (.inr v15)
def Qzs (N:Nat) (x0:Jj) (x2:Qg) (x1:(List Jm)):(Unit)→Option ((Unit)⊕(((List Y9)))):=fun _ =>
 if (decide (0<(List.length x0.active:Int))) then
  (idx x0.active 0).bind fun x3 =>
  (Jcv N x3 x2).bind fun (r4,r5) =>
  if (!r5) then
   none
  else
   (Jlb N x1 x0.product r4.From).bind fun (r6,r7,r8,r9,r10,r11,r12) =>
   (Qw (Qzr N r12 x0 r4) N (0,([]:(List Y9)))).bind fun v18 =>
   some (.inr v18)
 else
  none
def Jlc (N:Nat) (x0:Jj) (x1:(List Jm)) (x2:Qg):Option ((List Y9)) :=
 (Qw (Qzs N x0 x2 x1) N ()).bind fun v19 =>
 some v19
def Qkc (N:Nat) (m5000_0:(List Qj)):(Unit)→Option ((Unit)⊕((Unit))):=fun _ =>
 if (decide (0<(List.length m5000_0:Int))) then
  none
 else
  some (.inr ())
def Qkd (N:Nat) (m5000_0:(List Qj)):(Unit)→Option ((Unit)⊕((Unit))):=fun _ =>
 (if (decide (0<(List.length m5000_0:Int))) then
  none
 else
  some false:Option ((Bool))).bind fun v13 =>
 if v13 then
  none
 else
  some (.inr ())
def Qmx (N:Nat) (x1:Y9) (m5000_0:(List Qj)) (m5001:(List (Jf×Bool))):Option ((List Qj)×(List (Jf×Bool))) :=
 (Z96 N x1.bucket).bind fun r1 =>
 if ((Q4 (k:=J4) r1 m5001).getD false) then
  some (m5000_0,m5001)
 else
  (Qt4 N x1.bucket).bind fun (r2,r3,r4,r5,r6,r7,r8,r9,r10,r11,r12) =>
  (Qw (Qkc N m5000_0) N ()).bind fun _ =>
  (Qw (Qkd N m5000_0) N ()).bind fun _ =>
  (slc m5000_0 0 0).bind fun s14 =>
  (app 120 ([]:(List Qj)) s14).bind fun q15 =>
  (app 120 q15 ([(r2,r3,r4,r5,r6,r12,r7,r8,r9,r10,r11)]:(List Qj))).bind fun q16 =>
  (slc m5000_0 0 (List.length m5000_0:Int)).bind fun s17 =>
  (app 120 q16 s17).bind fun q18 =>
  (Z96 N (r2,r3,r4,r5,r6,r12,r7,r8,r9,r10,r11)).bind fun r19 =>
  some (q18,(Vp (k:=J4) r19 true m5001))
def Jc0 (N:Nat) (x2:Ja):(Int×(List Qj)×(List (Jf×Bool)))→Option ((Int×(List Qj)×(List (Jf×Bool)))⊕(((List Qj)×(List (Jf×Bool))))):=fun (v7,v8,v9) =>
 if (decide (v7<(List.length x2.Buckets:Int))) then
  (idx x2.Buckets v7).bind fun x10 =>
  (Z95 N x10).bind fun r25 =>
  (app 120 v8 ([r25]:(List Qj))).bind fun q26 =>
  (Z96 N x10).bind fun r27 =>
  some (.inl ((IntKind.wrap .i64 (v7+1)),q26,(Vp (k:=J4) r27 true v9)))
 else
  some (.inr (v8,v9))
def Jc1 (N:Nat) (r87:(List Y9)) (x4:Int):(Int×(List Qj)×(List (Jf×Bool)))→Option ((Int×(List Qj)×(List (Jf×Bool)))⊕(((List Qj)×(List (Jf×Bool))))):=fun (v89,v90,v91) =>
 if (decide (v89<(List.length r87:Int))) then
  (idx r87 v89).bind fun _ =>
  (idx r87 v89).bind fun x92 =>
  if (decide (x92.bucket.Valid.From≤x4)) then
   (Qmx N x92 v90 v91).bind fun (r93,r94) =>
   some (.inl ((IntKind.wrap .i64 (v89+1)),r93,r94))
  else
   none
 else
  some (.inr (v90,v91))
def Jc2 (N:Nat) (r33:(List Jj)) (x1:(List Jm)) (x69:Qg) (x4:Int):(Int×(List Qj)×(List (Jf×Bool)))→Option ((Int×(List Qj)×(List (Jf×Bool)))⊕(((List Qj)×(List (Jf×Bool))))):=fun (v76,v77,v85) =>
 if (decide (v76<(List.length r33:Int))) then
  (idx r33 v76).bind fun x86 =>
  (Jlc N x86 x1 x69).bind fun r87 =>
  (Qw (Jc1 N r87 x4) N (0,v77,v85)).bind fun (v95,v96) =>
  some (.inl ((IntKind.wrap .i64 (v76+1)),v95,v96))
 else
  some (.inr (v77,v85))
def Jc3 (N:Nat) (r34:(List Qg)) (r33:(List Jj)) (x1:(List Jm)) (x4:Int):(Int×(List Qj)×(List (Jf×Bool)))→Option ((Int×(List Qj)×(List (Jf×Bool)))⊕(((List Qj)×(List (Jf×Bool))))):=fun (v49,v67,v68) =>
 if (decide (v49<(List.length r34:Int))) then
  (idx r34 v49).bind fun _ =>
  (idx r34 v49).bind fun x69 =>
  (Qw (Jc2 N r33 x1 x69 x4) N (0,v67,v68)).bind fun (v97,v98) =>
  some (.inl ((IntKind.wrap .i64 (v49+1)),v97,v98))
 else
  some (.inr (v67,v68))
def Z69 (N:Nat) (x0:(List Jg)) (x1:(List Jm)) (x2:Ja) (x3:Int) (x4:Int):Option ((List Qj)×(List Q0)×(List Qv)) :=
 (Qw (Jc0 N x2) N (0,([]:(List Qj)),([]:List (Jf×Bool)))).bind fun (v28,v29) =>
 (app 40 ([]:(List Q0)) x2.Wallets).bind fun q30 =>
 (app 40 ([]:(List Qv)) x2.Counters).bind fun q31 =>
 (Z97 N x0 x3).bind fun r32 =>
 if (((decide (x4≥0))&&(decide (x4<12622780800)))&&(decide (r32>0))) then
  (Z98 N x0 x3).bind fun r33 =>
  (Z99 N r33 r32 x4).bind fun r34 =>
  (Qw (Jc3 N r34 r33 x1 x4) N (0,v28,v29)).bind fun (v99,v100) =>
  some (v99,q30,q31)
 else
  none
def Jld (N:Nat) (x0:Qj):Option (Int×Int×Str×Int×Int×Qg×Int×Int×Int×Bool×(List Str)) :=
 (app 16 ([]:(List Str)) x0.Zones).bind fun q1 =>
 some (x0.Account,x0.Sub,x0.Product,x0.Index,x0.Kind,x0.Valid,x0.Units,x0.Left,x0.Priority,x0.Shared,q1)
def Qzt (N:Nat) (x0:(List Qj)):(Int×(List Qj))→Option ((Int×(List Qj))⊕(((List Qj)))):=fun (v2,v3) =>
 if (decide (v2<(List.length x0:Int))) then
  (idx x0 v2).bind fun x4 =>
  (Jld N x4).bind fun (r14,r15,r16,r17,r18,r19,r20,r21,r22,r23,r24) =>
  (app 120 v3 ([(r14,r15,r16,r17,r18,r24,r19,r20,r21,r22,r23)]:(List Qj))).bind fun q25 =>
  some (.inl ((IntKind.wrap .i64 (v2+1)),q25))
 else
  some (.inr v3)
def Jle (N:Nat) (x0:(List Qj)):Option ((List Qj)) :=
 (Qw (Qzt N x0) N (0,([]:(List Qj)))).bind fun v26 =>
 some v26
def Qzu (N:Nat) (x2:Int):(Int×(List Int))→Option ((Int×(List Int))⊕(((List Int)))):=fun (v2,v3) =>
 if (decide (v2<x2)) then
  (app 8 v3 ([v2]:(List Int))).bind fun q4 =>
  some (.inl ((IntKind.wrap .i64 (v2+1)),q4))
 else
  some (.inr v3)
def Jlf (N:Nat) (x0:(List Qj)) (x1:Int) (x2:Int):Option ((List Int)) :=
 if (decide ((IntKind.wrap .i64 (x2 - x1))<2)) then
  (Qw (Qzu N x2) N (x1,([]:(List Int)))).bind fun v5 =>
  some v5
 else
  none
def Qzv (N:Nat) (x0:Qj):(Unit)→Option ((Unit)⊕((Unit))):=fun _ =>
 if (decide (0<(List.length x0.Zones:Int))) then
  none
 else
  some (.inr ())
def Jlg (N:Nat) (x0:Qj) (x1:Int) (x2:Int) (x3:Int) (x4:Str) (x5:Bool) (x6:Int):Option (Bool) :=
 (if ((decide (x0.Left≤0))||(x0.Kind != x3)) then
  some true
 else
  (Z83 N x0.Valid x6).bind fun r2 =>
  some (!r2):Option (Bool)).bind fun v3 =>
 if v3 then
  none
 else
  if ((x0.Sub != x2)&&(((!x0.Shared)||(x0.Account != x1))||(!x5))) then
   none
  else
   (Qw (Qzv N x0) N ()).bind fun _ =>
   some ((List.length x0.Zones:Int)==0)
def Jlh (N:Nat) (x0:Qj):Option (V4) :=
 some (x0.Sub,x0.Product,x0.Index,x0.Valid.From)
def Qzw (N:Nat) (r2:(List Int)) (x0:(List Qj)) (x1:Int) (x2:Int) (x3:Int) (x4:Str) (x5:Bool) (x6:Int):(Int×Int×(List Qj)×(List Jz))→Option ((Int×Int×(List Qj)×(List Jz))⊕((Int×(List Qj)×(List Jz)))):=fun (v8,v9,v10,v11) =>
 if (decide (v9<(List.length r2:Int))) then
  (idx r2 v9).bind fun _ =>
  (idx r2 v9).bind fun x14 =>
  if (v8==0) then
   none
  else
   (idx x0 x14).bind fun x17 =>
   (Jlg N x17 x1 x2 x3 x4 x5 x6).bind fun r18 =>
   if (!r18) then
    none
   else
    (idx v10 x14).bind fun _ =>
    (idx v10 x14).bind fun x19 =>
    (idx v10 x14).bind fun _ =>
    (idx v10 x14).bind fun x20 =>
    (idx v10 x14).bind fun _ =>
    (idx v10 x14).bind fun y21 =>
    (idx x0 x14).bind fun x22 =>
    (Jlh N x22).bind fun r23 =>
    (app 48 v11 ([(r23.sub,r23.product,r23.index,r23.from_,(if x19.Left<v8 then x19.Left else v8))]:(List Jz))).bind fun q24 =>
    some (.inl ((IntKind.wrap .i64 (v8 - (if x19.Left<v8 then x19.Left else v8))),(IntKind.wrap .i64 (v9+1)),(List.set v10 (Int.toNat x14) (y21.Account,y21.Sub,y21.Product,y21.Index,y21.Kind,y21.Zones,y21.Valid,y21.Units,(IntKind.wrap .i64 (x20.Left - (if x19.Left<v8 then x19.Left else v8))),y21.Priority,y21.Shared)),q24))
 else
  some (.inr (v8,v10,v11))
def Jli (N:Nat) (x0:(List Qj)) (x1:Int) (x2:Int) (x3:Int) (x4:Str) (x5:Bool) (x6:Int) (x7:Int):Option (Int×(List Qj)×(List Jz)) :=
 (Jle N x0).bind fun r1 =>
 (Jlf N x0 0 (List.length x0:Int)).bind fun r2 =>
 (Qw (Qzw N r2 x0 x1 x2 x3 x4 x5 x6) N ((if 0>x7 then 0 else x7),0,r1,([]:(List Jz)))).bind fun (v25,v26,v27) =>
 some (v25,v26,v27)
def Z70 (N:Nat) (x0:Ja) (x1:Qh) (x2:Str) (x3:Bool):Option (Ja×(List Jz)×Int) :=
 (Z89 N x0).bind fun (r1,r2,r3) =>
 (Jli N x0.Buckets x1.Account x1.Sub x1.Kind x2 x3 x1.Start x1.Units).bind fun (r4,r5,r6) =>
 some ((r5,r2,r3),r6,r4)
def Z53 (N:Nat) (m5000_0:Jv) (m5000_1:Ja) (m5000_2:Qh) (m5000_3:Ji) (m5000_4:Qu) (m5000_5:Q5) (m5000_6:Int) (m5000_7_0:Qh) (m5000_7_1:Int) (m5000_7_2:Str) (m5000_7_3:Int) (m5000_7_4:Str) (m5000_7_7:Int) (m5000_7_8:Int) (m5000_7_9:Int) (m5000_7_11:Int) (m5000_7_12:Int) (m5001:(List Jz)) (m5002:(List Q2)) (m5003:(List J8)):Option (Jv×Ja×Qh×Ji×Qu×Q5×Int×Qh×Int×Str×Int×Str×(List Jz)×Int×Int×Int×Int×Int×(List Q2)×(List J8)) :=
 (Z68 N m5000_0.Events m5000_1 m5000_2.Account m5000_2.Start).bind fun r1 =>
 (Z69 N m5000_0.Events m5000_0.Products r1 m5000_2.Account m5000_2.Start).bind fun (r2,r3,r4) =>
 (Z70 N (r2,r3,r4) m5000_2 m5000_7_4 m5000_3.Family).bind fun (r11,r12,r13) =>
 some (m5000_0,r11,m5000_2,m5000_3,m5000_4,m5000_5,(IntKind.wrap .i64 (m5000_2.Units - r13)),m5000_7_0,m5000_7_1,m5000_7_2,m5000_7_3,m5000_7_4,r12,m5000_7_7,m5000_7_8,m5000_7_9,m5000_7_11,m5000_7_12,m5002,m5003)
def Jlj (N:Nat) (x0:Qh) (x1:Int):Option (Bool) :=
 if (((((decide (x1<0))||(decide (x0.Units>1099511627776)))||(decide (x0.Units≤x1)))||(decide (x0.Start<0)))||(decide (x0.Start≥12622780800))) then
  some false
 else
  some ((x0.Kind != 1)||((decide (x0.Units≤604800))&&(decide ((IntKind.wrap .i64 (x0.Start+x0.Units))≤12622780800))))
def Qzx (N:Nat) (x0:Str):(Int)→Option ((Int)⊕((Unit))):=fun v1 =>
 if (decide (v1<(List.length x0:Int))) then
  (Qo0 x0 v1).bind fun c2 =>
  if (((decide (c2<97))||(decide (c2>122)))&&((v1==0)||((c2 != 45)&&((decide (c2<48))||(decide (c2>57)))))) then
   none
  else
   some (.inl (IntKind.wrap .i64 (v1+1)))
 else
  some (.inr ())
def Jlk (N:Nat) (x0:Str):Option (Bool) :=
 (Qw (Qzx N x0) N 0).bind fun _ =>
 some ((decide ((List.length x0:Int)≥1))&&(decide ((List.length x0:Int)≤24)))
def Qzy (N:Nat) (x0:(List Yj)):(Unit)→Option ((Unit)⊕((Unit))):=fun _ =>
 if (decide (0<(List.length x0:Int))) then
  none
 else
  some (.inr ())
def Jll (N:Nat) (x0:(List Yj)) (m5000:Yj):Option (Int) :=
 (Qw (Qzy N x0) N ()).bind fun _ =>
 some (-1)
def Jlm (N:Nat) (x0:(List Yj)) (m5000:Yj):Option (Bool) :=
 (Jll N x0 m5000).bind fun r1 =>
 some (decide (r1≥0))
def Qzz (N:Nat) (x0:(List Yj)):(Int)→Option ((Int)⊕((Unit))):=fun v1 =>
 if (decide (v1<(List.length x0:Int))) then
  (idx x0 v1).bind fun x2 =>
  (Jlk N x2.Name).bind fun r3 =>
  if (!r3) then
   none
  else
   (slc x0 0 v1).bind fun s4 =>
   (Jlm N s4 x2).bind fun r5 =>
   if r5 then
    none
   else
    if (v1==(IntKind.wrap .i64 ((List.length x0:Int) - 1))) then
     if (decide ((List.length x2.Slots:Int)>0)) then
      none
     else
      some (.inl (IntKind.wrap .i64 (v1+1)))
    else
     none
 else
  some (.inr ())
def Jc4 (N:Nat) (x0:(List Yj)):Option (Int) :=
 if ((List.length x0:Int)==0) then
  none
 else
  if (decide ((List.length x0:Int)>64)) then
   none
  else
   (Qw (Qzz N x0) N 0).bind fun _ =>
   some 0
def Qz0 (N:Nat) (x0:(List Int)):(Unit)→Option ((Unit)⊕((Unit))):=fun _ =>
 if (decide (0<(List.length x0:Int))) then
  none
 else
  some (.inr ())
def Jln (N:Nat) (x0:(List Int)) (x1:Int):Option (Int) :=
 (Qw (Qz0 N x0) N ()).bind fun _ =>
 some (-1)
def Jlo (N:Nat) (x0:(List Int)) (x1:Int):Option (Bool) :=
 (Jln N x0 x1).bind fun r1 =>
 some (decide (r1≥0))
def Jc5 (N:Nat) (x0:Int):Option (Int) :=
 if ((decide (x0<0))||(decide (x0≥146097))) then
  none
 else
  some (Int.tmod (IntKind.wrap .i64 (x0+5)) 7)
def Jlp (N:Nat) (x0:(List Int)) (x1:Int):Option (Int) :=
 (Jlo N x0 x1).bind fun r1 =>
 if r1 then
  none
 else
  (Jc5 N x1).bind fun r2 =>
  (Qxp .i64 1 r2).bind fun n3 =>
  some n3
def Qz1 (N:Nat) (x0:(List Kl)):(Unit)→Option ((Unit)⊕((Unit))):=fun _ =>
 if (decide (0<(List.length x0:Int))) then
  none
 else
  some (.inr ())
def Jlq (N:Nat) (x0:(List Kl)) (m5000:Int) (m5001:Int):Option (Int) :=
 (Qw (Qz1 N x0) N ()).bind fun _ =>
 some (-1)
def Jlr (N:Nat) (x0:(List Kl)) (m5000:Int) (m5001:Int):Option (Bool) :=
 (Jlq N x0 m5000 m5001).bind fun r1 =>
 some (decide (r1≥0))
def Qz2 (N:Nat) (x0:(List Yj)) (x1:Int) (x2:Int):(Int)→Option ((Int)⊕((Unit))):=fun v1 =>
 if (decide (v1<(List.length x0:Int))) then
  (idx x0 v1).bind fun x3 =>
  (Jlr N x3.Slots x1 x2).bind fun r4 =>
  if r4 then
   none
  else
   some (.inl (IntKind.wrap .i64 (v1+1)))
 else
  some (.inr ())
def Jls (N:Nat) (x0:(List Yj)) (x1:Int) (x2:Int):Option (Str) :=
 (Qw (Qz2 N x0 x1 x2) N 0).bind fun _ =>
 (idx x0 (IntKind.wrap .i64 ((List.length x0:Int) - 1))).bind fun x5 =>
 some x5.Name
def Z74 (N:Nat) (x0:(List Yj)) (x1:(List Int)) (x2:Int):Option (Str) :=
 (Jc4 N x0).bind fun r1 =>
 if (((r1 != 0)||(decide (x2<0)))||(decide (x2≥12622780800))) then
  none
 else
  (Jlp N x1 (IntKind.wrap .i64 (Int.tdiv x2 86400))).bind fun r2 =>
  (Jls N x0 r2 (IntKind.wrap .i64 (Int.tdiv (Int.tmod x2 86400) 60))).bind fun r3 =>
  some r3
def Jlt (N:Nat) (x0:Y0) (m5000:Int) (m5001:Str) (m5002:Str):Option (Bool) :=
 some (((x0.Kind==m5000)&&((x0.Zone==m5001)||(x0.Zone==([]:Str))))&&((x0.Band==m5002)||(x0.Band==([]:Str))))
def Qz3 (N:Nat) (x0:Q5) (x1:Int) (x2:Str) (x3:Str):(Int×Str×Str×Int)→Option ((Int×Str×Str×Int)⊕((Bool×Int×Str×Str×Int×(List Ub)))):=fun (v1,v2,v3,v4) =>
 if (decide (0<(List.length x0.Rates:Int))) then
  (idx x0.Rates 0).bind fun x5 =>
  (Jlt N x5 x1 x2 x3).bind fun r6 =>
  if r6 then
   (app 24 ([]:(List Ub)) x5.Steps).bind fun q7 =>
   some (.inr (true,x5.Kind,x5.Zone,x5.Band,x5.Setup,q7))
  else
   none
 else
  none
def Jlu (N:Nat) (x0:Q5) (x1:Int) (x2:Str) (x3:Str):Option (Y0×Bool) :=
 (Qw (Qz3 N x0 x1 x2 x3) N (0,([]:Str),([]:Str),0)).bind fun (v8,v9,v10,v11,v12,v13) =>
 some ((v9,v10,v11,v12,v13),v8)
def Qz4 (N:Nat) (x1:(List Int)) (x0:Int):(Int)→Option ((Int)⊕((Unit))):=fun v1 =>
 if (decide (v1<(List.length x1:Int))) then
  (idx x1 v1).bind fun x2 =>
  if ((decide (x2<0))||(decide (x2>x0))) then
   none
  else
   some (.inl (IntKind.wrap .i64 (v1+1)))
 else
  some (.inr ())
def Jc6 (N:Nat) (x0:Int) (x1:(List Int)):Option (Bool) :=
 (Qw (Qz4 N x1 x0) N 0).bind fun _ =>
 some true
def Qz5 (N:Nat) (x0:(List Ub)):(Int×Int)→Option ((Int×Int)⊕((Unit))):=fun (v1,v2) =>
 if (decide (v2<(List.length x0:Int))) then
  (idx x0 v2).bind fun x3 =>
  (Jc6 N 1099511627776 ([x3.Upto,x3.Quantum]:(List Int))).bind fun r4 =>
  (if ((!r4)||(x3.Quantum==0)) then
   some true
  else
   (Jc6 N 1125899906842624 ([x3.Price]:(List Int))).bind fun r6 =>
   some (!r6):Option (Bool)).bind fun v7 =>
  if v7 then
   none
  else
   if ((x3.Upto==0) != (v2==(IntKind.wrap .i64 ((List.length x0:Int) - 1)))) then
    none
   else
    if ((x3.Upto != 0)&&(decide (x3.Upto≤v1))) then
     none
    else
     some (.inl (x3.Upto,(IntKind.wrap .i64 (v2+1))))
 else
  some (.inr ())
def Jlv (N:Nat) (x0:(List Ub)):Option (Int) :=
 if ((List.length x0:Int)==0) then
  none
 else
  if (decide ((List.length x0:Int)>64)) then
   none
  else
   (Qw (Qz5 N x0) N (0,0)).bind fun _ =>
   some 0
def Qz6 (N:Nat) (x0:(List Ub)) (x1:Int):(Int×Int×Int)→Option ((Int×Int×Int)⊕((Int))):=fun (v1,v2,v3) =>
 if (decide (v3<(List.length x0:Int))) then
  (idx x0 v3).bind fun x4 =>
  if (x4.Upto != 0) then
   none
  else
   if (decide (x1≤v2)) then
    some (.inr v1)
   else
    (Qjf .i64 (IntKind.wrap .i64 ((IntKind.wrap .i64 ((IntKind.wrap .i64 (x1 - v2))+x4.Quantum)) - 1)) x4.Quantum).bind fun n5 =>
    (Qjf .i64 (IntKind.wrap .i64 (1125899906842624 - v1)) n5).bind fun n6 =>
    if (decide (x4.Price>n6)) then
     none
    else
     some (.inl ((IntKind.wrap .i64 (v1+(IntKind.wrap .i64 (n5*x4.Price)))),x1,(IntKind.wrap .i64 (v3+1))))
 else
  some (.inr v1)
def Jc7 (N:Nat) (x0:(List Ub)) (x1:Int):Option (Int×Bool) :=
 (Qw (Qz6 N x0 x1) N (0,0,0)).bind fun v7 =>
 some (v7,true)
def Jlw (N:Nat) (x0:(List Ub)) (x1:Int) (x2:Int):Option (Int×Int) :=
 (Jlv N x0).bind fun r1 =>
 if (r1 != 0) then
  none
 else
  if ((((decide (x1<0))||(decide (x2<0)))||(decide (x1>1099511627776)))||(decide (x2>(IntKind.wrap .i64 (1099511627776 - x1))))) then
   none
  else
   (Jc7 N x0 (IntKind.wrap .i64 (x1+x2))).bind fun (r2,r3) =>
   if (!r3) then
    none
   else
    (Jc7 N x0 x1).bind fun (r4,r5) =>
    some ((IntKind.wrap .i64 (r2 - r4)),0)
def Qmy (N:Nat) (x0:Q5) (x1:(List Int)) (x2:Qh) (x3:Int):Option ((List Q2)) :=
 (Jlj N x2 x3).bind fun r1 =>
 (if (!r1) then
  some true
 else
  (Jc4 N x0.Bands).bind fun r3 =>
  some (r3 != 0):Option (Bool)).bind fun v4 =>
 if v4 then
  some ([]:(List Q2))
 else
  if (x2.Kind==1) then
   if ((x2.Kind != 1)||(!x0.Split)) then
    (Z74 N x0.Bands x1 (IntKind.wrap .i64 (x2.Start+x3))).bind fun r5 =>
    some ([(r5,(IntKind.wrap .i64 (x2.Start+x3)),(IntKind.wrap .i64 (x2.Units - x3)),0)]:(List Q2))
   else
    none
  else
   none
def Jc8 (N:Nat) (r3:(List Q2)) (x0:Q5) (x2:Qh) (r1:Str):(Int×Int×Int×Int×(List Q2))→Option ((Int×Int×Int×Int×(List Q2))⊕((Int×Int×(List Q2)))):=fun (v8,v9,v10,v11,v12) =>
 if (decide (v11<(List.length r3:Int))) then
  (idx v12 v11).bind fun _ =>
  (idx v12 v11).bind fun x13 =>
  (Jlu N x0 x2.Kind r1 x13.Band).bind fun (r14,r15) =>
  if (!r15) then
   none
  else
   if (v11==0) then
    (idx v12 v11).bind fun _ =>
    (idx v12 v11).bind fun x16 =>
    (Jlw N r14.Steps v10 x16.Units).bind fun (r17,r18) =>
    if (r18 != 0) then
     none
    else
     (idx v12 v11).bind fun _ =>
     (idx v12 v11).bind fun y19 =>
     (idx (List.set v12 (Int.toNat v11) (y19.Band,y19.Start,y19.Units,r17)) v11).bind fun _ =>
     (idx (List.set v12 (Int.toNat v11) (y19.Band,y19.Start,y19.Units,r17)) v11).bind fun x20 =>
     some (.inl (r14.Setup,(if 1125899906842625<(IntKind.wrap .i64 (v9+r17)) then 1125899906842625 else (IntKind.wrap .i64 (v9+r17))),(IntKind.wrap .i64 (v10+x20.Units)),(IntKind.wrap .i64 (v11+1)),(List.set v12 (Int.toNat v11) (y19.Band,y19.Start,y19.Units,r17))))
   else
    none
 else
  some (.inr (v8,v9,v12))
def Z71 (N:Nat) (x0:Q5) (x1:(List Int)) (x2:Qh) (x3:Int):Option ((List Q2)×Int×Int) :=
 (Z67 N x0.Zones x2.B).bind fun (r1,r2) =>
 (Qmy N x0 x1 x2 x3).bind fun r3 =>
 (Qw (Jc8 N r3 x0 x2 r1) N (0,0,0,0,r3)).bind fun (v21,v22,v23) =>
 if ((0==0)&&(((decide (v21<0))||(decide (v21>1125899906842624)))||(decide ((IntKind.wrap .i64 (v21+v22))>1125899906842624)))) then
  none
 else
  if (0 != 0) then
   none
  else
   some (v23,v21,0)
def Jc9 (N:Nat) (r1:(List Q2)):(Int×Int)→Option ((Int×Int)⊕((Int))):=fun (v4,v5) =>
 if (decide (v5<(List.length r1:Int))) then
  (idx r1 v5).bind fun x6 =>
  if (decide (v4≤1125899906842624)) then
   some (.inl ((IntKind.wrap .i64 (v4+x6.Amount)),(IntKind.wrap .i64 (v5+1))))
  else
   none
 else
  some (.inr v4)
def Z54 (N:Nat) (m5000_0:Jv) (m5000_1:Ja) (m5000_2:Qh) (m5000_3:Ji) (m5000_4:Qu) (m5000_5:Q5) (m5000_6:Int) (m5000_7_0:Qh) (m5000_7_1:Int) (m5000_7_2:Str) (m5000_7_3:Int) (m5000_7_4:Str) (m5000_7_5:(List Jz)) (m5000_7_7:Int) (m5000_7_8:Int) (m5000_7_9:Int) (m5000_7_11:Int) (m5000_7_12:Int) (m5001:(List Q2)) (m5002:(List J8)):Option (Int×Jv×Ja×Qh×Ji×Qu×Q5×Int×Qh×Int×Str×Int×Str×(List Jz)×(List Q2)×Int×Int×Int×Int×Int×(List J8)) :=
 (Z71 N m5000_5 m5000_0.Holidays m5000_2 m5000_6).bind fun (r1,r2,r3) =>
 if (r3 != 0) then
  none
 else
  (Qw (Jc9 N r1) N (r2,0)).bind fun v7 =>
  if (decide (v7>1125899906842624)) then
   none
  else
   some (0,m5000_0,m5000_1,m5000_2,m5000_3,m5000_4,m5000_5,m5000_6,m5000_7_0,m5000_7_1,m5000_7_2,m5000_7_3,m5000_7_4,m5000_7_5,r1,r2,v7,m5000_7_9,m5000_7_11,m5000_7_12,m5002)
def Z52 (N:Nat) (m5001_0:Jv) (m5001_1:Ja) (m5001_2:Qh) (m5001_3:Ji) (m5001_4:Qu) (m5001_5:Q5) (m5001_6:Int) (m5001_7_0:Qh) (m5001_7_1:Int) (m5001_7_2:Str) (m5001_7_3:Int) (m5001_7_4:Str) (m5001_7_7:Int) (m5001_7_8:Int) (m5001_7_9:Int) (m5001_7_11:Int) (m5001_7_12:Int) (m5002:(List Jz)) (m5003:(List Q2)) (m5004:(List J8)):Option (Int×Jv×Ja×Qh×Ji×Qu×Q5×Int×Qh×Int×Str×Int×Str×(List Jz)×(List Q2)×Int×Int×Int×Int×Int×(List J8)) :=
 (Z53 N m5001_0 m5001_1 m5001_2 m5001_3 m5001_4 m5001_5 m5001_6 m5001_7_0 m5001_7_1 m5001_7_2 m5001_7_3 m5001_7_4 m5001_7_7 m5001_7_8 m5001_7_9 m5001_7_11 m5001_7_12 m5002 m5003 m5004).bind fun (r1,r2,r3,r4,r5,r6,r7,r8,r9,r10,r11,r12,r13,r14,r15,r16,r17,r18,r19,r20) =>
 (Z54 N r1 r2 r3 r4 r5 r6 r7 r8 r9 r10 r11 r12 r13 r14 r15 r16 r17 r18 r19 r20).bind fun (r21,r22,r23,r24,r25,r26,r27,r28,r29,r30,r31,r32,r33,r34,r35,r36,r37,r38,r39,r40,r41) =>
 some (r21,r22,r23,r24,r25,r26,r27,r28,r29,r30,r31,r32,r33,r34,r35,r36,r37,r38,r39,r40,r41)
def Qt5 (N:Nat) (m5001_0:Jv) (m5001_1:Ja) (m5001_2:Qh) (m5001_3:Ji) (m5001_4:Qu) (m5001_5:Q5) (m5001_6:Int) (m5001_7_0:Qh) (m5001_7_1:Int) (m5001_7_2:Str) (m5001_7_3:Int) (m5001_7_4:Str) (m5001_7_7:Int) (m5001_7_8:Int) (m5001_7_9:Int) (m5001_7_11:Int) (m5001_7_12:Int) (m5002:(List Jz)) (m5003:(List Q2)) (m5004:(List J8)) (m5005:Int):Option (Jv×Ja×Qh×Ji×Qu×Q5×Int×Qh×Int×Str×Int×Str×(List Jz)×(List Q2)×Int×Int×Int×Int×Int×Int×(List J8)) :=
 if (m5005==0) then
  (Z52 N m5001_0 m5001_1 m5001_2 m5001_3 m5001_4 m5001_5 m5001_6 m5001_7_0 m5001_7_1 m5001_7_2 m5001_7_3 m5001_7_4 m5001_7_7 m5001_7_8 m5001_7_9 m5001_7_11 m5001_7_12 m5002 m5003 m5004).bind fun (r1,r2,r3,r4,r5,r6,r7,r8,r9,r10,r11,r12,r13,r14,r15,r16,r17,r18,r19,r20,r21) =>
  some (r2,r3,r4,r5,r6,r7,r8,r9,r10,r11,r12,r13,r14,r15,r16,r17,r18,r19,r20,r1,r21)
 else
  some (m5001_0,m5001_1,m5001_2,m5001_3,m5001_4,m5001_5,m5001_6,m5001_7_0,m5001_7_1,m5001_7_2,m5001_7_3,m5001_7_4,m5002,m5003,m5001_7_7,m5001_7_8,m5001_7_9,m5001_7_11,m5001_7_12,m5005,m5004)
def Jda (N:Nat) (x0:Int) (x1:Int):Option (Qg) :=
 if ((((decide (x0<1))||(decide (x0>28)))||(decide (x1<0)))||(decide (x1≥12622780800))) then
  none
 else
  (Qqp N x0 x1).bind fun r1 =>
  (Qzi N x0 r1).bind fun r2 =>
  some r2
def Z73 (N:Nat) (m5000_0:Jv) (m5000_1:Ja) (m5000_2:Qh) (m5000_3:Ji) (m5000_4:Qu) (m5000_5:Q5) (m5000_6:Int) (m5000_7_0:Qh) (m5000_7_1:Int) (m5000_7_2:Str) (m5000_7_3:Int) (m5000_7_4:Str) (m5000_7_5:(List Jz)) (m5000_7_6:(List Q2)) (m5000_7_7:Int) (m5000_7_8:Int) (m5000_7_9:Int) (m5000_7_11:Int) (m5000_7_12:Int) (m5001:(List J8)):Option (Int) :=
 (Jda N m5000_4.Anchor m5000_2.Start).bind fun r1 =>
 some r1.From
def Qz7 (N:Nat) (x0:Qv) (x1:Qv):(Int)→Option ((Int)⊕((Unit))):=fun v1 =>
 if (decide (v1<3)) then
  (idx ([([x0.Sub,x1.Sub]:(List Int)),([x0.Kind,x1.Kind]:(List Int)),([x0.From,x1.From]:(List Int))]:(List (List Int))) v1).bind fun x2 =>
  (idx x2 0).bind fun _ =>
  (idx x2 0).bind fun x3 =>
  (idx x2 1).bind fun _ =>
  (idx x2 1).bind fun x4 =>
  if (decide (x3<x4)) then
   none
  else
   (idx x2 0).bind fun _ =>
   (idx x2 0).bind fun x5 =>
   (idx x2 1).bind fun _ =>
   (idx x2 1).bind fun x6 =>
   if (decide (x5>x6)) then
    none
   else
    some (.inl (IntKind.wrap .i64 (v1+1)))
 else
  some (.inr ())
def Jdb (N:Nat) (x0:Qv) (x1:Qv):Option (Int) :=
 (Qw (Qz7 N x0 x1) N 0).bind fun _ =>
 some 0
def Jdc (N:Nat) (x0:(List Qv)) (x1:Int) (x2:Int) (x3:Int):(Qv)→Option ((Qv)⊕((Qv)⊕(Qv))):=fun v1 =>
 if (decide (0<(List.length x0:Int))) then
  (idx x0 0).bind fun x5 =>
  (Jdb N x5 (x1,x2,x3,0,0)).bind fun r6 =>
  if (r6==0) then
   some (.inr (.inr x5))
  else
   none
 else
  some (.inr (.inl v1))
def Z72 (N:Nat) (x0:(List Qv)) (x1:Int) (x2:Int) (x3:Int):Option (Qv) :=
 (Qw (Jdc N x0 x1 x2 x3) N (0,0,0,0,0)).bind fun
  | .inl v7 =>
   some (x1,x2,x3,0,0)
  | .inr v8 =>
   some v8
def Z76 (N:Nat) (x0:Qh) (x1:Str) (x2:Str) (x3:Qv) (x4:Bool):Option (Z4) :=
 if ((decide (x0.Start<0))||(decide (x0.Start≥12622780800))) then
  none
 else
  (idx ([86400,60]:(List Int)) 0).bind fun _ =>
  (idx ([86400,60]:(List Int)) 0).bind fun x5 =>
  (Qjf .i64 x0.Start x5).bind fun n6 =>
  (Jc5 N n6).bind fun r7 =>
  (idx ([86400,60]:(List Int)) 0).bind fun _ =>
  (idx ([86400,60]:(List Int)) 0).bind fun x8 =>
  (Qxo x0.Start x8).bind fun n9 =>
  (idx ([86400,60]:(List Int)) 1).bind fun _ =>
  (idx ([86400,60]:(List Int)) 1).bind fun x10 =>
  (Qjf .i64 n9 x10).bind fun n11 =>
  some (x0.Kind,x0.Units,r7,n11,x3.Units,x3.Spent,x1,x2,x4)
def Jdd (N:Nat) (x0:(List J9)):(Unit)→Option ((Unit)⊕((Unit))):=fun _ =>
 if (decide (0<(List.length x0:Int))) then
  none
 else
  some (.inr ())
def Z75 (N:Nat) (x0:(List J9)) (x1:Z4) (x2:Int):Option ((List J8)×Int×Int) :=
 if ((decide (x2<0))||(decide (x2>1125899906842624))) then
  none
 else
  (Qw (Jdd N x0) N ()).bind fun _ =>
  some (([]:(List J8)),x2,0)
def Z56 (N:Nat) (m5000_0:Jv) (m5000_1:Ja) (m5000_2:Qh) (m5000_3:Ji) (m5000_4:Qu) (m5000_5:Q5) (m5000_6:Int) (m5000_7_0:Qh) (m5000_7_1:Int) (m5000_7_2:Str) (m5000_7_3:Int) (m5000_7_4:Str) (m5000_7_5:(List Jz)) (m5000_7_6:(List Q2)) (m5000_7_7:Int) (m5000_7_8:Int) (m5000_7_9:Int) (m5000_7_11:Int) (m5000_7_12:Int) (m5001:(List J8)):Option (Int×V6) :=
 (Z73 N m5000_0 m5000_1 m5000_2 m5000_3 m5000_4 m5000_5 m5000_6 m5000_7_0 m5000_7_1 m5000_7_2 m5000_7_3 m5000_7_4 m5000_7_5 m5000_7_6 m5000_7_7 m5000_7_8 m5000_7_9 m5000_7_11 m5000_7_12 m5001).bind fun r1 =>
 (Z72 N m5000_1.Counters m5000_2.Sub m5000_2.Kind r1).bind fun r2 =>
 (Z74 N m5000_5.Bands m5000_0.Holidays m5000_2.Start).bind fun r3 =>
 (Z76 N m5000_2 m5000_7_4 r3 r2 m5000_3.Family).bind fun r4 =>
 (Z75 N m5000_5.Discounts r4 m5000_7_8).bind fun (r5,r6,r7) =>
 if (r7 != 0) then
  none
 else
  some (0,(m5000_0,m5000_1,m5000_2,m5000_3,m5000_4,m5000_5,m5000_6,(m5000_7_0,m5000_7_1,m5000_7_2,m5000_7_3,m5000_7_4,m5000_7_5,m5000_7_6,m5000_7_7,m5000_7_8,r6,r5,m5000_7_11,m5000_7_12)))
def Z55 (N:Nat) (m5001_0:Jv) (m5001_1:Ja) (m5001_2:Qh) (m5001_3:Ji) (m5001_4:Qu) (m5001_5:Q5) (m5001_6:Int) (m5001_7_0:Qh) (m5001_7_1:Int) (m5001_7_2:Str) (m5001_7_3:Int) (m5001_7_4:Str) (m5001_7_5:(List Jz)) (m5001_7_6:(List Q2)) (m5001_7_7:Int) (m5001_7_8:Int) (m5001_7_9:Int) (m5001_7_11:Int) (m5001_7_12:Int) (m5002:(List J8)):Option (Int×V6) :=
 (Z56 N m5001_0 m5001_1 m5001_2 m5001_3 m5001_4 m5001_5 m5001_6 m5001_7_0 m5001_7_1 m5001_7_2 m5001_7_3 m5001_7_4 m5001_7_5 m5001_7_6 m5001_7_7 m5001_7_8 m5001_7_9 m5001_7_11 m5001_7_12 m5002).bind fun (r1,r2) =>
 some (r1,r2)
def Qt6 (N:Nat) (m5001_0:Jv) (m5001_1:Ja) (m5001_2:Qh) (m5001_3:Ji) (m5001_4:Qu) (m5001_5:Q5) (m5001_6:Int) (m5001_7_0:Qh) (m5001_7_1:Int) (m5001_7_2:Str) (m5001_7_3:Int) (m5001_7_4:Str) (m5001_7_5:(List Jz)) (m5001_7_6:(List Q2)) (m5001_7_7:Int) (m5001_7_8:Int) (m5001_7_9:Int) (m5001_7_11:Int) (m5001_7_12:Int) (m5002:(List J8)) (m5003:Int):Option (Jv×Ja×Qh×Ji×Qu×Q5×Int×Qh×Int×Str×Int×Str×(List Jz)×(List Q2)×Int×Int×Int×(List J8)×Int×Int×Int) :=
 if (m5003==0) then
  (Z55 N m5001_0 m5001_1 m5001_2 m5001_3 m5001_4 m5001_5 m5001_6 m5001_7_0 m5001_7_1 m5001_7_2 m5001_7_3 m5001_7_4 m5001_7_5 m5001_7_6 m5001_7_7 m5001_7_8 m5001_7_9 m5001_7_11 m5001_7_12 m5002).bind fun (r1,r2) =>
  some (r2.book,r2.state,r2.u,r2.spell,r2.account,r2.tariff,r2.free,r2.r.Usage,r2.r.Err,r2.r.Plan,r2.r.Version,r2.r.Zone,r2.r.Takes,r2.r.Segments,r2.r.Setup,r2.r.Gross,r2.r.Net,r2.r.Given,r2.r.Paid,r2.r.Owed,r1)
 else
  some (m5001_0,m5001_1,m5001_2,m5001_3,m5001_4,m5001_5,m5001_6,m5001_7_0,m5001_7_1,m5001_7_2,m5001_7_3,m5001_7_4,m5001_7_5,m5001_7_6,m5001_7_7,m5001_7_8,m5001_7_9,m5002,m5001_7_11,m5001_7_12,m5003)
def Jde (N:Nat) (x0:Q0):Option (Int) :=
 (Qy9 N x0).bind fun r1 =>
 if (r1 != 0) then
  none
 else
  some (IntKind.wrap .i64 ((IntKind.wrap .i64 (x0.Balance - x0.Held)) - x0.Floor))
def Jlx (N:Nat) (x0:Q0) (x1:Int):Option (Q0×Int) :=
 (Qy9 N x0).bind fun r1 =>
 if (r1 != 0) then
  none
 else
  (Qj9 N x1 0 1125899906842624).bind fun r2 =>
  if (!r2) then
   none
  else
   (Jde N x0).bind fun r3 =>
   if (decide (x1>r3)) then
    none
   else
    some ((x0.Account,(IntKind.wrap .i64 (x0.Balance - x1)),x0.Floor,x0.Held,x0.Until),0)
def Qke (N:Nat) (m5000:(List Q0)):(Int×(List (Int×Int)))→Option ((Int×(List (Int×Int)))⊕(((List (Int×Int))))):=fun (v2,v3) =>
 if (decide (v2<(List.length m5000:Int))) then
  (idx m5000 v2).bind fun _ =>
  (idx m5000 v2).bind fun x4 =>
  if (!(Q4 (k:=(.int .i64)) x4.Account v3).isSome) then
   some (.inl ((IntKind.wrap .i64 (v2+1)),(Vp (k:=(.int .i64)) x4.Account v2 v3)))
  else
   none
 else
  some (.inr v3)
def Qmz (N:Nat) (m5000:(List Q0)):Option ((List (Int×Int))) :=
 (Qw (Qke N m5000) N (0,([]:List (Int×Int)))).bind fun v5 =>
 some v5
def Z77 (N:Nat) (x0:Ja) (x1:Int) (x2:Int) (x3:Bool):Option (Ja×Int×Int) :=
 (Z89 N x0).bind fun (r1,r2,r3) =>
 (Qmz N r2).bind fun r4 =>
 if (((!x3)||(decide (x2≤0)))||(!(Q4 (k:=(.int .i64)) x1 r4).isSome)) then
  some ((r1,r2,r3),0,x2)
 else
  (idx r2 ((Q4 (k:=(.int .i64)) x1 r4).getD 0)).bind fun _ =>
  (idx r2 ((Q4 (k:=(.int .i64)) x1 r4).getD 0)).bind fun x5 =>
  (Jde N x5).bind fun r6 =>
  (idx r2 ((Q4 (k:=(.int .i64)) x1 r4).getD 0)).bind fun _ =>
  (idx r2 ((Q4 (k:=(.int .i64)) x1 r4).getD 0)).bind fun x7 =>
  (Jlx N x7 (if 1125899906842624<(if r6<x2 then r6 else x2) then 1125899906842624 else (if r6<x2 then r6 else x2))).bind fun (r8,r9) =>
  if (r9 != 0) then
   none
  else
   (idx r2 ((Q4 (k:=(.int .i64)) x1 r4).getD 0)).bind fun _ =>
   (idx r2 ((Q4 (k:=(.int .i64)) x1 r4).getD 0)).bind fun y10 =>
   some ((r1,(List.set r2 (Int.toNat ((Q4 (k:=(.int .i64)) x1 r4).getD 0)) r8),r3),(if 1125899906842624<(if r6<x2 then r6 else x2) then 1125899906842624 else (if r6<x2 then r6 else x2)),(IntKind.wrap .i64 (x2 - (if 1125899906842624<(if r6<x2 then r6 else x2) then 1125899906842624 else (if r6<x2 then r6 else x2)))))
def Qt7 (N:Nat) (m5000:V6):Option (Int) :=
 (Jda N m5000.account.Anchor m5000.u.Start).bind fun r1 =>
 some r1.From
def Qz8 (N:Nat) (x0:Int):(Unit)→Option ((Unit)⊕((Bool))):=fun _ =>
 if (decide (0<4)) then
  (idx ([1,2,3,4]:(List Int)) 0).bind fun x1 =>
  if (x1==x0) then
   some (.inr true)
  else
   none
 else
  none
def Jly (N:Nat) (x0:Int):Option (Bool) :=
 (Qw (Qz8 N x0) N ()).bind fun v2 =>
 some v2
def Jdf (N:Nat) (x0:Qv):Option (Bool) :=
 (if ((decide (x0.Sub≥1))&&(decide (x0.Sub≤9999))) then
  (Jly N x0.Kind).bind fun r2 =>
  some r2
 else
  some false:Option (Bool)).bind fun v3 =>
 some ((v3&&(decide (x0.From≥0)))&&(decide (x0.From<12622780800)))
def Qz9 (N:Nat) (x0:Qv):Option (Bool) :=
 some ((((decide (x0.Units≥0))&&(decide (x0.Units≤1125899906842624)))&&(decide (x0.Spent≥0)))&&(decide (x0.Spent≤1125899906842624)))
def Q0a (N:Nat) (x0:(List Qv)):(Int)→Option ((Int)⊕((Unit))):=fun v1 =>
 if (decide (v1<(List.length x0:Int))) then
  (idx x0 v1).bind fun x2 =>
  (Jdf N x2).bind fun r3 =>
  (if (!r3) then
   some true
  else
   (Qz9 N x2).bind fun r5 =>
   some (!r5):Option (Bool)).bind fun v6 =>
  if (v6||((x2.Units==0)&&(x2.Spent==0))) then
   none
  else
   (if (decide (v1>0)) then
    none
   else
    some false:Option ((Bool))).bind fun v7 =>
   if v7 then
    none
   else
    some (.inl (IntKind.wrap .i64 (v1+1)))
 else
  some (.inr ())
def Jlz (N:Nat) (x0:(List Qv)):Option (Bool) :=
 (Qw (Q0a N x0) N 0).bind fun _ =>
 some true
def Q0b (N:Nat) (m5000:(List Qv)) (m5001:Qv):(Unit)→Option ((Unit)⊕((Unit)⊕(Int×Int))):=fun _ =>
 if (decide (0<(List.length m5000:Int))) then
  (idx m5000 0).bind fun x1 =>
  (Jdb N x1 m5001).bind fun r2 =>
  if (r2==0) then
   some (.inr (.inr (0,(IntKind.wrap .i64 (0+1)))))
  else
   none
 else
  some (.inr (.inl ()))
def Jl0 (N:Nat) (m5000:(List Qv)) (m5001:Qv):Option (Int×Int) :=
 (Qw (Q0b N m5000 m5001) N ()).bind fun
  | .inl _ =>
   some ((List.length m5000:Int),(List.length m5000:Int))
  | .inr (v3,v4) =>
   some (v3,v4)
def Z78 (N:Nat) (x0:(List Qv)) (x1:Qv):Option (Int×(List Qv)) :=
 (Jlz N x0).bind fun r1 =>
 (if (!r1) then
  some true
 else
  (Jdf N x1).bind fun r3 =>
  some (!r3):Option (Bool)).bind fun v4 =>
 if v4 then
  none
 else
  (Qz9 N x1).bind fun r5 =>
  if (!r5) then
   none
  else
   (Jl0 N x0 x1).bind fun (r6,r7) =>
   (if (decide (r7>r6)) then
    (idx x0 r6).bind fun x10 =>
    (idx x0 r6).bind fun x11 =>
    some (x1.Sub,x1.Kind,x1.From,(IntKind.wrap .i64 (x1.Units+x10.Units)),(IntKind.wrap .i64 (x1.Spent+x11.Spent)))
   else
    some x1:Option ((Qv))).bind fun v12 =>
   (Qz9 N v12).bind fun r13 =>
   if (!r13) then
    none
   else
    (slc x0 0 r6).bind fun s14 =>
    (app 40 ([]:(List Qv)) s14).bind fun q15 =>
    if ((v12.Units != 0)||(v12.Spent != 0)) then
     (app 40 q15 ([v12]:(List Qv))).bind fun q16 =>
     (slc x0 r7 (List.length x0:Int)).bind fun s17 =>
     (app 40 q16 s17).bind fun q18 =>
     some (0,q18)
    else
     none
def Z58 (N:Nat) (m5000:V6):Option (Int×Jv×(List Qj)×(List Q0)×Qh×Ji×Qu×Q5×Int×Q6×(List Qv)) :=
 (Z77 N m5000.state m5000.u.Account m5000.r.Net m5000.account.Prepaid).bind fun (r1,r2,r3) =>
 (Qt7 N m5000).bind fun r4 =>
 (Z78 N r1.Counters (m5000.u.Sub,m5000.u.Kind,r4,m5000.u.Units,m5000.r.Net)).bind fun (r5,r6) =>
 if (r5 != 0) then
  none
 else
  some (0,m5000.book,r1.Buckets,r1.Wallets,m5000.u,m5000.spell,m5000.account,m5000.tariff,m5000.free,(m5000.r.Usage,m5000.r.Err,m5000.r.Plan,m5000.r.Version,m5000.r.Zone,m5000.r.Takes,m5000.r.Segments,m5000.r.Setup,m5000.r.Gross,m5000.r.Net,m5000.r.Given,r2,r3),r6)
def Z57 (N:Nat) (m5001:V6):Option (Int×Jv×(List Qj)×(List Q0)×Qh×Ji×Qu×Q5×Int×Q6×(List Qv)) :=
 (Z58 N m5001).bind fun (r1,r2,r3,r4,r5,r6,r7,r8,r9,r10,r11) =>
 some (r1,r2,r3,r4,r5,r6,r7,r8,r9,r10,r11)
def Qt8 (N:Nat) (m5001:V6) (m5002:Int):Option (Jv×(List Qj)×(List Q0)×(List Qv)×Qh×Ji×Qu×Q5×Int×Q6×Int) :=
 if (m5002==0) then
  (Z57 N m5001).bind fun (r1,r2,r3,r4,r5,r6,r7,r8,r9,r10,r11) =>
  some (r2,r3,r4,r11,r5,r6,r7,r8,r9,r10,r1)
 else
  some (m5001.book,m5001.state.Buckets,m5001.state.Wallets,m5001.state.Counters,m5001.u,m5001.spell,m5001.account,m5001.tariff,m5001.free,m5001.r,m5002)
def Jdg (N:Nat) (x0:Ja):(Int×(List Qj)×(List Q0)×(List Qv))→Option ((Int×(List Qj)×(List Q0)×(List Qv))⊕(((List Qj)×(List Q0)×(List Qv)))):=fun (v7,v8,v9,v10) =>
 if (decide (v7<(List.length x0.Buckets:Int))) then
  (idx x0.Buckets v7).bind fun x11 =>
  (app 16 ([]:(List Str)) x11.Zones).bind fun q12 =>
  (app 120 v8 ([(x11.Account,x11.Sub,x11.Product,x11.Index,x11.Kind,q12,x11.Valid,x11.Units,x11.Left,x11.Priority,x11.Shared)]:(List Qj))).bind fun q13 =>
  some (.inl ((IntKind.wrap .i64 (v7+1)),q13,v9,v10))
 else
  some (.inr (v8,v9,v10))
def Z46 (N:Nat) (x0:Ja):Option (Ja) :=
 (app 40 ([]:(List Q0)) x0.Wallets).bind fun q1 =>
 (app 40 ([]:(List Qv)) x0.Counters).bind fun q2 =>
 (Qw (Jdg N x0) N (0,([]:(List Qj)),q1,q2)).bind fun (v14,v15,v16) =>
 some (v14,v15,v16)
def Qt9 (N:Nat) (x0:Jv) (x1:Ja) (x2:Qh):Option (Ja×Q6) :=
 if (x2.Inbound||(x2.Units==0)) then
  none
 else
  (Z47 N x0 x1 x2 (0,0) ([]:Str) false false 0 0 0 false false ([]:Str) 0 false 0 x2 0 ([]:Str) 0 ([]:Str) 0 0 0 0 0 ([]:(List Str)) ([]:(List Int)) ([]:(List Ye)) ([]:(List Yj)) ([]:(List Y0)) ([]:(List J9)) ([]:(List Jz)) ([]:(List Q2)) ([]:(List J8)) 0).bind fun (r1,r2,r3,r4,r5,r6,r7,r8,r9,r10,r11,r12,r13,r14,r15,r16,r17,r18,r19,r20,r21,r22,r23,r24,r25,r26,r27,r28,r29,r30,r31,r32,r33,r34,r35,r36) =>
  (Qt3 N r1 r2 r3 (r4,r5,r6,r7,r8) (r9,r10,r11,r12,r13,r14) r15 r16 r17 r18 r19 r20 r21 r22 r23 r24 r25 r26 r27 r28 r30 r31 r32 r33 r34 r35 r36 r29).bind fun (r37,r38,r39,r40,r41,r42,r43,r44,r45,r46,r47,r48,r49,r50,r51,r52,r53,r54,r55,r56,r57,r58,r59,r60,r61,r62,r63) =>
  (Qt5 N r37 r38 r39 r40 r41 (r42,r43,r44,r45,r46,r47,r48) r49 r50 r51 r52 r53 r54 r55 r56 r57 r58 r59 r61 r62 r63 r60).bind fun (r64,r65,r66,r67,r68,r69,r70,r71,r72,r73,r74,r75,r76,r77,r78,r79,r80,r81,r82,r83,r84) =>
  (Qt6 N r64 r65 r66 r67 r68 r69 r70 r71 r72 r73 r74 r75 r76 r77 r78 r79 r80 r81 r82 r84 r83).bind fun (r85,r86,r87,r88,r89,r90,r91,r92,r93,r94,r95,r96,r97,r98,r99,r100,r101,r102,r103,r104,r105) =>
  (Qt8 N (r85,r86,r87,r88,r89,r90,r91,(r92,r93,r94,r95,r96,r97,r98,r99,r100,r101,r102,r103,r104)) r105).bind fun (r106,r107,r108,r109,r110,r111,r112,r113,r114,r115,r116) =>
  if (r116 != 0) then
   (Z46 N x1).bind fun r118 =>
   some (r118,(x2,r116,([]:Str),0,([]:Str),([]:(List Jz)),([]:(List Q2)),0,0,0,([]:(List J8)),0,0))
  else
   some ((r107,r108,r109),r115)
def Jdh (N:Nat) (x0:Ja):(Unit)→Option ((Unit)⊕((Unit))):=fun _ =>
 if (decide (0<(List.length x0.Buckets:Int))) then
  none
 else
  some (.inr ())
def Z79 (N:Nat) (x0:Ja):Option ((List Q0)×(List Qv)) :=
 (app 40 ([]:(List Q0)) x0.Wallets).bind fun q1 =>
 (app 40 ([]:(List Qv)) x0.Counters).bind fun q2 =>
 (Qw (Jdh N x0) N ()).bind fun _ =>
 some (q1,q2)
def Jdi (N:Nat) (x0:Qh):Option (Uy) :=
 some (x0.Start,x0.Source,x0.Serial,x0.Id)
def Jl1 (N:Nat) (x0:Uy) (x1:Uy):Option (Bool) :=
 if ((x0.start==x1.start)&&((x0.source==x1.source)&&((x0.serial==x1.serial)&&((x0.id==x1.id)&&true)))) then
  none
 else
  if (x0.start != x1.start) then
   some (decide (x0.start<x1.start))
  else
   none
def Jdj (N:Nat):((List Qh)×(List Qh)×(List Qh))→Option (((List Qh)×(List Qh)×(List Qh))⊕(((List Qh)))):=fun (v7,v8,v9) =>
 if ((decide ((List.length v7:Int)>0))||(decide ((List.length v8:Int)>0))) then
  (if ((List.length v8:Int)==0) then
   some true
  else
   if (decide ((List.length v7:Int)>0)) then
    (idx v8 0).bind fun x10 =>
    (Jdi N x10).bind fun r11 =>
    (idx v7 0).bind fun x12 =>
    (Jdi N x12).bind fun r13 =>
    (Jl1 N r11 r13).bind fun r14 =>
    some (!r14)
   else
    some false:Option ((Bool))).bind fun v15 =>
  if v15 then
   (idx v7 0).bind fun x16 =>
   (app 112 v9 ([x16]:(List Qh))).bind fun q17 =>
   (slc v7 1 (List.length v7:Int)).bind fun s18 =>
   some (.inl (s18,v8,q17))
  else
   (idx v8 0).bind fun x19 =>
   (app 112 v9 ([x19]:(List Qh))).bind fun q20 =>
   (slc v8 1 (List.length v8:Int)).bind fun s21 =>
   some (.inl (v7,s21,q20))
 else
  some (.inr v9)
def Qm0 (N:Nat):Nat→(List Qh)→Option ((List Qh))
 | 0,_=>none
 | n+1,x0 =>
  if (decide ((List.length x0:Int)<2)) then
   (app 112 ([]:(List Qh)) x0).bind fun q1 =>
   some q1
  else
   (slc x0 0 (IntKind.wrap .i64 (Int.tdiv (List.length x0:Int) 2))).bind fun s2 =>
   (Qm0 N n s2).bind fun r3 =>
   (slc x0 (IntKind.wrap .i64 (Int.tdiv (List.length x0:Int) 2)) (List.length x0:Int)).bind fun s4 =>
   (Qm0 N n s4).bind fun r5 =>
   (mkL 112 0 (List.length x0:Int) (0,0,0,0,([]:Str),([]:Str),0,0,0,false,0,0)).bind fun m6 =>
   (Qw (Jdj N) N (r3,r5,m6)).bind fun v22 =>
   some v22
def Z80 (N:Nat) (x0:(List Qh)):Option ((List Qh)):=Qm0 N N x0
def Jdk (N:Nat) (r3:(List Qh)) (x0:Jv):(Int×(List Qj)×(List Q0)×(List Qv)×(List Q6))→Option ((Int×(List Qj)×(List Q0)×(List Qv)×(List Q6))⊕((Ja×(List Q6)))):=fun (v10,v11,v12,v13,v14) =>
 if (decide (v10<(List.length r3:Int))) then
  (idx r3 v10).bind fun x15 =>
  (Qt9 N x0 (v11,v12,v13) x15).bind fun (r16,r17) =>
  (app 272 v14 ([r17]:(List Q6))).bind fun q18 =>
  some (.inl ((IntKind.wrap .i64 (v10+1)),r16.Buckets,r16.Wallets,r16.Counters,q18))
 else
  some (.inr ((v11,v12,v13),v14))
def Z59 (N:Nat) (x0:Jv) (x1:Ja) (x2:(List Qh)):Option (Ja×(List Q6)) :=
 (Z79 N x1).bind fun (r1,r2) =>
 (Z80 N x2).bind fun r3 =>
 (Qw (Jdk N r3 x0) N (0,([]:(List Qj)),r1,r2,([]:(List Q6)))).bind fun (v19,v20) =>
 some (v19,v20)
def Z32 (N:Nat) (x0:Jv) (x1:(List Qh)):Option (Ja×(List Q6)) :=
 (Z59 N x0 (([]:(List Qj)),([]:(List Q0)),([]:(List Qv))) x1).bind fun (r1,r2) =>
 some (r1,r2)
def Qua (N:Nat) (x0:Jv) (x1:(List Qh)):Option (Ja×(List Q6)) :=
 (Z59 N x0 (([]:(List Qj)),([]:(List Q0)),([]:(List Qv))) x1).bind fun (r1,r2) =>
 some (r1,r2)
def Z60 (N:Nat) (x0:(List Qh)) (x1:Qh):Option ((List Qh)) :=
 (app 112 ([]:(List Qh)) x0).bind fun q1 =>
 (app 112 q1 ([x1]:(List Qh))).bind fun q2 =>
 (Z80 N q2).bind fun r3 =>
 some r3
def Xq (N:Nat) (x0:Q6):Option (Int) :=
 some x0.Usage.Id
def Ik (N:Nat) (x0:Q6):Option (Qa) :=
 some (x0.Usage.Id,x0.Usage.Account,x0.Usage.Sub,x0.Usage.Kind,x0.Usage.Start,x0.Paid,x0.Owed)
def B6 (N:Nat) (m5000:Q6) (m5001:Q6):Option (Qa) :=
 (Ik N m5001).bind fun r1 =>
 some (r1.Usage,r1.Account,r1.Sub,r1.Kind,r1.Start,(IntKind.wrap .i64 (r1.Paid - m5000.Paid)),(IntKind.wrap .i64 (r1.Owed - m5000.Owed)))
def Et (N:Nat) (m5000:Q6):Option (Qa) :=
 (Ik N m5000).bind fun r1 =>
 some r1
def Eu (N:Nat) (m5000:Q6):Option (Qa) :=
 (Ik N m5000).bind fun r1 =>
 some (r1.Usage,r1.Account,r1.Sub,r1.Kind,r1.Start,(IntKind.wrap .i64 (0 - r1.Paid)),(IntKind.wrap .i64 (0 - r1.Owed)))
def Gm (N:Nat) (x0:Qa) (x1:Qa):Option (Bool) :=
 if (x0.Start != x1.Start) then
  some (decide (x0.Start<x1.Start))
 else
  some (decide (x0.Usage<x1.Usage))
def Zm (N:Nat) (v4:(List Qa)) (x6:Qa):(Int)→Option ((Int)⊕((Int))):=fun v9 =>
 (if (decide (v9>0)) then
  (idx v4 (IntKind.wrap .i64 (v9 - 1))).bind fun _ =>
  (idx v4 (IntKind.wrap .i64 (v9 - 1))).bind fun x10 =>
  (Gm N x6 x10).bind fun r11 =>
  some r11
 else
  some false:Option ((Bool))).bind fun v14 =>
 if v14 then
  some (.inl (IntKind.wrap .i64 (v9 - 1)))
 else
  some (.inr v9)
def K2 (N:Nat) (x0:(List Qa)):(Int×(List Qa))→Option ((Int×(List Qa))⊕(((List Qa)))):=fun (v2,v4) =>
 if (decide (v2<(List.length x0:Int))) then
  ((idx x0 v2).bind fun x6 =>
  if ((x6.Paid==0)&&(x6.Owed==0)) then
   some v4
  else
   (Qw (Zm N v4 x6) N (List.length v4:Int)).bind fun v15 =>
   (slc v4 0 v15).bind fun s16 =>
   (app 56 ([]:(List Qa)) s16).bind fun q17 =>
   (app 56 q17 ([x6]:(List Qa))).bind fun q18 =>
   (slc v4 v15 (List.length v4:Int)).bind fun s19 =>
   (app 56 q18 s19).bind fun q20 =>
   some q20:Option (((List Qa)))).bind fun v21 =>
  some (.inl ((IntKind.wrap .i64 (v2+1)),v21))
 else
  some (.inr v4)
def Z5 (N:Nat) (x0:(List Qa)):Option ((List Qa)) :=
 (Qw (K2 N x0) N (0,([]:(List Qa)))).bind fun v22 =>
 some v22
def Ev (N:Nat) (x0:(List Q6)):(Int×(List (Int×Int)))→Option ((Int×(List (Int×Int)))⊕(((List (Int×Int))))):=fun (v2,v3) =>
 if (decide (v2<(List.length x0:Int))) then
  (idx x0 v2).bind fun x4 =>
  (Xq N x4).bind fun r5 =>
  some (.inl ((IntKind.wrap .i64 (v2+1)),(Vp (k:=(.int .i64)) r5 v2 v3)))
 else
  some (.inr v3)
def Ew (N:Nat) (x1:(List Q6)) (v6:(List (Int×Int))) (x0:(List Q6)):(Int×(List (Int×Bool))×(List Qa))→Option ((Int×(List (Int×Bool))×(List Qa))⊕(((List (Int×Bool))×(List Qa)))):=fun (v10,v11,v12) =>
 if (decide (v10<(List.length x1:Int))) then
  ((idx x1 v10).bind fun x18 =>
  (Xq N x18).bind fun r19 =>
  if (Q4 (k:=(.int .i64)) r19 v6).isSome then
   (idx x0 ((Q4 (k:=(.int .i64)) r19 v6).getD 0)).bind fun x20 =>
   (B6 N x20 x18).bind fun r21 =>
   (app 56 v12 ([r21]:(List Qa))).bind fun q22 =>
   some ((Vp (k:=(.int .i64)) r19 true v11),q22)
  else
   (Et N x18).bind fun r23 =>
   (app 56 v12 ([r23]:(List Qa))).bind fun q24 =>
   some (v11,q24):Option (((List (Int×Bool))×(List Qa)))).bind fun (v25,v26) =>
  some (.inl ((IntKind.wrap .i64 (v10+1)),v25,v26))
 else
  some (.inr (v11,v12))
def Ey (N:Nat) (x0:(List Q6)) (v27:(List (Int×Bool))):(Int×(List Qa))→Option ((Int×(List Qa))⊕(((List Qa)))):=fun (v29,v30) =>
 if (decide (v29<(List.length x0:Int))) then
  ((idx x0 v29).bind fun x32 =>
  (Xq N x32).bind fun r34 =>
  if (!((Q4 (k:=(.int .i64)) r34 v27).getD false)) then
   (Eu N x32).bind fun r35 =>
   (app 56 v30 ([r35]:(List Qa))).bind fun q36 =>
   some q36
  else
   some v30:Option (((List Qa)))).bind fun v37 =>
  some (.inl ((IntKind.wrap .i64 (v29+1)),v37))
 else
  some (.inr v30)
def X7 (N:Nat) (x0:(List Q6)) (x1:(List Q6)):Option ((List Qa)) :=
 (Qw (Ev N x0) N (0,([]:List (Int×Int)))).bind fun v6 =>
 (Qw (Ew N x1 v6 x0) N (0,([]:List (Int×Bool)),([]:(List Qa)))).bind fun (v27,v28) =>
 (Qw (Ey N x0 v27) N (0,v28)).bind fun v38 =>
 (Z5 N v38).bind fun r39 =>
 some r39
def I5 (N:Nat) (x0:(List Q6)) (x1:(List Q6)):Option ((List Qa)) :=
 (X7 N x0 x1).bind fun r1 =>
 some r1
def Z34 (N:Nat) (x0:Jv) (x1:(List Qh)) (x2:Qh):Option ((List Qa)) :=
 (Qua N x0 x1).bind fun (r1,r2) =>
 (Z60 N x1 x2).bind fun r3 =>
 (Z32 N x0 r3).bind fun (r4,r5) =>
 (I5 N r2 r5).bind fun r6 =>
 some r6
def Z61 (N:Nat) (x0:Int):Option (Str) :=
 if (x0==1) then
  none
 else
  if (x0==2) then
   some ([116,101,120,116]:Str)
  else
   none
def Jdl (N:Nat) (v6:(List Yr)):(Unit)→Option ((Unit)⊕((Unit))):=fun _ =>
 (if (decide (0<(List.length v6:Int))) then
  none
 else
  some false:Option (Bool)).bind fun v9 =>
 if v9 then
  none
 else
  some (.inr ())
def Jdm (N:Nat) (x0:(List Qa)) (x1:Int):(Int×(List Yr)×(List Int))→Option ((Int×(List Yr)×(List Int))⊕(((List Yr)))):=fun (v2,v6,v7) =>
 if (decide (v2<(List.length x0:Int))) then
  (idx x0 v2).bind fun x8 =>
  if (x8.Account != x1) then
   none
  else
   (Qw (Jdl N v6) N ()).bind fun _ =>
   (if (0==(List.length v6:Int)) then
    some true
   else
    none:Option (Bool)).bind fun v10 =>
   (if v10 then
    some true
   else
    none:Option (Bool)).bind fun v11 =>
   if v11 then
    (Z61 N x8.Kind).bind fun r12 =>
    (slc v6 0 0).bind fun s18 =>
    (app 80 ([]:(List Yr)) s18).bind fun q19 =>
    (app 80 q19 ([(3,x8.Sub,([97,100,106,117,115,116,109,101,110,116]:Str),r12,0,0,0,0)]:(List Yr))).bind fun q20 =>
    (slc v6 0 (List.length v6:Int)).bind fun s21 =>
    (app 80 q20 s21).bind fun q22 =>
    (slc v7 0 0).bind fun s25 =>
    (app 8 ([]:(List Int)) s25).bind fun q26 =>
    (app 8 q26 ([x8.Kind]:(List Int))).bind fun q27 =>
    (slc v7 0 (List.length v7:Int)).bind fun s28 =>
    (app 8 q27 s28).bind fun q29 =>
    (idx q22 0).bind fun _ =>
    (idx q22 0).bind fun x30 =>
    (idx q22 0).bind fun _ =>
    (idx q22 0).bind fun y31 =>
    (idx (List.set q22 (Int.toNat 0) (y31.Kind,y31.Sub,y31.Name,y31.Category,(IntKind.wrap .i64 (x30.Count+1)),y31.Units,y31.Amount,y31.Rounded)) 0).bind fun _ =>
    (idx (List.set q22 (Int.toNat 0) (y31.Kind,y31.Sub,y31.Name,y31.Category,(IntKind.wrap .i64 (x30.Count+1)),y31.Units,y31.Amount,y31.Rounded)) 0).bind fun x32 =>
    (idx (List.set q22 (Int.toNat 0) (y31.Kind,y31.Sub,y31.Name,y31.Category,(IntKind.wrap .i64 (x30.Count+1)),y31.Units,y31.Amount,y31.Rounded)) 0).bind fun _ =>
    (idx (List.set q22 (Int.toNat 0) (y31.Kind,y31.Sub,y31.Name,y31.Category,(IntKind.wrap .i64 (x30.Count+1)),y31.Units,y31.Amount,y31.Rounded)) 0).bind fun y33 =>
    some (.inl ((IntKind.wrap .i64 (v2+1)),(List.set (List.set q22 (Int.toNat 0) (y31.Kind,y31.Sub,y31.Name,y31.Category,(IntKind.wrap .i64 (x30.Count+1)),y31.Units,y31.Amount,y31.Rounded)) (Int.toNat 0) (y33.Kind,y33.Sub,y33.Name,y33.Category,y33.Count,y33.Units,(IntKind.wrap .i64 (x32.Amount+x8.Owed)),y33.Rounded)),q29))
   else
    none
 else
  some (.inr v6)
def Jdn (N:Nat) (v34:(List Yr)):(Int×(List Yr))→Option ((Int×(List Yr))⊕(((List Yr)))):=fun (v36,v37) =>
 if (decide (v36<(List.length v34:Int))) then
  (idx v34 v36).bind fun _ =>
  (idx v34 v36).bind fun x38 =>
  if (x38.Amount != 0) then
   (app 80 v37 ([x38]:(List Yr))).bind fun q39 =>
   some (.inl ((IntKind.wrap .i64 (v36+1)),q39))
  else
   none
 else
  some (.inr v37)
def Z35 (N:Nat) (x0:(List Qa)) (x1:Int):Option ((List Yr)) :=
 (Qw (Jdm N x0 x1) N (0,([]:(List Yr)),([]:(List Int)))).bind fun v34 =>
 (Qw (Jdn N v34) N (0,([]:(List Yr)))).bind fun v40 =>
 some v40
def Xc (N:Nat) (x0:(List Qa)) (x1:(List Qa)):(Int)→Option ((Int)⊕((Unit)⊕(Bool))):=fun v1 =>
 if (decide (v1<(List.length x0:Int))) then
  (idx x0 v1).bind fun x2 =>
  (idx x1 v1).bind fun x3 =>
  if (!((x2.Usage==x3.Usage)&&((x2.Account==x3.Account)&&((x2.Sub==x3.Sub)&&((x2.Kind==x3.Kind)&&((x2.Start==x3.Start)&&((x2.Paid==x3.Paid)&&((x2.Owed==x3.Owed)&&true)))))))) then
   some (.inr (.inr false))
  else
   some (.inl (IntKind.wrap .i64 (v1+1)))
 else
  some (.inr (.inl ()))
def Zn (N:Nat) (x0:(List Qa)) (x1:(List Qa)):Option (Bool) :=
 if ((List.length x0:Int) != (List.length x1:Int)) then
  some false
 else
  (Qw (Xc N x0 x1) N 0).bind fun
   | .inl _ =>
    some true
   | .inr v4 =>
    some v4
def Jdo (N:Nat) (x0:(List Yr)) (x1:(List Yr)):(Int)→Option ((Int)⊕((Unit))):=fun v1 =>
 if (decide (v1<(List.length x0:Int))) then
  (idx x0 v1).bind fun x2 =>
  (idx x1 v1).bind fun x3 =>
  if (!((x2.Kind==x3.Kind)&&((x2.Sub==x3.Sub)&&((x2.Name==x3.Name)&&((x2.Category==x3.Category)&&((x2.Count==x3.Count)&&((x2.Units==x3.Units)&&((x2.Amount==x3.Amount)&&((x2.Rounded==x3.Rounded)&&true))))))))) then
   none
  else
   some (.inl (IntKind.wrap .i64 (v1+1)))
 else
  some (.inr ())
def Z36 (N:Nat) (x0:(List Yr)) (x1:(List Yr)):Option (Bool) :=
 if ((List.length x0:Int) != (List.length x1:Int)) then
  none
 else
  (Qw (Jdo N x0 x1) N 0).bind fun _ =>
  some true
def Km (N:Nat):Option (Bool) :=
 (Z27 N).bind fun r1 =>
 (Z34 N r1 ([(1,1,1,1,([52,57,49,49]:Str),([52,57,49,50]:Str),1000,20,0,false,1,2)]:(List Qh)) (2,1,1,1,([52,57,49,49]:Str),([52,57,49,50]:Str),500,25,0,false,1,1)).bind fun r2 =>
 (Z35 N ([(1,3,2,2,0,0,(-200))]:(List Qa)) 3).bind fun r3 =>
 (Zn N r2 ([(1,1,1,1,1000,700,100)]:(List Qa))).bind fun r4 =>
 (if r4 then
  (Z36 N r3 ([(3,2,([97,100,106,117,115,116,109,101,110,116]:Str),([116,101,120,116]:Str),1,0,(-200),0)]:(List Yr))).bind fun r6 =>
  some r6
 else
  some false:Option (Bool)).bind fun v7 =>
 some v7
def Zu (N:Nat) (x0:(List Qa)) (x1:Qa):(Int)→Option ((Int)⊕((Int))):=fun v1 =>
 (if (decide (v1<(List.length x0:Int))) then
  (idx x0 v1).bind fun x9 =>
  (if (decide (x9.Start<x1.Start)) then
   some true
  else
   (idx x0 v1).bind fun x13 =>
   (if (x13.Start==x1.Start) then
    (idx x0 v1).bind fun x15 =>
    some (decide (x15.Usage<x1.Usage))
   else
    some false:Option (Bool)).bind fun v16 =>
   some v16:Option (Bool)).bind fun v17 =>
  some v17
 else
  some false:Option (Bool)).bind fun v18 =>
 if v18 then
  some (.inl (IntKind.wrap .i64 (v1+1)))
 else
  some (.inr v1)
def Z6 (N:Nat) (x0:(List Qa)) (x1:Qa):Option ((List Qa)) :=
 if ((x1.Paid==0)&&(x1.Owed==0)) then
  some x0
 else
  (Qw (Zu N x0 x1) N 0).bind fun v19 =>
  (slc x0 0 v19).bind fun s20 =>
  (app 56 ([]:(List Qa)) s20).bind fun q21 =>
  (app 56 q21 ([x1]:(List Qa))).bind fun q22 =>
  (slc x0 v19 (List.length x0:Int)).bind fun s23 =>
  (app 56 q22 s23).bind fun q24 =>
  some q24
def Uh (N:Nat) (v1:Int) (x0:(List Qa)) (x2:Qa):(Int)→Option ((Int)⊕((Unit)⊕(Bool))):=fun v3 =>
 if (decide (v3<v1)) then
  (idx x0 v3).bind fun x4 =>
  if (x4.Usage==x2.Usage) then
   some (.inr (.inr false))
  else
   some (.inl (IntKind.wrap .i64 (v3+1)))
 else
  some (.inr (.inl ()))
def Z7 (N:Nat) (x0:(List Qa)):(Int)→Option ((Int)⊕((Unit)⊕(Bool))):=fun v1 =>
 if (decide (v1<(List.length x0:Int))) then
  (idx x0 v1).bind fun x2 =>
  if ((((((decide (x2.Kind<1))||(decide (x2.Kind≥5)))||(decide (x2.Paid<(-2251799813685248))))||(decide (x2.Paid>2251799813685248)))||(decide (x2.Owed<(-2251799813685248))))||(decide (x2.Owed>2251799813685248))) then
   some (.inr (.inr false))
  else
   (Qw (Uh N v1 x0 x2) N 0).bind fun
    | .inl _ =>
     (if (decide (v1>0)) then
      (idx x0 (IntKind.wrap .i64 (v1 - 1))).bind fun x12 =>
      (if (decide (x12.Start>x2.Start)) then
       some true
      else
       (idx x0 (IntKind.wrap .i64 (v1 - 1))).bind fun x16 =>
       (if (x16.Start==x2.Start) then
        (idx x0 (IntKind.wrap .i64 (v1 - 1))).bind fun x18 =>
        some (decide (x18.Usage>x2.Usage))
       else
        some false:Option (Bool)).bind fun v19 =>
       some v19:Option (Bool)).bind fun v20 =>
      some v20
     else
      some false:Option (Bool)).bind fun v21 =>
     if v21 then
      some (.inr (.inr false))
     else
      some (.inl (IntKind.wrap .i64 (v1+1)))
    | .inr v22 =>
     some (.inr (.inr v22))
 else
  some (.inr (.inl ()))
def Uf (N:Nat) (x0:(List Qa)) (x1:Int):Option (Bool) :=
 if (decide ((List.length x0:Int)>x1)) then
  some false
 else
  (Qw (Z7 N x0) N 0).bind fun
   | .inl _ =>
    some true
   | .inr v23 =>
    some v23
def Z8 (N:Nat) (x0:Qa):Option (Int) :=
 some x0.Usage
def Ez (N:Nat) (m5000:Qa) (m5001:Qa):Option (Qa) :=
 some (m5001.Usage,m5001.Account,m5001.Sub,m5001.Kind,m5001.Start,(IntKind.wrap .i64 (m5001.Paid+m5000.Paid)),(IntKind.wrap .i64 (m5001.Owed+m5000.Owed)))
def Wm (N:Nat) (m5000:Qa):Option (Qa) :=
 some m5000
def Wn (N:Nat) (m5000:Qa):Option (Qa) :=
 some m5000
def Vv (N:Nat) (x0:(List Qa)):(Int×(List (Int×Int)))→Option ((Int×(List (Int×Int)))⊕(((List (Int×Int))))):=fun (v2,v3) =>
 if (decide (v2<(List.length x0:Int))) then
  (idx x0 v2).bind fun x4 =>
  (Z8 N x4).bind fun r5 =>
  some (.inl ((IntKind.wrap .i64 (v2+1)),(Vp (k:=(.int .i64)) r5 v2 v3)))
 else
  some (.inr v3)
def Uq (N:Nat) (x1:(List Qa)) (v6:(List (Int×Int))) (x0:(List Qa)):(Int×(List (Int×Bool))×(List Qa))→Option ((Int×(List (Int×Bool))×(List Qa))⊕(((List (Int×Bool))×(List Qa)))):=fun (v10,v11,v12) =>
 if (decide (v10<(List.length x1:Int))) then
  ((idx x1 v10).bind fun x18 =>
  (Z8 N x18).bind fun r19 =>
  if (Q4 (k:=(.int .i64)) r19 v6).isSome then
   (idx x0 ((Q4 (k:=(.int .i64)) r19 v6).getD 0)).bind fun x20 =>
   (Ez N x20 x18).bind fun r21 =>
   (app 56 v12 ([r21]:(List Qa))).bind fun q22 =>
   some ((Vp (k:=(.int .i64)) r19 true v11),q22)
  else
   (Wm N x18).bind fun r23 =>
   (app 56 v12 ([r23]:(List Qa))).bind fun q24 =>
   some (v11,q24):Option (((List (Int×Bool))×(List Qa)))).bind fun (v25,v26) =>
  some (.inl ((IntKind.wrap .i64 (v10+1)),v25,v26))
 else
  some (.inr (v11,v12))
def Vw (N:Nat) (x0:(List Qa)) (v27:(List (Int×Bool))):(Int×(List Qa))→Option ((Int×(List Qa))⊕(((List Qa)))):=fun (v29,v30) =>
 if (decide (v29<(List.length x0:Int))) then
  ((idx x0 v29).bind fun x32 =>
  (Z8 N x32).bind fun r34 =>
  if (!((Q4 (k:=(.int .i64)) r34 v27).getD false)) then
   (Wn N x32).bind fun r35 =>
   (app 56 v30 ([r35]:(List Qa))).bind fun q36 =>
   some q36
  else
   some v30:Option (((List Qa)))).bind fun v37 =>
  some (.inl ((IntKind.wrap .i64 (v29+1)),v37))
 else
  some (.inr v30)
def Zp (N:Nat) (x0:(List Qa)) (x1:(List Qa)):Option ((List Qa)) :=
 (Qw (Vv N x0) N (0,([]:List (Int×Int)))).bind fun v6 =>
 (Qw (Uq N x1 v6 x0) N (0,([]:List (Int×Bool)),([]:(List Qa)))).bind fun (v27,v28) =>
 (Qw (Vw N x0 v27) N (0,v28)).bind fun v38 =>
 (Z5 N v38).bind fun r39 =>
 some r39
def Hu (N:Nat) (x0:(List Qa)) (x1:(List Qa)):Option ((List Qa)) :=
 (Zp N x0 x1).bind fun r1 =>
 some r1
def U0 (N:Nat) (x0:(List Qa)):(Int×Qa)→Option ((Int×Qa)⊕((Qa))):=fun (v17,v18) =>
 if (decide (v17<(List.length x0:Int))) then
  ((idx x0 v17).bind fun x23 =>
  if (x23.Usage==v18.Usage) then
   (idx x0 v17).bind fun x24 =>
   (idx x0 v17).bind fun x25 =>
   some (v18.Usage,v18.Account,v18.Sub,v18.Kind,v18.Start,(IntKind.wrap .i64 (v18.Paid+x24.Paid)),(IntKind.wrap .i64 (v18.Owed+x25.Owed)))
  else
   some v18:Option ((Qa))).bind fun v26 =>
  some (.inl ((IntKind.wrap .i64 (v17+1)),v26))
 else
  some (.inr v18)
def U1 (N:Nat) (x1:(List Qa)) (x0:(List Qa)):((List Qa)×Int)→Option (((List Qa)×Int)⊕(((List Qa)))):=fun (v3,v7) =>
 if (decide (v7<(List.length x1:Int))) then
  (idx x1 v7).bind fun x14 =>
  (Qw (U0 N x0) N (0,x14)).bind fun v27 =>
  (Z6 N v3 v27).bind fun r28 =>
  some (.inl (r28,(IntKind.wrap .i64 (v7+1))))
 else
  some (.inr v3)
def U2 (N:Nat) (x1:(List Qa)) (x0:(List Qa)) (v31:Int):(Bool×Int)→Option ((Bool×Int)⊕((Bool))):=fun (v32,v33) =>
 if (decide (v33<(List.length x1:Int))) then
  (if v32 then
   some true
  else
   (idx x1 v33).bind fun x36 =>
   (idx x0 v31).bind fun x37 =>
   some (x36.Usage==x37.Usage):Option (Bool)).bind fun v38 =>
  some (.inl (v38,(IntKind.wrap .i64 (v33+1))))
 else
  some (.inr v32)
def U3 (N:Nat) (x0:(List Qa)) (x1:(List Qa)):((List Qa)×Int)→Option (((List Qa)×Int)⊕(((List Qa)))):=fun (v30,v31) =>
 if (decide (v31<(List.length x0:Int))) then
  ((Qw (U2 N x1 x0 v31) N (false,0)).bind fun v39 =>
  if (!v39) then
   (idx x0 v31).bind fun x40 =>
   (Z6 N v30 x40).bind fun r41 =>
   some r41
  else
   some v30:Option (((List Qa)))).bind fun v42 =>
  some (.inl (v42,(IntKind.wrap .i64 (v31+1))))
 else
  some (.inr v30)
def Kn (N:Nat) (x0:(List Qa)) (x1:(List Qa)):Option ((List Qa)) :=
 (Qw (U1 N x1 x0) N (([]:(List Qa)),0)).bind fun v29 =>
 (Qw (U3 N x0 x1) N (v29,0)).bind fun v43 =>
 some v43
def U9 (N:Nat) (x0:(List Qa)) (x1:(List Qa)):Option (Bool) :=
 (Uf N x0 20).bind fun r1 =>
 (if (!r1) then
  some true
 else
  (Uf N x1 20).bind fun r3 =>
  some (!r3):Option (Bool)).bind fun v4 =>
 if v4 then
  (Km N).bind fun r5 =>
  some r5
 else
  (app 56 ([]:(List Qa)) x0).bind fun q6 =>
  (app 56 ([]:(List Qa)) x1).bind fun q7 =>
  (Hu N q6 q7).bind fun r8 =>
  (Kn N x0 x1).bind fun r9 =>
  (Zn N r8 r9).bind fun r10 =>
  (if r10 then
   (Km N).bind fun r12 =>
   some r12
  else
   some false:Option (Bool)).bind fun v13 =>
  some v13
end Gx
