/- The Go functions as Lean functions. -/
import Derived.Test.YtbhpbpilmejnlaaGreatXRl
namespace Gx
open Go Gd
set_option linter.unusedVariables false
abbrev Qk:Ty:=.st (.pr (.int .i64) (.pr (.int .i64) (.pr (.int .i64) (.pr (.int .i64) (.pr .str (.pr .str (.pr (.int .i64) (.pr (.int .i64) (.pr (.int .i64) (.pr .bool (.pr (.int .i64) (.int .i64))))))))))))
abbrev Qh:Type:=Int×Int×Int×Int×Str×Str×Int×Int×Int×Bool×Int×Int
abbrev Qh.Id (x:Qh):Int:=x.1
abbrev Qh.Kind (x:Qh):Int:=x.2.1
abbrev Qh.Account (x:Qh):Int:=x.2.2.1
abbrev Qh.Sub (x:Qh):Int:=x.2.2.2.1
abbrev Qh.A (x:Qh):Str:=x.2.2.2.2.1
abbrev Qh.B (x:Qh):Str:=x.2.2.2.2.2.1
abbrev Qh.Start (x:Qh):Int:=x.2.2.2.2.2.2.1
abbrev Qh.Units (x:Qh):Int:=x.2.2.2.2.2.2.2.1
abbrev Qh.Trunk (x:Qh):Int:=x.2.2.2.2.2.2.2.2.1
abbrev Qh.Inbound (x:Qh):Bool:=x.2.2.2.2.2.2.2.2.2.1
abbrev Qh.Source (x:Qh):Int:=x.2.2.2.2.2.2.2.2.2.2.1
abbrev Qh.Serial (x:Qh):Int:=x.2.2.2.2.2.2.2.2.2.2.2
abbrev Jy:Ty:=.st (.pr (.int .i64) (.pr .str (.pr (.int .i64) (.pr (.int .i64) (.int .i64)))))
abbrev J2:Type:=Int×Str×Int×Int×Int
abbrev J2.Sub (x:J2):Int:=x.1
abbrev J2.Product (x:J2):Str:=x.2.1
abbrev J2.Index (x:J2):Int:=x.2.2.1
abbrev J2.From (x:J2):Int:=x.2.2.2.1
abbrev J2.Units (x:J2):Int:=x.2.2.2.2
abbrev Q8:Ty:=.st (.pr .str (.pr (.int .i64) (.pr (.int .i64) (.int .i64))))
abbrev Q4:Type:=Str×Int×Int×Int
abbrev Q4.Band (x:Q4):Str:=x.1
abbrev Q4.Start (x:Q4):Int:=x.2.1
abbrev Q4.Units (x:Q4):Int:=x.2.2.1
abbrev Q4.Amount (x:Q4):Int:=x.2.2.2
abbrev Ju:Ty:=.st (.pr .str (.int .i64))
abbrev J9:Type:=Str×Int
abbrev J9.Name (x:J9):Str:=x.1
abbrev J9.Amount (x:J9):Int:=x.2
abbrev Jm:Ty:=.st (.pr Qk (.pr (.int .i64) (.pr .str (.pr (.int .i64) (.pr .str (.pr (.sl Jy) (.pr (.sl Q8) (.pr (.int .i64) (.pr (.int .i64) (.pr (.int .i64) (.pr (.sl Ju) (.pr (.int .i64) (.int .i64)))))))))))))
abbrev Ql:Type:=Qh×Int×Str×Int×Str×(List J2)×(List Q4)×Int×Int×Int×(List J9)×Int×Int
abbrev Ql.Usage (x:Ql):Qh:=x.1
abbrev Ql.Err (x:Ql):Int:=x.2.1
abbrev Ql.Plan (x:Ql):Str:=x.2.2.1
abbrev Ql.Version (x:Ql):Int:=x.2.2.2.1
abbrev Ql.Zone (x:Ql):Str:=x.2.2.2.2.1
abbrev Ql.Takes (x:Ql):(List J2):=x.2.2.2.2.2.1
abbrev Ql.Segments (x:Ql):(List Q4):=x.2.2.2.2.2.2.1
abbrev Ql.Setup (x:Ql):Int:=x.2.2.2.2.2.2.2.1
abbrev Ql.Gross (x:Ql):Int:=x.2.2.2.2.2.2.2.2.1
abbrev Ql.Net (x:Ql):Int:=x.2.2.2.2.2.2.2.2.2.1
abbrev Ql.Given (x:Ql):(List J9):=x.2.2.2.2.2.2.2.2.2.2.1
abbrev Ql.Paid (x:Ql):Int:=x.2.2.2.2.2.2.2.2.2.2.2.1
abbrev Ql.Owed (x:Ql):Int:=x.2.2.2.2.2.2.2.2.2.2.2.2
abbrev Qw:Ty:=.st (.pr (.int .i64) (.pr (.int .i64) (.pr (.int .i64) (.pr (.int .i64) (.pr (.int .i64) (.pr (.int .i64) (.int .i64)))))))
abbrev Qa:Type:=Int×Int×Int×Int×Int×Int×Int
abbrev Qa.Usage (x:Qa):Int:=x.1
abbrev Qa.Account (x:Qa):Int:=x.2.1
abbrev Qa.Sub (x:Qa):Int:=x.2.2.1
abbrev Qa.Kind (x:Qa):Int:=x.2.2.2.1
abbrev Qa.Start (x:Qa):Int:=x.2.2.2.2.1
abbrev Qa.Paid (x:Qa):Int:=x.2.2.2.2.2.1
abbrev Qa.Owed (x:Qa):Int:=x.2.2.2.2.2.2
abbrev Qp:Ty:=.st (.pr (.int .i64) (.int .i64))
abbrev Qg:Type:=Int×Int
abbrev Qg.From (x:Qg):Int:=x.1
abbrev Qg.To (x:Qg):Int:=x.2
abbrev Qz:Ty:=.st (.pr (.int .i64) (.pr (.int .i64) (.pr .str (.pr (.int .i64) (.pr (.int .i64) (.pr (.sl .str) (.pr Qp (.pr (.int .i64) (.pr (.int .i64) (.pr (.int .i64) .bool))))))))))
abbrev Qj:Type:=Int×Int×Str×Int×Int×(List Str)×Qg×Int×Int×Int×Bool
abbrev Qj.Account (x:Qj):Int:=x.1
abbrev Qj.Sub (x:Qj):Int:=x.2.1
abbrev Qj.Product (x:Qj):Str:=x.2.2.1
abbrev Qj.Index (x:Qj):Int:=x.2.2.2.1
abbrev Qj.Kind (x:Qj):Int:=x.2.2.2.2.1
abbrev Qj.Zones (x:Qj):(List Str):=x.2.2.2.2.2.1
abbrev Qj.Valid (x:Qj):Qg:=x.2.2.2.2.2.2.1
abbrev Qj.Units (x:Qj):Int:=x.2.2.2.2.2.2.2.1
abbrev Qj.Left (x:Qj):Int:=x.2.2.2.2.2.2.2.2.1
abbrev Qj.Priority (x:Qj):Int:=x.2.2.2.2.2.2.2.2.2.1
abbrev Qj.Shared (x:Qj):Bool:=x.2.2.2.2.2.2.2.2.2.2
abbrev Jp:Ty:=.st (.pr (.int .i64) (.pr (.int .i64) (.pr (.int .i64) (.pr (.int .i64) (.int .i64)))))
abbrev Q3:Type:=Int×Int×Int×Int×Int
abbrev Q3.Account (x:Q3):Int:=x.1
abbrev Q3.Balance (x:Q3):Int:=x.2.1
abbrev Q3.Floor (x:Q3):Int:=x.2.2.1
abbrev Q3.Held (x:Q3):Int:=x.2.2.2.1
abbrev Q3.Until (x:Q3):Int:=x.2.2.2.2
abbrev Je:Ty:=.st (.pr (.int .i64) (.pr (.int .i64) (.pr (.int .i64) (.pr (.int .i64) (.int .i64)))))
abbrev Qv:Type:=Int×Int×Int×Int×Int
abbrev Qv.Sub (x:Qv):Int:=x.1
abbrev Qv.Kind (x:Qv):Int:=x.2.1
abbrev Qv.From (x:Qv):Int:=x.2.2.1
abbrev Qv.Units (x:Qv):Int:=x.2.2.2.1
abbrev Qv.Spent (x:Qv):Int:=x.2.2.2.2
abbrev Q5:Ty:=.st (.pr (.sl Qz) (.pr (.sl Jp) (.sl Je)))
abbrev Ja:Type:=(List Qj)×(List Q3)×(List Qv)
abbrev Ja.Buckets (x:Ja):(List Qj):=x.1
abbrev Ja.Wallets (x:Ja):(List Q3):=x.2.1
abbrev Ja.Counters (x:Ja):(List Qv):=x.2.2
abbrev Yh:Ty:=.st (.pr (.int .i64) (.pr (.int .i64) (.pr (.int .i64) (.pr (.int .i64) (.pr .str (.pr .str (.int .i64)))))))
abbrev Jg:Type:=Int×Int×Int×Int×Str×Str×Int
abbrev Jg.At (x:Jg):Int:=x.1
abbrev Jg.Kind (x:Jg):Int:=x.2.1
abbrev Jg.Account (x:Jg):Int:=x.2.2.1
abbrev Jg.Sub (x:Jg):Int:=x.2.2.2.1
abbrev Jg.Number (x:Jg):Str:=x.2.2.2.2.1
abbrev Jg.Name (x:Jg):Str:=x.2.2.2.2.2.1
abbrev Jg.Value (x:Jg):Int:=x.2.2.2.2.2.2
abbrev Yl:Ty:=.st (.pr .str (.sl .str))
abbrev Yf:Type:=Str×(List Str)
abbrev Yf.Name (x:Yf):Str:=x.1
abbrev Yf.Prefixes (x:Yf):(List Str):=x.2
abbrev Gm:Ty:=.st (.pr (.int .i64) (.pr (.int .i64) (.int .i64)))
abbrev Kl:Type:=Int×Int×Int
abbrev Kl.Days (x:Kl):Int:=x.1
abbrev Kl.From (x:Kl):Int:=x.2.1
abbrev Kl.To (x:Kl):Int:=x.2.2
abbrev Yp:Ty:=.st (.pr .str (.sl Gm))
abbrev Yk:Type:=Str×(List Kl)
abbrev Yk.Name (x:Yk):Str:=x.1
abbrev Yk.Slots (x:Yk):(List Kl):=x.2
abbrev Kw:Ty:=.st (.pr (.int .i64) (.pr (.int .i64) (.int .i64)))
abbrev Ug:Type:=Int×Int×Int
abbrev Ug.Upto (x:Ug):Int:=x.1
abbrev Ug.Quantum (x:Ug):Int:=x.2.1
abbrev Ug.Price (x:Ug):Int:=x.2.2
abbrev Vo:Ty:=.st (.pr (.int .i64) (.pr .str (.pr .str (.pr (.int .i64) (.sl Kw)))))
abbrev Y2:Type:=Int×Str×Str×Int×(List Ug)
abbrev Y2.Kind (x:Y2):Int:=x.1
abbrev Y2.Zone (x:Y2):Str:=x.2.1
abbrev Y2.Band (x:Y2):Str:=x.2.2.1
abbrev Y2.Setup (x:Y2):Int:=x.2.2.2.1
abbrev Y2.Steps (x:Y2):(List Ug):=x.2.2.2.2
abbrev Pe:Ty:=.rose (.pr (.int .i64) (.pr (.int .i64) .str))
abbrev Wo:Type:=Cj (Int×Int×Str)
abbrev Wo.Op (x:Wo):Int:=x.x.1
abbrev Wo.Num (x:Wo):Int:=x.x.2.1
abbrev Wo.Text (x:Wo):Str:=x.x.2.2
abbrev Wo.Args (x:Wo):List Wo:=x.ks
abbrev Y3:Ty:=.st (.pr .str (.pr Pe (.int .i64)))
abbrev Ya:Type:=Str×Wo×Int
abbrev Ya.Name (x:Ya):Str:=x.1
abbrev Ya.When (x:Ya):Wo:=x.2.1
abbrev Ya.Points (x:Ya):Int:=x.2.2
abbrev Jq:Ty:=.st (.pr .str (.pr (.int .i64) (.pr .bool (.pr (.sl Yl) (.pr (.sl Yp) (.pr (.sl Vo) (.sl Y3)))))))
abbrev Q6:Type:=Str×Int×Bool×(List Yf)×(List Yk)×(List Y2)×(List Ya)
abbrev Q6.Name (x:Q6):Str:=x.1
abbrev Q6.From (x:Q6):Int:=x.2.1
abbrev Q6.Split (x:Q6):Bool:=x.2.2.1
abbrev Q6.Zones (x:Q6):(List Yf):=x.2.2.2.1
abbrev Q6.Bands (x:Q6):(List Yk):=x.2.2.2.2.1
abbrev Q6.Rates (x:Q6):(List Y2):=x.2.2.2.2.2.1
abbrev Q6.Discounts (x:Q6):(List Ya):=x.2.2.2.2.2.2
abbrev Xc:Ty:=.st (.pr (.int .i64) (.pr (.sl .str) (.pr (.int .i64) (.pr (.int .i64) (.pr (.int .i64) .bool)))))
abbrev Yz:Type:=Int×(List Str)×Int×Int×Int×Bool
abbrev Yz.Kind (x:Yz):Int:=x.1
abbrev Yz.Zones (x:Yz):(List Str):=x.2.1
abbrev Yz.Units (x:Yz):Int:=x.2.2.1
abbrev Yz.Rollover (x:Yz):Int:=x.2.2.2.1
abbrev Yz.Priority (x:Yz):Int:=x.2.2.2.2.1
abbrev Yz.Shared (x:Yz):Bool:=x.2.2.2.2.2
abbrev Vs:Ty:=.st (.pr .str (.pr (.int .i64) (.pr (.int .i64) (.pr .str (.pr .bool (.sl Xc))))))
abbrev Jn:Type:=Str×Int×Int×Str×Bool×(List Yz)
abbrev Jn.Name (x:Jn):Str:=x.1
abbrev Jn.From (x:Jn):Int:=x.2.1
abbrev Jn.Fee (x:Jn):Int:=x.2.2.1
abbrev Jn.Category (x:Jn):Str:=x.2.2.2.1
abbrev Jn.Prorate (x:Jn):Bool:=x.2.2.2.2.1
abbrev Jn.Bundles (x:Jn):(List Yz):=x.2.2.2.2.2
abbrev Qay:Ty:=.st (.pr .str (.pr (.int .i64) (.int .i64)))
abbrev Bu:Type:=Str×Int×Int
abbrev Bu.Category (x:Bu):Str:=x.1
abbrev Bu.From (x:Bu):Int:=x.2.1
abbrev Bu.Points (x:Bu):Int:=x.2.2
abbrev Ez:Ty:=.st (.pr (.int .i64) (.pr (.int .i64) (.pr .bool (.pr Qp (.pr (.sl Kw) (.int .i64))))))
abbrev Y9:Type:=Int×Int×Bool×Qg×(List Ug)×Int
abbrev Y9.Partner (x:Y9):Int:=x.1
abbrev Y9.Kind (x:Y9):Int:=x.2.1
abbrev Y9.Inbound (x:Y9):Bool:=x.2.2.1
abbrev Y9.Valid (x:Y9):Qg:=x.2.2.2.1
abbrev Y9.Steps (x:Y9):(List Ug):=x.2.2.2.2.1
abbrev Y9.Cap (x:Y9):Int:=x.2.2.2.2.2
abbrev Jt:Ty:=.st (.pr (.sl Yh) (.pr (.sl Jq) (.pr (.sl Vs) (.pr (.sl Qay) (.pr (.sl (.int .i64)) (.sl Ez))))))
abbrev Jx:Type:=(List Jg)×(List Q6)×(List Jn)×(List Bu)×(List Int)×(List Y9)
abbrev Jx.Events (x:Jx):(List Jg):=x.1
abbrev Jx.Tariffs (x:Jx):(List Q6):=x.2.1
abbrev Jx.Products (x:Jx):(List Jn):=x.2.2.1
abbrev Jx.Taxes (x:Jx):(List Bu):=x.2.2.2.1
abbrev Jx.Holidays (x:Jx):(List Int):=x.2.2.2.2.1
abbrev Jx.Agreements (x:Jx):(List Y9):=x.2.2.2.2.2
abbrev Xl:Ty:=.st (.pr (.int .i64) (.pr (.int .i64) (.pr .str (.pr .str (.pr (.int .i64) (.pr (.int .i64) (.pr (.int .i64) (.int .i64))))))))
abbrev Ys:Type:=Int×Int×Str×Str×Int×Int×Int×Int
abbrev Ys.Kind (x:Ys):Int:=x.1
abbrev Ys.Sub (x:Ys):Int:=x.2.1
abbrev Ys.Name (x:Ys):Str:=x.2.2.1
abbrev Ys.Category (x:Ys):Str:=x.2.2.2.1
abbrev Ys.Count (x:Ys):Int:=x.2.2.2.2.1
abbrev Ys.Units (x:Ys):Int:=x.2.2.2.2.2.1
abbrev Ys.Amount (x:Ys):Int:=x.2.2.2.2.2.2.1
abbrev Ys.Rounded (x:Ys):Int:=x.2.2.2.2.2.2.2
abbrev Jo:Ty:=.st (.pr Qp (.pr .str (.pr (.sl .str) (.pr .bool .bool))))
abbrev Ji:Type:=Qg×Str×(List Str)×Bool×Bool
abbrev Ji.Period (x:Ji):Qg:=x.1
abbrev Ji.Plan (x:Ji):Str:=x.2.1
abbrev Ji.Products (x:Ji):(List Str):=x.2.2.1
abbrev Ji.Suspended (x:Ji):Bool:=x.2.2.2.1
abbrev Ji.Family (x:Ji):Bool:=x.2.2.2.2
abbrev Qy:Ty:=.st (.pr (.int .i64) (.pr (.int .i64) (.pr (.int .i64) (.pr .bool (.pr .bool (.sl (.int .i64)))))))
abbrev Qu:Type:=Int×Int×Int×Bool×Bool×(List Int)
abbrev Qu.Id (x:Qu):Int:=x.1
abbrev Qu.Since (x:Qu):Int:=x.2.1
abbrev Qu.Anchor (x:Qu):Int:=x.2.2.1
abbrev Qu.Prepaid (x:Qu):Bool:=x.2.2.2.1
abbrev Qu.Closed (x:Qu):Bool:=x.2.2.2.2.1
abbrev Qu.Subs (x:Qu):(List Int):=x.2.2.2.2.2
abbrev Gn:Ty:=.st (.pr Jt (.pr Q5 (.pr Qk (.pr Jo (.pr Qy (.pr Jq (.pr (.int .i64) Jm)))))))
abbrev V9:Type:=Jx×Ja×Qh×Ji×Qu×Q6×Int×Ql
abbrev V9.book (x:V9):Jx:=x.1
abbrev V9.state (x:V9):Ja:=x.2.1
abbrev V9.u (x:V9):Qh:=x.2.2.1
abbrev V9.spell (x:V9):Ji:=x.2.2.2.1
abbrev V9.account (x:V9):Qu:=x.2.2.2.2.1
abbrev V9.tariff (x:V9):Q6:=x.2.2.2.2.2.1
abbrev V9.free (x:V9):Int:=x.2.2.2.2.2.2.1
abbrev V9.r (x:V9):Ql:=x.2.2.2.2.2.2.2
abbrev Vv:Ty:=.st (.pr (.int .i64) (.pr (.int .i64) (.pr (.int .i64) (.pr .str (.pr (.sl .str) (.pr (.sl .str) (.pr .bool .bool)))))))
abbrev Yt:Type:=Int×Int×Int×Str×(List Str)×(List Str)×Bool×Bool
abbrev Yt.Id (x:Yt):Int:=x.1
abbrev Yt.Account (x:Yt):Int:=x.2.1
abbrev Yt.Since (x:Yt):Int:=x.2.2.1
abbrev Yt.Plan (x:Yt):Str:=x.2.2.2.1
abbrev Yt.Numbers (x:Yt):(List Str):=x.2.2.2.2.1
abbrev Yt.Products (x:Yt):(List Str):=x.2.2.2.2.2.1
abbrev Yt.Suspended (x:Yt):Bool:=x.2.2.2.2.2.2.1
abbrev Yt.Family (x:Yt):Bool:=x.2.2.2.2.2.2.2
abbrev Qaz:Ty:=.st (.pr (.int .i64) (.pr (.int .i64) (.pr (.int .i64) (.pr (.int .i64) (.pr (.int .i64) (.pr (.int .i64) (.pr .str (.pr .str .bool))))))))
abbrev Z5:Type:=Int×Int×Int×Int×Int×Int×Str×Str×Bool
abbrev Z5.Kind (x:Z5):Int:=x.1
abbrev Z5.Units (x:Z5):Int:=x.2.1
abbrev Z5.Weekday (x:Z5):Int:=x.2.2.1
abbrev Z5.Minute (x:Z5):Int:=x.2.2.2.1
abbrev Z5.Total (x:Z5):Int:=x.2.2.2.2.1
abbrev Z5.Spent (x:Z5):Int:=x.2.2.2.2.2.1
abbrev Z5.Zone (x:Z5):Str:=x.2.2.2.2.2.2.1
abbrev Z5.Band (x:Z5):Str:=x.2.2.2.2.2.2.2.1
abbrev Z5.Family (x:Z5):Bool:=x.2.2.2.2.2.2.2.2
abbrev Qa0:Ty:=.st (.pr (.sl Qy) (.sl Vv))
abbrev Hw:Type:=(List Qu)×(List Yt)
abbrev Hw.Accounts (x:Hw):(List Qu):=x.1
abbrev Hw.Subs (x:Hw):(List Yt):=x.2
abbrev Qbv:Ty:=.st (.pr (.sl Qz) .ref)
abbrev Fs:Type:=(List Qj)×Unit
abbrev Fs.list (x:Fs):(List Qj):=x.1
abbrev Fs.has (x:Fs):Unit:=x.2
abbrev J5:Ty:=.st (.pr (.int .i64) (.pr .str (.pr (.int .i64) (.int .i64))))
abbrev Jf:Type:=Int×Str×Int×Int
abbrev Jf.sub (x:Jf):Int:=x.1
abbrev Jf.product (x:Jf):Str:=x.2.1
abbrev Jf.index (x:Jf):Int:=x.2.2.1
abbrev Jf.from_ (x:Jf):Int:=x.2.2.2
abbrev V8:Ty:=.st (.pr (.int .i64) (.pr (.int .i64) (.pr .str (.sl Qp))))
abbrev Jj:Type:=Int×Int×Str×(List Qg)
abbrev Jj.account (x:Jj):Int:=x.1
abbrev Jj.sub (x:Jj):Int:=x.2.1
abbrev Jj.product (x:Jj):Str:=x.2.2.1
abbrev Jj.active (x:Jj):(List Qg):=x.2.2.2
abbrev Up:Ty:=.st (.pr Qz (.int .i64))
abbrev Va:Type:=Qj×Int
abbrev Va.bucket (x:Va):Qj:=x.1
abbrev Va.rollover (x:Va):Int:=x.2
abbrev Hx:Ty:=.st (.pr (.int .i64) (.pr (.int .i64) (.pr (.int .i64) (.int .i64))))
abbrev U3:Type:=Int×Int×Int×Int
abbrev U3.start (x:U3):Int:=x.1
abbrev U3.source (x:U3):Int:=x.2.1
abbrev U3.serial (x:U3):Int:=x.2.2.1
abbrev U3.id (x:U3):Int:=x.2.2.2
abbrev Y4:Ty:=.st (.pr (.int .i64) Vv)
abbrev Jl:Type:=Int×Yt
abbrev Jl.at_ (x:Jl):Int:=x.1
abbrev Jl.s (x:Jl):Yt:=x.2
abbrev Ar:Ty:=.st (.pr (.int .i64) (.pr .str (.pr (.int .i64) (.int .i64))))
abbrev V5:Type:=Int×Str×Int×Int
abbrev V5.sub (x:V5):Int:=x.1
abbrev V5.product (x:V5):Str:=x.2.1
abbrev V5.index (x:V5):Int:=x.2.2.1
abbrev V5.from_ (x:V5):Int:=x.2.2.2
abbrev Qa1:Ty:=.st (.pr .str Qp)
abbrev Nr:Type:=Str×Qg
abbrev Nr.Band (x:Nr):Str:=x.1
abbrev Nr.Period (x:Nr):Qg:=x.2
abbrev Rq:Ty:=.st (.pr .ref (.pr .ref (.pr .ref (.pr .ref (.pr .ref (.pr (.sl (.int .i64)) (.sl (.int .i64))))))))
abbrev Y5:Type:=Unit×Unit×Unit×Unit×Unit×(List Int)×(List Int)
abbrev Y5.accounts (x:Y5):Unit:=x.1
abbrev Y5.subs (x:Y5):Unit:=x.2.1
abbrev Y5.ever (x:Y5):Unit:=x.2.2.1
abbrev Y5.owners (x:Y5):Unit:=x.2.2.2.1
abbrev Y5.live (x:Y5):Unit:=x.2.2.2.2.1
abbrev Y5.opened (x:Y5):(List Int):=x.2.2.2.2.2.1
abbrev Y5.added (x:Y5):(List Int):=x.2.2.2.2.2.2
abbrev Pf:Ty:=.st (.pr (.int .i64) (.pr (.int .i64) (.int .i64)))
abbrev Hy:Type:=Int×Int×Int
abbrev Hy.Year (x:Hy):Int:=x.1
abbrev Hy.Month (x:Hy):Int:=x.2.1
abbrev Hy.Day (x:Hy):Int:=x.2.2
abbrev J6:Ty:=.st (.pr (.int .i64) (.pr (.int .i64) (.int .i64)))
abbrev Q9:Type:=Int×Int×Int
abbrev Q9.at_ (x:Q9):Int:=x.1
abbrev Q9.list (x:Q9):Int:=x.2.1
abbrev Q9.by_ (x:Q9):Int:=x.2.2
def Z27 (N:Nat):Option (Jx) :=
 some (([(0,1,1,0,([]:Str),([112,114,101,112,97,105,100]:Str),1),(0,3,1,1,([]:Str),([98,97,115,105,99]:Str),0),(0,8,0,1,([]:Str),([112,97,99,107]:Str),0),(0,14,1,0,([]:Str),([]:Str),700)]:(List Jg)),([(([98,97,115,105,99]:Str),0,false,([(([104,111,109,101]:Str),([([52,57]:Str)]:(List Str)))]:(List Yf)),([(([97,108,108]:Str),([]:(List Kl)))]:(List Yk)),([(1,([]:Str),([]:Str),500,([(0,1,20)]:(List Ug)))]:(List Y2)),([]:(List Ya)))]:(List Q6)),([(([112,97,99,107]:Str),0,0,([102,101,101]:Str),false,([(1,([]:(List Str)),30,0,0,false)]:(List Yz)))]:(List Jn)),([]:(List Bu)),([]:(List Int)),([]:(List Y9)))
def Qzr (N:Nat) (x0:(List Str)):(Unit)→Option ((Unit)⊕((Unit))):=fun _ =>
 (if (decide (0<(List.length x0:Int))) then
  none
 else
  some false:Option (Bool)).bind fun v1 =>
 if v1 then
  none
 else
  some (.inr ())
def Jk3 (N:Nat) (x0:(List Str)) (x1:Str):Option ((List Str)) :=
 (Qx (Qzr N x0) N ()).bind fun _ =>
 (slc x0 0 0).bind fun s2 =>
 (app 16 ([]:(List Str)) s2).bind fun q3 =>
 (app 16 q3 ([x1]:(List Str))).bind fun q4 =>
 (slc x0 0 (List.length x0:Int)).bind fun s5 =>
 (app 16 q4 s5).bind fun q6 =>
 some q6
def Jk4 (N:Nat) (x0:Yt) (x1:Jg):Option (Int×Int×Int×Str×(List Str)×Bool×Bool×(List Str)) :=
 if (x1.Kind==3) then
  some (x1.Sub,x1.Account,x1.At,x1.Name,([]:(List Str)),false,false,([]:(List Str)))
 else
  if (x1.Kind==4) then
   none
  else
   if (x1.Kind==7) then
    none
   else
    if (x1.Kind==8) then
     (Jk3 N x0.Products x1.Name).bind fun r1 =>
     some (x0.Id,x0.Account,x0.Since,x0.Plan,x0.Numbers,x0.Suspended,x0.Family,r1)
    else
     none
def Qzs (N:Nat) (x0:(List Jg)) (x1:Int):(Int×(List Jl)×Int×Int×Int×Str×(List Str)×Bool×Bool×(List Str))→Option ((Int×(List Jl)×Int×Int×Int×Str×(List Str)×Bool×Bool×(List Str))⊕(((List Jl)))):=fun (v9,v10,v11,v12,v13,v14,v15,v16,v17,v18) =>
 if (decide (v9<(List.length x0:Int))) then
  ((idx x0 v9).bind fun x22 =>
  if ((x1==0)||(x22.Sub != x1)) then
   some (v10,v11,v12,v13,v14,v15,v16,v17,v18)
  else
   (Jk4 N (v11,v12,v13,v14,v15,v18,v16,v17) x22).bind fun (r51,r52,r53,r54,r55,r56,r57,r58) =>
   (if (decide ((List.length v10:Int)>0)) then
    (idx v10 (IntKind.wrap .i64 ((List.length v10:Int) - 1))).bind fun _ =>
    (idx v10 (IntKind.wrap .i64 ((List.length v10:Int) - 1))).bind fun x60 =>
    some (x60.at_==x22.At)
   else
    some false:Option (Bool)).bind fun v61 =>
   if v61 then
    (idx v10 (IntKind.wrap .i64 ((List.length v10:Int) - 1))).bind fun _ =>
    (idx v10 (IntKind.wrap .i64 ((List.length v10:Int) - 1))).bind fun y62 =>
    some ((List.set v10 (Int.toNat (IntKind.wrap .i64 ((List.length v10:Int) - 1))) (y62.at_,(r51,r52,r53,r54,r55,r58,r56,r57))),r51,r52,r53,r54,r55,r56,r57,r58)
   else
    (app 104 v10 ([(x22.At,(r51,r52,r53,r54,r55,r58,r56,r57))]:(List Jl))).bind fun q63 =>
    some (q63,r51,r52,r53,r54,r55,r56,r57,r58):Option (((List Jl)×Int×Int×Int×Str×(List Str)×Bool×Bool×(List Str)))).bind fun (v64,v65,v66,v67,v68,v69,v70,v71,v72) =>
  some (.inl ((IntKind.wrap .i64 (v9+1)),v64,v65,v66,v67,v68,v69,v70,v71,v72))
 else
  some (.inr v10)
def Jk5 (N:Nat) (x0:(List Jg)) (x1:Int):Option ((List Jl)) :=
 (Qx (Qzs N x0 x1) N (0,([]:(List Jl)),0,0,0,([]:Str),([]:(List Str)),false,false,([]:(List Str)))).bind fun v73 =>
 some v73
def Qzt (N:Nat) (x0:(List Jl)):(Int×(List Jl))→Option ((Int×(List Jl))⊕(((List Jl)))):=fun (v2,v3) =>
 if (decide (v2<(List.length x0:Int))) then
  (idx x0 v2).bind fun x4 =>
  if (decide ((List.length v3:Int)>0)) then
   none
  else
   (app 104 v3 ([x4]:(List Jl))).bind fun q5 =>
   some (.inl ((IntKind.wrap .i64 (v2+1)),q5))
 else
  some (.inr v3)
def Jk6 (N:Nat) (x0:(List Jl)):Option ((List Jl)) :=
 (Qx (Qzt N x0) N (0,([]:(List Jl)))).bind fun v6 =>
 some v6
def Jc5 (N:Nat) (r2:(List Jl)):(Int×(List Ji))→Option ((Int×(List Ji))⊕(((List Ji)))):=fun (v4,v5) =>
 if (decide (v4<(List.length r2:Int))) then
  (idx r2 v4).bind fun _ =>
  (idx r2 v4).bind fun x6 =>
  if (x6.s.Id==0) then
   none
  else
   if (decide ((IntKind.wrap .i64 (v4+1))<(List.length r2:Int))) then
    none
   else
    (app 16 ([]:(List Str)) x6.s.Products).bind fun q9 =>
    (app 64 v5 ([((x6.at_,12622780800),x6.s.Plan,q9,x6.s.Suspended,x6.s.Family)]:(List Ji))).bind fun q10 =>
    some (.inl ((IntKind.wrap .i64 (v4+1)),q10))
 else
  some (.inr v5)
def Z82 (N:Nat) (x0:(List Jg)) (x1:Int):Option ((List Ji)) :=
 (Jk5 N x0 x1).bind fun r1 =>
 (Jk6 N r1).bind fun r2 =>
 (Qx (Jc5 N r2) N (0,([]:(List Ji)))).bind fun v11 =>
 some v11
def Qrg (N:Nat) (x0:Qg):Option (Bool) :=
 some (((decide (x0.From≥0))&&(decide (x0.From<x0.To)))&&(decide (x0.To≤12622780800)))
def Z83 (N:Nat) (x0:Qg) (x1:Int):Option (Bool) :=
 (Qrg N x0).bind fun r1 =>
 some ((r1&&(decide (x1≥x0.From)))&&(decide (x1<x0.To)))
def Jc6 (N:Nat) (r1:(List Ji)) (x2:Int):(Qg×Str×Bool×Bool)→Option ((Qg×Str×Bool×Bool)⊕((Qg×Str×Bool×Bool)⊕(Bool×Ji))):=fun (v2,v3,v4,v5) =>
 if (decide (0<(List.length r1:Int))) then
  (idx r1 0).bind fun _ =>
  (idx r1 0).bind fun x6 =>
  (Z83 N x6.Period x2).bind fun r7 =>
  if r7 then
   some (.inr (.inr (true,x6)))
  else
   none
 else
  some (.inr (.inl (v2,v3,v4,v5)))
def Z63 (N:Nat) (x0:(List Jg)) (x1:Int) (x2:Int):Option (Ji×Bool) :=
 (Z82 N x0 x1).bind fun r1 =>
 (Qx (Jc6 N r1 x2) N ((0,0),([]:Str),false,false)).bind fun
  | .inl (v8,v9,v10,v11) =>
   some (((0,0),([]:Str),([]:(List Str)),false,false),false)
  | .inr (v12,v13) =>
   some (v13,v12)
def Jk7 (N:Nat):Option ((List (Int×Qu))×(List (Int×Yt))×(List (Int×Bool))×(List (Str×Int))×(List (Int×Int))) :=
 some (([]:List (Int×Qu)),([]:List (Int×Yt)),([]:List (Int×Bool)),([]:List (Str×Int)),([]:List (Int×Int)))
def Jk8 (N:Nat) (x0:(List Jg)) (x1:Int):Option ((List Jg)×Int) :=
 some (x0,x1)
def Qzu (N:Nat) (x1:(List Jg)) (x2:Int):((Int)×(List Jg))→Option (((Int)×(List Jg))⊕(((Unit))×(List Jg))):=fun (v1,acc2) =>
 if (decide (v1<(List.length x1:Int))) then
  (idx x1 v1).bind fun x3 =>
  if (decide (x3.At≤x2)) then
   if (!true) then
    none
   else
    some (.inl ((IntKind.wrap .i64 (v1+1)),(acc2++[x3])))
  else
   some (.inl ((IntKind.wrap .i64 (v1+1)),acc2))
 else
  some (.inr ((),acc2))
def Jk9 (N:Nat) (x1:(List Jg)) (x2:Int):Option (List Jg) :=
 (Qx (Qzu N x1 x2) N (0,([]:(List Jg)))).bind fun (_,acc4) =>
 some acc4
def Qzv (N:Nat) (x0:(List Int)):(Unit)→Option ((Unit)⊕((Unit))):=fun _ =>
 (if (decide (0<(List.length x0:Int))) then
  none
 else
  some false:Option (Bool)).bind fun v1 =>
 if v1 then
  none
 else
  some (.inr ())
def Jc7 (N:Nat) (x0:(List Int)) (x1:Int):Option ((List Int)) :=
 (Qx (Qzv N x0) N ()).bind fun _ =>
 (slc x0 0 0).bind fun s2 =>
 (app 8 ([]:(List Int)) s2).bind fun q3 =>
 (app 8 q3 ([x1]:(List Int))).bind fun q4 =>
 (slc x0 0 (List.length x0:Int)).bind fun s5 =>
 (app 8 q4 s5).bind fun q6 =>
 some q6
def Qzw (N:Nat) (x0:(List Str)):(Unit)→Option ((Unit)⊕((Unit))):=fun _ =>
 (if (decide (0<(List.length x0:Int))) then
  none
 else
  some false:Option (Bool)).bind fun v1 =>
 if v1 then
  none
 else
  some (.inr ())
def Jla (N:Nat) (x0:(List Str)) (x1:Str):Option ((List Str)) :=
 (Qx (Qzw N x0) N ()).bind fun _ =>
 (slc x0 0 0).bind fun s2 =>
 (app 16 ([]:(List Str)) s2).bind fun q3 =>
 (app 16 q3 ([x1]:(List Str))).bind fun q4 =>
 (slc x0 0 (List.length x0:Int)).bind fun s5 =>
 (app 16 q4 s5).bind fun q6 =>
 some q6
def Qnh (N:Nat) (x1:Yt) (x2:Jg) (m5000_5:(List Int)) (m5000_6:(List Int)) (m5001:(List (Int×Qu))) (m5002:(List (Int×Yt))) (m5003:(List (Int×Bool))) (m5004:(List (Str×Int))) (m5005:(List (Int×Int))):Option (Int×Int×Int×Str×(List Str)×Bool×Bool×(List Str)) :=
 if (x2.Kind==5) then
  none
 else
  if (x2.Kind==6) then
   none
  else
   if (x2.Kind==7) then
    none
   else
    if (x2.Kind==8) then
     (Jla N x1.Products x2.Name).bind fun r1 =>
     some (x1.Id,x1.Account,x1.Since,x1.Plan,x1.Numbers,x1.Suspended,x1.Family,r1)
    else
     none
def Qni (N:Nat) (x1:Jg) (m5000_5:(List Int)) (m5000_6:(List Int)) (m5001:(List (Int×Qu))) (m5002:(List (Int×Yt))) (m5003:(List (Int×Bool))) (m5004:(List (Str×Int))) (m5005:(List (Int×Int))):Option ((List Int)×(List Int)×(List (Int×Qu))×(List (Int×Yt))×(List (Int×Bool))×(List (Str×Int))×(List (Int×Int))) :=
 if (x1.Kind==1) then
  if (!(Q0 (k:=(.int .i64)) x1.Account m5001).isSome) then
   (Jc7 N m5000_5 x1.Account).bind fun r1 =>
   some (r1,m5000_6,(Vq (k:=(.int .i64)) x1.Account (x1.Account,x1.At,x1.Value,(x1.Name==([112,114,101,112,97,105,100]:Str)),false,([]:(List Int))) m5001),m5002,m5003,m5004,m5005)
  else
   none
 else
  if (x1.Kind==2) then
   none
  else
   if (x1.Kind==3) then
    if (!((Q0 (k:=(.int .i64)) x1.Sub m5003).getD false)) then
     (Jc7 N m5000_6 x1.Sub).bind fun r2 =>
     some (m5000_5,r2,m5001,(Vq (k:=(.int .i64)) x1.Sub (x1.Sub,x1.Account,x1.At,x1.Name,([]:(List Str)),([]:(List Str)),false,false) m5002),(Vq (k:=(.int .i64)) x1.Sub true m5003),m5004,(Vq (k:=(.int .i64)) x1.Account (IntKind.wrap .i64 (((Q0 (k:=(.int .i64)) x1.Account m5005).getD 0)+1)) m5005))
    else
     none
   else
    if (x1.Kind==4) then
     none
    else
     (if (x1.Kind==14) then
      some (x1.Kind==14)
     else
      some (x1.Kind==15):Option ((Bool))).bind fun v3 =>
     if v3 then
      some (m5000_5,m5000_6,m5001,m5002,m5003,m5004,m5005)
     else
      if (Q0 (k:=(.int .i64)) x1.Sub m5002).isSome then
       (Qnh N ((Q0 (k:=(.int .i64)) x1.Sub m5002).getD (0,0,0,([]:Str),([]:(List Str)),([]:(List Str)),false,false)) x1 m5000_5 m5000_6 m5001 m5002 m5003 m5004 m5005).bind fun (r4,r5,r6,r7,r8,r9,r10,r11) =>
       some (m5000_5,m5000_6,m5001,(Vq (k:=(.int .i64)) x1.Sub (r4,r5,r6,r7,r8,r11,r9,r10) m5002),m5003,m5004,m5005)
      else
       none
def Qzx (N:Nat) (m5000_6:(List Int)) (m5002:(List (Int×Yt))):(Int×(List (Int×(List Int)))×(List Yt))→Option ((Int×(List (Int×(List Int)))×(List Yt))⊕(((List (Int×(List Int)))×(List Yt)))):=fun (v4,v5,v6) =>
 if (decide (v4<(List.length m5000_6:Int))) then
  (idx m5000_6 v4).bind fun x7 =>
  if (!(Q0 (k:=(.int .i64)) x7 m5002).isSome) then
   none
  else
   (chk (eqK (.int .i64) (((Q0 (k:=(.int .i64)) x7 m5002).getD (0,0,0,([]:Str),([]:(List Str)),([]:(List Str)),false,false)).Account) (((Q0 (k:=(.int .i64)) x7 m5002).getD (0,0,0,([]:Str),([]:(List Str)),([]:(List Str)),false,false)).Account))).bind fun _ =>
   (app 8 (Qkb (fun (y:(List Int))=>(y:(List Int))) (Q0 (k:=(.int .i64)) (((Q0 (k:=(.int .i64)) x7 m5002).getD (0,0,0,([]:Str),([]:(List Str)),([]:(List Str)),false,false)).Account) v5)) ([x7]:(List Int))).bind fun q8 =>
   (chk (eqK (.int .i64) (((Q0 (k:=(.int .i64)) x7 m5002).getD (0,0,0,([]:Str),([]:(List Str)),([]:(List Str)),false,false)).Account) (((Q0 (k:=(.int .i64)) x7 m5002).getD (0,0,0,([]:Str),([]:(List Str)),([]:(List Str)),false,false)).Account))).bind fun _ =>
   (app 96 v6 ([((Q0 (k:=(.int .i64)) x7 m5002).getD (0,0,0,([]:Str),([]:(List Str)),([]:(List Str)),false,false))]:(List Yt))).bind fun q9 =>
   some (.inl ((IntKind.wrap .i64 (v4+1)),(Vq (k:=(.int .i64)) (((Q0 (k:=(.int .i64)) x7 m5002).getD (0,0,0,([]:Str),([]:(List Str)),([]:(List Str)),false,false)).Account) q8 v5),q9))
 else
  some (.inr (v5,v6))
def Qzy (N:Nat) (m5000_5:(List Int)) (m5001:(List (Int×Qu))) (v10:(List (Int×(List Int)))):(Int×(List Qu)×(List Yt))→Option ((Int×(List Qu)×(List Yt))⊕(((List Qu)×(List Yt)))):=fun (v15,v16,v17) =>
 if (decide (v15<(List.length m5000_5:Int))) then
  (idx m5000_5 v15).bind fun x18 =>
  (app 56 v16 ([(((Q0 (k:=(.int .i64)) x18 m5001).getD (0,0,0,false,false,([]:(List Int)))).Id,((Q0 (k:=(.int .i64)) x18 m5001).getD (0,0,0,false,false,([]:(List Int)))).Since,((Q0 (k:=(.int .i64)) x18 m5001).getD (0,0,0,false,false,([]:(List Int)))).Anchor,((Q0 (k:=(.int .i64)) x18 m5001).getD (0,0,0,false,false,([]:(List Int)))).Prepaid,((Q0 (k:=(.int .i64)) x18 m5001).getD (0,0,0,false,false,([]:(List Int)))).Closed,((Q0 (k:=(.int .i64)) x18 v10).getD ([]:(List Int))))]:(List Qu))).bind fun q19 =>
  some (.inl ((IntKind.wrap .i64 (v15+1)),q19,v17))
 else
  some (.inr (v16,v17))
def Jlb (N:Nat) (m5000_5:(List Int)) (m5000_6:(List Int)) (m5001:(List (Int×Qu))) (m5002:(List (Int×Yt))) (m5003:(List (Int×Bool))) (m5004:(List (Str×Int))) (m5005:(List (Int×Int))):Option ((List Qu)×(List Yt)) :=
 (Qx (Qzx N m5000_6 m5002) N (0,([]:List (Int×(List Int))),([]:(List Yt)))).bind fun (v10,v11) =>
 (Qx (Qzy N m5000_5 m5001 v10) N (0,([]:(List Qu)),v11)).bind fun (v20,v21) =>
 some (v20,v21)
def Jc8 (N:Nat):((List Int)×(List Int)×(List (Int×Qu))×(List (Int×Yt))×(List (Int×Bool))×(List (Str×Int))×(List (Int×Int)))→Jg→Option ((List Int)×(List Int)×(List (Int×Qu))×(List (Int×Yt))×(List (Int×Bool))×(List (Str×Int))×(List (Int×Int))):=fun (v13,v14,v15,v16,v17,v18,v19) e20 =>
 (Qni N e20 v13 v14 v15 v16 v17 v18 v19).bind fun (r21,r22,r23,r24,r25,r26,r27) =>
 some (r21,r22,r23,r24,r25,r26,r27)
def Z84 (N:Nat) (x0:(List Jg)) (x1:Int):Option ((List Qu)×(List Yt)) :=
 (Jk7 N).bind fun (r1,r2,r3,r4,r5) =>
 (Jk8 N x0 x1).bind fun (r6,r7) =>
 (Jk9 N r6 r7).bind fun es35 =>
 (Qhe (Jc8 N) es35 (([]:(List Int)),([]:(List Int)),r1,r2,r3,r4,r5)).bind fun (v28,v29,v30,v31,v32,v33,v34) =>
 (Jlb N v28 v29 v30 v31 v32 v33 v34).bind fun (r36,r37) =>
 some (r36,r37)
def Jc9 (N:Nat) (r2:(List Yt)) (x1:Int):(Int×Int×Int×Str×Bool×Bool)→Option ((Int×Int×Int×Str×Bool×Bool)⊕((Bool×Yt))):=fun (v3,v4,v5,v6,v7,v8) =>
 if (decide (0<(List.length r2:Int))) then
  (idx r2 0).bind fun _ =>
  (idx r2 0).bind fun x9 =>
  if (x9.Id==x1) then
   some (.inr (true,x9))
  else
   none
 else
  none
def Z64 (N:Nat) (x0:(List Jg)) (x1:Int) (x2:Int):Option (Yt×Bool) :=
 (Z84 N x0 x2).bind fun (r1,r2) =>
 (Qx (Jc9 N r2 x1) N (0,0,0,([]:Str),false,false)).bind fun (v10,v11) =>
 some (v11,v10)
def Jda (N:Nat) (r1:(List Qu)) (x1:Int):(Int×Int×Int×Bool×Bool)→Option ((Int×Int×Int×Bool×Bool)⊕((Bool×Qu))):=fun (v3,v4,v5,v6,v7) =>
 if (decide (0<(List.length r1:Int))) then
  (idx r1 0).bind fun _ =>
  (idx r1 0).bind fun x8 =>
  if (x8.Id==x1) then
   some (.inr (true,x8))
  else
   none
 else
  none
def Z65 (N:Nat) (x0:(List Jg)) (x1:Int) (x2:Int):Option (Qu×Bool) :=
 (Z84 N x0 x2).bind fun (r1,r2) =>
 (Qx (Jda N r1 x1) N (0,0,0,false,false)).bind fun (v9,v10) =>
 some (v10,v9)
def Z49 (N:Nat) (m5000_0:Jx) (m5000_1:Ja) (m5000_2:Qh) (m5000_3_0:Qg) (m5000_3_1:Str) (m5000_3_3:Bool) (m5000_3_4:Bool) (m5000_4_0:Int) (m5000_4_1:Int) (m5000_4_2:Int) (m5000_4_3:Bool) (m5000_4_4:Bool) (m5000_5_0:Str) (m5000_5_1:Int) (m5000_5_2:Bool) (m5000_6:Int) (m5000_7_0:Qh) (m5000_7_1:Int) (m5000_7_2:Str) (m5000_7_3:Int) (m5000_7_4:Str) (m5000_7_7:Int) (m5000_7_8:Int) (m5000_7_9:Int) (m5000_7_11:Int) (m5000_7_12:Int) (m5001:(List Str)) (m5002:(List Int)) (m5003:(List Yf)) (m5004:(List Yk)) (m5005:(List Y2)) (m5006:(List Ya)) (m5007:(List J2)) (m5008:(List Q4)) (m5009:(List J9)):Option (Int×Jx×Ja×Qh×Qg×Str×(List Str)×Bool×Bool×Int×Int×Int×Bool×Bool×(List Int)×Str×Int×Bool×Int×Qh×Int×Str×Int×Str×Int×Int×Int×Int×Int×(List Yf)×(List Yk)×(List Y2)×(List Ya)×(List J2)×(List Q4)×(List J9)) :=
 (Z63 N m5000_0.Events m5000_2.Sub m5000_2.Start).bind fun (r1,r2) =>
 if (!r2) then
  some (11,m5000_0,m5000_1,m5000_2,m5000_3_0,m5000_3_1,m5001,m5000_3_3,m5000_3_4,m5000_4_0,m5000_4_1,m5000_4_2,m5000_4_3,m5000_4_4,m5002,m5000_5_0,m5000_5_1,m5000_5_2,m5000_6,m5000_7_0,m5000_7_1,m5000_7_2,m5000_7_3,m5000_7_4,m5000_7_7,m5000_7_8,m5000_7_9,m5000_7_11,m5000_7_12,m5003,m5004,m5005,m5006,m5007,m5008,m5009)
 else
  (Z64 N m5000_0.Events m5000_2.Sub m5000_2.Start).bind fun (r3,r4) =>
  if (r3.Account != m5000_2.Account) then
   none
  else
   if r1.Suspended then
    none
   else
    (Z65 N m5000_0.Events r3.Account m5000_2.Start).bind fun (r7,r8) =>
    some (0,m5000_0,m5000_1,m5000_2,r1.Period,r1.Plan,r1.Products,r1.Suspended,r1.Family,r7.Id,r7.Since,r7.Anchor,r7.Prepaid,r7.Closed,r7.Subs,m5000_5_0,m5000_5_1,m5000_5_2,m5000_6,m5000_7_0,m5000_7_1,m5000_7_2,m5000_7_3,m5000_7_4,m5000_7_7,m5000_7_8,m5000_7_9,m5000_7_11,m5000_7_12,m5003,m5004,m5005,m5006,m5007,m5008,m5009)
def Z48 (N:Nat) (m5001_0:Jx) (m5001_1:Ja) (m5001_2:Qh) (m5001_3_0:Qg) (m5001_3_1:Str) (m5001_3_3:Bool) (m5001_3_4:Bool) (m5001_4_0:Int) (m5001_4_1:Int) (m5001_4_2:Int) (m5001_4_3:Bool) (m5001_4_4:Bool) (m5001_5_0:Str) (m5001_5_1:Int) (m5001_5_2:Bool) (m5001_6:Int) (m5001_7_0:Qh) (m5001_7_1:Int) (m5001_7_2:Str) (m5001_7_3:Int) (m5001_7_4:Str) (m5001_7_7:Int) (m5001_7_8:Int) (m5001_7_9:Int) (m5001_7_11:Int) (m5001_7_12:Int) (m5002:(List Str)) (m5003:(List Int)) (m5004:(List Yf)) (m5005:(List Yk)) (m5006:(List Y2)) (m5007:(List Ya)) (m5008:(List J2)) (m5009:(List Q4)) (m5010:(List J9)):Option (Int×Jx×Ja×Qh×Ji×Qu×Str×Int×Bool×Int×Qh×Int×Str×Int×Str×Int×Int×Int×Int×Int×(List Yf)×(List Yk)×(List Y2)×(List Ya)×(List J2)×(List Q4)×(List J9)) :=
 (Z49 N m5001_0 m5001_1 m5001_2 m5001_3_0 m5001_3_1 m5001_3_3 m5001_3_4 m5001_4_0 m5001_4_1 m5001_4_2 m5001_4_3 m5001_4_4 m5001_5_0 m5001_5_1 m5001_5_2 m5001_6 m5001_7_0 m5001_7_1 m5001_7_2 m5001_7_3 m5001_7_4 m5001_7_7 m5001_7_8 m5001_7_9 m5001_7_11 m5001_7_12 m5002 m5003 m5004 m5005 m5006 m5007 m5008 m5009 m5010).bind fun (r1,r2,r3,r4,r5,r6,r7,r8,r9,r10,r11,r12,r13,r14,r15,r16,r17,r18,r19,r20,r21,r22,r23,r24,r25,r26,r27,r28,r29,r30,r31,r32,r33,r34,r35,r36) =>
 some (r1,r2,r3,r4,(r5,r6,r7,r8,r9),(r10,r11,r12,r13,r14,r15),r16,r17,r18,r19,r20,r21,r22,r23,r24,r25,r26,r27,r28,r29,r30,r31,r32,r33,r34,r35,r36)
def Z47 (N:Nat) (m5001_0:Jx) (m5001_1:Ja) (m5001_2:Qh) (m5001_3_0:Qg) (m5001_3_1:Str) (m5001_3_3:Bool) (m5001_3_4:Bool) (m5001_4_0:Int) (m5001_4_1:Int) (m5001_4_2:Int) (m5001_4_3:Bool) (m5001_4_4:Bool) (m5001_5_0:Str) (m5001_5_1:Int) (m5001_5_2:Bool) (m5001_6:Int) (m5001_7_0:Qh) (m5001_7_1:Int) (m5001_7_2:Str) (m5001_7_3:Int) (m5001_7_4:Str) (m5001_7_7:Int) (m5001_7_8:Int) (m5001_7_9:Int) (m5001_7_11:Int) (m5001_7_12:Int) (m5002:(List Str)) (m5003:(List Int)) (m5004:(List Yf)) (m5005:(List Yk)) (m5006:(List Y2)) (m5007:(List Ya)) (m5008:(List J2)) (m5009:(List Q4)) (m5010:(List J9)) (m5011:Int):Option (Jx×Ja×Qh×Qg×Str×(List Str)×Bool×Bool×Int×Int×Int×Bool×Bool×(List Int)×Str×Int×Bool×Int×Qh×Int×Str×Int×Str×Int×Int×Int×Int×Int×Int×(List Yf)×(List Yk)×(List Y2)×(List Ya)×(List J2)×(List Q4)×(List J9)) :=
 if (m5011==0) then
  (Z48 N m5001_0 m5001_1 m5001_2 m5001_3_0 m5001_3_1 m5001_3_3 m5001_3_4 m5001_4_0 m5001_4_1 m5001_4_2 m5001_4_3 m5001_4_4 m5001_5_0 m5001_5_1 m5001_5_2 m5001_6 m5001_7_0 m5001_7_1 m5001_7_2 m5001_7_3 m5001_7_4 m5001_7_7 m5001_7_8 m5001_7_9 m5001_7_11 m5001_7_12 m5002 m5003 m5004 m5005 m5006 m5007 m5008 m5009 m5010).bind fun (r1,r2,r3,r4,r5,r6,r7,r8,r9,r10,r11,r12,r13,r14,r15,r16,r17,r18,r19,r20,r21,r22,r23,r24,r25,r26,r27) =>
  some (r2,r3,r4,r5.Period,r5.Plan,r5.Products,r5.Suspended,r5.Family,r6.Id,r6.Since,r6.Anchor,r6.Prepaid,r6.Closed,r6.Subs,r7,r8,r9,r10,r11,r12,r13,r14,r15,r16,r17,r18,r19,r20,r1,r21,r22,r23,r24,r25,r26,r27)
 else
  some (m5001_0,m5001_1,m5001_2,m5001_3_0,m5001_3_1,m5002,m5001_3_3,m5001_3_4,m5001_4_0,m5001_4_1,m5001_4_2,m5001_4_3,m5001_4_4,m5003,m5001_5_0,m5001_5_1,m5001_5_2,m5001_6,m5001_7_0,m5001_7_1,m5001_7_2,m5001_7_3,m5001_7_4,m5001_7_7,m5001_7_8,m5001_7_9,m5001_7_11,m5001_7_12,m5011,m5004,m5005,m5006,m5007,m5008,m5009,m5010)
def Jlc (N:Nat) (x0:(List Str)):Option ((List Str)) :=
 (app 16 ([]:(List Str)) x0).bind fun q1 =>
 some q1
def Jld (N:Nat) (x0:(List Kl)):Option ((List Kl)) :=
 (app 24 ([]:(List Kl)) x0).bind fun q1 =>
 some q1
def Jle (N:Nat) (x0:(List Ug)):Option ((List Ug)) :=
 (app 24 ([]:(List Ug)) x0).bind fun q1 =>
 some q1
def Jdb (N:Nat) (x0:Q6):(Int×Str×Int×Bool×(List Yf))→Option ((Int×Str×Int×Bool×(List Yf))⊕((Str×Int×Bool×(List Yf)))):=fun (v6,v7,v8,v9,v10) =>
 if (decide (v6<(List.length x0.Zones:Int))) then
  (idx x0.Zones v6).bind fun x11 =>
  (Jlc N x11.Prefixes).bind fun r12 =>
  (app 40 v10 ([(x11.Name,r12)]:(List Yf))).bind fun q13 =>
  some (.inl ((IntKind.wrap .i64 (v6+1)),v7,v8,v9,q13))
 else
  some (.inr (v7,v8,v9,v10))
def Jdc (N:Nat) (x0:Q6):(Int×Str×Int×Bool×(List Yf)×(List Yk))→Option ((Int×Str×Int×Bool×(List Yf)×(List Yk))⊕((Str×Int×Bool×(List Yf)×(List Yk)))):=fun (v24,v25,v26,v27,v28,v29) =>
 if (decide (v24<(List.length x0.Bands:Int))) then
  (idx x0.Bands v24).bind fun x30 =>
  (Jld N x30.Slots).bind fun r31 =>
  (app 40 v29 ([(x30.Name,r31)]:(List Yk))).bind fun q32 =>
  some (.inl ((IntKind.wrap .i64 (v24+1)),v25,v26,v27,v28,q32))
 else
  some (.inr (v25,v26,v27,v28,v29))
def Jdd (N:Nat) (x0:Q6):(Int×Str×Int×Bool×(List Yf)×(List Yk)×(List Y2))→Option ((Int×Str×Int×Bool×(List Yf)×(List Yk)×(List Y2))⊕((Str×Int×Bool×(List Yf)×(List Yk)×(List Y2)))):=fun (v45,v46,v47,v48,v49,v50,v51) =>
 if (decide (v45<(List.length x0.Rates:Int))) then
  (idx x0.Rates v45).bind fun x52 =>
  (Jle N x52.Steps).bind fun r53 =>
  (app 72 v51 ([(x52.Kind,x52.Zone,x52.Band,x52.Setup,r53)]:(List Y2))).bind fun q54 =>
  some (.inl ((IntKind.wrap .i64 (v45+1)),v46,v47,v48,v49,v50,q54))
 else
  some (.inr (v46,v47,v48,v49,v50,v51))
def Jde (N:Nat) (x0:Q6):(Unit)→Option ((Unit)⊕((Unit))):=fun _ =>
 if (decide (0<(List.length x0.Discounts:Int))) then
  none
 else
  some (.inr ())
def Z85 (N:Nat) (x0:Q6):Option (Str×Int×Bool×(List Yf)×(List Yk)×(List Y2)) :=
 (Qx (Jdb N x0) N (0,x0.Name,x0.From,x0.Split,([]:(List Yf)))).bind fun (v14,v15,v16,v17) =>
 (Qx (Jdc N x0) N (0,v14,v15,v16,v17,([]:(List Yk)))).bind fun (v33,v34,v35,v36,v37) =>
 (Qx (Jdd N x0) N (0,v33,v34,v35,v36,v37,([]:(List Y2)))).bind fun (v55,v56,v57,v58,v59,v60) =>
 (Qx (Jde N x0) N ()).bind fun _ =>
 some (v55,v56,v57,v58,v59,v60)
def Jdf (N:Nat) (x0:(List Q6)) (x1:Str) (x2:Int):(Int×Int)→Option ((Int×Int)⊕((Int))):=fun (v1,v2) =>
 if (decide (v2<(List.length x0:Int))) then
  (idx x0 v2).bind fun x3 =>
  if ((x3.Name==x1)&&(decide (x3.From≤x2))) then
   some (.inl (v2,(IntKind.wrap .i64 (v2+1))))
  else
   none
 else
  some (.inr v1)
def Z66 (N:Nat) (x0:(List Q6)) (x1:Str) (x2:Int):Option (Q6×Bool) :=
 (Qx (Jdf N x0 x1 x2) N ((-1),0)).bind fun v4 =>
 if (decide (v4<0)) then
  none
 else
  (idx x0 v4).bind fun x5 =>
  (Z85 N x5).bind fun (r6,r7,r8,r9,r10,r11) =>
  some ((r6,r7,r8,r9,r10,r11,([]:(List Ya))),true)
def Qzz (N:Nat) (x0:Str):(Int)→Option ((Int)⊕((Unit))):=fun v1 =>
 if (decide (v1<(List.length x0:Int))) then
  (Qpr x0 v1).bind fun c2 =>
  if (((decide (c2<97))||(decide (c2>122)))&&((v1==0)||((c2 != 45)&&((decide (c2<48))||(decide (c2>57)))))) then
   none
  else
   some (.inl (IntKind.wrap .i64 (v1+1)))
 else
  some (.inr ())
def Jlf (N:Nat) (x0:Str):Option (Bool) :=
 (Qx (Qzz N x0) N 0).bind fun _ =>
 some ((decide ((List.length x0:Int)≥1))&&(decide ((List.length x0:Int)≤24)))
def Qz0 (N:Nat) (x0:(List Yf)):(Unit)→Option ((Unit)⊕((Unit))):=fun _ =>
 if (decide (0<(List.length x0:Int))) then
  none
 else
  some (.inr ())
def Jlg (N:Nat) (x0:(List Yf)) (m5000:Yf):Option (Int) :=
 (Qx (Qz0 N x0) N ()).bind fun _ =>
 some (-1)
def Jlh (N:Nat) (x0:(List Yf)) (m5000:Yf):Option (Bool) :=
 (Jlg N x0 m5000).bind fun r1 =>
 some (decide (r1≥0))
def Jli (N:Nat) (x0:Int):Option (Bool) :=
 some ((decide (x0≥48))&&(decide (x0≤57)))
def Jdg (N:Nat) (x0:Str):(Int)→Option ((Int)⊕((Unit))):=fun v1 =>
 if (decide (v1<(List.length x0:Int))) then
  (Qpr x0 v1).bind fun c2 =>
  (Jli N c2).bind fun r3 =>
  if (!r3) then
   none
  else
   some (.inl (IntKind.wrap .i64 (v1+1)))
 else
  some (.inr ())
def Z87 (N:Nat) (x0:Str):Option (Bool) :=
 (Qx (Jdg N x0) N 0).bind fun _ =>
 some ((decide ((List.length x0:Int)≥1))&&(decide ((List.length x0:Int)≤15)))
def Jdh (N:Nat) (x4:Yf):(Int×(List (Str×Str)))→Option ((Int×(List (Str×Str)))⊕(((List (Str×Str))))):=fun (v11,v12) =>
 if (decide (v11<(List.length x4.Prefixes:Int))) then
  (idx x4.Prefixes v11).bind fun x13 =>
  (Z87 N x13).bind fun r14 =>
  if (!r14) then
   none
  else
   if (Q0 (k:=.str) x13 v12).isSome then
    none
   else
    some (.inl ((IntKind.wrap .i64 (v11+1)),(Vq (k:=.str) x13 x4.Name v12)))
 else
  some (.inr v12)
def Jdi (N:Nat) (x0:(List Yf)):(Int×(List (Str×Str)))→Option ((Int×(List (Str×Str)))⊕(((List (Str×Str))))):=fun (v2,v3) =>
 if (decide (v2<(List.length x0:Int))) then
  (idx x0 v2).bind fun x4 =>
  (Jlf N x4.Name).bind fun r6 =>
  if (!r6) then
   none
  else
   (slc x0 0 v2).bind fun s7 =>
   (Jlh N s7 x4).bind fun r9 =>
   if r9 then
    none
   else
    if ((List.length x4.Prefixes:Int)==0) then
     none
    else
     if (decide ((List.length x4.Prefixes:Int)>64)) then
      none
     else
      (Qx (Jdh N x4) N (0,v3)).bind fun v15 =>
      some (.inl ((IntKind.wrap .i64 (v2+1)),v15))
 else
  some (.inr v3)
def Z86 (N:Nat) (x0:(List Yf)):Option (Int×(List (Str×Str))) :=
 if (decide ((List.length x0:Int)>64)) then
  none
 else
  (Qx (Jdi N x0) N (0,([]:List (Str×Str)))).bind fun v16 =>
  some (0,v16)
def Jdj (N:Nat) (x1:Str) (m5000:(List (Str×Str))):(Int)→Option ((Int)⊕((Str×Bool))):=fun v1 =>
 if (decide (v1>0)) then
  (slc x1 0 v1).bind fun s2 =>
  if (Q0 (k:=.str) s2 m5000).isSome then
   some (.inr (((Q0 (k:=.str) s2 m5000).getD ([]:Str)),true))
  else
   some (.inl (IntKind.wrap .i64 (v1 - 1)))
 else
  none
def Z88 (N:Nat) (x1:Str) (x2:Int) (m5000:(List (Str×Str))):Option (Str×Bool) :=
 (Qx (Jdj N x1 m5000) N x2).bind fun (v3,v4) =>
 some (v3,v4)
def Z67 (N:Nat) (x0:(List Yf)) (x1:Str):Option (Str×Bool) :=
 (Z86 N x0).bind fun (r1,r2) =>
 (if (r1 != 0) then
  some true
 else
  (Z87 N x1).bind fun r4 =>
  some (!r4):Option (Bool)).bind fun v5 =>
 if v5 then
  none
 else
  (Z88 N x1 (List.length x1:Int) r2).bind fun (r6,r7) =>
  some (r6,r7)
def Z51 (N:Nat) (m5000_0:Jx) (m5000_1:Ja) (m5000_2:Qh) (m5000_3:Ji) (m5000_4:Qu) (m5000_5_0:Str) (m5000_5_1:Int) (m5000_5_2:Bool) (m5000_6:Int) (m5000_7_0:Qh) (m5000_7_1:Int) (m5000_7_2:Str) (m5000_7_3:Int) (m5000_7_4:Str) (m5000_7_7:Int) (m5000_7_8:Int) (m5000_7_9:Int) (m5000_7_11:Int) (m5000_7_12:Int) (m5001:(List Yf)) (m5002:(List Yk)) (m5003:(List Y2)) (m5004:(List Ya)) (m5005:(List J2)) (m5006:(List Q4)) (m5007:(List J9)):Option (Int×Jx×Ja×Qh×Ji×Qu×Q6×Int×Qh×Int×Str×Int×Str×Int×Int×Int×Int×Int×(List J2)×(List Q4)×(List J9)) :=
 (Z66 N m5000_0.Tariffs m5000_3.Plan m5000_2.Start).bind fun (r1,r2) =>
 if (!r2) then
  none
 else
  (Z67 N r1.Zones m5000_2.B).bind fun (r5,r6) =>
  some (0,m5000_0,m5000_1,m5000_2,m5000_3,m5000_4,r1,m5000_6,m5000_7_0,m5000_7_1,r1.Name,r1.From,r5,m5000_7_7,m5000_7_8,m5000_7_9,m5000_7_11,m5000_7_12,m5005,m5006,m5007)
def Z50 (N:Nat) (m5001_0:Jx) (m5001_1:Ja) (m5001_2:Qh) (m5001_3:Ji) (m5001_4:Qu) (m5001_5_0:Str) (m5001_5_1:Int) (m5001_5_2:Bool) (m5001_6:Int) (m5001_7_0:Qh) (m5001_7_1:Int) (m5001_7_2:Str) (m5001_7_3:Int) (m5001_7_4:Str) (m5001_7_7:Int) (m5001_7_8:Int) (m5001_7_9:Int) (m5001_7_11:Int) (m5001_7_12:Int) (m5002:(List Yf)) (m5003:(List Yk)) (m5004:(List Y2)) (m5005:(List Ya)) (m5006:(List J2)) (m5007:(List Q4)) (m5008:(List J9)):Option (Int×Jx×Ja×Qh×Ji×Qu×Q6×Int×Qh×Int×Str×Int×Str×Int×Int×Int×Int×Int×(List J2)×(List Q4)×(List J9)) :=
 (Z51 N m5001_0 m5001_1 m5001_2 m5001_3 m5001_4 m5001_5_0 m5001_5_1 m5001_5_2 m5001_6 m5001_7_0 m5001_7_1 m5001_7_2 m5001_7_3 m5001_7_4 m5001_7_7 m5001_7_8 m5001_7_9 m5001_7_11 m5001_7_12 m5002 m5003 m5004 m5005 m5006 m5007 m5008).bind fun (r1,r2,r3,r4,r5,r6,r7,r8,r9,r10,r11,r12,r13,r14,r15,r16,r17,r18,r19,r20,r21) =>
 some (r1,r2,r3,r4,r5,r6,r7,r8,r9,r10,r11,r12,r13,r14,r15,r16,r17,r18,r19,r20,r21)
def Quu (N:Nat) (m5001_0:Jx) (m5001_1:Ja) (m5001_2:Qh) (m5001_3:Ji) (m5001_4:Qu) (m5001_5_0:Str) (m5001_5_1:Int) (m5001_5_2:Bool) (m5001_6:Int) (m5001_7_0:Qh) (m5001_7_1:Int) (m5001_7_2:Str) (m5001_7_3:Int) (m5001_7_4:Str) (m5001_7_7:Int) (m5001_7_8:Int) (m5001_7_9:Int) (m5001_7_11:Int) (m5001_7_12:Int) (m5002:(List Yf)) (m5003:(List Yk)) (m5004:(List Y2)) (m5005:(List Ya)) (m5006:(List J2)) (m5007:(List Q4)) (m5008:(List J9)) (m5009:Int):Option (Jx×Ja×Qh×Ji×Qu×Str×Int×Bool×(List Yf)×(List Yk)×(List Y2)×(List Ya)×Int×Qh×Int×Str×Int×Str×Int×Int×Int×Int×Int×Int×(List J2)×(List Q4)×(List J9)) :=
 if (m5009==0) then
  (Z50 N m5001_0 m5001_1 m5001_2 m5001_3 m5001_4 m5001_5_0 m5001_5_1 m5001_5_2 m5001_6 m5001_7_0 m5001_7_1 m5001_7_2 m5001_7_3 m5001_7_4 m5001_7_7 m5001_7_8 m5001_7_9 m5001_7_11 m5001_7_12 m5002 m5003 m5004 m5005 m5006 m5007 m5008).bind fun (r1,r2,r3,r4,r5,r6,r7,r8,r9,r10,r11,r12,r13,r14,r15,r16,r17,r18,r19,r20,r21) =>
  some (r2,r3,r4,r5,r6,r7.Name,r7.From,r7.Split,r7.Zones,r7.Bands,r7.Rates,r7.Discounts,r8,r9,r10,r11,r12,r13,r14,r15,r16,r17,r18,r1,r19,r20,r21)
 else
  some (m5001_0,m5001_1,m5001_2,m5001_3,m5001_4,m5001_5_0,m5001_5_1,m5001_5_2,m5002,m5003,m5004,m5005,m5001_6,m5001_7_0,m5001_7_1,m5001_7_2,m5001_7_3,m5001_7_4,m5001_7_7,m5001_7_8,m5001_7_9,m5001_7_11,m5001_7_12,m5009,m5006,m5007,m5008)
def Qz1 (N:Nat) (x0:(List Qj)):(Int×(List Qj))→Option ((Int×(List Qj))⊕(((List Qj)))):=fun (v2,v3) =>
 if (decide (v2<(List.length x0:Int))) then
  (idx x0 v2).bind fun x4 =>
  (app 16 ([]:(List Str)) x4.Zones).bind fun q5 =>
  (app 120 v3 ([(x4.Account,x4.Sub,x4.Product,x4.Index,x4.Kind,q5,x4.Valid,x4.Units,x4.Left,x4.Priority,x4.Shared)]:(List Qj))).bind fun q6 =>
  some (.inl ((IntKind.wrap .i64 (v2+1)),q6))
 else
  some (.inr v3)
def Jlj (N:Nat) (x0:(List Qj)):Option ((List Qj)) :=
 (Qx (Qz1 N x0) N (0,([]:(List Qj)))).bind fun v7 =>
 some v7
def Z89 (N:Nat) (x0:Ja):Option ((List Qj)×(List Q3)×(List Qv)) :=
 (Jlj N x0.Buckets).bind fun r1 =>
 (app 40 ([]:(List Q3)) x0.Wallets).bind fun q2 =>
 (app 40 ([]:(List Qv)) x0.Counters).bind fun q3 =>
 some (r1,q2,q3)
def Jdk (N:Nat) (x0:(List Jg)) (x1:Int) (x2:Int):(Unit)→Option ((Unit)⊕((Bool))):=fun _ =>
 if (decide (0<(List.length x0:Int))) then
  (idx x0 0).bind fun x3 =>
  if (((x3.Kind==1)&&(x3.Account==x1))&&(decide (x3.At≤x2))) then
   some (.inr (x3.Name==([112,114,101,112,97,105,100]:Str)))
  else
   none
 else
  none
def Z90 (N:Nat) (x0:(List Jg)) (x1:Int) (x2:Int):Option (Bool) :=
 (Qx (Jdk N x0 x1 x2) N ()).bind fun v4 =>
 some v4
def Qz2 (N:Nat) (x0:(List Q3)):(Int×(List (Int×Int)))→Option ((Int×(List (Int×Int)))⊕(((List (Int×Int))))):=fun (v2,v3) =>
 if (decide (v2<(List.length x0:Int))) then
  (idx x0 v2).bind fun x4 =>
  if (!(Q0 (k:=(.int .i64)) x4.Account v3).isSome) then
   some (.inl ((IntKind.wrap .i64 (v2+1)),(Vq (k:=(.int .i64)) x4.Account v2 v3)))
  else
   none
 else
  some (.inr v3)
def Jlk (N:Nat) (x0:(List Q3)):Option ((List (Int×Int))) :=
 (Qx (Qz2 N x0) N (0,([]:List (Int×Int)))).bind fun v5 =>
 some v5
def Jdl (N:Nat) (x0:(List Q3)):(Unit)→Option ((Unit)⊕((Unit))):=fun _ =>
 (if (decide (0<(List.length x0:Int))) then
  none
 else
  some false:Option (Bool)).bind fun v3 =>
 if v3 then
  none
 else
  some (.inr ())
def Z91 (N:Nat) (x0:(List Q3)) (x1:Int):Option (Int×(List Q3)) :=
 (Jlk N x0).bind fun r1 =>
 if (Q0 (k:=(.int .i64)) x1 r1).isSome then
  (app 40 ([]:(List Q3)) x0).bind fun q2 =>
  some (((Q0 (k:=(.int .i64)) x1 r1).getD 0),q2)
 else
  (Qx (Jdl N x0) N ()).bind fun _ =>
  (slc x0 0 0).bind fun s4 =>
  (app 40 ([]:(List Q3)) s4).bind fun q5 =>
  (app 40 q5 ([(x1,0,0,0,(-1))]:(List Q3))).bind fun q6 =>
  (slc x0 0 (List.length x0:Int)).bind fun s7 =>
  (app 40 q6 s7).bind fun q8 =>
  some (0,q8)
def Qk0 (N:Nat) (x0:Int) (x1:Int) (x2:Int):Option (Bool) :=
 some ((decide (x0≥x1))&&(decide (x0≤x2)))
def Jdm (N:Nat) (x0:Int):Option (Bool) :=
 some ((decide (x0≥(-1125899906842624)))&&(decide (x0≤1125899906842624)))
def Qz3 (N:Nat) (x0:Q3):Option (Int) :=
 (Qk0 N x0.Account 1 9999).bind fun r1 =>
 (if (!r1) then
  some true
 else
  (Jdm N x0.Balance).bind fun r3 =>
  some (!r3):Option (Bool)).bind fun v4 =>
 (if v4 then
  some true
 else
  (Qk0 N x0.Floor (-1125899906842624) 0).bind fun r6 =>
  some (!r6):Option (Bool)).bind fun v7 =>
 if v7 then
  none
 else
  (Qk0 N x0.Held 0 1125899906842624).bind fun r8 =>
  (if (!r8) then
   some true
  else
   (Qk0 N x0.Until (-1) 12622780799).bind fun r10 =>
   some (!r10):Option (Bool)).bind fun v11 =>
  if v11 then
   none
  else
   if (decide ((IntKind.wrap .i64 (x0.Balance - x0.Held))<x0.Floor)) then
    none
   else
    some 0
def Z93 (N:Nat) (x0:Q3) (x1:Int):Option (Q3×Int) :=
 (Qz3 N x0).bind fun r1 =>
 if (r1 != 0) then
  none
 else
  (Qk0 N x1 0 1125899906842624).bind fun r2 =>
  (if (!r2) then
   some true
  else
   (Jdm N (IntKind.wrap .i64 (x0.Balance+x1))).bind fun r4 =>
   some (!r4):Option (Bool)).bind fun v5 =>
  if v5 then
   none
  else
   some ((x0.Account,(IntKind.wrap .i64 (x0.Balance+x1)),x0.Floor,x0.Held,x0.Until),0)
def Z92 (N:Nat) (x0:Q3) (x1:Int) (m5000:Q3):Option (Q3) :=
 if (x1==0) then
  some x0
 else
  none
def Jdn (N:Nat) (x0:(List Jg)) (x2:Int) (r8:(List Q3)) (r7:Int) (x3:Int):(Int×Q3)→Option ((Int×Q3)⊕((Q3))):=fun (v11,v12) =>
 if (decide (v11<(List.length x0:Int))) then
  ((idx x0 v11).bind fun x17 =>
  (if (x17.Account != x2) then
   some true
  else
   (idx r8 r7).bind fun _ =>
   (idx r8 r7).bind fun x19 =>
   some (decide (x17.At≤x19.Until)):Option (Bool)).bind fun v20 =>
  if (v20||(decide (x17.At>x3))) then
   some v12
  else
   if (x17.Kind==14) then
    (Z93 N v12 x17.Value).bind fun (r21,r22) =>
    (Z92 N r21 r22 v12).bind fun r23 =>
    some r23
   else
    if (x17.Kind==15) then
     none
    else
     some v12:Option ((Q3))).bind fun v24 =>
  some (.inl ((IntKind.wrap .i64 (v11+1)),v24))
 else
  some (.inr v12)
def Z68 (N:Nat) (x0:(List Jg)) (x1:Ja) (x2:Int) (x3:Int):Option (Ja) :=
 (Z89 N x1).bind fun (r1,r2,r3) =>
 (if ((decide (x3<0))||(decide (x3≥12622780800))) then
  some true
 else
  (Z90 N x0 x2 x3).bind fun r5 =>
  some (!r5):Option (Bool)).bind fun v6 =>
 if v6 then
  none
 else
  (Z91 N r2 x2).bind fun (r7,r8) =>
  (idx r8 r7).bind fun _ =>
  (idx r8 r7).bind fun x9 =>
  (Qx (Jdn N x0 x2 r8 r7 x3) N (0,x9)).bind fun v25 =>
  (idx r8 r7).bind fun _ =>
  (idx r8 r7).bind fun y26 =>
  some (r1,(List.set r8 (Int.toNat r7) (v25.Account,v25.Balance,v25.Floor,v25.Held,(if x3>v25.Until then x3 else v25.Until))),r3)
def Z95 (N:Nat) (x0:Qj):Option (Qj) :=
 (app 16 ([]:(List Str)) x0.Zones).bind fun q1 =>
 some (x0.Account,x0.Sub,x0.Product,x0.Index,x0.Kind,q1,x0.Valid,x0.Units,x0.Left,x0.Priority,x0.Shared)
def Quv (N:Nat) (x0:Qj):Option (Int×Int×Str×Int×Int×Qg×Int×Int×Int×Bool×(List Str)) :=
 (app 16 ([]:(List Str)) x0.Zones).bind fun q1 =>
 some (x0.Account,x0.Sub,x0.Product,x0.Index,x0.Kind,x0.Valid,x0.Units,x0.Left,x0.Priority,x0.Shared,q1)
def Z96 (N:Nat) (x0:Qj):Option (Jf) :=
 some (x0.Sub,x0.Product,x0.Index,x0.Valid.From)
def Jdo (N:Nat) (x0:(List Jg)) (x1:Int):(Unit)→Option ((Unit)⊕((Int))):=fun _ =>
 if (decide (0<(List.length x0:Int))) then
  (idx x0 0).bind fun x2 =>
  if ((x2.Kind==1)&&(x2.Account==x1)) then
   some (.inr x2.Value)
  else
   none
 else
  none
def Z97 (N:Nat) (x0:(List Jg)) (x1:Int):Option (Int) :=
 (Qx (Jdo N x0 x1) N ()).bind fun v3 =>
 some v3
def Qz4 (N:Nat) (x0:Ji) (m5000:Str):(Unit)→Option ((Unit)⊕((Bool))):=fun _ =>
 if (decide (0<(List.length x0.Products:Int))) then
  (idx x0.Products 0).bind fun x1 =>
  if (x1==m5000) then
   some (.inr true)
  else
   none
 else
  none
def Jll (N:Nat) (x0:Ji) (m5000:Str):Option (Bool) :=
 (Qx (Qz4 N x0 m5000) N ()).bind fun v2 =>
 some v2
def Qz5 (N:Nat) (x0:(List Qg)):(Int×(List Qg))→Option ((Int×(List Qg))⊕(((List Qg)))):=fun (v2,v3) =>
 if (decide (v2<(List.length x0:Int))) then
  (idx x0 v2).bind fun x4 =>
  if (decide ((List.length v3:Int)>0)) then
   none
  else
   (app 16 v3 ([x4]:(List Qg))).bind fun q5 =>
   some (.inl ((IntKind.wrap .i64 (v2+1)),q5))
 else
  some (.inr v3)
def Jlm (N:Nat) (x0:(List Qg)):Option ((List Qg)) :=
 (Qx (Qz5 N x0) N (0,([]:(List Qg)))).bind fun v6 =>
 some v6
def Qz6 (N:Nat) (r1:(List Ji)) (m5000:Str):(Int×(List Qg))→Option ((Int×(List Qg))⊕(((List Qg)))):=fun (v3,v4) =>
 if (decide (v3<(List.length r1:Int))) then
  (idx r1 v3).bind fun _ =>
  (idx r1 v3).bind fun x5 =>
  (Jll N x5 m5000).bind fun r6 =>
  if r6 then
   (app 16 v4 ([x5.Period]:(List Qg))).bind fun q7 =>
   some (.inl ((IntKind.wrap .i64 (v3+1)),q7))
  else
   none
 else
  some (.inr v4)
def Jln (N:Nat) (x0:(List Jg)) (x1:Int) (m5000:Str):Option ((List Qg)) :=
 (Z82 N x0 x1).bind fun r1 =>
 (Qx (Qz6 N r1 m5000) N (0,([]:(List Qg)))).bind fun v8 =>
 (Jlm N v8).bind fun r9 =>
 some r9
def Jlo (N:Nat) (x0:(List Jg)) (x1:Int) (x2:Str):Option ((List Qg)) :=
 (Jln N x0 x1 x2).bind fun r1 =>
 some r1
def Jdp (N:Nat) (v17:(List Jj)):(Unit)→Option ((Unit)⊕((Unit))):=fun _ =>
 (if (decide (0<(List.length v17:Int))) then
  none
 else
  some false:Option ((Bool))).bind fun v31 =>
 if v31 then
  none
 else
  some (.inr ())
def Jdq (N:Nat) (x0:(List Jg)) (x1:Int):(Int×(List (Int×Bool))×(List (Str×Unit))×(List Jj))→Option ((Int×(List (Int×Bool))×(List (Str×Unit))×(List Jj))⊕(((List Jj)))):=fun (v9,v10,v15,v17) =>
 if (decide (v9<(List.length x0:Int))) then
  ((idx x0 v9).bind fun x21 =>
  (if ((x21.Kind==3)&&(x21.Account==x1)) then
   some (Vq (k:=(.int .i64)) x21.Sub true v10)
  else
   some v10:Option (((List (Int×Bool))))).bind fun v27 =>
  (if ((x21.Kind != 8)||(!((Q0 (k:=(.int .i64)) x21.Sub v27).getD false))) then
   some true
  else
   (chk (isNone (Q0 (k:=.str) x21.Name v15))).bind fun _ =>
   some false:Option (Bool)).bind fun v29 =>
  if v29 then
   some (v27,v15,v17)
  else
   (chk (isNone (Q0 (k:=.str) x21.Name v15))).bind fun _ =>
   (chk (eqK .str x21.Name x21.Name)).bind fun _ =>
   (Jlo N x0 x21.Sub x21.Name).bind fun r30 =>
   (Qx (Jdp N v17) N ()).bind fun _ =>
   (slc v17 0 0).bind fun s32 =>
   (app 56 ([]:(List Jj)) s32).bind fun q33 =>
   (app 56 q33 ([(x1,x21.Sub,x21.Name,r30)]:(List Jj))).bind fun q34 =>
   (slc v17 0 (List.length v17:Int)).bind fun s35 =>
   (app 56 q34 s35).bind fun q36 =>
   some (v27,(Vq (k:=.str) x21.Name () v15),q36):Option (((List (Int×Bool))×(List (Str×Unit))×(List Jj)))).bind fun (v37,v38,v39) =>
  some (.inl ((IntKind.wrap .i64 (v9+1)),v37,v38,v39))
 else
  some (.inr v17)
def Z98 (N:Nat) (x0:(List Jg)) (x1:Int):Option ((List Jj)) :=
 (Qx (Jdq N x0 x1) N (0,([]:List (Int×Bool)),([]:List (Str×Unit)),([]:(List Jj)))).bind fun v40 =>
 some v40
def Jdr (N:Nat) (x0:Qg) (x1:Qg):Option (Qg×Bool) :=
 (Qrg N x0).bind fun r1 =>
 (if (!r1) then
  some true
 else
  (Qrg N x1).bind fun r3 =>
  some (!r3):Option (Bool)).bind fun v4 =>
 if (v4||(decide ((if x1.From>x0.From then x1.From else x0.From)≥(if x1.To<x0.To then x1.To else x0.To)))) then
  none
 else
  some (((if x1.From>x0.From then x1.From else x0.From),(if x1.To<x0.To then x1.To else x0.To)),true)
def Qz7 (N:Nat) (x0:Int):Option (Int) :=
 (if (decide ((IntKind.wrap .i64 (x0 - 2000))>0)) then
  some (IntKind.wrap .i64 ((IntKind.wrap .i64 (365*(IntKind.wrap .i64 (x0 - 2000))))+(IntKind.wrap .i64 ((IntKind.wrap .i64 ((IntKind.wrap .i64 ((IntKind.wrap .i64 (Int.tdiv (IntKind.wrap .i64 ((IntKind.wrap .i64 (x0 - 2000)) - 1)) 4)) - (IntKind.wrap .i64 (Int.tdiv (IntKind.wrap .i64 ((IntKind.wrap .i64 (x0 - 2000)) - 1)) 100))))+(IntKind.wrap .i64 (Int.tdiv (IntKind.wrap .i64 ((IntKind.wrap .i64 (x0 - 2000)) - 1)) 400))))+1))))
 else
  some (IntKind.wrap .i64 (365*(IntKind.wrap .i64 (x0 - 2000)))):Option ((Int))).bind fun v1 =>
 some v1
def Jlp (N:Nat) (x0:Int):Option (Bool) :=
 some ((((Int.tmod x0 4)==0)&&((Int.tmod x0 100) != 0))||((Int.tmod x0 400)==0))
def Qz8 (N:Nat) (x0:Int) (x1:Int):Option (Int) :=
 (if (x1==2) then
  (Jlp N x0).bind fun r2 =>
  some r2
 else
  some false:Option (Bool)).bind fun v3 =>
 if v3 then
  some 29
 else
  (idx ([31,28,31,30,31,30,31,31,30,31,30,31]:(List Int)) (IntKind.wrap .i64 (x1 - 1))).bind fun _ =>
  (idx ([31,28,31,30,31,30,31,31,30,31,30,31]:(List Int)) (IntKind.wrap .i64 (x1 - 1))).bind fun x4 =>
  some x4
def Qz9 (N:Nat) (x0:Int):(Unit)→Option ((Unit)⊕((Unit))):=fun _ =>
 (Qz7 N (IntKind.wrap .i64 ((IntKind.wrap .i64 (2000+(IntKind.wrap .i64 (Int.tdiv x0 366))))+1))).bind fun r1 =>
 if (decide (r1≤x0)) then
  none
 else
  some (.inr ())
def Q0a (N:Nat) (x0:Int) (r2:Int):(Unit)→Option ((Unit)⊕((Unit))):=fun _ =>
 (Qz8 N (IntKind.wrap .i64 (2000+(IntKind.wrap .i64 (Int.tdiv x0 366)))) 1).bind fun r3 =>
 if (decide ((IntKind.wrap .i64 (x0 - r2))≥r3)) then
  none
 else
  some (.inr ())
def Jlq (N:Nat) (x0:Int):Option (Hy) :=
 if ((decide (x0<0))||(decide (x0≥146097))) then
  none
 else
  (Qx (Qz9 N x0) N ()).bind fun _ =>
  (Qz7 N (IntKind.wrap .i64 (2000+(IntKind.wrap .i64 (Int.tdiv x0 366))))).bind fun r2 =>
  (Qx (Q0a N x0 r2) N ()).bind fun _ =>
  some ((IntKind.wrap .i64 (2000+(IntKind.wrap .i64 (Int.tdiv x0 366)))),1,(IntKind.wrap .i64 ((IntKind.wrap .i64 (x0 - r2))+1)))
def Qrh (N:Nat) (x0:Int) (x1:Int):Option (Int) :=
 (Jlq N (IntKind.wrap .i64 (Int.tdiv x1 86400))).bind fun r1 =>
 if (decide (r1.Day<x0)) then
  none
 else
  some (IntKind.wrap .i64 ((IntKind.wrap .i64 ((IntKind.wrap .i64 (12*(IntKind.wrap .i64 (r1.Year - 2000))))+r1.Month)) - 1))
def Jlr (N:Nat) (x0:Int) (x1:Int):Option (Int) :=
 if ((((decide (x0<2000))||(decide (x0>2399)))||(decide (x1<1)))||(decide (x1>12))) then
  none
 else
  (Qz8 N x0 x1).bind fun r1 =>
  some r1
def Q0b (N:Nat) (x0:Hy):(Int×Int)→Option ((Int×Int)⊕((Int))):=fun (v4,v5) =>
 if (decide (v5<x0.Month)) then
  (Qz8 N x0.Year v5).bind fun r6 =>
  some (.inl ((IntKind.wrap .i64 (v4+r6)),(IntKind.wrap .i64 (v5+1))))
 else
  some (.inr v4)
def Jls (N:Nat) (x0:Hy):Option (Int×Int) :=
 (if (decide (x0.Day<1)) then
  some true
 else
  (Jlr N x0.Year x0.Month).bind fun r1 =>
  some (decide (x0.Day>r1)):Option ((Bool))).bind fun v2 =>
 if v2 then
  none
 else
  (Qz7 N x0.Year).bind fun r3 =>
  (Qx (Q0b N x0) N ((IntKind.wrap .i64 ((IntKind.wrap .i64 (r3+x0.Day)) - 1)),1)).bind fun v7 =>
  some (v7,0)
def Jds (N:Nat) (x0:Int) (x1:Int):Option (Int) :=
 (Jls N ((IntKind.wrap .i64 (2000+(IntKind.wrap .i64 (Int.tdiv x1 12)))),(IntKind.wrap .i64 ((Int.tmod x1 12)+1)),x0)).bind fun (r1,r2) =>
 if (r2 != 0) then
  none
 else
  some (IntKind.wrap .i64 (r1*86400))
def Q0c (N:Nat) (x0:Int) (x1:Int):Option (Qg) :=
 (Jds N x0 (IntKind.wrap .i64 (x1+1))).bind fun r1 =>
 if (decide (x1≥0)) then
  (Jds N x0 x1).bind fun r2 =>
  some (r2,r1)
 else
  none
def Q0d (N:Nat) (x0:Int) (x1:Qg):(Int×(List Qg))→Option ((Int×(List Qg))⊕(((List Qg)))):=fun (v3,v4) =>
 (Qrh N x0 (IntKind.wrap .i64 (x1.To - 1))).bind fun r5 =>
 if (decide (v3≤r5)) then
  (Q0c N x0 v3).bind fun r6 =>
  (app 16 v4 ([r6]:(List Qg))).bind fun q7 =>
  some (.inl ((IntKind.wrap .i64 (v3+1)),q7))
 else
  some (.inr v4)
def Jlt (N:Nat) (x0:Int) (x1:Qg):Option ((List Qg)) :=
 if (((((decide (x0<1))||(decide (x0>28)))||(decide (x1.From<0)))||(decide (x1.From≥x1.To)))||(decide (x1.To>12622780800))) then
  none
 else
  (Qrh N x0 x1.From).bind fun r1 =>
  (Qx (Q0d N x0 x1) N (r1,([]:(List Qg)))).bind fun v8 =>
  some v8
def Qk1 (N:Nat) (x0:Int) (x1:Qg):(Int×(List Qg))→Option ((Int×(List Qg))⊕(((List Qg)))):=fun (v3,v4) =>
 (Qrh N x0 (IntKind.wrap .i64 (x1.To - 1))).bind fun r5 =>
 if (decide (v3≤r5)) then
  (Q0c N x0 v3).bind fun r6 =>
  (app 16 v4 ([r6]:(List Qg))).bind fun q7 =>
  some (.inl ((IntKind.wrap .i64 (v3+1)),q7))
 else
  some (.inr v4)
def Qnj (N:Nat) (x0:Int) (x1:Qg):Option ((List Qg)) :=
 if (((((decide (x0<1))||(decide (x0>28)))||(decide (x1.From<0)))||(decide (x1.From≥x1.To)))||(decide (x1.To>12622780800))) then
  none
 else
  (Qrh N x0 x1.From).bind fun r1 =>
  (Qx (Qk1 N x0 x1) N (r1,([]:(List Qg)))).bind fun v8 =>
  some v8
def Qnk (N:Nat) (x0:Qg) (m5000:Int) (m5002:(List Qg)) (m5003:Int):Option ((List Qg)) :=
 (Jdr N x0 (0,(IntKind.wrap .i64 (m5000+1)))).bind fun (r1,r2) =>
 if r2 then
  (Jlt N m5003 r1).bind fun r3 =>
  (app 16 m5002 r3).bind fun q4 =>
  some q4
 else
  none
def Q0e (N:Nat) (x0:(List Qg)) (x1:Int):(Int×(List Q9))→Option ((Int×(List Q9))⊕(((List Q9)))):=fun (v4,v5) =>
 if (decide (v4<(List.length x0:Int))) then
  (idx x0 v4).bind fun x6 =>
  (Qrg N x6).bind fun r7 =>
  if r7 then
   (app 24 v5 ([(x6.From,x1,1),(x6.To,x1,(-1))]:(List Q9))).bind fun q8 =>
   some (.inl ((IntKind.wrap .i64 (v4+1)),q8))
  else
   none
 else
  some (.inr v5)
def Jlu (N:Nat) (x0:(List Qg)) (x1:Int) (m5001:(List Q9)):Option ((List Q9)) :=
 (Qx (Q0e N x0 x1) N (0,m5001)).bind fun v9 =>
 some v9
def Qk2 (N:Nat) (x0:(List Qg)) (x1:Int):(Int×(List Q9))→Option ((Int×(List Q9))⊕(((List Q9)))):=fun (v4,v5) =>
 if (decide (v4<(List.length x0:Int))) then
  (idx x0 v4).bind fun x6 =>
  (Qrg N x6).bind fun r7 =>
  if r7 then
   (app 24 v5 ([(x6.From,x1,1),(x6.To,x1,(-1))]:(List Q9))).bind fun q8 =>
   some (.inl ((IntKind.wrap .i64 (v4+1)),q8))
  else
   none
 else
  some (.inr v5)
def Qnl (N:Nat) (x0:(List Qg)) (x1:Int) (m5001:(List Q9)):Option ((List Q9)) :=
 (Qx (Qk2 N x0 x1) N (0,m5001)).bind fun v9 =>
 some v9
def Jlv (N:Nat) (x0:Int):Option (Int) :=
 if (decide (x0≥4294967296)) then
  none
 else
  if (decide (x0≥65536)) then
   none
  else
   if (decide (x0≥256)) then
    none
   else
    (Qpr ([0,1,2,2,3,3,3,3,4,4,4,4,4,4,4,4,5,5,5,5,5,5,5,5,5,5,5,5,5,5,5,5,6,6,6,6,6,6,6,6,6,6,6,6,6,6,6,6,6,6,6,6,6,6,6,6,6,6,6,6,6,6,6,6,7,7,7,7,7,7,7,7,7,7,7,7,7,7,7,7,7,7,7,7,7,7,7,7,7,7,7,7,7,7,7,7,7,7,7,7,7,7,7,7,7,7,7,7,7,7,7,7,7,7,7,7,7,7,7,7,7,7,7,7,7,7,7,7,8,8,8,8,8,8,8,8,8,8,8,8,8,8,8,8,8,8,8,8,8,8,8,8,8,8,8,8,8,8,8,8,8,8,8,8,8,8,8,8,8,8,8,8,8,8,8,8,8,8,8,8,8,8,8,8,8,8,8,8,8,8,8,8,8,8,8,8,8,8,8,8,8,8,8,8,8,8,8,8,8,8,8,8,8,8,8,8,8,8,8,8,8,8,8,8,8,8,8,8,8,8,8,8,8,8,8,8,8,8,8,8,8,8,8,8,8,8,8,8,8,8,8,8,8,8,8,8]:Str) (IntKind.wrap .u8 x0)).bind fun c1 =>
    some (IntKind.wrap .i64 (0+(IntKind.wrap .i64 c1)))
def Jlw (N:Nat) (x0:Int):Option (Int) :=
 (Jlv N x0).bind fun r1 =>
 some r1
def Jlx (N:Nat) (x0:Q9) (x1:Q9):Option (Int) :=
 some (IntKind.wrap .i64 (x0.at_ - x1.at_))
def Q0f (N:Nat) (v1:Int) (x1:Int) (x0:(List Q9)):(Unit)→Option ((Unit)⊕((Unit))):=fun _ =>
 if (decide (v1>x1)) then
  (idx x0 v1).bind fun x3 =>
  (idx x0 (IntKind.wrap .i64 (v1 - 1))).bind fun x4 =>
  (Jlx N x3 x4).bind fun r5 =>
  if (decide (r5<0)) then
   none
  else
   some (.inr ())
 else
  some (.inr ())
def Q0g (N:Nat) (x2:Int) (x1:Int) (x0:(List Q9)):(Int)→Option ((Int)⊕((Unit))):=fun v1 =>
 if (decide (v1<x2)) then
  (Qx (Q0f N v1 x1 x0) N ()).bind fun _ =>
  some (.inl (IntKind.wrap .i64 (v1+1)))
 else
  some (.inr ())
def Jly (N:Nat) (x0:(List Q9)) (x1:Int) (x2:Int):Option (Unit) :=
 (Qx (Q0g N x2 x1 x0) N (IntKind.wrap .i64 (x1+1))).bind fun _ =>
 some ()
def Q0h (N:Nat) (x2:Int) (x1:Int) (x0:(List Q9)):(Unit)→Option ((Unit)⊕((Unit))):=fun _ =>
 if (decide ((IntKind.wrap .i64 (x2 - x1))≤12)) then
  (Jly N x0 x1 x2).bind fun _ =>
  some (.inr ())
 else
  none
def Jlz (N:Nat) (x0:(List Q9)) (x1:Int) (x2:Int) (x3:Int):Option (Unit) :=
 (Qx (Q0h N x2 x1 x0) N ()).bind fun _ =>
 some ()
def Jl0 (N:Nat) (x0:(List Q9)):Option (Unit) :=
 (Jlw N (IntKind.wrap .u64 (List.length x0:Int))).bind fun r1 =>
 (Jlz N x0 0 (List.length x0:Int) r1).bind fun _ =>
 some ()
def Jl1 (N:Nat) (x0:Bool) (x1:Bool):Option (Bool) :=
 some x0
def Q0i (N:Nat) (r2:(List Q9)):(Bool×Int×(List Qg)×(List Int))→Option ((Bool×Int×(List Qg)×(List Int))⊕(((List Qg)))):=fun (v8,v9,v10,v11) =>
 if (decide (v9<(List.length r2:Int))) then
  (idx r2 v9).bind fun x13 =>
  (idx v11 x13.list).bind fun _ =>
  (idx v11 x13.list).bind fun x16 =>
  (idx v11 x13.list).bind fun _ =>
  (idx v11 x13.list).bind fun x17 =>
  (if (decide ((IntKind.wrap .i64 (v9+1))<(List.length r2:Int))) then
   (idx r2 (IntKind.wrap .i64 (v9+1))).bind fun x20 =>
   some (x20.at_==x13.at_)
  else
   some false:Option (Bool)).bind fun v21 =>
  if v21 then
   none
  else
   (idx (List.set v11 (Int.toNat x13.list) (IntKind.wrap .i64 (x16+x13.by_))) 0).bind fun _ =>
   (idx (List.set v11 (Int.toNat x13.list) (IntKind.wrap .i64 (x16+x13.by_))) 0).bind fun x22 =>
   (idx (List.set v11 (Int.toNat x13.list) (IntKind.wrap .i64 (x16+x13.by_))) 1).bind fun _ =>
   (idx (List.set v11 (Int.toNat x13.list) (IntKind.wrap .i64 (x16+x13.by_))) 1).bind fun x23 =>
   (Jl1 N (decide (x22>0)) (decide (x23>0))).bind fun r24 =>
   (if (r24&&(!v8)) then
    (app 16 v10 ([(x13.at_,0)]:(List Qg))).bind fun q26 =>
    some q26
   else
    if ((!r24)&&v8) then
     (idx v10 (IntKind.wrap .i64 ((List.length v10:Int) - 1))).bind fun _ =>
     (idx v10 (IntKind.wrap .i64 ((List.length v10:Int) - 1))).bind fun y27 =>
     some (List.set v10 (Int.toNat (IntKind.wrap .i64 ((List.length v10:Int) - 1))) (y27.From,x13.at_))
    else
     none:Option (((List Qg)))).bind fun v28 =>
   some (.inl (r24,(IntKind.wrap .i64 (v9+1)),v28,(List.set v11 (Int.toNat x13.list) (IntKind.wrap .i64 (x16+x13.by_)))))
 else
  some (.inr v10)
def Jl2 (N:Nat) (x0:(List Qg)) (x1:(List Qg)):Option ((List Qg)) :=
 (Jlu N x0 0 ([]:(List Q9))).bind fun r1 =>
 (Qnl N x1 1 r1).bind fun r2 =>
 (Jl0 N r2).bind fun _ =>
 (Qx (Q0i N r2) N (false,0,([]:(List Qg)),(List.replicate 2 0))).bind fun v29 =>
 some v29
def Jl3 (N:Nat) (x0:(List Qg)):Option ((List Qg)) :=
 (Jl2 N x0 ([]:(List Qg))).bind fun r1 =>
 some r1
def Jdt (N:Nat) (x22:Jj):(Int×Int×Int×(List Qg))→Option ((Int×Int×Int×(List Qg))⊕((Int×Int×(List Qg)))):=fun (v24,v25,v26,v27) =>
 if (decide (v24<(List.length x22.active:Int))) then
  (idx x22.active v24).bind fun x28 =>
  (Qnk N x28 v26 v27 v25).bind fun r29 =>
  some (.inl ((IntKind.wrap .i64 (v24+1)),v25,v26,r29))
 else
  some (.inr (v25,v26,v27))
def Jdu (N:Nat) (x0:(List Jj)):(Int×Int×Int×(List Qg))→Option ((Int×Int×Int×(List Qg))⊕((Int×(List Qg)))):=fun (v7,v16,v17,v21) =>
 if (decide (v7<(List.length x0:Int))) then
  (idx x0 v7).bind fun x22 =>
  (Qx (Jdt N x22) N (0,v16,v17,v21)).bind fun (v30,v31,v32) =>
  some (.inl ((IntKind.wrap .i64 (v7+1)),v30,v31,v32))
 else
  some (.inr (v16,v21))
def Jdv (N:Nat) (r35:(List Qg)) (v33:Int):(Int×(List Qg))→Option ((Int×(List Qg))⊕(((List Qg)))):=fun (v37,v38) =>
 if (decide (v37<(List.length r35:Int))) then
  (idx r35 v37).bind fun _ =>
  (idx r35 v37).bind fun x39 =>
  (Qnj N v33 x39).bind fun r40 =>
  (app 16 v38 r40).bind fun q41 =>
  some (.inl ((IntKind.wrap .i64 (v37+1)),q41))
 else
  some (.inr v38)
def Z99 (N:Nat) (x0:(List Jj)) (x1:Int) (x2:Int):Option ((List Qg)) :=
 (Qx (Jdu N x0) N (0,x1,x2,([]:(List Qg)))).bind fun (v33,v34) =>
 (Jl3 N v34).bind fun r35 =>
 (Qx (Jdv N r35 v33) N (0,([]:(List Qg)))).bind fun v42 =>
 some v42
def Jl4 (N:Nat) (x0:Jn) (m5000:Str) (m5001:Int):Option (Bool) :=
 some ((x0.Name==m5000)&&(decide (x0.From≤m5001)))
def Q0j (N:Nat) (x0:(List Jn)) (m5000:Str) (m5001:Int):(Int×(List Jn))→Option ((Int×(List Jn))⊕(((List Jn)))):=fun (v2,v3) =>
 if (decide (v2<(List.length x0:Int))) then
  (idx x0 v2).bind fun x4 =>
  (Jl4 N x4 m5000 m5001).bind fun r5 =>
  if r5 then
   (app 80 v3 ([x4]:(List Jn))).bind fun q6 =>
   some (.inl ((IntKind.wrap .i64 (v2+1)),q6))
  else
   none
 else
  some (.inr v3)
def Jl5 (N:Nat) (x0:(List Jn)) (m5000:Str) (m5001:Int):Option ((List Jn)) :=
 (Qx (Q0j N x0 m5000 m5001) N (0,([]:(List Jn)))).bind fun v7 =>
 some v7
def Q0k (N:Nat) (x0:Jn):(Int×(List Yz))→Option ((Int×(List Yz))⊕(((List Yz)))):=fun (v2,v3) =>
 if (decide (v2<(List.length x0.Bundles:Int))) then
  (idx x0.Bundles v2).bind fun x4 =>
  (app 16 ([]:(List Str)) x4.Zones).bind fun q5 =>
  (app 64 v3 ([(x4.Kind,q5,x4.Units,x4.Rollover,x4.Priority,x4.Shared)]:(List Yz))).bind fun q6 =>
  some (.inl ((IntKind.wrap .i64 (v2+1)),q6))
 else
  some (.inr v3)
def Jl6 (N:Nat) (x0:Jn):Option (Str×Int×Int×Str×Bool×(List Yz)) :=
 (Qx (Q0k N x0) N (0,([]:(List Yz)))).bind fun v7 =>
 some (x0.Name,x0.From,x0.Fee,x0.Category,x0.Prorate,v7)
def Jl7 (N:Nat) (x0:(List Jn)) (x1:Str) (x2:Int):Option (Str×Int×Int×Str×Bool×Bool×(List Yz)) :=
 (Jl5 N x0 x1 x2).bind fun r1 =>
 if ((List.length r1:Int)==0) then
  none
 else
  (idx r1 (IntKind.wrap .i64 ((List.length r1:Int) - 1))).bind fun _ =>
  (idx r1 (IntKind.wrap .i64 ((List.length r1:Int) - 1))).bind fun x3 =>
  (Jl6 N x3).bind fun (r4,r5,r6,r7,r8,r9) =>
  some (r4,r5,r6,r7,r8,true,r9)
def Q0l (N:Nat) (r12:(List Yz)) (x0:Jj) (r4:Qg):(Int×(List Va))→Option ((Int×(List Va))⊕(((List Va)))):=fun (v14,v15) =>
 if (decide (v14<(List.length r12:Int))) then
  (idx r12 v14).bind fun _ =>
  (idx r12 v14).bind fun x16 =>
  (app 128 v15 ([((x0.account,x0.sub,x0.product,v14,x16.Kind,x16.Zones,r4,x16.Units,x16.Units,x16.Priority,x16.Shared),x16.Rollover)]:(List Va))).bind fun q17 =>
  some (.inl ((IntKind.wrap .i64 (v14+1)),q17))
 else
  some (.inr v15)
def Q0m (N:Nat) (x0:Jj) (x2:Qg) (x1:(List Jn)):(Unit)→Option ((Unit)⊕(((List Va)))):=fun _ =>
 if (decide (0<(List.length x0.active:Int))) then
  (idx x0.active 0).bind fun x3 =>
  (Jdr N x3 x2).bind fun (r4,r5) =>
  if (!r5) then
   none
  else
   (Jl7 N x1 x0.product r4.From).bind fun (r6,r7,r8,r9,r10,r11,r12) =>
   (Qx (Q0l N r12 x0 r4) N (0,([]:(List Va)))).bind fun v18 =>
   some (.inr v18)
 else
  none
def Jl8 (N:Nat) (x0:Jj) (x1:(List Jn)) (x2:Qg):Option ((List Va)) :=
 (Qx (Q0m N x0 x2 x1) N ()).bind fun v19 =>
 some v19
def Qk3 (N:Nat) (m5000_0:(List Qj)):(Unit)→Option ((Unit)⊕((Unit))):=fun _ =>
 if (decide (0<(List.length m5000_0:Int))) then
  none
 else
  some (.inr ())
def Qk4 (N:Nat) (m5000_0:(List Qj)):(Unit)→Option ((Unit)⊕((Unit))):=fun _ =>
 (if (decide (0<(List.length m5000_0:Int))) then
  none
 else
  some false:Option ((Bool))).bind fun v13 =>
 if v13 then
  none
 else
  some (.inr ())
def Qnm (N:Nat) (x1:Va) (m5000_0:(List Qj)) (m5001:(List (Jf×Bool))):Option ((List Qj)×(List (Jf×Bool))) :=
 (Z96 N x1.bucket).bind fun r1 =>
 if ((Q0 (k:=J5) r1 m5001).getD false) then
  some (m5000_0,m5001)
 else
  (Quv N x1.bucket).bind fun (r2,r3,r4,r5,r6,r7,r8,r9,r10,r11,r12) =>
  (Qx (Qk3 N m5000_0) N ()).bind fun _ =>
  (Qx (Qk4 N m5000_0) N ()).bind fun _ =>
  (slc m5000_0 0 0).bind fun s14 =>
  (app 120 ([]:(List Qj)) s14).bind fun q15 =>
  (app 120 q15 ([(r2,r3,r4,r5,r6,r12,r7,r8,r9,r10,r11)]:(List Qj))).bind fun q16 =>
  (slc m5000_0 0 (List.length m5000_0:Int)).bind fun s17 =>
  (app 120 q16 s17).bind fun q18 =>
  (Z96 N (r2,r3,r4,r5,r6,r12,r7,r8,r9,r10,r11)).bind fun r19 =>
  some (q18,(Vq (k:=J5) r19 true m5001))
def Jdw (N:Nat) (x2:Ja):(Int×(List Qj)×(List (Jf×Bool)))→Option ((Int×(List Qj)×(List (Jf×Bool)))⊕(((List Qj)×(List (Jf×Bool))))):=fun (v7,v8,v9) =>
 if (decide (v7<(List.length x2.Buckets:Int))) then
  (idx x2.Buckets v7).bind fun x10 =>
  (Z95 N x10).bind fun r25 =>
  (app 120 v8 ([r25]:(List Qj))).bind fun q26 =>
  (Z96 N x10).bind fun r27 =>
  some (.inl ((IntKind.wrap .i64 (v7+1)),q26,(Vq (k:=J5) r27 true v9)))
 else
  some (.inr (v8,v9))
def Jdx (N:Nat) (r87:(List Va)) (x4:Int):(Int×(List Qj)×(List (Jf×Bool)))→Option ((Int×(List Qj)×(List (Jf×Bool)))⊕(((List Qj)×(List (Jf×Bool))))):=fun (v89,v90,v91) =>
 if (decide (v89<(List.length r87:Int))) then
  (idx r87 v89).bind fun _ =>
  (idx r87 v89).bind fun x92 =>
  if (decide (x92.bucket.Valid.From≤x4)) then
   (Qnm N x92 v90 v91).bind fun (r93,r94) =>
   some (.inl ((IntKind.wrap .i64 (v89+1)),r93,r94))
  else
   none
 else
  some (.inr (v90,v91))
def Jdy (N:Nat) (r33:(List Jj)) (x1:(List Jn)) (x69:Qg) (x4:Int):(Int×(List Qj)×(List (Jf×Bool)))→Option ((Int×(List Qj)×(List (Jf×Bool)))⊕(((List Qj)×(List (Jf×Bool))))):=fun (v76,v77,v85) =>
 if (decide (v76<(List.length r33:Int))) then
  (idx r33 v76).bind fun x86 =>
  (Jl8 N x86 x1 x69).bind fun r87 =>
  (Qx (Jdx N r87 x4) N (0,v77,v85)).bind fun (v95,v96) =>
  some (.inl ((IntKind.wrap .i64 (v76+1)),v95,v96))
 else
  some (.inr (v77,v85))
def Jdz (N:Nat) (r34:(List Qg)) (r33:(List Jj)) (x1:(List Jn)) (x4:Int):(Int×(List Qj)×(List (Jf×Bool)))→Option ((Int×(List Qj)×(List (Jf×Bool)))⊕(((List Qj)×(List (Jf×Bool))))):=fun (v49,v67,v68) =>
 if (decide (v49<(List.length r34:Int))) then
  (idx r34 v49).bind fun _ =>
  (idx r34 v49).bind fun x69 =>
  (Qx (Jdy N r33 x1 x69 x4) N (0,v67,v68)).bind fun (v97,v98) =>
  some (.inl ((IntKind.wrap .i64 (v49+1)),v97,v98))
 else
  some (.inr (v67,v68))
def Z69 (N:Nat) (x0:(List Jg)) (x1:(List Jn)) (x2:Ja) (x3:Int) (x4:Int):Option ((List Qj)×(List Q3)×(List Qv)) :=
 (Qx (Jdw N x2) N (0,([]:(List Qj)),([]:List (Jf×Bool)))).bind fun (v28,v29) =>
 (app 40 ([]:(List Q3)) x2.Wallets).bind fun q30 =>
 (app 40 ([]:(List Qv)) x2.Counters).bind fun q31 =>
 (Z97 N x0 x3).bind fun r32 =>
 if (((decide (x4≥0))&&(decide (x4<12622780800)))&&(decide (r32>0))) then
  (Z98 N x0 x3).bind fun r33 =>
  (Z99 N r33 r32 x4).bind fun r34 =>
  (Qx (Jdz N r34 r33 x1 x4) N (0,v28,v29)).bind fun (v99,v100) =>
  some (v99,q30,q31)
 else
  none
def Jl9 (N:Nat) (x0:Qj):Option (Int×Int×Str×Int×Int×Qg×Int×Int×Int×Bool×(List Str)) :=
 (app 16 ([]:(List Str)) x0.Zones).bind fun q1 =>
 some (x0.Account,x0.Sub,x0.Product,x0.Index,x0.Kind,x0.Valid,x0.Units,x0.Left,x0.Priority,x0.Shared,q1)
def Q0n (N:Nat) (x0:(List Qj)):(Int×(List Qj))→Option ((Int×(List Qj))⊕(((List Qj)))):=fun (v2,v3) =>
 if (decide (v2<(List.length x0:Int))) then
  (idx x0 v2).bind fun x4 =>
  (Jl9 N x4).bind fun (r14,r15,r16,r17,r18,r19,r20,r21,r22,r23,r24) =>
  (app 120 v3 ([(r14,r15,r16,r17,r18,r24,r19,r20,r21,r22,r23)]:(List Qj))).bind fun q25 =>
  some (.inl ((IntKind.wrap .i64 (v2+1)),q25))
 else
  some (.inr v3)
def Jma (N:Nat) (x0:(List Qj)):Option ((List Qj)) :=
 (Qx (Q0n N x0) N (0,([]:(List Qj)))).bind fun v26 =>
 some v26
def Q0o (N:Nat) (x2:Int):(Int×(List Int))→Option ((Int×(List Int))⊕(((List Int)))):=fun (v2,v3) =>
 if (decide (v2<x2)) then
  (app 8 v3 ([v2]:(List Int))).bind fun q4 =>
  some (.inl ((IntKind.wrap .i64 (v2+1)),q4))
 else
  some (.inr v3)
def Jmb (N:Nat) (x0:(List Qj)) (x1:Int) (x2:Int):Option ((List Int)) :=
 if (decide ((IntKind.wrap .i64 (x2 - x1))<2)) then
  (Qx (Q0o N x2) N (x1,([]:(List Int)))).bind fun v5 =>
  some v5
 else
  none
def Q0p (N:Nat) (x0:Qj):(Unit)→Option ((Unit)⊕((Unit))):=fun _ =>
 if (decide (0<(List.length x0.Zones:Int))) then
  none
 else
  some (.inr ())
def Jmc (N:Nat) (x0:Qj) (x1:Int) (x2:Int) (x3:Int) (x4:Str) (x5:Bool) (x6:Int):Option (Bool) :=
 (if ((decide (x0.Left≤0))||(x0.Kind != x3)) then
  some true
 else
  (Z83 N x0.Valid x6).bind fun r2 =>
  some (!r2):Option (Bool)).bind fun v3 =>
 if v3 then
  none
 else
  if ((x0.Sub != x2)&&(((!x0.Shared)||(x0.Account != x1))||(!x5))) then
   none
  else
   (Qx (Q0p N x0) N ()).bind fun _ =>
   some ((List.length x0.Zones:Int)==0)
def Jmd (N:Nat) (x0:Qj):Option (V5) :=
 some (x0.Sub,x0.Product,x0.Index,x0.Valid.From)
def Q0q (N:Nat) (r2:(List Int)) (x0:(List Qj)) (x1:Int) (x2:Int) (x3:Int) (x4:Str) (x5:Bool) (x6:Int):(Int×Int×(List Qj)×(List J2))→Option ((Int×Int×(List Qj)×(List J2))⊕((Int×(List Qj)×(List J2)))):=fun (v8,v9,v10,v11) =>
 if (decide (v9<(List.length r2:Int))) then
  (idx r2 v9).bind fun _ =>
  (idx r2 v9).bind fun x14 =>
  if (v8==0) then
   none
  else
   (idx x0 x14).bind fun x17 =>
   (Jmc N x17 x1 x2 x3 x4 x5 x6).bind fun r18 =>
   if (!r18) then
    none
   else
    (idx v10 x14).bind fun _ =>
    (idx v10 x14).bind fun x19 =>
    (idx v10 x14).bind fun _ =>
    (idx v10 x14).bind fun x20 =>
    (idx v10 x14).bind fun _ =>
    (idx v10 x14).bind fun y21 =>
    (idx x0 x14).bind fun x22 =>
    (Jmd N x22).bind fun r23 =>
    (app 48 v11 ([(r23.sub,r23.product,r23.index,r23.from_,(if x19.Left<v8 then x19.Left else v8))]:(List J2))).bind fun q24 =>
    some (.inl ((IntKind.wrap .i64 (v8 - (if x19.Left<v8 then x19.Left else v8))),(IntKind.wrap .i64 (v9+1)),(List.set v10 (Int.toNat x14) (y21.Account,y21.Sub,y21.Product,y21.Index,y21.Kind,y21.Zones,y21.Valid,y21.Units,(IntKind.wrap .i64 (x20.Left - (if x19.Left<v8 then x19.Left else v8))),y21.Priority,y21.Shared)),q24))
 else
  some (.inr (v8,v10,v11))
def Jme (N:Nat) (x0:(List Qj)) (x1:Int) (x2:Int) (x3:Int) (x4:Str) (x5:Bool) (x6:Int) (x7:Int):Option (Int×(List Qj)×(List J2)) :=
 (Jma N x0).bind fun r1 =>
 (Jmb N x0 0 (List.length x0:Int)).bind fun r2 =>
 (Qx (Q0q N r2 x0 x1 x2 x3 x4 x5 x6) N ((if 0>x7 then 0 else x7),0,r1,([]:(List J2)))).bind fun (v25,v26,v27) =>
 some (v25,v26,v27)
def Z70 (N:Nat) (x0:Ja) (x1:Qh) (x2:Str) (x3:Bool):Option (Ja×(List J2)×Int) :=
 (Z89 N x0).bind fun (r1,r2,r3) =>
 (Jme N x0.Buckets x1.Account x1.Sub x1.Kind x2 x3 x1.Start x1.Units).bind fun (r4,r5,r6) =>
 some ((r5,r2,r3),r6,r4)
def Z53 (N:Nat) (m5000_0:Jx) (m5000_1:Ja) (m5000_2:Qh) (m5000_3:Ji) (m5000_4:Qu) (m5000_5:Q6) (m5000_6:Int) (m5000_7_0:Qh) (m5000_7_1:Int) (m5000_7_2:Str) (m5000_7_3:Int) (m5000_7_4:Str) (m5000_7_7:Int) (m5000_7_8:Int) (m5000_7_9:Int) (m5000_7_11:Int) (m5000_7_12:Int) (m5001:(List J2)) (m5002:(List Q4)) (m5003:(List J9)):Option (Jx×Ja×Qh×Ji×Qu×Q6×Int×Qh×Int×Str×Int×Str×(List J2)×Int×Int×Int×Int×Int×(List Q4)×(List J9)) :=
 (Z68 N m5000_0.Events m5000_1 m5000_2.Account m5000_2.Start).bind fun r1 =>
 (Z69 N m5000_0.Events m5000_0.Products r1 m5000_2.Account m5000_2.Start).bind fun (r2,r3,r4) =>
 (Z70 N (r2,r3,r4) m5000_2 m5000_7_4 m5000_3.Family).bind fun (r11,r12,r13) =>
 some (m5000_0,r11,m5000_2,m5000_3,m5000_4,m5000_5,(IntKind.wrap .i64 (m5000_2.Units - r13)),m5000_7_0,m5000_7_1,m5000_7_2,m5000_7_3,m5000_7_4,r12,m5000_7_7,m5000_7_8,m5000_7_9,m5000_7_11,m5000_7_12,m5002,m5003)
def Jmf (N:Nat) (x0:Qh) (x1:Int):Option (Bool) :=
 if (((((decide (x1<0))||(decide (x0.Units>1099511627776)))||(decide (x0.Units≤x1)))||(decide (x0.Start<0)))||(decide (x0.Start≥12622780800))) then
  some false
 else
  some ((x0.Kind != 1)||((decide (x0.Units≤604800))&&(decide ((IntKind.wrap .i64 (x0.Start+x0.Units))≤12622780800))))
def Q0r (N:Nat) (x0:Str):(Int)→Option ((Int)⊕((Unit))):=fun v1 =>
 if (decide (v1<(List.length x0:Int))) then
  (Qpr x0 v1).bind fun c2 =>
  if (((decide (c2<97))||(decide (c2>122)))&&((v1==0)||((c2 != 45)&&((decide (c2<48))||(decide (c2>57)))))) then
   none
  else
   some (.inl (IntKind.wrap .i64 (v1+1)))
 else
  some (.inr ())
def Jmg (N:Nat) (x0:Str):Option (Bool) :=
 (Qx (Q0r N x0) N 0).bind fun _ =>
 some ((decide ((List.length x0:Int)≥1))&&(decide ((List.length x0:Int)≤24)))
def Q0s (N:Nat) (x0:(List Yk)):(Unit)→Option ((Unit)⊕((Unit))):=fun _ =>
 if (decide (0<(List.length x0:Int))) then
  none
 else
  some (.inr ())
def Jmh (N:Nat) (x0:(List Yk)) (m5000:Yk):Option (Int) :=
 (Qx (Q0s N x0) N ()).bind fun _ =>
 some (-1)
def Jmi (N:Nat) (x0:(List Yk)) (m5000:Yk):Option (Bool) :=
 (Jmh N x0 m5000).bind fun r1 =>
 some (decide (r1≥0))
def Q0t (N:Nat) (x0:(List Yk)):(Int)→Option ((Int)⊕((Unit))):=fun v1 =>
 if (decide (v1<(List.length x0:Int))) then
  (idx x0 v1).bind fun x2 =>
  (Jmg N x2.Name).bind fun r3 =>
  if (!r3) then
   none
  else
   (slc x0 0 v1).bind fun s4 =>
   (Jmi N s4 x2).bind fun r5 =>
   if r5 then
    none
   else
    if (v1==(IntKind.wrap .i64 ((List.length x0:Int) - 1))) then
     if (decide ((List.length x2.Slots:Int)>0)) then
      none
     else
      some (.inl (IntKind.wrap .i64 (v1+1)))
    else
     none
 else
  some (.inr ())
def Jd0 (N:Nat) (x0:(List Yk)):Option (Int) :=
 if ((List.length x0:Int)==0) then
  none
 else
  if (decide ((List.length x0:Int)>64)) then
   none
  else
   (Qx (Q0t N x0) N 0).bind fun _ =>
   some 0
def Q0u (N:Nat) (x0:(List Int)):(Unit)→Option ((Unit)⊕((Unit))):=fun _ =>
 if (decide (0<(List.length x0:Int))) then
  none
 else
  some (.inr ())
def Jmj (N:Nat) (x0:(List Int)) (x1:Int):Option (Int) :=
 (Qx (Q0u N x0) N ()).bind fun _ =>
 some (-1)
def Jmk (N:Nat) (x0:(List Int)) (x1:Int):Option (Bool) :=
 (Jmj N x0 x1).bind fun r1 =>
 some (decide (r1≥0))
def Jd1 (N:Nat) (x0:Int):Option (Int) :=
 if ((decide (x0<0))||(decide (x0≥146097))) then
  none
 else
  some (Int.tmod (IntKind.wrap .i64 (x0+5)) 7)
def Jml (N:Nat) (x0:(List Int)) (x1:Int):Option (Int) :=
 (Jmk N x0 x1).bind fun r1 =>
 if r1 then
  none
 else
  (Jd1 N x1).bind fun r2 =>
  (Qyj .i64 1 r2).bind fun n3 =>
  some n3
def Q0v (N:Nat) (x0:(List Kl)):(Unit)→Option ((Unit)⊕((Unit))):=fun _ =>
 if (decide (0<(List.length x0:Int))) then
  none
 else
  some (.inr ())
def Jmm (N:Nat) (x0:(List Kl)) (m5000:Int) (m5001:Int):Option (Int) :=
 (Qx (Q0v N x0) N ()).bind fun _ =>
 some (-1)
def Jmn (N:Nat) (x0:(List Kl)) (m5000:Int) (m5001:Int):Option (Bool) :=
 (Jmm N x0 m5000 m5001).bind fun r1 =>
 some (decide (r1≥0))
def Q0w (N:Nat) (x0:(List Yk)) (x1:Int) (x2:Int):(Int)→Option ((Int)⊕((Unit))):=fun v1 =>
 if (decide (v1<(List.length x0:Int))) then
  (idx x0 v1).bind fun x3 =>
  (Jmn N x3.Slots x1 x2).bind fun r4 =>
  if r4 then
   none
  else
   some (.inl (IntKind.wrap .i64 (v1+1)))
 else
  some (.inr ())
def Jmo (N:Nat) (x0:(List Yk)) (x1:Int) (x2:Int):Option (Str) :=
 (Qx (Q0w N x0 x1 x2) N 0).bind fun _ =>
 (idx x0 (IntKind.wrap .i64 ((List.length x0:Int) - 1))).bind fun x5 =>
 some x5.Name
def Z74 (N:Nat) (x0:(List Yk)) (x1:(List Int)) (x2:Int):Option (Str) :=
 (Jd0 N x0).bind fun r1 =>
 if (((r1 != 0)||(decide (x2<0)))||(decide (x2≥12622780800))) then
  none
 else
  (Jml N x1 (IntKind.wrap .i64 (Int.tdiv x2 86400))).bind fun r2 =>
  (Jmo N x0 r2 (IntKind.wrap .i64 (Int.tdiv (Int.tmod x2 86400) 60))).bind fun r3 =>
  some r3
def Jmp (N:Nat) (x0:Y2) (m5000:Int) (m5001:Str) (m5002:Str):Option (Bool) :=
 some (((x0.Kind==m5000)&&((x0.Zone==m5001)||(x0.Zone==([]:Str))))&&((x0.Band==m5002)||(x0.Band==([]:Str))))
def Q0x (N:Nat) (x0:Q6) (x1:Int) (x2:Str) (x3:Str):(Int×Str×Str×Int)→Option ((Int×Str×Str×Int)⊕((Bool×Int×Str×Str×Int×(List Ug)))):=fun (v1,v2,v3,v4) =>
 if (decide (0<(List.length x0.Rates:Int))) then
  (idx x0.Rates 0).bind fun x5 =>
  (Jmp N x5 x1 x2 x3).bind fun r6 =>
  if r6 then
   (app 24 ([]:(List Ug)) x5.Steps).bind fun q7 =>
   some (.inr (true,x5.Kind,x5.Zone,x5.Band,x5.Setup,q7))
  else
   none
 else
  none
def Jmq (N:Nat) (x0:Q6) (x1:Int) (x2:Str) (x3:Str):Option (Y2×Bool) :=
 (Qx (Q0x N x0 x1 x2 x3) N (0,([]:Str),([]:Str),0)).bind fun (v8,v9,v10,v11,v12,v13) =>
 some ((v9,v10,v11,v12,v13),v8)
def Q0y (N:Nat) (x1:(List Int)) (x0:Int):(Int)→Option ((Int)⊕((Unit))):=fun v1 =>
 if (decide (v1<(List.length x1:Int))) then
  (idx x1 v1).bind fun x2 =>
  if ((decide (x2<0))||(decide (x2>x0))) then
   none
  else
   some (.inl (IntKind.wrap .i64 (v1+1)))
 else
  some (.inr ())
def Jd2 (N:Nat) (x0:Int) (x1:(List Int)):Option (Bool) :=
 (Qx (Q0y N x1 x0) N 0).bind fun _ =>
 some true
def Q0z (N:Nat) (x0:(List Ug)):(Int×Int)→Option ((Int×Int)⊕((Unit))):=fun (v1,v2) =>
 if (decide (v2<(List.length x0:Int))) then
  (idx x0 v2).bind fun x3 =>
  (Jd2 N 1099511627776 ([x3.Upto,x3.Quantum]:(List Int))).bind fun r4 =>
  (if ((!r4)||(x3.Quantum==0)) then
   some true
  else
   (Jd2 N 1125899906842624 ([x3.Price]:(List Int))).bind fun r6 =>
   some (!r6):Option (Bool)).bind fun v7 =>
  if v7 then
   none
  else
   if ((x3.Upto==0) != (v2==(IntKind.wrap .i64 ((List.length x0:Int) - 1)))) then
    none
   else
    if ((x3.Upto != 0)&&(decide (x3.Upto≤v1))) then
     none
    else
     some (.inl (x3.Upto,(IntKind.wrap .i64 (v2+1))))
 else
  some (.inr ())
def Jmr (N:Nat) (x0:(List Ug)):Option (Int) :=
 if ((List.length x0:Int)==0) then
  none
 else
  if (decide ((List.length x0:Int)>64)) then
   none
  else
   (Qx (Q0z N x0) N (0,0)).bind fun _ =>
   some 0
def Q00 (N:Nat) (x0:(List Ug)) (x1:Int):(Int×Int×Int)→Option ((Int×Int×Int)⊕((Int))):=fun (v1,v2,v3) =>
 if (decide (v3<(List.length x0:Int))) then
  (idx x0 v3).bind fun x4 =>
  if (x4.Upto != 0) then
   none
  else
   if (decide (x1≤v2)) then
    some (.inr v1)
   else
    (Qj4 .i64 (IntKind.wrap .i64 ((IntKind.wrap .i64 ((IntKind.wrap .i64 (x1 - v2))+x4.Quantum)) - 1)) x4.Quantum).bind fun n5 =>
    (Qj4 .i64 (IntKind.wrap .i64 (1125899906842624 - v1)) n5).bind fun n6 =>
    if (decide (x4.Price>n6)) then
     none
    else
     some (.inl ((IntKind.wrap .i64 (v1+(IntKind.wrap .i64 (n5*x4.Price)))),x1,(IntKind.wrap .i64 (v3+1))))
 else
  some (.inr v1)
def Jd3 (N:Nat) (x0:(List Ug)) (x1:Int):Option (Int×Bool) :=
 (Qx (Q00 N x0 x1) N (0,0,0)).bind fun v7 =>
 some (v7,true)
def Jms (N:Nat) (x0:(List Ug)) (x1:Int) (x2:Int):Option (Int×Int) :=
 (Jmr N x0).bind fun r1 =>
 if (r1 != 0) then
  none
 else
  if ((((decide (x1<0))||(decide (x2<0)))||(decide (x1>1099511627776)))||(decide (x2>(IntKind.wrap .i64 (1099511627776 - x1))))) then
   none
  else
   (Jd3 N x0 (IntKind.wrap .i64 (x1+x2))).bind fun (r2,r3) =>
   if (!r3) then
    none
   else
    (Jd3 N x0 x1).bind fun (r4,r5) =>
    some ((IntKind.wrap .i64 (r2 - r4)),0)
def Qnn (N:Nat) (x0:Q6) (x1:(List Int)) (x2:Qh) (x3:Int):Option ((List Q4)) :=
 (Jmf N x2 x3).bind fun r1 =>
 (if (!r1) then
  some true
 else
  (Jd0 N x0.Bands).bind fun r3 =>
  some (r3 != 0):Option (Bool)).bind fun v4 =>
 if v4 then
  some ([]:(List Q4))
 else
  if (x2.Kind==1) then
   if ((x2.Kind != 1)||(!x0.Split)) then
    (Z74 N x0.Bands x1 (IntKind.wrap .i64 (x2.Start+x3))).bind fun r5 =>
    some ([(r5,(IntKind.wrap .i64 (x2.Start+x3)),(IntKind.wrap .i64 (x2.Units - x3)),0)]:(List Q4))
   else
    none
  else
   none
def Jd4 (N:Nat) (r3:(List Q4)) (x0:Q6) (x2:Qh) (r1:Str):(Int×Int×Int×Int×(List Q4))→Option ((Int×Int×Int×Int×(List Q4))⊕((Int×Int×(List Q4)))):=fun (v8,v9,v10,v11,v12) =>
 if (decide (v11<(List.length r3:Int))) then
  (idx v12 v11).bind fun _ =>
  (idx v12 v11).bind fun x13 =>
  (Jmq N x0 x2.Kind r1 x13.Band).bind fun (r14,r15) =>
  if (!r15) then
   none
  else
   if (v11==0) then
    (idx v12 v11).bind fun _ =>
    (idx v12 v11).bind fun x16 =>
    (Jms N r14.Steps v10 x16.Units).bind fun (r17,r18) =>
    if (r18 != 0) then
     none
    else
     (idx v12 v11).bind fun _ =>
     (idx v12 v11).bind fun y19 =>
     (idx (List.set v12 (Int.toNat v11) (y19.Band,y19.Start,y19.Units,r17)) v11).bind fun _ =>
     (idx (List.set v12 (Int.toNat v11) (y19.Band,y19.Start,y19.Units,r17)) v11).bind fun x20 =>
     some (.inl (r14.Setup,(if 1125899906842625<(IntKind.wrap .i64 (v9+r17)) then 1125899906842625 else (IntKind.wrap .i64 (v9+r17))),(IntKind.wrap .i64 (v10+x20.Units)),(IntKind.wrap .i64 (v11+1)),(List.set v12 (Int.toNat v11) (y19.Band,y19.Start,y19.Units,r17))))
   else
    none
 else
  some (.inr (v8,v9,v12))
def Z71 (N:Nat) (x0:Q6) (x1:(List Int)) (x2:Qh) (x3:Int):Option ((List Q4)×Int×Int) :=
 (Z67 N x0.Zones x2.B).bind fun (r1,r2) =>
 (Qnn N x0 x1 x2 x3).bind fun r3 =>
 (Qx (Jd4 N r3 x0 x2 r1) N (0,0,0,0,r3)).bind fun (v21,v22,v23) =>
 if ((0==0)&&(((decide (v21<0))||(decide (v21>1125899906842624)))||(decide ((IntKind.wrap .i64 (v21+v22))>1125899906842624)))) then
  none
 else
  if (0 != 0) then
   none
  else
   some (v23,v21,0)
def Jd5 (N:Nat) (r1:(List Q4)):(Int×Int)→Option ((Int×Int)⊕((Int))):=fun (v4,v5) =>
 if (decide (v5<(List.length r1:Int))) then
  (idx r1 v5).bind fun x6 =>
  if (decide (v4≤1125899906842624)) then
   some (.inl ((IntKind.wrap .i64 (v4+x6.Amount)),(IntKind.wrap .i64 (v5+1))))
  else
   none
 else
  some (.inr v4)
def Z54 (N:Nat) (m5000_0:Jx) (m5000_1:Ja) (m5000_2:Qh) (m5000_3:Ji) (m5000_4:Qu) (m5000_5:Q6) (m5000_6:Int) (m5000_7_0:Qh) (m5000_7_1:Int) (m5000_7_2:Str) (m5000_7_3:Int) (m5000_7_4:Str) (m5000_7_5:(List J2)) (m5000_7_7:Int) (m5000_7_8:Int) (m5000_7_9:Int) (m5000_7_11:Int) (m5000_7_12:Int) (m5001:(List Q4)) (m5002:(List J9)):Option (Int×Jx×Ja×Qh×Ji×Qu×Q6×Int×Qh×Int×Str×Int×Str×(List J2)×(List Q4)×Int×Int×Int×Int×Int×(List J9)) :=
 (Z71 N m5000_5 m5000_0.Holidays m5000_2 m5000_6).bind fun (r1,r2,r3) =>
 if (r3 != 0) then
  none
 else
  (Qx (Jd5 N r1) N (r2,0)).bind fun v7 =>
  if (decide (v7>1125899906842624)) then
   none
  else
   some (0,m5000_0,m5000_1,m5000_2,m5000_3,m5000_4,m5000_5,m5000_6,m5000_7_0,m5000_7_1,m5000_7_2,m5000_7_3,m5000_7_4,m5000_7_5,r1,r2,v7,m5000_7_9,m5000_7_11,m5000_7_12,m5002)
def Z52 (N:Nat) (m5001_0:Jx) (m5001_1:Ja) (m5001_2:Qh) (m5001_3:Ji) (m5001_4:Qu) (m5001_5:Q6) (m5001_6:Int) (m5001_7_0:Qh) (m5001_7_1:Int) (m5001_7_2:Str) (m5001_7_3:Int) (m5001_7_4:Str) (m5001_7_7:Int) (m5001_7_8:Int) (m5001_7_9:Int) (m5001_7_11:Int) (m5001_7_12:Int) (m5002:(List J2)) (m5003:(List Q4)) (m5004:(List J9)):Option (Int×Jx×Ja×Qh×Ji×Qu×Q6×Int×Qh×Int×Str×Int×Str×(List J2)×(List Q4)×Int×Int×Int×Int×Int×(List J9)) :=
 (Z53 N m5001_0 m5001_1 m5001_2 m5001_3 m5001_4 m5001_5 m5001_6 m5001_7_0 m5001_7_1 m5001_7_2 m5001_7_3 m5001_7_4 m5001_7_7 m5001_7_8 m5001_7_9 m5001_7_11 m5001_7_12 m5002 m5003 m5004).bind fun (r1,r2,r3,r4,r5,r6,r7,r8,r9,r10,r11,r12,r13,r14,r15,r16,r17,r18,r19,r20) =>
 (Z54 N r1 r2 r3 r4 r5 r6 r7 r8 r9 r10 r11 r12 r13 r14 r15 r16 r17 r18 r19 r20).bind fun (r21,r22,r23,r24,r25,r26,r27,r28,r29,r30,r31,r32,r33,r34,r35,r36,r37,r38,r39,r40,r41) =>
 some (r21,r22,r23,r24,r25,r26,r27,r28,r29,r30,r31,r32,r33,r34,r35,r36,r37,r38,r39,r40,r41)
def Quw (N:Nat) (m5001_0:Jx) (m5001_1:Ja) (m5001_2:Qh) (m5001_3:Ji) (m5001_4:Qu) (m5001_5:Q6) (m5001_6:Int) (m5001_7_0:Qh) (m5001_7_1:Int) (m5001_7_2:Str) (m5001_7_3:Int) (m5001_7_4:Str) (m5001_7_7:Int) (m5001_7_8:Int) (m5001_7_9:Int) (m5001_7_11:Int) (m5001_7_12:Int) (m5002:(List J2)) (m5003:(List Q4)) (m5004:(List J9)) (m5005:Int):Option (Jx×Ja×Qh×Ji×Qu×Q6×Int×Qh×Int×Str×Int×Str×(List J2)×(List Q4)×Int×Int×Int×Int×Int×Int×(List J9)) :=
 if (m5005==0) then
  (Z52 N m5001_0 m5001_1 m5001_2 m5001_3 m5001_4 m5001_5 m5001_6 m5001_7_0 m5001_7_1 m5001_7_2 m5001_7_3 m5001_7_4 m5001_7_7 m5001_7_8 m5001_7_9 m5001_7_11 m5001_7_12 m5002 m5003 m5004).bind fun (r1,r2,r3,r4,r5,r6,r7,r8,r9,r10,r11,r12,r13,r14,r15,r16,r17,r18,r19,r20,r21) =>
  some (r2,r3,r4,r5,r6,r7,r8,r9,r10,r11,r12,r13,r14,r15,r16,r17,r18,r19,r20,r1,r21)
 else
  some (m5001_0,m5001_1,m5001_2,m5001_3,m5001_4,m5001_5,m5001_6,m5001_7_0,m5001_7_1,m5001_7_2,m5001_7_3,m5001_7_4,m5002,m5003,m5001_7_7,m5001_7_8,m5001_7_9,m5001_7_11,m5001_7_12,m5005,m5004)
def Jd6 (N:Nat) (x0:Int) (x1:Int):Option (Qg) :=
 if ((((decide (x0<1))||(decide (x0>28)))||(decide (x1<0)))||(decide (x1≥12622780800))) then
  none
 else
  (Qrh N x0 x1).bind fun r1 =>
  (Q0c N x0 r1).bind fun r2 =>
  some r2
def Z73 (N:Nat) (m5000_0:Jx) (m5000_1:Ja) (m5000_2:Qh) (m5000_3:Ji) (m5000_4:Qu) (m5000_5:Q6) (m5000_6:Int) (m5000_7_0:Qh) (m5000_7_1:Int) (m5000_7_2:Str) (m5000_7_3:Int) (m5000_7_4:Str) (m5000_7_5:(List J2)) (m5000_7_6:(List Q4)) (m5000_7_7:Int) (m5000_7_8:Int) (m5000_7_9:Int) (m5000_7_11:Int) (m5000_7_12:Int) (m5001:(List J9)):Option (Int) :=
 (Jd6 N m5000_4.Anchor m5000_2.Start).bind fun r1 =>
 some r1.From
def Q01 (N:Nat) (x0:Qv) (x1:Qv):(Int)→Option ((Int)⊕((Unit))):=fun v1 =>
 if (decide (v1<3)) then
  (idx ([([x0.Sub,x1.Sub]:(List Int)),([x0.Kind,x1.Kind]:(List Int)),([x0.From,x1.From]:(List Int))]:(List (List Int))) v1).bind fun x2 =>
  (idx x2 0).bind fun _ =>
  (idx x2 0).bind fun x3 =>
  (idx x2 1).bind fun _ =>
  (idx x2 1).bind fun x4 =>
  if (decide (x3<x4)) then
   none
  else
   (idx x2 0).bind fun _ =>
   (idx x2 0).bind fun x5 =>
   (idx x2 1).bind fun _ =>
   (idx x2 1).bind fun x6 =>
   if (decide (x5>x6)) then
    none
   else
    some (.inl (IntKind.wrap .i64 (v1+1)))
 else
  some (.inr ())
def Jd7 (N:Nat) (x0:Qv) (x1:Qv):Option (Int) :=
 (Qx (Q01 N x0 x1) N 0).bind fun _ =>
 some 0
def Jd8 (N:Nat) (x0:(List Qv)) (x1:Int) (x2:Int) (x3:Int):(Qv)→Option ((Qv)⊕((Qv)⊕(Qv))):=fun v1 =>
 if (decide (0<(List.length x0:Int))) then
  (idx x0 0).bind fun x5 =>
  (Jd7 N x5 (x1,x2,x3,0,0)).bind fun r6 =>
  if (r6==0) then
   some (.inr (.inr x5))
  else
   none
 else
  some (.inr (.inl v1))
def Z72 (N:Nat) (x0:(List Qv)) (x1:Int) (x2:Int) (x3:Int):Option (Qv) :=
 (Qx (Jd8 N x0 x1 x2 x3) N (0,0,0,0,0)).bind fun
  | .inl v7 =>
   some (x1,x2,x3,0,0)
  | .inr v8 =>
   some v8
def Z76 (N:Nat) (x0:Qh) (x1:Str) (x2:Str) (x3:Qv) (x4:Bool):Option (Z5) :=
 if ((decide (x0.Start<0))||(decide (x0.Start≥12622780800))) then
  none
 else
  (idx ([86400,60]:(List Int)) 0).bind fun _ =>
  (idx ([86400,60]:(List Int)) 0).bind fun x5 =>
  (Qj4 .i64 x0.Start x5).bind fun n6 =>
  (Jd1 N n6).bind fun r7 =>
  (idx ([86400,60]:(List Int)) 0).bind fun _ =>
  (idx ([86400,60]:(List Int)) 0).bind fun x8 =>
  (Qyi x0.Start x8).bind fun n9 =>
  (idx ([86400,60]:(List Int)) 1).bind fun _ =>
  (idx ([86400,60]:(List Int)) 1).bind fun x10 =>
  (Qj4 .i64 n9 x10).bind fun n11 =>
  some (x0.Kind,x0.Units,r7,n11,x3.Units,x3.Spent,x1,x2,x4)
def Jd9 (N:Nat) (x0:(List Ya)):(Unit)→Option ((Unit)⊕((Unit))):=fun _ =>
 if (decide (0<(List.length x0:Int))) then
  none
 else
  some (.inr ())
def Z75 (N:Nat) (x0:(List Ya)) (x1:Z5) (x2:Int):Option ((List J9)×Int×Int) :=
 if ((decide (x2<0))||(decide (x2>1125899906842624))) then
  none
 else
  (Qx (Jd9 N x0) N ()).bind fun _ =>
  some (([]:(List J9)),x2,0)
def Z56 (N:Nat) (m5000_0:Jx) (m5000_1:Ja) (m5000_2:Qh) (m5000_3:Ji) (m5000_4:Qu) (m5000_5:Q6) (m5000_6:Int) (m5000_7_0:Qh) (m5000_7_1:Int) (m5000_7_2:Str) (m5000_7_3:Int) (m5000_7_4:Str) (m5000_7_5:(List J2)) (m5000_7_6:(List Q4)) (m5000_7_7:Int) (m5000_7_8:Int) (m5000_7_9:Int) (m5000_7_11:Int) (m5000_7_12:Int) (m5001:(List J9)):Option (Int×V9) :=
 (Z73 N m5000_0 m5000_1 m5000_2 m5000_3 m5000_4 m5000_5 m5000_6 m5000_7_0 m5000_7_1 m5000_7_2 m5000_7_3 m5000_7_4 m5000_7_5 m5000_7_6 m5000_7_7 m5000_7_8 m5000_7_9 m5000_7_11 m5000_7_12 m5001).bind fun r1 =>
 (Z72 N m5000_1.Counters m5000_2.Sub m5000_2.Kind r1).bind fun r2 =>
 (Z74 N m5000_5.Bands m5000_0.Holidays m5000_2.Start).bind fun r3 =>
 (Z76 N m5000_2 m5000_7_4 r3 r2 m5000_3.Family).bind fun r4 =>
 (Z75 N m5000_5.Discounts r4 m5000_7_8).bind fun (r5,r6,r7) =>
 if (r7 != 0) then
  none
 else
  some (0,(m5000_0,m5000_1,m5000_2,m5000_3,m5000_4,m5000_5,m5000_6,(m5000_7_0,m5000_7_1,m5000_7_2,m5000_7_3,m5000_7_4,m5000_7_5,m5000_7_6,m5000_7_7,m5000_7_8,r6,r5,m5000_7_11,m5000_7_12)))
def Z55 (N:Nat) (m5001_0:Jx) (m5001_1:Ja) (m5001_2:Qh) (m5001_3:Ji) (m5001_4:Qu) (m5001_5:Q6) (m5001_6:Int) (m5001_7_0:Qh) (m5001_7_1:Int) (m5001_7_2:Str) (m5001_7_3:Int) (m5001_7_4:Str) (m5001_7_5:(List J2)) (m5001_7_6:(List Q4)) (m5001_7_7:Int) (m5001_7_8:Int) (m5001_7_9:Int) (m5001_7_11:Int) (m5001_7_12:Int) (m5002:(List J9)):Option (Int×V9) :=
 (Z56 N m5001_0 m5001_1 m5001_2 m5001_3 m5001_4 m5001_5 m5001_6 m5001_7_0 m5001_7_1 m5001_7_2 m5001_7_3 m5001_7_4 m5001_7_5 m5001_7_6 m5001_7_7 m5001_7_8 m5001_7_9 m5001_7_11 m5001_7_12 m5002).bind fun (r1,r2) =>
 some (r1,r2)
def Qux (N:Nat) (m5001_0:Jx) (m5001_1:Ja) (m5001_2:Qh) (m5001_3:Ji) (m5001_4:Qu) (m5001_5:Q6) (m5001_6:Int) (m5001_7_0:Qh) (m5001_7_1:Int) (m5001_7_2:Str) (m5001_7_3:Int) (m5001_7_4:Str) (m5001_7_5:(List J2)) (m5001_7_6:(List Q4)) (m5001_7_7:Int) (m5001_7_8:Int) (m5001_7_9:Int) (m5001_7_11:Int) (m5001_7_12:Int) (m5002:(List J9)) (m5003:Int):Option (Jx×Ja×Qh×Ji×Qu×Q6×Int×Qh×Int×Str×Int×Str×(List J2)×(List Q4)×Int×Int×Int×(List J9)×Int×Int×Int) :=
 if (m5003==0) then
  (Z55 N m5001_0 m5001_1 m5001_2 m5001_3 m5001_4 m5001_5 m5001_6 m5001_7_0 m5001_7_1 m5001_7_2 m5001_7_3 m5001_7_4 m5001_7_5 m5001_7_6 m5001_7_7 m5001_7_8 m5001_7_9 m5001_7_11 m5001_7_12 m5002).bind fun (r1,r2) =>
  some (r2.book,r2.state,r2.u,r2.spell,r2.account,r2.tariff,r2.free,r2.r.Usage,r2.r.Err,r2.r.Plan,r2.r.Version,r2.r.Zone,r2.r.Takes,r2.r.Segments,r2.r.Setup,r2.r.Gross,r2.r.Net,r2.r.Given,r2.r.Paid,r2.r.Owed,r1)
 else
  some (m5001_0,m5001_1,m5001_2,m5001_3,m5001_4,m5001_5,m5001_6,m5001_7_0,m5001_7_1,m5001_7_2,m5001_7_3,m5001_7_4,m5001_7_5,m5001_7_6,m5001_7_7,m5001_7_8,m5001_7_9,m5002,m5001_7_11,m5001_7_12,m5003)
def Jea (N:Nat) (x0:Q3):Option (Int) :=
 (Qz3 N x0).bind fun r1 =>
 if (r1 != 0) then
  none
 else
  some (IntKind.wrap .i64 ((IntKind.wrap .i64 (x0.Balance - x0.Held)) - x0.Floor))
def Jmt (N:Nat) (x0:Q3) (x1:Int):Option (Q3×Int) :=
 (Qz3 N x0).bind fun r1 =>
 if (r1 != 0) then
  none
 else
  (Qk0 N x1 0 1125899906842624).bind fun r2 =>
  if (!r2) then
   none
  else
   (Jea N x0).bind fun r3 =>
   if (decide (x1>r3)) then
    none
   else
    some ((x0.Account,(IntKind.wrap .i64 (x0.Balance - x1)),x0.Floor,x0.Held,x0.Until),0)
def Qk5 (N:Nat) (m5000:(List Q3)):(Int×(List (Int×Int)))→Option ((Int×(List (Int×Int)))⊕(((List (Int×Int))))):=fun (v2,v3) =>
 if (decide (v2<(List.length m5000:Int))) then
  (idx m5000 v2).bind fun _ =>
  (idx m5000 v2).bind fun x4 =>
  if (!(Q0 (k:=(.int .i64)) x4.Account v3).isSome) then
   some (.inl ((IntKind.wrap .i64 (v2+1)),(Vq (k:=(.int .i64)) x4.Account v2 v3)))
  else
   none
 else
  some (.inr v3)
def Qno (N:Nat) (m5000:(List Q3)):Option ((List (Int×Int))) :=
 (Qx (Qk5 N m5000) N (0,([]:List (Int×Int)))).bind fun v5 =>
 some v5
def Z77 (N:Nat) (x0:Ja) (x1:Int) (x2:Int) (x3:Bool):Option (Ja×Int×Int) :=
 (Z89 N x0).bind fun (r1,r2,r3) =>
 (Qno N r2).bind fun r4 =>
 if (((!x3)||(decide (x2≤0)))||(!(Q0 (k:=(.int .i64)) x1 r4).isSome)) then
  some ((r1,r2,r3),0,x2)
 else
  (idx r2 ((Q0 (k:=(.int .i64)) x1 r4).getD 0)).bind fun _ =>
  (idx r2 ((Q0 (k:=(.int .i64)) x1 r4).getD 0)).bind fun x5 =>
  (Jea N x5).bind fun r6 =>
  (idx r2 ((Q0 (k:=(.int .i64)) x1 r4).getD 0)).bind fun _ =>
  (idx r2 ((Q0 (k:=(.int .i64)) x1 r4).getD 0)).bind fun x7 =>
  (Jmt N x7 (if 1125899906842624<(if r6<x2 then r6 else x2) then 1125899906842624 else (if r6<x2 then r6 else x2))).bind fun (r8,r9) =>
  if (r9 != 0) then
   none
  else
   (idx r2 ((Q0 (k:=(.int .i64)) x1 r4).getD 0)).bind fun _ =>
   (idx r2 ((Q0 (k:=(.int .i64)) x1 r4).getD 0)).bind fun y10 =>
   some ((r1,(List.set r2 (Int.toNat ((Q0 (k:=(.int .i64)) x1 r4).getD 0)) r8),r3),(if 1125899906842624<(if r6<x2 then r6 else x2) then 1125899906842624 else (if r6<x2 then r6 else x2)),(IntKind.wrap .i64 (x2 - (if 1125899906842624<(if r6<x2 then r6 else x2) then 1125899906842624 else (if r6<x2 then r6 else x2)))))
def Quy (N:Nat) (m5000:V9):Option (Int) :=
 (Jd6 N m5000.account.Anchor m5000.u.Start).bind fun r1 =>
 some r1.From
def Q02 (N:Nat) (x0:Int):(Unit)→Option ((Unit)⊕((Bool))):=fun _ =>
 if (decide (0<4)) then
  (idx ([1,2,3,4]:(List Int)) 0).bind fun x1 =>
  if (x1==x0) then
   some (.inr true)
  else
   none
 else
  none
def Jmu (N:Nat) (x0:Int):Option (Bool) :=
 (Qx (Q02 N x0) N ()).bind fun v2 =>
 some v2
def Jeb (N:Nat) (x0:Qv):Option (Bool) :=
 (if ((decide (x0.Sub≥1))&&(decide (x0.Sub≤9999))) then
  (Jmu N x0.Kind).bind fun r2 =>
  some r2
 else
  some false:Option (Bool)).bind fun v3 =>
 some ((v3&&(decide (x0.From≥0)))&&(decide (x0.From<12622780800)))
def Q03 (N:Nat) (x0:Qv):Option (Bool) :=
 some ((((decide (x0.Units≥0))&&(decide (x0.Units≤1125899906842624)))&&(decide (x0.Spent≥0)))&&(decide (x0.Spent≤1125899906842624)))
def Q04 (N:Nat) (x0:(List Qv)):(Int)→Option ((Int)⊕((Unit))):=fun v1 =>
 if (decide (v1<(List.length x0:Int))) then
  (idx x0 v1).bind fun x2 =>
  (Jeb N x2).bind fun r3 =>
  (if (!r3) then
   some true
  else
   (Q03 N x2).bind fun r5 =>
   some (!r5):Option (Bool)).bind fun v6 =>
  if (v6||((x2.Units==0)&&(x2.Spent==0))) then
   none
  else
   (if (decide (v1>0)) then
    none
   else
    some false:Option ((Bool))).bind fun v7 =>
   if v7 then
    none
   else
    some (.inl (IntKind.wrap .i64 (v1+1)))
 else
  some (.inr ())
def Jmv (N:Nat) (x0:(List Qv)):Option (Bool) :=
 (Qx (Q04 N x0) N 0).bind fun _ =>
 some true
def Q05 (N:Nat) (m5000:(List Qv)) (m5001:Qv):(Unit)→Option ((Unit)⊕((Unit)⊕(Int×Int))):=fun _ =>
 if (decide (0<(List.length m5000:Int))) then
  (idx m5000 0).bind fun x1 =>
  (Jd7 N x1 m5001).bind fun r2 =>
  if (r2==0) then
   some (.inr (.inr (0,(IntKind.wrap .i64 (0+1)))))
  else
   none
 else
  some (.inr (.inl ()))
def Jmw (N:Nat) (m5000:(List Qv)) (m5001:Qv):Option (Int×Int) :=
 (Qx (Q05 N m5000 m5001) N ()).bind fun
  | .inl _ =>
   some ((List.length m5000:Int),(List.length m5000:Int))
  | .inr (v3,v4) =>
   some (v3,v4)
def Z78 (N:Nat) (x0:(List Qv)) (x1:Qv):Option (Int×(List Qv)) :=
 (Jmv N x0).bind fun r1 =>
 (if (!r1) then
  some true
 else
  (Jeb N x1).bind fun r3 =>
  some (!r3):Option (Bool)).bind fun v4 =>
 if v4 then
  none
 else
  (Q03 N x1).bind fun r5 =>
  if (!r5) then
   none
  else
   (Jmw N x0 x1).bind fun (r6,r7) =>
   (if (decide (r7>r6)) then
    (idx x0 r6).bind fun x10 =>
    (idx x0 r6).bind fun x11 =>
    some (x1.Sub,x1.Kind,x1.From,(IntKind.wrap .i64 (x1.Units+x10.Units)),(IntKind.wrap .i64 (x1.Spent+x11.Spent)))
   else
    some x1:Option ((Qv))).bind fun v12 =>
   (Q03 N v12).bind fun r13 =>
   if (!r13) then
    none
   else
    (slc x0 0 r6).bind fun s14 =>
    (app 40 ([]:(List Qv)) s14).bind fun q15 =>
    if ((v12.Units != 0)||(v12.Spent != 0)) then
     (app 40 q15 ([v12]:(List Qv))).bind fun q16 =>
     (slc x0 r7 (List.length x0:Int)).bind fun s17 =>
     (app 40 q16 s17).bind fun q18 =>
     some (0,q18)
    else
     none
def Z58 (N:Nat) (m5000:V9):Option (Int×Jx×(List Qj)×(List Q3)×Qh×Ji×Qu×Q6×Int×Ql×(List Qv)) :=
 (Z77 N m5000.state m5000.u.Account m5000.r.Net m5000.account.Prepaid).bind fun (r1,r2,r3) =>
 (Quy N m5000).bind fun r4 =>
 (Z78 N r1.Counters (m5000.u.Sub,m5000.u.Kind,r4,m5000.u.Units,m5000.r.Net)).bind fun (r5,r6) =>
 if (r5 != 0) then
  none
 else
  some (0,m5000.book,r1.Buckets,r1.Wallets,m5000.u,m5000.spell,m5000.account,m5000.tariff,m5000.free,(m5000.r.Usage,m5000.r.Err,m5000.r.Plan,m5000.r.Version,m5000.r.Zone,m5000.r.Takes,m5000.r.Segments,m5000.r.Setup,m5000.r.Gross,m5000.r.Net,m5000.r.Given,r2,r3),r6)
def Z57 (N:Nat) (m5001:V9):Option (Int×Jx×(List Qj)×(List Q3)×Qh×Ji×Qu×Q6×Int×Ql×(List Qv)) :=
 (Z58 N m5001).bind fun (r1,r2,r3,r4,r5,r6,r7,r8,r9,r10,r11) =>
 some (r1,r2,r3,r4,r5,r6,r7,r8,r9,r10,r11)
def Quz (N:Nat) (m5001:V9) (m5002:Int):Option (Jx×(List Qj)×(List Q3)×(List Qv)×Qh×Ji×Qu×Q6×Int×Ql×Int) :=
 if (m5002==0) then
  (Z57 N m5001).bind fun (r1,r2,r3,r4,r5,r6,r7,r8,r9,r10,r11) =>
  some (r2,r3,r4,r11,r5,r6,r7,r8,r9,r10,r1)
 else
  some (m5001.book,m5001.state.Buckets,m5001.state.Wallets,m5001.state.Counters,m5001.u,m5001.spell,m5001.account,m5001.tariff,m5001.free,m5001.r,m5002)
def Jec (N:Nat) (x0:Ja):(Int×(List Qj)×(List Q3)×(List Qv))→Option ((Int×(List Qj)×(List Q3)×(List Qv))⊕(((List Qj)×(List Q3)×(List Qv)))):=fun (v7,v8,v9,v10) =>
 if (decide (v7<(List.length x0.Buckets:Int))) then
  (idx x0.Buckets v7).bind fun x11 =>
  (app 16 ([]:(List Str)) x11.Zones).bind fun q12 =>
  (app 120 v8 ([(x11.Account,x11.Sub,x11.Product,x11.Index,x11.Kind,q12,x11.Valid,x11.Units,x11.Left,x11.Priority,x11.Shared)]:(List Qj))).bind fun q13 =>
  some (.inl ((IntKind.wrap .i64 (v7+1)),q13,v9,v10))
 else
  some (.inr (v8,v9,v10))
def Z46 (N:Nat) (x0:Ja):Option (Ja) :=
 (app 40 ([]:(List Q3)) x0.Wallets).bind fun q1 =>
 (app 40 ([]:(List Qv)) x0.Counters).bind fun q2 =>
 (Qx (Jec N x0) N (0,([]:(List Qj)),q1,q2)).bind fun (v14,v15,v16) =>
 some (v14,v15,v16)
def Qu0 (N:Nat) (x0:Jx) (x1:Ja) (x2:Qh):Option (Ja×Ql) :=
 if (x2.Inbound||(x2.Units==0)) then
  none
 else
  (Z47 N x0 x1 x2 (0,0) ([]:Str) false false 0 0 0 false false ([]:Str) 0 false 0 x2 0 ([]:Str) 0 ([]:Str) 0 0 0 0 0 ([]:(List Str)) ([]:(List Int)) ([]:(List Yf)) ([]:(List Yk)) ([]:(List Y2)) ([]:(List Ya)) ([]:(List J2)) ([]:(List Q4)) ([]:(List J9)) 0).bind fun (r1,r2,r3,r4,r5,r6,r7,r8,r9,r10,r11,r12,r13,r14,r15,r16,r17,r18,r19,r20,r21,r22,r23,r24,r25,r26,r27,r28,r29,r30,r31,r32,r33,r34,r35,r36) =>
  (Quu N r1 r2 r3 (r4,r5,r6,r7,r8) (r9,r10,r11,r12,r13,r14) r15 r16 r17 r18 r19 r20 r21 r22 r23 r24 r25 r26 r27 r28 r30 r31 r32 r33 r34 r35 r36 r29).bind fun (r37,r38,r39,r40,r41,r42,r43,r44,r45,r46,r47,r48,r49,r50,r51,r52,r53,r54,r55,r56,r57,r58,r59,r60,r61,r62,r63) =>
  (Quw N r37 r38 r39 r40 r41 (r42,r43,r44,r45,r46,r47,r48) r49 r50 r51 r52 r53 r54 r55 r56 r57 r58 r59 r61 r62 r63 r60).bind fun (r64,r65,r66,r67,r68,r69,r70,r71,r72,r73,r74,r75,r76,r77,r78,r79,r80,r81,r82,r83,r84) =>
  (Qux N r64 r65 r66 r67 r68 r69 r70 r71 r72 r73 r74 r75 r76 r77 r78 r79 r80 r81 r82 r84 r83).bind fun (r85,r86,r87,r88,r89,r90,r91,r92,r93,r94,r95,r96,r97,r98,r99,r100,r101,r102,r103,r104,r105) =>
  (Quz N (r85,r86,r87,r88,r89,r90,r91,(r92,r93,r94,r95,r96,r97,r98,r99,r100,r101,r102,r103,r104)) r105).bind fun (r106,r107,r108,r109,r110,r111,r112,r113,r114,r115,r116) =>
  if (r116 != 0) then
   (Z46 N x1).bind fun r118 =>
   some (r118,(x2,r116,([]:Str),0,([]:Str),([]:(List J2)),([]:(List Q4)),0,0,0,([]:(List J9)),0,0))
  else
   some ((r107,r108,r109),r115)
def Jed (N:Nat) (x0:Ja):(Unit)→Option ((Unit)⊕((Unit))):=fun _ =>
 if (decide (0<(List.length x0.Buckets:Int))) then
  none
 else
  some (.inr ())
def Z79 (N:Nat) (x0:Ja):Option ((List Q3)×(List Qv)) :=
 (app 40 ([]:(List Q3)) x0.Wallets).bind fun q1 =>
 (app 40 ([]:(List Qv)) x0.Counters).bind fun q2 =>
 (Qx (Jed N x0) N ()).bind fun _ =>
 some (q1,q2)
def Jee (N:Nat) (x0:Qh):Option (U3) :=
 some (x0.Start,x0.Source,x0.Serial,x0.Id)
def Jmx (N:Nat) (x0:U3) (x1:U3):Option (Bool) :=
 if ((x0.start==x1.start)&&((x0.source==x1.source)&&((x0.serial==x1.serial)&&((x0.id==x1.id)&&true)))) then
  none
 else
  if (x0.start != x1.start) then
   some (decide (x0.start<x1.start))
  else
   none
def Jef (N:Nat):((List Qh)×(List Qh)×(List Qh))→Option (((List Qh)×(List Qh)×(List Qh))⊕(((List Qh)))):=fun (v7,v8,v9) =>
 if ((decide ((List.length v7:Int)>0))||(decide ((List.length v8:Int)>0))) then
  (if ((List.length v8:Int)==0) then
   some true
  else
   if (decide ((List.length v7:Int)>0)) then
    (idx v8 0).bind fun x10 =>
    (Jee N x10).bind fun r11 =>
    (idx v7 0).bind fun x12 =>
    (Jee N x12).bind fun r13 =>
    (Jmx N r11 r13).bind fun r14 =>
    some (!r14)
   else
    some false:Option ((Bool))).bind fun v15 =>
  if v15 then
   (idx v7 0).bind fun x16 =>
   (app 112 v9 ([x16]:(List Qh))).bind fun q17 =>
   (slc v7 1 (List.length v7:Int)).bind fun s18 =>
   some (.inl (s18,v8,q17))
  else
   (idx v8 0).bind fun x19 =>
   (app 112 v9 ([x19]:(List Qh))).bind fun q20 =>
   (slc v8 1 (List.length v8:Int)).bind fun s21 =>
   some (.inl (v7,s21,q20))
 else
  some (.inr v9)
def Qnp (N:Nat):Nat→(List Qh)→Option ((List Qh))
 | 0,_=>none
 | n+1,x0 =>
  if (decide ((List.length x0:Int)<2)) then
   (app 112 ([]:(List Qh)) x0).bind fun q1 =>
   some q1
  else
   (slc x0 0 (IntKind.wrap .i64 (Int.tdiv (List.length x0:Int) 2))).bind fun s2 =>
   (Qnp N n s2).bind fun r3 =>
   (slc x0 (IntKind.wrap .i64 (Int.tdiv (List.length x0:Int) 2)) (List.length x0:Int)).bind fun s4 =>
   (Qnp N n s4).bind fun r5 =>
   (mkL 112 0 (List.length x0:Int) (0,0,0,0,([]:Str),([]:Str),0,0,0,false,0,0)).bind fun m6 =>
   (Qx (Jef N) N (r3,r5,m6)).bind fun v22 =>
   some v22
def Z80 (N:Nat) (x0:(List Qh)):Option ((List Qh)):=Qnp N N x0
def Jeg (N:Nat) (r3:(List Qh)) (x0:Jx):(Int×(List Qj)×(List Q3)×(List Qv)×(List Ql))→Option ((Int×(List Qj)×(List Q3)×(List Qv)×(List Ql))⊕((Ja×(List Ql)))):=fun (v10,v11,v12,v13,v14) =>
 if (decide (v10<(List.length r3:Int))) then
  (idx r3 v10).bind fun x15 =>
  (Qu0 N x0 (v11,v12,v13) x15).bind fun (r16,r17) =>
  (app 272 v14 ([r17]:(List Ql))).bind fun q18 =>
  some (.inl ((IntKind.wrap .i64 (v10+1)),r16.Buckets,r16.Wallets,r16.Counters,q18))
 else
  some (.inr ((v11,v12,v13),v14))
def Z59 (N:Nat) (x0:Jx) (x1:Ja) (x2:(List Qh)):Option (Ja×(List Ql)) :=
 (Z79 N x1).bind fun (r1,r2) =>
 (Z80 N x2).bind fun r3 =>
 (Qx (Jeg N r3 x0) N (0,([]:(List Qj)),r1,r2,([]:(List Ql)))).bind fun (v19,v20) =>
 some (v19,v20)
def Z32 (N:Nat) (x0:Jx) (x1:(List Qh)):Option (Ja×(List Ql)) :=
 (Z59 N x0 (([]:(List Qj)),([]:(List Q3)),([]:(List Qv))) x1).bind fun (r1,r2) =>
 some (r1,r2)
def Xd (N:Nat) (x0:(List Ql)) (x1:Int):(Int)→Option ((Int)⊕((Unit)⊕(Int))):=fun v1 =>
 if (decide (v1<(List.length x0:Int))) then
  (idx x0 v1).bind fun x2 =>
  if (x2.Usage.Id==x1) then
   some (.inr (.inr v1))
  else
   some (.inl (IntKind.wrap .i64 (v1+1)))
 else
  some (.inr (.inl ()))
def K2 (N:Nat) (x0:(List Ql)) (x1:Int):Option (Int) :=
 (Qx (Xd N x0 x1) N 0).bind fun
  | .inl _ =>
   some (-1)
  | .inr v3 =>
   some v3
def Kz (N:Nat) (x0:(List Ql)):(Int)→Option ((Int)⊕((Unit)⊕(Bool))):=fun v1 =>
 if (decide (v1<(List.length x0:Int))) then
  (idx x0 v1).bind fun x2 =>
  ((slc x0 0 v1).bind fun s3 =>
  (K2 N s3 x2.Usage.Id).bind fun r4 =>
  some (((((decide (r4≥0))||(decide (x2.Paid<(-1125899906842624))))||(decide (x2.Paid>1125899906842624)))||(decide (x2.Owed<(-1125899906842624))))||(decide (x2.Owed>1125899906842624))):Option ((Bool))).bind fun v5 =>
  if v5 then
   some (.inr (.inr false))
  else
   some (.inl (IntKind.wrap .i64 (v1+1)))
 else
  some (.inr (.inl ()))
def Ue (N:Nat) (x0:(List Ql)) (x1:Int):Option (Bool) :=
 if (decide ((List.length x0:Int)>x1)) then
  some false
 else
  (Qx (Kz N x0) N 0).bind fun
   | .inl _ =>
    some true
   | .inr v6 =>
    some v6
def Qu1 (N:Nat) (x0:Jx) (x1:(List Qh)):Option (Ja×(List Ql)) :=
 (Z59 N x0 (([]:(List Qj)),([]:(List Q3)),([]:(List Qv))) x1).bind fun (r1,r2) =>
 some (r1,r2)
def Z60 (N:Nat) (x0:(List Qh)) (x1:Qh):Option ((List Qh)) :=
 (app 112 ([]:(List Qh)) x0).bind fun q1 =>
 (app 112 q1 ([x1]:(List Qh))).bind fun q2 =>
 (Z80 N q2).bind fun r3 =>
 some r3
def Ze (N:Nat) (x0:Ql):Option (Int) :=
 some x0.Usage.Id
def I5 (N:Nat) (x0:Ql):Option (Qa) :=
 some (x0.Usage.Id,x0.Usage.Account,x0.Usage.Sub,x0.Usage.Kind,x0.Usage.Start,x0.Paid,x0.Owed)
def Hf (N:Nat) (m5000:Ql) (m5001:Ql):Option (Qa) :=
 (I5 N m5001).bind fun r1 =>
 some (r1.Usage,r1.Account,r1.Sub,r1.Kind,r1.Start,(IntKind.wrap .i64 (r1.Paid - m5000.Paid)),(IntKind.wrap .i64 (r1.Owed - m5000.Owed)))
def Xw (N:Nat) (m5000:Ql):Option (Qa) :=
 (I5 N m5000).bind fun r1 =>
 some r1
def Xx (N:Nat) (m5000:Ql):Option (Qa) :=
 (I5 N m5000).bind fun r1 =>
 some (r1.Usage,r1.Account,r1.Sub,r1.Kind,r1.Start,(IntKind.wrap .i64 (0 - r1.Paid)),(IntKind.wrap .i64 (0 - r1.Owed)))
def Gv (N:Nat) (x0:Qa) (x1:Qa):Option (Bool) :=
 if (x0.Start != x1.Start) then
  some (decide (x0.Start<x1.Start))
 else
  some (decide (x0.Usage<x1.Usage))
def Zn (N:Nat) (v4:(List Qa)) (x6:Qa):(Int)→Option ((Int)⊕((Int))):=fun v9 =>
 (if (decide (v9>0)) then
  (idx v4 (IntKind.wrap .i64 (v9 - 1))).bind fun _ =>
  (idx v4 (IntKind.wrap .i64 (v9 - 1))).bind fun x10 =>
  (Gv N x6 x10).bind fun r11 =>
  some r11
 else
  some false:Option ((Bool))).bind fun v14 =>
 if v14 then
  some (.inl (IntKind.wrap .i64 (v9 - 1)))
 else
  some (.inr v9)
def K3 (N:Nat) (x0:(List Qa)):(Int×(List Qa))→Option ((Int×(List Qa))⊕(((List Qa)))):=fun (v2,v4) =>
 if (decide (v2<(List.length x0:Int))) then
  ((idx x0 v2).bind fun x6 =>
  if ((x6.Paid==0)&&(x6.Owed==0)) then
   some v4
  else
   (Qx (Zn N v4 x6) N (List.length v4:Int)).bind fun v15 =>
   (slc v4 0 v15).bind fun s16 =>
   (app 56 ([]:(List Qa)) s16).bind fun q17 =>
   (app 56 q17 ([x6]:(List Qa))).bind fun q18 =>
   (slc v4 v15 (List.length v4:Int)).bind fun s19 =>
   (app 56 q18 s19).bind fun q20 =>
   some q20:Option (((List Qa)))).bind fun v21 =>
  some (.inl ((IntKind.wrap .i64 (v2+1)),v21))
 else
  some (.inr v4)
def U4 (N:Nat) (x0:(List Qa)):Option ((List Qa)) :=
 (Qx (K3 N x0) N (0,([]:(List Qa)))).bind fun v22 =>
 some v22
def V6 (N:Nat) (x0:(List Ql)):(Int×(List (Int×Int)))→Option ((Int×(List (Int×Int)))⊕(((List (Int×Int))))):=fun (v2,v3) =>
 if (decide (v2<(List.length x0:Int))) then
  (idx x0 v2).bind fun x4 =>
  (Ze N x4).bind fun r5 =>
  some (.inl ((IntKind.wrap .i64 (v2+1)),(Vq (k:=(.int .i64)) r5 v2 v3)))
 else
  some (.inr v3)
def U5 (N:Nat) (x1:(List Ql)) (v6:(List (Int×Int))) (x0:(List Ql)):(Int×(List (Int×Bool))×(List Qa))→Option ((Int×(List (Int×Bool))×(List Qa))⊕(((List (Int×Bool))×(List Qa)))):=fun (v10,v11,v12) =>
 if (decide (v10<(List.length x1:Int))) then
  ((idx x1 v10).bind fun x18 =>
  (Ze N x18).bind fun r19 =>
  if (Q0 (k:=(.int .i64)) r19 v6).isSome then
   (idx x0 ((Q0 (k:=(.int .i64)) r19 v6).getD 0)).bind fun x20 =>
   (Hf N x20 x18).bind fun r21 =>
   (app 56 v12 ([r21]:(List Qa))).bind fun q22 =>
   some ((Vq (k:=(.int .i64)) r19 true v11),q22)
  else
   (Xw N x18).bind fun r23 =>
   (app 56 v12 ([r23]:(List Qa))).bind fun q24 =>
   some (v11,q24):Option (((List (Int×Bool))×(List Qa)))).bind fun (v25,v26) =>
  some (.inl ((IntKind.wrap .i64 (v10+1)),v25,v26))
 else
  some (.inr (v11,v12))
def V7 (N:Nat) (x0:(List Ql)) (v27:(List (Int×Bool))):(Int×(List Qa))→Option ((Int×(List Qa))⊕(((List Qa)))):=fun (v29,v30) =>
 if (decide (v29<(List.length x0:Int))) then
  ((idx x0 v29).bind fun x32 =>
  (Ze N x32).bind fun r34 =>
  if (!((Q0 (k:=(.int .i64)) r34 v27).getD false)) then
   (Xx N x32).bind fun r35 =>
   (app 56 v30 ([r35]:(List Qa))).bind fun q36 =>
   some q36
  else
   some v30:Option (((List Qa)))).bind fun v37 =>
  some (.inl ((IntKind.wrap .i64 (v29+1)),v37))
 else
  some (.inr v30)
def Z6 (N:Nat) (x0:(List Ql)) (x1:(List Ql)):Option ((List Qa)) :=
 (Qx (V6 N x0) N (0,([]:List (Int×Int)))).bind fun v6 =>
 (Qx (U5 N x1 v6 x0) N (0,([]:List (Int×Bool)),([]:(List Qa)))).bind fun (v27,v28) =>
 (Qx (V7 N x0 v27) N (0,v28)).bind fun v38 =>
 (U4 N v38).bind fun r39 =>
 some r39
def Ux (N:Nat) (x0:(List Ql)) (x1:(List Ql)):Option ((List Qa)) :=
 (Z6 N x0 x1).bind fun r1 =>
 some r1
def Z34 (N:Nat) (x0:Jx) (x1:(List Qh)) (x2:Qh):Option ((List Qa)) :=
 (Qu1 N x0 x1).bind fun (r1,r2) =>
 (Z60 N x1 x2).bind fun r3 =>
 (Z32 N x0 r3).bind fun (r4,r5) =>
 (Ux N r2 r5).bind fun r6 =>
 some r6
def Z61 (N:Nat) (x0:Int):Option (Str) :=
 if (x0==1) then
  none
 else
  if (x0==2) then
   some ([116,101,120,116]:Str)
  else
   none
def Jeh (N:Nat) (v6:(List Ys)):(Unit)→Option ((Unit)⊕((Unit))):=fun _ =>
 (if (decide (0<(List.length v6:Int))) then
  none
 else
  some false:Option (Bool)).bind fun v9 =>
 if v9 then
  none
 else
  some (.inr ())
def Jei (N:Nat) (x0:(List Qa)) (x1:Int):(Int×(List Ys)×(List Int))→Option ((Int×(List Ys)×(List Int))⊕(((List Ys)))):=fun (v2,v6,v7) =>
 if (decide (v2<(List.length x0:Int))) then
  (idx x0 v2).bind fun x8 =>
  if (x8.Account != x1) then
   none
  else
   (Qx (Jeh N v6) N ()).bind fun _ =>
   (if (0==(List.length v6:Int)) then
    some true
   else
    none:Option (Bool)).bind fun v10 =>
   (if v10 then
    some true
   else
    none:Option (Bool)).bind fun v11 =>
   if v11 then
    (Z61 N x8.Kind).bind fun r12 =>
    (slc v6 0 0).bind fun s18 =>
    (app 80 ([]:(List Ys)) s18).bind fun q19 =>
    (app 80 q19 ([(3,x8.Sub,([97,100,106,117,115,116,109,101,110,116]:Str),r12,0,0,0,0)]:(List Ys))).bind fun q20 =>
    (slc v6 0 (List.length v6:Int)).bind fun s21 =>
    (app 80 q20 s21).bind fun q22 =>
    (slc v7 0 0).bind fun s25 =>
    (app 8 ([]:(List Int)) s25).bind fun q26 =>
    (app 8 q26 ([x8.Kind]:(List Int))).bind fun q27 =>
    (slc v7 0 (List.length v7:Int)).bind fun s28 =>
    (app 8 q27 s28).bind fun q29 =>
    (idx q22 0).bind fun _ =>
    (idx q22 0).bind fun x30 =>
    (idx q22 0).bind fun _ =>
    (idx q22 0).bind fun y31 =>
    (idx (List.set q22 (Int.toNat 0) (y31.Kind,y31.Sub,y31.Name,y31.Category,(IntKind.wrap .i64 (x30.Count+1)),y31.Units,y31.Amount,y31.Rounded)) 0).bind fun _ =>
    (idx (List.set q22 (Int.toNat 0) (y31.Kind,y31.Sub,y31.Name,y31.Category,(IntKind.wrap .i64 (x30.Count+1)),y31.Units,y31.Amount,y31.Rounded)) 0).bind fun x32 =>
    (idx (List.set q22 (Int.toNat 0) (y31.Kind,y31.Sub,y31.Name,y31.Category,(IntKind.wrap .i64 (x30.Count+1)),y31.Units,y31.Amount,y31.Rounded)) 0).bind fun _ =>
    (idx (List.set q22 (Int.toNat 0) (y31.Kind,y31.Sub,y31.Name,y31.Category,(IntKind.wrap .i64 (x30.Count+1)),y31.Units,y31.Amount,y31.Rounded)) 0).bind fun y33 =>
    some (.inl ((IntKind.wrap .i64 (v2+1)),(List.set (List.set q22 (Int.toNat 0) (y31.Kind,y31.Sub,y31.Name,y31.Category,(IntKind.wrap .i64 (x30.Count+1)),y31.Units,y31.Amount,y31.Rounded)) (Int.toNat 0) (y33.Kind,y33.Sub,y33.Name,y33.Category,y33.Count,y33.Units,(IntKind.wrap .i64 (x32.Amount+x8.Owed)),y33.Rounded)),q29))
   else
    none
 else
  some (.inr v6)
def Jej (N:Nat) (v34:(List Ys)):(Int×(List Ys))→Option ((Int×(List Ys))⊕(((List Ys)))):=fun (v36,v37) =>
 if (decide (v36<(List.length v34:Int))) then
  (idx v34 v36).bind fun _ =>
  (idx v34 v36).bind fun x38 =>
  if (x38.Amount != 0) then
   (app 80 v37 ([x38]:(List Ys))).bind fun q39 =>
   some (.inl ((IntKind.wrap .i64 (v36+1)),q39))
  else
   none
 else
  some (.inr v37)
def Z35 (N:Nat) (x0:(List Qa)) (x1:Int):Option ((List Ys)) :=
 (Qx (Jei N x0 x1) N (0,([]:(List Ys)),([]:(List Int)))).bind fun v34 =>
 (Qx (Jej N v34) N (0,([]:(List Ys)))).bind fun v40 =>
 some v40
def D1 (N:Nat) (x0:(List Qa)) (x1:(List Qa)):(Int)→Option ((Int)⊕((Unit)⊕(Bool))):=fun v1 =>
 if (decide (v1<(List.length x0:Int))) then
  (idx x0 v1).bind fun x2 =>
  (idx x1 v1).bind fun x3 =>
  if (!((x2.Usage==x3.Usage)&&((x2.Account==x3.Account)&&((x2.Sub==x3.Sub)&&((x2.Kind==x3.Kind)&&((x2.Start==x3.Start)&&((x2.Paid==x3.Paid)&&((x2.Owed==x3.Owed)&&true)))))))) then
   some (.inr (.inr false))
  else
   some (.inl (IntKind.wrap .i64 (v1+1)))
 else
  some (.inr (.inl ()))
def Ft (N:Nat) (x0:(List Qa)) (x1:(List Qa)):Option (Bool) :=
 if ((List.length x0:Int) != (List.length x1:Int)) then
  some false
 else
  (Qx (D1 N x0 x1) N 0).bind fun
   | .inl _ =>
    some true
   | .inr v4 =>
    some v4
def Jek (N:Nat) (x0:(List Ys)) (x1:(List Ys)):(Int)→Option ((Int)⊕((Unit))):=fun v1 =>
 if (decide (v1<(List.length x0:Int))) then
  (idx x0 v1).bind fun x2 =>
  (idx x1 v1).bind fun x3 =>
  if (!((x2.Kind==x3.Kind)&&((x2.Sub==x3.Sub)&&((x2.Name==x3.Name)&&((x2.Category==x3.Category)&&((x2.Count==x3.Count)&&((x2.Units==x3.Units)&&((x2.Amount==x3.Amount)&&((x2.Rounded==x3.Rounded)&&true))))))))) then
   none
  else
   some (.inl (IntKind.wrap .i64 (v1+1)))
 else
  some (.inr ())
def Z36 (N:Nat) (x0:(List Ys)) (x1:(List Ys)):Option (Bool) :=
 if ((List.length x0:Int) != (List.length x1:Int)) then
  none
 else
  (Qx (Jek N x0 x1) N 0).bind fun _ =>
  some true
def Km (N:Nat):Option (Bool) :=
 (Z27 N).bind fun r1 =>
 (Z34 N r1 ([(1,1,1,1,([52,57,49,49]:Str),([52,57,49,50]:Str),1000,20,0,false,1,2)]:(List Qh)) (2,1,1,1,([52,57,49,49]:Str),([52,57,49,50]:Str),500,25,0,false,1,1)).bind fun r2 =>
 (Z35 N ([(1,3,2,2,0,0,(-200))]:(List Qa)) 3).bind fun r3 =>
 (Ft N r2 ([(1,1,1,1,1000,700,100)]:(List Qa))).bind fun r4 =>
 (if r4 then
  (Z36 N r3 ([(3,2,([97,100,106,117,115,116,109,101,110,116]:Str),([116,101,120,116]:Str),1,0,(-200),0)]:(List Ys))).bind fun r6 =>
  some r6
 else
  some false:Option (Bool)).bind fun v7 =>
 some v7
def Z7 (N:Nat) (x0:Qa):Option (Int) :=
 some x0.Usage
def E0 (N:Nat) (m5000:Qa) (m5001:Qa):Option (Qa) :=
 some (m5001.Usage,m5001.Account,m5001.Sub,m5001.Kind,m5001.Start,(IntKind.wrap .i64 (m5001.Paid+m5000.Paid)),(IntKind.wrap .i64 (m5001.Owed+m5000.Owed)))
def Wp (N:Nat) (m5000:Qa):Option (Qa) :=
 some m5000
def Wq (N:Nat) (m5000:Qa):Option (Qa) :=
 some m5000
def Vw (N:Nat) (x0:(List Qa)):(Int×(List (Int×Int)))→Option ((Int×(List (Int×Int)))⊕(((List (Int×Int))))):=fun (v2,v3) =>
 if (decide (v2<(List.length x0:Int))) then
  (idx x0 v2).bind fun x4 =>
  (Z7 N x4).bind fun r5 =>
  some (.inl ((IntKind.wrap .i64 (v2+1)),(Vq (k:=(.int .i64)) r5 v2 v3)))
 else
  some (.inr v3)
def Uv (N:Nat) (x1:(List Qa)) (v6:(List (Int×Int))) (x0:(List Qa)):(Int×(List (Int×Bool))×(List Qa))→Option ((Int×(List (Int×Bool))×(List Qa))⊕(((List (Int×Bool))×(List Qa)))):=fun (v10,v11,v12) =>
 if (decide (v10<(List.length x1:Int))) then
  ((idx x1 v10).bind fun x18 =>
  (Z7 N x18).bind fun r19 =>
  if (Q0 (k:=(.int .i64)) r19 v6).isSome then
   (idx x0 ((Q0 (k:=(.int .i64)) r19 v6).getD 0)).bind fun x20 =>
   (E0 N x20 x18).bind fun r21 =>
   (app 56 v12 ([r21]:(List Qa))).bind fun q22 =>
   some ((Vq (k:=(.int .i64)) r19 true v11),q22)
  else
   (Wp N x18).bind fun r23 =>
   (app 56 v12 ([r23]:(List Qa))).bind fun q24 =>
   some (v11,q24):Option (((List (Int×Bool))×(List Qa)))).bind fun (v25,v26) =>
  some (.inl ((IntKind.wrap .i64 (v10+1)),v25,v26))
 else
  some (.inr (v11,v12))
def Vx (N:Nat) (x0:(List Qa)) (v27:(List (Int×Bool))):(Int×(List Qa))→Option ((Int×(List Qa))⊕(((List Qa)))):=fun (v29,v30) =>
 if (decide (v29<(List.length x0:Int))) then
  ((idx x0 v29).bind fun x32 =>
  (Z7 N x32).bind fun r34 =>
  if (!((Q0 (k:=(.int .i64)) r34 v27).getD false)) then
   (Wq N x32).bind fun r35 =>
   (app 56 v30 ([r35]:(List Qa))).bind fun q36 =>
   some q36
  else
   some v30:Option (((List Qa)))).bind fun v37 =>
  some (.inl ((IntKind.wrap .i64 (v29+1)),v37))
 else
  some (.inr v30)
def Zq (N:Nat) (x0:(List Qa)) (x1:(List Qa)):Option ((List Qa)) :=
 (Qx (Vw N x0) N (0,([]:List (Int×Int)))).bind fun v6 =>
 (Qx (Uv N x1 v6 x0) N (0,([]:List (Int×Bool)),([]:(List Qa)))).bind fun (v27,v28) =>
 (Qx (Vx N x0 v27) N (0,v28)).bind fun v38 =>
 (U4 N v38).bind fun r39 =>
 some r39
def Hz (N:Nat) (x0:(List Qa)) (x1:(List Qa)):Option ((List Qa)) :=
 (Zq N x0 x1).bind fun r1 =>
 some r1
def Kn (N:Nat) (x0:(List Qa)) (x1:Int):(Int)→Option ((Int)⊕((Unit)⊕(Int×Int))):=fun v1 =>
 if (decide (v1<(List.length x0:Int))) then
  (idx x0 v1).bind fun x2 =>
  if (x2.Usage==x1) then
   (idx x0 v1).bind fun x3 =>
   (idx x0 v1).bind fun x4 =>
   some (.inr (.inr (x3.Paid,x4.Owed)))
  else
   some (.inl (IntKind.wrap .i64 (v1+1)))
 else
  some (.inr (.inl ()))
def Uq (N:Nat) (x0:(List Qa)) (x1:Int):Option (Int×Int) :=
 (Qx (Kn N x0 x1) N 0).bind fun
  | .inl _ =>
   some (0,0)
  | .inr (v5,v6) =>
   some (v5,v6)
def Vt (N:Nat) (r9:(List Qa)):(Int×(List Qa)×(List Qa))→Option ((Int×(List Qa)×(List Qa))⊕((Unit)⊕(Bool))):=fun (v20,v21,v22) =>
 if (decide (v20<(List.length r9:Int))) then
  (idx r9 v20).bind fun _ =>
  (idx r9 v20).bind fun x23 =>
  (Uq N v21 x23.Usage).bind fun (r24,r27) =>
  (idx r9 v20).bind fun _ =>
  (idx r9 v20).bind fun x30 =>
  (Uq N v22 x30.Usage).bind fun (r31,r32) =>
  (idx r9 v20).bind fun _ =>
  (idx r9 v20).bind fun x33 =>
  (if (r24 != x33.Paid) then
   some true
  else
   (idx r9 v20).bind fun _ =>
   (idx r9 v20).bind fun x37 =>
   some (r27 != x37.Owed):Option (Bool)).bind fun v38 =>
  (if v38 then
   some true
  else
   (idx r9 v20).bind fun _ =>
   (idx r9 v20).bind fun x40 =>
   some (r31 != (IntKind.wrap .i64 (0 - x40.Paid))):Option (Bool)).bind fun v41 =>
  (if v41 then
   some true
  else
   (idx r9 v20).bind fun _ =>
   (idx r9 v20).bind fun x43 =>
   some (r32 != (IntKind.wrap .i64 (0 - x43.Owed))):Option (Bool)).bind fun v44 =>
  if v44 then
   some (.inr (.inr false))
  else
   some (.inl ((IntKind.wrap .i64 (v20+1)),v21,v22))
 else
  some (.inr (.inl ()))
def Yo (N:Nat) (x0:(List Ql)) (x1:(List Ql)) (x2:(List Ql)):Option (Bool) :=
 (Ue N x0 20).bind fun r1 =>
 (if (!r1) then
  some true
 else
  (Ue N x1 20).bind fun r3 =>
  some (!r3):Option (Bool)).bind fun v4 =>
 (if v4 then
  some true
 else
  (Ue N x2 20).bind fun r6 =>
  some (!r6):Option (Bool)).bind fun v7 =>
 if v7 then
  (Km N).bind fun r8 =>
  some r8
 else
  (Ux N x0 x2).bind fun r9 =>
  (Ux N x0 x1).bind fun r10 =>
  (Ux N x1 x2).bind fun r11 =>
  (Hz N r10 r11).bind fun r12 =>
  (Ux N x2 x0).bind fun r13 =>
  if ((((List.length r9:Int) != (List.length r12:Int))||((List.length r9:Int) != (List.length r13:Int)))||(decide ((List.length r9:Int)>60))) then
   some false
  else
   (Qx (Vt N r9) N (0,r12,r13)).bind fun
    | .inl _ =>
     (Km N).bind fun r45 =>
     some r45
    | .inr v46 =>
     some v46
end Gx
