/- Operations that may fail, without a change of memory. -/
import Derived.Test.YtfkpgpibpnghiaaGreatXC
namespace Gx
open Go Go.RowKit Gd
set_option linter.unusedVariables false
set_option linter.unusedSimpArgs false
def Q6q:Operand→Bool
 | .const _=>true
 | _=>false
def Q31:BinOp→Operand→Nat
 | .quo,y=>bif Q6q y then 0 else 1
 | .rem,y=>bif Q6q y then 0 else 2
 | .shl,_=>3
 | .shr,_=>4
 | .add,_=>5
 | _,_=>0
def Qfp:AV→Option Str
 | .d .str l=>some l
 | _=>none
def Jds(M:List (Nat×Ob)):AV→Option (Σ t:Ty,List t.De)
 | .d (.sl e) xs=>some ⟨e,xs⟩
 | .s id=>match Qe M id with
  | some (.tail _ t xs)=>some ⟨t,xs⟩
  | _=>none
 | _=>none
def bnd(S:St)(cur:Y4)(dflt:Int):Option Operand→Option Int
 | none=>some dflt
 | some x=>match ev S cur x with
  | some v=>match Xg v with
   | some (_,n)=>some n
   | none=>none
  | none=>none
def chk(b:Bool):Option Unit:=bif b then some ()else none
section
variable {R:Type} (Y:TX) (S:St) (cur:Y4)
def tot(op:Op)(k:AV→Option R):Option R:=match Qhh Y S cur op with
 | some av=>k av
 | none=>none
def Q9q:Int→Option Nat
 | .ofNat n=>some n
 | .negSucc _=>none
theorem Qvt{i:Int}{n:Nat}(h:Q9q i=some n):i=(n:Int):=by
 cases i with
 | ofNat m=>grind [Q9q,Option.some.injEq]
 | negSucc m=>cases h
def Qjm(op:Op)(k:AV→Option R):Option R :=
 match op with
 | .binOp b t x y yt=>match Q31 b y with
  | 0=>tot Y S cur (.binOp b t x y yt) k
  | 5=>match ev S cur x,ev S cur y with
   | some u,some v=>match Qfp u,Qfp v with
    | some p,some q=>(Jia p q).bind fun s=>k (.d .str s)
    | _,_=>tot Y S cur (.binOp b t x y yt) k
   | _,_=>none
  | n=>match ev S cur x,ev S cur y with
   | some u,some v=>match Xg u,Xg v with
    | some (kk,p),some (k2,q)=>match n with
     | 1=>bif Pt kk k2 then(Qi9 kk p q).bind fun z=>k (.d (.int kk) z)else none
     | 2=>bif Pt kk k2 then(Qvn p q).bind fun z=>k (.d (.int kk) z)else none
     | 3=>(Q9e kk p q).bind fun z=>k (.d (.int kk) z)
     | 4=>(Q9d kk p q).bind fun z=>k (.d (.int kk) z)
     | _=>none
    | _,_=>none
   | _,_=>none
 | .indexAddr t x i=>match Qh Y.T t,ev S cur x,ev S cur i with
  | some te,some v,some iv=>match Xg iv,Ys te.d with
   | some (_,j),some e=>match Qh Y.T e with
    | some ee=>match v with
     | .d (.sl u) xs=>bif Nat.beq ee.size u.size then(idx xs j).bind fun y=>k (.a u y)else none
     | .s id=>match Qe S.mem id with
      | some (.row _ u xs)=>bif Nat.beq ee.size u.size&&Nat.ble 1 u.size then(idx xs j).bind fun _=>k (.e id [.i j u.size])else none
      | some (.tail _ u xs)=>bif Nat.beq ee.size u.size then(idx xs j).bind fun y=>k (.a u y)else none
      | _=>none
     | .w id j0 n=>match Q9q j,Q9q j0,Q9q n with
      | some a,some a0,some nn=>bif Nat.beq ee.size 1&&Nat.blt a nn then k (.p id [.f (a0+a) (a0+a)])else none
      | _,_,_=>none
     | _=>none
    | none=>none
   | _,_=>none
  | _,_,_=>none
 | .index t x i=>match Qh Y.T t,ev S cur x,ev S cur i with
  | some te,some v,some iv=>match Xg iv,Qfp v,te.d with
   | some (_,j),some l,.string=>(Bl l j).bind fun c=>k (.d (.int .u8) c)
   | some (_,j),none,.array m e=>match v,Qh Y.T e with
    | .d (.arr m' u) xs,some ee=>bif Nat.beq m m'&&Nat.beq ee.size u.size&&(Xs ee.d==u.agg)then(idx xs j).bind fun y=>k (.d u y)else none
    | _,_=>none
   | _,_,_=>none
  | _,_,_=>none
 | .load t x=>match Qh Y.T t,ev S cur x with
  | some e,some (.e id (.i j sz::ps))=>match Qe S.mem id with
   | some (.row _ u xs)=>bif Nat.beq sz u.size&&Nat.ble 1 u.size then(idx xs j).bind fun y=>match nav ps (.d u y)with
     | some zv=>bif Nat.beq e.size zv.size&&(Xs e.d==zv.isAgg)&&zv.isVal&&(zv.isAgg||Nat.beq zv.size 1)then k zv else none
     | none=>none
    else none
   | _=>none
  | _,_=>tot Y S cur (.load t x) k
 | .slice t x lo hi none=>match Qh Y.T t,ev S cur x with
  | some te,some v=>match te.d with
   | .string=>match Qfp v with
    | some l=>match bnd S cur 0 lo,bnd S cur l.length hi with
     | some a,some b=>(slc l a b).bind fun s=>k (.d .str s)
     | _,_=>none
    | none=>none
   | .slice e=>match Qh Y.T e,Jds S.mem v with
    | some ee,some ⟨u,xs⟩=>bif Nat.beq ee.size u.size then match bnd S cur 0 lo,bnd S cur xs.length hi with
      | some a,some b=>(slc xs a b).bind fun ys=>k (.d (.sl u) ys)
      | _,_=>none
     else none
    | _,_=>none
   | _=>none
  | _,_=>none
 | .slice t x lo (some hi) (some mx)=>match Qh Y.T t,ev S cur x,ev S cur hi,ev S cur mx with
  | some te,some v,some hv,some mv=>match Ys te.d,Xg hv,Xg mv with
   | some e,some (_,b),some (_,m)=>match Qh Y.T e,Jds S.mem v,bnd S cur 0 lo with
    | some ee,some ⟨u,xs⟩,some a=>bif Nat.beq ee.size u.size then(chk (decide (b≤m)&&decide (m≤(xs.length:Int)))).bind fun _=>(slc xs a b).bind fun ys=>k (.d (.sl u) ys)else none
    | _,_,_=>none
   | _,_,_=>none
  | _,_,_,_=>none
 | .convert s t x=>match Qh Y.T s,Qh Y.T t with
  | some se,some te=>match Ys se.d,te.d with
   | some e,.string=>match Qh Y.T e,ev S cur x with
    | some ⟨_,.int .u8,_,_,_⟩,some v=>match asD S.mem v (.sl (.int .u8))with
     | some xs=>k (.d .str (Qrw xs))
     | none=>none
    | _,_=>none
   | _,_=>tot Y S cur (.convert s t x) k
  | _,_=>none
 | op=>tot Y S cur op k
end
section
variable {P:Program} {X:Cx} {β:Nat→Nat} {ρ:Nat→Value} {S:St} {a:Act} {w:World} {cur:Y4} {ok:Ok}
theorem Q9r{x:AV}{l:Str}(h:Qfp x=some l):x=.d .str l:=by
 unfold Qfp at h
 grind
theorem Pz{b:BinOp}{y:Operand}{n:Nat}(h:Q31 b y=n):n=0∨(n=1∧b=.quo)∨(n=2∧b=.rem)∨(n=3∧b=.shl)∨(n=4∧b=.shr)∨(n=5∧b=.add):=by
 subst h
 cases b<;>simp only[Q31]<;>first | (simp; done) | grind
theorem Bp.int(h:Bp β ρ ok S a w)(hc:Js a cur){x:Operand}{v:AV}{k:IntKind}{n:Int}(hx:Gx.ev S cur x=some v)(hi:Xg v=some (k,n)):a.eval x=.int k n:=by
 have:=Co hi
 subst this
 obtain⟨cs,h1,h2⟩:=h.ev hc hx
 have zb:cs=_:=h2
 subst zb
 exact h1
theorem Bp.str(h:Bp β ρ ok S a w)(hc:Js a cur){x:Operand}{v:AV}{l:Str}(hx:Gx.ev S cur x=some v)(hi:Qfp v=some l):a.eval x=Yk l:=by
 have:=Q9r hi
 subst this
 obtain⟨cs,h1,h2⟩:=h.ev hc hx
 have zb:cs=_:=h2
 subst zb
 exact h1
theorem Qnr(h:Bp β ρ ok S a w)(hc:Js a cur){x:Operand}{v:AV}{u:Ty}{xs:List u.De}(hx:ev S cur x=some v)(hi:Jds S.mem v=some ⟨u,xs⟩) :
  isV (rSl (rt u)) (ok) w xs (a.eval x):=by
 unfold Jds at hi
 obtain⟨cs,h1,h2⟩:=h.ev hc hx
 split at hi
 ·simp at hi; obtain⟨rfl,hi⟩:=hi
  obtain rfl:=eq_of_heq hi
  have:=Q9l h2
  rw[←h1]at this
  exact this
 ·rename_i id
  split at hi
  ·rename_i e t ys ho
   simp at hi; obtain⟨rfl,hi⟩:=hi
   obtain rfl:=eq_of_heq hi
   obtain⟨⟨v0,rfl,zy⟩,_⟩:=h2
   have k8:a.eval x=v0:=h1
   rw[k8]
   exact Qvs zy (h.mm _ _ ho).1
  ·cases hi
 ·cases hi
theorem Bp.bnd(h:Bp β ρ ok S a w)(hc:Js a cur){dflt n:Int}{x:Option Operand}(hb:Gx.bnd S cur dflt x=some n):(x=none∧n=dflt)∨∃y k,x=some y∧a.eval y=.int k n:=by
 unfold Gx.bnd at hb
 split at hb
 ·grind
 ·rename_i y
  split at hb
  ·rename_i v hv
   split at hb
   ·rename_i k m hi
    simp at hb; subst hb
    exact .inr ⟨y,k,rfl,h.int hc hv hi⟩
   ·cases hb
  ·cases hb
theorem Qlg{lo:Option Operand}{hi mx:Operand}{k1 k2:IntKind}{l h' m:Int}{len cap:Nat}(mq:(lo=none∧l=0)∨∃y k,lo=some y∧a.eval y=.int k l)(su:a.eval hi=.int k1 h')(u9:a.eval mx=.int k2 m)
  (h0:0≤l) (h1:l≤h') (h2:h'≤m) (h3:m≤cap) :
  (Instr.sliceBounds true len cap (lo.map a.eval) ((some hi).map a.eval) ((some mx).map a.eval)).run P w=.ok (l.toNat,h'.toNat,m.toNat) w:=by
 unfold Instr.sliceBounds
 have s1:∀{k:IntKind} {i:Int} {y:Nat} {code:BoundsCode},0≤i→i≤y→(Instr.sliceBound (.int k i) y code).run P w=.ok i.toNat w:=fun h0 h1=>Qaa h0 h1
 rcases mq with⟨rfl,rfl⟩ | ⟨yl,kl,rfl,hl⟩
 ·simp only[JS,Option.map_none,su,u9,Sem.run_bind,if_true]
  rw[s1 (by omega) h3]
  simp only[Result.andThen_ok]
  rw[s1 (by omega) (by omega)]
  simp
 ·simp only[JS,su,u9,hl,Sem.run_bind,if_true]
  rw[s1 (by omega) h3]
  simp only[Result.andThen_ok]
  rw[s1 (by omega) (by omega)]
  simp only[Result.andThen_ok]
  rw[s1 h0 (by omega)]
  simp
theorem Nm{isS:Bool}{lo hi:Option Operand}{l h':Int}{len cap:Nat}(mq:(lo=none∧l=0)∨∃y k,lo=some y∧a.eval y=.int k l)(su:(hi=none∧h'=len)∨∃y k,hi=some y∧a.eval y=.int k h')
  (h0:0≤l) (h1:l≤h') (h2:h'≤len) (h3:len≤cap) :
  (Instr.sliceBounds isS len cap (lo.map a.eval) (hi.map a.eval) none).run P w=.ok (l.toNat,h'.toNat,cap) w:=by
 unfold Instr.sliceBounds
 have s1:∀{k:IntKind} {i:Int} {y:Nat} {code:BoundsCode},0≤i→i≤y→(Instr.sliceBound (.int k i) y code).run P w=.ok i.toNat w:=fun h0 h1=>Qaa h0 h1
 rcases su with⟨rfl,rfl⟩ | ⟨yh,kh,rfl,hh⟩
 ·rcases mq with⟨rfl,rfl⟩ | ⟨yl,kl,rfl,hl⟩
  ·simp
  simp_all
 ·have e1:∀c:BoundsCode,(Instr.sliceBound (.int kh h') cap c).run P w=.ok h'.toNat w:=fun c=>s1 (by omega) (by omega)
  rcases mq with⟨rfl,rfl⟩ | ⟨yl,kl,rfl,hl⟩
  ·simp_all
  ·simp only[JS,hh,hl,Sem.run_bind,Sem.run_pure,Result.andThen_ok,e1]
   rw[s1 h0 (by omega)]
   simp
theorem Jis{Y:Tab}(hT:Q6 P Y){s t e:TypeId}{te ee se:TE}(ht:Qh Y t=some te)(kr:te.d=.string)(zh:Qh Y s=some se)(wi:se.d=.slice e)(he:Qh Y e=some ee)(hed:ee.d=.int .u8)
  {xs:List Int} {v:Value} (hD:isV (rSl (Qa0 .u8)) ok w xs v):(convert s t v).run P w=.ok (Yk (Qrw xs)) w:=by
 obtain⟨A,m,c,rfl,hl,hc,hn⟩:=Zr.1 hD
 have sr:=(Jq hT zh).2; rw[wi]at sr
 have p9:=(Jq hT ht).2; rw[kr]at p9
 have mr:=(Jq hT he).2; rw[hed]at mr
 have we:=run_convert_bytes_string (P:=P) w s t e A m c sr mr p9
 have ka:(Conv.bytesToString (.slice A m c)).run P w=.ok (Yk (Qrw xs)) w:=by
  cases A with
  | none =>
   have hm0:m=0:=by
    grind
   have:xs=[]:=QE (by omega)
   subst this
   simp[Conv.bytesToString,Qrw,Yk]; rfl
  | some ad =>
   have sw:(loadCells ad m).run P w=.ok (xs.map (Value.int .u8)).toArray w:=by
    have:=run_loadCells_list (P:=P) w ad (xs.map (Value.int .u8)) (fun j v hj=>by
     rw[List.getElem?_map]at hj
     obtain⟨y,hy,rfl⟩:=XW.1 hj
     have fb:=(List.getElem?_eq_some_iff.1 hy).1
     obtain⟨b,o,hA,z6⟩:=hn (by omega)
     injection hA with hA
     subst hA
     obtain⟨cs,hr,ha⟩:=z6 j y hy
     have ig:cs=[.int .u8 y]:=hr
     subst ig
     have:=(ha 0 _ rfl).2
     rw[Hg]
     grind [Qa0])
    grind
   rw[run_bytesToString w ad m c xs sw]
   have:=Qoi xs []
   simp only[QY]at this
   show Result.ok (Value.string (xs.foldl _ (ByteArray.mk ([]:List UInt8).toArray))) w=_
   rw[this]; rfl
 grind
def Qoy(P:Program)(S:St)(cur:Y4)(o:Oper)(av:AV):Prop :=
 ∀{β:Nat→Nat} {ρ:Nat→Value} {ok:Ok} {a:Act} {w:World},Bp β ρ ok S a w→Js a cur →
  ∃cs,(execOp a.eval o).run P w=.ok (.value (av.val cs)) w∧cr β ρ (ok) w false av cs
theorem Qoz{Y:TX}(hT:Q6 P Y.T){R:Type}{o:Oper}{op:Op}(ko:o.op=op){k:AV→Option R}{r:R}(hv:tot Y S cur op k=some r):∃av,k av=some r∧Qoy P S cur o av:=by
 unfold tot at hv
 split at hv
 ·rename_i av mu
  exact⟨av,hv,fun {β ρ ok a w} h hc=>Qhj hT h hc (by rw[ko]; exact mu)⟩
 ·cases hv
theorem Q9s{Y:TX}(hT:Q6 P Y.T){R:Type}{o:Oper}{op:Op}(ko:o.op=op){k:AV→Option R}{r:R}(hv:Qjm Y S cur op k=some r):∃av,k av=some r∧Qoy P S cur o av:=by
 unfold Qjm at hv
 split at hv
 ·
  rename_i b t x y yt
  split at hv
  ·grind [Qoz]
  ·rename_i hk
   split at hv
   ·rename_i u v hu qy
    split at hv
    ·rename_i p q hp hq
     obtain⟨s,hs,xu⟩:=Yi hv
     refine⟨_,xu,fun {β ρ ok a w} h hc=>⟨[Yk s],?_,rfl⟩⟩
     have h1:=h.str hc hu hp
     have h2:=h.str hc qy hq
     have hb:b=.add:=by
      have:=Pz hk
      grind
     subst hb
     unfold Jia at hs
     split at hs
     ·rename_i hle
      have hq:=(Option.some.inj hs).symm
      subst hq
      have hr:(Op.stringOp .add (ByteArray.mk p.toArray) (ByteArray.mk q.toArray)).run P w=.ok (.string (ByteArray.mk (p++q).toArray)) w:=by
       rw[run_string_add_sum _ _ _ (by exact hle)]
       congr 2
      unfold execOp
      rw[ko]
      simp_all [Yk,eqGuard_add,binOp_string_add,AV.val,AV.isAgg,Ty.agg]
     ·cases hs
    grind [Qoz]
   ·cases hv
  ·rename_i n jm hn5
   split at hv
   ·rename_i u v hu qy
    split at hv
    ·rename_i kk p k2 q hp hq
     have hb:b≠.eql∧b≠.neq:=by
      constructor<;>(rintro rfl; exact jm (by rfl))
     have fin:∀z,(∀w:World,(binOp b t (.int kk p) (.int k2 q)).run P w=.ok (.int kk z) w)→Qoy P S cur o (.d (.int kk) z):=by
      intro z hz β ρ ok a w h hc
      have h1:=h.int hc hu hp
      have h2:=h.int hc qy hq
      refine⟨[.int kk z],?_,rfl⟩
      simp_all [execOp,eqGuard,AV.val,AV.isAgg,Ty.agg]
     split at hv
     ·rename_i sx
      obtain⟨hs,u6⟩:=bvT hv
      have:=Cl hs
      subst this
      obtain⟨z,hz,xu⟩:=Yi u6
      have hb:b=.quo:=by
       have:=Pz sx
       grind
      grind [Jid]
     ·rename_i sx
      obtain⟨hs,u6⟩:=bvT hv
      have:=Cl hs
      subst this
      obtain⟨z,hz,xu⟩:=Yi u6
      have hb:b=.rem:=by
       have:=Pz sx
       grind
      grind [Jie]
     ·rename_i sx
      obtain⟨z,hz,xu⟩:=Yi hv
      have hb:b=.shl:=by
       have:=Pz sx
       grind
      grind [Jig]
     ·rename_i sx
      obtain⟨z,hz,xu⟩:=Yi hv
      have hb:b=.shr:=by
       have:=Pz sx
       grind
      grind [Jif]
     ·cases hv
    ·cases hv
   ·cases hv
 ·
  rename_i t x i
  split at hv
  ·rename_i te v iv ku hx hi
   split at hv
   ·rename_i ki j e vk zh
    have kr:te.d=.slice e:=by
     unfold Ys at zh
     grind
    split at hv
    ·rename_i ee he
     have run:∀{β:Nat→Nat} {ρ:Nat→Value} {ok:Ok} {a:Act} {w:World},Bp β ρ ok S a w→Js a cur→∀{b of m c:Nat},a.eval x=.slice (some ⟨b,of,none⟩) m c→0≤j→j<(m:Int) →
       (execOp a.eval o).run P w=.ok (.value (.pointer (some ⟨b,of+j.toNat*ee.size,none⟩))) w:=by
      intro β ρ ok a w h hc b of m c hv h0 h1
      have xj:(underlying t).run P w=.ok (.slice e) w:=by rw[Ju hT w ku,kr]
      have p8:=h.int hc hi vk
      unfold execOp
      rw[ko]
      simp only[hv,p8]
      simp[Instr.indexAt,asIntOf,xj,h0,h1,J4 hT w he,Addr.add_lit]
     have data:∀{u:Ty} {xs:List u.De} {y:u.De},ee.size=u.size→idx xs j=some y→(∀{β:Nat→Nat} {ρ:Nat→Value} {ok:Ok} {a:Act} {w:World},Bp β ρ ok S a w→Js a cur→isV (rSl (rt u)) (ok) w xs (a.eval x)) →
       Qoy P S cur o (.a u y):=by
      intro u xs y kj hy wj β ρ ok a w h hc
      have h0:=(Wq hy).1
      obtain⟨A,c,xm,hsl'⟩:=Qi5 (wj h hc)
      obtain⟨b,of,rfl,hlt,hat⟩:=Jdg (Zr.1 hsl') (Wq hy).2
      refine⟨[.pointer (some ⟨b,of+j.toNat*u.size,none⟩)],?_,_,rfl,by rw[←Jp]; exact hat⟩
      rw[←kj]
      exact run h hc xm h0 (by omega)
     split at hv
     ·rename_i u xs
      obtain⟨hb,hv⟩:=bvT hv
      obtain⟨y,hy,xu⟩:=Yi hv
      refine⟨_,xu,data (Nat.eq_of_beq_eq_true hb) hy fun {β ρ ok a w} h hc=>Qnr h hc hx rfl⟩
     ·rename_i id
      split at hv
      ·rename_i e' u xs ho
       obtain⟨hb,hv⟩:=bvT hv
       simp only[QQ]at hb
       obtain⟨y,hy,xu⟩:=Yi hv
       refine⟨_,xu,fun {β ρ ok a w} h hc=>?_⟩
       obtain⟨cs,h1,⟨v0,rfl,zy⟩,A,m,c,hρ⟩:=h.ev hc hx
       have hml:=(h.mm _ _ ho)
       obtain⟨hl,cs2,kb,hr⟩:=hml
       have xm:a.eval x=ρ id:=by
        rcases zy with rfl | ⟨wo,_⟩
        ·exact h1
        ·rw[wo]at hl
         have hlt:=(List.getElem?_eq_some_iff.1 (Wq hy).2).1
         grind [K0]
       rw[hρ]at hl kb xm
       simp only[K0]at hl kb
       have h0:=(Wq hy).1
       have hlt:=(List.getElem?_eq_some_iff.1 (Wq hy).2).1
       rcases kb.2 with⟨hv,hm⟩ | ⟨g,cap,cu,fz,hv,_⟩
       ·omega
       ·injection hv with e1 e2 e3
        subst e1
        refine⟨[.pointer (some ⟨g,0+j.toNat*ee.size,none⟩)],run h hc xm h0 (by omega),g,by rw[hρ]; rfl,?_⟩
        have kj:=Nat.eq_of_beq_eq_true hb.1
        simp[Yh,PS.off,kj]
      ·rename_i e' u xs ho
       obtain⟨hb,hv⟩:=bvT hv
       obtain⟨y,hy,xu⟩:=Yi hv
       grind [Nat.eq_of_beq_eq_true,Qnr,Jds]
      ·cases hv
     ·rename_i id j0 nn0
      split at hv
      ·rename_i ia a0 nn hla wz jr
       obtain⟨hb,hv⟩:=bvT hv
       simp only[QQ]at hb
       have e1:=Qvt hla; have e2:=Qvt wz; have e3:=Qvt jr
       have hlt:=QV hb.2
       refine⟨_,hv,fun {β ρ ok a w} h hc=>?_⟩
       obtain⟨cs,h1,A,c,rfl,hA⟩:=h.ev hc hx
       have hA':=hA (by rw[e3]; grind)
       subst hA'
       have xm:a.eval x=.slice (some ⟨β id,j0.toNat,none⟩) nn0.toNat c:=h1
       refine⟨[.pointer (some ⟨β id,j0.toNat+j.toNat*ee.size,none⟩)],run h hc xm (by omega) (by rw[e1,e3]; grind),?_⟩
       have wy:=Nat.eq_of_beq_eq_true hb.1
       show [_]=[_]
       rw[wy,e1,e2]
       simp[Yh,PS.off]
      ·cases hv
     ·cases hv
    ·cases hv
   ·cases hv
  ·cases hv
 ·
  rename_i t x i
  split at hv
  ·rename_i te v iv ku hx hi
   split at hv
   ·rename_i ki j l vk hl hd
    obtain⟨c,yz,xu⟩:=Yi hv
    refine⟨_,xu,fun {β ρ ok a w} h hc=>⟨[.int .u8 c],?_,rfl⟩⟩
    have h1:=h.str hc hx hl
    have h2:=h.int hc hi vk
    obtain⟨h0,b,hb,rfl⟩:=Jh9 yz
    have xj:(underlying t).run P w=.ok .string w:=by rw[Ju hT w ku,hd]
    have ue:(if 0≤j then(ByteArray.mk l.toArray)[j.toNat]? else none)=some b:=by
     rw[if_pos h0]
     have hlen:j.toNat<l.length:=(List.getElem?_eq_some_iff.1 hb).1
     have h1:j.toNat<(ByteArray.mk l.toArray).size:=hlen
     rw[getElem?_pos (ByteArray.mk l.toArray) j.toNat h1]
     have:=(List.getElem?_eq_some_iff.1 hb).2
     rw[←this]
     rfl
    unfold execOp
    rw[ko]
    simp only[h1,h2]
    simp only[Instr.index,asIntOf,Sem.run_bind,Sem.run_pure,Result.andThen_ok,xj,Yk,ue]
    rfl
   ·rename_i ki j m e vk _ hd
    split at hv
    ·rename_i m' u xs ee he _
     obtain⟨hb,hv⟩:=bvT hv
     obtain⟨y,hy,xu⟩:=Yi hv
     simp only[QQ]at hb
     have e1:=Nat.eq_of_beq_eq_true hb.1.1
     subst e1
     have kj:=Nat.eq_of_beq_eq_true hb.1.2
     have xh:=bEq hb.2
     refine⟨_,xu,fun {β ρ ok a w} h hc=>?_⟩
     have h2:=h.int hc hi vk
     obtain⟨c1,h1,hl,hr⟩:=h.ev hc hx
     have k8:a.eval x=.agg c1.toArray:=h1
     have hr:Ks (rt u) ok w xs c1:=hr
     obtain⟨h0,hyj⟩:=Wq hy
     have zp:=Ff hr hyj
     rw[Jp]at zp
     have hlt:j.toNat<xs.length:=(List.getElem?_eq_some_iff.1 hyj).1
     refine⟨(c1.drop (j.toNat*u.size)).take u.size,?_,zp⟩
     have vi:(part e c1.toArray (j.toNat*ee.size)).run P w=.ok ((AV.d u y).val ((c1.drop (j.toNat*u.size)).take u.size)) w:=by
      refine Qoe hT w he c1 _ ?_
      rw[xh,kj]
      simp only[AV.val,AV.isAgg]
      cases hua:u.agg with
      | true=>simp
      | false =>
       have h1s:=Jdj hua
       have xf:=(rt u).len zp
       rw[Jp,h1s]at xf
       rw[h1s]
       simp only[JH,if_false,cond_false]
       grind [List.getElem?_eq_none_iff,List.length_take,List.length_drop,List.getElem?_eq_some_iff,List.drop_eq_getElem_cons]
     have xj:(underlying t).run P w=.ok (.array m e) w:=by rw[Ju hT w ku,hd]
     have hso:(Go.sizeOf e).run P w=.ok ee.size w:=J4 hT w he
     have fc:0≤j∧j<(m:Int):=⟨h0,by omega⟩
     unfold execOp
     rw[ko]
     simp only[k8,h2]
     simp only[Instr.index,asIntOf,Sem.run_bind,Sem.run_pure,Result.andThen_ok,xj]
     rw[if_pos fc]
     simp_all
    ·cases hv
   ·cases hv
  ·cases hv
 ·
  rename_i t x
  split at hv
  ·rename_i e id j sz ps he hx
   split at hv
   ·rename_i e' u xs ho
    obtain⟨hb,hv⟩:=bvT hv
    simp only[QQ]at hb
    obtain⟨y,hy,hv⟩:=Yi hv
    split at hv
    ·rename_i z0 hz
     obtain⟨z7,xu⟩:=bvT hv
     simp only[QQ]at z7
     obtain⟨⟨⟨b1,b2⟩,b3⟩,b4⟩:=z7
     have b1:=Nat.eq_of_beq_eq_true b1
     have b2:=bEq b2
     refine⟨_,xu,fun {β ρ ok a w} h hc=>?_⟩
     obtain⟨cs,h1,g',ya,rfl⟩:=h.ev hc hx
     obtain⟨hl,cs2,kb,hr⟩:=h.2 _ _ ho
     have h0:=(Wq hy).1
     have hlt:=(List.getElem?_eq_some_iff.1 (Wq hy).2).1
     rcases kb.2 with⟨hv,hm⟩ | ⟨g,cap,cu,fz,hv,_,hh,z8,hle,yy,z6,xy⟩
     ·rw[hv]at hl; grind
     ·have bz:g'=g:=by rw[hv]at ya; grind [Value.ownBlock]
      subst bz
      have kj:=Nat.eq_of_beq_eq_true hb.1
      have hrs:=Jp u
      have zp:=Ff hr (Wq hy).2
      rw[hrs]at zp
      obtain⟨h3,h4⟩:=Qfo (β:=β) (ρ:=ρ) (x:=.d u y) hz zp
      have hlen:=Ux h3
      refine⟨_,?_,h3⟩
      have k8:a.eval x=.pointer (some ⟨g',Yh (PS.i j sz::ps),none⟩):=h1
      have hL:((cs2.drop (j.toNat*u.size)).take u.size).length=u.size:=Ux (x:=.d u y) (show cr β ρ _ w false (.d u y) _ from zp)
      unfold execOp
      rw[ko]
      simp only[k8,Sem.run_bind]
      rw[Fg hT he (y:=z0) (cs:=(List.drop (Yh ps) (List.take u.size (List.drop (j.toNat*u.size) cs2))).take z0.size) (by rw[hlen]; exact b1) b2 (fun ha=>by
       rw[ha]at b4
       rw[hlen]; grind [Nat.eq_of_beq_eq_true]) (fun q v hq=>by
        have tr:q<z0.size:=by
         have:=(List.getElem?_eq_some_iff.1 hq).1
         omega
        rw[List.getElem?_take_of_lt tr,JX]at hq
        grind [Yh,List.getElem?_take_of_lt,PS.off,World.cell?])]
      rfl
    ·cases hv
   ·cases hv
  grind [Qoz]
 ·
  rename_i t x lo hi
  split at hv
  ·rename_i te v ku hx
   split at hv
   ·rename_i hd
    split at hv
    ·rename_i l hl
     split at hv
     ·rename_i p q hp hq
      obtain⟨s,hs,xu⟩:=Yi hv
      refine⟨_,xu,fun {β ρ ok a w} h hc=>⟨[Yk s],?_,rfl⟩⟩
      have h1:=h.str hc hx hl
      obtain⟨h0,k8,h2,zw,va⟩:=slc_ok hs
      have xj:(underlying t).run P w=.ok .string w:=by rw[Ju hT w ku,hd]
      have hb:=Nm (P:=P) (w:=w) (isS:=false) (cap:=l.length) (len:=l.length) (h.bnd hc hp) (h.bnd hc hq) h0 k8 (by omega) (QU _)
      have hex:(ByteArray.mk l.toArray).extract p.toNat q.toNat=ByteArray.mk s.toArray:=by
       rw[ByteArray.extract_mk,zw]; grind
      unfold execOp
      rw[ko]
      simp only[h1]
      have kj:(ByteArray.mk l.toArray).size=l.length:=rfl
      simp only[Instr.sliceAt,Sem.run_bind,xj,Result.andThen_ok,Instr.slice,Yk,Option.map_none,Option.isSome_none,JH,if_false,Sem.run_pure,kj,hb,hex]
      rfl
     ·cases hv
    ·cases hv
   ·rename_i e hd
    split at hv
    ·rename_i ee u xs he wj
     obtain⟨me,hv⟩:=bvT hv
     have kj:=Nat.eq_of_beq_eq_true me
     split at hv
     ·rename_i p q hp hq
      obtain⟨ys,zw,xu⟩:=Yi hv
      refine⟨_,xu,fun {β ρ ok a w} h hc=>?_⟩
      have hD:=Qnr h hc hx wj
      obtain⟨A,m,c,hv,hl,yb,hn⟩:=Zr.1 hD
      obtain⟨h0,h1,h2,mw,va⟩:=slc_ok zw
      have xj:(underlying t).run P w=.ok (.slice e) w:=by rw[Ju hT w ku,hd]
      have hb:=Nm (P:=P) (w:=w) (isS:=true) (len:=m) (cap:=c) (h.bnd hc hp) (by rw[←hl]; exact h.bnd hc hq) h0 h1 (by omega) yb
      refine⟨[.slice (if c=p.toNat then A else A.map (·.add (p.toNat*u.size))) ys.length (c - p.toNat)],?_,?_⟩
      ·unfold execOp
       rw[ko]
       have hlen:q.toNat - p.toNat=ys.length:=by omega
       simp only[hv]
       simp[Instr.sliceAt,xj,Instr.slice,hb,J4 hT w he,kj,hlen,AV.val,AV.isAgg,Ty.agg]
      ·refine⟨_,rfl,⟨_,_,_,rfl,rfl,by omega,fun zr=>?_⟩⟩
       obtain⟨b,of,rfl,wq⟩:=hn (by omega)
       have zk:¬ c=p.toNat:=by omega
       rw[if_neg zk]
       grind [Addr.add_lit,List.getElem?_eq_some_iff,List.getElem?_take_of_lt,Jp,Nat.add_mul]
     ·cases hv
    ·cases hv
   ·cases hv
  ·cases hv
 ·
  rename_i t x lo hi mx
  split at hv
  ·rename_i te v p7 mv ku hx su u9
   split at hv
   ·rename_i e k1 b k2 mm hd hib qq
    split at hv
    ·rename_i ee u xs p he wj hp
     obtain⟨me,hv⟩:=bvT hv
     have kj:=Nat.eq_of_beq_eq_true me
     obtain⟨_,vt,hv⟩:=Yi hv
     obtain⟨vt,_⟩:=bvT vt
     simp only[QQ,decide_eq_true_eq]at vt
     obtain⟨ys,zw,xu⟩:=Yi hv
     refine⟨_,xu,fun {β ρ ok a w} h hc=>?_⟩
     have hD:=Qnr h hc hx wj
     obtain⟨A,m,c,hv,hl,yb,hn⟩:=Zr.1 hD
     obtain⟨h0,h1,h2,mw,va⟩:=slc_ok zw
     have wi:te.d=.slice e:=by
      cases wi:te.d<;>rw[wi]at hd<;>simp[Ys]at hd
      subst hd; rfl
     have xj:(underlying t).run P w=.ok (.slice e) w:=by rw[Ju hT w ku,wi]
     have hb:=Qlg (P:=P) (w:=w) (len:=m) (cap:=c) (h.bnd hc hp) (h.int hc su hib) (h.int hc u9 qq) h0 h1 vt.1 (by omega)
     refine⟨[.slice (if mm.toNat=p.toNat then A else A.map (·.add (p.toNat*u.size))) ys.length (mm.toNat - p.toNat)],?_,?_⟩
     ·unfold execOp
      rw[ko]
      have hlen:b.toNat - p.toNat=ys.length:=by omega
      simp only[hv]
      simp only[JS]at hb
      simp[Instr.sliceAt,xj,Instr.slice,hb,J4 hT w he,kj,hlen,AV.val,AV.isAgg,Ty.agg]
     ·refine⟨_,rfl,⟨_,_,_,rfl,rfl,by omega,fun zr=>?_⟩⟩
      obtain⟨bb,of,rfl,wq⟩:=hn (by omega)
      have zk:¬ mm.toNat=p.toNat:=by omega
      rw[if_neg zk]
      grind [Addr.add_lit,List.getElem?_eq_some_iff,List.getElem?_take_of_lt,Jp,Nat.add_mul]
    ·cases hv
   ·cases hv
  ·cases hv
 ·
  rename_i s t x
  split at hv
  ·rename_i se te zh ku
   split at hv
   ·rename_i e hd qz
    have wi:se.d=.slice e:=by
     cases wi:se.d<;>rw[wi]at hd<;>simp[Ys]at hd
     subst hd; rfl
    split at hv
    ·rename_i _ z0 _ _ v he hx
     split at hv
     ·rename_i xs xn
      refine⟨_,hv,fun {β ρ ok a w} h hc=>⟨[Yk (Qrw xs)],?_,rfl⟩⟩
      have xh:(Ty.sl (.int .u8)).agg=v.isAgg:=by
       cases v with
       | d t' y'=>obtain⟨rfl,_⟩:=Ty.cast_ok (by simpa only[asD]using xn); rfl
       | ag l=>grind [asD]
       | _=>rfl
      have hD:=h.asD hc hx xn xh
      have:=Jis hT ku qz zh wi he rfl hD
      unfold execOp
      rw[ko]
      simp only[Sem.run_bind,this]
      rfl
     ·cases hv
    ·cases hv
   grind [Qoz]
  ·cases hv
 grind [Qoz]
end
section
variable {X:Cx} {β:Nat→Nat} {ρ:Nat→Value} {S:St} {a:Act} {w:World} {cur:Y4}
theorem Rel.int(h:Rel X β ρ S a w)(hc:Js a cur){x:Operand}{v:AV}{k:IntKind}{n:Int}(hx:Gx.ev S cur x=some v)(hi:Xg v=some (k,n)):a.eval x=.int k n:=h.toW.int hc hx hi
theorem Rel.mm(h:Rel X β ρ S a w):∀id o,Qe S.mem id=some o→(Q0 β ρ id o).p (okR X β ρ S.mem w) w:=fun _ _ ho=>(h.ob ho).1
theorem Rel.asD(h:Rel X β ρ S a w)(hc:Js a cur){x:Operand}{v:AV}{t:Ty}{y:t.De}(hx:Gx.ev S cur x=some v)(hd:Gx.asD S.mem v t=some y)(ht:t.agg=v.isAgg) :
  isV (rt t) (okR X β ρ S.mem w) w y (a.eval x):=h.toW.asD hc hx hd ht
end
end Gx

/- Elements of arrays that lie in variables; parts of such arrays as strings. -/
namespace Gx
open Go Go.RowKit Gd
set_option linter.unusedVariables false
set_option linter.unusedSimpArgs false
set_option linter.constructorNameAsVariable false
def Jnc:List PS→Bool
 | []=>false
 | .f _ _::l=>Jnc l
 | .i _ _::_=>true
section
variable {R:Type}
def Qo0:List PS→AV→(AV→Option R)→Option R
 | [],x,k=>k x
 | .f i off::ps,x,k=>match nav [.f i off] x with
  | some y=>Qo0 ps y k
  | none=>none
 | .i j sz::ps,x,k=>match x with
  | .d (.arr _ u) xs=>bif Nat.beq sz u.size then(idx xs j).bind fun y=>Qo0 ps (.d u y) k else none
  | _=>none
def Qmh(M:List (Nat×Ob)):List PS→AV→AV→(AV→Option R)→Option R
 | [],x,v,k=>bif Qhg x v then k v else none
 | .f i off::ps,x,v,k=>match nav [.f i off] x with
  | some y=>Qmh M ps y v fun z=>match Qmg [.f i off] x z with
   | some x'=>k x'
   | none=>none
  | none=>none
 | .i j sz::ps,x,v,k=>match x with
  | .d (.arr n u) xs=>bif Nat.beq sz u.size then(idx xs j).bind fun y=>Qmh M ps (.d u y) v fun z=>match asD M z u with
   | some y'=>k (.d (.arr n u) (xs.set j.toNat y'))
   | none=>none else none
  | _=>none
end
theorem Q6r{α:Type}{cs:List α}{o n p m:Nat}(h:p+m≤n):(((cs.drop o).take n).drop p).take m=(cs.drop (o+p)).take m:=by
 rw[List.drop_take,List.drop_drop,XY,Nat.min_eq_left (by omega)]
theorem Jdt{α:Type}{cs ds:List α}{o n p:Nat}(h:p+ds.length≤n) :
  cs.take o++(((cs.drop o).take n).take p++ds++((cs.drop o).take n).drop (p+ds.length))++cs.drop (o+n)=cs.take (o+p)++ds++cs.drop (o+p+ds.length):=by
 have e1:cs.take (o+p)=cs.take o++((cs.drop o).take n).take p:=by rw[List.take_add,XY,Nat.min_eq_left (by omega)]
 have e2:cs.drop (o+p+ds.length)=((cs.drop o).take n).drop (p+ds.length)++cs.drop (o+n):=by
  have e3:cs.drop (o+n)=(cs.drop (o+(p+ds.length))).drop (n - (p+ds.length)):=by rw[List.drop_drop]; congr 1; omega
  rw[List.drop_take,List.drop_drop,e3,List.take_append_drop,Nat.add_assoc]
 rw[e1,e2]
 grind
theorem Qvu{u:Ty}{n:Nat}{xs:List u.De}{ok:Ok}{w:World}{cs:List Value}(h:(rt (.arr n u)).rep ok w xs cs){j:Int}{y:u.De}(hy:idx xs j=some y) :
  (rt u).rep ok w y ((cs.drop (j.toNat*u.size)).take u.size)∧j.toNat*u.size+u.size≤cs.length∧0≤j∧j.toNat<n:=by
 obtain⟨hn,ha⟩:=h
 have h0:=(Wq hy).1
 have hlt:=(List.getElem?_eq_some_iff.1 (Wq hy).2).1
 have hl:=Qx8 ha
 have hr:=Ff ha (Wq hy).2
 rw[Jp]at hr hl
 refine⟨hr,?_,h0,by omega⟩
 rw[hl]
 have:=QD u.size (show j.toNat+1≤xs.length by omega)
 rw[Nat.add_mul]at this
 omega
theorem Qns{R:Type}{r:R}:∀{ps:List PS} {x:AV} {k:AV→Option R},Qo0 ps x k=some r →
  ∃y,k y=some r∧∀{β:Nat→Nat} {ρ:Nat→Value} {ok:Ok} {w:World} {cs:List Value},cr β ρ ok w false x cs→cr β ρ ok w false y ((cs.drop (Yh ps)).take y.size)∧Yh ps+y.size≤cs.length
 | [],x,k,h=>by
  refine⟨x,h,fun {β ρ ok w cs} hc=>?_⟩
  have:=Ux hc
  grind [Yh,List.take_of_length_le]
 | .f i off::ps,x,k,h=>by
  simp only[Qo0]at h
  split at h
  ·rename_i y hy
   obtain⟨z,hz,hk⟩:=Qns h
   refine⟨z,hz,fun {β ρ ok w cs} hc=>?_⟩
   obtain⟨h1,h2⟩:=Qfo hy hc
   grind [Ux,Yh,Q6r]
  ·cases h
 | .i j sz::ps,x,k,h=>by
  simp only[Qo0]at h
  split at h
  ·rename_i n u xs
   obtain⟨hb,h1⟩:=bvT h
   have kj:=Nat.eq_of_beq_eq_true hb
   subst kj
   obtain⟨y,hy,h2⟩:=Yi h1
   obtain⟨z,hz,hk⟩:=Qns h2
   refine⟨z,hz,fun {β ρ ok w cs} hc=>?_⟩
   obtain⟨h1,h2,_⟩:=Qvu hc hy
   have k8:cr β ρ ok w false (.d u y) ((cs.drop (j.toNat*u.size)).take u.size):=h1
   grind [Ux,Q6r,Yh,PS.off]
  ·cases h
theorem Qvv{R:Type}{r:R}{M:List (Nat×Ob)}{v:AV}:∀{ps:List PS} {x:AV} {k:AV→Option R},Qmh M ps x v k=some r →
  ∃x',k x'=some r∧∀{β:Nat→Nat} {ρ:Nat→Value} {ok:Ok} {w:World} {cs ds:List Value},(∀id o,Qe M id=some o→(Q0 β ρ id o).p ok w)→cr β ρ ok w false v ds→cr β ρ ok w false x cs →
   cr β ρ ok w false x' (cs.take (Yh ps)++ds++cs.drop (Yh ps+ds.length))∧Yh ps+ds.length≤cs.length
 | [],x,k,h=>by
  simp only[Qmh]at h
  obtain⟨hb,h⟩:=bvT h
  refine⟨v,h,fun {β ρ ok w cs ds} _ hv hc=>?_⟩
  have:Qmg [] x v=some v:=by simp only[Qmg,hb,cond_true]
  grind [Sn]
 | .f i off::ps,x,k,h=>by
  simp only[Qmh]at h
  split at h
  ·rename_i y hy
   obtain⟨z,hz,hk⟩:=Qvv h
   split at hz
   ·rename_i x' wq
    refine⟨x',hz,fun {β ρ ok w cs ds} hM hv hc=>?_⟩
    obtain⟨h1,h2⟩:=Qfo hy hc
    have hl:=Ux h1
    obtain⟨h3,h4⟩:=hk hM hv h1
    rw[hl]at h4
    obtain⟨h5,h6⟩:=Sn h3 wq hc
    have hlen:(((cs.drop (Yh [PS.f i off])).take y.size).take (Yh ps)++ds++((cs.drop (Yh [PS.f i off])).take y.size).drop (Yh ps+ds.length)).length=y.size:=by
     grind
    rw[hlen,Jdt h4]at h5
    have e:Yh (PS.f i off::ps)=Yh [PS.f i off]+Yh ps:=by simp[Yh]
    rw[e]
    grind
   ·cases hz
  ·cases h
 | .i j sz::ps,x,k,h=>by
  simp only[Qmh]at h
  split at h
  ·rename_i n u xs
   obtain⟨hb,h1⟩:=bvT h
   have kj:=Nat.eq_of_beq_eq_true hb
   subst kj
   obtain⟨y,hy,h2⟩:=Yi h1
   obtain⟨z,hz,hk⟩:=Qvv h2
   split at hz
   ·rename_i y' qv
    refine⟨_,hz,fun {β ρ ok w cs ds} hM hv hc=>?_⟩
    obtain⟨h1,h2,h0,hjn⟩:=Qvu hc hy
    have k8:cr β ρ ok w false (.d u y) ((cs.drop (j.toNat*u.size)).take u.size):=h1
    have hl:((cs.drop (j.toNat*u.size)).take u.size).length=u.size:=Ux k8
    obtain⟨h3,h4⟩:=hk hM hv k8
    rw[hl]at h4
    have h5:=K2 hM qv h3
    obtain⟨hn,ha⟩:=(show xs.length=n∧Ks (rt u) ok w xs cs from hc)
    have h6:=Qom ha (i:=j.toNat) (by omega) h5
    have hlen:(((cs.drop (j.toNat*u.size)).take u.size).take (Yh ps)++ds++((cs.drop (j.toNat*u.size)).take u.size).drop (Yh ps+ds.length)).length=u.size:=by
     grind
    rw[hlen,Jp,Jdt h4]at h6
    exact⟨⟨by simpa using hn,h6⟩,by grind [Yh,PS.off]⟩
   ·cases hz
  ·cases h
def Qjn:TypeDesc→Option (Nat×TypeId)
 | .array n e=>some (n,e)
 | _=>none
theorem Qsz{d:TypeDesc}{n:Nat}{e:TypeId}(h:Qjn d=some (n,e)):d=.array n e:=by
 unfold Qjn at h
 grind
section
variable {R:Type} (Y:TX) (S:St) (cur:Y4)
def Jit:Op→Nat
 | .indexAddr t _ _=>match Qh Y.T t with
  | some te=>bif isSomeA (Qjn te.d)then 1 else 0
  | none=>0
 | .load _ x=>match ev S cur x with
  | some (.p _ path)=>bif Jnc path then 2 else 0
  | _=>0
 | .slice t _ _ _ none=>match Qh Y.T t with
  | some te=>bif isSomeA (Qjn te.d)then 3 else 0
  | none=>0
 | .convert _ _ x=>match ev S cur x with
  | some (.w _ _ _)=>4
  | _=>0
 | _=>0
where isSomeA {α:Type}:Option α→Bool
 | some _=>true
 | none=>false
def Qs0(op:Op)(k:AV→Option R):Option R:=match op with
 | .indexAddr t x i=>match Qh Y.T t,ev S cur x,ev S cur i with
  | some te,some v,some iv=>match Xg iv,Qjn te.d with
   | some (_,j),some (n,e)=>match Qh Y.T e,v with
    | some ee,.a (.arr m u) xs=>bif Nat.beq m n&&Nat.beq ee.size u.size then(idx xs j).bind fun y=>k (.a u y)else none
    | some ee,.p id path=>match Qe S.mem id with
     | some (.var _ c)=>Qo0 path c fun y=>match y with
      | .d (.arr m u) xs=>bif Nat.beq m n&&Nat.beq ee.size u.size then(idx xs j).bind fun _=>k (.p id (path++[.i j u.size]))else none
      | _=>none
     | _=>none
    | _,_=>none
   | _,_=>none
  | _,_,_=>none
 | .load t x=>match Qh Y.T t,ev S cur x with
  | some e,some (.p id path)=>match Qe S.mem id with
   | some (.var _ c)=>Qo0 path c fun y=>bif Nat.beq e.size y.size&&(Xs e.d==y.isAgg)&&y.isVal&&(y.isAgg||Nat.beq y.size 1)then k y else none
   | _=>none
  | _,_=>none
 | .slice t x lo hi none=>match Qh Y.T t,ev S cur x with
  | some te,some (.p id [])=>match Qjn te.d,Qe S.mem id with
   | some (n,e),some (.var _ (.d (.arr m (.int .u8)) xs))=>match Qh Y.T e,bnd S cur 0 lo,bnd S cur n hi with
    | some ee,some a,some b=>bif Nat.beq m n&&Nat.beq ee.size 1 then(slc xs a b).bind fun _=>k (.w id a (b - a))else none
    | _,_,_=>none
   | _,_=>none
  | _,_=>none
 | .convert s t x=>match Qh Y.T s,Qh Y.T t,ev S cur x with
  | some se,some te,some (.w id a n)=>match Ys se.d,te.d,Qe S.mem id with
   | some e,.string,some (.var _ (.d (.arr m (.int .u8)) xs))=>match Qh Y.T e with
    | some ⟨_,.int .u8,_,_,_⟩=>(slc xs a (a+n)).bind fun ys=>k (.d .str (Qrw ys))
    | _=>none
   | _,_,_=>none
  | _,_,_=>none
 | _=>none
def Qhk(op:Op)(k:AV→Option R):Option R:=match Jit Y S cur op with
 | 0=>Qjm Y S cur op k
 | _+1=>Qs0 Y S cur op k
end
section
variable {P:Program} {X:Cx} {β:Nat→Nat} {ρ:Nat→Value} {S:St} {a:Act} {w:World} {cur:Y4} {ok:Ok}
theorem cell?_of_heap{b o:Nat}{cs:List Value}{t:TypeId}(h:w.heap[b]?=some (.cells cs.toArray t (0,0))):w.cell? ⟨b,o,none⟩=cs[o]?:=by simp[World.cell?,h]
theorem Jiu{u:Ty}{n:Nat}{xs:List u.De}{v:Value}(h:Qob (rt (.arr n u)) ok w xs v){j:Int}{y:u.De}(hy:idx xs j=some y) :
  ∃b of,v=.pointer (some ⟨b,of,none⟩)∧Qob (rt u) ok w y (.pointer (some ⟨b,of+j.toNat*u.size,none⟩))∧0≤j∧j<(n:Int):=by
 obtain⟨b,of,cs,rfl,hr,hc⟩:=h
 obtain⟨h1,h2,h3,h4⟩:=Qvu hr hy
 refine⟨b,of,rfl,⟨b,_,_,rfl,h1,fun i z hz=>?_⟩,h3,by omega⟩
 have hi:=(List.getElem?_eq_some_iff.1 hz).1
 simp only[List.length_take,List.length_drop]at hi
 rw[List.getElem?_take_of_lt (by omega),JX]at hz
 have:=hc _ z hz
 rw[Nat.add_assoc]
 exact this
theorem Jdu{Y:TX}(hT:Q6 P Y.T){R:Type}{o:Oper}{op:Op}(ko:o.op=op){k:AV→Option R}{r:R}(hv:Qs0 Y S cur op k=some r):∃av,k av=some r∧Qoy P S cur o av:=by
 unfold Qs0 at hv
 split at hv
 ·
  rename_i t x i
  split at hv
  ·rename_i te v iv ku hx hi
   split at hv
   ·rename_i ki j n e vk zh
    have kr:=Qsz zh
    have run:∀{β:Nat→Nat} {ρ:Nat→Value} {ok:Ok} {a:Act} {w:World},Bp β ρ ok S a w→Js a cur→∀{ee:TE} {b of:Nat},Qh Y.T e=some ee→a.eval x=.pointer (some ⟨b,of,none⟩)→0≤j→j<(n:Int) →
      (execOp a.eval o).run P w=.ok (.value (.pointer (some ⟨b,of+j.toNat*ee.size,none⟩))) w:=by
     intro β ρ ok a w h hc ee b of he hv h0 h1
     have xj:(underlying t).run P w=.ok (.array n e) w:=by rw[Ju hT w ku,kr]
     have p8:=h.int hc hi vk
     unfold execOp
     rw[ko]
     simp only[hv,p8]
     simp[Instr.indexAt,asIntOf,xj,Instr.sureAddr,h0,h1,J4 hT w he,Addr.add_lit]
    split at hv
    ·rename_i ee m u xs he
     obtain⟨hb,pc⟩:=bvT hv
     simp only[QQ]at hb
     have hm:=Nat.eq_of_beq_eq_true hb.1
     have kj:=Nat.eq_of_beq_eq_true hb.2
     obtain⟨y,hy,hk⟩:=Yi pc
     refine⟨_,hk,fun {β ρ ok a w} h hc=>?_⟩
     obtain⟨cs,h1,v0,rfl,hat⟩:=h.ev hc hx
     obtain⟨b,of,rfl,h2,h3,h4⟩:=Jiu hat hy
     refine⟨[.pointer (some ⟨b,of+j.toNat*u.size,none⟩)],?_,_,rfl,h2⟩
     rw[←kj]
     exact run h hc he h1 h3 (by omega)
    ·rename_i ee id path he
     split at hv
     ·rename_i tid c ho
      obtain⟨y,hy,my⟩:=Qns hv
      split at hy
      ·rename_i m u xs
       obtain⟨hb,pc⟩:=bvT hy
       simp only[QQ]at hb
       have hm:=Nat.eq_of_beq_eq_true hb.1
       have kj:=Nat.eq_of_beq_eq_true hb.2
       obtain⟨y,qv,hk⟩:=Yi pc
       refine⟨_,hk,fun {β ρ ok a w} h hc=>?_⟩
       obtain⟨cs,h1,h2⟩:=h.ev hc hx
       have zb:cs=_:=h2
       subst zb
       obtain⟨cs0,hh,tt⟩:=h.2 _ _ ho
       obtain⟨q1,q2⟩:=my tt
       obtain⟨_,_,h3,h4⟩:=Qvu (show(rt (.arr m u)).rep ok w xs _ from q1) qv
       refine⟨[.pointer (some ⟨β id,Yh (path++[PS.i j u.size]),none⟩)],?_,rfl⟩
       have:=run h hc he h1 h3 (by omega)
       rw[this,kj,Nl]
       simp[Yh,PS.off,AV.val,AV.isAgg]
      ·cases hy
     ·cases hv
    ·cases hv
   ·cases hv
  ·cases hv
 ·
  rename_i t x
  split at hv
  ·rename_i e id path he hx
   split at hv
   ·rename_i tid c ho
    obtain⟨y,hy,my⟩:=Qns hv
    obtain⟨hb,hk⟩:=bvT hy
    simp only[QQ]at hb
    obtain⟨⟨⟨b1,b2⟩,b3⟩,b4⟩:=hb
    have b1:=Nat.eq_of_beq_eq_true b1
    have b2:=bEq b2
    refine⟨_,hk,fun {β ρ ok a w} h hc=>?_⟩
    obtain⟨cs,h1,h2⟩:=h.ev hc hx
    have zb:cs=_:=h2
    subst zb
    obtain⟨cs0,hh,tt⟩:=h.2 _ _ ho
    obtain⟨q1,q2⟩:=my tt
    refine⟨_,?_,q1⟩
    have k8:a.eval x=.pointer (some ⟨β id,Yh path,none⟩):=h1
    have hl:=Ux q1
    unfold execOp
    rw[ko]
    simp only[k8,Sem.run_bind]
    have:=Fg (w:=w) hT he (b:=β id) (o:=Yh path) (y:=y) (cs:=(cs0.drop (Yh path)).take y.size) (by rw[hl]; exact b1) b2 (fun hf=>by
     rw[hl]
     rw[hf]at b4
     simp only[ZI]at b4
     exact Nat.eq_of_beq_eq_true b4) (fun i z hz=>by
     have hi:=(List.getElem?_eq_some_iff.1 hz).1
     rw[hl]at hi
     rw[List.getElem?_take_of_lt hi,JX]at hz
     rw[cell?_of_heap hh]
     simpa using hz)
    rw[this]
    rfl
   ·cases hv
  ·cases hv
 ·
  rename_i t x lo hi
  split at hv
  ·rename_i te id ku hx
   split at hv
   ·rename_i n e tid m xs zh ho
    have kr:=Qsz zh
    split at hv
    ·rename_i ee na nb he mq su
     obtain⟨hb,pc⟩:=bvT hv
     simp only[QQ]at hb
     have hm:=Nat.eq_of_beq_eq_true hb.1
     have kj:=Nat.eq_of_beq_eq_true hb.2
     obtain⟨ys,zw,hk⟩:=Yi pc
     refine⟨_,hk,fun {β ρ ok a w} h hc=>?_⟩
     obtain⟨cs,h1,h2⟩:=h.ev hc hx
     have zb:cs=_:=h2
     subst zb
     obtain⟨cs0,hh,tt⟩:=h.2 _ _ ho
     have xn:xs.length=m:=(show xs.length=m∧_ from tt).1
     obtain⟨s1,s2,s3,s4,s5⟩:=Gd.slc_ok zw
     have hbd:=Nm (P:=P) (w:=w) (isS:=false) (len:=n) (cap:=n) (h.bnd hc mq) (h.bnd hc su) s1 s2 (by omega) (QU _)
     have xj:(underlying t).run P w=.ok (.array n e) w:=by rw[Ju hT w ku,kr]
     have k8:a.eval x=.pointer (some ⟨β id,0,none⟩):=h1
     refine⟨[.slice (some (if n=na.toNat then⟨β id,0,none⟩else⟨β id,na.toNat,none⟩)) (nb - na).toNat (n - na.toNat)],?_,_,_,rfl,fun zr=>?_⟩
     ·unfold execOp
      rw[ko]
      simp only[k8]
      simp[Instr.sliceAt,xj,Instr.sureAddr,hbd,J4 hT w he,kj,Addr.add_lit,AV.val,AV.isAgg]
      omega
     grind
    ·cases hv
   ·cases hv
  ·cases hv
 ·
  rename_i s t x
  split at hv
  ·rename_i se te id na n zh ku hx
   split at hv
   ·rename_i e tid m xs wi kr ho
    split at hv
    ·rename_i _ _ _ _ he
     obtain⟨ys,zw,hk⟩:=Yi hv
     refine⟨_,hk,fun {β ρ ok a w} h hc=>⟨[Yk (Qrw ys)],?_,rfl⟩⟩
     obtain⟨cs,h1,A,c,rfl,hA⟩:=h.ev hc hx
     obtain⟨cs0,hh,tt⟩:=h.2 _ _ ho
     obtain⟨xn,zp⟩:=(show xs.length=m∧Ks (Qa0 .u8) ok w xs cs0 from tt)
     obtain⟨s1,s2,s3,s4,s5⟩:=Gd.slc_ok zw
     have hsd':se.d=.slice e:=by
      unfold Ys at wi
      grind
     have k8:a.eval x=.slice (some A) n.toNat c:=h1
     have sr:=(Jq hT zh).2; rw[hsd']at sr
     have p9:=(Jq hT ku).2; rw[kr]at p9
     have mr:=(Jq hT he).2
     have we:=run_convert_bytes_string (P:=P) w s t e (some A) n.toNat c sr mr p9
     have sw:(loadCells A n.toNat).run P w=.ok (ys.map (Value.int .u8)).toArray w:=by
      have va:ys.length=n.toNat:=by rw[s5]; congr 1; omega
      have:=run_loadCells_list (P:=P) w A (ys.map (Value.int .u8)) (fun i v hi=>by
       rw[List.getElem?_map]at hi
       obtain⟨y,hy,rfl⟩:=XW.1 hi
       have p8:=(List.getElem?_eq_some_iff.1 hy).1
       rw[hA (by omega),Hg]
       rw[s4,List.getElem?_take_of_lt (by omega),JX]at hy
       have hr:=Ff zp hy
       have hr':(cs0.drop ((na.toNat+i)*1)).take 1=[.int .u8 y]:=hr
       rw[ZJ]at hr'
       rw[cell?_of_heap hh]
       have:=congrArg (fun l=>l[0]?) hr'
       grind)
      grind
     have ka:=run_bytesToString w A n.toNat c ys sw
     have hf:=Qoi ys []
     simp only[QY]at hf
     unfold execOp
     rw[ko]
     simp only[k8]
     simp only[Sem.run_bind,we,ka]
     show Result.andThen (.ok (Value.string (ys.foldl _ (ByteArray.mk ([]:List UInt8).toArray))) w) _=_
     rw[hf]; rfl
    ·cases hv
   ·cases hv
  ·cases hv
 ·cases hv
theorem Qy5{Y:TX}(hT:Q6 P Y.T){R:Type}{o:Oper}{op:Op}(ko:o.op=op){k:AV→Option R}{r:R}(hv:Qhk Y S cur op k=some r):∃av,k av=some r∧Qoy P S cur o av:=by
 grind [Qhk,Q9s,Jdu]
end
end Gx
