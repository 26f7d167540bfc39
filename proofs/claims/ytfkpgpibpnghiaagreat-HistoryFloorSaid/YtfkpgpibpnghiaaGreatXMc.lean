/- Maps whose values are objects of their own: what lies in them. -/
import Derived.Test.YtfkpgpibpnghiaaGreatXMa
namespace Gx
open Go Go.RowKit Gd
set_option linter.unusedVariables false
set_option linter.unusedSimpArgs false
section
variable {k v:Ty}
theorem Qjm(hk:Qa5 k=true){key:k.De}:∀{xs:List (k.De×v.De)},key∉xs.map Prod.fst→Qw key xs=none
 | [],_=>rfl
 | x::xs,h=>by
  simp only[QP,QJ,not_or]at h
  simp only[Qw]
  cases he:eqK k key x.1 with
  | true=>grind [absurd,K3]
  | false=>exact Qjm hk h.2
theorem Qs2(hk:Qa5 k=true){key:k.De}:∀{xs:List (k.De×v.De)},Qw key xs=none→key∉xs.map Prod.fst
 | [],_=>by simp
 | x::xs,h=>by
  simp only[Qw]at h
  cases he:eqK k key x.1 with
  | true=>rw[he]at h; cases h
  | false =>
   rw[he]at h
   simp only[QP,QJ,not_or]
   exact⟨fun e'=>(by rw[e',(K3 hk).2 rfl]at he; cases he),Qs2 hk h⟩
end
section
variable {k:Ty} {c:CK} {ok:Ok} {w:World} {hv:Value}
theorem Qy5{κ:Type}{h2:Option κ}{u6:Value}:∀{xs:List (κ×c.ty.De)} {ys:List (κ×Value)} {vs:List Value},Bp c none hv ok w xs ys vs→(∀x∈xs,h2≠some x.1)→Bp c h2 u6 ok w xs ys vs
 | [],[],[],h,_=>h
 | x::xs,y::ys,s::vs,⟨h1,h3,h4⟩,hn=>⟨h1,.inr ⟨hn x (.head _),by
   grind⟩,Qy5 h4 fun y hy=>hn y (.tail _ hy)⟩
 | [],[],_::_,h,_=>h.elim
 | [],_::_,_,h,_=>h.elim
 | _::_,[],_,h,_=>h.elim
 | _::_,_::_,[],h,_=>h.elim
theorem Qjn{κ:Type}{hole:Option κ}{u6:Value}:∀{xs:List (κ×c.ty.De)} {ys:List (κ×Value)} {vs:List Value},Bp c hole hv ok w xs ys vs→(∀kh,hole=some kh→kh∉xs.map Prod.fst)→Bp c none u6 ok w xs ys vs
 | [],[],[],h,_=>h
 | x::xs,y::ys,s::vs,⟨h1,h3,h4⟩,hn=>⟨h1,.inr ⟨by simp,by
   grind⟩,Qjn h4 fun kh e hm=>hn kh e (by grind)⟩
 | [],[],_::_,h,_=>h.elim
 | [],_::_,_,h,_=>h.elim
 | _::_,[],_,h,_=>h.elim
 | _::_,_::_,[],h,_=>h.elim
theorem Qjo(key:k.De){hole:Option k.De}:∀{xs:List (k.De×c.ty.De)} {ys:List (k.De×Value)} {vs:List Value},Bp c hole hv ok w xs ys vs →
  (Qw key xs=none∧Qw key ys=none)∨∃x y,Qw key xs=some x∧Qw key ys=some y∧(∃k1,eqK k key k1=true∧k1∈xs.map Prod.fst∧(hole=some k1→zal y hv))
 | [],[],[],_=>.inl ⟨rfl,rfl⟩
 | x::xs,y::ys,s::vs,⟨h1,h3,h4⟩=>by
  simp only[Qw,←h1]
  cases he:eqK k key x.1 with
  | true =>
   grind
  | false =>
   rcases Qjo key h4 with q | ⟨x',y',q1,q2,k1,q3,q4,q5⟩
   ·exact .inl q
   grind
 | [],[],_::_,h=>h.elim
 | [],_::_,_,h=>h.elim
 | _::_,[],_,h=>h.elim
 | _::_,_::_,[],h=>h.elim
theorem Qjp(hk:Qa5 k=true){key:k.De} :
  ∀{xs:List (k.De×c.ty.De)} {ys:List (k.De×Value)} {vs:List Value},Bp c none hv ok w xs ys vs→(xs.map Prod.fst).Nodup→Qhd vs →
  (Qw key xs=none∧∀sv,Bp c (some key) sv ok w xs ys vs) ∨
  ∃vs' sv x,Qw key xs=some x∧Bp c (some key) sv ok w xs ys vs'∧sv∈vs∧(∀s∈vs',s=undef∨s∈vs)∧Qhd vs'∧(∀s∈vs',∀g,Z5 s=some g→Z5 sv≠some g)∧(Qa4 c sv x).p ok w
 | [],[],[],h,_,_=>.inl ⟨rfl,fun _=>trivial⟩
 | x::xs,y::ys,s::vs,⟨h1,h3,h4⟩,yf,uh=>by
  have u7:=QT.1 (by simpa using yf:(x.1::xs.map Prod.fst).Nodup)
  have vj:=List.pairwise_cons.1 uh
  obtain⟨q1,q2,q3⟩:none≠some x.1∧zal y.2 s∧(Qa4 c s x.2).p ok w:=by
   grind
  simp only[Qw]
  cases he:eqK k key x.1 with
  | true =>
   have fc:=(K3 hk).1 he
   subst fc
   refine .inr ⟨undef::vs,s,x.2,rfl,⟨h1,.inl ⟨rfl,rfl,q2⟩,Qy5 h4 fun y hy e'=>?_⟩,.head _,?_,?_,?_,q3⟩
   ·grind
   ·grind
   ·exact List.pairwise_cons.2 ⟨fun b hb g hg=>(by cases hg),vj.2⟩
   ·intro t ht g hg y9
    rcases QJ.1 ht with rfl | ht
    ·cases hg
    grind
  | false =>
   have zk:some key≠some x.1:=fun e'=>by injection e' with e'; rw[e',(K3 hk).2 rfl]at he; cases he
   rcases Qjp hk h4 u7.2 vj.2 with⟨r1,r2⟩ | ⟨vs',sv,x',r1,r2,r3,r4,r5,r6,r7⟩
   ·exact .inl ⟨r1,fun sv=>⟨h1,.inr ⟨zk,q2,q3⟩,r2 sv⟩⟩
   ·refine .inr ⟨s::vs',sv,x',r1,⟨h1,.inr ⟨zk,q2,q3⟩,r2⟩,.tail _ r3,?_,?_,?_,r7⟩
    ·grind
    ·refine List.pairwise_cons.2 ⟨fun b hb g hg=>?_,r5⟩
     rcases r4 b hb with rfl | hb
     ·intro e'; cases e'
     grind
    grind
 | [],[],_::_,h,_,_=>h.elim
 | [],_::_,_,h,_,_=>h.elim
 | _::_,[],_,h,_,_=>h.elim
 | _::_,_::_,[],h,_,_=>h.elim
theorem Qy6(hk:Qa5 k=true){key:k.De}{x0:c.ty.De}{nv sv:Value}(hz:zal nv sv)(hp:(Qa4 c sv x0).p ok w){hole:Option k.De}(hh:∀kh,hole=some kh→kh=key) :
  ∀{xs:List (k.De×c.ty.De)} {ys:List (k.De×Value)} {vs:List Value},Bp c hole hv ok w xs ys vs→(xs.map Prod.fst).Nodup→Qhd vs→(∀s∈vs,∀g,Z5 s=some g→Z5 sv≠some g) →
  ∃vs',Bp c none undef ok w (Yu key x0 xs) (Yu key nv ys) vs'∧Qhd vs'∧∀s∈vs',s=sv∨s∈vs
 | [],[],[],h,_,_,_=>⟨[sv],⟨rfl,.inr ⟨by simp,hz,hp⟩,trivial⟩,List.pairwise_cons.2 ⟨by simp,.nil⟩,by simp⟩
 | x::xs,y::ys,s::vs,⟨h1,h3,h4⟩,yf,uh,jt=>by
  have u7:=QT.1 (by simpa using yf:(x.1::xs.map Prod.fst).Nodup)
  have vj:=List.pairwise_cons.1 uh
  simp only[Yu,←h1]
  cases he:eqK k key x.1 with
  | true =>
   have fc:=(K3 hk).1 he
   refine⟨sv::vs,⟨rfl,.inr ⟨by simp,hz,hp⟩,Qjn h4 fun kh e hm=>?_⟩,List.pairwise_cons.2 ⟨fun b hb g hg y9=>jt b (.tail _ hb) g y9 hg,vj.2⟩,fun t ht=>?_⟩
   ·rw[hh kh e,fc]at hm; exact u7.1 hm
   grind
  | false =>
   have u5:zal y.2 s∧(Qa4 c s x.2).p ok w:=by
    rcases h3 with⟨q,_⟩ | ⟨_,q⟩
    ·have:=hh _ q; rw[this,(K3 hk).2 rfl]at he; cases he
    ·exact q
   obtain⟨vs',r1,r2,r3⟩:=Qy6 hk hz hp hh h4 u7.2 vj.2 (fun t ht=>jt t (.tail _ ht))
   refine⟨s::vs',⟨h1,.inr ⟨by simp,u5⟩,r1⟩,List.pairwise_cons.2 ⟨fun b hb g hg=>?_,r2⟩,fun t ht=>?_⟩
   ·grind
   grind
 | [],[],_::_,h,_,_,_=>h.elim
 | [],_::_,_,h,_,_,_=>h.elim
 | _::_,[],_,h,_,_,_=>h.elim
 | _::_,_::_,[],h,_,_,_=>h.elim
theorem Qo2(hk:Qa5 k=true){key:k.De}{x0:c.ty.De}(hp:(Qa4 c hv x0).p ok w) :
  ∀{xs:List (k.De×c.ty.De)} {ys:List (k.De×Value)} {vs:List Value},Bp c (some key) hv ok w xs ys vs→key∈xs.map Prod.fst→(xs.map Prod.fst).Nodup→Qhd vs→(∀s∈vs,∀g,Z5 s=some g→Z5 hv≠some g) →
  ∃vs',Bp c none undef ok w (Yu key x0 xs) ys vs'∧Qhd vs'∧∀s∈vs',s=hv∨s∈vs
 | [],[],[],_,hi,_,_,_=>by cases hi
 | x::xs,y::ys,s::vs,⟨h1,h3,h4⟩,hi,yf,uh,jt=>by
  have u7:=QT.1 (by simpa using yf:(x.1::xs.map Prod.fst).Nodup)
  have vj:=List.pairwise_cons.1 uh
  simp only[Yu]
  cases he:eqK k key x.1 with
  | true =>
   have fc:=(K3 hk).1 he
   subst fc
   have hz:zal y.2 hv:=by
    grind
   refine⟨hv::vs,⟨h1,.inr ⟨by simp,hz,hp⟩,Qjn h4 fun kh e hm=>?_⟩,List.pairwise_cons.2 ⟨fun b hb g hg y9=>jt b (.tail _ hb) g y9 hg,vj.2⟩,fun t ht=>?_⟩
   ·grind
   grind
  | false =>
   have zk:key≠x.1:=fun e=>by rw[e,(K3 hk).2 rfl]at he; cases he
   have p8:key∈xs.map Prod.fst:=by
    grind
   have u5:zal y.2 s∧(Qa4 c s x.2).p ok w:=by
    grind
   obtain⟨vs',r1,r2,r3⟩:=Qo2 hk hp h4 p8 u7.2 vj.2 (fun t ht=>jt t (.tail _ ht))
   refine⟨s::vs',⟨h1,.inr ⟨by simp,u5⟩,r1⟩,List.pairwise_cons.2 ⟨fun b hb g hg=>?_,r2⟩,fun t ht=>?_⟩
   ·grind
   grind
 | [],[],_::_,h,_,_,_,_=>h.elim
 | [],_::_,_,h,_,_,_,_=>h.elim
 | _::_,[],_,h,_,_,_,_=>h.elim
 | _::_,_::_,[],h,_,_,_,_=>h.elim
end
end Gx

/- Operations that may fail, without a change of memory. -/
namespace Gx
open Go Go.RowKit Gd
set_option linter.unusedVariables false
set_option linter.unusedSimpArgs false
def Q6v:Operand→Bool
 | .const _=>true
 | _=>false
def Q35:BinOp→Operand→Nat
 | .quo,y=>bif Q6v y then 0 else 1
 | .rem,y=>bif Q6v y then 0 else 2
 | .shl,_=>3
 | .shr,_=>4
 | .add,_=>5
 | _,_=>0
def Qft:AV→Option Str
 | .d .str l=>some l
 | _=>none
def Jd5(M:List (Nat×Ob)):AV→Option (Σ t:Ty,List t.De)
 | .d (.sl e) xs=>some ⟨e,xs⟩
 | .s id=>match Qe M id with
  | some (.tail _ t xs)=>some ⟨t,xs⟩
  | _=>none
 | _=>none
def bnd(S:St)(cur:Y4)(dflt:Int):Option Operand→Option Int
 | none=>some dflt
 | some x=>match ev S cur x with
  | some v=>match Xi v with
   | some (_,n)=>some n
   | none=>none
  | none=>none
def chk(b:Bool):Option Unit:=bif b then some ()else none
section
variable {R:Type} (Y:TX) (S:St) (cur:Y4)
def tot(op:Op)(k:AV→Option R):Option R:=match Qhl Y S cur op with
 | some av=>k av
 | none=>none
def Q9x:Int→Option Nat
 | .ofNat n=>some n
 | .negSucc _=>none
theorem Qvx{i:Int}{n:Nat}(h:Q9x i=some n):i=(n:Int):=by
 cases i with
 | ofNat m=>grind [Q9x,Option.some.injEq]
 | negSucc m=>cases h
def Qjq(op:Op)(k:AV→Option R):Option R :=
 match op with
 | .binOp b t x y yt=>match Q35 b y with
  | 0=>tot Y S cur (.binOp b t x y yt) k
  | 5=>match ev S cur x,ev S cur y with
   | some u,some v=>match Qft u,Qft v with
    | some p,some q=>(Jim p q).bind fun s=>k (.d .str s)
    | _,_=>tot Y S cur (.binOp b t x y yt) k
   | _,_=>none
  | n=>match ev S cur x,ev S cur y with
   | some u,some v=>match Xi u,Xi v with
    | some (kk,p),some (k2,q)=>match n with
     | 1=>bif Pw kk k2 then(Qjd kk p q).bind fun z=>k (.d (.int kk) z)else none
     | 2=>bif Pw kk k2 then(Qvr p q).bind fun z=>k (.d (.int kk) z)else none
     | 3=>(Q9j kk p q).bind fun z=>k (.d (.int kk) z)
     | 4=>(Q9i kk p q).bind fun z=>k (.d (.int kk) z)
     | _=>none
    | _,_=>none
   | _,_=>none
 | .indexAddr t x i=>match Qh Y.T t,ev S cur x,ev S cur i with
  | some te,some v,some iv=>match Xi iv,Ys te.d with
   | some (_,j),some e=>match Qh Y.T e with
    | some ee=>match v with
     | .d (.sl u) xs=>bif Nat.beq ee.size u.size then(idx xs j).bind fun y=>k (.a u y)else none
     | .s id=>match Qe S.mem id with
      | some (.row _ u xs)=>bif Nat.beq ee.size u.size&&Nat.ble 1 u.size then(idx xs j).bind fun _=>k (.e id [.i j u.size])else none
      | some (.tail _ u xs)=>bif Nat.beq ee.size u.size then(idx xs j).bind fun y=>k (.a u y)else none
      | _=>none
     | .w id j0 n=>match Q9x j,Q9x j0,Q9x n with
      | some a,some a0,some nn=>bif Nat.beq ee.size 1&&Nat.blt a nn then k (.p id [.f (a0+a) (a0+a)])else none
      | _,_,_=>none
     | _=>none
    | none=>none
   | _,_=>none
  | _,_,_=>none
 | .index t x i=>match Qh Y.T t,ev S cur x,ev S cur i with
  | some te,some v,some iv=>match Xi iv,Qft v,te.d with
   | some (_,j),some l,.string=>(Bn l j).bind fun c=>k (.d (.int .u8) c)
   | some (_,j),none,.array m e=>match v,Qh Y.T e with
    | .d (.arr m' u) xs,some ee=>bif Nat.beq m m'&&Nat.beq ee.size u.size&&(Xu ee.d==u.agg)then(idx xs j).bind fun y=>k (.d u y)else none
    | _,_=>none
   | _,_,_=>none
  | _,_,_=>none
 | .load t x=>match Qh Y.T t,ev S cur x with
  | some e,some (.e id (.i j sz::ps))=>match Qe S.mem id with
   | some (.row _ u xs)=>bif Nat.beq sz u.size&&Nat.ble 1 u.size then(idx xs j).bind fun y=>match nav ps (.d u y)with
     | some zv=>bif Nat.beq e.size zv.size&&(Xu e.d==zv.isAgg)&&zv.isVal&&(zv.isAgg||Nat.beq zv.size 1)then k zv else none
     | none=>none
    else none
   | _=>none
  | _,_=>tot Y S cur (.load t x) k
 | .slice t x lo hi none=>match Qh Y.T t,ev S cur x with
  | some te,some v=>match te.d with
   | .string=>match Qft v with
    | some l=>match bnd S cur 0 lo,bnd S cur l.length hi with
     | some a,some b=>(slc l a b).bind fun s=>k (.d .str s)
     | _,_=>none
    | none=>none
   | .slice e=>match Qh Y.T e,Jd5 S.mem v with
    | some ee,some ⟨u,xs⟩=>bif Nat.beq ee.size u.size then match bnd S cur 0 lo,bnd S cur xs.length hi with
      | some a,some b=>(slc xs a b).bind fun ys=>k (.d (.sl u) ys)
      | _,_=>none
     else none
    | _,_=>none
   | _=>none
  | _,_=>none
 | .slice t x lo (some hi) (some mx)=>match Qh Y.T t,ev S cur x,ev S cur hi,ev S cur mx with
  | some te,some v,some hv,some mv=>match Ys te.d,Xi hv,Xi mv with
   | some e,some (_,b),some (_,m)=>match Qh Y.T e,Jd5 S.mem v,bnd S cur 0 lo with
    | some ee,some ⟨u,xs⟩,some a=>bif Nat.beq ee.size u.size then(chk (decide (b≤m)&&decide (m≤(xs.length:Int)))).bind fun _=>(slc xs a b).bind fun ys=>k (.d (.sl u) ys)else none
    | _,_,_=>none
   | _,_,_=>none
  | _,_,_,_=>none
 | .convert s t x=>match Qh Y.T s,Qh Y.T t with
  | some se,some te=>match Ys se.d,te.d with
   | some e,.string=>match Qh Y.T e,ev S cur x with
    | some ⟨_,.int .u8,_,_,_⟩,some v=>match asD S.mem v (.sl (.int .u8))with
     | some xs=>k (.d .str (Qr1 xs))
     | none=>none
    | _,_=>none
   | _,_=>tot Y S cur (.convert s t x) k
  | _,_=>none
 | op=>tot Y S cur op k
end
section
variable {P:Program} {X:Cx} {β:Nat→Nat} {ρ:Nat→Value} {S:St} {a:Act} {w:World} {cur:Y4} {ok:Ok}
theorem Q9y{x:AV}{l:Str}(h:Qft x=some l):x=.d .str l:=by
 unfold Qft at h
 grind
theorem P2{b:BinOp}{y:Operand}{n:Nat}(h:Q35 b y=n):n=0∨(n=1∧b=.quo)∨(n=2∧b=.rem)∨(n=3∧b=.shl)∨(n=4∧b=.shr)∨(n=5∧b=.add):=by
 subst h
 cases b<;>simp only[Q35]<;>first | (simp; done) | grind
theorem Br.int(h:Br β ρ ok S a w)(hc:Js a cur){x:Operand}{v:AV}{k:IntKind}{n:Int}(hx:Gx.ev S cur x=some v)(hi:Xi v=some (k,n)):a.eval x=.int k n:=by
 have:=Cr hi
 subst this
 obtain⟨cs,h1,h2⟩:=h.ev hc hx
 have zb:cs=_:=h2
 subst zb
 exact h1
theorem Br.str(h:Br β ρ ok S a w)(hc:Js a cur){x:Operand}{v:AV}{l:Str}(hx:Gx.ev S cur x=some v)(hi:Qft v=some l):a.eval x=Yg l:=by
 have:=Q9y hi
 subst this
 obtain⟨cs,h1,h2⟩:=h.ev hc hx
 have zb:cs=_:=h2
 subst zb
 exact h1
theorem Qnv(h:Br β ρ ok S a w)(hc:Js a cur){x:Operand}{v:AV}{u:Ty}{xs:List u.De}(hx:ev S cur x=some v)(hi:Jd5 S.mem v=some ⟨u,xs⟩) :
  isV (rSl (rt u)) (ok) w xs (a.eval x):=by
 unfold Jd5 at hi
 obtain⟨cs,h1,h2⟩:=h.ev hc hx
 split at hi
 ·simp at hi; obtain⟨rfl,hi⟩:=hi
  obtain rfl:=eq_of_heq hi
  have:=Q9s h2
  rw[←h1]at this
  exact this
 ·rename_i id
  split at hi
  ·rename_i e t ys ho
   simp at hi; obtain⟨rfl,hi⟩:=hi
   obtain rfl:=eq_of_heq hi
   obtain⟨⟨v0,rfl,zz⟩,_⟩:=h2
   have k8:a.eval x=v0:=h1
   rw[k8]
   exact Qvw zz (h.mm _ _ ho).1
  ·cases hi
 ·cases hi
theorem Br.bnd(h:Br β ρ ok S a w)(hc:Js a cur){dflt n:Int}{x:Option Operand}(hb:Gx.bnd S cur dflt x=some n):(x=none∧n=dflt)∨∃y k,x=some y∧a.eval y=.int k n:=by
 unfold Gx.bnd at hb
 split at hb
 ·grind
 ·rename_i y
  split at hb
  ·rename_i v hv
   split at hb
   ·rename_i k m hi
    simp at hb; subst hb
    exact .inr ⟨y,k,rfl,h.int hc hv hi⟩
   ·cases hb
  ·cases hb
theorem Qlk{lo:Option Operand}{hi mx:Operand}{k1 k2:IntKind}{l h' m:Int}{len cap:Nat}(mw:(lo=none∧l=0)∨∃y k,lo=some y∧a.eval y=.int k l)(su:a.eval hi=.int k1 h')(u9:a.eval mx=.int k2 m)
  (h0:0≤l) (h1:l≤h') (h2:h'≤m) (h3:m≤cap) :
  (Instr.sliceBounds true len cap (lo.map a.eval) ((some hi).map a.eval) ((some mx).map a.eval)).run P w=.ok (l.toNat,h'.toNat,m.toNat) w:=by
 unfold Instr.sliceBounds
 have s1:∀{k:IntKind} {i:Int} {y:Nat} {code:BoundsCode},0≤i→i≤y→(Instr.sliceBound (.int k i) y code).run P w=.ok i.toNat w:=fun h0 h1=>Qae h0 h1
 rcases mw with⟨rfl,rfl⟩ | ⟨yl,kl,rfl,hl⟩
 ·simp only[JS,Option.map_none,su,u9,Sem.run_bind,if_true]
  rw[s1 (by omega) h3]
  simp only[Result.andThen_ok]
  rw[s1 (by omega) (by omega)]
  simp
 ·simp only[JS,su,u9,hl,Sem.run_bind,if_true]
  rw[s1 (by omega) h3]
  simp only[Result.andThen_ok]
  rw[s1 (by omega) (by omega)]
  simp only[Result.andThen_ok]
  rw[s1 h0 (by omega)]
  simp
theorem Np{isS:Bool}{lo hi:Option Operand}{l h':Int}{len cap:Nat}(mw:(lo=none∧l=0)∨∃y k,lo=some y∧a.eval y=.int k l)(su:(hi=none∧h'=len)∨∃y k,hi=some y∧a.eval y=.int k h')
  (h0:0≤l) (h1:l≤h') (h2:h'≤len) (h3:len≤cap) :
  (Instr.sliceBounds isS len cap (lo.map a.eval) (hi.map a.eval) none).run P w=.ok (l.toNat,h'.toNat,cap) w:=by
 unfold Instr.sliceBounds
 have s1:∀{k:IntKind} {i:Int} {y:Nat} {code:BoundsCode},0≤i→i≤y→(Instr.sliceBound (.int k i) y code).run P w=.ok i.toNat w:=fun h0 h1=>Qae h0 h1
 rcases su with⟨rfl,rfl⟩ | ⟨yh,kh,rfl,hh⟩
 ·rcases mw with⟨rfl,rfl⟩ | ⟨yl,kl,rfl,hl⟩
  ·simp
  simp_all
 ·have e1:∀c:BoundsCode,(Instr.sliceBound (.int kh h') cap c).run P w=.ok h'.toNat w:=fun c=>s1 (by omega) (by omega)
  rcases mw with⟨rfl,rfl⟩ | ⟨yl,kl,rfl,hl⟩
  ·simp_all
  ·simp only[JS,hh,hl,Sem.run_bind,Sem.run_pure,Result.andThen_ok,e1]
   rw[s1 h0 (by omega)]
   simp
theorem Ji4{Y:Tab}(hT:Q6 P Y){s t e:TypeId}{te ee se:TE}(ht:Qh Y t=some te)(kr:te.d=.string)(zh:Qh Y s=some se)(wi:se.d=.slice e)(he:Qh Y e=some ee)(hed:ee.d=.int .u8)
  {xs:List Int} {v:Value} (hD:isV (rSl (Si .u8)) ok w xs v):(convert s t v).run P w=.ok (Yg (Qr1 xs)) w:=by
 obtain⟨A,m,c,rfl,hl,hc,hn⟩:=Zu.1 hD
 have sr:=(Jq hT zh).2; rw[wi]at sr
 have p9:=(Jq hT ht).2; rw[kr]at p9
 have my:=(Jq hT he).2; rw[hed]at my
 have we:=run_convert_bytes_string (P:=P) w s t e A m c sr my p9
 have ka:(Conv.bytesToString (.slice A m c)).run P w=.ok (Yg (Qr1 xs)) w:=by
  cases A with
  | none =>
   have hm0:m=0:=by
    grind
   have:xs=[]:=QE (by omega)
   subst this
   simp[Conv.bytesToString,Qr1,Yg]; rfl
  | some ad =>
   have sw:(loadCells ad m).run P w=.ok (xs.map (Value.int .u8)).toArray w:=by
    have:=run_loadCells_list (P:=P) w ad (xs.map (Value.int .u8)) (fun j v hj=>by
     rw[List.getElem?_map]at hj
     obtain⟨y,hy,rfl⟩:=XW.1 hj
     have fe:=(List.getElem?_eq_some_iff.1 hy).1
     obtain⟨b,o,hA,zx⟩:=hn (by omega)
     injection hA with hA
     subst hA
     obtain⟨cs,hr,ha⟩:=zx j y hy
     have il:cs=[.int .u8 y]:=hr
     subst il
     have:=(ha 0 _ rfl).2
     rw[Hi]
     grind [Si])
    grind
   rw[run_bytesToString w ad m c xs sw]
   have:=Qom xs []
   simp only[QU]at this
   show Result.ok (Value.string (xs.foldl _ (ByteArray.mk ([]:List UInt8).toArray))) w=_
   rw[this]; rfl
 grind
def Qo3(P:Program)(S:St)(cur:Y4)(o:Oper)(av:AV):Prop :=
 ∀{β:Nat→Nat} {ρ:Nat→Value} {ok:Ok} {a:Act} {w:World},Br β ρ ok S a w→Js a cur →
  ∃cs,(execOp a.eval o).run P w=.ok (.value (av.val cs)) w∧cr β ρ (ok) w false av cs
theorem Qo4{Y:TX}(hT:Q6 P Y.T){R:Type}{o:Oper}{op:Op}(ko:o.op=op){k:AV→Option R}{r:R}(hv:tot Y S cur op k=some r):∃av,k av=some r∧Qo3 P S cur o av:=by
 unfold tot at hv
 split at hv
 ·rename_i av mz
  exact⟨av,hv,fun {β ρ ok a w} h hc=>Qhn hT h hc (by rw[ko]; exact mz)⟩
 ·cases hv
theorem Q9z{Y:TX}(hT:Q6 P Y.T){R:Type}{o:Oper}{op:Op}(ko:o.op=op){k:AV→Option R}{r:R}(hv:Qjq Y S cur op k=some r):∃av,k av=some r∧Qo3 P S cur o av:=by
 unfold Qjq at hv
 split at hv
 ·
  rename_i b t x y yt
  split at hv
  ·grind [Qo4]
  ·rename_i hk
   split at hv
   ·rename_i u v hu qy
    split at hv
    ·rename_i p q hp hq
     obtain⟨s,hs,xw⟩:=Yj hv
     refine⟨_,xw,fun {β ρ ok a w} h hc=>⟨[Yg s],?_,rfl⟩⟩
     have h1:=h.str hc hu hp
     have h2:=h.str hc qy hq
     have hb:b=.add:=by
      have:=P2 hk
      grind
     subst hb
     unfold Jim at hs
     split at hs
     ·rename_i hle
      have hq:=(Option.some.inj hs).symm
      subst hq
      have hr:(Op.stringOp .add (ByteArray.mk p.toArray) (ByteArray.mk q.toArray)).run P w=.ok (.string (ByteArray.mk (p++q).toArray)) w:=by
       rw[run_string_add_sum _ _ _ (by exact hle)]
       congr 2
      unfold execOp
      rw[ko]
      simp_all [Yg,eqGuard_add,binOp_string_add,AV.val,AV.isAgg,Ty.agg]
     ·cases hs
    grind [Qo4]
   ·cases hv
  ·rename_i n jr hn5
   split at hv
   ·rename_i u v hu qy
    split at hv
    ·rename_i kk p k2 q hp hq
     have hb:b≠.eql∧b≠.neq:=by
      constructor<;>(rintro rfl; exact jr (by rfl))
     have fin:∀z,(∀w:World,(binOp b t (.int kk p) (.int k2 q)).run P w=.ok (.int kk z) w)→Qo3 P S cur o (.d (.int kk) z):=by
      intro z hz β ρ ok a w h hc
      have h1:=h.int hc hu hp
      have h2:=h.int hc qy hq
      refine⟨[.int kk z],?_,rfl⟩
      simp_all [execOp,eqGuard,AV.val,AV.isAgg,Ty.agg]
     split at hv
     ·rename_i sx
      obtain⟨hs,u6⟩:=bvT hv
      have:=Cn hs
      subst this
      obtain⟨z,hz,xw⟩:=Yj u6
      have hb:b=.quo:=by
       have:=P2 sx
       grind
      grind [Jip]
     ·rename_i sx
      obtain⟨hs,u6⟩:=bvT hv
      have:=Cn hs
      subst this
      obtain⟨z,hz,xw⟩:=Yj u6
      have hb:b=.rem:=by
       have:=P2 sx
       grind
      grind [Jiq]
     ·rename_i sx
      obtain⟨z,hz,xw⟩:=Yj hv
      have hb:b=.shl:=by
       have:=P2 sx
       grind
      grind [Jis]
     ·rename_i sx
      obtain⟨z,hz,xw⟩:=Yj hv
      have hb:b=.shr:=by
       have:=P2 sx
       grind
      grind [Jir]
     ·cases hv
    ·cases hv
   ·cases hv
 ·
  rename_i t x i
  split at hv
  ·rename_i te v iv ku hx hi
   split at hv
   ·rename_i ki j e vk zh
    have kr:te.d=.slice e:=by
     unfold Ys at zh
     grind
    split at hv
    ·rename_i ee he
     have run:∀{β:Nat→Nat} {ρ:Nat→Value} {ok:Ok} {a:Act} {w:World},Br β ρ ok S a w→Js a cur→∀{b of m c:Nat},a.eval x=.slice (some ⟨b,of,none⟩) m c→0≤j→j<(m:Int) →
       (execOp a.eval o).run P w=.ok (.value (.pointer (some ⟨b,of+j.toNat*ee.size,none⟩))) w:=by
      intro β ρ ok a w h hc b of m c hv h0 h1
      have xk:(underlying t).run P w=.ok (.slice e) w:=by rw[Ju hT w ku,kr]
      have p8:=h.int hc hi vk
      unfold execOp
      rw[ko]
      simp only[hv,p8]
      simp[Instr.indexAt,asIntOf,xk,h0,h1,J5 hT w he,Addr.add_lit]
     have data:∀{u:Ty} {xs:List u.De} {y:u.De},ee.size=u.size→idx xs j=some y→(∀{β:Nat→Nat} {ρ:Nat→Value} {ok:Ok} {a:Act} {w:World},Br β ρ ok S a w→Js a cur→isV (rSl (rt u)) (ok) w xs (a.eval x)) →
       Qo3 P S cur o (.a u y):=by
      intro u xs y kg hy wj β ρ ok a w h hc
      have h0:=(Ws hy).1
      obtain⟨A,c,xn,hsl'⟩:=Qi9 (wj h hc)
      obtain⟨b,of,rfl,hlt,hat⟩:=Jdq (Zu.1 hsl') (Ws hy).2
      refine⟨[.pointer (some ⟨b,of+j.toNat*u.size,none⟩)],?_,_,rfl,by rw[←Jf]; exact hat⟩
      rw[←kg]
      exact run h hc xn h0 (by omega)
     split at hv
     ·rename_i u xs
      obtain⟨hb,hv⟩:=bvT hv
      obtain⟨y,hy,xw⟩:=Yj hv
      refine⟨_,xw,data (Nat.eq_of_beq_eq_true hb) hy fun {β ρ ok a w} h hc=>Qnv h hc hx rfl⟩
     ·rename_i id
      split at hv
      ·rename_i e' u xs ho
       obtain⟨hb,hv⟩:=bvT hv
       simp only[QQ]at hb
       obtain⟨y,hy,xw⟩:=Yj hv
       refine⟨_,xw,fun {β ρ ok a w} h hc=>?_⟩
       obtain⟨cs,h1,⟨v0,rfl,zz⟩,A,m,c,hρ⟩:=h.ev hc hx
       have hml:=(h.mm _ _ ho)
       obtain⟨hl,cs2,kb,hr⟩:=hml
       have xn:a.eval x=ρ id:=by
        rcases zz with rfl | ⟨wo,_⟩
        ·exact h1
        ·rw[wo]at hl
         have hlt:=(List.getElem?_eq_some_iff.1 (Ws hy).2).1
         grind [K2]
       rw[hρ]at hl kb xn
       simp only[K2]at hl kb
       have h0:=(Ws hy).1
       have hlt:=(List.getElem?_eq_some_iff.1 (Ws hy).2).1
       rcases kb.2 with⟨hv,hm⟩ | ⟨g,cap,cu,fz,hv,_⟩
       ·omega
       ·injection hv with e1 e2 e3
        subst e1
        refine⟨[.pointer (some ⟨g,0+j.toNat*ee.size,none⟩)],run h hc xn h0 (by omega),g,by rw[hρ]; rfl,?_⟩
        have kg:=Nat.eq_of_beq_eq_true hb.1
        simp[Yi,PS.off,kg]
      ·rename_i e' u xs ho
       obtain⟨hb,hv⟩:=bvT hv
       obtain⟨y,hy,xw⟩:=Yj hv
       grind [Nat.eq_of_beq_eq_true,Qnv,Jd5]
      ·cases hv
     ·rename_i id j0 nn0
      split at hv
      ·rename_i ia a0 nn hla wz ju
       obtain⟨hb,hv⟩:=bvT hv
       simp only[QQ]at hb
       have e1:=Qvx hla; have e2:=Qvx wz; have e3:=Qvx ju
       have hlt:=QK hb.2
       refine⟨_,hv,fun {β ρ ok a w} h hc=>?_⟩
       obtain⟨cs,h1,A,c,rfl,hA⟩:=h.ev hc hx
       have hA':=hA (by rw[e3]; grind)
       subst hA'
       have xn:a.eval x=.slice (some ⟨β id,j0.toNat,none⟩) nn0.toNat c:=h1
       refine⟨[.pointer (some ⟨β id,j0.toNat+j.toNat*ee.size,none⟩)],run h hc xn (by omega) (by rw[e1,e3]; grind),?_⟩
       have wy:=Nat.eq_of_beq_eq_true hb.1
       show [_]=[_]
       rw[wy,e1,e2]
       simp[Yi,PS.off]
      ·cases hv
     ·cases hv
    ·cases hv
   ·cases hv
  ·cases hv
 ·
  rename_i t x i
  split at hv
  ·rename_i te v iv ku hx hi
   split at hv
   ·rename_i ki j l vk hl hd
    obtain⟨c,y8,xw⟩:=Yj hv
    refine⟨_,xw,fun {β ρ ok a w} h hc=>⟨[.int .u8 c],?_,rfl⟩⟩
    have h1:=h.str hc hx hl
    have h2:=h.int hc hi vk
    obtain⟨h0,b,hb,rfl⟩:=Jil y8
    have xk:(underlying t).run P w=.ok .string w:=by rw[Ju hT w ku,hd]
    have ue:(if 0≤j then(ByteArray.mk l.toArray)[j.toNat]? else none)=some b:=by
     rw[if_pos h0]
     have hlen:j.toNat<l.length:=(List.getElem?_eq_some_iff.1 hb).1
     have h1:j.toNat<(ByteArray.mk l.toArray).size:=hlen
     rw[getElem?_pos (ByteArray.mk l.toArray) j.toNat h1]
     have:=(List.getElem?_eq_some_iff.1 hb).2
     rw[←this]
     rfl
    unfold execOp
    rw[ko]
    simp only[h1,h2]
    simp only[Instr.index,asIntOf,Sem.run_bind,Sem.run_pure,Result.andThen_ok,xk,Yg,ue]
    rfl
   ·rename_i ki j m e vk _ hd
    split at hv
    ·rename_i m' u xs ee he _
     obtain⟨hb,hv⟩:=bvT hv
     obtain⟨y,hy,xw⟩:=Yj hv
     simp only[QQ]at hb
     have e1:=Nat.eq_of_beq_eq_true hb.1.1
     subst e1
     have kg:=Nat.eq_of_beq_eq_true hb.1.2
     have xi:=bEq hb.2
     refine⟨_,xw,fun {β ρ ok a w} h hc=>?_⟩
     have h2:=h.int hc hi vk
     obtain⟨c1,h1,hl,hr⟩:=h.ev hc hx
     have k8:a.eval x=.agg c1.toArray:=h1
     have hr:Ku (rt u) ok w xs c1:=hr
     obtain⟨h0,hyj⟩:=Ws hy
     have zr:=Fh hr hyj
     rw[Jf]at zr
     have hlt:j.toNat<xs.length:=(List.getElem?_eq_some_iff.1 hyj).1
     refine⟨(c1.drop (j.toNat*u.size)).take u.size,?_,zr⟩
     have vi:(part e c1.toArray (j.toNat*ee.size)).run P w=.ok ((AV.d u y).val ((c1.drop (j.toNat*u.size)).take u.size)) w:=by
      refine Qoi hT w he c1 _ ?_
      rw[xi,kg]
      simp only[AV.val,AV.isAgg]
      cases hua:u.agg with
      | true=>simp
      | false =>
       have h1s:=Jdw hua
       have xg:=(rt u).len zr
       rw[Jf,h1s]at xg
       rw[h1s]
       simp only[JH,if_false,cond_false]
       grind [List.getElem?_eq_none_iff,List.length_take,List.length_drop,List.getElem?_eq_some_iff,List.drop_eq_getElem_cons]
     have xk:(underlying t).run P w=.ok (.array m e) w:=by rw[Ju hT w ku,hd]
     have hso:(Go.sizeOf e).run P w=.ok ee.size w:=J5 hT w he
     have fg:0≤j∧j<(m:Int):=⟨h0,by omega⟩
     unfold execOp
     rw[ko]
     simp only[k8,h2]
     simp only[Instr.index,asIntOf,Sem.run_bind,Sem.run_pure,Result.andThen_ok,xk]
     rw[if_pos fg]
     simp_all
    ·cases hv
   ·cases hv
  ·cases hv
 ·
  rename_i t x
  split at hv
  ·rename_i e id j sz ps he hx
   split at hv
   ·rename_i e' u xs ho
    obtain⟨hb,hv⟩:=bvT hv
    simp only[QQ]at hb
    obtain⟨y,hy,hv⟩:=Yj hv
    split at hv
    ·rename_i z0 hz
     obtain⟨z8,xw⟩:=bvT hv
     simp only[QQ]at z8
     obtain⟨⟨⟨b1,b2⟩,b3⟩,b4⟩:=z8
     have b1:=Nat.eq_of_beq_eq_true b1
     have b2:=bEq b2
     refine⟨_,xw,fun {β ρ ok a w} h hc=>?_⟩
     obtain⟨cs,h1,g',yb,rfl⟩:=h.ev hc hx
     obtain⟨hl,cs2,kb,hr⟩:=h.2 _ _ ho
     have h0:=(Ws hy).1
     have hlt:=(List.getElem?_eq_some_iff.1 (Ws hy).2).1
     rcases kb.2 with⟨hv,hm⟩ | ⟨g,cap,cu,fz,hv,_,hh,ya,hle,yw,zx,xz⟩
     ·rw[hv]at hl; grind
     ·have b9:g'=g:=by rw[hv]at yb; grind [Value.ownBlock]
      subst b9
      have kg:=Nat.eq_of_beq_eq_true hb.1
      have hrs:=Jf u
      have zr:=Fh hr (Ws hy).2
      rw[hrs]at zr
      obtain⟨h3,h4⟩:=Qfs (β:=β) (ρ:=ρ) (x:=.d u y) hz zr
      have hlen:=Ux h3
      refine⟨_,?_,h3⟩
      have k8:a.eval x=.pointer (some ⟨g',Yi (PS.i j sz::ps),none⟩):=h1
      have hL:((cs2.drop (j.toNat*u.size)).take u.size).length=u.size:=Ux (x:=.d u y) (show cr β ρ _ w false (.d u y) _ from zr)
      unfold execOp
      rw[ko]
      simp only[k8,Sem.run_bind]
      rw[Fi hT he (y:=z0) (cs:=(List.drop (Yi ps) (List.take u.size (List.drop (j.toNat*u.size) cs2))).take z0.size) (by rw[hlen]; exact b1) b2 (fun ha=>by
       rw[ha]at b4
       rw[hlen]; grind [Nat.eq_of_beq_eq_true]) (fun q v hq=>by
        have tr:q<z0.size:=by
         have:=(List.getElem?_eq_some_iff.1 hq).1
         omega
        rw[List.getElem?_take_of_lt tr,JX]at hq
        grind [Yi,List.getElem?_take_of_lt,PS.off,World.cell?])]
      rfl
    ·cases hv
   ·cases hv
  grind [Qo4]
 ·
  rename_i t x lo hi
  split at hv
  ·rename_i te v ku hx
   split at hv
   ·rename_i hd
    split at hv
    ·rename_i l hl
     split at hv
     ·rename_i p q hp hq
      obtain⟨s,hs,xw⟩:=Yj hv
      refine⟨_,xw,fun {β ρ ok a w} h hc=>⟨[Yg s],?_,rfl⟩⟩
      have h1:=h.str hc hx hl
      obtain⟨h0,k8,h2,zu,va⟩:=slc_ok hs
      have xk:(underlying t).run P w=.ok .string w:=by rw[Ju hT w ku,hd]
      have hb:=Np (P:=P) (w:=w) (isS:=false) (cap:=l.length) (len:=l.length) (h.bnd hc hp) (h.bnd hc hq) h0 k8 (by omega) (QY _)
      have hex:(ByteArray.mk l.toArray).extract p.toNat q.toNat=ByteArray.mk s.toArray:=by
       rw[ByteArray.extract_mk,zu]; grind
      unfold execOp
      rw[ko]
      simp only[h1]
      have kg:(ByteArray.mk l.toArray).size=l.length:=rfl
      simp only[Instr.sliceAt,Sem.run_bind,xk,Result.andThen_ok,Instr.slice,Yg,Option.map_none,Option.isSome_none,JH,if_false,Sem.run_pure,kg,hb,hex]
      rfl
     ·cases hv
    ·cases hv
   ·rename_i e hd
    split at hv
    ·rename_i ee u xs he wj
     obtain⟨me,hv⟩:=bvT hv
     have kg:=Nat.eq_of_beq_eq_true me
     split at hv
     ·rename_i p q hp hq
      obtain⟨ys,zu,xw⟩:=Yj hv
      refine⟨_,xw,fun {β ρ ok a w} h hc=>?_⟩
      have hD:=Qnv h hc hx wj
      obtain⟨A,m,c,hv,hl,yc,hn⟩:=Zu.1 hD
      obtain⟨h0,h1,h2,lf,va⟩:=slc_ok zu
      have xk:(underlying t).run P w=.ok (.slice e) w:=by rw[Ju hT w ku,hd]
      have hb:=Np (P:=P) (w:=w) (isS:=true) (len:=m) (cap:=c) (h.bnd hc hp) (by rw[←hl]; exact h.bnd hc hq) h0 h1 (by omega) yc
      refine⟨[.slice (if c=p.toNat then A else A.map (·.add (p.toNat*u.size))) ys.length (c - p.toNat)],?_,?_⟩
      ·unfold execOp
       rw[ko]
       have hlen:q.toNat - p.toNat=ys.length:=by omega
       simp only[hv]
       simp[Instr.sliceAt,xk,Instr.slice,hb,J5 hT w he,kg,hlen,AV.val,AV.isAgg,Ty.agg]
      ·refine⟨_,rfl,⟨_,_,_,rfl,rfl,by omega,fun zn=>?_⟩⟩
       obtain⟨b,of,rfl,wq⟩:=hn (by omega)
       have zk:¬ c=p.toNat:=by omega
       rw[if_neg zk]
       grind [Addr.add_lit,List.getElem?_eq_some_iff,List.getElem?_take_of_lt,Jf,Nat.add_mul]
     ·cases hv
    ·cases hv
   ·cases hv
  ·cases hv
 ·
  rename_i t x lo hi mx
  split at hv
  ·rename_i te v p7 mv ku hx su u9
   split at hv
   ·rename_i e k1 b k2 mm hd hib qq
    split at hv
    ·rename_i ee u xs p he wj hp
     obtain⟨me,hv⟩:=bvT hv
     have kg:=Nat.eq_of_beq_eq_true me
     obtain⟨_,vt,hv⟩:=Yj hv
     obtain⟨vt,_⟩:=bvT vt
     simp only[QQ,decide_eq_true_eq]at vt
     obtain⟨ys,zu,xw⟩:=Yj hv
     refine⟨_,xw,fun {β ρ ok a w} h hc=>?_⟩
     have hD:=Qnv h hc hx wj
     obtain⟨A,m,c,hv,hl,yc,hn⟩:=Zu.1 hD
     obtain⟨h0,h1,h2,lf,va⟩:=slc_ok zu
     have wi:te.d=.slice e:=by
      cases wi:te.d<;>rw[wi]at hd<;>simp[Ys]at hd
      subst hd; rfl
     have xk:(underlying t).run P w=.ok (.slice e) w:=by rw[Ju hT w ku,wi]
     have hb:=Qlk (P:=P) (w:=w) (len:=m) (cap:=c) (h.bnd hc hp) (h.int hc su hib) (h.int hc u9 qq) h0 h1 vt.1 (by omega)
     refine⟨[.slice (if mm.toNat=p.toNat then A else A.map (·.add (p.toNat*u.size))) ys.length (mm.toNat - p.toNat)],?_,?_⟩
     ·unfold execOp
      rw[ko]
      have hlen:b.toNat - p.toNat=ys.length:=by omega
      simp only[hv]
      simp only[JS]at hb
      simp[Instr.sliceAt,xk,Instr.slice,hb,J5 hT w he,kg,hlen,AV.val,AV.isAgg,Ty.agg]
     ·refine⟨_,rfl,⟨_,_,_,rfl,rfl,by omega,fun zn=>?_⟩⟩
      obtain⟨bb,of,rfl,wq⟩:=hn (by omega)
      have zk:¬ mm.toNat=p.toNat:=by omega
      rw[if_neg zk]
      grind [Addr.add_lit,List.getElem?_eq_some_iff,List.getElem?_take_of_lt,Jf,Nat.add_mul]
    ·cases hv
   ·cases hv
  ·cases hv
 ·
  rename_i s t x
  split at hv
  ·rename_i se te zh ku
   split at hv
   ·rename_i e hd qz
    have wi:se.d=.slice e:=by
     cases wi:se.d<;>rw[wi]at hd<;>simp[Ys]at hd
     subst hd; rfl
    split at hv
    ·rename_i _ z0 _ _ v he hx
     split at hv
     ·rename_i xs xp
      refine⟨_,hv,fun {β ρ ok a w} h hc=>⟨[Yg (Qr1 xs)],?_,rfl⟩⟩
      have xi:(Ty.sl (.int .u8)).agg=v.isAgg:=by
       cases v with
       | d t' y'=>obtain⟨rfl,_⟩:=Ty.cast_ok (by simpa only[asD]using xp); rfl
       | ag l=>grind [asD]
       | _=>rfl
      have hD:=h.asD hc hx xp xi
      have:=Ji4 hT ku qz zh wi he rfl hD
      unfold execOp
      rw[ko]
      simp only[Sem.run_bind,this]
      rfl
     ·cases hv
    ·cases hv
   grind [Qo4]
  ·cases hv
 grind [Qo4]
end
section
variable {X:Cx} {β:Nat→Nat} {ρ:Nat→Value} {S:St} {a:Act} {w:World} {cur:Y4}
theorem Rel.int(h:Rel X β ρ S a w)(hc:Js a cur){x:Operand}{v:AV}{k:IntKind}{n:Int}(hx:Gx.ev S cur x=some v)(hi:Xi v=some (k,n)):a.eval x=.int k n:=h.toW.int hc hx hi
theorem Rel.mm(h:Rel X β ρ S a w):∀id o,Qe S.mem id=some o→(Q0 β ρ id o).p (okR X β ρ S.mem w) w:=fun _ _ ho=>(h.ob ho).1
theorem Rel.asD(h:Rel X β ρ S a w)(hc:Js a cur){x:Operand}{v:AV}{t:Ty}{y:t.De}(hx:Gx.ev S cur x=some v)(hd:Gx.asD S.mem v t=some y)(ht:t.agg=v.isAgg) :
  isV (rt t) (okR X β ρ S.mem w) w y (a.eval x):=h.toW.asD hc hx hd ht
end
end Gx

/- Elements of arrays that lie in variables; parts of such arrays as strings. -/
namespace Gx
open Go Go.RowKit Gd
set_option linter.unusedVariables false
set_option linter.unusedSimpArgs false
set_option linter.constructorNameAsVariable false
def Jnq:List PS→Bool
 | []=>false
 | .f _ _::l=>Jnq l
 | .i _ _::_=>true
section
variable {R:Type}
def Qo5:List PS→AV→(AV→Option R)→Option R
 | [],x,k=>k x
 | .f i off::ps,x,k=>match nav [.f i off] x with
  | some y=>Qo5 ps y k
  | none=>none
 | .i j sz::ps,x,k=>match x with
  | .d (.arr _ u) xs=>bif Nat.beq sz u.size then(idx xs j).bind fun y=>Qo5 ps (.d u y) k else none
  | _=>none
def Qml(M:List (Nat×Ob)):List PS→AV→AV→(AV→Option R)→Option R
 | [],x,v,k=>bif Qhk x v then k v else none
 | .f i off::ps,x,v,k=>match nav [.f i off] x with
  | some y=>Qml M ps y v fun z=>match Qmk [.f i off] x z with
   | some x'=>k x'
   | none=>none
  | none=>none
 | .i j sz::ps,x,v,k=>match x with
  | .d (.arr n u) xs=>bif Nat.beq sz u.size then(idx xs j).bind fun y=>Qml M ps (.d u y) v fun z=>match asD M z u with
   | some y'=>k (.d (.arr n u) (xs.set j.toNat y'))
   | none=>none else none
  | _=>none
end
theorem Q6w{α:Type}{cs:List α}{o n p m:Nat}(h:p+m≤n):(((cs.drop o).take n).drop p).take m=(cs.drop (o+p)).take m:=by
 rw[List.drop_take,List.drop_drop,XY,Nat.min_eq_left (by omega)]
theorem Jd6{α:Type}{cs ds:List α}{o n p:Nat}(h:p+ds.length≤n) :
  cs.take o++(((cs.drop o).take n).take p++ds++((cs.drop o).take n).drop (p+ds.length))++cs.drop (o+n)=cs.take (o+p)++ds++cs.drop (o+p+ds.length):=by
 have e1:cs.take (o+p)=cs.take o++((cs.drop o).take n).take p:=by rw[List.take_add,XY,Nat.min_eq_left (by omega)]
 have e2:cs.drop (o+p+ds.length)=((cs.drop o).take n).drop (p+ds.length)++cs.drop (o+n):=by
  have e3:cs.drop (o+n)=(cs.drop (o+(p+ds.length))).drop (n - (p+ds.length)):=by rw[List.drop_drop]; congr 1; omega
  rw[List.drop_take,List.drop_drop,e3,List.take_append_drop,Nat.add_assoc]
 rw[e1,e2]
 grind
theorem Qvy{u:Ty}{n:Nat}{xs:List u.De}{ok:Ok}{w:World}{cs:List Value}(h:(rt (.arr n u)).rep ok w xs cs){j:Int}{y:u.De}(hy:idx xs j=some y) :
  (rt u).rep ok w y ((cs.drop (j.toNat*u.size)).take u.size)∧j.toNat*u.size+u.size≤cs.length∧0≤j∧j.toNat<n:=by
 obtain⟨hn,ha⟩:=h
 have h0:=(Ws hy).1
 have hlt:=(List.getElem?_eq_some_iff.1 (Ws hy).2).1
 have hl:=Qyb ha
 have hr:=Fh ha (Ws hy).2
 rw[Jf]at hr hl
 refine⟨hr,?_,h0,by omega⟩
 rw[hl]
 have:=QD u.size (show j.toNat+1≤xs.length by omega)
 rw[Nat.add_mul]at this
 omega
theorem Qnw{R:Type}{r:R}:∀{ps:List PS} {x:AV} {k:AV→Option R},Qo5 ps x k=some r →
  ∃y,k y=some r∧∀{β:Nat→Nat} {ρ:Nat→Value} {ok:Ok} {w:World} {cs:List Value},cr β ρ ok w false x cs→cr β ρ ok w false y ((cs.drop (Yi ps)).take y.size)∧Yi ps+y.size≤cs.length
 | [],x,k,h=>by
  refine⟨x,h,fun {β ρ ok w cs} hc=>?_⟩
  have:=Ux hc
  grind [Yi,List.take_of_length_le]
 | .f i off::ps,x,k,h=>by
  simp only[Qo5]at h
  split at h
  ·rename_i y hy
   obtain⟨z,hz,hk⟩:=Qnw h
   refine⟨z,hz,fun {β ρ ok w cs} hc=>?_⟩
   obtain⟨h1,h2⟩:=Qfs hy hc
   grind [Ux,Yi,Q6w]
  ·cases h
 | .i j sz::ps,x,k,h=>by
  simp only[Qo5]at h
  split at h
  ·rename_i n u xs
   obtain⟨hb,h1⟩:=bvT h
   have kg:=Nat.eq_of_beq_eq_true hb
   subst kg
   obtain⟨y,hy,h2⟩:=Yj h1
   obtain⟨z,hz,hk⟩:=Qnw h2
   refine⟨z,hz,fun {β ρ ok w cs} hc=>?_⟩
   obtain⟨h1,h2,_⟩:=Qvy hc hy
   have k8:cr β ρ ok w false (.d u y) ((cs.drop (j.toNat*u.size)).take u.size):=h1
   grind [Ux,Q6w,Yi,PS.off]
  ·cases h
theorem Qvz{R:Type}{r:R}{M:List (Nat×Ob)}{v:AV}:∀{ps:List PS} {x:AV} {k:AV→Option R},Qml M ps x v k=some r →
  ∃x',k x'=some r∧∀{β:Nat→Nat} {ρ:Nat→Value} {ok:Ok} {w:World} {cs ds:List Value},(∀id o,Qe M id=some o→(Q0 β ρ id o).p ok w)→cr β ρ ok w false v ds→cr β ρ ok w false x cs →
   cr β ρ ok w false x' (cs.take (Yi ps)++ds++cs.drop (Yi ps+ds.length))∧Yi ps+ds.length≤cs.length
 | [],x,k,h=>by
  simp only[Qml]at h
  obtain⟨hb,h⟩:=bvT h
  refine⟨v,h,fun {β ρ ok w cs ds} _ hv hc=>?_⟩
  have:Qmk [] x v=some v:=by simp only[Qmk,hb,cond_true]
  grind [Sr]
 | .f i off::ps,x,k,h=>by
  simp only[Qml]at h
  split at h
  ·rename_i y hy
   obtain⟨z,hz,hk⟩:=Qvz h
   split at hz
   ·rename_i x' wq
    refine⟨x',hz,fun {β ρ ok w cs ds} hM hv hc=>?_⟩
    obtain⟨h1,h2⟩:=Qfs hy hc
    have hl:=Ux h1
    obtain⟨h3,h4⟩:=hk hM hv h1
    rw[hl]at h4
    obtain⟨h5,h6⟩:=Sr h3 wq hc
    have hlen:(((cs.drop (Yi [PS.f i off])).take y.size).take (Yi ps)++ds++((cs.drop (Yi [PS.f i off])).take y.size).drop (Yi ps+ds.length)).length=y.size:=by
     grind
    rw[hlen,Jd6 h4]at h5
    have e:Yi (PS.f i off::ps)=Yi [PS.f i off]+Yi ps:=by simp[Yi]
    rw[e]
    grind
   ·cases hz
  ·cases h
 | .i j sz::ps,x,k,h=>by
  simp only[Qml]at h
  split at h
  ·rename_i n u xs
   obtain⟨hb,h1⟩:=bvT h
   have kg:=Nat.eq_of_beq_eq_true hb
   subst kg
   obtain⟨y,hy,h2⟩:=Yj h1
   obtain⟨z,hz,hk⟩:=Qvz h2
   split at hz
   ·rename_i y' qv
    refine⟨_,hz,fun {β ρ ok w cs ds} hM hv hc=>?_⟩
    obtain⟨h1,h2,h0,hjn⟩:=Qvy hc hy
    have k8:cr β ρ ok w false (.d u y) ((cs.drop (j.toNat*u.size)).take u.size):=h1
    have hl:((cs.drop (j.toNat*u.size)).take u.size).length=u.size:=Ux k8
    obtain⟨h3,h4⟩:=hk hM hv k8
    rw[hl]at h4
    have h5:=K4 hM qv h3
    obtain⟨hn,ha⟩:=(show xs.length=n∧Ku (rt u) ok w xs cs from hc)
    have h6:=Qoq ha (i:=j.toNat) (by omega) h5
    have hlen:(((cs.drop (j.toNat*u.size)).take u.size).take (Yi ps)++ds++((cs.drop (j.toNat*u.size)).take u.size).drop (Yi ps+ds.length)).length=u.size:=by
     grind
    rw[hlen,Jf,Jd6 h4]at h6
    exact⟨⟨by simpa using hn,h6⟩,by grind [Yi,PS.off]⟩
   ·cases hz
  ·cases h
def Qjr:TypeDesc→Option (Nat×TypeId)
 | .array n e=>some (n,e)
 | _=>none
theorem Qs3{d:TypeDesc}{n:Nat}{e:TypeId}(h:Qjr d=some (n,e)):d=.array n e:=by
 unfold Qjr at h
 grind
section
variable {R:Type} (Y:TX) (S:St) (cur:Y4)
def Ji5:Op→Nat
 | .indexAddr t _ _=>match Qh Y.T t with
  | some te=>bif isSomeA (Qjr te.d)then 1 else 0
  | none=>0
 | .load _ x=>match ev S cur x with
  | some (.p _ path)=>bif Jnq path then 2 else 0
  | _=>0
 | .slice t _ _ _ none=>match Qh Y.T t with
  | some te=>bif isSomeA (Qjr te.d)then 3 else 0
  | none=>0
 | .convert _ _ x=>match ev S cur x with
  | some (.w _ _ _)=>4
  | _=>0
 | _=>0
where isSomeA {α:Type}:Option α→Bool
 | some _=>true
 | none=>false
def Qs4(op:Op)(k:AV→Option R):Option R:=match op with
 | .indexAddr t x i=>match Qh Y.T t,ev S cur x,ev S cur i with
  | some te,some v,some iv=>match Xi iv,Qjr te.d with
   | some (_,j),some (n,e)=>match Qh Y.T e,v with
    | some ee,.a (.arr m u) xs=>bif Nat.beq m n&&Nat.beq ee.size u.size then(idx xs j).bind fun y=>k (.a u y)else none
    | some ee,.p id path=>match Qe S.mem id with
     | some (.var _ c)=>Qo5 path c fun y=>match y with
      | .d (.arr m u) xs=>bif Nat.beq m n&&Nat.beq ee.size u.size then(idx xs j).bind fun _=>k (.p id (path++[.i j u.size]))else none
      | _=>none
     | _=>none
    | _,_=>none
   | _,_=>none
  | _,_,_=>none
 | .load t x=>match Qh Y.T t,ev S cur x with
  | some e,some (.p id path)=>match Qe S.mem id with
   | some (.var _ c)=>Qo5 path c fun y=>bif Nat.beq e.size y.size&&(Xu e.d==y.isAgg)&&y.isVal&&(y.isAgg||Nat.beq y.size 1)then k y else none
   | _=>none
  | _,_=>none
 | .slice t x lo hi none=>match Qh Y.T t,ev S cur x with
  | some te,some (.p id [])=>match Qjr te.d,Qe S.mem id with
   | some (n,e),some (.var _ (.d (.arr m (.int .u8)) xs))=>match Qh Y.T e,bnd S cur 0 lo,bnd S cur n hi with
    | some ee,some a,some b=>bif Nat.beq m n&&Nat.beq ee.size 1 then(slc xs a b).bind fun _=>k (.w id a (b - a))else none
    | _,_,_=>none
   | _,_=>none
  | _,_=>none
 | .convert s t x=>match Qh Y.T s,Qh Y.T t,ev S cur x with
  | some se,some te,some (.w id a n)=>match Ys se.d,te.d,Qe S.mem id with
   | some e,.string,some (.var _ (.d (.arr m (.int .u8)) xs))=>match Qh Y.T e with
    | some ⟨_,.int .u8,_,_,_⟩=>(slc xs a (a+n)).bind fun ys=>k (.d .str (Qr1 ys))
    | _=>none
   | _,_,_=>none
  | _,_,_=>none
 | _=>none
def Qho(op:Op)(k:AV→Option R):Option R:=match Ji5 Y S cur op with
 | 0=>Qjq Y S cur op k
 | _+1=>Qs4 Y S cur op k
end
section
variable {P:Program} {X:Cx} {β:Nat→Nat} {ρ:Nat→Value} {S:St} {a:Act} {w:World} {cur:Y4} {ok:Ok}
theorem cell?_of_heap{b o:Nat}{cs:List Value}{t:TypeId}(h:w.heap[b]?=some (.cells cs.toArray t (0,0))):w.cell? ⟨b,o,none⟩=cs[o]?:=by simp[World.cell?,h]
theorem Ji6{u:Ty}{n:Nat}{xs:List u.De}{v:Value}(h:Qof (rt (.arr n u)) ok w xs v){j:Int}{y:u.De}(hy:idx xs j=some y) :
  ∃b of,v=.pointer (some ⟨b,of,none⟩)∧Qof (rt u) ok w y (.pointer (some ⟨b,of+j.toNat*u.size,none⟩))∧0≤j∧j<(n:Int):=by
 obtain⟨b,of,cs,rfl,hr,hc⟩:=h
 obtain⟨h1,h2,h3,h4⟩:=Qvy hr hy
 refine⟨b,of,rfl,⟨b,_,_,rfl,h1,fun i z hz=>?_⟩,h3,by omega⟩
 have hi:=(List.getElem?_eq_some_iff.1 hz).1
 simp only[List.length_take,List.length_drop]at hi
 rw[List.getElem?_take_of_lt (by omega),JX]at hz
 have:=hc _ z hz
 rw[Nat.add_assoc]
 exact this
theorem Jd7{Y:TX}(hT:Q6 P Y.T){R:Type}{o:Oper}{op:Op}(ko:o.op=op){k:AV→Option R}{r:R}(hv:Qs4 Y S cur op k=some r):∃av,k av=some r∧Qo3 P S cur o av:=by
 unfold Qs4 at hv
 split at hv
 ·
  rename_i t x i
  split at hv
  ·rename_i te v iv ku hx hi
   split at hv
   ·rename_i ki j n e vk zh
    have kr:=Qs3 zh
    have run:∀{β:Nat→Nat} {ρ:Nat→Value} {ok:Ok} {a:Act} {w:World},Br β ρ ok S a w→Js a cur→∀{ee:TE} {b of:Nat},Qh Y.T e=some ee→a.eval x=.pointer (some ⟨b,of,none⟩)→0≤j→j<(n:Int) →
      (execOp a.eval o).run P w=.ok (.value (.pointer (some ⟨b,of+j.toNat*ee.size,none⟩))) w:=by
     intro β ρ ok a w h hc ee b of he hv h0 h1
     have xk:(underlying t).run P w=.ok (.array n e) w:=by rw[Ju hT w ku,kr]
     have p8:=h.int hc hi vk
     unfold execOp
     rw[ko]
     simp only[hv,p8]
     simp[Instr.indexAt,asIntOf,xk,Instr.sureAddr,h0,h1,J5 hT w he,Addr.add_lit]
    split at hv
    ·rename_i ee m u xs he
     obtain⟨hb,pc⟩:=bvT hv
     simp only[QQ]at hb
     have hm:=Nat.eq_of_beq_eq_true hb.1
     have kg:=Nat.eq_of_beq_eq_true hb.2
     obtain⟨y,hy,hk⟩:=Yj pc
     refine⟨_,hk,fun {β ρ ok a w} h hc=>?_⟩
     obtain⟨cs,h1,v0,rfl,hat⟩:=h.ev hc hx
     obtain⟨b,of,rfl,h2,h3,h4⟩:=Ji6 hat hy
     refine⟨[.pointer (some ⟨b,of+j.toNat*u.size,none⟩)],?_,_,rfl,h2⟩
     rw[←kg]
     exact run h hc he h1 h3 (by omega)
    ·rename_i ee id path he
     split at hv
     ·rename_i tid c ho
      obtain⟨y,hy,lg⟩:=Qnw hv
      split at hy
      ·rename_i m u xs
       obtain⟨hb,pc⟩:=bvT hy
       simp only[QQ]at hb
       have hm:=Nat.eq_of_beq_eq_true hb.1
       have kg:=Nat.eq_of_beq_eq_true hb.2
       obtain⟨y,qv,hk⟩:=Yj pc
       refine⟨_,hk,fun {β ρ ok a w} h hc=>?_⟩
       obtain⟨cs,h1,h2⟩:=h.ev hc hx
       have zb:cs=_:=h2
       subst zb
       obtain⟨cs0,hh,tt⟩:=h.2 _ _ ho
       obtain⟨q1,q2⟩:=lg tt
       obtain⟨_,_,h3,h4⟩:=Qvy (show(rt (.arr m u)).rep ok w xs _ from q1) qv
       refine⟨[.pointer (some ⟨β id,Yi (path++[PS.i j u.size]),none⟩)],?_,rfl⟩
       have:=run h hc he h1 h3 (by omega)
       rw[this,kg,No]
       simp[Yi,PS.off,AV.val,AV.isAgg]
      ·cases hy
     ·cases hv
    ·cases hv
   ·cases hv
  ·cases hv
 ·
  rename_i t x
  split at hv
  ·rename_i e id path he hx
   split at hv
   ·rename_i tid c ho
    obtain⟨y,hy,lg⟩:=Qnw hv
    obtain⟨hb,hk⟩:=bvT hy
    simp only[QQ]at hb
    obtain⟨⟨⟨b1,b2⟩,b3⟩,b4⟩:=hb
    have b1:=Nat.eq_of_beq_eq_true b1
    have b2:=bEq b2
    refine⟨_,hk,fun {β ρ ok a w} h hc=>?_⟩
    obtain⟨cs,h1,h2⟩:=h.ev hc hx
    have zb:cs=_:=h2
    subst zb
    obtain⟨cs0,hh,tt⟩:=h.2 _ _ ho
    obtain⟨q1,q2⟩:=lg tt
    refine⟨_,?_,q1⟩
    have k8:a.eval x=.pointer (some ⟨β id,Yi path,none⟩):=h1
    have hl:=Ux q1
    unfold execOp
    rw[ko]
    simp only[k8,Sem.run_bind]
    have:=Fi (w:=w) hT he (b:=β id) (o:=Yi path) (y:=y) (cs:=(cs0.drop (Yi path)).take y.size) (by rw[hl]; exact b1) b2 (fun hf=>by
     rw[hl]
     rw[hf]at b4
     simp only[ZI]at b4
     exact Nat.eq_of_beq_eq_true b4) (fun i z hz=>by
     have hi:=(List.getElem?_eq_some_iff.1 hz).1
     rw[hl]at hi
     rw[List.getElem?_take_of_lt hi,JX]at hz
     rw[cell?_of_heap hh]
     simpa using hz)
    rw[this]
    rfl
   ·cases hv
  ·cases hv
 ·
  rename_i t x lo hi
  split at hv
  ·rename_i te id ku hx
   split at hv
   ·rename_i n e tid m xs zh ho
    have kr:=Qs3 zh
    split at hv
    ·rename_i ee na nb he mw su
     obtain⟨hb,pc⟩:=bvT hv
     simp only[QQ]at hb
     have hm:=Nat.eq_of_beq_eq_true hb.1
     have kg:=Nat.eq_of_beq_eq_true hb.2
     obtain⟨ys,zu,hk⟩:=Yj pc
     refine⟨_,hk,fun {β ρ ok a w} h hc=>?_⟩
     obtain⟨cs,h1,h2⟩:=h.ev hc hx
     have zb:cs=_:=h2
     subst zb
     obtain⟨cs0,hh,tt⟩:=h.2 _ _ ho
     have xp:xs.length=m:=(show xs.length=m∧_ from tt).1
     obtain⟨s1,s2,s3,s4,s5⟩:=Gd.slc_ok zu
     have hbd:=Np (P:=P) (w:=w) (isS:=false) (len:=n) (cap:=n) (h.bnd hc mw) (h.bnd hc su) s1 s2 (by omega) (QY _)
     have xk:(underlying t).run P w=.ok (.array n e) w:=by rw[Ju hT w ku,kr]
     have k8:a.eval x=.pointer (some ⟨β id,0,none⟩):=h1
     refine⟨[.slice (some (if n=na.toNat then⟨β id,0,none⟩else⟨β id,na.toNat,none⟩)) (nb - na).toNat (n - na.toNat)],?_,_,_,rfl,fun zn=>?_⟩
     ·unfold execOp
      rw[ko]
      simp only[k8]
      simp[Instr.sliceAt,xk,Instr.sureAddr,hbd,J5 hT w he,kg,Addr.add_lit,AV.val,AV.isAgg]
      omega
     grind
    ·cases hv
   ·cases hv
  ·cases hv
 ·
  rename_i s t x
  split at hv
  ·rename_i se te id na n zh ku hx
   split at hv
   ·rename_i e tid m xs wi kr ho
    split at hv
    ·rename_i _ _ _ _ he
     obtain⟨ys,zu,hk⟩:=Yj hv
     refine⟨_,hk,fun {β ρ ok a w} h hc=>⟨[Yg (Qr1 ys)],?_,rfl⟩⟩
     obtain⟨cs,h1,A,c,rfl,hA⟩:=h.ev hc hx
     obtain⟨cs0,hh,tt⟩:=h.2 _ _ ho
     obtain⟨xp,zr⟩:=(show xs.length=m∧Ku (Si .u8) ok w xs cs0 from tt)
     obtain⟨s1,s2,s3,s4,s5⟩:=Gd.slc_ok zu
     have hsd':se.d=.slice e:=by
      unfold Ys at wi
      grind
     have k8:a.eval x=.slice (some A) n.toNat c:=h1
     have sr:=(Jq hT zh).2; rw[hsd']at sr
     have p9:=(Jq hT ku).2; rw[kr]at p9
     have my:=(Jq hT he).2
     have we:=run_convert_bytes_string (P:=P) w s t e (some A) n.toNat c sr my p9
     have sw:(loadCells A n.toNat).run P w=.ok (ys.map (Value.int .u8)).toArray w:=by
      have va:ys.length=n.toNat:=by rw[s5]; congr 1; omega
      have:=run_loadCells_list (P:=P) w A (ys.map (Value.int .u8)) (fun i v hi=>by
       rw[List.getElem?_map]at hi
       obtain⟨y,hy,rfl⟩:=XW.1 hi
       have p8:=(List.getElem?_eq_some_iff.1 hy).1
       rw[hA (by omega),Hi]
       rw[s4,List.getElem?_take_of_lt (by omega),JX]at hy
       have hr:=Fh zr hy
       have hr':(cs0.drop ((na.toNat+i)*1)).take 1=[.int .u8 y]:=hr
       rw[ZJ]at hr'
       rw[cell?_of_heap hh]
       have:=congrArg (fun l=>l[0]?) hr'
       grind)
      grind
     have ka:=run_bytesToString w A n.toNat c ys sw
     have hf:=Qom ys []
     simp only[QU]at hf
     unfold execOp
     rw[ko]
     simp only[k8]
     simp only[Sem.run_bind,we,ka]
     show Result.andThen (.ok (Value.string (ys.foldl _ (ByteArray.mk ([]:List UInt8).toArray))) w) _=_
     rw[hf]; rfl
    ·cases hv
   ·cases hv
  ·cases hv
 ·cases hv
theorem Qy7{Y:TX}(hT:Q6 P Y.T){R:Type}{o:Oper}{op:Op}(ko:o.op=op){k:AV→Option R}{r:R}(hv:Qho Y S cur op k=some r):∃av,k av=some r∧Qo3 P S cur o av:=by
 grind [Qho,Q9z,Jd7]
end
end Gx
