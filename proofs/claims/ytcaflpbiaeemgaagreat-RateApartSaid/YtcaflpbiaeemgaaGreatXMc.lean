/- Maps whose values are objects of their own: what lies in them. -/
import Derived.Test.YtcaflpbiaeemgaaGreatXMa
set_option linter.unusedVariables false
set_option linter.unusedSimpArgs false
set_option linter.constructorNameAsVariable false
namespace Gx
open Go Go.RowKit Gd
section
variable {k v:Ty}
theorem Qrz(hk:Qh9 k=true){key:k.De}:∀{xs:List (k.De×v.De)},key∉xs.map Prod.fst→Qz key xs=none
 | [],_=>rfl
 | x::xs,h=>by
  simp only[JQ,QX,not_or]at h;simp only[Qz];cases he:eqK k key x.1 with
  | true=>grind [absurd,Gk]
  | false=>exact Qrz hk h.2
theorem Q22(hk:Qh9 k=true){key:k.De}:∀{xs:List (k.De×v.De)},Qz key xs=none→key∉xs.map Prod.fst
 | [],_=>by simp
 | x::xs,h=>by
  simp only[Qz]at h;cases he:eqK k key x.1 with
  | true=>rw[he]at h; cases h
  | false =>
   rw[he]at h;simp only[JQ,QX,not_or];exact⟨fun e'=>(by rw[e',(Gk hk).2 rfl]at he; cases he),Q22 hk h⟩
end
section
variable {k:Ty} {c:CK} {ok:Ok} {w:World} {hv:Value}
theorem Jbs{κ:Type}{h2:Option κ}{hv2:Value}:∀{xs:List (κ×c.ty.De)} {ys:List (κ×Value)} {vs:List Value},Ny c none hv ok w xs ys vs→(∀x∈xs,h2≠some x.1)→Ny c h2 hv2 ok w xs ys vs
 | [],[],[],h,_=>h
 | x::xs,y::ys,s::vs,⟨h1,h3,h4⟩,hn=>⟨h1,.inr ⟨hn x (.head _),by
   grind⟩,Jbs h4 fun y hy=>hn y (.tail _ hy)⟩
 | [],[],_::_,h,_=>h.elim
 | [],_::_,_,h,_=>h.elim
 | _::_,[],_,h,_=>h.elim
 | _::_,_::_,[],h,_=>h.elim
theorem Qr0{κ:Type}{hole:Option κ}{hv2:Value}:∀{xs:List (κ×c.ty.De)} {ys:List (κ×Value)} {vs:List Value},Ny c hole hv ok w xs ys vs→(∀kh,hole=some kh→kh∉xs.map Prod.fst)→Ny c none hv2 ok w xs ys vs
 | [],[],[],h,_=>h
 | x::xs,y::ys,s::vs,⟨h1,h3,h4⟩,hn=>⟨h1,.inr ⟨by simp,by
   grind⟩,Qr0 h4 fun kh e hm=>hn kh e (by grind)⟩
 | [],[],_::_,h,_=>h.elim
 | [],_::_,_,h,_=>h.elim
 | _::_,[],_,h,_=>h.elim
 | _::_,_::_,[],h,_=>h.elim
theorem Qr1(key:k.De){hole:Option k.De}:∀{xs:List (k.De×c.ty.De)} {ys:List (k.De×Value)} {vs:List Value},Ny c hole hv ok w xs ys vs →
  (Qz key xs=none∧Qz key ys=none)∨∃x y,Qz key xs=some x∧Qz key ys=some y∧(∃k1,eqK k key k1=true∧k1∈xs.map Prod.fst∧(hole=some k1→zal y hv))
 | [],[],[],_=>.inl ⟨rfl,rfl⟩
 | x::xs,y::ys,s::vs,⟨h1,h3,h4⟩=>by
  simp only[Qz,←h1];cases he:eqK k key x.1 with
  | true =>
   grind
  | false =>
   rcases Qr1 key h4 with q | ⟨x',y',q1,q2,k1,q3,q4,q5⟩
   ·exact .inl q
   grind
 | [],[],_::_,h=>h.elim
 | [],_::_,_,h=>h.elim
 | _::_,[],_,h=>h.elim
 | _::_,_::_,[],h=>h.elim
theorem Qr2(hk:Qh9 k=true){key:k.De} :
  ∀{xs:List (k.De×c.ty.De)} {ys:List (k.De×Value)} {vs:List Value},Ny c none hv ok w xs ys vs→(xs.map Prod.fst).Nodup→Qpq vs →
  (Qz key xs=none∧∀sv,Ny c (some key) sv ok w xs ys vs) ∨
  ∃vs' sv x,Qz key xs=some x∧Ny c (some key) sv ok w xs ys vs'∧sv∈vs∧(∀s∈vs',s=undef∨s∈vs)∧Qpq vs'∧(∀s∈vs',∀g,Wa s=some g→Wa sv≠some g)∧(Qh8 c sv x).p ok w
 | [],[],[],h,_,_=>.inl ⟨rfl,fun _=>trivial⟩
 | x::xs,y::ys,s::vs,⟨h1,h3,h4⟩,hnd,hdp=>by
  have hnd':=JJ.1 (by simpa using hnd:(x.1::xs.map Prod.fst).Nodup);have hdp':=List.pairwise_cons.1 hdp
  obtain⟨q1,q2,q3⟩:none≠some x.1∧zal y.2 s∧(Qh8 c s x.2).p ok w:=by
   grind
  simp only[Qz];cases he:eqK k key x.1 with
  | true =>
   have hkx:=(Gk hk).1 he;subst hkx;refine .inr ⟨undef::vs,s,x.2,rfl,⟨h1,.inl ⟨rfl,rfl,q2⟩,Jbs h4 fun y hy e'=>?_⟩,.head _,?_,?_,?_,q3⟩
   ·grind
   ·grind
   ·exact List.pairwise_cons.2 ⟨fun b hb g hg=>(by cases hg),hdp'.2⟩
   ·intro t ht g hg hg2
    rcases QX.1 ht with rfl | ht
    ·cases hg
    grind
  | false =>
   have hne:some key≠some x.1:=fun e'=>by injection e' with e'; rw[e',(Gk hk).2 rfl]at he; cases he
   rcases Qr2 hk h4 hnd'.2 hdp'.2 with⟨r1,r2⟩ | ⟨vs',sv,x',r1,r2,r3,r4,r5,r6,r7⟩
   ·exact .inl ⟨r1,fun sv=>⟨h1,.inr ⟨hne,q2,q3⟩,r2 sv⟩⟩
   ·refine .inr ⟨s::vs',sv,x',r1,⟨h1,.inr ⟨hne,q2,q3⟩,r2⟩,.tail _ r3,?_,?_,?_,r7⟩
    ·grind
    ·refine List.pairwise_cons.2 ⟨fun b hb g hg=>?_,r5⟩
     rcases r4 b hb with rfl | hb
     ·intro e'; cases e'
     grind
    grind
 | [],[],_::_,h,_,_=>h.elim
 | [],_::_,_,h,_,_=>h.elim
 | _::_,[],_,h,_,_=>h.elim
 | _::_,_::_,[],h,_,_=>h.elim
theorem Jbt(hk:Qh9 k=true){key:k.De}{x0:c.ty.De}{nv sv:Value}(hz:zal nv sv)(hp:(Qh8 c sv x0).p ok w){hole:Option k.De}(hh:∀kh,hole=some kh→kh=key) :
  ∀{xs:List (k.De×c.ty.De)} {ys:List (k.De×Value)} {vs:List Value},Ny c hole hv ok w xs ys vs→(xs.map Prod.fst).Nodup→Qpq vs→(∀s∈vs,∀g,Wa s=some g→Wa sv≠some g) →
  ∃vs',Ny c none undef ok w (Va key x0 xs) (Va key nv ys) vs'∧Qpq vs'∧∀s∈vs',s=sv∨s∈vs
 | [],[],[],h,_,_,_=>⟨[sv],⟨rfl,.inr ⟨by simp,hz,hp⟩,trivial⟩,List.pairwise_cons.2 ⟨by simp,.nil⟩,by simp⟩
 | x::xs,y::ys,s::vs,⟨h1,h3,h4⟩,hnd,hdp,hds=>by
  have hnd':=JJ.1 (by simpa using hnd:(x.1::xs.map Prod.fst).Nodup);have hdp':=List.pairwise_cons.1 hdp;simp only[Va,←h1];cases he:eqK k key x.1 with
  | true =>
   have hkx:=(Gk hk).1 he;refine⟨sv::vs,⟨rfl,.inr ⟨by simp,hz,hp⟩,Qr0 h4 fun kh e hm=>?_⟩,List.pairwise_cons.2 ⟨fun b hb g hg hg2=>hds b (.tail _ hb) g hg2 hg,hdp'.2⟩,fun t ht=>?_⟩
   ·rw[hh kh e,hkx]at hm; exact hnd'.1 hm
   grind
  | false =>
   have h3':zal y.2 s∧(Qh8 c s x.2).p ok w:=by
    rcases h3 with⟨q,_⟩ | ⟨_,q⟩
    ·have:=hh _ q; rw[this,(Gk hk).2 rfl]at he; cases he
    ·exact q
   obtain⟨vs',r1,r2,r3⟩:=Jbt hk hz hp hh h4 hnd'.2 hdp'.2 (fun t ht=>hds t (.tail _ ht));refine⟨s::vs',⟨h1,.inr ⟨by simp,h3'⟩,r1⟩,List.pairwise_cons.2 ⟨fun b hb g hg=>?_,r2⟩,fun t ht=>?_⟩
   ·grind
   grind
 | [],[],_::_,h,_,_,_=>h.elim
 | [],_::_,_,h,_,_,_=>h.elim
 | _::_,[],_,h,_,_,_=>h.elim
 | _::_,_::_,[],h,_,_,_=>h.elim
theorem Qxm(hk:Qh9 k=true){key:k.De}{x0:c.ty.De}(hp:(Qh8 c hv x0).p ok w) :
  ∀{xs:List (k.De×c.ty.De)} {ys:List (k.De×Value)} {vs:List Value},Ny c (some key) hv ok w xs ys vs→key∈xs.map Prod.fst→(xs.map Prod.fst).Nodup→Qpq vs→(∀s∈vs,∀g,Wa s=some g→Wa hv≠some g) →
  ∃vs',Ny c none undef ok w (Va key x0 xs) ys vs'∧Qpq vs'∧∀s∈vs',s=hv∨s∈vs
 | [],[],[],_,hi,_,_,_=>by cases hi
 | x::xs,y::ys,s::vs,⟨h1,h3,h4⟩,hi,hnd,hdp,hds=>by
  have hnd':=JJ.1 (by simpa using hnd:(x.1::xs.map Prod.fst).Nodup);have hdp':=List.pairwise_cons.1 hdp;simp only[Va];cases he:eqK k key x.1 with
  | true =>
   have hkx:=(Gk hk).1 he;subst hkx
   have hz:zal y.2 hv:=by
    grind
   refine⟨hv::vs,⟨h1,.inr ⟨by simp,hz,hp⟩,Qr0 h4 fun kh e hm=>?_⟩,List.pairwise_cons.2 ⟨fun b hb g hg hg2=>hds b (.tail _ hb) g hg2 hg,hdp'.2⟩,fun t ht=>?_⟩
   ·grind
   grind
  | false =>
   have hne:key≠x.1:=fun e=>by rw[e,(Gk hk).2 rfl]at he; cases he
   have hi':key∈xs.map Prod.fst:=by
    grind
   have h3':zal y.2 s∧(Qh8 c s x.2).p ok w:=by
    grind
   obtain⟨vs',r1,r2,r3⟩:=Qxm hk hp h4 hi' hnd'.2 hdp'.2 (fun t ht=>hds t (.tail _ ht));refine⟨s::vs',⟨h1,.inr ⟨by simp,h3'⟩,r1⟩,List.pairwise_cons.2 ⟨fun b hb g hg=>?_,r2⟩,fun t ht=>?_⟩
   ·grind
   grind
 | [],[],_::_,h,_,_,_,_=>h.elim
 | [],_::_,_,h,_,_,_,_=>h.elim
 | _::_,[],_,h,_,_,_,_=>h.elim
 | _::_,_::_,[],h,_,_,_,_=>h.elim
end
end Gx

/- Operations that may fail, without a change of memory. -/
namespace Gx
open Go Go.RowKit Gd
def Jk4:Operand→Bool
 | .const _=>true
 | _=>false
def Jh6:BinOp→Operand→Nat
 | .quo,y=>bif Jk4 y then 0 else 1
 | .rem,y=>bif Jk4 y then 0 else 2
 | .shl,_=>3
 | .shr,_=>4
 | .add,_=>5
 | _,_=>0
def Qn2:AV→Option Str
 | .d .str l=>some l
 | _=>none
def Jtj(M:List (Nat×Ob)):AV→Option (Σ t:Ty,List t.De)
 | .d (.sl e) xs=>some ⟨e,xs⟩
 | .s id=>match Qk M id with
  | some (.tail _ t xs)=>some ⟨t,xs⟩
  | _=>none
 | _=>none
def bnd(S:St)(cur:V5)(dflt:Int):Option Operand→Option Int
 | none=>some dflt
 | some x=>match ev S cur x with
  | some v=>match G9 v with
   | some (_,n)=>some n
   | none=>none
  | none=>none
def chk(b:Bool):Option Unit:=bif b then some ()else none
section
variable {R:Type} (Y:TX) (S:St) (cur:V5)
def tot(op:Op)(k:AV→Option R):Option R:=match Qpy Y S cur op with
 | some av=>k av
 | none=>none
def Jpa:Int→Option Nat
 | .ofNat n=>some n
 | .negSucc _=>none
theorem Q6t{i:Int}{n:Nat}(h:Jpa i=some n):i=(n:Int):=by
 cases i with
 | ofNat m=>grind [Jpa,Option.some.injEq]
 | negSucc m=>cases h
def Qr3(op:Op)(k:AV→Option R):Option R :=
 match op with
 | .binOp b t x y yt=>match Jh6 b y with
  | 0=>tot Y S cur (.binOp b t x y yt) k
  | 5=>match ev S cur x,ev S cur y with
   | some u,some v=>match Qn2 u,Qn2 v with
    | some p,some q=>(Jy7 p q).bind fun s=>k (.d .str s)
    | _,_=>tot Y S cur (.binOp b t x y yt) k
   | _,_=>none
  | n=>match ev S cur x,ev S cur y with
   | some u,some v=>match G9 u,G9 v with
    | some (kk,p),some (k2,q)=>match n with
     | 1=>bif Qdz kk k2 then(Tp kk p q).bind fun z=>k (.d (.int kk) z)else none
     | 2=>bif Qdz kk k2 then(Qrq p q).bind fun z=>k (.d (.int kk) z)else none
     | 3=>(Jow kk p q).bind fun z=>k (.d (.int kk) z)
     | 4=>(Ja9 kk p q).bind fun z=>k (.d (.int kk) z)
     | _=>none
    | _,_=>none
   | _,_=>none
 | .indexAddr t x i=>match Qo Y.T t,ev S cur x,ev S cur i with
  | some te,some v,some iv=>match G9 iv,Vj te.d with
   | some (_,j),some e=>match Qo Y.T e with
    | some ee=>match v with
     | .d (.sl u) xs=>bif Nat.beq ee.size u.size then(idx xs j).bind fun y=>k (.a u y)else none
     | .s id=>match Qk S.mem id with
      | some (.row _ u xs)=>bif Nat.beq ee.size u.size&&Nat.ble 1 u.size then(idx xs j).bind fun _=>k (.e id [.i j u.size])else none
      | some (.tail _ u xs)=>bif Nat.beq ee.size u.size then(idx xs j).bind fun y=>k (.a u y)else none
      | _=>none
     | .w id j0 n=>match Jpa j,Jpa j0,Jpa n with
      | some a,some a0,some nn=>bif Nat.beq ee.size 1&&Nat.blt a nn then k (.p id [.f (a0+a) (a0+a)])else none
      | _,_,_=>none
     | _=>none
    | none=>none
   | _,_=>none
  | _,_,_=>none
 | .index t x i=>match Qo Y.T t,ev S cur x,ev S cur i with
  | some te,some v,some iv=>match G9 iv,Qn2 v,te.d with
   | some (_,j),some l,.string=>(Nv l j).bind fun c=>k (.d (.int .u8) c)
   | some (_,j),none,.array m e=>match v,Qo Y.T e with
    | .d (.arr m' u) xs,some ee=>bif Nat.beq m m'&&Nat.beq ee.size u.size&&(Hk ee.d==u.agg)then(idx xs j).bind fun y=>k (.d u y)else none
    | _,_=>none
   | _,_,_=>none
  | _,_,_=>none
 | .load t x=>match Qo Y.T t,ev S cur x with
  | some e,some (.e id (.i j sz::ps))=>match Qk S.mem id with
   | some (.row _ u xs)=>bif Nat.beq sz u.size&&Nat.ble 1 u.size then(idx xs j).bind fun y=>match nav ps (.d u y)with
     | some zv=>bif Nat.beq e.size zv.size&&(Hk e.d==zv.isAgg)&&zv.isVal&&(zv.isAgg||Nat.beq zv.size 1)then k zv else none
     | none=>none
    else none
   | _=>none
  | _,_=>tot Y S cur (.load t x) k
 | .slice t x lo hi none=>match Qo Y.T t,ev S cur x with
  | some te,some v=>match te.d with
   | .string=>match Qn2 v with
    | some l=>match bnd S cur 0 lo,bnd S cur l.length hi with
     | some a,some b=>(slc l a b).bind fun s=>k (.d .str s)
     | _,_=>none
    | none=>none
   | .slice e=>match Qo Y.T e,Jtj S.mem v with
    | some ee,some ⟨u,xs⟩=>bif Nat.beq ee.size u.size then match bnd S cur 0 lo,bnd S cur xs.length hi with
      | some a,some b=>(slc xs a b).bind fun ys=>k (.d (.sl u) ys)
      | _,_=>none
     else none
    | _,_=>none
   | _=>none
  | _,_=>none
 | .slice t x lo (some hi) (some mx)=>match Qo Y.T t,ev S cur x,ev S cur hi,ev S cur mx with
  | some te,some v,some hv,some mv=>match Vj te.d,G9 hv,G9 mv with
   | some e,some (_,b),some (_,m)=>match Qo Y.T e,Jtj S.mem v,bnd S cur 0 lo with
    | some ee,some ⟨u,xs⟩,some a=>bif Nat.beq ee.size u.size then(chk (decide (b≤m)&&decide (m≤(xs.length:Int)))).bind fun _=>(slc xs a b).bind fun ys=>k (.d (.sl u) ys)else none
    | _,_,_=>none
   | _,_,_=>none
  | _,_,_,_=>none
 | .convert s t x=>match Qo Y.T s,Qo Y.T t with
  | some se,some te=>match Vj se.d,te.d with
   | some e,.string=>match Qo Y.T e,ev S cur x with
    | some ⟨_,.int .u8,_,_,_⟩,some v=>match asD S.mem v (.sl (.int .u8))with
     | some xs=>k (.d .str (Q1d xs))
     | none=>none
    | _,_=>none
   | _,_=>tot Y S cur (.convert s t x) k
  | _,_=>none
 | op=>tot Y S cur op k
end
section
variable {P:Program} {X:Cx} {β:Nat→Nat} {ρ:Nat→Value} {S:St} {a:Act} {w:World} {cur:V5} {ok:Ok}
theorem Jpb{x:AV}{l:Str}(h:Qn2 x=some l):x=.d .str l:=by
 unfold Qn2 at h;grind
theorem Qd5{b:BinOp}{y:Operand}{n:Nat}(h:Jh6 b y=n):n=0∨(n=1∧b=.quo)∨(n=2∧b=.rem)∨(n=3∧b=.shl)∨(n=4∧b=.shr)∨(n=5∧b=.add):=by
 subst h;cases b<;>simp only[Jh6]<;>first | (simp; done) | grind
theorem N0.int(h:N0 β ρ ok S a w)(hc:J6 a cur){x:Operand}{v:AV}{k:IntKind}{n:Int}(hx:Gx.ev S cur x=some v)(hi:G9 v=some (k,n)):a.eval x=.int k n:=by
 have:=Pa hi;subst this;obtain⟨cs,h1,h2⟩:=h.ev hc hx;have h2':cs=_:=h2;subst h2';exact h1
theorem N0.str(h:N0 β ρ ok S a w)(hc:J6 a cur){x:Operand}{v:AV}{l:Str}(hx:Gx.ev S cur x=some v)(hi:Qn2 v=some l):a.eval x=Yw l:=by
 have:=Jpb hi;subst this;obtain⟨cs,h1,h2⟩:=h.ev hc hx;have h2':cs=_:=h2;subst h2';exact h1
theorem Qwc(h:N0 β ρ ok S a w)(hc:J6 a cur){x:Operand}{v:AV}{u:Ty}{xs:List u.De}(hx:ev S cur x=some v)(hi:Jtj S.mem v=some ⟨u,xs⟩) :
  isV (rSl (rt u)) (ok) w xs (a.eval x):=by
 unfold Jtj at hi;obtain⟨cs,h1,h2⟩:=h.ev hc hx;split at hi
 ·simp at hi; obtain⟨rfl,hi⟩:=hi
  obtain rfl:=eq_of_heq hi;have:=Jo5 h2;rw[←h1]at this;exact this
 ·rename_i id
  split at hi
  ·rename_i e t ys ho
   simp at hi; obtain⟨rfl,hi⟩:=hi;obtain rfl:=eq_of_heq hi;obtain⟨⟨v0,rfl,hz0⟩,_⟩:=h2;have h1':a.eval x=v0:=h1;rw[h1'];exact Q6s hz0 (h.mm _ _ ho).1
  ·cases hi
 ·cases hi
theorem N0.bnd(h:N0 β ρ ok S a w)(hc:J6 a cur){dflt n:Int}{x:Option Operand}(hb:Gx.bnd S cur dflt x=some n):(x=none∧n=dflt)∨∃y k,x=some y∧a.eval y=.int k n:=by
 unfold Gx.bnd at hb;split at hb
 ·grind
 ·rename_i y
  split at hb
  ·rename_i v hv
   split at hb
   ·rename_i k m hi
    simp at hb; subst hb;exact .inr ⟨y,k,rfl,h.int hc hv hi⟩
   ·cases hb
  ·cases hb
theorem Qt0{lo:Option Operand}{hi mx:Operand}{k1 k2:IntKind}{l h' m:Int}{len cap:Nat}(hlo:(lo=none∧l=0)∨∃y k,lo=some y∧a.eval y=.int k l)(hhi:a.eval hi=.int k1 h')(hmx:a.eval mx=.int k2 m)
  (h0:0≤l) (h1:l≤h') (h2:h'≤m) (h3:m≤cap) :
  (Instr.sliceBounds true len cap (lo.map a.eval) ((some hi).map a.eval) ((some mx).map a.eval)).run P w=.ok (l.toNat,h'.toNat,m.toNat) w:=by
 unfold Instr.sliceBounds;have s1:∀{k:IntKind} {i:Int} {y:Nat} {code:BoundsCode},0≤i→i≤y→(Instr.sliceBound (.int k i) y code).run P w=.ok i.toNat w:=fun h0 h1=>Qhk h0 h1;rcases hlo with⟨rfl,rfl⟩ | ⟨yl,kl,rfl,hl⟩
 ·simp only[XJ,Option.map_none,hhi,hmx,Sem.run_bind,if_true]
  rw[s1 (by omega) h3];simp only[Result.andThen_ok];rw[s1 (by omega) (by omega)];simp
 ·simp only[XJ,hhi,hmx,hl,Sem.run_bind,if_true]
  rw[s1 (by omega) h3];simp only[Result.andThen_ok];rw[s1 (by omega) (by omega)];simp only[Result.andThen_ok];rw[s1 h0 (by omega)];simp
theorem Qb0{isS:Bool}{lo hi:Option Operand}{l h':Int}{len cap:Nat}(hlo:(lo=none∧l=0)∨∃y k,lo=some y∧a.eval y=.int k l)(hhi:(hi=none∧h'=len)∨∃y k,hi=some y∧a.eval y=.int k h')
  (h0:0≤l) (h1:l≤h') (h2:h'≤len) (h3:len≤cap) :
  (Instr.sliceBounds isS len cap (lo.map a.eval) (hi.map a.eval) none).run P w=.ok (l.toNat,h'.toNat,cap) w:=by
 unfold Instr.sliceBounds;have s1:∀{k:IntKind} {i:Int} {y:Nat} {code:BoundsCode},0≤i→i≤y→(Instr.sliceBound (.int k i) y code).run P w=.ok i.toNat w:=fun h0 h1=>Qhk h0 h1;rcases hhi with⟨rfl,rfl⟩ | ⟨yh,kh,rfl,hh⟩
 ·rcases hlo with⟨rfl,rfl⟩ | ⟨yl,kl,rfl,hl⟩
  ·simp
  simp_all
 ·have e1:∀c:BoundsCode,(Instr.sliceBound (.int kh h') cap c).run P w=.ok h'.toNat w:=fun c=>s1 (by omega) (by omega)
  rcases hlo with⟨rfl,rfl⟩ | ⟨yl,kl,rfl,hl⟩
  ·simp_all
  ·simp only[XJ,hh,hl,Sem.run_bind,Sem.run_pure,Result.andThen_ok,e1]
   rw[s1 h0 (by omega)];simp
theorem Jzo{Y:Tab}(hT:Jg P Y){s t e:TypeId}{te ee se:TE}(ht:Qo Y t=some te)(htd:te.d=.string)(hse:Qo Y s=some se)(hsd:se.d=.slice e)(he:Qo Y e=some ee)(hed:ee.d=.int .u8)
  {xs:List Int} {v:Value} (hD:isV (rSl (Qfo .u8)) ok w xs v):(convert s t v).run P w=.ok (Yw (Q1d xs)) w:=by
 obtain⟨A,m,c,rfl,hl,hc,hn⟩:=Xv.1 hD;have hus:=(J0 hT hse).2; rw[hsd]at hus;have hut:=(J0 hT ht).2; rw[htd]at hut;have hue:=(J0 hT he).2; rw[hed]at hue;have hconv:=run_convert_bytes_string (P:=P) w s t e A m c hus hue hut
 have hrun:(Conv.bytesToString (.slice A m c)).run P w=.ok (Yw (Q1d xs)) w:=by
  cases A with
  | none =>
   have hm0:m=0:=by
    grind
   have:xs=[]:=QF (by omega);subst this;simp[Conv.bytesToString,Q1d,Yw]; rfl
  | some ad =>
   have hload:(loadCells ad m).run P w=.ok (xs.map (Value.int .u8)).toArray w:=by
    have:=run_loadCells_list (P:=P) w ad (xs.map (Value.int .u8)) (fun j v hj=>by
     rw[XA]at hj;obtain⟨y,hy,rfl⟩:=XE.1 hj;have hj':=(List.getElem?_eq_some_iff.1 hy).1;obtain⟨b,o,hA,hcs⟩:=hn (by omega);injection hA with hA
     subst hA;obtain⟨cs,hr,ha⟩:=hcs j y hy;have hcs':cs=[.int .u8 y]:=hr;subst hcs';have:=(ha 0 _ rfl).2;rw[Bl]
     grind [Qfo])
    grind
   rw[run_bytesToString w ad m c xs hload];have:=Qw6 xs [];simp only[QE]at this;show Result.ok (Value.string (xs.foldl _ (ByteArray.mk ([]:List UInt8).toArray))) w=_;rw[this]; rfl
 grind
def Qxn(P:Program)(S:St)(cur:V5)(o:Oper)(av:AV):Prop :=
 ∀{β:Nat→Nat} {ρ:Nat→Value} {ok:Ok} {a:Act} {w:World},N0 β ρ ok S a w→J6 a cur →
  ∃cs,(execOp a.eval o).run P w=.ok (.value (av.val cs)) w∧cr β ρ (ok) w false av cs
theorem Qxo{Y:TX}(hT:Jg P Y.T){R:Type}{o:Oper}{op:Op}(hop:o.op=op){k:AV→Option R}{r:R}(hv:tot Y S cur op k=some r):∃av,k av=some r∧Qxn P S cur o av:=by
 unfold tot at hv;split at hv
 ·rename_i av hav
  exact⟨av,hv,fun {β ρ ok a w} h hc=>Qp0 hT h hc (by rw[hop]; exact hav)⟩
 ·cases hv
theorem Jpc{Y:TX}(hT:Jg P Y.T){R:Type}{o:Oper}{op:Op}(hop:o.op=op){k:AV→Option R}{r:R}(hv:Qr3 Y S cur op k=some r):∃av,k av=some r∧Qxn P S cur o av:=by
 unfold Qr3 at hv;split at hv
 ·
  rename_i b t x y yt;split at hv
  ·grind [Qxo]
  ·rename_i hk
   split at hv
   ·rename_i u v hu hv'
    split at hv
    ·rename_i p q hp hq
     obtain⟨s,hs,hk'⟩:=Y0 hv;refine⟨_,hk',fun {β ρ ok a w} h hc=>⟨[Yw s],?_,rfl⟩⟩;have h1:=h.str hc hu hp;have h2:=h.str hc hv' hq
     have hb:b=.add:=by
      have:=Qd5 hk;grind
     subst hb;unfold Jy7 at hs;split at hs
     ·rename_i hle
      have hq:=(Option.some.inj hs).symm;subst hq
      have hr:(Op.stringOp .add (ByteArray.mk p.toArray) (ByteArray.mk q.toArray)).run P w=.ok (.string (ByteArray.mk (p++q).toArray)) w:=by
       rw[run_string_add_sum _ _ _ (by exact hle)];congr 2
      unfold execOp;rw[hop];simp_all [Yw,eqGuard_add,binOp_string_add,AV.val,AV.isAgg,Ty.agg]
     ·cases hs
    grind [Qxo]
   ·cases hv
  ·rename_i n hn0 hn5
   split at hv
   ·rename_i u v hu hv'
    split at hv
    ·rename_i kk p k2 q hp hq
     have hb:b≠.eql∧b≠.neq:=by
      constructor<;>(rintro rfl; exact hn0 (by rfl))
     have fin:∀z,(∀w:World,(binOp b t (.int kk p) (.int k2 q)).run P w=.ok (.int kk z) w)→Qxn P S cur o (.d (.int kk) z):=by
      intro z hz β ρ ok a w h hc;have h1:=h.int hc hu hp;have h2:=h.int hc hv' hq;refine⟨[.int kk z],?_,rfl⟩;simp_all [execOp,eqGuard,AV.val,AV.isAgg,Ty.agg]
     split at hv
     ·rename_i hk1
      obtain⟨hs,hv2⟩:=bvT hv;have:=O6 hs;subst this;obtain⟨z,hz,hk'⟩:=Y0 hv2
      have hb:b=.quo:=by
       have:=Qd5 hk1;grind
      grind [Jza]
     ·rename_i hk1
      obtain⟨hs,hv2⟩:=bvT hv;have:=O6 hs;subst this;obtain⟨z,hz,hk'⟩:=Y0 hv2
      have hb:b=.rem:=by
       have:=Qd5 hk1;grind
      grind [Jzb]
     ·rename_i hk1
      obtain⟨z,hz,hk'⟩:=Y0 hv
      have hb:b=.shl:=by
       have:=Qd5 hk1;grind
      grind [Jzd]
     ·rename_i hk1
      obtain⟨z,hz,hk'⟩:=Y0 hv
      have hb:b=.shr:=by
       have:=Qd5 hk1;grind
      grind [Jzc]
     ·cases hv
    ·cases hv
   ·cases hv
 ·
  rename_i t x i;split at hv
  ·rename_i te v iv hte hx hi
   split at hv
   ·rename_i ki j e hij hse
    have htd:te.d=.slice e:=by
     unfold Vj at hse;grind
    split at hv
    ·rename_i ee he
     have run:∀{β:Nat→Nat} {ρ:Nat→Value} {ok:Ok} {a:Act} {w:World},N0 β ρ ok S a w→J6 a cur→∀{b of m c:Nat},a.eval x=.slice (some ⟨b,of,none⟩) m c→0≤j→j<(m:Int) →
       (execOp a.eval o).run P w=.ok (.value (.pointer (some ⟨b,of+j.toNat*ee.size,none⟩))) w:=by
      intro β ρ ok a w h hc b of m c hv h0 h1;have hun:(underlying t).run P w=.ok (.slice e) w:=by rw[J7 hT w hte,htd]
      have hi':=h.int hc hi hij;unfold execOp;rw[hop];simp only[hv,hi'];simp[Instr.indexAt,asIntOf,hun,h0,h1,Yn hT w he,Addr.add_lit]
     have data:∀{u:Ty} {xs:List u.De} {y:u.De},ee.size=u.size→idx xs j=some y→(∀{β:Nat→Nat} {ρ:Nat→Value} {ok:Ok} {a:Act} {w:World},N0 β ρ ok S a w→J6 a cur→isV (rSl (rt u)) (ok) w xs (a.eval x)) →
       Qxn P S cur o (.a u y):=by
      intro u xs y hsz hy hsl β ρ ok a w h hc;have h0:=(El hy).1;obtain⟨A,c,hev,hsl'⟩:=Qrm (hsl h hc);obtain⟨b,of,rfl,hlt,hat⟩:=Js4 (Xv.1 hsl') (El hy).2;refine⟨[.pointer (some ⟨b,of+j.toNat*u.size,none⟩)],?_,_,rfl,by rw[←Jo]; exact hat⟩;rw[←hsz];exact run h hc hev h0 (by omega)
     split at hv
     ·rename_i u xs
      obtain⟨hb,hv⟩:=bvT hv;obtain⟨y,hy,hk'⟩:=Y0 hv;refine⟨_,hk',data (Nat.eq_of_beq_eq_true hb) hy fun {β ρ ok a w} h hc=>Qwc h hc hx rfl⟩
     ·rename_i id
      split at hv
      ·rename_i e' u xs ho
       obtain⟨hb,hv⟩:=bvT hv;simp only[QQ]at hb;obtain⟨y,hy,hk'⟩:=Y0 hv;refine⟨_,hk',fun {β ρ ok a w} h hc=>?_⟩;obtain⟨cs,h1,⟨v0,rfl,hz0⟩,A,m,c,hρ⟩:=h.ev hc hx;have hml:=(h.mm _ _ ho)
       obtain⟨hl,cs2,hown,hr⟩:=hml
       have hev:a.eval x=ρ id:=by
        rcases hz0 with rfl | ⟨h00,_⟩
        ·exact h1
        ·rw[h00]at hl
         have hlt:=(List.getElem?_eq_some_iff.1 (El hy).2).1;grind [Gj]
       rw[hρ]at hl hown hev;simp only[Gj]at hl hown;have h0:=(El hy).1;have hlt:=(List.getElem?_eq_some_iff.1 (El hy).2).1;rcases hown.2 with⟨hv,hm⟩ | ⟨g,cap,cu,fz,hv,_⟩
       ·omega
       ·injection hv with e1 e2 e3
        subst e1;refine⟨[.pointer (some ⟨g,0+j.toNat*ee.size,none⟩)],run h hc hev h0 (by omega),g,by rw[hρ]; rfl,?_⟩;have hsz:=Nat.eq_of_beq_eq_true hb.1;simp[Yx,PS.off,hsz]
      ·rename_i e' u xs ho
       obtain⟨hb,hv⟩:=bvT hv;obtain⟨y,hy,hk'⟩:=Y0 hv;grind [Nat.eq_of_beq_eq_true,Qwc,Jtj]
      ·cases hv
     ·rename_i id j0 nn0
      split at hv
      ·rename_i ia a0 nn hla hl0 hln
       obtain⟨hb,hv⟩:=bvT hv;simp only[QQ]at hb;have e1:=Q6t hla; have e2:=Q6t hl0; have e3:=Q6t hln;have hlt:=QV hb.2;refine⟨_,hv,fun {β ρ ok a w} h hc=>?_⟩;obtain⟨cs,h1,A,c,rfl,hA⟩:=h.ev hc hx;have hA':=hA (by rw[e3]; grind);subst hA';have hev:a.eval x=.slice (some ⟨β id,j0.toNat,none⟩) nn0.toNat c:=h1;refine⟨[.pointer (some ⟨β id,j0.toNat+j.toNat*ee.size,none⟩)],run h hc hev (by omega) (by rw[e1,e3]; grind),?_⟩;have hs1:=Nat.eq_of_beq_eq_true hb.1;show [_]=[_]
       rw[hs1,e1,e2];simp[Yx,PS.off]
      ·cases hv
     ·cases hv
    ·cases hv
   ·cases hv
  ·cases hv
 ·
  rename_i t x i;split at hv
  ·rename_i te v iv hte hx hi
   split at hv
   ·rename_i ki j l hij hl hd
    obtain⟨c,hc',hk'⟩:=Y0 hv;refine⟨_,hk',fun {β ρ ok a w} h hc=>⟨[.int .u8 c],?_,rfl⟩⟩;have h1:=h.str hc hx hl;have h2:=h.int hc hi hij;obtain⟨h0,b,hb,rfl⟩:=Jy6 hc';have hun:(underlying t).run P w=.ok .string w:=by rw[J7 hT w hte,hd]
    have hbb:(if 0≤j then(ByteArray.mk l.toArray)[j.toNat]? else none)=some b:=by
     rw[if_pos h0];have hlen:j.toNat<l.length:=(List.getElem?_eq_some_iff.1 hb).1;have h1:j.toNat<(ByteArray.mk l.toArray).size:=hlen;rw[getElem?_pos (ByteArray.mk l.toArray) j.toNat h1];have:=(List.getElem?_eq_some_iff.1 hb).2;rw[←this];rfl
    unfold execOp;rw[hop];simp only[h1,h2];simp only[Instr.index,asIntOf,Sem.run_bind,Sem.run_pure,Result.andThen_ok,hun,Yw,hbb];rfl
   ·rename_i ki j m e hij _ hd
    split at hv
    ·rename_i m' u xs ee he _
     obtain⟨hb,hv⟩:=bvT hv;obtain⟨y,hy,hk'⟩:=Y0 hv;simp only[QQ]at hb;have e1:=Nat.eq_of_beq_eq_true hb.1.1;subst e1;have hsz:=Nat.eq_of_beq_eq_true hb.1.2;have hag:=bEq hb.2;refine⟨_,hk',fun {β ρ ok a w} h hc=>?_⟩;have h2:=h.int hc hi hij;obtain⟨c1,h1,hl,hr⟩:=h.ev hc hx;have h1':a.eval x=.agg c1.toArray:=h1;have hr:Ga (rt u) ok w xs c1:=hr;obtain⟨h0,hyj⟩:=El hy;have hrep:=Ih hr hyj;rw[Jo]at hrep;have hlt:j.toNat<xs.length:=(List.getElem?_eq_some_iff.1 hyj).1;refine⟨(c1.drop (j.toNat*u.size)).take u.size,?_,hrep⟩
     have hpart:(part e c1.toArray (j.toNat*ee.size)).run P w=.ok ((AV.d u y).val ((c1.drop (j.toNat*u.size)).take u.size)) w:=by
      refine Qw2 hT w he c1 _ ?_;rw[hag,hsz];simp only[AV.val,AV.isAgg];cases hua:u.agg with
      | true=>simp
      | false =>
       have h1s:=Jta hua;have hcl:=(rt u).len hrep;rw[Jo,h1s]at hcl;rw[h1s];simp only[QG,if_false,cond_false];grind [List.getElem?_eq_none_iff,List.length_take,List.length_drop,List.getElem?_eq_some_iff,List.drop_eq_getElem_cons]
     have hun:(underlying t).run P w=.ok (.array m e) w:=by rw[J7 hT w hte,hd]
     have hso:(Go.sizeOf e).run P w=.ok ee.size w:=Yn hT w he;have hcond:0≤j∧j<(m:Int):=⟨h0,by omega⟩
     unfold execOp;rw[hop];simp only[h1',h2];simp only[Instr.index,asIntOf,Sem.run_bind,Sem.run_pure,Result.andThen_ok,hun];rw[if_pos hcond];simp_all
    ·cases hv
   ·cases hv
  ·cases hv
 ·
  rename_i t x;split at hv
  ·rename_i e id j sz ps he hx
   split at hv
   ·rename_i e' u xs ho
    obtain⟨hb,hv⟩:=bvT hv;simp only[QQ]at hb;obtain⟨y,hy,hv⟩:=Y0 hv;split at hv
    ·rename_i z0 hz
     obtain⟨hb2,hk'⟩:=bvT hv;simp only[QQ]at hb2;obtain⟨⟨⟨b1,b2⟩,b3⟩,b4⟩:=hb2;have b1:=Nat.eq_of_beq_eq_true b1;have b2:=bEq b2;refine⟨_,hk',fun {β ρ ok a w} h hc=>?_⟩;obtain⟨cs,h1,g',hg',rfl⟩:=h.ev hc hx;obtain⟨hl,cs2,hown,hr⟩:=h.2 _ _ ho;have h0:=(El hy).1;have hlt:=(List.getElem?_eq_some_iff.1 (El hy).2).1;rcases hown.2 with⟨hv,hm⟩ | ⟨g,cap,cu,fz,hv,_,hh,hfz,hle,hcm,hcs,htk⟩
     ·rw[hv]at hl; grind
     ·have hgg:g'=g:=by rw[hv]at hg'; grind [Value.ownBlock]
      subst hgg;have hsz:=Nat.eq_of_beq_eq_true hb.1;have hrs:=Jo u;have hrep:=Ih hr (El hy).2;rw[hrs]at hrep;obtain⟨h3,h4⟩:=Qn1 (β:=β) (ρ:=ρ) (x:=.d u y) hz hrep;have hlen:=Kk h3;refine⟨_,?_,h3⟩;have h1':a.eval x=.pointer (some ⟨g',Yx (PS.i j sz::ps),none⟩):=h1;have hL:((cs2.drop (j.toNat*u.size)).take u.size).length=u.size:=Kk (x:=.d u y) (show cr β ρ _ w false (.d u y) _ from hrep);unfold execOp;rw[hop];simp only[h1',Sem.run_bind]
      rw[Ii hT he (y:=z0) (cs:=(List.drop (Yx ps) (List.take u.size (List.drop (j.toNat*u.size) cs2))).take z0.size) (by rw[hlen]; exact b1) b2 (fun ha=>by
       rw[ha]at b4
       rw[hlen]; grind [Nat.eq_of_beq_eq_true]) (fun q v hq=>by
        have hjl:q<z0.size:=by
         have:=(List.getElem?_eq_some_iff.1 hq).1;omega
        rw[List.getElem?_take_of_lt hjl,JV]at hq
        grind [Yx,List.getElem?_take_of_lt,PS.off,World.cell?])]
      rfl
    ·cases hv
   ·cases hv
  grind [Qxo]
 ·
  rename_i t x lo hi;split at hv
  ·rename_i te v hte hx
   split at hv
   ·rename_i hd
    split at hv
    ·rename_i l hl
     split at hv
     ·rename_i p q hp hq
      obtain⟨s,hs,hk'⟩:=Y0 hv;refine⟨_,hk',fun {β ρ ok a w} h hc=>⟨[Yw s],?_,rfl⟩⟩;have h1:=h.str hc hx hl;obtain⟨h0,h1',h2,hys,hyl⟩:=slc_ok hs;have hun:(underlying t).run P w=.ok .string w:=by rw[J7 hT w hte,hd]
      have hb:=Qb0 (P:=P) (w:=w) (isS:=false) (cap:=l.length) (len:=l.length) (h.bnd hc hp) (h.bnd hc hq) h0 h1' (by omega) (QY _)
      have hex:(ByteArray.mk l.toArray).extract p.toNat q.toNat=ByteArray.mk s.toArray:=by
       rw[ByteArray.extract_mk,hys]; grind
      unfold execOp;rw[hop];simp only[h1];have hsz:(ByteArray.mk l.toArray).size=l.length:=rfl;simp only[Instr.sliceAt,Sem.run_bind,hun,Result.andThen_ok,Instr.slice,Yw,Option.map_none,Option.isSome_none,QG,if_false,Sem.run_pure,hsz,hb,hex];rfl
     ·cases hv
    ·cases hv
   ·rename_i e hd
    split at hv
    ·rename_i ee u xs he hsl
     obtain⟨hb0,hv⟩:=bvT hv;have hsz:=Nat.eq_of_beq_eq_true hb0;split at hv
     ·rename_i p q hp hq
      obtain⟨ys,hys,hk'⟩:=Y0 hv;refine⟨_,hk',fun {β ρ ok a w} h hc=>?_⟩;have hD:=Qwc h hc hx hsl;obtain⟨A,m,c,hv,hl,hcc,hn⟩:=Xv.1 hD;obtain⟨h0,h1,h2,hys',hyl⟩:=slc_ok hys;have hun:(underlying t).run P w=.ok (.slice e) w:=by rw[J7 hT w hte,hd]
      have hb:=Qb0 (P:=P) (w:=w) (isS:=true) (len:=m) (cap:=c) (h.bnd hc hp) (by rw[←hl]; exact h.bnd hc hq) h0 h1 (by omega) hcc;refine⟨[.slice (if c=p.toNat then A else A.map (·.add (p.toNat*u.size))) ys.length (c - p.toNat)],?_,?_⟩
      ·unfold execOp
       rw[hop];have hlen:q.toNat - p.toNat=ys.length:=by omega
       simp only[hv];simp[Instr.sliceAt,hun,Instr.slice,hb,Yn hT w he,hsz,hlen,AV.val,AV.isAgg,Ty.agg]
      ·refine⟨_,rfl,⟨_,_,_,rfl,rfl,by omega,fun hpos=>?_⟩⟩
       obtain⟨b,of,rfl,hx'⟩:=hn (by omega);have hne:¬ c=p.toNat:=by omega
       rw[if_neg hne];grind [Addr.add_lit,List.getElem?_eq_some_iff,List.getElem?_take_of_lt,Jo,Nat.add_mul]
     ·cases hv
    ·cases hv
   ·cases hv
  ·cases hv
 ·
  rename_i t x lo hi mx;split at hv
  ·rename_i te v hiv mv hte hx hhi hmx
   split at hv
   ·rename_i e k1 b k2 mm hd hib him
    split at hv
    ·rename_i ee u xs p he hsl hp
     obtain⟨hb0,hv⟩:=bvT hv;have hsz:=Nat.eq_of_beq_eq_true hb0;obtain⟨_,hck,hv⟩:=Y0 hv;obtain⟨hck,_⟩:=bvT hck;simp only[QQ,decide_eq_true_eq]at hck;obtain⟨ys,hys,hk'⟩:=Y0 hv;refine⟨_,hk',fun {β ρ ok a w} h hc=>?_⟩;have hD:=Qwc h hc hx hsl;obtain⟨A,m,c,hv,hl,hcc,hn⟩:=Xv.1 hD;obtain⟨h0,h1,h2,hys',hyl⟩:=slc_ok hys
     have hsd:te.d=.slice e:=by
      cases hsd:te.d<;>rw[hsd]at hd<;>simp[Vj]at hd;subst hd; rfl
     have hun:(underlying t).run P w=.ok (.slice e) w:=by rw[J7 hT w hte,hsd]
     have hb:=Qt0 (P:=P) (w:=w) (len:=m) (cap:=c) (h.bnd hc hp) (h.int hc hhi hib) (h.int hc hmx him) h0 h1 hck.1 (by omega);refine⟨[.slice (if mm.toNat=p.toNat then A else A.map (·.add (p.toNat*u.size))) ys.length (mm.toNat - p.toNat)],?_,?_⟩
     ·unfold execOp
      rw[hop];have hlen:b.toNat - p.toNat=ys.length:=by omega
      simp only[hv];simp only[XJ]at hb;simp[Instr.sliceAt,hun,Instr.slice,hb,Yn hT w he,hsz,hlen,AV.val,AV.isAgg,Ty.agg]
     ·refine⟨_,rfl,⟨_,_,_,rfl,rfl,by omega,fun hpos=>?_⟩⟩
      obtain⟨bb,of,rfl,hx'⟩:=hn (by omega);have hne:¬ mm.toNat=p.toNat:=by omega
      rw[if_neg hne];grind [Addr.add_lit,List.getElem?_eq_some_iff,List.getElem?_take_of_lt,Jo,Nat.add_mul]
    ·cases hv
   ·cases hv
  ·cases hv
 ·
  rename_i s t x;split at hv
  ·rename_i se te hse hte
   split at hv
   ·rename_i e hd hd2
    have hsd:se.d=.slice e:=by
     cases hsd:se.d<;>rw[hsd]at hd<;>simp[Vj]at hd;subst hd; rfl
    split at hv
    ·rename_i _ z0 _ _ v he hx
     split at hv
     ·rename_i xs hxs
      refine⟨_,hv,fun {β ρ ok a w} h hc=>⟨[Yw (Q1d xs)],?_,rfl⟩⟩
      have hag:(Ty.sl (.int .u8)).agg=v.isAgg:=by
       cases v with
       | d t' y'=>obtain⟨rfl,_⟩:=Ty.cast_ok (by simpa only[asD]using hxs); rfl
       | ag l=>grind [asD]
       | _=>rfl
      have hD:=h.asD hc hx hxs hag;have:=Jzo hT hte hd2 hse hsd he rfl hD;unfold execOp;rw[hop];simp only[Sem.run_bind,this];rfl
     ·cases hv
    ·cases hv
   grind [Qxo]
  ·cases hv
 grind [Qxo]
end
section
variable {X:Cx} {β:Nat→Nat} {ρ:Nat→Value} {S:St} {a:Act} {w:World} {cur:V5}
theorem Rel.int(h:Rel X β ρ S a w)(hc:J6 a cur){x:Operand}{v:AV}{k:IntKind}{n:Int}(hx:Gx.ev S cur x=some v)(hi:G9 v=some (k,n)):a.eval x=.int k n:=h.toW.int hc hx hi
theorem Rel.mm(h:Rel X β ρ S a w):∀id o,Qk S.mem id=some o→(Jb β ρ id o).p (okR X β ρ S.mem w) w:=fun _ _ ho=>(h.ob ho).1
theorem Rel.asD(h:Rel X β ρ S a w)(hc:J6 a cur){x:Operand}{v:AV}{t:Ty}{y:t.De}(hx:Gx.ev S cur x=some v)(hd:Gx.asD S.mem v t=some y)(ht:t.agg=v.isAgg) :
  isV (rt t) (okR X β ρ S.mem w) w y (a.eval x):=h.toW.asD hc hx hd ht
end
end Gx

/- Elements of arrays that lie in variables; parts of such arrays as strings. -/
namespace Gx
open Go Go.RowKit Gd
def J5z:List PS→Bool
 | []=>false
 | .f _ _::l=>J5z l
 | .i _ _::_=>true
section
variable {R:Type}
def Qxp:List PS→AV→(AV→Option R)→Option R
 | [],x,k=>k x
 | .f i off::ps,x,k=>match nav [.f i off] x with
  | some y=>Qxp ps y k
  | none=>none
 | .i j sz::ps,x,k=>match x with
  | .d (.arr _ u) xs=>bif Nat.beq sz u.size then(idx xs j).bind fun y=>Qxp ps (.d u y) k else none
  | _=>none
def Qu1(M:List (Nat×Ob)):List PS→AV→AV→(AV→Option R)→Option R
 | [],x,v,k=>bif Qpx x v then k v else none
 | .f i off::ps,x,v,k=>match nav [.f i off] x with
  | some y=>Qu1 M ps y v fun z=>match Qu0 [.f i off] x z with
   | some x'=>k x'
   | none=>none
  | none=>none
 | .i j sz::ps,x,v,k=>match x with
  | .d (.arr n u) xs=>bif Nat.beq sz u.size then(idx xs j).bind fun y=>Qu1 M ps (.d u y) v fun z=>match asD M z u with
   | some y'=>k (.d (.arr n u) (xs.set j.toNat y'))
   | none=>none else none
  | _=>none
end
theorem Jk5{α:Type}{cs:List α}{o n p m:Nat}(h:p+m≤n):(((cs.drop o).take n).drop p).take m=(cs.drop (o+p)).take m:=by
 rw[List.drop_take,List.drop_drop,XF,Nat.min_eq_left (by omega)]
theorem Jtk{α:Type}{cs ds:List α}{o n p:Nat}(h:p+ds.length≤n) :
  cs.take o++(((cs.drop o).take n).take p++ds++((cs.drop o).take n).drop (p+ds.length))++cs.drop (o+n)=cs.take (o+p)++ds++cs.drop (o+p+ds.length):=by
 have e1:cs.take (o+p)=cs.take o++((cs.drop o).take n).take p:=by rw[List.take_add,XF,Nat.min_eq_left (by omega)]
 have e2:cs.drop (o+p+ds.length)=((cs.drop o).take n).drop (p+ds.length)++cs.drop (o+n):=by
  have e3:cs.drop (o+n)=(cs.drop (o+(p+ds.length))).drop (n - (p+ds.length)):=by rw[List.drop_drop]; congr 1; omega
  rw[List.drop_take,List.drop_drop,e3,List.take_append_drop,Nat.add_assoc]
 rw[e1,e2];grind
theorem Q6u{u:Ty}{n:Nat}{xs:List u.De}{ok:Ok}{w:World}{cs:List Value}(h:(rt (.arr n u)).rep ok w xs cs){j:Int}{y:u.De}(hy:idx xs j=some y) :
  (rt u).rep ok w y ((cs.drop (j.toNat*u.size)).take u.size)∧j.toNat*u.size+u.size≤cs.length∧0≤j∧j.toNat<n:=by
 obtain⟨hn,ha⟩:=h;have h0:=(El hy).1;have hlt:=(List.getElem?_eq_some_iff.1 (El hy).2).1;have hl:=Jax ha;have hr:=Ih ha (El hy).2;rw[Jo]at hr hl;refine⟨hr,?_,h0,by omega⟩;rw[hl];have:=QM u.size (show j.toNat+1≤xs.length by omega);rw[Nat.add_mul]at this;omega
theorem Qwd{R:Type}{r:R}:∀{ps:List PS} {x:AV} {k:AV→Option R},Qxp ps x k=some r →
  ∃y,k y=some r∧∀{β:Nat→Nat} {ρ:Nat→Value} {ok:Ok} {w:World} {cs:List Value},cr β ρ ok w false x cs→cr β ρ ok w false y ((cs.drop (Yx ps)).take y.size)∧Yx ps+y.size≤cs.length
 | [],x,k,h=>by
  refine⟨x,h,fun {β ρ ok w cs} hc=>?_⟩;have:=Kk hc;grind [Yx,List.take_of_length_le]
 | .f i off::ps,x,k,h=>by
  simp only[Qxp]at h;split at h
  ·rename_i y hy
   obtain⟨z,hz,hk⟩:=Qwd h;refine⟨z,hz,fun {β ρ ok w cs} hc=>?_⟩;obtain⟨h1,h2⟩:=Qn1 hy hc;grind [Kk,Yx,Jk5]
  ·cases h
 | .i j sz::ps,x,k,h=>by
  simp only[Qxp]at h;split at h
  ·rename_i n u xs
   obtain⟨hb,h1⟩:=bvT h;have hsz:=Nat.eq_of_beq_eq_true hb;subst hsz;obtain⟨y,hy,h2⟩:=Y0 h1;obtain⟨z,hz,hk⟩:=Qwd h2;refine⟨z,hz,fun {β ρ ok w cs} hc=>?_⟩;obtain⟨h1,h2,_⟩:=Q6u hc hy;have h1':cr β ρ ok w false (.d u y) ((cs.drop (j.toNat*u.size)).take u.size):=h1;grind [Kk,Jk5,Yx,PS.off]
  ·cases h
theorem Q6v{R:Type}{r:R}{M:List (Nat×Ob)}{v:AV}:∀{ps:List PS} {x:AV} {k:AV→Option R},Qu1 M ps x v k=some r →
  ∃x',k x'=some r∧∀{β:Nat→Nat} {ρ:Nat→Value} {ok:Ok} {w:World} {cs ds:List Value},(∀id o,Qk M id=some o→(Jb β ρ id o).p ok w)→cr β ρ ok w false v ds→cr β ρ ok w false x cs →
   cr β ρ ok w false x' (cs.take (Yx ps)++ds++cs.drop (Yx ps+ds.length))∧Yx ps+ds.length≤cs.length
 | [],x,k,h=>by
  simp only[Qu1]at h;obtain⟨hb,h⟩:=bvT h;refine⟨v,h,fun {β ρ ok w cs ds} _ hv hc=>?_⟩;have:Qu0 [] x v=some v:=by simp only[Qu0,hb,cond_true]
  grind [Qfw]
 | .f i off::ps,x,k,h=>by
  simp only[Qu1]at h;split at h
  ·rename_i y hy
   obtain⟨z,hz,hk⟩:=Q6v h;split at hz
   ·rename_i x' hx'
    refine⟨x',hz,fun {β ρ ok w cs ds} hM hv hc=>?_⟩;obtain⟨h1,h2⟩:=Qn1 hy hc;have hl:=Kk h1;obtain⟨h3,h4⟩:=hk hM hv h1;rw[hl]at h4;obtain⟨h5,h6⟩:=Qfw h3 hx' hc
    have hlen:(((cs.drop (Yx [PS.f i off])).take y.size).take (Yx ps)++ds++((cs.drop (Yx [PS.f i off])).take y.size).drop (Yx ps+ds.length)).length=y.size:=by
     grind
    rw[hlen,Jtk h4]at h5;have e:Yx (PS.f i off::ps)=Yx [PS.f i off]+Yx ps:=by simp[Yx]
    rw[e];grind
   ·cases hz
  ·cases h
 | .i j sz::ps,x,k,h=>by
  simp only[Qu1]at h;split at h
  ·rename_i n u xs
   obtain⟨hb,h1⟩:=bvT h;have hsz:=Nat.eq_of_beq_eq_true hb;subst hsz;obtain⟨y,hy,h2⟩:=Y0 h1;obtain⟨z,hz,hk⟩:=Q6v h2;split at hz
   ·rename_i y' hy'
    refine⟨_,hz,fun {β ρ ok w cs ds} hM hv hc=>?_⟩;obtain⟨h1,h2,h0,hjn⟩:=Q6u hc hy;have h1':cr β ρ ok w false (.d u y) ((cs.drop (j.toNat*u.size)).take u.size):=h1;have hl:((cs.drop (j.toNat*u.size)).take u.size).length=u.size:=Kk h1';obtain⟨h3,h4⟩:=hk hM hv h1';rw[hl]at h4;have h5:=Gl hM hy' h3;obtain⟨hn,ha⟩:=(show xs.length=n∧Ga (rt u) ok w xs cs from hc)
    have h6:=Qxa ha (i:=j.toNat) (by omega) h5
    have hlen:(((cs.drop (j.toNat*u.size)).take u.size).take (Yx ps)++ds++((cs.drop (j.toNat*u.size)).take u.size).drop (Yx ps+ds.length)).length=u.size:=by
     grind
    rw[hlen,Jo,Jtk h4]at h6;exact⟨⟨by simpa using hn,h6⟩,by grind [Yx,PS.off]⟩
   ·cases hz
  ·cases h
def Qr4:TypeDesc→Option (Nat×TypeId)
 | .array n e=>some (n,e)
 | _=>none
theorem Q23{d:TypeDesc}{n:Nat}{e:TypeId}(h:Qr4 d=some (n,e)):d=.array n e:=by
 unfold Qr4 at h;grind
section
variable {R:Type} (Y:TX) (S:St) (cur:V5)
def Jzp:Op→Nat
 | .indexAddr t _ _=>match Qo Y.T t with
  | some te=>bif isSomeA (Qr4 te.d)then 1 else 0
  | none=>0
 | .load _ x=>match ev S cur x with
  | some (.p _ path)=>bif J5z path then 2 else 0
  | _=>0
 | .slice t _ _ _ none=>match Qo Y.T t with
  | some te=>bif isSomeA (Qr4 te.d)then 3 else 0
  | none=>0
 | .convert _ _ x=>match ev S cur x with
  | some (.w _ _ _)=>4
  | _=>0
 | _=>0
where isSomeA {α:Type}:Option α→Bool
 | some _=>true
 | none=>false
def Q24(op:Op)(k:AV→Option R):Option R:=match op with
 | .indexAddr t x i=>match Qo Y.T t,ev S cur x,ev S cur i with
  | some te,some v,some iv=>match G9 iv,Qr4 te.d with
   | some (_,j),some (n,e)=>match Qo Y.T e,v with
    | some ee,.a (.arr m u) xs=>bif Nat.beq m n&&Nat.beq ee.size u.size then(idx xs j).bind fun y=>k (.a u y)else none
    | some ee,.p id path=>match Qk S.mem id with
     | some (.var _ c)=>Qxp path c fun y=>match y with
      | .d (.arr m u) xs=>bif Nat.beq m n&&Nat.beq ee.size u.size then(idx xs j).bind fun _=>k (.p id (path++[.i j u.size]))else none
      | _=>none
     | _=>none
    | _,_=>none
   | _,_=>none
  | _,_,_=>none
 | .load t x=>match Qo Y.T t,ev S cur x with
  | some e,some (.p id path)=>match Qk S.mem id with
   | some (.var _ c)=>Qxp path c fun y=>bif Nat.beq e.size y.size&&(Hk e.d==y.isAgg)&&y.isVal&&(y.isAgg||Nat.beq y.size 1)then k y else none
   | _=>none
  | _,_=>none
 | .slice t x lo hi none=>match Qo Y.T t,ev S cur x with
  | some te,some (.p id [])=>match Qr4 te.d,Qk S.mem id with
   | some (n,e),some (.var _ (.d (.arr m (.int .u8)) xs))=>match Qo Y.T e,bnd S cur 0 lo,bnd S cur n hi with
    | some ee,some a,some b=>bif Nat.beq m n&&Nat.beq ee.size 1 then(slc xs a b).bind fun _=>k (.w id a (b - a))else none
    | _,_,_=>none
   | _,_=>none
  | _,_=>none
 | .convert s t x=>match Qo Y.T s,Qo Y.T t,ev S cur x with
  | some se,some te,some (.w id a n)=>match Vj se.d,te.d,Qk S.mem id with
   | some e,.string,some (.var _ (.d (.arr m (.int .u8)) xs))=>match Qo Y.T e with
    | some ⟨_,.int .u8,_,_,_⟩=>(slc xs a (a+n)).bind fun ys=>k (.d .str (Q1d ys))
    | _=>none
   | _,_,_=>none
  | _,_,_=>none
 | _=>none
def Qp1(op:Op)(k:AV→Option R):Option R:=match Jzp Y S cur op with
 | 0=>Qr3 Y S cur op k
 | _+1=>Q24 Y S cur op k
end
section
variable {P:Program} {X:Cx} {β:Nat→Nat} {ρ:Nat→Value} {S:St} {a:Act} {w:World} {cur:V5} {ok:Ok}
theorem cell?_of_heap{b o:Nat}{cs:List Value}{t:TypeId}(h:w.heap[b]?=some (.cells cs.toArray t (0,0))):w.cell? ⟨b,o,none⟩=cs[o]?:=by simp[World.cell?,h]
theorem Jzq{u:Ty}{n:Nat}{xs:List u.De}{v:Value}(h:Qwz (rt (.arr n u)) ok w xs v){j:Int}{y:u.De}(hy:idx xs j=some y) :
  ∃b of,v=.pointer (some ⟨b,of,none⟩)∧Qwz (rt u) ok w y (.pointer (some ⟨b,of+j.toNat*u.size,none⟩))∧0≤j∧j<(n:Int):=by
 obtain⟨b,of,cs,rfl,hr,hc⟩:=h;obtain⟨h1,h2,h3,h4⟩:=Q6u hr hy;refine⟨b,of,rfl,⟨b,_,_,rfl,h1,fun i z hz=>?_⟩,h3,by omega⟩;have hi:=(List.getElem?_eq_some_iff.1 hz).1;simp only[List.length_take,List.length_drop]at hi;rw[List.getElem?_take_of_lt (by omega),JV]at hz;have:=hc _ z hz;rw[Nat.add_assoc];exact this
theorem Jtl{Y:TX}(hT:Jg P Y.T){R:Type}{o:Oper}{op:Op}(hop:o.op=op){k:AV→Option R}{r:R}(hv:Q24 Y S cur op k=some r):∃av,k av=some r∧Qxn P S cur o av:=by
 unfold Q24 at hv;split at hv
 ·
  rename_i t x i;split at hv
  ·rename_i te v iv hte hx hi
   split at hv
   ·rename_i ki j n e hij hse
    have htd:=Q23 hse
    have run:∀{β:Nat→Nat} {ρ:Nat→Value} {ok:Ok} {a:Act} {w:World},N0 β ρ ok S a w→J6 a cur→∀{ee:TE} {b of:Nat},Qo Y.T e=some ee→a.eval x=.pointer (some ⟨b,of,none⟩)→0≤j→j<(n:Int) →
      (execOp a.eval o).run P w=.ok (.value (.pointer (some ⟨b,of+j.toNat*ee.size,none⟩))) w:=by
     intro β ρ ok a w h hc ee b of he hv h0 h1;have hun:(underlying t).run P w=.ok (.array n e) w:=by rw[J7 hT w hte,htd]
     have hi':=h.int hc hi hij;unfold execOp;rw[hop];simp only[hv,hi'];simp[Instr.indexAt,asIntOf,hun,Instr.sureAddr,h0,h1,Yn hT w he,Addr.add_lit]
    split at hv
    ·rename_i ee m u xs he
     obtain⟨hb,hv1⟩:=bvT hv;simp only[QQ]at hb;have hm:=Nat.eq_of_beq_eq_true hb.1;have hsz:=Nat.eq_of_beq_eq_true hb.2;obtain⟨y,hy,hk⟩:=Y0 hv1;refine⟨_,hk,fun {β ρ ok a w} h hc=>?_⟩;obtain⟨cs,h1,v0,rfl,hat⟩:=h.ev hc hx;obtain⟨b,of,rfl,h2,h3,h4⟩:=Jzq hat hy;refine⟨[.pointer (some ⟨b,of+j.toNat*u.size,none⟩)],?_,_,rfl,h2⟩;rw[←hsz];exact run h hc he h1 h3 (by omega)
    ·rename_i ee id path he
     split at hv
     ·rename_i tid c ho
      obtain⟨y,hy,hnav⟩:=Qwd hv;split at hy
      ·rename_i m u xs
       obtain⟨hb,hv1⟩:=bvT hy;simp only[QQ]at hb;have hm:=Nat.eq_of_beq_eq_true hb.1;have hsz:=Nat.eq_of_beq_eq_true hb.2;obtain⟨y,hy',hk⟩:=Y0 hv1;refine⟨_,hk,fun {β ρ ok a w} h hc=>?_⟩;obtain⟨cs,h1,h2⟩:=h.ev hc hx;have h2':cs=_:=h2;subst h2';obtain⟨cs0,hh,hcr⟩:=h.2 _ _ ho;obtain⟨q1,q2⟩:=hnav hcr;obtain⟨_,_,h3,h4⟩:=Q6u (show(rt (.arr m u)).rep ok w xs _ from q1) hy';refine⟨[.pointer (some ⟨β id,Yx (path++[PS.i j u.size]),none⟩)],?_,rfl⟩;have:=run h hc he h1 h3 (by omega);rw[this,hsz,Qbz];simp[Yx,PS.off,AV.val,AV.isAgg]
      ·cases hy
     ·cases hv
    ·cases hv
   ·cases hv
  ·cases hv
 ·
  rename_i t x;split at hv
  ·rename_i e id path he hx
   split at hv
   ·rename_i tid c ho
    obtain⟨y,hy,hnav⟩:=Qwd hv;obtain⟨hb,hk⟩:=bvT hy;simp only[QQ]at hb;obtain⟨⟨⟨b1,b2⟩,b3⟩,b4⟩:=hb;have b1:=Nat.eq_of_beq_eq_true b1;have b2:=bEq b2;refine⟨_,hk,fun {β ρ ok a w} h hc=>?_⟩;obtain⟨cs,h1,h2⟩:=h.ev hc hx;have h2':cs=_:=h2;subst h2';obtain⟨cs0,hh,hcr⟩:=h.2 _ _ ho;obtain⟨q1,q2⟩:=hnav hcr;refine⟨_,?_,q1⟩;have h1':a.eval x=.pointer (some ⟨β id,Yx path,none⟩):=h1;have hl:=Kk q1;unfold execOp;rw[hop];simp only[h1',Sem.run_bind]
    have:=Ii (w:=w) hT he (b:=β id) (o:=Yx path) (y:=y) (cs:=(cs0.drop (Yx path)).take y.size) (by rw[hl]; exact b1) b2 (fun hf=>by
     rw[hl];rw[hf]at b4;simp only[ZE]at b4
     exact Nat.eq_of_beq_eq_true b4) (fun i z hz=>by
     have hi:=(List.getElem?_eq_some_iff.1 hz).1;rw[hl]at hi;rw[List.getElem?_take_of_lt hi,JV]at hz;rw[cell?_of_heap hh]
     simpa using hz)
    rw[this];rfl
   ·cases hv
  ·cases hv
 ·
  rename_i t x lo hi;split at hv
  ·rename_i te id hte hx
   split at hv
   ·rename_i n e tid m xs hse ho
    have htd:=Q23 hse;split at hv
    ·rename_i ee na nb he hlo hhi
     obtain⟨hb,hv1⟩:=bvT hv;simp only[QQ]at hb;have hm:=Nat.eq_of_beq_eq_true hb.1;have hsz:=Nat.eq_of_beq_eq_true hb.2;obtain⟨ys,hys,hk⟩:=Y0 hv1;refine⟨_,hk,fun {β ρ ok a w} h hc=>?_⟩;obtain⟨cs,h1,h2⟩:=h.ev hc hx;have h2':cs=_:=h2;subst h2';obtain⟨cs0,hh,hcr⟩:=h.2 _ _ ho;have hxs:xs.length=m:=(show xs.length=m∧_ from hcr).1;obtain⟨s1,s2,s3,s4,s5⟩:=Gd.slc_ok hys;have hbd:=Qb0 (P:=P) (w:=w) (isS:=false) (len:=n) (cap:=n) (h.bnd hc hlo) (h.bnd hc hhi) s1 s2 (by omega) (QY _);have hun:(underlying t).run P w=.ok (.array n e) w:=by rw[J7 hT w hte,htd]
     have h1':a.eval x=.pointer (some ⟨β id,0,none⟩):=h1;refine⟨[.slice (some (if n=na.toNat then⟨β id,0,none⟩else⟨β id,na.toNat,none⟩)) (nb - na).toNat (n - na.toNat)],?_,_,_,rfl,fun hpos=>?_⟩
     ·unfold execOp
      rw[hop];simp only[h1'];simp[Instr.sliceAt,hun,Instr.sureAddr,hbd,Yn hT w he,hsz,Addr.add_lit,AV.val,AV.isAgg];omega
     grind
    ·cases hv
   ·cases hv
  ·cases hv
 ·
  rename_i s t x;split at hv
  ·rename_i se te id na n hse hte hx
   split at hv
   ·rename_i e tid m xs hsd htd ho
    split at hv
    ·rename_i _ _ _ _ he
     obtain⟨ys,hys,hk⟩:=Y0 hv;refine⟨_,hk,fun {β ρ ok a w} h hc=>⟨[Yw (Q1d ys)],?_,rfl⟩⟩;obtain⟨cs,h1,A,c,rfl,hA⟩:=h.ev hc hx;obtain⟨cs0,hh,hcr⟩:=h.2 _ _ ho;obtain⟨hxs,hrep⟩:=(show xs.length=m∧Ga (Qfo .u8) ok w xs cs0 from hcr)
     obtain⟨s1,s2,s3,s4,s5⟩:=Gd.slc_ok hys
     have hsd':se.d=.slice e:=by
      unfold Vj at hsd;grind
     have h1':a.eval x=.slice (some A) n.toNat c:=h1;have hus:=(J0 hT hse).2; rw[hsd']at hus;have hut:=(J0 hT hte).2; rw[htd]at hut;have hue:=(J0 hT he).2;have hconv:=run_convert_bytes_string (P:=P) w s t e (some A) n.toNat c hus hue hut
     have hload:(loadCells A n.toNat).run P w=.ok (ys.map (Value.int .u8)).toArray w:=by
      have hyl:ys.length=n.toNat:=by rw[s5]; congr 1; omega
      have:=run_loadCells_list (P:=P) w A (ys.map (Value.int .u8)) (fun i v hi=>by
       rw[XA]at hi;obtain⟨y,hy,rfl⟩:=XE.1 hi;have hi':=(List.getElem?_eq_some_iff.1 hy).1;rw[hA (by omega),Bl];rw[s4,List.getElem?_take_of_lt (by omega),JV]at hy;have hr:=Ih hrep hy;have hr':(cs0.drop ((na.toNat+i)*1)).take 1=[.int .u8 y]:=hr;rw[ZY]at hr';rw[cell?_of_heap hh];have:=congrArg (fun l=>l[0]?) hr'
       grind)
      grind
     have hrun:=run_bytesToString w A n.toNat c ys hload;have hf:=Qw6 ys [];simp only[QE]at hf;unfold execOp;rw[hop];simp only[h1'];simp only[Sem.run_bind,hconv,hrun];show Result.andThen (.ok (Value.string (ys.foldl _ (ByteArray.mk ([]:List UInt8).toArray))) w) _=_;rw[hf]; rfl
    ·cases hv
   ·cases hv
  ·cases hv
 ·cases hv
theorem Jbu{Y:TX}(hT:Jg P Y.T){R:Type}{o:Oper}{op:Op}(hop:o.op=op){k:AV→Option R}{r:R}(hv:Qp1 Y S cur op k=some r):∃av,k av=some r∧Qxn P S cur o av:=by
 grind [Qp1,Jpc,Jtl]
end
end Gx
