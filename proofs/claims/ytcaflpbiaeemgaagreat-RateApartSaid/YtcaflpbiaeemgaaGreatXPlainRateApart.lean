/- The plain laws for RateApart. -/
import Derived.Test.YtcaflpbiaeemgaaGreatXFns
import Derived.Test.YtcaflpbiaeemgaaGreatGRows
import Derived.Lib.RowBridge
import Derived.Sort.Walk0
import Derived.Test.YtcaflpbiaeemgaaGreatXRl
import Derived.KernelRfl
set_option linter.unusedVariables false
set_option linter.unusedSimpArgs false
set_option linter.defProp false
set_option warn.classDefReducibility false
set_option linter.unusedSectionVars false
namespace Gx
open Go Gd
theorem Qtf{α σ ρ τ:Type}(l:List α)(hl:l.length≤maxLen){f:ρ→Option (ρ⊕τ)}(mk:σ→Int→ρ)(Inv:Nat→σ→Prop)(go:σ→List α→τ)
  (h0:∀s,Inv l.length s→decide (((l.length:Nat):Int)<(l.length:Int))=false→f (mk s (l.length:Int))=some (.inr (go s [])))
  (h1:∀s (i:Nat) x xs,l[i]?=some x→decide ((i:Int)<(l.length:Int))=true→idx l (i:Int)=some x→IntKind.wrap .i64 ((i:Int)+1)=((i+1:Nat):Int)→l.drop i=x::xs→Inv i s →
   (∃s',f (mk s (i:Int))=some (.inl (mk s' ((i+1:Nat):Int)))∧Inv (i+1) s'∧go s (x::xs)=go s' xs)∨f (mk s (i:Int))=some (.inr (go s (x::xs))))
  {n:Nat} {s:σ} (hn:l.length<n) (hs:Inv 0 s):Qf f n (mk s 0)=some (go s l):=by
 have main:∀(k i n:Nat) (s:σ),l.length=i+k→k<n→Inv i s→Qf f n (mk s (i:Int))=some (go s (l.drop i)):=by
  intro k
  induction k with
  | zero =>
   intro i n s hk hn hI;obtain⟨m,rfl⟩:∃m,n=m+1:=⟨n - 1,by omega⟩
   have hi:i=l.length:=by omega
   subst hi;rw[XM];simp[Qf,h0 s hI (by simp)]
  | succ k ih =>
   intro i n s hk hn hI;obtain⟨m,rfl⟩:∃m,n=m+1:=⟨n - 1,by omega⟩
   have hlt:i<l.length:=by omega
   have hd:=List.drop_eq_getElem_cons hlt;rw[hd];rcases h1 s i _ _ (List.getElem?_eq_getElem hlt) (by simpa using hlt) (Jkt (List.getElem?_eq_getElem hlt)) (Jo2 (by omega)) hd hI with⟨s',e1,e2,e3⟩ | e1
   ·simp only[Qf,e1,QJ,e3]
    exact ih (i+1) m s' (by omega) (by omega) e2
   ·simp only[Qf,e1,QJ]
 simpa using main l.length 0 n s (by omega) hn hs
theorem G8{α:Type}{l:List α}{i:Nat}(h:i<l.length):idx l (i:Int)=some l[i]:=Jkt (List.getElem?_eq_getElem h)
theorem Jwu(a b:Nat):((max a b:Nat):Int)=max (a:Int) (b:Int):=by omega
def W{α:Type}(o:Option α)(R:α→Prop):Prop:=∃r,o=some r∧R r
class WP{α:Type}(o:Option α)(T:outParam ((α→Prop)→Prop)):Prop where
 spec:∀R,T R→W o R
class WPf{α β:Type}(f:α→Option β)(T:outParam (α→(β→Prop)→Prop)):Prop where
 spec:∀a R,T a R→W (f a) R
theorem wp{α:Type}{o:Option α}{T:(α→Prop)→Prop}[h:WP o T]{R:α→Prop}(k:T R):W o R:=h.spec R k
theorem W.mono{α:Type}{o:Option α}{R S:α→Prop}(h:W o R)(k:∀r,R r→S r):W o S:=let⟨r,e,hr⟩:=h; ⟨r,e,k r hr⟩
theorem Bk{α:Type}{o:Option α}{P:Prop}{Q:α→Prop}(h:P→W o Q):WP o (fun R=>P∧∀r,Q r→R r):=⟨fun R k=>(h k.1).mono k.2⟩
instance wpSome {α:Type} (a:α):WP (some a) (fun R=>R a):=⟨fun R h=>⟨a,rfl,h⟩⟩
instance wpNone {α:Type}:WP (none:Option α) (fun _=>False):=⟨fun _ h=>h.elim⟩
instance wpIte {α:Type} {c:Prop} [Decidable c] {a b:Option α} {A B:(α→Prop)→Prop} [ha:WP a A] [hb:WP b B]:WP (if c then a else b) (fun R=>(c→A R)∧(¬ c→B R)):=⟨fun R h=>by
 split
 ·rename_i hc; exact ha.spec R (h.1 hc)
 ·rename_i hc; exact hb.spec R (h.2 hc)⟩
instance wpBind {α β:Type} {o:Option α} {f:α→Option β} {A:(α→Prop)→Prop} {B:α→(β→Prop)→Prop} [ha:WP o A] [hb:WPf f B]:WP (o.bind f) (fun R=>A fun r=>B r R):=⟨fun R h=>by
 obtain⟨r,e,hr⟩:=ha.spec _ h
 rw[e]; exact hb.spec r R hr⟩
instance (priority:=1100) wpAnd {β:Type} {c:Prop} [Decidable c] {a:Option Bool} {f:Bool→Option β} {A:(Bool→Prop)→Prop} {B C:(β→Prop)→Prop} [ha:WP a A] [hb:WP (f true) B] [hc:WP (f false) C] :
  WP ((if c then a else some false).bind f) (fun R=>(c→A fun b=>b=true→B R)∧(c→A fun _=>True)∧C R):=⟨fun R h=>by
 by_cases h0:c
 ·rw[if_pos h0]
  obtain⟨r,e,hr⟩:=ha.spec _ (h.1 h0);rw[e];cases r with
  | true=>exact hb.spec R (hr rfl)
  | false=>exact hc.spec R h.2.2
 ·rw[if_neg h0]; exact hc.spec R h.2.2⟩
instance (priority:=1100) wpOr {β:Type} {c:Prop} [Decidable c] {a:Option Bool} {f:Bool→Option β} {A:(Bool→Prop)→Prop} {B C:(β→Prop)→Prop} [ha:WP a A] [hb:WP (f true) B] [hc:WP (f false) C] :
  WP ((if c then some true else a).bind f) (fun R=>(¬ c→A fun b=>b=false→C R)∧(¬ c→A fun _=>True)∧B R):=⟨fun R h=>by
 by_cases h0:c
 ·rw[if_pos h0]; exact hb.spec R h.2.2
 ·rw[if_neg h0]
  obtain⟨r,e,hr⟩:=ha.spec _ (h.1 h0);rw[e];cases r with
  | true=>exact hb.spec R h.2.2
  | false=>exact hc.spec R (hr rfl)⟩
instance (priority:=1200) wpBindT {α β:Type} {a b:Option α} {f:α→Option β} {A:(β→Prop)→Prop} [ha:WP (a.bind f) A]:WP ((if true=true then a else b).bind f) A:=⟨fun R h=>by rw [if_pos rfl]; exact ha.spec R h⟩
instance (priority:=1200) wpBindF {α β:Type} {a b:Option α} {f:α→Option β} {A:(β→Prop)→Prop} [ha:WP (b.bind f) A]:WP ((if false=true then a else b).bind f) A:=⟨fun R h=>by rw [if_neg (by decide)]; exact ha.spec R h⟩
instance (priority:=1200) wpIteT {α:Type} {a b:Option α} {A:(α→Prop)→Prop} [ha:WP a A]:WP (if true=true then a else b) A:=⟨fun R h=>by rw [if_pos rfl]; exact ha.spec R h⟩
instance (priority:=1200) wpIteF {α:Type} {a b:Option α} {A:(α→Prop)→Prop} [ha:WP b A]:WP (if false=true then a else b) A:=⟨fun R h=>by rw [if_neg (by decide)]; exact ha.spec R h⟩
instance (priority:=1000) wpfVar {α β:Type} {f:α→Option β} {T:α→(β→Prop)→Prop} [h:∀a,WP (f a) (T a)]:WPf f T:=⟨fun a R k=>(h a).spec R k⟩
instance (priority:=900) wpfSum {α β γ:Type} {f:α⊕β→Option γ} {A:α→(γ→Prop)→Prop} {B:β→(γ→Prop)→Prop} [ha:WPf (fun a=>f (.inl a)) A] [hb:WPf (fun b=>f (.inr b)) B] :
  WPf f (fun s R=>(∀a,s=.inl a→A a R)∧(∀b,s=.inr b→B b R)):=⟨fun s R k=>by
 cases s with
 | inl a=>exact ha.spec a R (k.1 a rfl)
 | inr b=>exact hb.spec b R (k.2 b rfl)⟩
instance (priority:=850) wpfPairSum {α β γ δ:Type} {f:(α⊕β)×γ→Option δ} {A:α→γ→(δ→Prop)→Prop} {B:β→γ→(δ→Prop)→Prop} [ha:∀a,WPf (fun c=>f (.inl a,c)) (A a)] [hb:∀b,WPf (fun c=>f (.inr b,c)) (B b)] :
  WPf f (fun p R=>(∀a,p.1=.inl a→A a p.2 R)∧(∀b,p.1=.inr b→B b p.2 R)):=⟨fun p R k=>by
 obtain⟨s,c⟩:=p;cases s with
 | inl a=>exact(ha a).spec c R (k.1 a rfl)
 | inr b=>exact(hb b).spec c R (k.2 b rfl)⟩
instance (priority:=800) wpfPair {α β γ:Type} {f:α×β→Option γ} {A:α→β→(γ→Prop)→Prop} [h:∀a,WPf (fun b=>f (a,b)) (A a)]:WPf f (fun p R=>A p.1 p.2 R):=⟨fun p R k=>(h p.1).spec p.2 R k⟩
class Sz(α:Type) where
 sz:α→Nat
open Sz
instance:Sz Int:=⟨fun _=>0⟩
instance:Sz Bool:=⟨fun _=>0⟩
instance:Sz Unit:=⟨fun _=>0⟩
instance {α β:Type} [Sz α] [Sz β]:Sz (α×β):=⟨fun p=>max (sz p.1) (sz p.2)⟩
instance {α β:Type} [Sz α] [Sz β]:Sz (α⊕β):=⟨fun p=>match p with | .inl a=>sz a | .inr b=>sz b⟩
def szL{α:Type}[Sz α]:List α→Nat
 | []=>0
 | x::l=>max (sz x) (szL l)
instance {α:Type} [Sz α]:Sz (List α):=⟨fun l=>max l.length (szL l)⟩
instance (priority:=2000) szStr:Sz (List UInt8):=⟨fun _=>0⟩
mutual
def rsz{α:Type}:Wn α→Nat
 | .mk _ ks=>max ks.length (Ji0 ks)
def Ji0{α:Type}:List (Wn α)→Nat
 | []=>0
 | x::l=>max (rsz x) (Ji0 l)
end
instance {α:Type}:Sz (Wn α):=⟨rsz⟩
theorem Jwv(x:Int):sz x=0:=rfl
section
variable {α β:Type} [Sz α] [Sz β]
theorem Qwk(p:α×β):sz p=max (sz p.1) (sz p.2):=rfl
theorem Hq{l:List α}:l.length≤sz l:=Nat.le_max_left _ _
theorem J6q{l:List α}:szL l≤sz l:=Nat.le_max_right _ _
theorem Jnk:∀{l:List α} {x:α},x∈l→sz x≤szL l
 | y::l,x,h=>by
  rcases QX.1 h with rfl | h
  ·exact Nat.le_max_left _ _
  ·exact Nat.le_trans (Jnk h) (Nat.le_max_right _ _)
theorem Qhg{l:List α}{x:α}(h:x∈l):sz x≤sz l:=Nat.le_trans (Jnk h) J6q
theorem Qz3{K:Nat}:∀{l:List α},(∀x∈l,sz x≤K)→szL l≤K
 | [],_=>QN _
 | x::l,h=>ZX.2 ⟨h x (.head _),Qz3 fun y hy=>h y (.tail _ hy)⟩
theorem J5g{K:Nat}{l:List α}(hl:l.length≤K)(h:∀x∈l,sz x≤K):sz l≤K:=ZX.2 ⟨hl,Qz3 h⟩
theorem Ji1{l m:List α}(hl:l.length≤m.length)(h:∀x∈l,x∈m):sz l≤sz m:=J5g (Nat.le_trans hl Hq) fun x hx=>Qhg (h x hx)
theorem Ji2:sz ([]:List α)=0:=rfl
theorem Qz4:∀l m:List α,szL (l++m)=max (szL l) (szL m)
 | [],m=>by simp[szL]
 | x::l,m=>by simp only[QD,szL,Qz4 l m]; omega
theorem Jql(l m:List α):sz (l++m)=max (l.length+m.length) (max (sz l) (sz m)):=by
 show max (l++m).length (szL (l++m))=max _ (max (max l.length (szL l)) (max m.length (szL m)));rw[List.length_append,Qz4]; omega
theorem Qhh(x:α)(l:List α):sz (x::l)=max (l.length+1) (max (sz x) (sz l)):=by
 show max (l.length+1) (max (sz x) (szL l))=max _ (max _ (max l.length (szL l)));omega
theorem Jnl:∀(l:List α) (i:Nat) (x:α),szL (l.set i x)≤max (szL l) (sz x)
 | [],i,x=>QN _
 | y::l,0,x=>by simp only[List.set_cons_zero,szL]; omega
 | y::l,i+1,x=>by
  have:=Jnl l i x;simp only[List.set_cons_succ,szL]; omega
theorem Qz5(l:List α)(i:Nat)(x:α):sz (l.set i x)≤max (sz l) (sz x):=by
 have h1:=Jnl l i x;show max (l.set i x).length (szL (l.set i x))≤max (max l.length (szL l)) (sz x);rw[List.length_set]; omega
theorem Qhi{α:Type}{e:Wn α}:sz e.ks≤sz e:=by
 have:∀l:List (Wn α),szL l=Ji0 l:=fun l=>by
  induction l with
  | nil=>rfl
  | cons x l ih=>simp only[szL,Ji0,ih]; rfl
 cases e with
 | mk x ks =>
  show max ks.length (szL ks)≤rsz (.mk x ks);rw[this]; simp only[rsz]; exact QY _
end
class Qle(α:Type)[Sz α]:Prop where
 flat:∀x:α,sz x=0
instance:Qle Int:=⟨fun _=>rfl⟩
instance:Qle Bool:=⟨fun _=>rfl⟩
instance (priority:=2000):Qle (List UInt8):=⟨fun _=>rfl⟩
instance {α β:Type} [Sz α] [Sz β] [ha:Qle α] [hb:Qle β]:Qle (α×β):=⟨fun x=>by rw [Qwk,ha.flat,hb.flat]; rfl⟩
theorem Qwl{α:Type}[Sz α][h:Qle α](l:List α):sz l=l.length:=by
 have:szL l≤0:=Qz3 fun x _=>Nat.le_of_eq (h.flat x);show max l.length (szL l)=l.length;omega
structure Qlf{α:Type}(P:α→Prop)(l:List α)(v:Int):Prop where
 at_:∀j:Nat,(j:Int)<v→∀a,l[j]?=some a→P a
theorem Qbj{α:Type}{P:α→Prop}{l:List α}:Qlf P l 0:=⟨fun j h=>by omega⟩
theorem Ow{α:Type}{P:α→Prop}{l:List α}{v:Int}{x:α}(h0:0≤v)(h:Qlf P l v)(hx:l[v.toNat]?=some x)(px:P x):Qlf P l (v+1):=⟨fun j hj a ha=>by
 by_cases hjv:(j:Int)<v
 ·exact h.at_ j hjv a ha
 ·have:j=v.toNat:=by omega
  subst this; rw[hx]at ha; exact Option.some.inj ha▸px⟩
theorem Qfj{α:Type}{P:α→Prop}{l:List α}{v:Int}(h:Qlf P l v)(hl:l.length≤v):∀a∈l,P a:=fun a ha=>by
 obtain⟨i,hi,e⟩:=List.getElem_of_mem ha;exact h.at_ i (by omega) a (by rw[List.getElem?_eq_getElem hi,e])
theorem Q74{α:Type}[Sz α]{B:Int}{l:List α}(h:∀y∈l,(sz y:Int)≤B)(h0:0≤B):(szL l:Int)≤B:=by
 have:=Qz3 (K:=B.toNat) fun x hx=>by have:=h x hx; omega
 omega
theorem Qpc{α:Type}[Sz α](l:List α):sz l=max l.length (szL l):=rfl
class Sh(α:Type) where
 sh:α→Prop
open Sh
instance:Sh Int:=⟨fun _=>True⟩
instance:Sh Bool:=⟨fun _=>True⟩
instance:Sh Unit:=⟨fun _=>True⟩
instance {α β:Type} [Sh α] [Sh β]:Sh (α×β):=⟨fun p=>sh p.1∧sh p.2⟩
instance {α β:Type} [Sh α] [Sh β]:Sh (α⊕β):=⟨fun p=>match p with | .inl a=>sh a | .inr b=>sh b⟩
structure ShL{α:Type}[Sh α](l:List α):Prop where
 all:∀x∈l,sh x
instance {α:Type} [Sh α]:Sh (List α):=⟨ShL⟩
instance (priority:=2000) shStr:Sh (List UInt8):=⟨fun s=>s.length≤9223372036854775807⟩
instance {α:Type}:Sh (Wn α):=⟨fun _=>True⟩
theorem Jww{α:Type}[Sh α]{l:List α}{x:α}(h:x∈l)(hl:sh l):sh x:=hl.all x h
theorem Qlg{x:List UInt8}(h:sh x):x.length≤9223372036854775807:=h
theorem Jqm{α:Type}[Sh α](l m:List α):sh (l++m)=(sh l∧sh m):=propext ⟨fun h=>⟨⟨fun x hx=>h.all x (List.mem_append_left _ hx)⟩,⟨fun x hx=>h.all x (List.mem_append_right _ hx)⟩⟩,fun h=>⟨fun x hx=>(QZ.1 hx).elim (h.1.all x) (h.2.all x)⟩⟩
theorem J0i{α:Type}[Sh α](x:α)(l:List α):sh (x::l)=(sh x∧sh l):=propext ⟨fun h=>⟨h.all x (.head _),⟨fun y hy=>h.all y (.tail _ hy)⟩⟩,fun h=>⟨fun y hy=>(QX.1 hy).elim (fun e=>e▸h.1) (h.2.all y)⟩⟩
theorem Ji3{α:Type}[Sh α]{l:List α}{i:Nat}{x:α}(hl:sh l)(hx:sh x):sh (l.set i x):=⟨fun y hy=>(XV hy).elim (hl.all y) (fun e=>e▸hx)⟩
theorem Jnm{α:Type}[Sz α]{K:Int}{l:List α}{i:Nat}{x:α}(h1:(sz l:Int)≤K)(h2:(sz x:Int)≤K):((sz (l.set i x):Nat):Int)≤K:=by
 have:=Qz5 l i x;omega
theorem Jnn{α:Type}[Sz α]{K:Nat}{l:List α}{i:Nat}{x:α}(h1:sz l≤K)(h2:sz x≤K):sz (l.set i x)≤K:=by
 have:=Qz5 l i x;omega
section
variable {V:Type} [Sz V]
theorem Ql4(key:Int)(v:V):∀m:List (Int×V),sz (Va (k:=.int .i64) key v m:List (Int×V))≤max (sz m+1) (sz v)
 | []=>by
  show sz [((key,v):Int×V)]≤_;rw[Qhh,Qwk]; simp only[Jwv,Ji2,JW]; omega
 | x::m=>by
  have ih:=Ql4 key v m;unfold Va;cases h:eqK (.int .i64) key x.1 with
  | true =>
   show sz ((key,v)::m:List (Int×V))≤_;rw[Qhh,Qhh,Qwk]; simp only[Jwv]; omega
  | false =>
   show sz (x::(Va (k:=.int .i64) key v m:List (Int×V)))≤_;rw[Qhh,Qhh];have:=Hq (l:=(Va (k:=.int .i64) key v m:List (Int×V)))
   have h2:(Va (k:=.int .i64) key v m:List (Int×V)).length≤m.length+1:=by
    clear ih h this
    induction m with
    | nil=>exact QY _
    | cons y m ih =>
     unfold Va;cases eqK (.int .i64) key y.1 with
     | true=>exact XP _
     | false=>exact JS ih
   omega
theorem Qrd{W:Type}(key:Int)(v:W):∀m:List (Int×W),(Va (k:=.int .i64) key v m).length≤m.length+1
 | []=>QY _
 | x::m=>by
  have ih:=Qrd key v m;unfold Va;cases eqK (.int .i64) key x.1 with
  | true=>exact XP _
  | false=>exact JS ih
theorem Qre{W:Type}(key:Str)(v:W):∀m:List (Str×W),(Va (k:=.str) key v m).length≤m.length+1
 | []=>QY _
 | x::m=>by
  have ih:=Qre key v m;unfold Va;cases eqK .str key x.1 with
  | true=>exact XP _
  | false=>exact JS ih
theorem Qrf{W:Type}(key:Str):∀m:List (Str×W),(Rl (k:=.str) key m).length≤m.length
 | []=>QY _
 | x::m=>by
  have ih:=Qrf key m;unfold Rl;cases eqK .str key x.1 with
  | true=>exact XP _
  | false=>exact JS ih
theorem Qlh{W:Type}(key:Int):∀m:List (Int×W),(Rl (k:=.int .i64) key m).length≤m.length
 | []=>QY _
 | x::m=>by
  have ih:=Qlh key m;unfold Rl;cases eqK (.int .i64) key x.1 with
  | true=>exact XP _
  | false=>exact JS ih
theorem Qz6{W:Type}{key:Int}{y:Int×W}:∀{m:List (Int×W)},y∈(Rl (k:=.int .i64) key m:List (Int×W))→y∈m
 | x::m,h=>by
  unfold Rl at h;cases hk:eqK (.int .i64) key x.1 with
  | true=>rw[hk]at h; exact .tail _ h
  | false =>
   rw[hk]at h;rcases QX.1 h with h | h
   ·exact h▸.head _
   ·exact .tail _ (Qz6 h)
theorem Q75(key:Int)(m:List (Int×V)):sz (Rl (k:=.int .i64) key m:List (Int×V))≤sz m:=Ji1 (Qlh key m) fun _ h=>Qz6 h
theorem Qhj(key:Int)(d:V):∀m:List (Int×V),sz ((Qz (k:=.int .i64) key m).getD d)≤max (sz m) (sz d)
 | []=>Nat.le_max_right _ _
 | x::m=>by
  have ih:=Qhj key d m;unfold Qz;rw[Qhh,Qwk];cases eqK (.int .i64) key x.1 with
  | true=>show sz x.2≤_; omega
  | false=>show sz ((Qz (k:=.int .i64) key m).getD d)≤_; omega
end
theorem Jwx(x:Int):eqK (.int .i64) x x=true:=by simp[eqK]
theorem Qz7(x:Str):eqK .str x x=true:=by simp[eqK]
class Kb(N:Nat):Prop where
 le:18446744073709551616≤N
section
variable {α β σ τ:Type}
instance wpIdx [Sz α] [Sh α] {l:List α} {i:Int}:WP (idx l i) (fun R=>(0≤i∧i<l.length)∧∀x,x∈l→sz x≤sz l→(Sh.sh l→Sh.sh x)→l[i.toNat]?=some x→R x):=⟨fun R h=>by
 obtain⟨⟨h0,h1⟩,hR⟩:=h;have hi:i.toNat<l.length:=by omega
 have hm:l[i.toNat]∈l:=JH hi;refine⟨l[i.toNat],?_,hR _ hm (Qhg hm) (Jww hm) (List.getElem?_eq_getElem hi)⟩;unfold idx
 rw[if_pos h0,List.getElem?_eq_getElem hi]⟩
instance wpSidx {s:Str} {i:Int}:WP (Nv s i) (fun R=>(0≤i∧i<s.length)∧∀x,0≤x→x<256→R x):=⟨fun R h=>by
 obtain⟨⟨h0,h1⟩,hR⟩:=h;have hi:i.toNat<s.length:=by omega
 refine⟨((s[i.toNat]).toNat:Int),?_,hR _ (by omega) (by have:=UInt8.toNat_lt s[i.toNat]; omega)⟩;unfold Nv idx
 rw[if_pos h0,List.getElem?_eq_getElem hi]; rfl⟩
instance wpSlc [Sz α] [Sh α] {l:List α} {a b:Int}:WP (slc l a b) (fun R=>(0≤a∧a≤b∧b≤l.length)∧∀s,(s.length:Int)=b - a→(∀x∈s,x∈l)→sz s≤sz l→(Sh.sh l→Sh.sh s)→R s):=⟨fun R h=>by
 obtain⟨⟨h0,h1,h2⟩,hR⟩:=h;have hlen:(((l.drop a.toNat).take (b - a).toNat).length:Int)=b - a:=by rw[List.length_take,List.length_drop]; omega
 have hm:∀x∈(l.drop a.toNat).take (b - a).toNat,x∈l:=fun x hx=>List.mem_of_mem_drop (ZT hx);refine⟨(l.drop a.toNat).take (b - a).toNat,?_,hR _ hlen hm (Ji1 (by rw[List.length_take,List.length_drop]; omega) hm) (fun h=>⟨fun x hx=>h.all x (hm x hx)⟩)⟩;unfold slc
 rw[if_pos ⟨h0,h1,h2⟩]⟩
instance wpApp {b:Nat} {l m:List α}:WP (app b l m) (fun R=>(l.length+m.length)*b≤140737488355328∧R (l++m)):=⟨fun R h=>⟨l++m,by unfold app; rw [if_pos h.1],h.2⟩⟩
instance wpMkL {b:Nat} {l c:Int} {z:α}:WP (mkL b l c z) (fun R=>(0≤l∧l≤c∧(b:Int)*c≤281474976710656)∧R (List.replicate l.toNat z)):=⟨fun R h=>⟨_,by unfold mkL; rw [if_pos h.1],h.2⟩⟩
instance wpQuo {k:IntKind} {x y:Int}:WP (Tp k x y) (fun R=>y≠0∧R (k.wrap (x.tdiv y))):=⟨fun R h=>⟨_,by unfold Tp; rw [if_neg h.1],h.2⟩⟩
instance wpRem {x y:Int}:WP (Qrq x y) (fun R=>y≠0∧R (x.tmod y)):=⟨fun R h=>⟨_,by unfold Qrq; rw [if_neg h.1],h.2⟩⟩
instance wpShr {k:IntKind} {x y:Int}:WP (Ja9 k x y) (fun R=>0≤y∧∀r,R r):=⟨fun R h=>⟨_,by unfold Ja9; rw [if_neg (by omega)],h.2 _⟩⟩
instance wpShl {k:IntKind} {x y:Int}:WP (Jow k x y) (fun R=>0≤y∧∀r,R r):=⟨fun R h=>⟨_,by unfold Jow; rw [if_neg (by omega)],h.2 _⟩⟩
instance wpScat {a b:Str}:WP (Jy7 a b) (fun R=>a.length+b.length≤9223372036854775807∧R (a++b)):=⟨fun R h=>⟨_,by unfold Jy7; rw [if_pos h.1],h.2⟩⟩
instance wpChk {b:Bool}:WP (chk b) (fun R=>b=true∧R ()):=⟨fun R h=>⟨(),by rw [h.1]; rfl,h.2⟩⟩
theorem J6r{f:σ→α→Option σ}{es:List α}(I:Int→σ→Prop)(step:∀(n:Int) s e,e∈es→0≤n→n<es.length→I n s→W (f s e) (I (n+1))){s:σ}:WP (Qt8 f es s) (fun R=>I 0 s∧∀r,I es.length r→R r):=Bk fun h=>by
 have main:∀(l:List α) (n:Int) (s:σ),(∀e∈l,e∈es)→0≤n→n+l.length=es.length→I n s→W (Qt8 f l s) (I es.length):=by
  intro l
  induction l with
  | nil=>intro n s hm h0 hn hI; exact⟨s,rfl,by rw[←hn]; simpa using hI⟩
  | cons x l ih =>
   intro n s hm h0 hn hI;simp only[List.length_cons]at hn;obtain⟨s1,e1,h1⟩:=step n s x (hm x (.head _)) h0 (by omega) hI;show W ((f s x).bind fun s'=>Qt8 f l s') _;rw[e1];exact ih (n+1) s1 (fun e he=>hm e (.tail _ he)) (by omega) (by omega) h1
 exact main es 0 s (fun _ h=>h) (XO _) (by simp) h
theorem Ji4{f:σ→Option (σ⊕τ)}{N:Nat}[hN:Kb N](μ:σ→Nat)(I:σ→Prop)(Q:τ→Prop)(hμ:∀s,I s→μ s<18446744073709551616)
  (step:∀s,I s→W (f s) fun r=>match r with | .inl s'=>I s'∧μ s'<μ s | .inr t=>Q t) (s:σ):WP (Qf f N s) (fun R=>I s∧∀r,Q r→R r):=Bk fun h=>by
 have main:∀(k n:Nat) (s:σ),I s→μ s≤k→k<n→W (Qf f n s) Q:=by
  intro k
  induction k with
  | zero =>
   intro n s hI hk hn;obtain⟨m,rfl⟩:∃m,n=m+1:=⟨n - 1,by omega⟩
   obtain⟨r,e,hr⟩:=step s hI;cases r with
   | inl s'=>exact absurd hr.2 (by omega)
   | inr t=>exact⟨t,by simp[Qf,e],hr⟩
  | succ k ih =>
   intro n s hI hk hn;obtain⟨m,rfl⟩:∃m,n=m+1:=⟨n - 1,by omega⟩
   obtain⟨r,e,hr⟩:=step s hI;cases r with
   | inl s' =>
    obtain⟨t,e2,ht⟩:=ih m s' hr.1 (by have:=hr.2; omega) (by omega);exact⟨t,by simp[Qf,e,e2],ht⟩
   | inr t=>exact⟨t,by simp[Qf,e],hr⟩
 exact main (μ s) N s h (QY _) (QI (hμ s h) hN.le)
theorem ss:(∀(p:Prop) [Decidable p],(decide p=true)=p)∧(∀(p:Prop) [Decidable p],(decide p=false)=¬ p)∧(∀b:Bool,(¬ b=true)=(b=false))∧(∀a b:Bool,((a&&b)=true)=(a=true∧b=true))∧(∀a b:Bool,((a||b)=true)=(a=true∨b=true)) ∧
  (∀b:Bool,((!b)=true)=(b=false))∧(∀b:Bool,((!b)=false)=(b=true))∧(∀a b:Bool,((a&&b)=false)=(a=true→b=false))∧(∀a b:Bool,((a||b)=false)=(a=false∧b=false)) ∧
  (∀a b:Int,((a==b)=true)=(a=b))∧(∀a b:Int,((a==b)=false)=¬ a=b)∧(∀a b:Int,((a != b)=true)=¬ a=b)∧(∀a b:Int,((a != b)=false)=(a=b))∧(∀p q:Prop,(¬ (p∧q))=(p→¬ q))∧(∀p q:Prop,(¬ (p∨q))=(¬ p∧¬ q)):=by
 refine⟨?_,?_,?_,?_,?_,?_,?_,?_,?_,?_,?_,?_,?_,?_,?_⟩
 all_goals intros
 all_goals simp
theorem sz1:(∀(α β:Type) [Sz α] [Sz β] (p:α×β),sz p=max (sz p.1) (sz p.2))∧(∀x:Int,sz x=0)∧(∀x:Bool,sz x=0)∧(∀x:Unit,sz x=0)∧(∀x:List UInt8,sz x=0)∧(∀(α β:Type) [Sz α] [Sz β] (a:α),sz (Sum.inl a:α⊕β)=sz a) ∧
  (∀(α β:Type) [Sz α] [Sz β] (b:β),sz (Sum.inr b:α⊕β)=sz b)∧(∀(α:Type) [Sz α] [Qle α] (l:List α),sz l=l.length) ∧
  (∀(α:Type) [Sz α] (l m:List α),sz (l++m)=max (l.length+m.length) (max (sz l) (sz m)))∧(∀(α:Type) [Sz α] (x:α) (l:List α),sz (x::l)=max (l.length+1) (max (sz x) (sz l)))∧(∀(α:Type) [Sz α],sz ([]:List α)=0) :=
 ⟨fun _ _ _ _ _=>rfl,fun _=>rfl,fun _=>rfl,fun _=>rfl,fun _=>rfl,fun _ _ _ _ _=>rfl,fun _ _ _ _ _=>rfl,fun _ _ _ l=>Qwl l,fun _ _=>Jql,fun _ _=>Qhh,fun _ _=>rfl⟩
theorem sh1:(∀(α β:Type) [Sh α] [Sh β] (p:α×β),Sh.sh p=(Sh.sh p.1∧Sh.sh p.2))∧(∀x:Int,Sh.sh x=True)∧(∀x:Bool,Sh.sh x=True)∧(∀x:Unit,Sh.sh x=True)∧(∀(α:Type) (x:Wn α),Sh.sh x=True)∧(∀(α β:Type) [Sh α] [Sh β] (a:α),Sh.sh (Sum.inl a:α⊕β)=Sh.sh a) ∧
  (∀(α β:Type) [Sh α] [Sh β] (b:β),Sh.sh (Sum.inr b:α⊕β)=Sh.sh b)∧(∀(α:Type) [Sh α] (l m:List α),Sh.sh (l++m)=(Sh.sh l∧Sh.sh m))∧(∀(α:Type) [Sh α] (x:α) (l:List α),Sh.sh (x::l)=(Sh.sh x∧Sh.sh l))∧(∀(α:Type) [Sh α],Sh.sh ([]:List α)=True)∧Sh.sh ([]:List UInt8)=True :=
 ⟨fun _ _ _ _ _=>rfl,fun _=>rfl,fun _=>rfl,fun _=>rfl,fun _ _=>rfl,fun _ _ _ _ _=>rfl,fun _ _ _ _ _=>rfl,fun _ _=>Jqm,fun _ _=>J0i,fun _ _=>propext ⟨fun _=>trivial,fun _=>⟨fun _ h=>by cases h⟩⟩,propext ⟨fun _=>trivial,fun _=>by show([]:List UInt8).length≤_; decide⟩⟩
theorem mx1:(∀n:Nat,max 0 n=n)∧(∀n:Nat,max n 0=n)∧(∀a b c:Nat,(max a b≤c)=(a≤c∧b≤c))∧(∀a b:Nat,((max a b:Nat):Int)=max (a:Int) (b:Int))∧(∀a b c:Int,(max a b≤c)=(a≤c∧b≤c)) :=
 ⟨KW,ZL,fun _ _ _=>propext ZX,Jwu,fun _ _ _=>propext Int.max_le⟩
theorem sS:(((∀(α β:Type) (p:α⊕β→Prop),(∀x,p x)=((∀a,p (.inl a))∧∀b,p (.inr b)))∧(∀(α β:Type) (a b:α),((Sum.inl a:α⊕β)=.inl b)=(a=b))∧(∀(α β:Type) (a b:β),((Sum.inr a:α⊕β)=.inr b)=(a=b))∧(∀(α:Type) (p:α→Prop) (a:α),(∀b,a=b→p b)=p a)∧(∀(α:Type) (p:α→Prop) (a:α),(∀b,b=a→p b)=p a)) ∧
  (∀p:Prop,(False→p)=True)∧(∀α:Type,(α→True)=True)∧(∀p:Prop,(p→True)=True)∧(∀p:Prop,(True→p)=p)∧(∀p:Prop,(p∧True)=p)∧(∀p:Prop,(True∧p)=p)∧(∀(α:Type) [Nonempty α] (p:Prop),(α→p)=p)∧(∀(α:Type) [BEq α] [LawfulBEq α] (a b:α),((a==b)=true)=(a=b))∧(∀(α:Type) [BEq α] [LawfulBEq α] (a b:α),((a != b)=true)=(a≠b))∧(∀(α:Type) (a b:α),(a≠b)=¬ (a=b)) ∧
  (∀(α:Type) (l m:List α),(l++m).length=l.length+m.length)∧(∀(α:Type) (x:α) (l:List α),(x::l).length=l.length+1)∧(∀(α:Type),([]:List α).length=0)∧(∀(α:Type) (l:List α) (i:Nat) (x:α),(l.set i x).length=l.length)∧(∀(α:Type) (l:List α),[]++l=l)∧∀n:Nat,0+n=n)∧(type_of% ss)∧(type_of% sz1)∧(type_of% sh1)∧type_of% mx1:=by
 refine⟨⟨⟨fun _ _ p=>propext Sum.forall,?_,?_,?_,?_⟩,?_,?_,?_,?_,?_,?_,fun _ _ _=>propext (forall_const _),fun _ _ _ a b=>propext beq_iff_eq,fun _ _ _ a b=>propext bne_iff_ne,?_,?_,?_,?_,?_,?_,?_⟩,ss,sz1,sh1,mx1⟩
 all_goals simp
theorem lv{P:Prop}(h:P:=by first | assumption | omega | exact Qbj | ((simp (disch:=omega) only [Q9] at *)<;>omega) | ((first | refine Jnm ?_ ?_ | refine Jnn ?_ ?_)<;>(try simp only [sz1,mx1])<;>first | omega | ((simp (disch:=omega) only [Q9] at *)<;>omega)) | exact Nat.le_trans Hq (by omega) | exact Jwx _ | exact Qz7 _ | grind [Qpc,Qz5,Ji3,Ql4,Q75,Qhj,Qrd,Qre,Qlh,Qrf]):P:=h
theorem lw {P:Prop} (h:P:=by
  try simp only[sS,reduceCtorEq]at *
  repeat' (first | intro _ | apply And.intro)
  all_goals first | assumption | omega | exact Jd5 (by assumption) | exact⟨by assumption⟩ | exact⟨by omega⟩ | (have k:=fun a b=>g0 a b _ (by assumption); omega) | exact⟨fun _ h=>absurd h QT⟩ | exact⟨fun d hd=>absurd hd QT⟩ | exact Q5.all (And.right (And.right (by assumption))) _ (by assumption) | exact⟨Zp.deep (Q5.all (And.right (And.right (by assumption))) _ (by assumption))⟩ | exact Int.lt_of_lt_of_le (g0 _ (by assumption)).2 (by omega) | exact(g2 _ (by assumption)).1 | exact Int.lt_of_le_of_lt (g2 _ (by assumption)).2.1 (by omega) | exact Y4 (by assumption) (Uv (by decide)) | exact Y4 (by assumption) (Uv (show(0:Int)≤99100800 by decide)) | exact Qrh (by assumption) (g2 _ (by assumption)).2.2.2 | ((repeat cases ‹_∧_›); first | assumption | omega | exact Ji7 (by assumption) (by omega) | (rw[hw (by omega)]; exact Q78 (by assumption) (by assumption) (by assumption) (by assumption) (by omega) h0 (by assumption)) | exact Qfm | exact Jns (by first | assumption | rfl) (by first | assumption | rfl) (by omega) (by omega) (by rfl) | exact Qti (by assumption) (by assumption) (by assumption) | exact J0m (by assumption) (by first | assumption | rfl) (by omega) (by omega) (by rfl) | exact(Ql7 (by assumption) (by assumption)).1 | exact(Ql7 (by assumption) (by assumption)).2 | exact Q8a (by assumption) | exact Q0d (by assumption) (by assumption) (by assumption) (by assumption) (by assumption) | exact Y4 (by assumption) (Uv (by assumption)) | exact Ma | exact .inl rfl | exact .inr (J6w (by assumption) (by assumption) (by assumption)) | exact Jqw (by assumption) (by assumption) (by assumption) (by assumption) (by assumption) (by assumption) (by rfl) | exact Jqs (by assumption) (by assumption) (by rfl) | exact J0l (by first | assumption | rfl) | exact Jxf (by first | assumption | rfl) | exact Jns (by first | assumption | rfl) (by first | assumption | rfl) (by omega) (by omega) (Eq.trans (by assumption) (by assumption)) | exact Jw6 | exact Y4 (by assumption) (Uv ⟨rfl,rfl⟩) | exact J6x (by assumption) (by assumption) (by assumption) | exact J6y (by assumption) (by assumption) (by assumption) (by assumption) | exact To (by assumption) (by assumption) | exact Jxe (by first | assumption | rfl) (by first | assumption | rfl) (by omega) (by omega) (by omega) (by omega) (by rfl) (by assumption) | exact Jxd (by first | assumption | rfl) (by first | assumption | rfl) (by omega) (by omega) (by omega) (by omega) (by assumption) | exact Nat.le_trans Hq (by assumption) | exact Y4 (Y4 (Qfl (by assumption) (by assumption)) (Uv (Jye (by assumption) (by assumption) (by assumption) (by assumption) (by assumption)))) (Qfl (by assumption) (by assumption)) | exact Y4 (by assumption) (Uv ⟨rfl,g0 _ (by assumption),by assumption⟩) | exact(g2 (by omega) (by omega)).1 | exact(g2 (by omega) (by omega)).2 | exact J02 (by assumption) (g0 _ (by assumption)) | exact J03 (by assumption) (by assumption) (by assumption) (by assumption) (by assumption) (g0 _ (by assumption)) | exact J01 | exact J04 (by assumption) (by assumption) (by rfl) (by rfl) | exact J05 (by assumption) (by assumption) (by assumption) | exact Jfo | exact Jyh (by assumption) (by assumption) (by assumption) | exact Jyi (by assumption) (by assumption) (by assumption) (by assumption) | exact Qmd (by assumption) (by assumption) | exact g0 _ (by assumption) | exact Q8u (by assumption) | exact Jyf (by assumption) | exact J07 (by assumption) (by assumption) | exact(by assumption:∃a∈_,_) | exact(g0 _ (by assumption)).1 | exact(g0 _ (by assumption)).2 | exact Y4 (Y4 (Qfl (by assumption) (by assumption)) (Uv ⟨by assumption,by assumption⟩)) (Qfl (by assumption) (by assumption)) | exact g1 _ (by assumption) | exact J08 (by assumption) (by assumption) (by rfl) (by rfl) | (rw[Q9 (by omega) (by omega),JA (by omega)]; omega) | (have q:=g0 (by omega); rw[q]at *; omega) | exact(g1 (by omega) (by omega)).1 | exact(g1 (by omega) (by omega)).2 | exact J80 (by assumption) (by assumption) (by assumption) | exact J9n (by assumption) (by assumption) (by assumption) (by assumption) | exact J7a (by assumption) | exact J9o (by assumption) (by assumption) (by assumption) (by assumption) (by assumption) (by assumption) (by assumption) (by assumption) (by assumption) | exact J9p (by assumption) (by assumption) (by assumption) (by assumption) | exact J9q (by assumption) (by assumption) (by assumption) (by assumption) (by assumption) (by assumption) | exact J1f (by assumption) (by assumption) | exact J1g (by assumption) (by assumption) (by assumption)) | exact lv):P:=h
theorem mkW {o o':Option α} {T:(α→Prop)→Prop} (e:o=o') [hw:WP o' T] (P:Prop) (Q:α→Prop) (k:P→T Q:=by
  intro h
  exact lw):WP o (fun R=>P∧∀r,Q r→R r):=Bk fun h=>by rw[e]; exact hw.spec Q (k h)
theorem J6s{f:σ→Option (σ⊕τ)}{N:Nat}[hN:Kb N](ix:σ→Int)(len:Nat)(I:σ→Prop)(Q:τ→Prop)(hl:∀s,I s→len≤9223372036854775807)
  (step:∀s,I s→0≤ix s→ix s≤len→(ix s<len→IntKind.wrap .i64 (ix s+1)=ix s+1)→W (f s) fun r=>match r with | .inl s'=>I s'∧ix s<len∧ix s'=IntKind.wrap .i64 (ix s+1) | .inr t=>Q t) (s:σ) :
  WP (Qf f N s) (fun R=>(I s∧0≤ix s∧ix s≤len)∧∀r,Q r→R r) :=
 Ji4 (fun s=>((len:Int) - ix s).toNat) (fun s=>I s∧0≤ix s∧ix s≤len) Q (fun s h=>by have:=hl s h.1; omega) (fun s h=>by
  have hl':=hl s h.1
  have hw:ix s<len→IntKind.wrap .i64 (ix s+1)=ix s+1:=fun hlt=>by
   exact Q9 (by omega) (by omega)
  refine(step s h.1 h.2.1 h.2.2 hw).mono fun r hr=>?_;cases r with
  | inl s' =>
   obtain⟨h1,h2,h3⟩:=hr;rw[hw h2]at h3;exact⟨⟨h1,by omega,by omega⟩,by omega⟩
  | inr t=>exact hr) s
theorem upL {f f':σ→Option (σ⊕τ)} {B:σ→(σ⊕τ→Prop)→Prop} (e:∀s,f s=f' s) [hf:WPf f' B] {N:Nat} [hN:Kb N] (ix:σ→Int) (len:Nat) (I:σ→Prop) (Q:τ→Prop) (hl:∀s,I s→len≤9223372036854775807:=by
  intro s h
  try simp only[sz1,sh1,mx1]at *
  first | omega | exact Nat.le_trans Hq (by omega) | grind [Qpc])
  (step:∀s,I s→0≤ix s→ix s≤len→len≤9223372036854775807→(ix s<len→IntKind.wrap .i64 (ix s+1)=ix s+1)→B s (fun r=>match r with | .inl s'=>I s'∧ix s<len∧ix s'=IntKind.wrap .i64 (ix s+1) | .inr t=>Q t):=by
  intro s h h0 h1 h2 hw
  exact lw) {s:σ} :
  WP (Qf f N s) (fun R=>(I s∧0≤ix s∧ix s≤len)∧∀r,Q r→R r):=J6s ix len I Q hl (fun s h h0 h1 hw=>by rw[e s]; exact hf.spec s _ (step s h h0 h1 (hl s h) hw)) s
theorem Qrg {α ε:Type} {f f':Int→Option (Int⊕(Unit⊕ε))} {B:Int→(Int⊕(Unit⊕ε)→Prop)→Prop} (e:∀s,f s=f' s) [hf:WPf f' B] {N:Nat} [hN:Kb N] (l:List α) (I:Prop) (P:α→Prop) (C:Prop) (E:ε→Prop) (hl:I→l.length≤9223372036854775807:=by
  intro h
  try simp only[sz1,sh1,mx1]at *
  first | omega | exact Nat.le_trans Hq (by omega) | grind [Qpc])
  (fin:I→(∀y∈l,P y)→C:=by
  intro h hall
  first | exact hall | exact Q74 hall (by omega))
  (step:∀s:Int,I→0≤s→s≤l.length→l.length≤9223372036854775807→(s<l.length→IntKind.wrap .i64 (s+1)=s+1)→B s (fun r=>match r with | .inl s'=>(∃x,l[s.toNat]?=some x∧P x)∧s<l.length∧s'=IntKind.wrap .i64 (s+1) | .inr t=>(∀u,t=.inl u→l.length≤s)∧∀u,t=.inr u→E u):=by
  intro s h h0 h1 h2 hw
  try simp only[sS,reduceCtorEq]at *
  repeat' (first | intro _ | apply And.intro)
  all_goals first | assumption | omega | ((simp (disch:=omega) only [Q9]at *)<;>omega) | (refine⟨_,by assumption,?_⟩; first | assumption | omega | ((simp (disch:=omega) only [Q9]at *)<;>omega) | ((first | refine Jnm ?_ ?_ | refine Jnn ?_ ?_)<;>(try simp only[sz1,mx1])<;>first | omega | ((simp (disch:=omega) only [Q9]at *)<;>omega)) | exact Nat.le_trans Hq (by omega) | exact Jwx _ | exact Qz7 _ | grind [Qpc,Qz5,Ji3,Ql4,Q75,Qhj,Qrd,Qre,Qlh,Qrf]) | exact Nat.le_trans Hq (by omega) | exact Jwx _ | exact Qz7 _ | grind [Qpc,Qz5,Ji3,Ql4,Q75,Qhj,Qrd,Qre,Qlh,Qrf]) {s:Int} :
  WP (Qf f N s) (fun R=>(I∧Qlf P l s∧0≤s∧s≤l.length)∧∀r:Unit⊕ε,((∀u,r=.inl u→C)∧∀u,r=.inr u→E u)→R r):=⟨fun R h=>by
 have hw:=J6s (f:=f) (N:=N) (fun s=>s) l.length (fun s=>I∧Qlf P l s) (fun r:Unit⊕ε=>(∀u,r=.inl u→C)∧∀u,r=.inr u→E u) (fun s h=>hl h.1) (fun s h h0 h1 hw=>by
  rw[e s];refine(hf.spec s _ (step s h.1 h0 h1 (hl h.1) hw)).mono fun r hr=>?_;cases r with
  | inl s' =>
   obtain⟨x1,x2,x3⟩:=hr;refine⟨⟨h.1,?_⟩,x2,x3⟩;rw[x3,hw x2];obtain⟨x,y1,y2⟩:=x1;exact Ow h0 h.2 y1 y2
  | inr t =>
   refine⟨fun u hu=>?_,hr.2⟩;have hge:=hr.1 u hu
   exact fin h.1 (Qfj h.2 hge)) s
 exact hw.spec R ⟨⟨⟨h.1.1,h.1.2.1⟩,h.1.2.2⟩,h.2⟩⟩
theorem J8s{f:σ→Option (σ⊕τ)}{N:Nat}[hN:Kb N](ix:σ→Int)(E:Int)(I:σ→Prop)(Q:τ→Prop)(hl:∀s,I s→E≤9223372036854775807)
  (step:∀s,I s→0≤ix s→(ix s<E→IntKind.wrap .i64 (ix s+1)=ix s+1)→W (f s) fun r=>match r with | .inl s'=>I s'∧ix s<E∧ix s'=IntKind.wrap .i64 (ix s+1) | .inr t=>Q t) (s:σ) :
  WP (Qf f N s) (fun R=>(I s∧0≤ix s)∧∀r,Q r→R r) :=
 Ji4 (fun s=>(E - ix s).toNat) (fun s=>I s∧0≤ix s) Q (fun s h=>by have:=hl s h.1; omega) (fun s h=>by
  have hl':=hl s h.1
  have hw:ix s<E→IntKind.wrap .i64 (ix s+1)=ix s+1:=fun hlt=>by
   exact Q9 (by omega) (by omega)
  refine(step s h.1 h.2 hw).mono fun r hr=>?_;cases r with
  | inl s' =>
   obtain⟨h1,h2,h3⟩:=hr;rw[hw h2]at h3;exact⟨⟨h1,by omega⟩,by omega⟩
  | inr t=>exact hr) s
theorem upI {f f':σ→Option (σ⊕τ)} {B:σ→(σ⊕τ→Prop)→Prop} (e:∀s,f s=f' s) [hf:WPf f' B] {N:Nat} [hN:Kb N] (ix:σ→Int) (E:Int) (I:σ→Prop) (Q:τ→Prop) (hl:∀s,I s→E≤9223372036854775807:=by
  intro s h
  try simp only[sz1,sh1,mx1]at *
  first | omega | grind [Qpc])
  (step:∀s,I s→0≤ix s→(ix s<E→IntKind.wrap .i64 (ix s+1)=ix s+1)→B s (fun r=>match r with | .inl s'=>I s'∧ix s<E∧ix s'=IntKind.wrap .i64 (ix s+1) | .inr t=>Q t):=by
  intro s h h0 hw
  exact lw) {s:σ} :
  WP (Qf f N s) (fun R=>(I s∧0≤ix s)∧∀r,Q r→R r):=J8s ix E I Q hl (fun s h h0 hw=>by rw[e s]; exact hf.spec s _ (step s h h0 hw)) s
theorem mkL {f f':σ→Option (σ⊕τ)} {B:σ→(σ⊕τ→Prop)→Prop} (e:∀s,f s=f' s) [hf:WPf f' B] {N:Nat} [hN:Kb N] (μ:σ→Nat) (I:σ→Prop) (Q:τ→Prop) (hμ:∀s,I s→μ s<18446744073709551616:=by
  intro s h
  try simp only[sz1,sh1,mx1]at *
  first | omega | grind [Qpc])
  (step:∀s,I s→B s (fun r=>match r with | .inl s'=>I s'∧μ s'<μ s | .inr t=>Q t):=by
  intro s h
  exact lw) {s:σ} :
  WP (Qf f N s) (fun R=>I s∧∀r,Q r→R r):=Ji4 μ I Q hμ (fun s h=>by rw[e s]; exact hf.spec s _ (step s h)) s
end
mutual
def dpt{α:Type}:Wn α→Nat
 | .mk _ ks=>Jqn ks+1
def Jqn{α:Type}:List (Wn α)→Nat
 | []=>0
 | x::l=>max (dpt x) (Jqn l)
end
theorem Jd1{α:Type}:∀{l:List (Wn α)} {x:Wn α},x∈l→dpt x≤Jqn l
 | y::l,x,h=>by
  rw[Jqn];rcases QX.1 h with rfl | h
  ·omega
  ·have:=Jd1 h; omega
theorem Jwy{α:Type}{e x:Wn α}(h:x∈e.ks):dpt x<dpt e:=by
 cases e with
 | mk a ks=>rw[dpt]; have:=Jd1 (l:=ks) h; omega
theorem Jno{α:Type}{K:Nat}:∀{l:List (Wn α)},(∀x∈l,dpt x≤K)→Jqn l≤K
 | [],_=>QN _
 | x::l,h=>by rw[Jqn]; exact ZX.2 ⟨h x (.head _),Jno fun y hy=>h y (.tail _ hy)⟩
theorem J6t{α:Type}{e:Wn α}{K:Nat}(h:∀x∈e.ks,dpt x≤K):dpt e≤K+1:=by
 cases e with
 | mk a ks=>rw[dpt]; have:=Jno (l:=ks) h; omega
structure Q5{α:Type}(P:α→Prop)(l:List α):Prop where
 all:∀x∈l,P x
structure Zp(x:Qn):Prop where
 deep:∀d∈x.2.2.2.2.2.2,dpt d.2.1≤4096
open Go Gd Sz
theorem Q76(m:List (Int×Int×Int×Int×Str×List Str×List Str×Bool×Bool))(x:Int) :
  ((Qz (k:=.int .i64) x m).getD (0,0,0,([]:Str),([]:List Str),([]:List Str),false,false)).2.2.2.2.1.length≤sz m∧((Qz (k:=.int .i64) x m).getD (0,0,0,([]:Str),([]:List Str),([]:List Str),false,false)).2.2.2.2.2.1.length≤sz m:=by
 have h:=Qhj x ((0,0,0,([]:Str),([]:List Str),([]:List Str),false,false):Int×Int×Int×Str×List Str×List Str×Bool×Bool) m;simp only[sz1,mx1,JW,ZL,KW]at h ⊢;omega
theorem Jnp(m:List (Int×Int×Int×Int×Bool×Bool×List Int))(x:Int) :
  ((Qz (k:=.int .i64) x m).getD (0,0,0,false,false,([]:List Int))).2.2.2.2.2.length≤sz m:=by
 have h:=Qhj x ((0,0,0,false,false,([]:List Int)):Int×Int×Int×Bool×Bool×List Int) m;simp only[sz1,mx1,JW,ZL,KW]at h ⊢;omega
theorem Jd2(m:List (Int×List Int))(x:Int):((Qz (k:=.int .i64) x m).getD ([]:List Int)).length≤sz m:=by
 have h:=Qhj x ([]:List Int) m;simp only[sz1,mx1,JW,ZL]at h ⊢;omega
theorem J0j{V:Type}[Sz V]{K:Int}{x:Int}{v:V}{m:List (Int×V)}(h1:(sz m:Int)+1≤K)(h2:(sz v:Int)≤K):((sz (Va (k:=.int .i64) x v m:List (Int×V)):Nat):Int)≤K:=by
 have:=Ql4 x v m;omega
theorem Yz{α:Type}{l:List α}{i:Int}{x:α}(h0:0≤i)(h:l[i.toNat]?=some x):l.take i.toNat++[x]=l.take (i+1).toNat:=by
 have e:(i+1).toNat=i.toNat+1:=by omega
 rw[e,List.take_add_one,h]; rfl
theorem Vr{α:Type}{l:List α}{i:Int}(h:(l.length:Int)≤i):l.take i.toNat=l:=List.take_of_length_le (by omega)
instance (priority:=2000) wpSlcS {l:Str} {a b:Int}:WP (slc l a b) (fun R=>(0≤a∧a≤b∧b≤(List.length l:Int))∧∀s:Str,(List.length s:Int)=b - a→R s):=⟨fun R h=>by
 obtain⟨⟨h0,h1,h2⟩,hR⟩:=h;refine⟨(l.drop a.toNat).take (b - a).toNat,?_,hR _ (by rw[List.length_take,List.length_drop]; omega)⟩;unfold slc
 rw[if_pos ⟨h0,h1,h2⟩]⟩
def lpd(y:Int):Int:=if(y.tmod 4=0∧y.tmod 100≠0)∨y.tmod 400=0 then 1 else 0
def bef(y:Int):Int:=365*(y - 2000)+(if y>2000 then(y - 2001) / 4 - (y - 2001) / 100+(y - 2001) / 400+1 else 0)
theorem Jwz(y:Int):0≤lpd y∧lpd y≤1:=by unfold lpd; split<;>omega
theorem Jw0(y:Int)(h:2000≤y):bef (y+1)=bef y+365+lpd y:=by
 unfold bef lpd;rw[JA (by omega),JA (by omega),JA (by omega)];split<;>split<;>split<;>omega
theorem Q77(y:Int)(h:2000≤y):365*(y - 2000)≤bef y∧bef y≤366*(y - 2000):=by
 unfold bef;split<;>omega
theorem Jw1:bef 2400=146097:=by decide
def mon(y m:Int):Int:=if m=2 then 28+lpd y else if m=4∨m=6∨m=9∨m=11 then 30 else 31
def lft(y m:Int):Int:=if m=1 then 365+lpd y else if m=2 then 334+lpd y else if m=3 then 306 else if m=4 then 275 else if m=5 then 245 else if m=6 then 214 else if m=7 then 184 else if m=8 then 153 else if m=9 then 122 else if m=10 then 92 else if m=11 then 61 else if m=12 then 31 else 0
theorem Jw2(y m:Int)(h:1≤m∧m≤12):lft y m=mon y m+lft y (m+1):=by
 have hx:m=1∨m=2∨m=3∨m=4∨m=5∨m=6∨m=7∨m=8∨m=9∨m=10∨m=11∨m=12:=by omega
 rcases hx with rfl | rfl | rfl | rfl | rfl | rfl | rfl | rfl | rfl | rfl | rfl | rfl<;>simp[lft,mon]<;>omega
theorem J8t(y:Int):lft y 1=365+lpd y:=by simp[lft]
theorem J6u(y:Int):lft y 13=0:=by simp[lft]
theorem Qfk{W:Type}{key:Int}{v:W}{y:Int×W}:∀{m:List (Int×W)},y∈(Va (k:=.int .i64) key v m:List (Int×W))→y=(key,v)∨y∈m
 | [],h=>by
  unfold Va at h;rcases QX.1 h with h | h
  ·exact .inl h
  ·exact .inr h
 | x::m,h=>by
  unfold Va at h;cases hk:eqK (.int .i64) key x.1 with
  | true =>
   rw[hk]at h;rcases QX.1 h with h | h
   ·exact .inl h
   ·exact .inr (.tail _ h)
  | false =>
   rw[hk]at h;rcases QX.1 h with h | h
   ·exact .inr (h▸.head _)
   ·rcases Qfk h with h | h
    ·exact .inl h
    ·exact .inr (.tail _ h)
theorem Q4y{W:Type}{key:Int}:∀{m:List (Int×W)} {v:W},Qz (k:=.int .i64) key m=some v→∃p∈m,p.2=v
 | x::m,v,h=>by
  unfold Qz at h;cases hk:eqK (.int .i64) key x.1 with
  | true=>rw[hk]at h; exact⟨x,.head _,Option.some.inj h⟩
  | false =>
   rw[hk]at h;obtain⟨p,hp,e⟩:=Q4y h;exact⟨p,.tail _ hp,e⟩
structure Qnr(m:List (Int×Int))(n:Int):Prop where
 all:∀p∈m,0≤p.2∧p.2<n
theorem Ql5{n:Int}:Qnr [] n:=⟨fun _ h=>absurd h QT⟩
theorem Ql6{m:List (Int×Int)}{n key v:Int}(h:Qnr m n)(h0:0≤v)(h1:v<n):Qnr (Va (k:=.int .i64) key v m) n:=⟨fun p hp=>by
 rcases Qfk hp with e | hp
 ·rw[e]; exact⟨h0,h1⟩
 ·exact h.all p hp⟩
theorem Ql7{m:List (Int×Int)}{n key d:Int}(h:Qnr m n)(hs:(Qz (k:=.int .i64) key m).isSome=true):0≤(Qz (k:=.int .i64) key m).getD d∧(Qz (k:=.int .i64) key m).getD d<n:=by
 cases e:Qz (k:=.int .i64) key m with
 | none=>rw[e]at hs; exact absurd hs (by decide)
 | some v =>
  obtain⟨p,hp,e2⟩:=Q4y e;have:=h.all p hp;rw[e2]at this; exact this
theorem Q4z{W:Type}{key:Str}{v:W}:∀{m:List (Str×W)},Qz (k:=.str) key (Va (k:=.str) key v m:List (Str×W))=some v
 | []=>by
  unfold Va Qz;rw[Qz7]; rfl
 | x::m=>by
  unfold Va;cases hk:eqK .str key x.1 with
  | true=>show Qz (k:=.str) key ((key,v)::m:List (Str×W))=_; unfold Qz; rw[Qz7]; rfl
  | false =>
   show Qz (k:=.str) key (x::(Va (k:=.str) key v m:List (Str×W)))=_;unfold Qz;rw[hk]; exact Q4z
theorem Ma{α:Type}{P:α→Prop}:Q5 P []:=⟨fun _ h=>absurd h QT⟩
theorem Y4{α:Type}{P:α→Prop}{l m:List α}(h:Q5 P l)(k:Q5 P m):Q5 P (l++m):=⟨fun x hx=>(QZ.1 hx).elim (h.all x) (k.all x)⟩
theorem Uv{α:Type}{P:α→Prop}{x:α}(h:P x):Q5 P [x]:=⟨fun y hy=>by rw[QO.1 hy]; exact h⟩
theorem Jd3{α:Type}{P:α→Prop}{x y:α}(h:P x)(k:P y):Q5 P [x,y]:=⟨fun z hz=>by
 rcases QX.1 hz with e | hz
 ·rw[e]; exact h
 ·rw[QO.1 hz]; exact k⟩
theorem Qrh{α:Type}{P:α→Prop}{l:List α}{i:Nat}{x:α}(h:Q5 P l)(k:P x):Q5 P (l.set i x):=⟨fun y hy=>(XV hy).elim (h.all y) (fun e=>e▸k)⟩
theorem Ql8{α:Type}{P Q:α→Prop}{l:List α}(h:Q5 P l)(k:∀x,P x→Q x):Q5 Q l:=⟨fun x hx=>k x (h.all x hx)⟩
structure Mc(B:Int)(c:Int×Int×Int):Prop where
 side:0≤c.2.1∧c.2.1≤1
 time:0≤c.1∧c.1≤B
instance wpSortF {l:List (Int×Int×Int)}:WP (Qnh (fun x:Int×Int×Int=>x.1) l) (fun R=>(l.length≤1099511627776∧Q5 (Mc 12622780800) l)∧∀r,r.length=l.length→(∀P:Int×Int×Int→Prop,Q5 P l→Q5 P r)→R r):=⟨fun R h=>by
 obtain⟨⟨h1,h2⟩,hR⟩:=h
 have hk:l.all (fun x=>kOk x.1)=true:=QR.2 fun x hx=>by
  have:=(h2.all x hx).time;unfold kOk;simp only[QQ,decide_eq_true_eq];omega
 have he:∃r,Qnh (fun x:Int×Int×Int=>x.1) l=some r:=by
  unfold Qnh;rw[hk];have:decide (l.length<4611686018427387904)=true:=decide_eq_true (by omega);rw[this];simp only[KK,cond_true];cases Nat.ble l.length 12&&Jiw (fun x:Int×Int×Int=>x.1) l<;>exact⟨_,rfl⟩
 obtain⟨r,e⟩:=he;have hp:=(Qyv _ e).1
 exact⟨r,e,hR r hp.length_eq (fun P hP=>⟨fun x hx=>hP.all x (hp.mem_iff.1 hx)⟩)⟩⟩
theorem Qz8{β:Type}{c:Prop}[Decidable c]{a:Option Bool}{f:Bool→Option β}{A:(Bool→Prop)→Prop}{B C:(β→Prop)→Prop}[ha:WP a A][hb:WP (f true) B][hc:WP (f false) C] :
  WP ((if c then some true else a).bind f) (fun R=>(c→B R)∧(¬ c→A fun b=>(b=true→B R)∧(b=false→C R))):=⟨fun R h=>by
 by_cases h0:c
 ·rw[if_pos h0]; exact hb.spec R (h.1 h0)
 ·rw[if_neg h0]
  obtain⟨r,e,hr⟩:=ha.spec _ (h.2 h0);rw[e];cases r with
  | true=>exact hb.spec R (hr.1 rfl)
  | false=>exact hc.spec R (hr.2 rfl)⟩
theorem J6v{β:Type}{c:Prop}[Decidable c]{a:Option Bool}{f:Bool→Option β}{A:(Bool→Prop)→Prop}{B C:(β→Prop)→Prop}[ha:WP a A][hb:WP (f true) B][hc:WP (f false) C] :
  WP ((if c then a else some false).bind f) (fun R=>(c→A fun b=>(b=true→B R)∧(b=false→C R))∧(¬ c→C R)):=⟨fun R h=>by
 by_cases h0:c
 ·rw[if_pos h0]
  obtain⟨r,e,hr⟩:=ha.spec _ (h.1 h0);rw[e];cases r with
  | true=>exact hb.spec R (hr.1 rfl)
  | false=>exact hc.spec R (hr.2 rfl)
 ·rw[if_neg h0]; exact hc.spec R (h.2 h0)⟩
instance (priority:=900) wpfOpt {α γ:Type} {f:Option α→Option γ} {A:α→(γ→Prop)→Prop} {B:(γ→Prop)→Prop} [ha:WPf (fun a=>f (some a)) A] [hb:WP (f none) B]:WPf f (fun s R=>(∀a,s=some a→A a R)∧(s=none→B R)):=⟨fun s R k=>by
 cases s with
 | some a=>exact ha.spec a R (k.1 a rfl)
 | none=>exact hb.spec R (k.2 rfl)⟩
theorem Q40{α:Type}{o:Option α}(h:o=none):isNone o=true:=by rw[h]; rfl
theorem Jd4{W:Type}{key:Str}{v:W}{m:List (Str×W)}{C:Prop}(h:Qz (k:=.str) key (Va (k:=.str) key v m:List (Str×W))=none):C:=by
 rw[Q4z]at h; exact absurd h (by simp)
instance wpSortZ {l:List Int}:WP (Q33 l) (fun R=>l.length≤1099511627776∧∀r,r.length=l.length→R r):=⟨fun R h=>by
 refine⟨Qsj l,?_,h.2 _ (Qb4 l).length_eq⟩;unfold Q33
 rw[decide_eq_true (by omega)]; rfl⟩
instance wpCompactZ {l:List Int}:WP (Qeh l) (fun R=>l.length≤1099511627776∧∀r,r.length≤l.length→R r):=⟨fun R h=>by
 refine⟨Lib.compact l,?_,h.2 _ (Lib.compact_length_le l)⟩;unfold Qeh
 rw[decide_eq_true (by omega)]; rfl⟩
instance wpFiltZ {p:Int→Bool} {l:List Int}:WP (Q34 p l) (fun R=>l.length≤1099511627776∧∀r,r.length≤l.length→R r):=⟨fun R h=>by
 refine⟨l.filter fun x=>!p x,?_,h.2 _ (List.length_filter_le _ _)⟩;unfold Q34
 rw[decide_eq_true (by omega)]; rfl⟩
def Q41(K:Int):List Int→Prop
 | []=>True
 | a::l=>(0≤a∧a≤K)∧Q41 K l
theorem Jd5{K:Int}:∀{l:List Int},(∀y∈l,0≤y∧y≤K)→Q41 K l
 | [],_=>True.intro
 | a::l,h=>⟨h a (.head _),Jd5 fun y hy=>h y (.tail _ hy)⟩
structure Qtg(s:Int×Int×Int):Prop where
 upto:0≤s.1∧s.1≤1099511627776
 inc:1≤s.2.1∧s.2.1≤1099511627776
 price:0≤s.2.2∧s.2.2≤1125899906842624
theorem Jqo{s:Int×Int×Int}(h1:Q41 1099511627776 [s.1,s.2.1])(h2:s.2.1≠0)(h3:Q41 1125899906842624 [s.2.2]):Qtg s:=⟨h1.1,⟨by have:=h1.2.1; omega,h1.2.1.2⟩,h3.1⟩
theorem Jw3(v a i:Int)(h1:1≤i)(h2:i≤1099511627776)(h3:a<v)(h4:0≤a)(h5:v≤2199023255552):IntKind.wrap .i64 (Int.tdiv (IntKind.wrap .i64 (IntKind.wrap .i64 (IntKind.wrap .i64 (v - a)+i) - 1)) i)≠0:=by
 rw[Q9 (n:=v - a) (by omega) (by omega),Q9 (n:=v - a+i) (by omega) (by omega),Q9 (n:=v - a+i - 1) (by omega) (by omega),QU (by omega)]
 have h6:1≤(v - a+i - 1) / i:=by
  rw[Int.le_ediv_iff_mul_le (by omega)]; omega
 have h7:(v - a+i - 1) / i≤v - a+i - 1:=XN _ (by omega);rw[Q9 (by omega) (by omega)]; omega
theorem J8u{v a i:Int}(h:IntKind.wrap .i64 (Int.tdiv (IntKind.wrap .i64 (IntKind.wrap .i64 (IntKind.wrap .i64 (v - a)+i) - 1)) i)=0)(h1:1≤i∧i≤1099511627776)(h3:¬ v≤a)(h4:0≤a)(h5:v≤2199023255552):False:=Jw3 v a i h1.1 h1.2 (by omega) h4 h5 h
structure X9(b:Q7):Prop where
 ev:b.1.length≤32
 tarL:sz b.2.1≤4096
 tarS:Sh.sh b.2.1
 tarO:Q5 Zp b.2.1
 prodL:b.2.2.1.length≤32
 prodS:sz b.2.2.1≤4096
 prodO:Q5 (fun p:Qm=>p.2.2.2.2.2.length≤32) b.2.2.1
 hol:b.2.2.2.2.1.length≤4096
structure Xu(u:Qh):Prop where
 start:u.2.2.2.2.2.2.1≤86400000
 to_:u.2.2.2.2.2.1.length≤9223372036854775807
 toS:Sh.sh u.2.2.2.2.2.1
structure W9(ev:List Qe)(a s:Int):Prop where
 ex:∃e∈ev,e.2.1=3∧e.2.2.1=a∧e.2.2.2.1=s
theorem Ji5{ev es:List Qe}{a s:Int}(h:W9 es a s)(k:∀e∈es,e∈ev):W9 ev a s:=let⟨e,he,q⟩:=h.ex; ⟨e,k e he,q⟩
structure O5(ev:List Qe):Prop where
 u:∀a b s,W9 ev a s→W9 ev b s→a=b
structure Qpd(ev:List Qe)(v:Int)(subs:List Qu):Prop where
 ad:∀j:Nat,(j:Int)<v→∀e,ev[j]?=some e→e.2.1=3→∃s∈subs,s.1=e.2.2.2.1∧s.2.1=e.2.2.1
 un:∀s∈subs,∀t∈subs,s.1=t.1→s.2.1=t.2.1
theorem Jd6{ev:List Qe}:Qpd ev 0 []:=⟨fun j h=>by omega,fun s h=>absurd h QT⟩
structure Qth(x:Qe)(l m:List Qu):Prop where
 keep:x.2.1≠3→m.map (fun s:Qu=>(s.1,s.2.1))=l.map fun s:Qu=>(s.1,s.2.1)
 add:x.2.1=3→∃t:Qu,t.1=x.2.2.2.1∧t.2.1=x.2.2.1∧m=l++[t]
theorem Ji6{x:Qe}{l:List Qu}{t:Qu}(h:x.2.1=3)(h1:t.1=x.2.2.2.1)(h2:t.2.1=x.2.2.1):Qth x l (l++[t]):=⟨fun k=>absurd h k,fun _=>⟨t,h1,h2,rfl⟩⟩
theorem Jd7{x:Qe}{l:List Qu}(h:¬ x.2.1=3):Qth x l l:=⟨fun _=>rfl,fun k=>absurd k h⟩
theorem Qz9{x:Qe}{l:List Qu}{i:Nat}{s t:Qu}(h:¬ x.2.1=3)(hs:l[i]?=some s)(h1:t.1=s.1)(h2:t.2.1=s.2.1):Qth x l (l.set i t):=⟨fun _=>by
 have h3:i<l.length:=(List.getElem?_eq_some_iff.1 hs).1;have h4:l[i]=s:=(List.getElem?_eq_some_iff.1 hs).2;refine ZA (by simp) fun j k1 k2=>?_;rw[XD,XD,List.getElem_set]
 by_cases c:i=j
 ·subst c; rw[if_pos rfl,h1,h2,h4]
 ·rw[if_neg c],fun k=>absurd k h⟩
theorem Jd8{ev:List Qe}{v:Int}{l m:List Qu}{x:Qe}(h0:0≤v)(h:Qpd ev v l)(hx:ev[v.toNat]?=some x)(hf:x.2.1=3→∀s∈l,s.1≠x.2.2.2.1)(hm:Qth x l m):Qpd ev (v+1) m:=by
 have key:∀s∈l,∃t∈m,t.1=s.1∧t.2.1=s.2.1:=fun s hs=>by
  by_cases c:x.2.1=3
  ·obtain⟨t,_,_,e⟩:=hm.add c
   exact⟨s,e▸List.mem_append_left _ hs,rfl,rfl⟩
  ·have e:=hm.keep c
   have h1:(s.1,s.2.1)∈m.map (fun s:Qu=>(s.1,s.2.1)):=e▸QK.2 ⟨s,hs,rfl⟩;obtain⟨t,ht,e2⟩:=QK.1 h1;simp only[Prod.mk.injEq]at e2;exact⟨t,ht,e2.1,e2.2⟩
 have back:∀t∈m,(∃s∈l,t.1=s.1∧t.2.1=s.2.1)∨(x.2.1=3∧t.1=x.2.2.2.1∧t.2.1=x.2.2.1):=fun t ht=>by
  by_cases c:x.2.1=3
  ·obtain⟨u,h1,h2,e⟩:=hm.add c
   rw[e]at ht;rcases QZ.1 ht with ht | ht
   ·exact .inl ⟨t,ht,rfl,rfl⟩
   ·rw[QO]at ht
    subst ht;exact .inr ⟨c,h1,h2⟩
  ·have e:=hm.keep c
   have h1:(t.1,t.2.1)∈l.map (fun s:Qu=>(s.1,s.2.1)):=e▸QK.2 ⟨t,ht,rfl⟩;obtain⟨s,hs,e2⟩:=QK.1 h1;simp only[Prod.mk.injEq]at e2;exact .inl ⟨s,hs,e2.1.symm,e2.2.symm⟩
 refine⟨fun j hj e he h3=>?_,fun s hs t ht est=>?_⟩
 ·by_cases c:(j:Int)<v
  ·obtain⟨s,hs,h1,h2⟩:=h.ad j c e he h3
   obtain⟨t,ht,k1,k2⟩:=key s hs;exact⟨t,ht,by omega,by omega⟩
  ·have e1:v.toNat=j:=by omega
   rw[e1,he]at hx;cases Option.some.inj hx;obtain⟨t,h1,h2,e⟩:=hm.add h3;exact⟨t,by rw[e]; exact List.mem_append_right _ (.head _),h1,h2⟩
 ·rcases back s hs with⟨s',q1,q2,q3⟩ | ⟨c,q2,q3⟩
  ·rcases back t ht with⟨t',r1,r2,r3⟩ | ⟨c,r2,r3⟩
   ·have:=h.un s' q1 t' r1 (by omega); omega
   ·exact absurd (by omega) (hf c s' q1)
  ·rcases back t ht with⟨t',r1,r2,r3⟩ | ⟨c,r2,r3⟩
   ·exact absurd (by omega) (hf c t' r1)
   ·omega
theorem Q78{ev:List Qe}{v r:Int}{Q:Prop}{l m:List Qu}{x y:Qe}(hf:r=0→Q∧(r=0→x.2.1=3→∀s:Qu,s∈l→¬ s.1=x.2.2.2.1))(hx:ev[v.toNat]?=some x)(hm:Qth y l m)(hy:ev[v.toNat]?=some y)(hr:r=0)(h0:0≤v)(h:Qpd ev v l):Qpd ev (v+1) m:=by
 rw[hy]at hx;cases Option.some.inj hx;exact Jd8 h0 h hy ((hf hr).2 hr) hm
theorem Ji7{ev:List Qe}{v:Int}{l:List Qu}(h:Qpd ev v l)(hv:(ev.length:Int)≤v):O5 ev:=⟨fun a b s ha hb=>by
 obtain⟨e,he,h1,h2,h3⟩:=ha.ex;obtain⟨f,hf,k1,k2,k3⟩:=hb.ex;obtain⟨i,hi⟩:=ZP.1 he;obtain⟨j,hj⟩:=ZP.1 hf;obtain⟨x,hx,x1,x2⟩:=h.ad i (by have:=(List.getElem?_eq_some_iff.1 hi).1; omega) e hi h1;obtain⟨y,hy,y1,y2⟩:=h.ad j (by have:=(List.getElem?_eq_some_iff.1 hj).1; omega) f hj k1;have:=h.un x hx y hy (by omega)
 omega⟩
structure Q0a(ev:List Qe)(m:List (Int×Qu)):Prop where
 all:∀p∈m,p.2.1=p.1∧W9 ev p.2.2.1 p.1
theorem Jqp{ev:List Qe}:Q0a ev []:=⟨fun p h=>absurd h QT⟩
structure Ql9(x:Qe)(m m':List (Int×Qu)):Prop where
 st:∀ev,x∈ev→Q0a ev m→Q0a ev m'
theorem Q79{x:Qe}{m:List (Int×Qu)}:Ql9 x m m:=⟨fun _ _ h=>h⟩
theorem Jd9{x:Qe}{m:List (Int×Qu)}{s:Qu}(h:x.2.1=3)(h1:s.1=x.2.2.2.1)(h2:s.2.1=x.2.2.1):Ql9 x m (Va (k:=.int .i64) x.2.2.2.1 s m):=⟨fun ev hx hm=>⟨fun p hp=>by
 rcases Qfk hp with rfl | hp
 ·exact⟨h1,⟨x,hx,h,h2.symm,rfl⟩⟩
 ·exact hm.all p hp⟩⟩
theorem Jea{x:Qe}{m:List (Int×Qu)}{k:Int}:Ql9 x m (Rl (k:=.int .i64) k m):=⟨fun ev hx hm=>⟨fun p hp=>hm.all p (Qz6 hp)⟩⟩
theorem Qbk{W:Type}{key:Int}:∀{m:List (Int×W)} {v:W},Qz (k:=.int .i64) key m=some v→(key,v)∈m
 | z::m,v,h=>by
  unfold Qz at h;cases hk:eqK (.int .i64) key z.1 with
  | true =>
   rw[hk]at h;have e:key=z.1:=by simpa[eqK]using hk
   cases Option.some.inj h;rw[e]; exact .head _
  | false=>rw[hk]at h; exact .tail _ (Qbk h)
theorem Jeb{x:Qe}{m:List (Int×Qu)}{k:Int}{s d:Qu}(h:(Qz (k:=.int .i64) k m).isSome=true)(h1:s.1=((Qz (k:=.int .i64) k m).getD d).1)(h2:s.2.1=((Qz (k:=.int .i64) k m).getD d).2.1):Ql9 x m (Va (k:=.int .i64) k s m):=⟨fun ev hx hm=>⟨fun p hp=>by
 rcases Qfk hp with rfl | hp
 ·obtain⟨y,hy⟩:=Option.isSome_iff_exists.1 h
  rw[hy]at h1 h2;simp only[XK]at h1 h2;have:=hm.all _ (Qbk hy);exact⟨h1.trans this.1,by show W9 ev s.2.1 k; rw[h2]; exact this.2⟩
 ·exact hm.all p hp⟩⟩
structure Q42(m:List (Int×Qu))(s:Qu):Prop where
 ex:∃k,Qz (k:=.int .i64) k m=some s
theorem Jw4{m:List (Int×Qu)}{k:Int}{d:Qu}(h:¬ (Qz (k:=.int .i64) k m).isSome=false):Q42 m ((Qz (k:=.int .i64) k m).getD d):=by
 cases hf:Qz (k:=.int .i64) k m with
 | none=>rw[hf]at h; exact absurd rfl h
 | some y=>exact⟨k,hf⟩
theorem Jqq{ev:List Qe}{m:List (Int×Qu)}{s:Qu}(h:Q42 m s)(hm:Q0a ev m):W9 ev s.2.1 s.1:=by
 obtain⟨k,hk⟩:=h.ex;have:=hm.all _ (Qbk hk);have e:s.1=k:=this.1;rw[e]; exact this.2
theorem Q43{es ev:List Qe}{m:List (Int×Qu)}{l:List Qu}(h:Q5 (Q42 m) l)(hm:Q0a es m)(hs:Q5 (fun e:Qe=>e∈ev) es):Q5 (fun s:Qu=>W9 ev s.2.1 s.1) l:=⟨fun s hs'=>Ji5 (Jqq (h.all s hs') hm) hs.all⟩
theorem Qfl{α:Type}{P:α→Prop}{l m:List α}(h:Q5 P m)(k:∀x∈l,x∈m):Q5 P l:=⟨fun x hx=>h.all x (k x hx)⟩
structure Jw5(ev:List Qe)(a:Int)(m:List (Int×Bool)):Prop where
 all:∀p∈m,W9 ev a p.1
theorem Jw6{ev:List Qe}{a:Int}:Jw5 ev a []:=⟨fun p h=>absurd h QT⟩
theorem Jw7{ev:List Qe}{a:Int}{m:List (Int×Bool)}{x:Qe}{b:Bool}(h:Jw5 ev a m)(hx:x∈ev)(h1:x.2.1=3)(h2:x.2.2.1=a):Jw5 ev a (Va (k:=.int .i64) x.2.2.2.1 b m):=⟨fun p hp=>by
 rcases Qfk hp with rfl | hp
 ·exact⟨x,hx,h1,h2,rfl⟩
 ·exact h.all p hp⟩
theorem Jw8{ev:List Qe}{a k:Int}{m:List (Int×Bool)}(h:Jw5 ev a m)(hk:(Qz (k:=.int .i64) k m).getD false=true):W9 ev a k:=by
 cases hf:Qz (k:=.int .i64) k m with
 | none=>rw[hf]at hk; cases hk
 | some y=>exact h.all _ (Qbk hf)
structure Jec(ev:List Qe)(a:Int)(h:Jc):Prop where
 acc:h.1=a
 add:W9 ev a h.2.1
structure Jw9(h:Jc)(g:Ju):Prop where
 acc:g.1.1=h.1
 sub:g.1.2.1=h.2.1
structure UsA(u:Qh):Prop where
 acc:1≤u.2.2.1
theorem Jxa{ev:List Qe}{m:List (Int×Qu)}(h:m=[]):Q0a ev m:=h▸Jqp
theorem J6w{ev:List Qe}{l:List Qu}{s:Qu}{k:Int}(hs:s∈l)(h:Q5 (fun s:Qu=>W9 ev s.2.1 s.1) l)(e:s.1=k):W9 ev s.2.1 k:=e▸h.all s hs
structure Ins{α:Type}(Q:α→Prop)(l m:List α):Prop where
 eq:∀p:α→Bool,(∀b,Q b→p b=false)→m.filter p=l.filter p
section
variable {α:Type} {Q Q':α→Prop} {l m k:List α}
theorem Qfm:Ins Q l l:=⟨fun p h=>rfl⟩
theorem Q8a(h:m=l):Ins Q l m:=h▸Qfm
theorem To(h:Ins Q l m)(h2:Ins Q m k):Ins Q l k:=⟨fun p hp=>(h2.eq p hp).trans (h.eq p hp)⟩
theorem Q0b(h:Ins Q l m)(hq:∀b,Q b→Q' b):Ins Q' l m:=⟨fun p hp=>h.eq p fun b hb=>hp b (hq b hb)⟩
theorem Jqr{A B:List α}{y c:α}(h1:Q y)(h2:Q c):Ins Q (A++y::B) (A++c::B):=⟨fun p hp=>by
 rw[JG,JG,JE (by rw[hp c h2]; decide),JE (by rw[hp y h1]; decide)]⟩
theorem Jnq{i:Nat}{y c:α}(h:Ins Q l m)(hy:m[i]?=some y)(h1:Q y)(h2:Q c):Ins Q l (m.set i c):=by
 obtain⟨hi,e⟩:=List.getElem?_eq_some_iff.1 hy;refine To h ?_
 have e1:m=m.take i++y::m.drop (i+1):=by
  rw[←e,←List.drop_eq_getElem_cons hi,List.take_append_drop]
 rw[List.set_eq_take_append_cons_drop,if_pos hi]
 conv=>arg 2; rw[e1]
 exact Jqr h1 h2
theorem Jnr{z:List α}{i j:Nat}(hz:∀x∈z,Q x)(hij:i≤j)(hj:j≤i+1)(hl:j≤l.length)(hx:j=i+1→∀x,l[i]?=some x→Q x):Ins Q l (l.take i++z++l.drop j):=⟨fun p hp=>by
 have ez:z.filter p=[]:=List.filter_eq_nil_iff.2 fun x h=>by rw[hp x (hz x h)]; decide
 rw[JG,JG,ez,QH,←JG];rcases Nat.lt_or_ge i j with h | h
 ·obtain rfl:j=i+1:=by omega
  have hi:i<l.length:=by omega
  have q:=hp _ (hx rfl _ (List.getElem?_eq_getElem hi))
  conv=>rhs; rw[←List.take_append_drop i l,List.drop_eq_getElem_cons hi]
  rw[JG,JG,JE (by rw[q]; decide)]
 ·obtain rfl:i=j:=by omega
  rw[List.take_append_drop]⟩
theorem J8v{v:Int}(h:0≤v):(l.drop (0:Int).toNat).take (v - 0).toNat=l.take v.toNat:=by
 rw[Int.sub_zero]; rfl
theorem J8w{v:Int}(h:0≤v)(h2:v≤l.length):(l.drop v.toNat).take ((l.length:Int) - v).toNat=l.drop v.toNat:=by
 rw[List.take_of_length_le];rw[List.length_drop]; omega
theorem Jns{s t:List α}{v:Int}{b:α}(hs:s=l.take v.toNat)(ht:t=l.drop v.toNat)(h0:0≤v)(h1:v≤l.length)(hb:Q b):Ins Q l (s++[b]++t):=by
 subst hs ht;exact Jnr (fun x hx=>by rw[QO.1 hx]; exact hb) (QY _) (XP _) (by omega) fun h=>by omega
theorem Jed{s t z:List α}{v w:Int}(hs:s=l.take v.toNat)(ht:t=l.drop w.toNat)(h0:0≤v)(h1:v≤w)(h2:w≤v+1)(h3:w≤l.length)(hz:∀x∈z,Q x)(hx:v<w→∀x,l[v.toNat]?=some x→Q x):Ins Q l (s++z++t):=by
 subst hs ht;exact Jnr hz (by omega) (by omega) (by omega) fun h=>hx (by omega)
end
theorem Ji8{α:Type}[Sz α][Sh α]{l:List α}{a b:Int}:WP (slc l a b) (fun R=>(0≤a∧a≤b∧b≤l.length)∧∀s:List α,(a=0→s=l.take b.toNat)→(b=l.length→s=l.drop a.toNat)→(s.length:Int)=b - a→(∀x∈s,x∈l)→sz s≤sz l→(Sh.sh l→Sh.sh s)→R s):=⟨fun R h=>by
 obtain⟨h0,h⟩:=h;obtain⟨s,e,q1,q2,q3,q4⟩:=(wpSlc (l:=l) (a:=a) (b:=b)).spec (fun s=>(s.length:Int)=b - a∧(∀x∈s,x∈l)∧sz s≤sz l∧(Sh.sh l→Sh.sh s)) ⟨h0,fun s h1 h2 h3 h4=>⟨h1,h2,h3,h4⟩⟩;refine⟨s,e,h s (fun ha=>?_) (fun hb=>?_) q1 q2 q3 q4⟩
 ·subst ha
  unfold slc at e;rw[if_pos h0]at e;exact(Option.some.inj e).symm.trans (J8v (by omega))
 ·subst hb
  unfold slc at e;rw[if_pos h0]at e
  exact(Option.some.inj e).symm.trans (J8w (by omega) (by omega))⟩
structure Quq(l m:List Qa):Prop where
 eq:m.map (fun b=>b.1)=l.map fun b=>b.1
theorem Ji9{l:List Qa}:Quq l l:=⟨rfl⟩
theorem Jxb{l m:List Qa}{i:Nat}{x y:Qa}(h:Quq l m)(hx:l[i]?=some x)(hy:m[i]?=some y):y.1=x.1:=by
 have h1:(m.map fun b=>b.1)[i]?=some y.1:=by rw[XA,hy]; rfl
 have h2:(l.map fun b=>b.1)[i]?=some x.1:=by rw[XA,hx]; rfl
 rw[h.eq,h2]at h1;exact(Option.some.inj h1).symm
theorem Jqs{l m:List Qa}{i:Nat}{y c:Qa}(h:Quq l m)(hy:m[i]?=some y)(e:c.1=y.1):Quq l (m.set i c):=⟨by
 rw[List.map_set,←h.eq];obtain⟨hi,ei⟩:=List.getElem?_eq_some_iff.1 hy;refine ZA (by simp) fun j h1 h2=>?_;rw[List.getElem_set];split
 ·rename_i hij
  subst hij;rw[XD,ei,e]
 ·rfl⟩
structure Jxc(l:List Qa)(a s:Int):Prop where
 own:∀b∈l,b.2.1=s→b.1=a
def Qv2(k:Int)(b:Qa):Prop:=b.1=k
def Q0c(k:Int)(w:Qd):Prop:=w.1=k
def Jja(k:Int)(c:Qc):Prop:=c.1=k
def OfG(r:List Ju)(b:Qa):Prop:=∃g∈r,b.1=g.1.1
def Jee(r:List Jc)(b:Qa):Prop:=∃h∈r,b.1=h.1
theorem Jqt{a k:Int}{l m:List Qa}{i:Nat}{x y c:Qa}{x0:List Qa}(h:Ins (Qv2 a) l m)(hs:Quq x0 m)(ho:Jxc x0 a k)(hx:x0[i]?=some x)(hy:m[i]?=some y)(hu:x.2.1=k∨x.1=a)(hc:c.1=y.1):Ins (Qv2 a) l (m.set i c):=by
 have hk:x.1=a:=hu.elim (ho.own x (List.mem_of_getElem? hx)) id;have hy1:=(Jxb hs hx hy).trans hk;exact Jnq h hy hy1 (hc.trans hy1)
theorem J6x{r:List Ju}{l m k:List Qa}{g:Ju}(h:Ins (OfG r) l m)(hg:g∈r)(h2:Ins (Qv2 g.1.1) m k):Ins (OfG r) l k:=To h (Q0b h2 fun b hb=>⟨g,hg,hb⟩)
theorem J6y{r:List Jc}{q:List Ju}{l m k:List Qa}{x:Jc}(h:Ins (Jee r) l m)(hx:x∈r)(hq:Q5 (Jw9 x) q)(h2:Ins (OfG q) m k):Ins (Jee r) l k:=To h (Q0b h2 fun b ⟨g,hg,e⟩=>⟨x,hx,e.trans (hq.all g hg).acc⟩)
theorem J6z{ev:List Qe}{a:Int}{r:List Jc}{l m:List Qa}(hr:Q5 (Jec ev a) r)(h:Ins (Jee r) l m):Ins (Qv2 a) l m:=Q0b h fun b ⟨x,hx,e⟩=>e.trans (hr.all x hx).acc
structure Qns(l:List Qd)(m:List (Int×Int)):Prop where
 all:∀p∈m,0≤p.2∧p.2<l.length∧∀w,l[p.2.toNat]?=some w→w.1=p.1
theorem Qma{l:List Qd}:Qns l []:=⟨fun _ h=>absurd h QT⟩
theorem Qmb{l:List Qd}{m:List (Int×Int)}{v:Int}{w:Qd}(h:Qns l m)(h0:0≤v)(h1:v<l.length)(hw:l[v.toNat]?=some w):Qns l (Va (k:=.int .i64) w.1 v m):=⟨fun p hp=>by
 rcases Qfk hp with e | hp
 ·rw[e]; exact⟨h0,h1,fun z hz=>by rw[hw]at hz; rw[←Option.some.inj hz]⟩
 ·exact h.all p hp⟩
theorem Qti{l:List Qd}{m:List (Int×Int)}{key d:Int}{w:Qd}(h:Qns l m)(hs:(Qz (k:=.int .i64) key m).isSome=true)(hw:l[((Qz (k:=.int .i64) key m).getD d).toNat]?=some w):w.1=key:=by
 cases hf:Qz (k:=.int .i64) key m with
 | none=>rw[hf]at hs; cases hs
 | some i =>
  rw[hf]at hw;exact(h.all _ (Qbk hf)).2.2 w hw
abbrev J60:Type:=Int×Int×Int
abbrev Jqu(c:Qc):J60:=(c.1,c.2.1,c.2.2.1)
def clt(a b:J60):Bool:=decide (a.1<b.1∨(a.1=b.1∧(a.2.1<b.2.1∨(a.2.1=b.2.1∧a.2.2<b.2.2))))
theorem J0k{a b:J60}:clt a b=true↔(a.1<b.1∨(a.1=b.1∧(a.2.1<b.2.1∨(a.2.1=b.2.1∧a.2.2<b.2.2)))):=decide_eq_true_iff
theorem Jqv{N:Nat}[hN:Kb N]{x y:Qc}:Un N x y=some (if clt (Jqu x) (Jqu y)then -1 else if clt (Jqu y) (Jqu x)then 1 else 0):=by
 obtain⟨M,rfl⟩:∃M,N=M+4:=⟨N - 4,by have:=hN.le; omega⟩
 obtain⟨x1,x2,x3,x4⟩:=x;obtain⟨y1,y2,y3,y4⟩:=y;have w1:IntKind.wrap .i64 ((0:Int)+1)=1:=by decide
 have w2:IntKind.wrap .i64 ((1:Int)+1)=2:=by decide
 have w3:IntKind.wrap .i64 ((2:Int)+1)=3:=by decide
 have w1':IntKind.wrap .i64 1=1:=by decide
 have w2':IntKind.wrap .i64 2=2:=by decide
 have w3':IntKind.wrap .i64 3=3:=by decide
 have i0:∀(a b c:List Int),idx [a,b,c] 0=some a:=fun _ _ _=>rfl;have i1:∀(a b c:List Int),idx [a,b,c] 1=some b:=fun _ _ _=>rfl;have i2:∀(a b c:List Int),idx [a,b,c] 2=some c:=fun _ _ _=>rfl;have j0:∀(a b:Int),idx [a,b] 0=some a:=fun _ _=>rfl;have j1:∀(a b:Int),idx [a,b] 1=some b:=fun _ _=>rfl;unfold Un;unfold clt Jqu;simp only;rcases XX x1 y1 with h | h | h
 ·simp[Qf,Jx,i0,j0,j1,h]
 ·subst h
  rcases XX x2 y2 with h2 | h2 | h2
  ·simp[Qf,Jx,i0,i1,j0,j1,w1,w1',h2]
  ·subst h2
   rcases XX x3 y3 with h3 | h3 | h3
   ·simp[Qf,Jx,i0,i1,i2,j0,j1,w1,w2,w1',w2',h3]
   ·subst h3
    simp[Qf,Jx,i0,i1,i2,j0,j1,w1,w2,w3,w1',w2',w3']
   ·have h4:=KY h3
    simp[Qf,Jx,i0,i1,i2,j0,j1,w1,w2,w1',w2',h3,h4]
  ·have h4:=KY h2
   have h5:¬ x2=y2:=by omega
   simp[Qf,Jx,i0,i1,j0,j1,w1,w1',h2,h4,h5]
 ·have h4:=KY h
  have h5:¬ x1=y1:=by omega
  simp[Qf,Jx,i0,j0,j1,h,h4,h5]
theorem Jef{N:Nat}[hN:Kb N]{x y:Qc}:∃r,Un N x y=some r∧(r=0→x.1=y.1):=⟨_,Jqv,fun h=>by
 split at h
 ·cases h
 ·split at h
  ·cases h
  ·rename_i h1 h2
   rw[J0k]at h1 h2;simp only[Jqu]at h1 h2
   omega⟩
theorem Jxd{α:Type}{Q:α→Prop}{l s t:List α}{v w:Int}(hs:s=l.take v.toNat)(ht:t=l.drop w.toNat)(h0:0≤v)(h1:v≤w)(h2:w≤v+1)(h3:w≤l.length)(hx:v<w→∀x,l[v.toNat]?=some x→Q x):Ins Q l (s++t):=by
 have:=Jed (z:=[]) hs ht h0 h1 h2 h3 (fun x h=>absurd h QT) hx
 rwa[QH]at this
theorem Jxe{α:Type}{Q:α→Prop}{l s t:List α}{b:α}{v w:Int}(hs:s=l.take v.toNat)(ht:t=l.drop w.toNat)(h0:0≤v)(h1:v≤w)(h2:w≤v+1)(h3:w≤l.length)(hb:Q b)(hx:v<w→∀x,l[v.toNat]?=some x→Q x):Ins Q l (s++[b]++t):=Jed hs ht h0 h1 h2 h3 (fun x h=>by rw[QO.1 h]; exact hb) hx
structure Jeg(l:List Qa)(a k:Int)(m:List Qa):Prop where
 ins:Jxc l a k→Ins (Qv2 a) l m
theorem J0l{l m:List Qa}{a k:Int}(h:m=l):Jeg l a k m:=⟨fun _=>Q8a h⟩
theorem Jqw{a k:Int}{l m:List Qa}{i:Nat}{x y c:Qa}{r:Bool}(hu:r=true→x.2.1=k∨x.1=a)(hr:¬r=false)(h:Jeg l a k m)(hs:Quq l m)(hx:l[i]?=some x)(hy:m[i]?=some y)(hc:c.1=y.1):Jeg l a k (m.set i c):=⟨fun ho=>Jqt (h.ins ho) hs ho hx hy (hu (by cases r with | true=>rfl | false=>exact absurd rfl hr)) hc⟩
theorem Jxf{l m:List Qa}(h:m=l):Quq l m:=h▸Ji9
theorem Jxg{l m:List Qa}{a k:Int}(h:Jxc l a k)(hi:Ins (Qv2 a) l m):Jxc m a k:=⟨fun b hb e=>by
 rcases Decidable.em (b.1=a)with q | q
 ·exact q
 ·have:=hi.eq (fun x=>!decide (x.1=a)) (fun x hx=>by rw[show x.1=a from hx]; simp)
  have hm:b∈m.filter fun x=>!decide (x.1=a):=QB.2 ⟨hb,by simpa using q⟩;rw[this]at hm
  exact h.own b (QB.1 hm).1 e⟩
theorem J61{α:Type}{l s t:List α}{v:Int}{b w:α}(hs:s=l.take v.toNat)(h0:0≤v)(h1:v≤l.length)(h:(s++[b]++t)[v.toNat]?=some w):w=b:=by
 subst hs;have hl:(l.take v.toNat).length=v.toNat:=by rw[List.length_take]; omega
 rw[List.append_assoc,JF (by omega),hl,Nat.sub_self]at h;exact(Option.some.inj h).symm
theorem J0m{l s t:List Qd}{v k:Int}{b w:Qd}(h:(s++[b]++t)[v.toNat]?=some w)(hs:s=l.take v.toNat)(h0:0≤v)(h1:v≤l.length)(hb:b.1=k):w.1=k:=(congrArg (fun x:Qd=>x.1) (J61 hs h0 h1 h)).trans hb
theorem Q0d{k:Int}{l m:List Qd}{i:Nat}{y x c:Qd}(h:Ins (Q0c k) l m)(hw:∀w,m[i]?=some w→Q0c k w)(e:c.1=x.1)(hx:m[i]?=some x)(hy:m[i]?=some y):Ins (Q0c k) l (m.set i c):=Jnq h hy (hw y hy) (e.trans (hw x hx))
theorem J62{ev:List Qe}{a:Int}{r:List Jc}{l l' m:List Qa}(hr:Q5 (Jec ev a) r)(h:Ins (Jee r) l' m)(e:l'=l):Ins (Qv2 a) l m:=e▸J6z hr h
set_option maxRecDepth 100000
set_option maxHeartbeats 4000000
set_option synthInstance.maxSize 100000
set_option synthInstance.maxHeartbeats 1000000
variable {N:Nat} [Kb N]
@[instance]abbrev Jqx{x0 ca ce cd}:=mkW (Qax.eq_1 N x0 ca ce cd) (True) (fun r=>True)
@[instance]abbrev Jnt{x0 x1 x2 x3}{s}:=upL (N:=N) (s:=s) (Qhz.eq_def N x0 x1 x2 x3) (fun t=>t.1) x0.2.2.2.2.2.1.length (fun t=>sz x0≤4096∧x0.2.2.2.2.2.1.length≤4096) (fun r:((Int×Str×Str×Int)⊕(Bool×Int×Str×Str×Int×(List Yu)))=>∀t,r=.inr t→t.2.2.2.2.2.length≤4096)
@[instance]abbrev Jxh{x0 x1 x2 x3}:=mkW (Qgr.eq_1 N x0 x1 x2 x3) (sz x0≤4096) (fun r=>r.2.2.2.2.2.length≤4096)
@[instance]abbrev Jgh{x1 x0}{s}:=Qrg (N:=N) (s:=s) (Lu.eq_def N x1 x0) x1 (x1.length≤9223372036854775807) (fun y=>0≤y∧y≤x0) (∀y∈x1,0≤y∧y≤x0) (fun u=>u=false)
@[instance]abbrev Jqy{x0 x1}:=mkW (Kw.eq_1 N x0 x1) (x1.length≤9223372036854775807) (fun r=>r=true→Q41 x0 x1)
@[instance]abbrev Q9i{ca}{s}:=upL (N:=N) (s:=s) (Sr.eq_def N ca) (fun t=>t.2) ca.length (fun t=>ca.length≤64∧Qlf Qtg ca t.2) (fun r:((Unit)⊕(Int))=>(∀u,r=.inl u→∀y∈ca,Qtg y)∧∀u,r=.inr u→u≠0) (step:=by
  intro s h h0 h1 h2 hw
  try simp only[sS,reduceCtorEq]at *
  repeat' (first | intro _ | apply And.intro)
  all_goals first | exact Qbj | (rw[hw (by assumption)]; exact Ow h0 h.2 (by assumption) (Jqo (by grind) (by grind) (by grind))) | exact Qfj h.2 (by omega) _ (by assumption) | exact lv)
@[instance]abbrev Jjb{ca}:=mkW (Oo.eq_1 N ca) (ca.length≤9223372036854775807) (fun r=>r=0→Q5 Qtg ca∧ca.length≤64)
@[instance]abbrev Jeh{ca x1}{s}:=upL (N:=N) (s:=s) (Qay.eq_def N ca x1) (fun t=>t.2.2) ca.length (fun t=>ca.length≤64∧Q5 Qtg ca∧0≤t.2.1∧t.2.1≤2199023255552∧x1≤2199023255552) (fun r:((Int)⊕(Int×Bool))=>True) (step:=by
  intro s h h0 h1 h2 hw;have g0:=(fun y hy=>⟨(h.2.1.all y hy).upto,(h.2.1.all y hy).inc,(h.2.1.all y hy).price⟩:∀y∈ca,(0≤y.1∧y.1≤1099511627776)∧(1≤y.2.1∧y.2.1≤1099511627776)∧(0≤y.2.2∧y.2.2≤1125899906842624)); have g1:=Jw3
  try simp only[sS,reduceCtorEq]at *
  repeat' (first | intro _ | apply And.intro)
  all_goals first | exact J8u (by assumption) (g0 _ (by assumption)).2.1 (by assumption) h.2.2.1 (by first | omega | (have k:=(g0 _ (by assumption)).1.2; split<;>omega)) | (have k:=(g0 _ (by assumption)).1.2; split<;>omega) | exact lv)
@[instance]abbrev Jnu{x1 ca}:=mkW (Ce.eq_1 N x1 ca) (ca.length≤64∧Q5 Qtg ca∧x1≤2199023255552) (fun r=>True)
@[instance]abbrev Jgi{x1 x2 ca}:=mkW (Lv.eq_1 N x1 x2 ca) (ca.length≤9223372036854775807) (fun r=>True) (k:=by
  intro h;have g0:=(show 0≤x1∧x1≤1099511627776→0≤x2∧x2≤1099511627776→IntKind.wrap .i64 (x1+x2)=x1+x2 from fun a b=>Q9 (by omega) (by omega)); have g1:=(show 0≤x1∧x1≤1099511627776→IntKind.wrap .i64 (1099511627776 - x1)=1099511627776 - x1 from fun a=>Q9 (by omega) (by omega))
  exact lw)
theorem Jxi{α:Type}{e:Wn α}{K:Nat}(h:e.ks.length≤K)(hk:∀y∈e.ks,sz y≤K):sz e≤K:=by
 have:∀l:List (Wn α),szL l=Ji0 l:=fun l=>by
  induction l with
  | nil=>rfl
  | cons x l ih=>simp only[szL,Ji0,ih]; rfl
 cases e with
 | mk x ks =>
  have h2:Ji0 ks≤K:=by rw[←this]; exact Qz3 hk
  show rsz (.mk x ks)≤K;simp only[rsz];have h1:ks.length≤K:=h;omega
theorem Q44{N:Nat}[Kb N]:∀(n:Nat) (e:Ql) (d:Int),0≤d→d≤19→20≤n+d→sz e≤9223372036854775807→W (Yt N n e d) fun r=>1≤r∧r≤1000*(20 - d)∧(r<1000→(sz e:Int)≤r∧(dpt e:Int)≤19 - d)
 | 0,e,d,h0,h1,h2,h3=>by omega
 | n+1,e,d,h0,h1,h2,h3=>by
  unfold Yt
  by_cases hd:d>18
  ·rw[if_pos (by simpa using hd)]
   exact⟨1000,rfl,by omega,by omega,by omega⟩
  ·rw[if_neg (by simpa using hd)]
   have hw:IntKind.wrap .i64 (d+1)=d+1:=Q9 (by omega) (by omega);have ih:∀x:Ql,WP (Yt N n x (d+1)) (fun R=>sz x≤9223372036854775807∧∀r:Int,(1≤r∧r≤1000*(20 - (d+1))∧(r<1000→(sz x:Int)≤r∧(dpt x:Int)≤19 - (d+1)))→R r):=fun x=>Bk fun h=>Q44 n x (d+1) (by omega) (by omega) (by omega) h;have hk:=Qhi (e:=e);have hlen:=Hq (l:=e.ks)
   have loop:∀s:Int×Int,WP (Qf (Kz N (Yt N n) e d) N s) _:=J6s (f:=Kz N (Yt N n) e d) (fun s:Int×Int=>s.2) e.ks.length
    (fun s:Int×Int=>s.2+1≤s.1∧s.1≤1000*(20 - d)∧(s.1<1000→Qlf (fun y=>(sz y:Int)≤s.1∧(dpt y:Int)≤18 - d) e.ks s.2)) (fun r:Int=>1≤r∧r≤1000*(20 - d)∧(r<1000→(sz e:Int)≤r∧(dpt e:Int)≤19 - d)) (fun s h=>by omega) (by
    rintro⟨v1,v2⟩ ⟨i1,i2,i3⟩ h0' h1' hw2;simp only at i1 i2 i3 h0' h1' hw2;unfold Kz;simp only[hw];refine wp ?_;simp only[QQ,decide_eq_true_eq];refine⟨fun hc=>⟨⟨h0',hc.1⟩,fun x hm hs _ hx=>⟨by omega,fun r hr=>?_⟩⟩,fun hc=>?_⟩
    ·have hv:IntKind.wrap .i64 (v1+r)=v1+r:=Q9 (by omega) (by omega)
     rw[hv];refine⟨⟨by rw[hw2 hc.1]; omega,by omega,fun hlt=>?_⟩,hc.1,trivial⟩;rw[hw2 hc.1];exact Ow h0' ⟨fun j hj a ha=>by have:=(i3 hc.2).at_ j hj a ha; exact⟨by omega,this.2⟩⟩ hx (by have:=hr.2.2 (by omega); exact⟨by omega,by omega⟩)
    ·refine⟨by omega,i2,fun hlt=>?_⟩
     have hge:(e.ks.length:Int)≤v2:=by
      rcases Int.lt_or_le v2 e.ks.length with h | h
      ·exact absurd ⟨h,hlt⟩ hc
      ·exact h
     have hall:=Qfj (i3 hlt) hge;have h8:=Jxi (e:=e) (K:=v1.toNat) (by omega) (fun y hy=>by have:=(hall y hy).1; omega);have h9:=J6t (e:=e) (K:=(18 - d).toNat) (fun y hy=>by have:=(hall y hy).2; omega)
     exact⟨by omega,by omega⟩)
   have:=loop;refine wp ?_;exact⟨⟨⟨by omega,by omega,fun _=>Qbj⟩,by omega,by omega⟩,fun r hr=>hr⟩
instance w_billingref37_Nodes {N:Nat} [hN:Kb N] {x0:Ql} {x1:Int}:WP (Qaf N x0 x1) (fun R=>(sz x0≤9223372036854775807∧x1=0)∧∀r:Int,(1≤r∧r≤20000∧(r<1000→(sz x0:Int)≤r∧(dpt x0:Int)≤19))→R r):=Bk (by
  intro h;have:=hN.le
  exact(Q44 N x0 x1 (by omega) (by omega) (by omega) h.1).mono fun r hr=>⟨hr.1,by omega,fun hl=>by have:=hr.2.2 hl; omega⟩)
@[instance]abbrev Q45{x0 x1}{s}:=Qrg (N:=N) (s:=s) (M5.eq_def N x0 x1) x0.2.2.2.2.2.2 (sz x0≤9223372036854775807∧1≤x1∧x1≤200) (fun y=>(sz y:Int)≤4*x1∧dpt y.2.1≤4096) ((szL x0.2.2.2.2.2.2:Int)≤4*x1∧Zp x0) (fun u=>u=false) (fin:=fun h hall=>⟨Q74 (fun y hy=>(hall y hy).1) (by omega),⟨fun y hy=>(hall y hy).2⟩⟩)
@[instance]abbrev Q46{x0 x1}{s}:=Qrg (N:=N) (s:=s) (M6.eq_def N x0 x1) x0.2.2.2.1 (sz x0≤9223372036854775807∧1≤x1∧x1≤200) (fun y=>(sz y:Int)≤4*x1) ((szL x0.2.2.2.1:Int)≤4*x1) (fun u=>u=false)
@[instance]abbrev Q47{x0 x1}{s}:=Qrg (N:=N) (s:=s) (M7.eq_def N x0 x1) x0.2.2.2.2.2.1 (sz x0≤9223372036854775807∧1≤x1∧x1≤200) (fun y=>(sz y:Int)≤4*x1) ((szL x0.2.2.2.2.2.1:Int)≤4*x1) (fun u=>u=false)
@[instance]abbrev Q48{x0 x1}{s}:=Qrg (N:=N) (s:=s) (M8.eq_def N x0 x1) x0.2.2.2.2.1 (sz x0≤9223372036854775807∧1≤x1∧x1≤200) (fun y=>(sz y:Int)≤4*x1) ((szL x0.2.2.2.2.1:Int)≤4*x1) (fun u=>u=false)
@[instance]abbrev Jei{x0 x1}:=mkW (Cy.eq_1 N x0 x1) (sz x0≤9223372036854775807∧1≤x1∧x1≤200) (fun r=>r=true→(sz x0:Int)≤4*x1∧Zp x0)
@[instance]abbrev Jgj{x0}:=mkW (H0.eq_1 N x0) (True) (fun r=>r.length=5∧(∀b,r[0]?=some b→(b=true↔(x0=1∨x0=2∨x0=3∨x0=14∨x0=15))))
@[instance]abbrev Jnv{x0}:=mkW (Ca.eq_1 N x0) (True) (fun r=>True)
@[instance]abbrev Q8b{x0}{s}:=upL (N:=N) (s:=s) (Ps.eq_def N x0) (fun t=>t) x0.length (fun t=>Sh.sh x0) (fun r:((Unit)⊕(Bool))=>True) (fun _ h=>Qlg (by grind))
@[instance]abbrev Jgk{x0}:=mkW (Ui.eq_1 N x0) (Sh.sh x0) (fun r=>True)
@[instance]abbrev Q49{x0}{s}:=upL (N:=N) (s:=s) (Mk.eq_def N x0) (fun t=>t) x0.length (fun t=>Sh.sh x0) (fun r:((Unit)⊕(Bool))=>True) (fun _ h=>Qlg (by grind))
@[instance]abbrev Jej{x0}:=mkW (Kq.eq_1 N x0) (Sh.sh x0) (fun r=>True)
@[instance]abbrev Jek{x0}:=mkW (Cz.eq_1 N x0) (True) (fun r=>True)
@[instance]abbrev Jgl{x0 x1}:=mkW (Zu.eq_1 N x0 x1) (Sh.sh x0) (fun r=>True)
@[instance]abbrev Qv3{x0 x1}{s}:=Qrg (N:=N) (s:=s) (Es.eq_def N x0 x1) x0.1 (sz x0≤9223372036854775807) (fun y=>y.1≠x1) (∀y∈x0.1,y.1≠x1) (fun u=>0≤u∧u<x0.1.length∧∃a∈x0.1,a.1=x1)
@[instance]abbrev Q0r{x0 x1}:=mkW (V1.eq_1 N x0 x1) (sz x0≤9223372036854775807) (fun r => -1≤r∧r<x0.1.length∧(0≤r→∃a∈x0.1,a.1=x1)∧(r<0→∀a∈x0.1,a.1≠x1))
@[instance]abbrev Q12{x0 x1}{s}:=Qrg (N:=N) (s:=s) (Ip.eq_def N x0 x1) x0.2.1 (sz x0≤9223372036854775807) (fun y=>y.1≠x1) (∀y∈x0.2.1,y.1≠x1) (fun u=>0≤u∧u<x0.2.1.length∧∃a∈x0.2.1,a.1=x1)
@[instance]abbrev Q9j{x0 x1}:=mkW (Vl.eq_1 N x0 x1) (sz x0≤9223372036854775807) (fun r => -1≤r∧r<x0.2.1.length∧(0≤r→∃a∈x0.2.1,a.1=x1)∧(r<0→∀a∈x0.2.1,a.1≠x1))
@[instance]abbrev Q5a{x0 x1}{s}:=upL (N:=N) (s:=s) (Mh.eq_def N x0 x1) (fun t=>t) x0.2.2.length (fun t=>sz x0≤9223372036854775807) (fun r:((Unit)⊕(Bool))=>True)
@[instance]abbrev Jel{x0 x1}:=mkW (U2.eq_1 N x0 x1) (sz x0≤9223372036854775807) (fun r=>True)
@[instance]abbrev Q8c{x0 x1}{s}:=upL (N:=N) (s:=s) (Pt.eq_def N x0 x1) (fun t=>t) x0.2.1.length (fun t=>sz x0≤9223372036854775807) (fun r:((Unit)⊕(Bool))=>True)
@[instance]abbrev Jgm{x0 x1}:=mkW (Lg.eq_1 N x0 x1) (sz x0≤9223372036854775807) (fun r=>True)
attribute [local instance 1300] J6v in
@[instance]abbrev Q13{x0 x1}:=mkW (Gy.eq_1 N x0 x1) (sz x0≤9223372036854775807) (fun r=>r=0→x1.2.1≠1→∃a∈x0.1,a.1=x1.2.2.1∧(r=0→x1.2.1=3→∀a∈x0.2.1,a.1≠x1.2.2.2.1))
@[instance]abbrev Q9k{x0 x1}{s}:=upL (N:=N) (s:=s) (R6.eq_def N x0 x1) (fun t=>t) x0.length (fun t=>sz x0≤9223372036854775807) (fun r:((Unit)⊕(Bool))=>True)
@[instance]abbrev Jjc{x0 x1}:=mkW (U4.eq_1 N x0 x1) (sz x0≤9223372036854775807) (fun r=>True)
@[instance]abbrev Q5b{x0 x1}{s}:=upL (N:=N) (s:=s) (M9.eq_def N x0 x1) (fun t=>t) x0.2.1.length (fun t=>sz x0≤9223372036854775807) (fun r:((Unit)⊕(Bool))=>True)
@[instance]abbrev Jem{x0 x1}:=mkW (C0.eq_1 N x0 x1) (sz x0≤9223372036854775807) (fun r=>True)
@[instance]abbrev Jen{x0 x1}:=mkW (C1.eq_1 N x0 x1) (sz x0≤9223372036854775807) (fun r=>r=0→∃a∈x0.2.1,a.1=x1.2.2.2.1)
@[instance]abbrev Qli{x0 x1 x2}:=mkW (Kt.eq_1 N x0 x1 x2) (sz x0≤9223372036854775807∧Sh.sh x1) (fun r=>r=0→((x1.2.1=2→∃a∈x0.1,a.1=x1.2.2.1)∧(¬ (x1.2.1=1∨x1.2.1=2∨x1.2.1=3∨x1.2.1=14∨x1.2.1=15)→∃a∈x0.2.1,a.1=x1.2.2.2.1))∧(r=0→x1.2.1=3→∀a∈x0.2.1,a.1≠x1.2.2.2.1))
@[instance]abbrev Q8d{x0 x1}{s}:=upL (N:=N) (s:=s) (Pi.eq_def N x0 x1) (fun t=>t) x0.length (fun t=>sz x0≤9223372036854775807) (fun r:((Int))=>0≤r∧r≤x0.length)
@[instance]abbrev Jgn{x0 x1}:=mkW (Ht.eq_1 N x0 x1) (sz x0≤1099511627776) (fun r=>sz r≤sz x0+1)
@[instance]abbrev Q0s{x0 x1}{s}:=upL (N:=N) (s:=s) (Dn.eq_def N x0 x1) (fun t=>t.1) x0.length (fun t=>sz x0≤1099511627776∧t.2.length≤t.1∧sz t.2≤(sz x0)) (fun r:(((List Str)))=>sz r≤(sz x0))
@[instance]abbrev Q8e{x0 x1}:=mkW (Xl.eq_1 N x0 x1) (sz x0≤1099511627776) (fun r=>sz r≤(sz x0))
@[instance]abbrev Q8f{x0 x1}:=mkW (Et.eq_1 N x0 x1) (sz x0≤1099511627776) (fun r=>r.2.2.2.2.1.length≤x0.2.2.2.2.1.length+1∧r.2.2.2.2.2.1.length≤x0.2.2.2.2.2.1.length+1∧r.1=x0.1∧r.2.1=x0.2.1)
@[instance]abbrev Qlj{x0 x1}:=mkW (Vd.eq_1 N x0 x1) (sz x0≤1099511627776∧(x1.2.1=2→∃a∈x0.1,a.1=x1.2.2.1)∧(¬ (x1.2.1=1∨x1.2.1=2∨x1.2.1=3∨x1.2.1=14∨x1.2.1=15)→∃a∈x0.2.1,a.1=x1.2.2.2.1)) (fun r=>sz r.1≤sz x0.1+1∧sz r.2.1≤sz x0.2.1+1∧sz r.2.2≤sz x0.2.2+1∧Qth x1 x0.2.1 r.2.1) (k:=by
  intro h
  try simp only[sS,reduceCtorEq]at *
  repeat' (first | intro _ | apply And.intro)
  all_goals first | ((repeat cases ‹_∧_›); first | assumption | omega | exact Ji6 (by assumption) rfl rfl | exact Jd7 (by omega) | exact Qz9 (by omega) (by assumption) (by assumption) (by assumption) | (refine Qz9 (by omega) (by assumption) ?_ ?_<;>grind)) | exact lv)
@[instance]abbrev Q5c{x0}{s}:=upL (N:=N) (s:=s) (Jn.eq_def N x0) (fun t=>t.2.1) x0.length (fun t=>x0.length≤4096∧Sh.sh x0∧sz t.2.2.1≤t.2.1∧sz t.2.2.2.1≤t.2.1∧sz t.2.2.2.2≤t.2.1∧Qpd x0 t.2.1 t.2.2.2.1) (fun r:((Unit)⊕(Int×Int))=>(∀u,r=.inl u→O5 x0)∧(∀u,r=.inr u→u.2≠0))
@[instance]abbrev Jeo{x0}:=mkW (Vf.eq_1 N x0) (sz x0≤1099511627776∧Sh.sh x0) (fun r=>r.2=0→O5 x0) (k:=by
  intro h
  try simp only[sS,reduceCtorEq]at *
  repeat' (first | intro _ | apply And.intro)
  all_goals first | exact Jd6 | grind | exact lv)
@[instance]abbrev Q5d{x0}{s}:=upL (N:=N) (s:=s) (Na.eq_def N x0) (fun t=>t) x0.length (fun t=>sz x0≤9223372036854775807∧Sh.sh x0) (fun r:((Unit)⊕(Int))=>True)
@[instance]abbrev Q5e{x0}{s}:=upI (N:=N) (s:=s) (Nb.eq_def N x0) (fun t=>t) ((x0.length:Int)) (fun t=>sz x0≤9223372036854775807∧1≤t) (fun r:((Unit)⊕(Int))=>True)
@[instance]abbrev Jep{x0}:=mkW (C2.eq_1 N x0) (sz x0≤9223372036854775807∧Sh.sh x0) (fun r=>r=0→sz x0≤64)
@[instance]abbrev Q9l{x0}:=mkW (Be.eq_1 N x0) (sz x0≤9223372036854775807∧Sh.sh x0) (fun r=>r=0→sz x0≤64)
@[instance]abbrev Q9m{x0}{s}:=Qrg (N:=N) (s:=s) (Si.eq_def N x0) x0.2.2.2.2.2 (sz x0≤9223372036854775807∧Sh.sh x0) (fun y=>(sz y:Int)≤64) ((szL (x0.2.2.2.2.2):Int)≤64) (fun u=>u≠0)
@[instance]abbrev Jjd{x0}:=mkW (Oe.eq_1 N x0) (sz x0≤9223372036854775807∧Sh.sh x0) (fun r=>r=0→sz x0≤64)
@[instance]abbrev Q5f{x0}{s}:=Qrg (N:=N) (s:=s) (Nc.eq_def N x0) x0 (sz x0≤9223372036854775807∧Sh.sh x0) (fun y=>(sz y:Int)≤64) ((szL (x0):Int)≤64) (fun u=>u≠0)
@[instance]abbrev Jeq{x0}:=mkW (C3.eq_1 N x0) (sz x0≤9223372036854775807∧Sh.sh x0) (fun r=>r=0→sz x0≤4096)
@[instance]abbrev Jer{x0}:=mkW (Gz.eq_1 N x0) (True) (fun r=>True)
@[instance]abbrev Jes{x0}:=mkW (C4.eq_1 N x0) (True) (fun r=>True)
@[instance]abbrev Q8g{x0}{s}:=upL (N:=N) (s:=s) (Pu.eq_def N x0) (fun t=>t) x0.length (fun t=>Sh.sh x0) (fun r:((Unit)⊕(Bool))=>True) (fun _ h=>Qlg (by grind))
@[instance]abbrev Jgo{x0}:=mkW (H1.eq_1 N x0) (Sh.sh x0) (fun r=>True)
@[instance]abbrev Q8h{x0}{s}:=upL (N:=N) (s:=s) (Pj.eq_def N x0) (fun t=>t) x0.length (fun t=>Sh.sh x0) (fun r:((Unit)⊕(Bool))=>True) (fun _ h=>Qlg (by grind))
@[instance]abbrev Jgp{x0}:=mkW (Hu.eq_1 N x0) (Sh.sh x0) (fun r=>True)
@[instance]abbrev Q0t{x0 v1 x1 x2}{s}:=upI (N:=N) (s:=s) (Dp.eq_def N x0 v1 x1 x2) (fun t=>t) (9223372036854775807) (fun t=>sz x0≤9223372036854775807∧0≤v1∧v1≤x1∧x1<x0.length∧∀z,x0[x1.toNat]?=some z→0≤x2∧x2<z.2.length∧x0.length≤9223372036854775807) (fun r:((Unit)⊕(Bool))=>True)
@[instance]abbrev Q0u{x1 x0 x2}{s}:=upI (N:=N) (s:=s) (Dq.eq_def N x1 x0 x2) (fun t=>t) (x1+1) (fun t=>sz x0≤9223372036854775807∧0≤x1∧x1<x0.length∧∀z,x0[x1.toNat]?=some z→0≤x2∧x2<z.2.length∧x0.length≤9223372036854775807) (fun r:((Unit)⊕(Bool))=>True)
@[instance]abbrev Q8i{x0 x1 x2}:=mkW (Ev.eq_1 N x0 x1 x2) (sz x0≤9223372036854775807∧0≤x1∧x1<x0.length∧(∀z,x0[x1.toNat]?=some z→0≤x2∧x2<z.2.length)) (fun r=>True)
@[instance]abbrev Q8j{x1 x0 x2}{s}:=upI (N:=N) (s:=s) (Pk.eq_def N x1 x0 x2) (fun t=>t) (x1) (fun t=>x1≤x0.length∧x0.length≤9223372036854775807) (fun r:((Unit)⊕(Int))=>True)
@[instance]abbrev Q8k{x2 x0 x1}{s}:=upL (N:=N) (s:=s) (Pl.eq_def N x2 x0 x1) (fun t=>t) x2.2.length (fun t=>sz x2≤9223372036854775807∧sz x0≤9223372036854775807∧Sh.sh x2∧Sh.sh x0∧0≤x1∧x1<x0.length∧x0[x1.toNat]?=some x2∧x0.length≤9223372036854775807) (fun r:((Unit)⊕(Int))=>True)
@[instance]abbrev Jgq{x0 x1}:=mkW (Is.eq_1 N x0 x1) (sz x0≤9223372036854775807∧Sh.sh x0∧0≤x1∧x1<x0.length) (fun r=>True)
@[instance]abbrev Q5g{x0}{s}:=upL (N:=N) (s:=s) (Mm.eq_def N x0) (fun t=>t) x0.length (fun t=>sz x0≤9223372036854775807∧Sh.sh x0∧x0.length≤9223372036854775807) (fun r:((Unit)⊕(Int))=>True)
@[instance]abbrev Jet{x0}:=mkW (Gq.eq_1 N x0) (sz x0≤9223372036854775807∧Sh.sh x0) (fun r=>True)
@[instance]abbrev Q5h{x0}{s}:=upL (N:=N) (s:=s) (Mq.eq_def N x0) (fun t=>t) x0.length (fun t=>sz x0≤9223372036854775807) (fun r:((Unit)⊕(Int))=>True)
@[instance]abbrev Jeu{x0 x1}:=mkW (Cq.eq_1 N x0 x1) (sz x0≤9223372036854775807) (fun r=>True)
@[instance]abbrev Q5i{v1 x0}{s}:=upI (N:=N) (s:=s) (Ms.eq_def N v1 x0) (fun t=>t) (v1) (fun t=>v1<x0.length∧x0.length≤9223372036854775807) (fun r:((Unit)⊕(Int))=>True)
@[instance]abbrev Q5j{x0}{s}:=upL (N:=N) (s:=s) (Mt.eq_def N x0) (fun t=>t) x0.length (fun t=>sz x0≤9223372036854775807∧Sh.sh x0∧x0.length≤9223372036854775807) (fun r:((Unit)⊕(Int))=>True)
@[instance]abbrev Jev{x0}:=mkW (U6.eq_1 N x0) (sz x0≤9223372036854775807∧Sh.sh x0) (fun r=>r=0→1≤x0.length)
@[instance]abbrev Q8l{x0 x1}{s}:=upL (N:=N) (s:=s) (Pv.eq_def N x0 x1) (fun t=>t) x0.2.2.2.1.length (fun t=>sz x0≤9223372036854775807) (fun r:((Unit)⊕(Bool))=>True)
@[instance]abbrev Jgr{x0 x1}:=mkW (Lh.eq_1 N x0 x1) (sz x0≤9223372036854775807) (fun r=>True)
@[instance]abbrev Q8m{x0 x1}{s}:=upL (N:=N) (s:=s) (Pw.eq_def N x0 x1) (fun t=>t) x0.2.2.2.2.1.length (fun t=>sz x0≤9223372036854775807) (fun r:((Unit)⊕(Bool))=>True)
@[instance]abbrev Jgs{x0 x1}:=mkW (Li.eq_1 N x0 x1) (sz x0≤9223372036854775807) (fun r=>True)
@[instance]abbrev Q5k{x0}{s}:=upL (N:=N) (s:=s) (Mw.eq_def N x0) (fun t=>t.2) x0.length (fun t=>x0.length≤64∧Qlf (fun s:Yu=>1≤s.2.1) x0 t.2) (fun r:((Unit)⊕(Int))=>(∀u,r=.inl u→∀y∈x0,1≤y.2.1)∧∀u,r=.inr u→u≠0) (step:=by
  intro s h h0 h1 h2 hw
  try simp only[sS,reduceCtorEq]at *
  repeat' (first | intro _ | apply And.intro)
  all_goals first | exact Qbj | (rw[hw (by assumption)]; exact Ow h0 h.2 (by assumption) (by grind)) | exact Qfj h.2 (by omega) _ (by assumption) | exact lv)
@[instance]abbrev Jew{x0}:=mkW (U7.eq_1 N x0) (x0.length≤9223372036854775807) (fun r=>r=0→Q5 (fun s:Yu=>1≤s.2.1) x0)
@[instance]abbrev Q5l{x0}{s}:=upL (N:=N) (s:=s) (Nd.eq_def N x0) (fun t=>t) x0.2.2.2.2.2.1.length (fun t=>sz x0≤9223372036854775807) (fun r:((Unit)⊕(Int))=>True)
@[instance]abbrev Jex{x0}:=mkW (C5.eq_1 N x0) (sz x0≤9223372036854775807) (fun r=>True)
@[instance]abbrev Jey{x0}:=mkW (Kr.eq_1 N x0) (True) (fun r=>(x0=4→r=1)∧(¬ (x0=1∨x0=2∨x0=3∨x0=4)→r=2∨r = -1))
@[instance]abbrev Q9n{x0 x1}{s}:=upL (N:=N) (s:=s) (Ul.eq_def N x0 x1) (fun t=>t) x0.length (fun t=>sz x0≤9223372036854775807) (fun r:((Unit)⊕(Bool))=>True)
@[instance]abbrev Jje{x0 x1}:=mkW (Kg.eq_1 N x0 x1) (sz x0≤9223372036854775807) (fun r=>True)
@[instance]abbrev Q14{x0}:=mkW (Vh.eq_1 N x0) (True) (fun r=>True)
@[instance]abbrev Jjf{x0}:=mkW (F8.eq_1 N x0) (sz x0≤9223372036854775807) (fun r=>r=0→((x0.x.1=4→x0.ks.length=1)∧(¬ (x0.x.1=1∨x0.x.1=2∨x0.x.1=3∨x0.x.1=4)→x0.ks.length=2)))
@[instance]abbrev Q9o{x0 x1}:=mkW (Yc.eq_1 N x0 x1) ((x0.x.1=4→1≤x1.length)∧(¬ (x0.x.1=1∨x0.x.1=2∨x0.x.1=3∨x0.x.1=4)→2≤x1.length)) (fun r=>True)
theorem Jez{N:Nat}[Kb N]:∀(n:Nat) (e:Ql) (d:Int),1≤d→d≤17→18≤n+d→sz e≤1099511627776→W (Jl N n e d) fun _=>True
 | 0,e,d,h0,h1,h2,h3=>by omega
 | n+1,e,d,h0,h1,h2,h3=>by
  unfold Jl
  by_cases hd:d>16
  ·rw[if_pos (by simpa using hd)]
   exact⟨_,rfl,trivial⟩
  ·rw[if_neg (by simpa using hd)]
   have hw:IntKind.wrap .i64 (d+1)=d+1:=Q9 (by omega) (by omega);have ih:∀x:Ql,WP (Jl N n x (IntKind.wrap .i64 (d+1))) (fun R=>sz x≤1099511627776∧∀r:Int×Int,True→R r):=fun x=>Bk fun h=>by rw[hw]; exact Jez n x (d+1) (by omega) (by omega) (by omega) h
   have hk:=Qhi (e:=e);have hlen:=Hq (l:=e.ks);have loop:=fun s:Int×List Int=>upL (N:=N) (s:=s) (Jw.eq_def N (Jl N n) e d) (fun s=>s.1) e.ks.length (fun s=>sz e.ks≤1099511627776∧s.2.length=s.1) (fun r:List Int⊕(Int×Int)=>∀a,r=.inl a→a.length=e.ks.length);refine wp ?_;simp only[ss,sz1,sh1,mx1,Sum.forall,Sum.inl.injEq,Sum.inr.injEq,reduceCtorEq,forall_eq',forall_eq,false_implies,implies_true,true_implies,and_true,true_and,forall_const,beq_iff_eq,bne_iff_ne,ne_eq,List.length_append,List.length_cons,JW]at *
   repeat' (first | intro _ | apply And.intro)
   all_goals first | assumption | omega | grind
@[instance]abbrev Jnw{N:Nat}[hN:Kb N]{x0:Ql}{x1:Int}:WP (Rr N x0 x1) (fun R=>(sz x0≤1099511627776∧x1=1)∧∀r:Int×Int,True→R r):=Bk (by
  intro h;have:=hN.le
  exact Jez N x0 x1 (by omega) (by omega) (by omega) h.1)
@[instance]abbrev Jgt{x0}:=mkW (Uh.eq_1 N x0) (sz x0≤1099511627776) (fun r=>True)
@[instance]abbrev Qwm{v1 x0 x2}{s}:=upI (N:=N) (s:=s) (Ah.eq_def N v1 x0 x2) (fun t=>t) (v1) (fun t=>v1≤x0.2.2.2.2.2.2.length∧x0.2.2.2.2.2.2.length≤9223372036854775807) (fun r:((Unit)⊕(Int))=>True)
@[instance]abbrev Qwn{x0}{s}:=upL (N:=N) (s:=s) (Ai.eq_def N x0) (fun t=>t) x0.2.2.2.2.2.2.length (fun t=>sz x0≤1099511627776∧Sh.sh x0) (fun r:((Unit)⊕(Int))=>True)
@[instance]abbrev Q15{x0}:=mkW (G0.eq_1 N x0) (sz x0≤1099511627776∧Sh.sh x0) (fun r=>True)
@[instance]abbrev Q9p{x0}:=mkW (Bf.eq_1 N x0) (sz x0≤1099511627776∧Sh.sh x0) (fun r=>True)
@[instance]abbrev Je0{x0 x1}:=mkW (C6.eq_1 N x0 x1) (sz x0≤9223372036854775807∧sz x1≤9223372036854775807) (fun r=>True)
@[instance]abbrev Q5m{x0}{s}:=upL (N:=N) (s:=s) (Nf.eq_def N x0) (fun t=>t) x0.length (fun t=>sz x0≤1099511627776∧Sh.sh x0∧x0.length≤1099511627776) (fun r:((Unit)⊕(Int))=>True)
@[instance]abbrev Je1{x0}:=mkW (C7.eq_1 N x0) (sz x0≤1099511627776∧Sh.sh x0) (fun r=>True)
@[instance]abbrev Q5n{x0}{s}:=upL (N:=N) (s:=s) (Ng.eq_def N x0) (fun t=>t) x0.length (fun t=>sz x0≤9223372036854775807∧Sh.sh x0) (fun r:((Unit)⊕(Bool))=>True)
@[instance]abbrev Je2{x0}:=mkW (C8.eq_1 N x0) (sz x0≤9223372036854775807∧Sh.sh x0) (fun r=>True)
@[instance]abbrev Je3{x0}:=mkW (U5.eq_1 N x0) (True) (fun r=>r=true→0≤x0.1∧x0.1<x0.2∧x0.2≤12622780800)
@[instance]abbrev Q9q{x0 x1}{s}:=upL (N:=N) (s:=s) (R7.eq_def N x0 x1) (fun t=>t.2.1) x0.length (fun t=>x0.length≤1099511627776∧t.2.2.length≤t.2.1+1∧(t.1=false→t.2.2.length≤t.2.1)) (fun r:((Bool×(List Int)))=>r.2.length≤x0.length+1∧(r.1=false→r.2.length≤x0.length))
@[instance]abbrev Jjg{x0 x1}:=mkW (F6.eq_1 N x0 x1) (sz x0≤1099511627776) (fun r=>r.length≤x0.length+1)
@[instance]abbrev Q16{x1}{s}:=upL (N:=N) (s:=s) (Iz.eq_def N x1) (fun t=>t.2) x1.length (fun t=>sz x1≤1099511627776∧s.1.length≤1099511627∧x1.length≤1099511627∧(t.1.length:Int)+2*(x1.length - t.2)≤s.1.length+2*(x1.length - s.2)∧0≤s.2) (fun r:(((List Int)))=>(r.length:Int)≤s.1.length+2*(x1.length - s.2))
@[instance]abbrev Q9r{x0 x1}:=mkW (Wh.eq_1 N x0 x1) (x0.length≤1099511627∧x1.length≤1099511627) (fun r=>r.length≤x0.length+2*x1.length)
@[instance]abbrev Q5o{x0 x1}:=mkW (Kx.eq_1 N x0 x1) (True) (fun r=>True)
@[instance]abbrev Je4{x0 x1}{s}:=upL (N:=N) (s:=s) (Qad.eq_def N x0 x1) (fun t=>t) x0.length (fun t=>sz x0≤9223372036854775807) (fun r:((Unit)⊕(Bool))=>True)
@[instance]abbrev Jnx{x0 x1}:=mkW (B8.eq_1 N x0 x1) (sz x0≤9223372036854775807) (fun r=>True)
@[instance]abbrev Q17{r2 x0 x2 x1 x3}{s}:=upI (N:=N) (s:=s) (I0.eq_def N r2 x0 x2 x1 x3) (fun t=>t.1) ((r2.length:Int)) (fun t=>r2.length≤1099511627776∧t.1≤r2.length∧t.2.length≤t.1∧sz x0≤1099511627776∧sz x1≤1099511627776) (fun r:(((List Qb)))=>r.length≤r2.length)
@[instance]abbrev Q9s{x0 x1 x2 x3}:=mkW (Az.eq_1 N x0 x1 x2 x3) (x0.length≤40000∧x1.length≤40000) (fun r=>r.length≤2*x0.length+2*x1.length)
@[instance]abbrev Q9t{x0 x1}:=mkW (Wi.eq_1 N x0 x1) (x0.length≤40000∧x1.length≤40000) (fun r=>r.length≤2*x0.length+2*x1.length)
@[instance]abbrev Q18{x0 x1}:=mkW (Z7.eq_1 N x0 x1) (True) (fun r=>True)
@[instance]abbrev Qv4{v1 x0 x2}{s}:=upI (N:=N) (s:=s) (E8.eq_def N v1 x0 x2) (fun t=>t) (v1) (fun t=>v1<x0.length∧x0.length≤9223372036854775807) (fun r:((Unit)⊕(Bool))=>True)
@[instance]abbrev Qv5{x0}{s}:=upL (N:=N) (s:=s) (E9.eq_def N x0) (fun t=>t) x0.length (fun t=>sz x0≤9223372036854775807∧x0.length≤9223372036854775807) (fun r:((Unit)⊕(Bool))=>True)
@[instance]abbrev Q0v{x0}:=mkW (Wx.eq_1 N x0) (sz x0≤9223372036854775807) (fun r=>True)
@[instance]abbrev Q5p{x0 x1}{s}:=Qrg (N:=N) (s:=s) (K0.eq_def N x0 x1) x0.2.1 (sz x0.2.1≤9223372036854775807∧Sh.sh x0.2.1∧1≤x1∧x1≤200) (fun y=>(sz y:Int)≤4*x1∧Zp y) ((szL x0.2.1:Int)≤4*x1∧Q5 Zp x0.2.1) (fun u=>u=false) (fin:=fun h hall=>⟨Q74 (fun y hy=>(hall y hy).1) (by omega),⟨fun y hy=>(hall y hy).2⟩⟩)
@[instance]abbrev Q5q{x0 x1}{s}:=Qrg (N:=N) (s:=s) (K1.eq_def N x0 x1) x0.2.2.2.2.2 (x0.2.2.2.2.2.length≤9223372036854775807∧1≤x1∧x1≤200) (fun y=>(sz y:Int)≤x1) ((szL (x0.2.2.2.2.2):Int)≤x1) (fun u=>u=false)
@[instance]abbrev Q5r{x0 x1}{s}:=Qrg (N:=N) (s:=s) (K2.eq_def N x0 x1) x0.2.2.1 (x0.2.2.1.length≤9223372036854775807∧1≤x1∧x1≤200) (fun y=>(y.2.2.2.2.2.length:Int)≤x1) (Q5 (fun p:Qm=>(p.2.2.2.2.2.length:Int)≤x1) x0.2.2.1) (fun u=>u=false) (fin:=fun h hall=>⟨hall⟩)
@[instance]abbrev Q5s{x0}{s}:=Qrg (N:=N) (s:=s) (K3.eq_def N x0) x0.2.2.2.2.1 (x0.2.2.2.2.1.length≤9223372036854775807) (fun y=>True) (∀y∈x0.2.2.2.2.1,True) (fun u=>u=false)
@[instance]abbrev Qlk{x0 x1}:=mkW (U8.eq_1 N x0 x1) (sz x0≤9223372036854775807∧Sh.sh x0∧1≤x1∧x1≤200) (fun r=>r=true→(sz x0:Int)≤4096∧(x0.1.length:Int)≤x1∧(x0.2.2.1.length:Int)≤x1∧Q5 Zp x0.2.1∧Q5 (fun p:Qm=>(p.2.2.2.2.2.length:Int)≤x1) x0.2.2.1∧(r=true→O5 x0.1))
@[instance]abbrev Q9u{x0}:=mkW (Bg.eq_1 N x0) (True) (fun r=>r=true→0≤x0.2.2.2.2.2.2.1∧x0.2.2.2.2.2.2.1<12622780800∧(r=true→UsA x0))
@[instance]abbrev Jgu{x0}:=mkW (Lj.eq_1 N x0) (True) (fun r=>r=true→x0<86400000∨x0>12622780800)
@[instance]abbrev Jgv{x0 x1}{s}:=upL (N:=N) (s:=s) (Qb6.eq_def N x0 x1) (fun t=>t) x0.length (fun t=>sz x0≤9223372036854775807) (fun r:((Int))=>0≤r∧r≤x0.length)
@[instance]abbrev Jqz{x0 x1}:=mkW (Qah.eq_1 N x0 x1) (sz x0≤1099511627776) (fun r=>sz r≤sz x0+1)
@[instance]abbrev Q8n{x0 x1}{s}:=upL (N:=N) (s:=s) (Py.eq_def N x0 x1) (fun t=>t.1) x0.length (fun t=>sz x0≤1099511627776∧t.2.length≤t.1∧sz t.2≤(sz x0)) (fun r:(((List Str)))=>sz r≤(sz x0))
@[instance]abbrev Jgw{x0 x1}:=mkW (Ll.eq_1 N x0 x1) (sz x0≤1099511627776) (fun r=>sz r≤(sz x0))
@[instance]abbrev Jq0{x0 x1}:=mkW (Qai.eq_1 N x0 x1) (sz x0≤1099511627776) (fun r=>r.2.2.2.2.1.length≤x0.2.2.2.2.1.length+1∧r.2.2.2.2.2.1.length≤x0.2.2.2.2.2.1.length+1)
@[instance]abbrev Q8o{x0 x1}{s}:=upL (N:=N) (s:=s) (Pz.eq_def N x0 x1) (fun t=>t.1) x0.length (fun t=>x0.length≤32∧t.2.1.length≤t.1∧sz t.2.1≤t.1∧sz t.2.2≤t.1) (fun r:(((List Ja)))=>sz r≤32)
@[instance]abbrev Jgx{x0 x1}:=mkW (Lm.eq_1 N x0 x1) (x0.length≤32) (fun r=>sz r≤32)
@[instance]abbrev Je5{x0 x1}{s}:=upL (N:=N) (s:=s) (Qaj.eq_def N x0 x1) (fun t=>t) x0.2.2.2.2.2.1.length (fun t=>sz x0≤9223372036854775807∧sz x1≤9223372036854775807∧x0.2.2.2.2.2.1.length=x1.2.2.2.2.2.1.length) (fun r:((Unit)⊕(Bool))=>True)
@[instance]abbrev Jny{x0 x1}:=mkW (Rs.eq_1 N x0 x1) (sz x0≤9223372036854775807∧sz x1≤9223372036854775807) (fun r=>True)
@[instance]abbrev Je6{x0 x1}:=mkW (C9.eq_1 N x0 x1) (sz x0≤9223372036854775807∧sz x1≤9223372036854775807) (fun r=>True)
@[instance]abbrev Je7{x0 x1}:=mkW (Da.eq_1 N x0 x1) (True) (fun r=>sz r≤sz x0)
@[instance]abbrev Qll{x0}{s}:=upL (N:=N) (s:=s) (Z5.eq_def N x0) (fun t=>t.1) x0.length (fun t=>sz x0≤32∧t.2.length≤t.1∧sz t.2≤32∧x0.length≤32) (fun r:(((List Ja)))=>sz r≤32)
@[instance]abbrev Qnt{x0}:=mkW (V4.eq_1 N x0) (sz x0≤32) (fun r=>sz r≤32)
@[instance]abbrev Q9v{r2}{s}:=upL (N:=N) (s:=s) (Sj.eq_def N r2) (fun t=>t.1) r2.length (fun t=>sz r2≤32∧t.2.length≤t.1∧sz t.2≤32∧r2.length≤32) (fun r:(((List Q6)))=>sz r≤32)
@[instance]abbrev Jjh{x0 x1}:=mkW (F9.eq_1 N x0 x1) (x0.length≤32) (fun r=>sz r≤32)
@[instance]abbrev Jq1{x0}:=mkW (Zm.eq_1 N x0) (True) (fun r=>r=true→0≤x0.1∧x0.1<x0.2∧x0.2≤12622780800)
@[instance]abbrev Jgy{x0 x1}:=mkW (H2.eq_1 N x0 x1) (True) (fun r=>True)
@[instance]abbrev Jnz{r1 x2}{s}:=upL (N:=N) (s:=s) (Qho.eq_def N r1 x2) (fun t=>t.1) r1.length (fun t=>sz r1≤9223372036854775807∧r1.length≤9223372036854775807) (fun r:((Qb×Str×Bool×Bool)⊕(Bool×Q6))=>sz r≤(sz r1))
@[instance]abbrev Jxj{x0 x1 x2}:=mkW (Ln.eq_1 N x0 x1 x2) (x0.length≤32) (fun r=>sz r≤32)
@[instance]abbrev Jq2{x0 x1}:=mkW (Qaw.eq_1 N x0 x1) (True) (fun r=>True)
@[instance]abbrev Jr3{x0}{s}:=upL (N:=N) (s:=s) (Qnl.eq_def N x0) (fun t=>t) x0.length (fun t=>Sh.sh x0) (fun r:((Unit)⊕(Bool))=>True) (fun _ h=>Qlg (by grind))
@[instance]abbrev J0n{x0}:=mkW (Qoi.eq_1 N x0) (Sh.sh x0) (fun r=>True)
@[instance]abbrev Jr4{x0 ca}:=mkW (Qdc.eq_1 N x0 ca) (True) (fun r=>True)
@[instance]abbrev Qtj{x0 ca}{s}:=upL (N:=N) (s:=s) (He.eq_def N x0 ca) (fun t=>t) x0.length (fun t=>x0.length≤9223372036854775807) (fun r:((Unit)⊕(Int))=>True)
@[instance]abbrev Qwo{x0 ca}:=mkW (K9.eq_1 N x0 ca) (x0.length≤9223372036854775807) (fun r=>True)
@[instance]abbrev Qtk{x0 ca}:=mkW (Z0.eq_1 N x0 ca) (x0.length≤9223372036854775807) (fun r=>True)
@[instance]abbrev Jq3{x0}{s}:=upL (N:=N) (s:=s) (Qjx.eq_def N x0) (fun t=>t) x0.length (fun t=>sz x0≤9223372036854775807) (fun r:((Unit)⊕(Int))=>True)
@[instance]abbrev Jys{x0}:=mkW (Qjy.eq_1 N x0) (sz x0≤9223372036854775807) (fun r=>True)
@[instance]abbrev Jq4{x0}{s}:=upL (N:=N) (s:=s) (Qjz.eq_def N x0) (fun t=>t) x0.length (fun t=>sz x0≤4096∧x0.length≤64∧Sh.sh x0∧x0.length≤4096) (fun r:((Unit)⊕(Int))=>∀c,r=.inr c→c≠0)
@[instance]abbrev Jyt{x0}:=mkW (P0.eq_1 N x0) (sz x0≤4096∧Sh.sh x0) (fun r=>r=0→1≤x0.length∧x0.length≤64)
@[instance]abbrev Q9w{x0 x1}{s}:=upL (N:=N) (s:=s) (Sq.eq_def N x0 x1) (fun t=>t) x0.length (fun t=>x0.length≤9223372036854775807) (fun r:((Unit)⊕(Int))=>True)
@[instance]abbrev Jji{x0 x1}:=mkW (On.eq_1 N x0 x1) (x0.length≤9223372036854775807) (fun r=>True)
@[instance]abbrev Q9x{x0 x1}:=mkW (Bh.eq_1 N x0 x1) (x0.length≤9223372036854775807) (fun r=>True)
@[instance]abbrev Jjj{x0}:=mkW (Ad.eq_1 N x0) (True) (fun r=>0≤x0→x0<146097→0≤r)
@[instance]abbrev J5h{x0 x1}:=mkW (Ql3.eq_1 N x0 x1) (x0.length≤9223372036854775807∧0≤x1∧x1<146097) (fun r=>True)
@[instance]abbrev Jxk{x0 ca ce}:=mkW (Qgo.eq_1 N x0 ca ce) (True) (fun r=>True)
@[instance]abbrev Qtl{x0 ca ce}{s}:=upL (N:=N) (s:=s) (Hf.eq_def N x0 ca ce) (fun t=>t) x0.length (fun t=>x0.length≤9223372036854775807) (fun r:((Unit)⊕(Int))=>True)
@[instance]abbrev Qwp{x0 ca ce}:=mkW (Xa.eq_1 N x0 ca ce) (x0.length≤9223372036854775807) (fun r=>True)
@[instance]abbrev Qtm{x0 ca ce}:=mkW (Z3.eq_1 N x0 ca ce) (x0.length≤9223372036854775807) (fun r=>True)
@[instance]abbrev Jr5{x0 x1 x2}{s}:=upL (N:=N) (s:=s) (Qnm.eq_def N x0 x1 x2) (fun t=>t) x0.length (fun t=>sz x0≤4096∧x0.length≤4096) (fun r:((Unit)⊕(Str))=>True)
@[instance]abbrev J0o{x0 x1 x2}:=mkW (Qgp.eq_1 N x0 x1 x2) (sz x0≤4096∧1≤x0.length) (fun r=>True) (k:=by
  intro h;have g0:=(Hq (l:=x0))
  exact lw)
@[instance]abbrev J63{x0 x1 x2}:=mkW (Qew.eq_1 N x0 x1 x2) (sz x0≤4096∧Sh.sh x0∧x1.length≤4096) (fun r=>True) (k:=by
  intro h;have g0:=(show 0≤x2∧x2≤12622780799→IntKind.wrap .i64 (Int.tdiv x2 86400)=x2 / 86400 from fun a=>by rw[QU (by omega),Q9 (by omega) (by omega)])
  exact lw)
@[instance]abbrev Jn0{x0:Int}:WP (Xe N x0) (fun R=>(2000≤x0∧x0≤2400)∧∀r:Int,r=bef x0→R r):=Bk fun h=>by
 obtain⟨h0,h1⟩:=h;have e1:IntKind.wrap .i64 (x0 - 2000)=x0 - 2000:=Q9 (by omega) (by omega);have e2:IntKind.wrap .i64 (365*(x0 - 2000))=365*(x0 - 2000):=Q9 (by omega) (by omega);rw[Xe.eq_1,e1,e2]
 by_cases hc:x0 - 2000>0
 ·have e3:IntKind.wrap .i64 (x0 - 2000 - 1)=x0 - 2001:=by rw[Q9 (by omega) (by omega)]; omega
  rw[if_pos (by simpa using hc),e3,QU (by omega),QU (by omega),QU (by omega)];refine⟨_,rfl,?_⟩;simp (disch:=omega) only [Q9];unfold bef;rw[if_pos (by omega)]
  try omega
 ·rw[if_neg (by simpa using hc)]
  refine⟨_,rfl,?_⟩;unfold bef;rw[if_neg (by omega)]
  try omega
@[instance]abbrev Qv6{x0:Int}:WP (Qc5 N x0) (fun R=>True∧∀r:Bool,lpd x0=(if r=true then 1 else 0)→R r):=Bk fun h=>by
 refine⟨_,rfl,?_⟩;unfold lpd;simp only[JZ,QQ,beq_iff_eq,bne_iff_ne,ne_eq]
@[instance]abbrev Jr6{x0 x1:Int}:WP (X6 N x0 x1) (fun R=>(1≤x1∧x1≤12)∧∀r:Int,((28≤r∧r≤31)∧r=mon x0 x1)→R r):=Bk fun h=>by
 have hx:x1=1∨x1=2∨x1=3∨x1=4∨x1=5∨x1=6∨x1=7∨x1=8∨x1=9∨x1=10∨x1=11∨x1=12:=by omega
 unfold mon;rcases hx with rfl | rfl | rfl | rfl | rfl | rfl | rfl | rfl | rfl | rfl | rfl | rfl
 case inr.inl =>
  obtain⟨b,e,hb⟩:=(Qv6 (N:=N) (x0:=x0)).spec (fun b=>lpd x0=(if b=true then 1 else 0)) ⟨trivial,fun _ h=>h⟩;rw[X6.eq_1,e];cases b
  ·exact⟨28,rfl,by simp at hb; rw[hb]; decide⟩
  ·exact⟨29,rfl,by simp at hb; rw[hb]; decide⟩
 all_goals exact⟨_,rfl,by simp⟩
@[instance]abbrev Jjk{x0}{s}:=mkL (N:=N) (s:=s) (Qen.eq_def N x0) (fun t=>(2400 - t.1).toNat) (fun t=>x0<146097∧2000≤t.1∧t.1≤2399∧bef t.1≤x0∧t.2.1=1∧t.2.2=0) (fun r:((Io))=>2000≤r.1∧r.1≤2399∧bef r.1≤x0∧x0<bef r.1+365+lpd r.1∧r.2.1=1) (step:=by
  intro s h;have g0:=Jw0 s.1; have g1:=Jw1; have g2:=(show 2000≤s.1∧s.1≤2399→IntKind.wrap .i64 (s.1+1)=s.1+1 from fun a=>Q9 (by omega) (by omega))
  exact lw)
@[instance]abbrev Jjl{s}:=mkL (N:=N) (s:=s) (Qeo.eq_def N) (fun t=>(13 - t.2.2.1).toNat) (fun t=>0≤t.1∧t.1≤366∧1≤t.2.2.1∧t.2.2.1≤12∧2000≤t.2.1∧t.2.1≤2399∧t.1<lft t.2.1 t.2.2.1∧t.2.1=s.2.1) (fun r:((Int×Io))=>0≤r.1∧r.1≤366∧2000≤r.2.1∧r.2.1≤2399∧1≤r.2.2.1∧r.2.2.1≤12∧r.2.1=s.2.1) (step:=by
  intro s h;have g0:=Jwz s.2.1; have g1:=Jw2 s.2.1 s.2.2.1; have g2:=J6u s.2.1; have g3:=(show 1≤s.2.2.1∧s.2.2.1≤12→IntKind.wrap .i64 (s.2.2.1+1)=s.2.2.1+1 from fun a=>Q9 (by omega) (by omega)); have g4:=(show ∀d:Int,0≤s.1∧s.1≤366→28≤d∧d≤31→IntKind.wrap .i64 (s.1 - d)=s.1 - d from fun d a b=>Q9 (by omega) (by omega))
  exact lw)
@[instance]abbrev Jr7{x0}:=mkW (Qc6.eq_1 N x0) (True) (fun r=>0≤r.1∧r.1≤2399∧0≤r.2.1∧r.2.1≤12∧0≤r.2.2∧r.2.2≤367∧(0≤x0→x0<146097→2000≤r.1∧365*(r.1 - 2000)≤x0∧1≤r.2.1)) (k:=by
  intro h;have g0:=Jwz; have g1:=Q77; have g2:=J8t; have g3:=(show 0≤x0∧x0<146097→IntKind.wrap .i64 (2000+IntKind.wrap .i64 (Int.tdiv x0 366))=2000+x0 / 366 from fun a=>by rw[QU (by omega),Q9 (n:=x0 / 366) (by omega) (by omega),Q9 (by omega) (by omega)]); have g4:=(show ∀y:Int,2000≤y→bef y≤x0→x0<146097→IntKind.wrap .i64 (x0 - bef y)=x0 - bef y from fun y a b c=>by have:=Q77 y a; exact Q9 (by omega) (by omega))
  exact lw)
@[instance]abbrev Jq5{x0 x1}:=mkW (Fd.eq_1 N x0 x1) (True) (fun r => -24002≤r∧r≤4799∧(0≤x1→x1≤12622780799 → -1≤r∧r≤12*(x1 / 31536000)+11)) (k:=by
  intro h;have g0:=(show ∀x:Int,0≤x∧x≤12622780799→IntKind.wrap .i64 (Int.tdiv x 86400)=x / 86400 from fun x a=>by rw[QU (by omega),Q9 (by omega) (by omega)])
  try simp only[sS,reduceCtorEq]at *
  repeat' (first | intro _ | apply And.intro)
  all_goals first | (have g1:=g0 x1; simp (disch:=omega) only [Q9]at *; omega) | exact lv)
@[instance]abbrev Jn1{x0 x1}:=mkW (Rw.eq_1 N x0 x1) (True) (fun r=>(r≠0→2000≤x0∧x0≤2399∧1≤x1∧x1≤12∧r≤31)∧(2000≤x0→x0≤2399→1≤x1→x1≤12→28≤r))
@[instance]abbrev Jn2{x0}{s}:=upI (N:=N) (s:=s) (Qhw.eq_def N x0) (fun t=>t.2) (x0.2.1) (fun t=>1≤t.2∧t.2≤x0.2.1∧x0.2.1≤12∧0≤t.1∧t.1≤366*400+31*t.2∧t.1≤s.1+31*(t.2 - s.2)) (fun r:((Int))=>0≤r∧r≤s.1+31*(x0.2.1 - s.2))
attribute [local instance 1300] Qz8 in
@[instance]abbrev Jxl{x0}:=mkW (Qgk.eq_1 N x0) (True) (fun r=>(2000≤x0.1→x0.1≤2399→1≤x0.2.1→x0.2.1≤12→1≤x0.2.2→x0.2.2≤28→r.2=0∧0≤r.1∧r.1≤366*(x0.1 - 2000)+31*x0.2.1)) (k:=by
  intro h;have g0:=Q77; have g1:=(show 2000≤x0.1∧x0.1≤2399∧1≤x0.2.2∧x0.2.2≤31→IntKind.wrap .i64 (IntKind.wrap .i64 (bef x0.1+x0.2.2) - 1)=bef x0.1+x0.2.2 - 1 from fun a=>by have:=Q77 x0.1 a.1; rw[Q9 (n:=bef x0.1+x0.2.2) (by omega) (by omega),Q9 (by omega) (by omega)])
  exact lw)
@[instance]abbrev Jq6{x0 x1}:=mkW (Ls.eq_1 N x0 x1) (True) (fun r=>0≤x1→x1<4788→1≤x0→x0≤28→r≤2678400*(x1+1)) (k:=by
  intro h;have g0:=(show 0≤x1∧x1<4788→1≤x0∧x0≤28→∀w:Int×Int,(2000≤IntKind.wrap .i64 (2000+IntKind.wrap .i64 (Int.tdiv x1 12))→IntKind.wrap .i64 (2000+IntKind.wrap .i64 (Int.tdiv x1 12))≤2399→1≤IntKind.wrap .i64 (Int.tmod x1 12+1)→IntKind.wrap .i64 (Int.tmod x1 12+1)≤12→1≤x0→x0≤28→w.2=0∧0≤w.1∧w.1≤366*(IntKind.wrap .i64 (2000+IntKind.wrap .i64 (Int.tdiv x1 12)) - 2000)+31*IntKind.wrap .i64 (Int.tmod x1 12+1))→w.2=0∧IntKind.wrap .i64 (w.1*86400)≤2678400*(x1+1)from fun a b w h=>by rw[QU (by omega),JA (by omega),Q9 (n:=x1 / 12) (by omega) (by omega),Q9 (by omega) (by omega),Q9 (by omega) (by omega)]at h; have h:=h (by omega) (by omega) (by omega) (by omega) b.1 b.2; rw[Q9 (by omega) (by omega)]; omega)
  exact lw)
@[instance]abbrev Jgz{x0 x1}:=mkW (H8.eq_1 N x0 x1) (True) (fun r => -1≤x1→x1<4787→1≤x0→x0≤28→r.2≤2678400*(x1+2))
@[instance]abbrev Je8{x0 x1}{s}:=mkL (N:=N) (s:=s) (Qat.eq_def N x0 x1) (fun t=>(4801 - t.1).toNat) (fun t=>1≤x0∧x0≤28∧0≤x1.1∧x1.1<x1.2∧x1.2≤12622780800 ∧ -1≤t.1∧t.1≤4800∧t.2.length≤t.1+1∧(x1.2≤86400001→t.1≤36)∧(x1.2≤99100800→t.1≤48)∧(x1.2≤86400001→Q5 (fun p:Int×Int=>p.2≤99100800) t.2)) (fun r:(((List Qb)))=>r.length≤30000∧(x1.2≤86400001→r.length≤37)∧(x1.2≤99100800→r.length≤49)∧(x1.2≤86400001→Q5 (fun p:Int×Int=>p.2≤99100800) r)) (step:=by
  intro s h;have g0:=(show 0≤x1.1∧x1.1<x1.2∧x1.2≤12622780800→IntKind.wrap .i64 (x1.2 - 1)=x1.2 - 1 from fun a=>Q9 (by omega) (by omega))
  try simp only[sS,reduceCtorEq]at *
  repeat' (first | intro _ | apply And.intro)
  all_goals first | exact Y4 (by grind) (Uv (by grind)) | exact lv)
@[instance]abbrev Jn3{x0 x1}:=mkW (Cc.eq_1 N x0 x1) (True) (fun r=>r.length≤30000∧(x1.2≤86400001→r.length≤37)∧(x1.2≤99100800→r.length≤49)∧(x1.2≤86400001→Q5 (fun p:Int×Int=>p.2≤99100800) r))
@[instance]abbrev Je9{x0 x1}:=mkW (Ku.eq_1 N x0 x1) (True) (fun r=>r.2=true→r.1.1<r.1.2∧0≤r.1.1∧r.1.2≤x0.2∧r.1.2≤x1.2)
@[instance]abbrev Jfa{x0 ca cd cg}:=mkW (Df.eq_1 N x0 ca cd cg) (0≤ca∧ca≤86400000∧cd.length≤37888∧Q5 (fun p:Int×Int=>p.2≤99100800) cd) (fun r=>r.length≤cd.length+37∧Q5 (fun p:Int×Int=>p.2≤99100800) r) (k:=by
  intro h;have g0:=(show 0≤ca∧ca≤86400000→IntKind.wrap .i64 (ca+1)=ca+1 from fun a=>Q9 (by omega) (by omega))
  try simp only[sS,reduceCtorEq]at *
  repeat' (first | intro _ | apply And.intro)
  all_goals first | exact Y4 (by grind) (by grind) | exact lv)
@[instance]abbrev Q5t{x0 x1}{s}:=upL (N:=N) (s:=s) (Nj.eq_def N x0 x1) (fun t=>t.1) x0.length (fun t=>x0.length≤37888∧Q5 (fun p:Int×Int=>p.2≤99100800) x0∧0≤x1∧x1≤1∧s.2.length≤75776∧0≤s.1∧t.2.length≤s.2.length+2*(t.1 - s.1)∧Q5 (Mc 99100800) t.2) (fun r:(((List Jj)))=>r.length≤s.2.length+2*x0.length∧Q5 (Mc 99100800) r) (step:=by
  intro s h h0 h1 h2 hw
  try simp only[sS,reduceCtorEq]at *
  repeat' (first | intro _ | apply And.intro)
  all_goals first | exact Y4 (by grind) (Jd3 ⟨by grind,by grind [Q5.all]⟩ ⟨by grind,by grind [Q5.all]⟩) | exact lv)
@[instance]abbrev Jfb{x0 x1 ce}:=mkW (Dg.eq_1 N x0 x1 ce) (x0.length≤37888∧Q5 (fun p:Int×Int=>p.2≤99100800) x0∧0≤x1∧x1≤1∧ce.length≤75776∧Q5 (Mc 99100800) ce) (fun r=>r.length≤ce.length+2*x0.length∧Q5 (Mc 99100800) r)
@[instance]abbrev Q0e{x0 x1}{s}:=upL (N:=N) (s:=s) (Bv.eq_def N x0 x1) (fun t=>t.1) x0.length (fun t=>x0.length≤37888∧Q5 (fun p:Int×Int=>p.2≤99100800) x0∧0≤x1∧x1≤1∧s.2.length≤75776∧0≤s.1∧t.2.length≤s.2.length+2*(t.1 - s.1)∧Q5 (Mc 99100800) t.2) (fun r:(((List Jj)))=>r.length≤s.2.length+2*x0.length∧Q5 (Mc 99100800) r) (step:=by
  intro s h h0 h1 h2 hw
  try simp only[sS,reduceCtorEq]at *
  repeat' (first | intro _ | apply And.intro)
  all_goals first | exact Y4 (by grind) (Jd3 ⟨by grind,by grind [Q5.all]⟩ ⟨by grind,by grind [Q5.all]⟩) | exact lv)
@[instance]abbrev Q5u{x0 x1 ce}:=mkW (Hp.eq_1 N x0 x1 ce) (x0.length≤37888∧Q5 (fun p:Int×Int=>p.2≤99100800) x0∧0≤x1∧x1≤1∧ce.length≤75776∧Q5 (Mc 99100800) ce) (fun r=>r.length≤ce.length+2*x0.length∧Q5 (Mc 99100800) r)
@[instance]abbrev Jjm{x0 x1}:=mkW (Oi.eq_1 N x0 x1) (True) (fun r=>True)
@[instance]abbrev Jn4{x3 x1}{s}:=upL (N:=N) (s:=s) (Qhx.eq_def N x3 x1) (fun t=>t.1) x3.2.length (fun t=>x3.2.length≤4096∧0≤s.1∧s.2.length≤1099511627∧t.2.length≤s.2.length+2*(t.1 - s.1)) (fun r:(((List Int)))=>r.length≤s.2.length+8192)
@[instance]abbrev Jn5{x0 x1}{s}:=upL (N:=N) (s:=s) (Qhy.eq_def N x0 x1) (fun t=>t.1) x0.length (fun t=>sz x0≤4096∧x0.length≤64∧0≤s.1∧t.2.length≤1+8192*t.1∧x0.length≤4096) (fun r:(((List Int)))=>r.length≤524289)
@[instance]abbrev Jxm{x0 x1}:=mkW (Qgq.eq_1 N x0 x1) (sz x0≤4096∧x0.length≤64) (fun r=>r.length≤524289)
@[instance]abbrev Jxn{r9 v6 x2 x0 r8}{s}:=upL (N:=N) (s:=s) (Qql.eq_def N r9 v6 x2 x0 r8) (fun t=>t.1) r9.length (fun t=>r9.length≤524289∧sz x0≤4096∧1≤x0.length∧0≤s.1∧s.2.length≤1099511627∧t.2.length≤s.2.length+(t.1 - s.1)∧x0.length≤4096) (fun r:(((List Ym)))=>r.length≤s.2.length+524289)
@[instance]abbrev Jxo{x2 x1 x0}{s}:=mkL (N:=N) (s:=s) (Qqm.eq_def N x2 x1 x0) (fun t=>(146100 - t.1).toNat) (fun t=>sz x0≤4096∧1≤x0.length∧x0.length≤64∧x1.length≤4096∧0≤x2.1∧x2.1<x2.2∧x2.2≤12622780800∧x2.2 - x2.1≤2678400∧x2.1 / 86400≤t.1∧t.1≤x2.1 / 86400+33∧(t.2.length:Int)≤524289*(t.1 - x2.1 / 86400)∧x0.length≤4096) (fun r:(((List Ym)))=>r.length≤17301537) (step:=by
  intro s h;have g0:=(show 0≤x2.1∧x2.1<x2.2∧x2.2≤12622780800→IntKind.wrap .i64 (Int.tdiv (IntKind.wrap .i64 (x2.2 - 1)) 86400)=(x2.2 - 1) / 86400 from fun a=>by rw[Q9 (n:=x2.2 - 1) (by omega) (by omega),QU (by omega),Q9 (by omega) (by omega)])
  exact lw)
attribute [local instance 1300] Qz8 in
@[instance]abbrev J5i{x0 x1 x2}:=mkW (Qsp.eq_1 N x0 x1 x2) (sz x0≤4096∧Sh.sh x0∧x1.length≤4096) (fun r=>r.length≤17301537) (k:=by
  intro h;have g0:=(show 0≤x2.1∧x2.1<x2.2∧x2.2≤12622780800→IntKind.wrap .i64 (Int.tdiv x2.1 86400)=x2.1 / 86400∧IntKind.wrap .i64 (x2.2 - x2.1)=x2.2 - x2.1 from fun a=>⟨by rw[QU (by omega),Q9 (by omega) (by omega)],Q9 (by omega) (by omega)⟩)
  exact lw)
@[instance]abbrev Jg0{r7}{s}:=upL (N:=N) (s:=s) (Qcd.eq_def N r7) (fun t=>t.1) r7.length (fun t=>r7.length≤17301537∧t.2.length≤t.1) (fun r:(((List Qj)))=>r.length≤17301537)
@[instance]abbrev Jq7{x0 x1 x2 x3}:=mkW (Qaz.eq_1 N x0 x1 x2 x3) (sz x0≤4096∧Sh.sh x0.2.2.2.2.1∧x1.length≤4096) (fun r=>r.length≤17301537)
@[instance]abbrev Jr8{x0}{s}:=upL (N:=N) (s:=s) (Qnj.eq_def N x0) (fun t=>t) x0.length (fun t=>Sh.sh x0) (fun r:((Unit)⊕(Bool))=>True) (fun _ h=>Qlg (by grind))
@[instance]abbrev J0p{x0}:=mkW (Qog.eq_1 N x0) (Sh.sh x0) (fun r=>True)
@[instance]abbrev Jr9{x0 ca}:=mkW (Qc0.eq_1 N x0 ca) (True) (fun r=>True)
@[instance]abbrev Qtn{x0 ca}{s}:=upL (N:=N) (s:=s) (Hc.eq_def N x0 ca) (fun t=>t) x0.length (fun t=>x0.length≤9223372036854775807) (fun r:((Unit)⊕(Int))=>∀t,r=.inr t→0≤t∧t<x0.length)
@[instance]abbrev Qwq{x0 ca}:=mkW (K8.eq_1 N x0 ca) (x0.length≤9223372036854775807) (fun r => -1≤r∧r<x0.length)
@[instance]abbrev Qto{x0 ca}:=mkW (Zy.eq_1 N x0 ca) (x0.length≤9223372036854775807) (fun r=>True)
@[instance]abbrev Jxp{x0}:=mkW (Qgg.eq_1 N x0) (True) (fun r=>True)
@[instance]abbrev Jn6{x0}{s}:=upL (N:=N) (s:=s) (Qhu.eq_def N x0) (fun t=>t) x0.length (fun t=>Sh.sh x0) (fun r:((Unit)⊕(Bool))=>True) (fun _ h=>Qlg (by grind))
@[instance]abbrev Jxq{x0}:=mkW (Lq.eq_1 N x0) (Sh.sh x0) (fun r=>True)
@[instance]abbrev Jq8{x4}{s}:=upL (N:=N) (s:=s) (Qjs.eq_def N x4) (fun t=>t.1) x4.2.length (fun t=>x4.2.length≤9223372036854775807∧Sh.sh x4) (fun r:(((List (Str×Str)))⊕(Int))=>∀c,r=.inr c→c≠0)
@[instance]abbrev Jq9{x0}{s}:=upL (N:=N) (s:=s) (Qjt.eq_def N x0) (fun t=>t.1) x0.length (fun t=>sz x0≤9223372036854775807∧Sh.sh x0∧x0.length≤9223372036854775807) (fun r:(((List (Str×Str)))⊕(Int))=>∀c,r=.inr c→c≠0)
@[instance]abbrev Jyu{x0}:=mkW (Qju.eq_1 N x0) (sz x0≤9223372036854775807∧Sh.sh x0) (fun r=>∀c,r=.inr c→c≠0)
@[instance]abbrev Jjn{x1 ca}{s}:=mkL (N:=N) (s:=s) (Qek.eq_def N x1 ca) (fun t=>t.toNat) (fun t=>List.length x1≤9223372036854775807∧t≤List.length x1) (fun r:((Unit)⊕(Str×Bool))=>True)
@[instance]abbrev Jsa{x1 x2 ca}:=mkW (Qc1.eq_1 N x1 x2 ca) (List.length x1≤9223372036854775807∧x2≤List.length x1) (fun r=>True)
@[instance]abbrev J0q{x0 x1}:=mkW (Of.eq_1 N x0 x1) (sz x0≤9223372036854775807∧Sh.sh x0∧Sh.sh x1∧List.length x1≤9223372036854775807) (fun r=>True)
@[instance]abbrev Jjo{r3 x0 x2 r1}{s}:=upL (N:=N) (s:=s) (Qex.eq_def N r3 x0 x2 r1) (fun t=>t.2.2.2.2.1) r3.length (fun t=>r3.length≤17301537∧sz x0≤4096∧t.2.2.2.2.2.length=r3.length) (fun r:((Int×Int×Int×(List Qj)))=>r.2.2.2.length≤17301537)
@[instance]abbrev Jsb{x0 x1 x2 x3}:=mkW (Bx.eq_1 N x0 x1 x2 x3) (sz x0≤4096∧Sh.sh x0.2.2.2.1∧Sh.sh x0.2.2.2.2.1∧x1.length≤4096∧Sh.sh x2.2.2.2.2.2.1∧List.length x2.2.2.2.2.2.1≤9223372036854775807) (fun r=>r.2.2.length≤17301537)
@[instance]abbrev Jg1{r3}{s}:=upL (N:=N) (s:=s) (H9.eq_def N r3) (fun t=>t.2) r3.length (fun t=>r3.length≤17301537) (fun r:((Int))=>True)
@[instance]abbrev Jra{x0 x1}:=mkW (Fh.eq_1 N x0 x1) (True) (fun r=>True)
@[instance]abbrev Jfc{x0 x1:Qc}{s:Int}:WP (Qf (Jx N x0 x1) N s) (fun R=>(0≤s∧s≤3)∧∀r:Unit⊕Int,True→R r):=⟨fun R h=>(mkL (N:=N) (s:=s) (f':=Jx N x0 x1) (B:=fun t S=>0≤t∧t≤3∧∀r,(match r with | .inl t'=>(0≤t'∧t'≤3)∧(3 - t').toNat<(3 - t).toNat | .inr _=>True)→S r) (hf:=⟨fun t S h=>by
  obtain⟨h0,h1,k⟩:=h;have hx:t=0∨t=1∨t=2∨t=3:=by omega
  have go:∀(t:Int) (a b:Int),0≤t→t<3→idx ([([x0.1,x1.1]:List Int),([x0.2.1,x1.2.1]:List Int),([x0.2.2.1,x1.2.2.1]:List Int)]:List (List Int)) t=some [a,b]→∃r,Jx N x0 x1 t=some r∧(match r with | .inl t'=>(0≤t'∧t'≤3)∧(3 - t').toNat<(3 - t).toNat | .inr _=>True):=fun t a b h0 h1 e=>by
   have hw:IntKind.wrap .i64 (t+1)=t+1:=Q9 (by omega) (by omega);unfold Jx;rw[if_pos (by simpa using h1),e]
   by_cases c1:a<b
   ·refine⟨.inr (.inr (-1)),?_,trivial⟩
    show(if decide (a<b)=true then _ else _)=_;rw[if_pos (by simpa using c1)]
   ·by_cases c2:a>b
    ·refine⟨.inr (.inr 1),?_,trivial⟩
     show(if decide (a<b)=true then _ else _)=_;rw[if_neg (by simpa using c1)];show(if decide (a>b)=true then _ else _)=_;rw[if_pos (by simpa using c2)]
    ·refine⟨.inl (t+1),?_,⟨by omega,by omega⟩,by omega⟩
     show(if decide (a<b)=true then _ else _)=_;rw[if_neg (by simpa using c1)];show(if decide (a>b)=true then _ else _)=_;rw[if_neg (by simpa using c2),hw]
  rcases hx with rfl | rfl | rfl | rfl
  ·obtain⟨r,e,hr⟩:=go 0 x0.1 x1.1 (by omega) (by omega) rfl; exact⟨r,e,k r hr⟩
  ·obtain⟨r,e,hr⟩:=go 1 x0.2.1 x1.2.1 (by omega) (by omega) rfl; exact⟨r,e,k r hr⟩
  ·obtain⟨r,e,hr⟩:=go 2 x0.2.2.1 x1.2.2.1 (by omega) (by omega) rfl; exact⟨r,e,k r hr⟩
  ·exact⟨.inr (.inl ()),rfl,k _ trivial⟩⟩) (fun _=>rfl) (fun t=>(3 - t).toNat) (fun t=>0≤t∧t≤3) (fun _=>True) (hμ:=fun t h=>by omega) (step:=fun t h=>⟨h.1,h.2,fun r hr=>by cases r<;>exact hr⟩)).spec R h⟩
@[instance]abbrev Jn7{x0 x1:Qc}:WP (Un N x0 x1) (fun R=>True∧∀r:Int,(r=0→x0.1=x1.1)→R r):=Bk fun _=>Jef
@[instance]abbrev Jrb{x0 x1 x2 x3}{s}:=upL (N:=N) (s:=s) (Qj0.eq_def N x0 x1 x2 x3) (fun t=>t.1) x0.length (fun t=>x0.length≤9223372036854775807) (fun r:((Qc)⊕(Qc))=>True)
@[instance]abbrev Jyv{x0 x1 x2 x3}:=mkW (P1.eq_1 N x0 x1 x2 x3) (x0.length≤9223372036854775807) (fun r=>True)
@[instance]abbrev Jxr{x0:Qh}{x1 x2:Str}{x3:Qc}{x4:Bool}:WP (Ae N x0 x1 x2 x3 x4) (fun R=>True∧∀r:Yh,True→R r):=Bk fun h=>by
 rw[Ae.eq_1];refine wp ?_
 have e:∀(i:Int) (x:Int),([86400,60]:List Int)[i.toNat]?=some x→x∈([86400,60]:List Int)→x≠0:=fun i x _ h=>by
  rcases QX.1 h with rfl | h
  ·decide
  ·rw[QO.1 h]; decide
 refine⟨fun _=>trivial,fun _=>?_⟩;refine⟨by decide,fun y hy _ _ _=>⟨by decide,fun y2 hy2 _ _ e2=>⟨e _ _ e2 hy2,⟨trivial,fun r hr=>⟨by decide,fun y3 _ _ _ _=>⟨by decide,fun y4 hy4 _ _ e4=>⟨e _ _ e4 hy4,⟨by decide,fun y5 _ _ _ _=>⟨by decide,fun y6 hy6 _ _ e6=>⟨e _ _ e6 hy6,trivial⟩⟩⟩⟩⟩⟩⟩⟩⟩⟩
@[instance]abbrev Jjp{x0}:=mkW (Yy.eq_1 N x0) (True) (fun r=>((x0=1∨x0=2∨x0=3)∧r=0)∨(x0=4∧r=1)∨(4<x0∧x0<16∧r=2)∨r = -1)
def atr(x:Str):Int:=(Yf 0 x).getD 0
theorem Q0f{N:Nat}(x:Str):Yf N x=some (atr x):=by
 have h:∃r,Yf 0 x=some r:=by
  obtain⟨r,e,_⟩:=(mkW (Yf.eq_1 0 x) True (fun r=>True)).spec (fun _=>True) ⟨trivial,fun _ _=>trivial⟩;exact⟨r,e⟩
 obtain⟨r,e⟩:=h;unfold atr;rw[e,XK,←e,Yf.eq_1,Yf.eq_1]
@[instance]abbrev Jg2{x0:Str}:WP (Yf N x0) (fun R=>True∧∀r:Int,r=atr x0→R r):=Bk fun _=>⟨_,Q0f x0,rfl⟩
@[instance]abbrev Jjq{x0 x1}:=mkW (V2.eq_1 N x0 x1) (x1.length=2) (fun r=>r.2=0→∃k0 k1,x1[0]?=some k0∧x1[1]?=some k1∧((x0=4∧k0=3∧r.1=3)∨((x0=5∨x0=6)∧k0=3∧k1=3∧r.1=3)∨((x0=7∨x0=8)∧k0=k1∧k0≠3∧r.1=3)∨((x0=9∨x0=10)∧k0=1∧k1=1∧r.1=3)∨(¬ (4≤x0∧x0≤10)∧k0=1∧k1=1∧r.1=1)))
def Y5:Nat→Ql→Int→Prop
 | 0,_,_=>False
 | n+1,e,k =>
  (e.x.1=1∧e.ks.length=0∧k=1∧0≤e.x.2.1∧e.x.2.1≤1099511627776)∨(e.x.1=2∧e.ks.length=0∧List.length e.x.2.2≤200∧k=2)∨(e.x.1=3∧e.ks.length=0∧k=atr e.x.2.2∧k≠0) ∨
  (4≤e.x.1∧e.x.1<16∧∃k0 k1,(∀a,e.ks[0]?=some a→Y5 n a k0)∧(∀a,e.ks[1]?=some a→Y5 n a k1) ∧
   ((e.x.1=4∧e.ks.length=1∧k0=3∧k=3)∨(e.ks.length=2∧(((e.x.1=5∨e.x.1=6)∧k0=3∧k1=3∧k=3)∨((e.x.1=7∨e.x.1=8)∧k0=k1∧k0≠3∧k=3)∨((e.x.1=9∨e.x.1=10)∧k0=1∧k1=1∧k=3)∨(10<e.x.1∧k0=1∧k1=1∧k=1)))))
theorem J64{K x:Int}(h:Q41 K [x]):0≤x∧x≤K:=h.1
structure Qlm(n:Nat)(ks:List Ql)(l:List Int)(i:Int):Prop where
 at_:∀j:Nat,(j:Int)<i→∀a k,ks[j]?=some a→l[j]?=some k→Y5 n a k
theorem Jxs{n:Nat}{e:Ql}{l:List Int}{r:Int}(h1:(e.x.1=4∧e.ks.length=1)∨(4<e.x.1∧e.x.1<16∧e.ks.length=2))(hk:Qlm n e.ks l e.ks.length)
  (hc:∃k0 k1,l[0]?=some k0∧l[1]?=some k1∧((e.x.1=4∧k0=3∧r=3)∨((e.x.1=5∨e.x.1=6)∧k0=3∧k1=3∧r=3)∨((e.x.1=7∨e.x.1=8)∧k0=k1∧k0≠3∧r=3)∨((e.x.1=9∨e.x.1=10)∧k0=1∧k1=1∧r=3)∨((4≤e.x.1→¬ e.x.1≤10)∧k0=1∧k1=1∧r=1))):Y5 (n+1) e r:=by
 obtain⟨k0,k1,e0,e1,h⟩:=hc;rw[Y5];refine .inr (.inr (.inr ⟨by clear hk h; omega,by clear hk h; omega,k0,k1,fun a ha=>hk.at_ 0 (by clear h; omega) a k0 ha e0,fun a ha=>hk.at_ 1 ?_ a k1 ha e1,?_⟩))
 ·have:=(List.getElem?_eq_some_iff.1 ha).1
  omega
 ·rcases h with h | h | h | h | h
  ·exact .inl ⟨h.1,by omega,h.2.1,h.2.2⟩
  ·exact .inr ⟨by omega,.inl h⟩
  ·exact .inr ⟨by omega,.inr (.inl h)⟩
  ·exact .inr ⟨by omega,.inr (.inr (.inl h))⟩
  ·exact .inr ⟨by omega,.inr (.inr (.inr ⟨by omega,h.2.1,h.2.2.1,h.2.2.2⟩))⟩
theorem Jrc{n:Nat}{ks:List Ql}{l:List Int}:Qlm n ks l 0:=⟨fun j h=>by omega⟩
theorem Jrd{n:Nat}{ks:List Ql}{l:List Int}{i k:Int}{x:Ql}(h:Qlm n ks l i)(h0:0≤i)(hx:ks[i.toNat]?=some x)(t:Y5 n x k):Qlm n ks (l.set i.toNat k) (i+1):=⟨fun j hj a k' ha hk=>by
 by_cases e:j=i.toNat
 ·subst e
  rw[hx]at ha;rw[List.getElem?_set_self']at hk;cases hl:l[i.toNat]? with
  | none=>rw[hl]at hk; cases hk
  | some y =>
   rw[hl]at hk;simp only[Option.map_eq_map,XJ,Function.const_apply,Option.some.injEq]at hk ha;rw[←hk,←ha]; exact t
 ·rw[List.getElem?_set_ne (by omega)]at hk
  exact h.at_ j (by omega) a k' ha hk⟩
theorem Jxt{n:Nat}{ks:List Ql}{l:List Int}{i j:Int}(h:Qlm n ks l i)(hle:j≤i):Qlm n ks l j:=⟨fun m hm=>h.at_ m (by omega)⟩
theorem Qfn{N:Nat}[Kb N]:∀(n:Nat) (e:Ql) (d:Int),1≤d→d≤17→18≤n+d→sz e≤4096→W (Q3 N n e d) fun r=>r.2=0→Y5 n e r.1
 | 0,e,d,h0,h1,h2,h3=>by omega
 | n+1,e,d,h0,h1,h2,h3=>by
  unfold Q3
  by_cases hd:d>16
  ·rw[if_pos (by simpa using hd)]
   exact⟨_,rfl,fun h=>absurd h (by decide)⟩
  ·rw[if_neg (by simpa using hd)]
   have hw:IntKind.wrap .i64 (d+1)=d+1:=Q9 (by omega) (by omega);have ih:∀x:Ql,WP (Q3 N n x (IntKind.wrap .i64 (d+1))) (fun R=>sz x≤4096∧∀r:Int×Int,(r.2=0→Y5 n x r.1)→R r):=fun x=>Bk fun h=>by rw[hw]; exact Qfn n x (d+1) (by omega) (by omega) (by omega) h
   have hk:=Qhi (e:=e);have hlen:=Hq (l:=e.ks)
   have loop:=fun s:Int×List Int=>upL (N:=N) (s:=s) (Uo.eq_def N (Q3 N n) e d) (fun s=>s.1) e.ks.length (fun s=>sz e.ks≤4096∧e.ks.length≤2∧s.2.length=2∧Qlm n e.ks s.2 s.1) (fun r:List Int⊕(Int×Int)=>(∀a,r=.inl a→a.length=2∧Qlm n e.ks a e.ks.length)∧∀a,r=.inr a→a.2≠0) (step:=by
    intro s h h0 h1 h2 hw
    try simp only[sS,reduceCtorEq]at *
    repeat' (first | intro _ | apply And.intro)
    all_goals first | assumption | omega | (rw[hw (by assumption)]; exact Jrd h.2.2.2 h0 (by assumption) (by grind)) | exact Jxt h.2.2.2 (by omega) | grind)
   refine wp ?_
   try simp only[sS,reduceCtorEq]at *
   repeat' (first | intro _ | apply And.intro)
   all_goals first | assumption | omega | exact Jrc | exact XB | (rename_i h5 _ h6 h7; exact Jxs (by clear h6 h7 h5; omega) h5.2 (h6 h7)) | (rw[Y5]; exact .inl ⟨by assumption,by omega,rfl,J64 (by grind)⟩) | (rw[Y5]; exact .inr (.inl ⟨by assumption,by omega,by omega,rfl⟩)) | (rw[Y5]; exact .inr (.inr (.inl ⟨by assumption,by omega,rfl,by assumption⟩)))
@[instance]abbrev Jxu{N:Nat}[hN:Kb N]{x0:Ql}{x1:Int}:WP (Lx N x0 x1) (fun R=>(sz x0≤4096∧x1=1)∧∀r:Int×Int,(r.2=0→Y5 N x0 r.1)→R r):=Bk (by
  intro h;have:=hN.le;rw[h.2]
  exact Qfn N x0 1 (by omega) (by omega) (by omega) h.1)
@[instance]abbrev Qbl{x0}:=mkW (Zf.eq_1 N x0) (sz x0≤4096) (fun r=>r.2=0→Y5 N x0 r.1)
@[instance]abbrev J5j{x0 x1}:=mkW (Hj.eq_1 N x0 x1) (True) (fun r=>True)
@[instance]abbrev Jyw{x0}:=mkW (Gh.eq_1 N x0) (True) (fun r=>r.2=true → -4611686018427387904≤r.1∧r.1≤4611686018427387904)
@[instance]abbrev Jre{x0 x1}:=mkW (Qa0.eq_1 N x0 x1) (True) (fun r=>True)
theorem Qv7{N:Nat}[Kb N]{self:Ql→Yh→Option (Int×Bool)}{i:Int}{e:Ql}{v:Yh}{P:Ql→Prop}{Q:Int×Bool→Prop}(ih:∀x,P x→W (self x v) Q)(h:∀a,e.ks[i.toNat]?=some a→P a)(h0:0≤i)(h1:i<e.ks.length):W (X7 N self i e v) Q:=by
 rw[X7.eq_1];have hl:i.toNat<e.ks.length:=by omega
 have he:idx e.ks i=some e.ks[i.toNat]:=by unfold idx; rw[if_pos h0,List.getElem?_eq_getElem hl]
 obtain⟨r,er,hr⟩:=ih _ (h _ (List.getElem?_eq_getElem hl));rw[he];show W ((self e.ks[i.toNat] v).bind _) _;rw[er];exact⟨_,rfl,hr⟩
@[instance]abbrev J65{x0:Int}{x1:Int}:WP (Qqn N x0 x1) (fun R=>((-4611686018427387904≤x0∧x0≤4611686018427387904) ∧ -4611686018427387904≤x1∧x1≤4611686018427387904)∧∀r:Int×Bool,(r.2=true → -4611686018427387904≤r.1∧r.1≤4611686018427387904)→R r):=Bk (by
  rintro⟨h0,h1⟩;unfold Qqn;rcases XX x1 0 with h | h | h
  ·rw[Q9 (n := -4611686018427387904 - x1) (by omega) (by omega)]
   refine wp ?_;simp only[ss,JZ,QQ,decide_eq_true_eq];refine⟨fun _ h=>absurd h (by decide),fun hc _=>?_⟩;rw[Q9 (by omega) (by omega)]; omega
  ·subst h
   refine wp ?_;refine⟨fun _ h=>absurd h (by decide),fun hc _=>?_⟩;simp only[Int.add_zero];rw[Q9 (by omega) (by omega)]; exact h0
  ·rw[Q9 (n:=4611686018427387904 - x1) (by omega) (by omega)]
   refine wp ?_;simp only[ss,JZ,QQ,decide_eq_true_eq];refine⟨fun _ h=>absurd h (by decide),fun hc _=>?_⟩
   rw[Q9 (by omega) (by omega)]; omega)
theorem J0r{a b:Int}(ha : -4611686018427387904≤a∧a≤4611686018427387904)(hb : -4611686018427387904≤b∧b≤4611686018427387904)(h0:b≠0)(hq:(if 0 - a>a then 0 - a else a)≤(4611686018427387904:Int).tdiv (if 0 - b>b then 0 - b else b)) : -4611686018427387904≤a*b∧a*b≤4611686018427387904:=by
 generalize hA:(if 0 - a>a then 0 - a else a)=A at hq;generalize hB:(if 0 - b>b then 0 - b else b)=B at hq;have h1:0≤A∧(A=a∨A = -a):=by split at hA<;>omega
 have h2:0<B∧(B=b∨B = -b):=by split at hB<;>omega
 rw[QU (by omega)]at hq
 have h3:A*B≤4611686018427387904:=by
  have:=XI hq (Int.le_of_lt h2.1);exact Int.le_trans this (Int.ediv_mul_le _ (by omega))
 have h4:0≤A*B:=Int.mul_nonneg h1.1 (Int.le_of_lt h2.1);rcases h1.2 with e1 | e1<;>rcases h2.2 with e2 | e2<;>subst e1 e2<;>(try simp only[Int.neg_mul,Int.mul_neg,Int.neg_neg]at h3 h4)<;>omega
@[instance]abbrev Jxv{x0:Int}{x1:Int}:WP (G5 N x0 x1) (fun R=>((-4611686018427387904≤x0∧x0≤4611686018427387904) ∧ -4611686018427387904≤x1∧x1≤4611686018427387904)∧∀r:Int×Bool,(r.2=true → -4611686018427387904≤r.1∧r.1≤4611686018427387904)→R r):=Bk (by
  rintro⟨h0,h1⟩;unfold G5;rw[Q9 (n:=0 - x0) (by omega) (by omega),Q9 (n:=0 - x1) (by omega) (by omega)]
  by_cases hz:((x0==0)||(x1==0))=true
  ·rw[if_pos hz]; exact⟨_,rfl,fun _=>by decide⟩
  ·rw[if_neg hz]
   have hz0:x1≠0:=fun e=>hz (by rw[e]; simp);refine wp ?_;have hB:(if 0 - x1>x1 then 0 - x1 else x1)≠0∧1≤(if 0 - x1>x1 then 0 - x1 else x1):=by split<;>omega
   refine⟨hB.1,?_⟩
   have hq:(4611686018427387904:Int).tdiv (if 0 - x1>x1 then 0 - x1 else x1)≤4611686018427387904∧0≤(4611686018427387904:Int).tdiv (if 0 - x1>x1 then 0 - x1 else x1):=by
    rw[QU (by omega)];exact⟨XN _ (by omega),XR (by omega) (by omega)⟩
   rw[Q9 (n:=(4611686018427387904:Int).tdiv (if 0 - x1>x1 then 0 - x1 else x1)) (by omega) (by omega)];refine⟨fun _ h=>absurd h (by decide),fun hle _=>?_⟩;have:=J0r h0 h1 hz0 (Int.not_lt.1 fun hgt=>hle (decide_eq_true hgt));rw[Q9 (n:=x0*x1) (by omega) (by omega)]
   exact this)
theorem Jrf(x:Str):atr x=0∨atr x=1∨atr x=2∨atr x=3:=by
 obtain⟨r,e,h⟩:=(mkW (Yf.eq_1 0 x) True (fun r=>r=0∨r=1∨r=2∨r=3)).spec (fun r=>r=0∨r=1∨r=2∨r=3) ⟨trivial,fun _ h=>h⟩;unfold atr;rw[e,XK]; exact h
theorem Q0g{n:Nat}{e:Ql}{k:Int}(h:Y5 n e k):k=1∨k=2∨k=3:=by
 cases n with
 | zero=>exact h.elim
 | succ n =>
  rw[Y5]at h;have:=Jrf e.x.2.2;rcases h with h | h | h | ⟨h1,h2,k0,k1,h3,h4,h5⟩
  ·omega
  ·omega
  ·obtain⟨h1,h2,h3,h4⟩:=h
   omega
  ·clear h3 h4; omega
structure Q8p(n:Nat)(e:Ql)(k:Int):Prop where
 all:∀(i:Nat) (a:Ql),e.ks[i]?=some a→i<2→Y5 n a k
theorem Qmc{n:Nat}{e:Ql}{k:Int}(h0:∀a,e.ks[0]?=some a→Y5 n a k)(h1:∀a,e.ks[1]?=some a→Y5 n a k):Q8p n e k:=⟨fun i a ha hi=>by
 match i,hi with
 | 0,_=>exact h0 a ha
 | 1,_=>exact h1 a ha⟩
theorem Qtp{n:Nat}{e:Ql}(h:Y5 (n+1) e 1):e.x.1=1∨e.x.1=3∨(10<e.x.1∧e.x.1<16∧e.ks.length=2∧Q8p n e 1):=by
 rw[Y5]at h;rcases h with h | h | h | ⟨h1,h2,k0,k1,h3,h4,h5⟩
 ·exact .inl h.1
 ·exact absurd h.2.2.2 (by decide)
 ·exact .inr (.inl h.1)
 ·refine .inr (.inr ?_)
  have h6:10<e.x.1∧e.ks.length=2∧k0=1∧k1=1:=by clear h3 h4; omega
  obtain⟨h7,h8,rfl,rfl⟩:=h6;exact⟨h7,h2,h8,Qmc h3 h4⟩
theorem Qur{n:Nat}{e:Ql}(h:Y5 (n+1) e 3):e.x.1=3∨(e.x.1=4∧e.ks.length=1∧∀a,e.ks[0]?=some a→Y5 n a 3)∨((e.x.1=5∨e.x.1=6)∧e.ks.length=2∧Q8p n e 3)∨(6<e.x.1∧e.ks.length=2∧∃k,(k=1∨k=2)∧Q8p n e k):=by
 rw[Y5]at h;rcases h with h | h | h | ⟨h1,h2,k0,k1,h3,h4,h5⟩
 ·exact absurd h.2.2.1 (by decide)
 ·exact absurd h.2.2.2 (by decide)
 ·exact .inl h.1
 ·rcases h5 with h5 | ⟨h5,h6 | h6 | h6 | h6⟩
  ·obtain⟨h6,h7,rfl,_⟩:=h5
   exact .inr (.inl ⟨h6,h7,h3⟩)
  ·obtain⟨h6,rfl,rfl,_⟩:=h6
   exact .inr (.inr (.inl ⟨h6,h5,Qmc h3 h4⟩))
  ·obtain⟨h6,rfl,h7,_⟩:=h6
   by_cases hk:k0=1∨k0=2
   ·exact .inr (.inr (.inr ⟨by omega,h5,k0,hk,Qmc h3 h4⟩))
   ·have hl:(0:Nat)<e.ks.length:=by omega
    have:=Q0g (h3 _ (List.getElem?_eq_getElem hl));omega
  ·obtain⟨h6,rfl,rfl,_⟩:=h6
   exact .inr (.inr (.inr ⟨by omega,h5,1,.inl rfl,Qmc h3 h4⟩))
  ·exact absurd h6.2.2.2 (by decide)
theorem Xf{N:Nat}[Kb N]:∀(n m:Nat) (e:Ql) (v:Yh),m≤n→Y5 m e 1→W (Ua N n e v) fun r=>r.2=true → -4611686018427387904≤r.1∧r.1≤4611686018427387904
 | n,0,e,v,hm,h=>h.elim
 | 0,m+1,e,v,hm,h=>by omega
 | n+1,m+1,e,v,hm,h=>by
  unfold Ua;have ih:∀i,WP (X7 N (Ua N n) i e v) (fun R=>(0≤i∧i≤1∧i<e.ks.length∧Q8p m e 1)∧∀r:Int×Bool,(r.2=true → -4611686018427387904≤r.1∧r.1≤4611686018427387904)→R r):=fun i=>Bk fun hi=>Qv7 (P:=fun x=>Y5 m x 1) (fun x hx=>Xf n m x v (by omega) hx) (fun a ha=>hi.2.2.2.all i.toNat a ha (by omega)) hi.1 hi.2.2.1
  have hd:∀a b:Int,(-4611686018427387904≤a∧a≤4611686018427387904)→b≠0→IntKind.wrap .i64 (a.tdiv b)=a.tdiv b:=fun a b ha hb=>by
   have h1:=ZW a b;exact Q9 (by omega) (by omega)
  have hn:¬ e.x.1=1→¬ e.x.1=3→10<e.x.1∧e.x.1<16∧e.ks.length=2:=fun a b=>(Qtp h).elim (fun c=>absurd c a) fun c=>c.elim (fun c=>absurd c b) fun c=>⟨c.1,c.2.1,c.2.2.1⟩
  have hneg:∀r:Int×Bool,(r.2=true → -4611686018427387904≤r.1∧r.1≤4611686018427387904)→¬ r.2=false → -4611686018427387904≤IntKind.wrap .i64 (0 - r.1)∧IntKind.wrap .i64 (0 - r.1)≤4611686018427387904:=fun r h1 h2=>by
   have:=h1 (by simpa using h2);rw[Q9 (by omega) (by omega)]; omega
  have hk:¬ e.x.1=1→¬ e.x.1=3→Q8p m e 1:=fun a b=>(Qtp h).elim (fun c=>absurd c a) fun c=>c.elim (fun c=>absurd c b) fun c=>c.2.2.2;clear h;refine wp ?_
  try simp only[sS,reduceCtorEq]at *
  repeat' (first | intro _ | apply And.intro)
  all_goals first | assumption | omega | exact hk (by assumption) (by assumption) | (have q:=hneg _ (by assumption) (And.right (by assumption)); first | exact q.1 | exact q.2) | grind
structure J8x(N:Nat)(e:Ql)(k:Int):Prop where
 out:∃m,m≤N∧Y5 m e k
@[instance]abbrev Jyx{x0:Ql}{x1:Yh}:WP (Qce N x0 x1) (fun R=>J8x N x0 1∧∀r:Int×Bool,True→R r):=Bk fun h=>let⟨m,hm,ht⟩:=h.out; (Xf N m x0 x1 hm ht).mono fun _ _=>trivial
theorem Q5v{N:Nat}[hN:Kb N]{e:Ql}{n:Nat}(h:Y5 n e 2):Zf N e=some (2,0):=by
 obtain⟨M,rfl⟩:∃M,N=M+1:=⟨N - 1,by have:=hN.le; omega⟩
 cases n with
 | zero=>exact h.elim
 | succ n =>
  rw[Y5]at h
  have h':(e.x.1=2∧e.ks.length=0∧e.x.2.2.length≤200)∨(e.x.1=3∧e.ks.length=0∧2=atr e.x.2.2):=by
   rcases h with h | h | h | ⟨h1,h2,k0,k1,h3,h4,h5⟩
   ·exact absurd h.2.2.1 (by decide)
   ·exact .inl ⟨h.1,h.2.1,h.2.2.1⟩
   ·exact .inr ⟨h.1,h.2.1,h.2.2.1⟩
   ·exfalso
    clear h3 h4; omega
  unfold Zf Lx Q3;rcases h' with⟨h1,h2,h3⟩ | ⟨h1,h2,h3⟩
  ·rw[h1,h2]
   have h3':¬ ((List.length e.x.2.2:Int)>200):=by omega
   simp only[Yy];simp[h3']
  ·rw[h1,h2]
   simp only[Yy,Q0f,←h3];simp
structure Cmp(N:Nat)(e:Ql):Prop where
 two:e.ks.length=2
 kids:∃m k,m≤N∧(k=1∨k=2)∧Q8p m e k
@[instance]abbrev Jxw{x0:Ql}{x1:Yh}:WP (Af N x0 x1) (fun R=>(Cmp N x0∧sz x0≤4096)∧∀r:Int×Bool,True→R r):=Bk fun h=>by
 obtain⟨⟨h2,m,k,hm,hk,hK⟩,hs⟩:=h;have l0:(0:Nat)<x0.ks.length:=by omega
 have l1:(1:Nat)<x0.ks.length:=by omega
 have e0:idx x0.ks 0=some x0.ks[0]:=G8 (i:=0) l0;have e1:idx x0.ks 1=some x0.ks[1]:=G8 (i:=1) l1;have t0:=hK.all 0 _ (List.getElem?_eq_getElem l0) (by omega);have t1:=hK.all 1 _ (List.getElem?_eq_getElem l1) (by omega);have s0:sz x0.ks[0]≤4096:=Nat.le_trans (Qhg (JH l0)) (Nat.le_trans Qhi hs);unfold Af;rw[e0,QJ];rcases hk with rfl | rfl
 ·obtain⟨r,er,_⟩:=(Qbl (N:=N) (x0:=x0.ks[0])).spec (fun _=>True) ⟨s0,fun _ _=>trivial⟩
  rw[er,QJ,e1];have hT:∀x:Ql,Y5 m x 1→J8x N x 1:=fun x hx=>⟨m,hm,hx⟩
  have q0:=hT _ t0;have q1:=hT _ t1;clear hK t0 t1 hT;refine wp ?_
  try simp only[sS,reduceCtorEq]at *
  repeat' (first | intro _ | apply And.intro)
  all_goals first | assumption | trivial | grind
 ·rw[Q5v t0,QJ,if_pos (by rfl),e1]
  clear hK t0 t1;refine wp ?_
  try simp only[sS,reduceCtorEq]at *
  repeat' (first | intro _ | apply And.intro)
  all_goals first | assumption | trivial | grind
theorem Q0h{N:Nat}[Kb N]{self:Ql→Yh→Option Bool}{i:Int}{e:Ql}{v:Yh}{P:Ql→Prop}{Q:Bool→Prop}(ih:∀x,P x→W (self x v) Q)(h:∀a,e.ks[i.toNat]?=some a→P a)(h0:0≤i)(h1:i<e.ks.length):W (Vu N self i e v) Q:=by
 rw[Vu.eq_1];have hl:i.toNat<e.ks.length:=by omega
 have he:idx e.ks i=some e.ks[i.toNat]:=by unfold idx; rw[if_pos h0,List.getElem?_eq_getElem hl]
 obtain⟨r,er,hr⟩:=ih _ (h _ (List.getElem?_eq_getElem hl));rw[he];show W ((self e.ks[i.toNat] v).bind _) _;rw[er];exact⟨_,rfl,hr⟩
theorem Qbm{N:Nat}[Kb N]:∀(n m:Nat) (e:Ql) (v:Yh),m≤n→m≤N→sz e≤4096→Y5 m e 3→W (Jp N n e v) fun _=>True
 | n,0,e,v,hm,_,_,h=>h.elim
 | 0,m+1,e,v,hm,_,_,h=>by omega
 | n+1,m+1,e,v,hm,hN,hs,h=>by
  unfold Jp;have hks:sz e.ks≤4096:=Nat.le_trans Qhi hs;have ih:∀i,WP (Vu N (Jp N n) i e v) (fun R=>(0≤i∧i<e.ks.length∧∀a,e.ks[i.toNat]?=some a→Y5 m a 3)∧∀r:Bool,True→R r):=fun i=>Bk fun hi=>Q0h (P:=fun x=>sz x≤4096∧Y5 m x 3) (fun x hx=>Qbm n m x v (by omega) (by omega) hx.1 hx.2) (fun a ha=>⟨Nat.le_trans (Qhg (List.mem_of_getElem? ha)) hks,hi.2.2 a ha⟩) hi.1 hi.2.1;have h3:=Qur h;clear h
  have q4:e.x.1=4→0<e.ks.length∧∀a,e.ks[(0:Int).toNat]?=some a→Y5 m a 3:=fun e4=>by
   rcases h3 with h | h | h | h
   ·omega
   ·exact⟨by omega,h.2.2⟩
   ·obtain⟨h,_⟩:=h; omega
   ·obtain⟨h,_⟩:=h; omega
  have q5:e.x.1=5∨e.x.1=6→e.ks.length=2∧(∀a,e.ks[(0:Int).toNat]?=some a→Y5 m a 3)∧∀a,e.ks[(1:Int).toNat]?=some a→Y5 m a 3:=fun e4=>by
   rcases h3 with h | h | h | h
   ·omega
   ·obtain⟨h,_⟩:=h; omega
   ·exact⟨h.2.1,fun a ha=>h.2.2.all 0 a ha (by omega),fun a ha=>h.2.2.all 1 a ha (by omega)⟩
   ·obtain⟨h,_⟩:=h; omega
  have q7:¬ e.x.1=3→¬ e.x.1=4→¬ e.x.1=5→¬ e.x.1=6→Cmp N e:=fun a3 a4 a5 a6=>by
   rcases h3 with h | h | h | h
   ·omega
   ·obtain⟨h,_⟩:=h; omega
   ·obtain⟨h,_⟩:=h; omega
   ·obtain⟨_,h1,k,hk,hK⟩:=h
    exact⟨h1,m,k,by omega,hk,hK⟩
  clear h3;refine wp ?_
  try simp only[sS,reduceCtorEq]at *
  repeat' (first | intro _ | apply And.intro)
  all_goals first | assumption | trivial | omega | exact q7 (by assumption) (by assumption) (by assumption) (by assumption) | exact(q4 (by assumption)).2 _ (by assumption) | exact(q5 (.inl (by assumption))).2.1 _ (by assumption) | exact(q5 (.inl (by assumption))).2.2 _ (by assumption) | exact(q5 (.inr (by assumption))).2.1 _ (by assumption) | exact(q5 (.inr (by assumption))).2.2 _ (by assumption) | (have:=(q4 (by assumption)).1; omega) | (have:=(q5 (.inl (by assumption))).1; omega) | (have:=(q5 (.inr (by assumption))).1; omega) | grind
@[instance]abbrev Jsc{x0:Ql}{x1:Yh}:WP (Qdd N x0 x1) (fun R=>(sz x0≤4096∧Y5 N x0 3)∧∀r:Bool,True→R r):=Bk fun h=>Qbm N N x0 x1 (QY _) (QY _) h.1 h.2
@[instance]abbrev Q8q{x0 x1}:=mkW (Qa1.eq_1 N x0 x1) (sz x0≤4096) (fun r=>True)
@[instance]abbrev Jfd{x0}{s}:=upL (N:=N) (s:=s) (Qan.eq_def N x0) (fun t=>t.1) x0.length (fun t=>sz x0≤1000000000000∧t.2=x0.take t.1.toNat∧x0.length≤1000000000000) (fun r:(((List Qa)))=>r=x0) (step:=by
  intro s h h0 h1 h2 hw
  try simp only[sS,reduceCtorEq]at *
  repeat' (first | intro _ | apply And.intro)
  all_goals first | grind [Yz,Vr,Zp.deep] | exact lv)
@[instance]abbrev Jn8{x0}:=mkW (Ru.eq_1 N x0) (sz x0≤1000000000000) (fun r=>r=x0)
@[instance]abbrev Jsd{x0}:=mkW (Bu.eq_1 N x0) (sz x0≤1000000000000) (fun r=>r=x0)
@[instance]abbrev Jg3{x0 x1 x2}{s}:=upL (N:=N) (s:=s) (Qb7.eq_def N x0 x1 x2) (fun t=>t) x0.length (fun t=>x0.length≤32) (fun r:((Unit)⊕(Bool))=>True)
@[instance]abbrev Jrg{x0 x1 x2}:=mkW (Qao.eq_1 N x0 x1 x2) (x0.length≤32) (fun r=>True)
@[instance]abbrev Jg4{x0}{s}:=upL (N:=N) (s:=s) (Qb8.eq_def N x0) (fun t=>t.1) x0.length (fun t=>x0.length≤1000000000000∧Qnr t.2 x0.length∧Qns x0 t.2) (fun r:(((List (Int×Int))))=>Qnr r x0.length∧Qns x0 r) (step:=by
  intro s h h0 h1 h2 hw
  try simp only[sS,reduceCtorEq]at *
  repeat' (first | intro _ | apply And.intro)
  all_goals first | ((repeat cases ‹_∧_›); first | exact Qma | exact Qmb (by assumption) (by omega) (by omega) (by assumption) | exact Ql5 | exact Ql6 (by grind) (by omega) (by omega)) | exact lv)
@[instance]abbrev Jrh{x0}:=mkW (Qap.eq_1 N x0) (x0.length≤1000000000000) (fun r=>Qnr r x0.length∧Qns x0 r) (k:=by
  intro h
  try simp only[sS,reduceCtorEq]at *
  repeat' (first | intro _ | apply And.intro)
  all_goals first | ((repeat cases ‹_∧_›); first | exact Qma | exact Qmb (by assumption) (by omega) (by omega) (by assumption) | exact Ql5 | exact Ql6 (by grind) (by omega) (by omega)) | exact lv)
@[instance]abbrev Jn9{x0 x1}{s}:=upL (N:=N) (s:=s) (Qhv.eq_def N x0 x1) (fun t=>t) x0.length (fun t=>x0.length≤1000000000000) (fun r:((Int))=>0≤r∧r≤x0.length)
attribute [local instance 1300] Ji8 in
@[instance]abbrev Jxx{x0 x1}:=mkW (Qgi.eq_1 N x0 x1) (x0.length≤1000000000000) (fun r=>0≤r.1∧r.1<r.2.length∧r.2.length≤x0.length+1∧Ins (Q0c x1) x0 r.2∧∀w,r.2[r.1.toNat]?=some w→Q0c x1 w)
@[instance]abbrev Jg5{x0 x1 x2}:=mkW (Y3.eq_1 N x0 x1 x2) (True) (fun r=>True)
@[instance]abbrev Jxy{x0}:=mkW (Ab.eq_1 N x0) (True) (fun r=>True)
@[instance]abbrev Jxz{x0}:=mkW (Ac.eq_1 N x0) (True) (fun r=>True)
@[instance]abbrev Jse{x0 x1}:=mkW (V9.eq_1 N x0 x1) (True) (fun r=>(x1≠0→r.2≠0))
@[instance]abbrev Jsf{x0 x1}:=mkW (Qc2.eq_1 N x0 x1) (True) (fun r=>r.2=0→r.1.1=x0.1)
@[instance]abbrev Jg6{x0 x1 ca}:=mkW (H7.eq_1 N x0 x1 ca) (True) (fun r=>(x1=0→r=x0)∧(x1≠0→r=ca))
@[instance]abbrev Jx0{x0 x1}:=mkW (Qgj.eq_1 N x0 x1) (True) (fun r=>r.2=0→r.1.1=x0.1)
@[instance]abbrev Jfe{x0 x2 r8 r7 x3}{s}:=upL (N:=N) (s:=s) (Qaq.eq_def N x0 x2 r8 r7 x3) (fun t=>t.1) x0.length (fun t=>x0.length≤32∧0≤r7∧r7<r8.length∧t.2.1=s.2.1) (fun r:((Qd))=>r.1=s.2.1)
@[instance]abbrev Joa{x0 x1 x2 x3}:=mkW (Hd.eq_1 N x0 x1 x2 x3) (x0.length≤32∧sz x1≤1000000000000) (fun r=>r.1=x1.1∧r.2.1.length≤x1.2.1.length+1∧r.2.2=x1.2.2∧Ins (Q0c x2) x1.2.1 r.2.1)
@[instance]abbrev Jx1{x0}:=mkW (Lr.eq_1 N x0) (sz x0≤1000000000000) (fun r=>r.1=x0.1∧r.2.1=x0.2.1∧r.2.2.1=x0.2.2.1∧r.2.2.2.1=x0.2.2.2.1∧r.2.2.2.2.1=x0.2.2.2.2.1∧r.2.2.2.2.2.1=x0.2.2.2.2.2.2.1∧r.2.2.2.2.2.2.1=x0.2.2.2.2.2.2.2.1∧r.2.2.2.2.2.2.2.1=x0.2.2.2.2.2.2.2.2.1∧r.2.2.2.2.2.2.2.2.1=x0.2.2.2.2.2.2.2.2.2.1∧r.2.2.2.2.2.2.2.2.2.1=x0.2.2.2.2.2.2.2.2.2.2∧r.2.2.2.2.2.2.2.2.2.2=x0.2.2.2.2.2.1)
@[instance]abbrev J5k{x0}:=mkW (Qel.eq_1 N x0) (sz x0≤9223372036854775807) (fun r=>True)
@[instance]abbrev Jjr{x0 x1}{s}:=upL (N:=N) (s:=s) (Qem.eq_def N x0 x1) (fun t=>t) x0.length (fun t=>x0.length≤32) (fun r:((Unit)⊕(Int))=>True)
@[instance]abbrev Jsg{x0 x1}:=mkW (Qc3.eq_1 N x0 x1) (x0.length≤32) (fun r=>True)
@[instance]abbrev Jjs{x1 x0 x2}{s}:=mkL (N:=N) (s:=s) (Qey.eq_def N x1 x0 x2) (fun t=>(t.2.2+1).toNat) (fun t=>1≤x2∧t.2.2≤62) (fun r:((Int×Int)⊕(Int×Int))=>True)
@[instance]abbrev Jsh{x0 x1 x2}:=mkW (Qde.eq_1 N x0 x1 x2) (1≤x2) (fun r=>True)
@[instance]abbrev Jri{x0}:=mkW (Qa2.eq_1 N x0) (True) (fun r=>True)
@[instance]abbrev Jx2{x0 x1 x2}:=mkW (Qgt.eq_1 N x0 x1 x2) (True) (fun r=>True)
@[instance]abbrev Jrj{x0 x1}:=mkW (Qa3.eq_1 N x0 x1) (True) (fun r=>True)
@[instance]abbrev Jyy{x0}:=mkW (Qcg.eq_1 N x0) (True) (fun r=>True)
@[instance]abbrev Jx3{x0 x1}:=mkW (Qgv.eq_1 N x0 x1) (True) (fun r=>r.2=0→r.1.1=x0.1)
@[instance]abbrev Q8r{ca}{s}:=upL (N:=N) (s:=s) (P2.eq_def N ca) (fun t=>t.1) ca.length (fun t=>ca.length≤1000000000000∧Qnr t.2 ca.length∧Qns ca t.2) (fun r:(((List (Int×Int))))=>Qnr r ca.length∧Qns ca r) (step:=by
  intro s h h0 h1 h2 hw
  try simp only[sS,reduceCtorEq]at *
  repeat' (first | intro _ | apply And.intro)
  all_goals first | ((repeat cases ‹_∧_›); first | exact Qma | exact Qmb (by assumption) (by omega) (by omega) (by assumption) | exact Ql5 | exact Ql6 (by grind) (by omega) (by omega)) | exact lv)
@[instance]abbrev Jg7{ca}:=mkW (Ly.eq_1 N ca) (ca.length≤1000000000000) (fun r=>Qnr r ca.length∧Qns ca r) (k:=by
  intro h
  try simp only[sS,reduceCtorEq]at *
  repeat' (first | intro _ | apply And.intro)
  all_goals first | ((repeat cases ‹_∧_›); first | exact Qma | exact Qmb (by assumption) (by omega) (by omega) (by assumption) | exact Ql5 | exact Ql6 (by grind) (by omega) (by omega)) | exact lv)
@[instance]abbrev Jyz{x0 x1 x2 x3}:=mkW (P3.eq_1 N x0 x1 x2 x3) (sz x0≤1000000000000) (fun r=>r.2.2.1=x0.1∧r.2.2.2.1.length=x0.2.1.length∧r.2.2.2.2=x0.2.2∧Ins (Q0c x1) x0.2.1 r.2.2.2.1) (k:=by
  intro h
  try simp only[sS,reduceCtorEq]at *
  repeat' (first | intro _ | apply And.intro)
  all_goals first | ((repeat cases ‹_∧_›); first | assumption | omega | exact Qfm | exact Q8a (by assumption) | exact Q0d Qfm (fun w hw=>Qti (by assumption) (by grind) hw) ((by assumption:(_:Int)=0→_=_) (Decidable.not_not.1 (by assumption))) (by assumption) (by assumption) | exact(Ql7 (by assumption) (by grind)).1 | exact(Ql7 (by assumption) (by grind)).2) | exact lv)
@[instance]abbrev Jjt{x0}{s}:=upI (N:=N) (s:=s) (Qez.eq_def N x0) (fun t=>t) (4) (fun t=>0≤t) (fun r:((Unit)⊕(Bool))=>True)
@[instance]abbrev Jsi{x0}:=mkW (Qdf.eq_1 N x0) (True) (fun r=>True)
@[instance]abbrev Jg8{x0}:=mkW (Ea.eq_1 N x0) (True) (fun r=>True)
@[instance]abbrev Jrk{x0}:=mkW (Fj.eq_1 N x0) (True) (fun r=>True)
@[instance]abbrev Jju{x0}{s}:=upL (N:=N) (s:=s) (Qe0.eq_def N x0) (fun t=>t) x0.length (fun t=>x0.length≤9223372036854775807) (fun r:((Unit)⊕(Bool))=>True)
@[instance]abbrev Jsj{x0}:=mkW (Qdg.eq_1 N x0) (x0.length≤9223372036854775807) (fun r=>True)
@[instance]abbrev Jrl:=mkW (Qak.eq_1 N) (True) (fun r=>sz r≤0∧r.2.1=[])
@[instance]abbrev Jsk{x0 x1}:=mkW (Qcz.eq_1 N x0 x1) (sz x0≤9223372036854775807) (fun r=>r.1=x0)
@[instance]abbrev Jff{x1 x2}{s}:=upL (N:=N) (s:=s) (Qal.eq_def N x1 x2) (fun t=>t.1) x1.length (fun t=>x1.length≤32∧t.2.length≤t.1∧Q5 (fun e:Qe=>e∈x1) t.2) (fun r:(((Unit)⊕(Unit))×(List Qe))=>r.2.length≤32∧Q5 (fun e:Qe=>e∈x1) r.2)
@[instance]abbrev Job{x1 x2}:=mkW (Rt.eq_1 N x1 x2) (x1.length≤32) (fun r=>r.length≤32∧Q5 (fun e:Qe=>e∈x1) r)
@[instance]abbrev Q5w{x0 x1}{s}:=upL (N:=N) (s:=s) (Nh.eq_def N x0 x1) (fun t=>t) x0.length (fun t=>sz x0≤9223372036854775807) (fun r:((Int))=>0≤r∧r≤x0.length)
@[instance]abbrev Jfg{x0 x1}:=mkW (G1.eq_1 N x0 x1) (sz x0≤1099511627776) (fun r=>r.length≤x0.length+1)
@[instance]abbrev Q0i{x0 x1}{s}:=upL (N:=N) (s:=s) (Bt.eq_def N x0 x1) (fun t=>t) x0.length (fun t=>sz x0≤9223372036854775807) (fun r:((Int))=>0≤r∧r≤x0.length)
@[instance]abbrev Q5x{x0 x1}:=mkW (K4.eq_1 N x0 x1) (sz x0≤1099511627776) (fun r=>r.length≤x0.length+1)
@[instance]abbrev Jfh{x0 x1}{s}:=upL (N:=N) (s:=s) (Qam.eq_def N x0 x1) (fun t=>t.1) x0.length (fun t=>sz x0≤1099511627776∧t.2.length≤t.1∧sz t.2≤(sz x0)) (fun r:(((List Str)))=>sz r≤(sz x0))
@[instance]abbrev Joc{x0 x1}:=mkW (Cb.eq_1 N x0 x1) (sz x0≤1099511627776) (fun r=>sz r≤(sz x0))
@[instance]abbrev Q19{x1 x2 ce cd cg ci cj ck cm}:=mkW (G2.eq_1 N x1 x2 ce cd cg ci cj ck cm) (sz x1≤1099511627) (fun r=>sz r.1≤sz x1+1∧r.2.length≤ci.length+1∧r.1.1=x1.1∧r.1.2.1=x1.2.1)
@[instance]abbrev Qv8{x1 cd}{s}:=upL (N:=N) (s:=s) (Fb.eq_def N x1 cd) (fun t=>t.1) ((((Qz (k:=(.int .i64)) x1.2.2.2.1 cd).getD (0,0,0,([]:Str),([]:List Str),([]:List Str),false,false)).2.2.2.2.1)).length (fun t=>sz cd≤1099511627∧t.2.length≤s.2.length∧cd.length≤1099511627) (fun r:(((List (Str×Int))))=>r.length≤s.2.length) (fun t h=>by have:=Q76 cd x1.2.2.2.1; omega)
@[instance]abbrev Q0w{x1 ce cd cg ci cj ck cm}:=mkW (Wy.eq_1 N x1 ce cd cg ci cj ck cm) (sz ce≤1099511627∧sz cd≤1099511627∧cg.length≤1099511627∧ci.length≤1099511627∧cj.length≤1099511627∧ck.length≤1099511627∧cm.length≤1099511627) (fun r=>sz r.1≤sz ce+1∧sz r.2.1≤sz cd+1∧r.2.2.1.length≤cg.length+1∧r.2.2.2.1.length≤ci.length+1∧r.2.2.2.2.1.length≤cj.length+1∧r.2.2.2.2.2.1.length≤ck.length+1∧r.2.2.2.2.2.2.length≤cm.length+1∧Ql9 x1 cd r.2.1) (k:=by
  intro h;have g0:=Q76 cd; have g1:=Jnp ce
  try simp only[sS,reduceCtorEq]at *
  repeat' (first | intro _ | apply And.intro)
  all_goals first | ((repeat cases ‹_∧_›); first | assumption | omega | exact Q79 | exact Jea | exact Jd9 (by assumption) rfl rfl | exact Jeb (by assumption) (by assumption) (by assumption)) | (refine Nat.le_trans (Ql4 _ _ _) (ZX.2 ⟨?_,?_⟩)<;>(try simp only[sz1,mx1])<;>grind) | exact lv)
@[instance]abbrev Qus{cm cd}{s}:=upL (N:=N) (s:=s) (H3.eq_def N cm cd) (fun t=>t.1) cm.length (fun t=>cm.length≤1099511627∧sz cd≤1099511627∧(sz t.2.1:Int)≤t.1∧t.2.2.length≤t.1∧sz t.2.2≤t.1+sz cd∧Q5 (Q42 cd) t.2.2∧cd.length≤1099511627) (fun r:(((List (Int×(List Int)))×(List Qu)))=>sz r.1≤cm.length∧sz r.2≤cm.length+sz cd∧Q5 (Q42 cd) r.2) (step:=by
  intro s h h0 h1 h2 hw;have g0:=Q76 cd; have g1:=Jd2 s.2.1
  try simp only[sS,reduceCtorEq]at *
  repeat' (first | intro _ | apply And.intro)
  all_goals first | ((repeat cases ‹_∧_›); first | assumption | omega | exact Y4 (by assumption) (Uv (Jw4 (by assumption)))) | (refine J0j ?_ ?_<;>(try simp only[sz1,mx1,List.length_append,List.length_cons,JW])<;>grind) | exact lv)
@[instance]abbrev Qut{ck ce v20}{s}:=upL (N:=N) (s:=s) (H4.eq_def N ck ce v20) (fun t=>t.1) ck.length (fun t=>ck.length≤1099511627∧sz ce≤1099511627∧sz v20≤1099511627∧t.2.1.length≤t.1∧sz t.2.1≤3298534881∧sz t.2.2≤10995116270∧t.2.2=s.2.2∧ce.length≤1099511627∧v20.length≤1099511627) (fun r:(((List Qr)×(List Qu)))=>sz r.1≤3298534881∧sz r.2≤10995116270∧r.2=s.2.2) (step:=by
  intro s h h0 h1 h2 hw;have g0:=Jnp ce; have g1:=Jd2 v20
  exact lw)
@[instance]abbrev Q0j{ce cd cg ci cj ck cm}:=mkW (Xz.eq_1 N ce cd cg ci cj ck cm) (sz ce≤1099511627∧sz cd≤1099511627∧cg.length≤1099511627∧ci.length≤1099511627∧cj.length≤1099511627∧ck.length≤1099511627∧cm.length≤1099511627) (fun r=>sz r.1≤10995116270∧sz r.2≤10995116270∧Q5 (Q42 cd) r.2) (k:=by
  intro h
  try simp only[sS,reduceCtorEq]at *
  repeat' (first | intro _ | apply And.intro)
  all_goals first | ((repeat cases ‹_∧_›); first | assumption | omega | exact Ma | (subst_vars; assumption) | (simp only[*]; assumption)) | exact lv)
@[instance]abbrev Jg9{es:List Qe}{s:(List (Int×Qr))×(List (Int×Qu))×(List (Int×Bool))×(List (Str×Int))×(List (Int×Int))×(List Int)×(List Int)}:=J6r (f:=H5 N) (es:=es) (fun n s=>es.length≤32∧Q0a es s.2.1∧(sz s.1:Int)≤n∧(sz s.2.1:Int)≤n∧(s.2.2.1.length:Int)≤n∧(s.2.2.2.1.length:Int)≤n∧(s.2.2.2.2.1.length:Int)≤n∧(s.2.2.2.2.2.1.length:Int)≤n∧(s.2.2.2.2.2.2.length:Int)≤n) (by
  intro n s e he h0 hn h;show W (H5 N s e) _;rw[H5.eq_1];refine wp ?_
  try simp only[sS,reduceCtorEq]at *
  repeat' (first | intro _ | apply And.intro)
  all_goals first | assumption | omega | (have hB:=h.2.1; (repeat cases ‹_∧_›); exact Ql9.st (by assumption) _ he hB)) (s:=s)
@[instance]abbrev Jrm{x0 x1}:=mkW (Lo.eq_1 N x0 x1) (x0.length≤32) (fun r=>sz r.1≤10995116270∧sz r.2≤10995116270∧Q5 (fun s:Qu=>W9 x0 s.2.1 s.1) r.2) (k:=by
  intro h
  try simp only[sS,reduceCtorEq]at *
  repeat' (first | intro _ | apply And.intro)
  all_goals first | ((repeat cases ‹_∧_›); first | assumption | omega | exact Jxa (by assumption) | exact Q43 (by assumption) (by assumption) (by assumption) | (subst_vars; exact Q43 (by assumption) (by assumption) (by assumption))) | exact lv)
@[instance]abbrev Jod{r2 x1}{s}:=upL (N:=N) (s:=s) (Qhp.eq_def N r2 x1) (fun t=>t.1) r2.length (fun t=>sz r2≤10995116270∧r2.length≤10995116270) (fun r:((Int×Int×Int×Str×Bool×Bool)⊕(Bool×Qu))=>∀t,r=.inr t→sz t.2≤10995116270∧t.2∈r2∧t.2.1=x1)
@[instance]abbrev Jx4{x0 x1 x2}:=mkW (Lp.eq_1 N x0 x1 x2) (x0.length≤32) (fun r=>sz r.1≤10995116270∧(r.1.2.1=0∨W9 x0 r.1.2.1 x1))
@[instance]abbrev Q9y{r1 x1}{s}:=upL (N:=N) (s:=s) (Sl.eq_def N r1 x1) (fun t=>t.1) r1.length (fun t=>sz r1≤10995116270∧r1.length≤10995116270) (fun r:((Int×Int×Int×Bool×Bool)⊕(Bool×Qr))=>∀t,r=.inr t→sz t.2≤10995116270)
@[instance]abbrev Jjv{x0 x1 x2}:=mkW (Wz.eq_1 N x0 x1 x2) (x0.length≤32) (fun r=>sz r.1≤10995116270)
@[instance]abbrev Jha{cx dg cq je jf jg jh ji jj jk jl jm gk gm gn dn dp dq dv dw dl dx du dm dy dz ce cd cg ci cj ck cm dj ge}:=mkW (H6.eq_1 N cx dg cq je jf jg jh ji jj jk jl jm gk gm gn dn dp dq dv dw dl dx du dm dy dz ce cd cg ci cj ck cm dj ge) (X9 cx) (fun r=>r.2.1=cx∧r.2.2.1=dg∧r.2.2.2.1=cq∧r.2.2.2.2.2.2.2.2.2.2.2.2.2.2.2.2.2.2.2.2.2.2.2.2.2.2.2.2.2.1=cg∧r.2.2.2.2.2.2.2.2.2.2.2.2.2.2.2.2.2.2.2.2.2.2.2.2.2.2.2.2.2.2.1=ci∧r.2.2.2.2.2.2.2.2.2.2.2.2.2.2.2.2.2.2.2.2.2.2.2.2.2.2.2.2.2.2.2.1=cj∧r.2.2.2.2.2.2.2.2.2.2.2.2.2.2.2.2.2.2.2.2.2.2.2.2.2.2.2.2.2.2.2.2.1=ck∧r.2.2.2.2.2.2.2.2.2.2.2.2.2.2.2.2.2.2.2.2.2.2.2.2.2.2.2.2.2.2.2.2.2.1=cm∧r.2.2.2.2.2.2.2.2.2.2.2.2.2.2.2.2.2.2.2.2.2.2.2.2.2.2.2.2.2.2.2.2.2.2.1=dj∧r.2.2.2.2.2.2.2.2.2.2.2.2.2.2.2.2.2.2.2.2.2.2.2.2.2.2.2.2.2.2.2.2.2.2.2=ge) (k:=by
  intro h;have g0:=h.ev
  exact lw)
@[instance]abbrev J0s{ct cp cw gw gx gy gz j9 ja jb jc jd gg gi gj cz d3 d4 d5 d6 d7 d8 d9 da db de cd cg ci cj ck cm dj ge gt}:=mkW (Qgd.eq_1 N ct cp cw gw gx gy gz j9 ja jb jc jd gg gi gj cz d3 d4 d5 d6 d7 d8 d9 da db de cd cg ci cj ck cm dj ge gt) (X9 ct) (fun r=>r.2.1=ct∧r.2.2.1=cp∧r.2.2.2.1=cw∧r.2.2.2.2.2.2.2.2.2.2.2.2.2.2.2.2.2.2.2.2.1=ci∧r.2.2.2.2.2.2.2.2.2.2.2.2.2.2.2.2.2.2.2.2.2.1=cj∧r.2.2.2.2.2.2.2.2.2.2.2.2.2.2.2.2.2.2.2.2.2.2.1=ck∧r.2.2.2.2.2.2.2.2.2.2.2.2.2.2.2.2.2.2.2.2.2.2.2.1=cm∧r.2.2.2.2.2.2.2.2.2.2.2.2.2.2.2.2.2.2.2.2.2.2.2.2.1=dj∧r.2.2.2.2.2.2.2.2.2.2.2.2.2.2.2.2.2.2.2.2.2.2.2.2.2.1=ge∧r.2.2.2.2.2.2.2.2.2.2.2.2.2.2.2.2.2.2.2.2.2.2.2.2.2.2=gt)
@[instance]abbrev J0t{ct cp cw gw gx gy gz j9 ja jb jc jd gg gi gj cz d3 d4 d5 d6 d7 d8 d9 da db de cd cg ci cj ck cm dj ge gt jo}:=mkW (Qge.eq_1 N ct cp cw gw gx gy gz j9 ja jb jc jd gg gi gj cz d3 d4 d5 d6 d7 d8 d9 da db de cd cg ci cj ck cm dj ge gt jo) (X9 ct) (fun r=>r.1=ct∧r.2.1=cp∧r.2.2.1=cw∧r.2.2.2.2.2.2.2.2.2.2.2.2.2.2.2.2.2.2.2.2.2.2.2.2.2.2.2.2.2.1=ci∧r.2.2.2.2.2.2.2.2.2.2.2.2.2.2.2.2.2.2.2.2.2.2.2.2.2.2.2.2.2.2.1=cj∧r.2.2.2.2.2.2.2.2.2.2.2.2.2.2.2.2.2.2.2.2.2.2.2.2.2.2.2.2.2.2.2.1=ck∧r.2.2.2.2.2.2.2.2.2.2.2.2.2.2.2.2.2.2.2.2.2.2.2.2.2.2.2.2.2.2.2.2.1=cm∧r.2.2.2.2.2.2.2.2.2.2.2.2.2.2.2.2.2.2.2.2.2.2.2.2.2.2.2.2.2.2.2.2.2.1=dj∧r.2.2.2.2.2.2.2.2.2.2.2.2.2.2.2.2.2.2.2.2.2.2.2.2.2.2.2.2.2.2.2.2.2.2.1=ge∧r.2.2.2.2.2.2.2.2.2.2.2.2.2.2.2.2.2.2.2.2.2.2.2.2.2.2.2.2.2.2.2.2.2.2.2=gt)
@[instance]abbrev Q8s{x0}:=mkW (Fc.eq_1 N x0) (x0.length≤4096) (fun r=>r=x0)
@[instance]abbrev Q2a{x0}:=mkW (G3.eq_1 N x0) (x0.length≤4096) (fun r=>r=x0)
@[instance]abbrev Q2b{x0}:=mkW (G4.eq_1 N x0) (x0.length≤4096) (fun r=>r=x0)
theorem Qh7{N:Nat}[Kb N]:∀(n:Nat) (e:Ql),dpt e≤n→sz e≤4096→W (X4 N n e) fun r=>r=e
 | 0,e,h,hs=>by cases e with | mk a ks=>rw[dpt]at h; omega
 | n+1,e,h,hs=>by
  unfold X4;have hk:=Qhi (e:=e);have hlen:=Hq (l:=e.ks);have ih:∀x:Ql,WP (X4 N n x) (fun R=>(x∈e.ks∧sz x≤4096)∧∀r:Ql,r=x→R r):=fun x=>Bk fun hx=>Qh7 n x (by have:=Jwy hx.1; omega) hx.2
  have loop:=fun s:Int×List Ql=>upL (N:=N) (s:=s) (Qjr.eq_def N (X4 N n) e) (fun s=>s.1) e.ks.length (fun s=>e.ks.length≤4096∧s.2=e.ks.take s.1.toNat) (fun r:List Ql=>r=e.ks) (step:=by
   intro s h h0 h1 h2 hw
   try simp only[sS,reduceCtorEq]at *
   repeat' (first | intro _ | apply And.intro)
   all_goals first | assumption | omega | grind [Yz,Vr])
  refine wp ?_;simp only[forall_eq];refine⟨⟨⟨by omega,by simp⟩,by omega,by omega⟩,?_⟩;cases e with
  | mk a ks=>rfl
@[instance]abbrev Jy0{N:Nat}[hN:Kb N]{x0:Ql}:WP (Qud N x0) (fun R=>(sz x0≤4096∧dpt x0≤4096)∧∀r:Ql,r=x0→R r):=Bk (by
  intro h;have:=hN.le
  exact Qh7 N x0 (by omega) h.1)
@[instance]abbrev Joe{x0}{s}:=upL (N:=N) (s:=s) (Qhq.eq_def N x0) (fun t=>t.1) x0.2.2.2.1.length (fun t=>sz x0≤4096∧t.2.1=x0.1∧t.2.2.1=x0.2.1∧t.2.2.2.1=x0.2.2.1∧t.2.2.2.2=x0.2.2.2.1.take t.1.toNat) (fun r:((Str×Int×Bool×(List Qw)))=>r.1=x0.1∧r.2.1=x0.2.1∧r.2.2.1=x0.2.2.1∧r.2.2.2=x0.2.2.2.1) (step:=by
  intro s h h0 h1 h2 hw
  try simp only[sS,reduceCtorEq]at *
  repeat' (first | intro _ | apply And.intro)
  all_goals first | grind [Yz,Vr,Zp.deep] | exact lv)
@[instance]abbrev Jof{x0}{s}:=upL (N:=N) (s:=s) (Qhr.eq_def N x0) (fun t=>t.1) x0.2.2.2.2.1.length (fun t=>sz x0≤4096∧t.2.1=x0.1∧t.2.2.1=x0.2.1∧t.2.2.2.1=x0.2.2.1∧t.2.2.2.2.1=x0.2.2.2.1∧t.2.2.2.2.2=x0.2.2.2.2.1.take t.1.toNat) (fun r:((Str×Int×Bool×(List Qw)×(List Qx)))=>r.1=x0.1∧r.2.1=x0.2.1∧r.2.2.1=x0.2.2.1∧r.2.2.2.1=x0.2.2.2.1∧r.2.2.2.2=x0.2.2.2.2.1) (step:=by
  intro s h h0 h1 h2 hw
  try simp only[sS,reduceCtorEq]at *
  repeat' (first | intro _ | apply And.intro)
  all_goals first | grind [Yz,Vr,Zp.deep] | exact lv)
@[instance]abbrev Jog{x0}{s}:=upL (N:=N) (s:=s) (Qhs.eq_def N x0) (fun t=>t.1) x0.2.2.2.2.2.1.length (fun t=>sz x0≤4096∧t.2.1=x0.1∧t.2.2.1=x0.2.1∧t.2.2.2.1=x0.2.2.1∧t.2.2.2.2.1=x0.2.2.2.1∧t.2.2.2.2.2.1=x0.2.2.2.2.1∧t.2.2.2.2.2.2=x0.2.2.2.2.2.1.take t.1.toNat) (fun r:((Str×Int×Bool×(List Qw)×(List Qx)×(List Ji)))=>r.1=x0.1∧r.2.1=x0.2.1∧r.2.2.1=x0.2.2.1∧r.2.2.2.1=x0.2.2.2.1∧r.2.2.2.2.1=x0.2.2.2.2.1∧r.2.2.2.2.2=x0.2.2.2.2.2.1) (step:=by
  intro s h h0 h1 h2 hw
  try simp only[sS,reduceCtorEq]at *
  repeat' (first | intro _ | apply And.intro)
  all_goals first | grind [Yz,Vr,Zp.deep] | exact lv)
@[instance]abbrev Joh{x0}{s}:=upL (N:=N) (s:=s) (Qht.eq_def N x0) (fun t=>t.1) x0.2.2.2.2.2.2.length (fun t=>sz x0≤4096∧Zp x0∧t.2.1=x0.1∧t.2.2.1=x0.2.1∧t.2.2.2.1=x0.2.2.1∧t.2.2.2.2.1=x0.2.2.2.1∧t.2.2.2.2.2.1=x0.2.2.2.2.1∧t.2.2.2.2.2.2.1=x0.2.2.2.2.2.1∧t.2.2.2.2.2.2.2=x0.2.2.2.2.2.2.take t.1.toNat) (fun r:((Str×Int×Bool×(List Qw)×(List Qx)×(List Ji)×(List Qp)))=>r.1=x0.1∧r.2.1=x0.2.1∧r.2.2.1=x0.2.2.1∧r.2.2.2.1=x0.2.2.2.1∧r.2.2.2.2.1=x0.2.2.2.2.1∧r.2.2.2.2.2.1=x0.2.2.2.2.2.1∧r.2.2.2.2.2.2=x0.2.2.2.2.2.2) (step:=by
  intro s h h0 h1 h2 hw
  try simp only[sS,reduceCtorEq]at *
  repeat' (first | intro _ | apply And.intro)
  all_goals first | grind [Yz,Vr,Zp.deep] | exact lv)
@[instance]abbrev Jx5{x0}:=mkW (Qgf.eq_1 N x0) (sz x0≤4096∧Zp x0) (fun r=>r=x0)
@[instance]abbrev Jx6{x0 x1 x2}{s}:=upL (N:=N) (s:=s) (Qqk.eq_def N x0 x1 x2) (fun t=>t.2) x0.length (fun t=>x0.length≤4096 ∧ -1≤t.1∧t.1<x0.length) (fun r:((Int)) => -1≤r∧r<x0.length)
@[instance]abbrev J5l{x0 x1 x2}:=mkW (Qej.eq_1 N x0 x1 x2) (sz x0≤4096∧Sh.sh x0∧Q5 Zp x0) (fun r=>sz r≤4096∧Sh.sh r∧Q5 (fun d=>dpt d.2.1≤4096) r.2.2.2.2.2.2.2)
@[instance]abbrev Jjw{cx dg cq ga gb gk gm gn dn dp dq dv dw dl dx du dm dy dz ce cd cg ci cj ck cm}:=mkW (Aa.eq_1 N cx dg cq ga gb gk gm gn dn dp dq dv dw dl dx du dm dy dz ce cd cg ci cj ck cm) (X9 cx∧Xu cq∧sz ce≤4096∧Sh.sh ce∧sz cd≤4096∧Sh.sh cd∧sz cg≤4096∧sz ci≤4096∧Q5 (fun d:Qp=>dpt d.2.1≤4096) ci) (fun r=>r.2.1=cx∧r.2.2.1=dg∧r.2.2.2.1=cq∧r.2.2.2.2.1=ga∧r.2.2.2.2.2.1=gb∧sz r.2.2.2.2.2.2.2.2.2.1≤4096∧Sh.sh r.2.2.2.2.2.2.2.2.2.1∧sz r.2.2.2.2.2.2.2.2.2.2.2.2.2.2.2.2.2.2.2.2.2.1≤4096∧Sh.sh r.2.2.2.2.2.2.2.2.2.2.2.2.2.2.2.2.2.2.2.2.2.1∧sz r.2.2.2.2.2.2.2.2.2.2.2.2.2.2.2.2.2.2.2.2.2.2.1≤4096∧sz r.2.2.2.2.2.2.2.2.2.2.2.2.2.2.2.2.2.2.2.2.2.2.2.1≤4096∧Q5 (fun d:Qp=>dpt d.2.1≤4096) r.2.2.2.2.2.2.2.2.2.2.2.2.2.2.2.2.2.2.2.2.2.2.2.1∧r.2.2.2.2.2.2.2.2.2.2.2.2.2.2.2.2.2.2.2.2.2.2.2.2.1=cj∧r.2.2.2.2.2.2.2.2.2.2.2.2.2.2.2.2.2.2.2.2.2.2.2.2.2.1=ck∧r.2.2.2.2.2.2.2.2.2.2.2.2.2.2.2.2.2.2.2.2.2.2.2.2.2.2=cm) (k:=by
  intro h;have g0:=h.1.tarL; have g1:=h.1.tarS; have g2:=h.1.tarO; have g3:=h.2.1.to_; have g4:=h.2.1.toS
  exact lw)
@[instance]abbrev J0u{ct cp cw dh di gg gi gj cz d3 d4 d5 d6 d7 d8 d9 da db de cd cg ci cj ck cm dj}:=mkW (Qgh.eq_1 N ct cp cw dh di gg gi gj cz d3 d4 d5 d6 d7 d8 d9 da db de cd cg ci cj ck cm dj) (X9 ct∧Xu cw∧sz cd≤4096∧Sh.sh cd∧sz cg≤4096∧Sh.sh cg∧sz ci≤4096∧sz cj≤4096∧Q5 (fun d:Qp=>dpt d.2.1≤4096) cj) (fun r=>r.2.1=ct∧r.2.2.1=cp∧r.2.2.2.1=cw∧r.2.2.2.2.1=dh∧r.2.2.2.2.2.1=di∧sz r.2.2.2.2.2.2.2.2.2.1≤4096∧Sh.sh r.2.2.2.2.2.2.2.2.2.1∧sz r.2.2.2.2.2.2.2.2.2.2.2.2.2.2.2.2.2.2.2.2.2.1≤4096∧Sh.sh r.2.2.2.2.2.2.2.2.2.2.2.2.2.2.2.2.2.2.2.2.2.1∧sz r.2.2.2.2.2.2.2.2.2.2.2.2.2.2.2.2.2.2.2.2.2.2.1≤4096∧sz r.2.2.2.2.2.2.2.2.2.2.2.2.2.2.2.2.2.2.2.2.2.2.2.1≤4096∧Q5 (fun d:Qp=>dpt d.2.1≤4096) r.2.2.2.2.2.2.2.2.2.2.2.2.2.2.2.2.2.2.2.2.2.2.2.1∧r.2.2.2.2.2.2.2.2.2.2.2.2.2.2.2.2.2.2.2.2.2.2.2.2.1=ck∧r.2.2.2.2.2.2.2.2.2.2.2.2.2.2.2.2.2.2.2.2.2.2.2.2.2.1=cm∧r.2.2.2.2.2.2.2.2.2.2.2.2.2.2.2.2.2.2.2.2.2.2.2.2.2.2=dj)
@[instance]abbrev Jsl{ct cp cw dh di gg gi gj cz d3 d4 d5 d6 d7 d8 d9 da db de cd cg ci cj ck cm dj ge}:=mkW (X5.eq_1 N ct cp cw dh di gg gi gj cz d3 d4 d5 d6 d7 d8 d9 da db de cd cg ci cj ck cm dj ge) (X9 ct∧Xu cw∧sz cd≤4096∧Sh.sh cd∧sz cg≤4096∧Sh.sh cg∧sz ci≤4096∧sz cj≤4096∧Q5 (fun d:Qp=>dpt d.2.1≤4096) cj) (fun r=>r.1=ct∧r.2.1=cp∧r.2.2.1=cw∧r.2.2.2.1=dh∧r.2.2.2.2.1=di∧sz r.2.2.2.2.2.2.2.2.1≤4096∧Sh.sh r.2.2.2.2.2.2.2.2.1∧sz r.2.2.2.2.2.2.2.2.2.2.2.2.2.2.2.2.2.2.2.2.2.1≤4096∧Sh.sh r.2.2.2.2.2.2.2.2.2.2.2.2.2.2.2.2.2.2.2.2.2.1∧sz r.2.2.2.2.2.2.2.2.2.2.2.2.2.2.2.2.2.2.2.2.2.2.1≤4096∧sz r.2.2.2.2.2.2.2.2.2.2.2.2.2.2.2.2.2.2.2.2.2.2.2.1≤4096∧Q5 (fun d:Qp=>dpt d.2.1≤4096) r.2.2.2.2.2.2.2.2.2.2.2.2.2.2.2.2.2.2.2.2.2.2.2.1∧r.2.2.2.2.2.2.2.2.2.2.2.2.2.2.2.2.2.2.2.2.2.2.2.2.1=ck∧r.2.2.2.2.2.2.2.2.2.2.2.2.2.2.2.2.2.2.2.2.2.2.2.2.2.1=cm∧r.2.2.2.2.2.2.2.2.2.2.2.2.2.2.2.2.2.2.2.2.2.2.2.2.2.2=dj)
@[instance]abbrev Jx7{x0}:=mkW (Qgn.eq_1 N x0) (sz x0≤1000000000000) (fun r=>r.1=x0.1∧r.2.1=x0.2.1∧r.2.2.1=x0.2.2.1∧r.2.2.2.1=x0.2.2.2.1∧r.2.2.2.2.1=x0.2.2.2.2.1∧r.2.2.2.2.2.1=x0.2.2.2.2.2.2.1∧r.2.2.2.2.2.2.1=x0.2.2.2.2.2.2.2.1∧r.2.2.2.2.2.2.2.1=x0.2.2.2.2.2.2.2.2.1∧r.2.2.2.2.2.2.2.2.1=x0.2.2.2.2.2.2.2.2.2.1∧r.2.2.2.2.2.2.2.2.2.1=x0.2.2.2.2.2.2.2.2.2.2∧r.2.2.2.2.2.2.2.2.2.2=x0.2.2.2.2.2.1)
@[instance]abbrev Jjx{x0}{s}:=upL (N:=N) (s:=s) (Qet.eq_def N x0) (fun t=>t.1) x0.length (fun t=>sz x0≤1000000000000∧t.2=x0.take t.1.toNat∧x0.length≤1000000000000) (fun r:(((List Qa)))=>r=x0) (step:=by
  intro s h h0 h1 h2 hw
  try simp only[sS,reduceCtorEq]at *
  repeat' (first | intro _ | apply And.intro)
  all_goals first | ((repeat cases ‹_∧_›); first | grind [Yz,Vr,Zp.deep]) | exact lv)
@[instance]abbrev Jsm{x0}:=mkW (Qda.eq_1 N x0) (sz x0≤1000000000000) (fun r=>r=x0)
@[instance]abbrev Jrn{x0 x1}:=mkW (W5.eq_1 N x0 x1) (True) (fun r=>True)
@[instance]abbrev Jro{x0 x1}:=mkW (Qav.eq_1 N x0 x1) (True) (fun r=>True)
theorem Qpe{N:Nat}[Kb N]{x2:Int}{L:Int}{s:Int×List Int}:WP (Qf (Om N x2) N s) (fun R=>((0≤s.1∧s.1≤x2∧x2≤L∧L≤1000000000000)∧s.2=[])∧∀r:List Int,((r.length:Int)=x2 - s.1∧Q5 (fun i:Int=>0≤i∧i<L) r)→R r):=⟨fun R h=>(mkL (N:=N) (s:=s) (Om.eq_def N x2) (fun t=>(x2 - t.1).toNat) (fun t=>0≤s.1∧s.1≤t.1∧t.1≤x2∧x2≤L∧L≤1000000000000∧(t.2.length:Int)=t.1 - s.1∧Q5 (fun i:Int=>0≤i∧i<L) t.2) (fun r:List Int=>(r.length:Int)=x2 - s.1∧Q5 (fun i:Int=>0≤i∧i<L) r) (step:=by
  intro t h
  try simp only[sS,reduceCtorEq]at *
  repeat' (first | intro _ | apply And.intro)
  all_goals first | assumption | omega | ((simp (disch:=omega) only [Q9]at *)<;>omega) | exact Y4 (by grind) (Uv (by grind)) | grind)).spec R ⟨⟨h.1.1.1,XO _,h.1.1.2.1,h.1.1.2.2.1,h.1.1.2.2.2,by rw[h.1.2]; simp,by rw[h.1.2]; exact Ma⟩,h.2⟩⟩
attribute [local instance 1300] Qz8 in
@[instance]abbrev Jjy{r6 r7 x0}{s}:=mkL (N:=N) (s:=s) (Qeu.eq_def N r6 r7 x0) (fun t=>(r6.length - t.1+(r7.length - t.2.1)).toNat) (fun t=>r6.length+r7.length≤1000000000000∧Q5 (fun i:Int=>0≤i∧i<(x0.length:Int)) r6∧Q5 (fun i:Int=>0≤i∧i<(x0.length:Int)) r7∧0≤t.1∧t.1≤r6.length∧0≤t.2.1∧t.2.1≤r7.length∧(t.2.2.length:Int)=t.1+t.2.1∧Q5 (fun i:Int=>0≤i∧i<(x0.length:Int)) t.2.2) (fun r:(((List Int)))=>r.length=r6.length+r7.length∧Q5 (fun i:Int=>0≤i∧i<(x0.length:Int)) r) (step:=by
  intro s h;have g0:=(fun i hi=>h.2.1.all i hi:∀i∈r6,0≤i∧i<(x0.length:Int)); have g1:=(fun i hi=>h.2.2.1.all i hi:∀i∈r7,0≤i∧i<(x0.length:Int))
  try simp only[sS,reduceCtorEq]at *
  repeat' (first | intro _ | apply And.intro)
  all_goals first | assumption | omega | ((simp (disch:=omega) only [Q9]at *)<;>omega) | exact(g0 _ (by assumption)).1 | exact(g0 _ (by assumption)).2 | exact(g1 _ (by assumption)).1 | exact(g1 _ (by assumption)).2 | exact Y4 (by grind) (Uv (g0 _ (by assumption))) | exact Y4 (by grind) (Uv (g1 _ (by assumption))) | exact lv)
theorem Md{N:Nat}[Kb N]{x0:List Qa}(hx:x0.length≤1000000000000):∀(n:Nat) (x1 x2:Int),0≤x1→x1≤x2→x2≤x0.length→x2 - x1<n→W (Zz N n x0 x1 x2) fun r=>(r.length:Int)=x2 - x1∧Q5 (fun i:Int=>0≤i∧i<(x0.length:Int)) r
 | 0,x1,x2,h0,h1,h2,h3=>by omega
 | n+1,x1,x2,h0,h1,h2,h3=>by
  unfold Zz;have e1:IntKind.wrap .i64 (x2 - x1)=x2 - x1:=Q9 (by omega) (by omega);have e2:IntKind.wrap .i64 (Int.tdiv (x2 - x1) 2)=(x2 - x1) / 2:=by rw[QU (by omega),Q9 (by omega) (by omega)]
  have e3:IntKind.wrap .i64 (x1+(x2 - x1) / 2)=x1+(x2 - x1) / 2:=Q9 (by omega) (by omega);rw[e1,e2,e3]
  by_cases hc:x2 - x1<2
  ·rw[if_pos (by simpa using hc)]
   obtain⟨r,e,hr⟩:=(Qpe (N:=N) (x2:=x2) (L:=x0.length) (s:=(x1,[]))).spec _ ⟨⟨⟨h0,h1,h2,by omega⟩,rfl⟩,fun r h=>h⟩;rw[e]; exact⟨r,rfl,hr⟩
  ·rw[if_neg (by simpa using hc)]
   obtain⟨r6,f6,k6⟩:=Md (N:=N) hx n x1 (x1+(x2 - x1) / 2) h0 (by omega) (by omega) (by omega);obtain⟨r7,f7,k7⟩:=Md (N:=N) hx n (x1+(x2 - x1) / 2) x2 (by omega) (by omega) (by omega) (by omega);rw[f6];show W ((Zz N n x0 (x1+(x2 - x1) / 2) x2).bind _) _;rw[f7];refine wp ?_;refine⟨⟨by omega,by omega,by omega⟩,⟨by omega,k6.2,k7.2,XO _,Int.natCast_nonneg _,XO _,Int.natCast_nonneg _,rfl,Ma⟩,fun r h=>⟨by omega,h.2⟩⟩
@[instance]abbrev Jsn{N:Nat}[hN:Kb N]{x0:List Qa}{x1 x2:Int}:WP (Qnk N x0 x1 x2) (fun R=>(x0.length≤1000000000000∧0≤x1∧x1≤x2∧x2≤x0.length)∧∀r:List Int,((r.length:Int)=x2 - x1∧Q5 (fun i:Int=>0≤i∧i<(x0.length:Int)) r)→R r):=Bk (by
  intro h;have:=hN.le
  exact Md (N:=N) h.1 N x1 x2 h.2.1 h.2.2.1 h.2.2.2 (by omega))
@[instance]abbrev Jjz{x0 x4}{s}:=upL (N:=N) (s:=s) (Qev.eq_def N x0 x4) (fun t=>t) x0.2.2.2.2.2.1.length (fun t=>x0.2.2.2.2.2.1.length≤1000000000000) (fun r:((Unit)⊕(Bool))=>True)
@[instance]abbrev Jso{x0 x1 x2 x3 x4 x5 x6}:=mkW (Qdb.eq_1 N x0 x1 x2 x3 x4 x5 x6) (x0.2.2.2.2.2.1.length≤1000000000000) (fun r=>(r=true→x0.2.1=x2∨x0.1=x1))
@[instance]abbrev J5m{x0}:=mkW (Qso.eq_1 N x0) (sz x0≤9223372036854775807) (fun r=>True)
@[instance]abbrev Jrp{r2 x0 x1 x2 x3 x4 x5 x6}{s}:=upL (N:=N) (s:=s) (Qjv.eq_def N r2 x0 x1 x2 x3 x4 x5 x6) (fun t=>t.2.1) r2.length (fun t=>r2.length≤1000000000000∧Q5 (fun i:Int=>0≤i∧i<(x0.length:Int)) r2∧sz x0≤1000000000000∧t.2.2.1.length=x0.length∧sz t.2.2.1≤1000000000000∧t.2.2.2.length≤t.2.1∧Quq x0 t.2.2.1∧Jeg x0 x1 x2 t.2.2.1∧x0.length≤1000000000000) (fun r:((Int×(List Qa)×(List Q8)))=>r.2.1.length=x0.length∧sz r.2.1≤1000000000000∧r.2.2.length≤r2.length∧Jeg x0 x1 x2 r.2.1) (step:=by
  intro s h h0 h1 h2 hw;have g0:=(fun i hi=>h.2.1.all i hi:∀i∈r2,0≤i∧i<(x0.length:Int))
  exact lw)
@[instance]abbrev Jy1{x0 x1 x2 x3 x4 x5 x6 x7}:=mkW (Qjw.eq_1 N x0 x1 x2 x3 x4 x5 x6 x7) (sz x0≤1000000000000) (fun r=>r.2.1.length=x0.length∧sz r.2.1≤1000000000000∧r.2.2.length≤x0.length∧Jeg x0 x1 x2 r.2.1)
@[instance]abbrev Jsp{x0 x1 x2 x3}:=mkW (Bw.eq_1 N x0 x1 x2 x3) (sz x0≤1000000000000) (fun r=>r.2.1.length=x0.1.length∧sz r.2.1≤1000000000000∧r.2.2.1=x0.2.1∧r.2.2.2.1=x0.2.2∧r.2.2.2.2.length≤x0.1.length∧Jeg x0.1 x1.2.2.1 x1.2.2.2.1 r.2.1)
@[instance]abbrev Joi{x0 x1}:=mkW (Cd.eq_1 N x0 x1) (True) (fun r=>True)
@[instance]abbrev Jx8{x0 x1 x2}:=mkW (Qgm.eq_1 N x0 x1 x2) (sz x1≤4096) (fun r=>r.2.2.2.2.2.2.2.2.2.2.length≤4096∧r.1=x1.1)
@[instance]abbrev Jsq{x0 x1}:=mkW (Qc9.eq_1 N x0 x1) (True) (fun r=>True)
@[instance]abbrev Q9z{ce x1}{s}:=upL (N:=N) (s:=s) (So.eq_def N ce x1) (fun t=>t.1) ce.length (fun t=>ce.length≤1000000000000∧t.2.2.2.2.2.2.2.2.2.2.2.length≤4096∧sz ce≤1000000000000∧t.2.1=s.2.1) (fun r:((Int×Int×Str×Int×Int×Qb×Int×Int×Int×Bool×(List Str)))=>r.2.2.2.2.2.2.2.2.2.2.length≤4096∧r.1=s.2.1)
@[instance]abbrev Q90{ce v40 v41 v42 v43 v44 v50 v45 v46 v47 v48 v49}{s}:=upL (N:=N) (s:=s) (Sp.eq_def N ce v40 v41 v42 v43 v44 v50 v45 v46 v47 v48 v49) (fun t=>t) ce.length (fun t=>ce.length≤1000000000000) (fun r:((Int))=>0≤r∧r≤ce.length)
attribute [local instance 1300] Ji8 in
@[instance]abbrev Jj0{x1 ce cd}:=mkW (Ol.eq_1 N x1 ce cd) (ce.length≤999999999999∧sz ce≤1000000000000∧sz x1≤4096) (fun r=>r.2.length≤ce.length+1∧sz r.2≤1000000000000∧Ins (Qv2 x1.1.1) ce r.2)
@[instance]abbrev Q5y{x0 ca}{s}:=upL (N:=N) (s:=s) (Ni.eq_def N x0 ca) (fun t=>t) x0.2.2.1.length (fun t=>sz x0≤32) (fun r:((Unit)⊕(Bool))=>True)
@[instance]abbrev Jfi{x0 ca}:=mkW (Db.eq_1 N x0 ca) (sz x0≤32) (fun r=>True)
@[instance]abbrev Jfj{x0 x1}:=mkW (Dc.eq_1 N x0 x1) (True) (fun r=>True)
@[instance]abbrev Jfk{x0 x1}:=mkW (Dd.eq_1 N x0 x1) (True) (fun r=>True)
@[instance]abbrev Qri{x0}{s}:=upL (N:=N) (s:=s) (W0.eq_def N x0) (fun t=>t.1) x0.length (fun t=>x0.length≤32∧t.2.length≤t.1) (fun r:(((List Qb)))=>r.length≤32)
@[instance]abbrev Quu{x0}:=mkW (Z8.eq_1 N x0) (x0.length≤32) (fun r=>r.length≤32)
@[instance]abbrev Q91{r1 ca}{s}:=upL (N:=N) (s:=s) (Sm.eq_def N r1 ca) (fun t=>t.1) r1.length (fun t=>sz r1≤32∧t.2.length≤t.1∧r1.length≤32) (fun r:(((List Qb)))=>r.length≤32)
@[instance]abbrev Jj1{x0 x1 ca}:=mkW (Og.eq_1 N x0 x1 ca) (x0.length≤32) (fun r=>r.length≤32)
@[instance]abbrev Jj2{x0 x1 x2}:=mkW (Oh.eq_1 N x0 x1 x2) (x0.length≤32) (fun r=>r.length≤32)
@[instance]abbrev Jsr{x0 x1}:=mkW (Qc4.eq_1 N x0 x1) (True) (fun r=>True)
@[instance]abbrev Jfl{v17 x1 x21 r53}{s}:=upL (N:=N) (s:=s) (Qar.eq_def N v17 x1 x21 r53) (fun t=>t) v17.length (fun t=>v17.length≤32) (fun r:((Int))=>0≤r∧r≤v17.length)
attribute [local instance 1300] Qz8 in
@[instance]abbrev Jfm{x0 x1}{s}:=upL (N:=N) (s:=s) (Qas.eq_def N x0 x1) (fun t=>t.1) x0.length (fun t=>x0.length≤32∧t.2.2.2.length≤t.1∧sz t.2.2.2≤32∧Jw5 x0 x1 t.2.1∧Q5 (Jec x0 x1) t.2.2.2) (fun r:(((List Jc)))=>sz r≤32∧Q5 (Jec x0 x1) r) (step:=by
  intro s h h0 h1 h2 hw
  try simp only[sS,reduceCtorEq]at *
  repeat' (first | intro _ | apply And.intro)
  all_goals first | ((repeat cases ‹_∧_›); first | assumption | omega | exact Qz7 _ | exact Q40 (by assumption) | exact Jd4 (by assumption) | exact Jw7 (by assumption) (by assumption) (by assumption) (by assumption) | exact Y4 (Y4 (Qfl (by assumption) (by assumption)) (Uv ⟨rfl,Jw8 (by assumption) (by grind)⟩)) (Qfl (by assumption) (by assumption)) | (exfalso; grind)) | exact Qz7 _ | exact Q40 (by assumption) | exact Jd4 (by assumption) | exact lv)
@[instance]abbrev Joj{x0 x1}:=mkW (Rv.eq_1 N x0 x1) (x0.length≤32) (fun r=>sz r≤32∧Q5 (Jec x0 x1) r)
@[instance]abbrev Q92{r3}{s}:=upL (N:=N) (s:=s) (Sn.eq_def N r3) (fun t=>t.2.1) r3.length (fun t=>r3.length≤151552∧Q5 (Mc 99100800) r3∧t.2.2.2.length=2∧t.2.2.1.length≤t.2.1∧(t.1=true→1≤t.2.2.1.length)∧Q5 (fun p:Int×Int=>p.2≤99100800) t.2.2.1) (fun r:(((List Qb)))=>r.length≤151552∧Q5 (fun p:Int×Int=>p.2≤99100800) r) (step:=by
  intro s h h0 h1 h2 hw;have g0:=h.2.1; have g1:=h.2.2.2.2.2; have g2:=(show ∀c∈r3,0≤c.2.1∧c.2.1≤1∧0≤c.1∧c.1≤99100800 from fun c hc=>have k:=h.2.1.all c hc; ⟨k.side.1,k.side.2,k.time.1,k.time.2⟩); have g3:=(show s.2.2.1.length≤151552→1≤s.2.2.1.length→IntKind.wrap .i64 ((s.2.2.1.length:Int) - 1)=(s.2.2.1.length:Int) - 1 from fun a b=>Q9 (by omega) (by omega))
  exact lw)
@[instance]abbrev Jj3{x0 x1}:=mkW (Oj.eq_1 N x0 x1) (x0.length≤37888∧Q5 (fun p:Int×Int=>p.2≤99100800) x0∧x1.length≤37888∧Q5 (fun p:Int×Int=>p.2≤99100800) x1) (fun r=>r.length≤151552∧Q5 (fun p:Int×Int=>p.2≤99100800) r) (k:=by
  intro h
  try simp only[sS,reduceCtorEq]at *
  repeat' (first | intro _ | apply And.intro)
  all_goals first | exact Ma | exact Y4 (by grind) (Uv (by grind)) | exact Qrh (by grind) (by grind [Q5.all,Mc.side,Mc.time]) | exact Ql8 (P:=Mc 99100800) (by grind) (fun x h=>⟨h.side,by have:=h.time; omega⟩) | exact lv)
@[instance]abbrev Jrq{x0}:=mkW (Qau.eq_1 N x0) (x0.length≤37888∧Q5 (fun p:Int×Int=>p.2≤99100800) x0) (fun r=>r.length≤151552∧Q5 (fun p:Int×Int=>p.2≤99100800) r) (k:=by
  intro h
  try simp only[sS,reduceCtorEq]at *
  repeat' (first | intro _ | apply And.intro)
  all_goals first | exact Ma | exact Y4 (by grind) (Uv (by grind)) | exact Qrh (by grind) (by grind [Q5.all,Mc.side,Mc.time]) | exact Ql8 (P:=Mc 99100800) (by grind) (fun x h=>⟨h.side,by have:=h.time; omega⟩) | exact lv)
@[instance]abbrev Jj4{x22}{s}:=upL (N:=N) (s:=s) (Qep.eq_def N x22) (fun t=>t.1) x22.2.2.2.length (fun t=>x22.2.2.2.length≤32∧0≤t.2.2.1∧t.2.2.1≤86400000∧0≤s.1∧s.2.2.2.length≤36704∧t.2.2.2.length≤s.2.2.2.length+37*(t.1 - s.1)∧Q5 (fun p:Int×Int=>p.2≤99100800) t.2.2.2∧t.2.2.1=s.2.2.1) (fun r:((Int×Int×(List Qb)))=>r.2.1=s.2.2.1∧r.2.2.length≤s.2.2.2.length+1184∧Q5 (fun p:Int×Int=>p.2≤99100800) r.2.2)
@[instance]abbrev Jj5{x0}{s}:=upL (N:=N) (s:=s) (Qeq.eq_def N x0) (fun t=>t.1) x0.length (fun t=>sz x0≤32∧0≤t.2.2.1∧t.2.2.1≤86400000∧t.2.2.2.length≤1184*t.1∧Q5 (fun p:Int×Int=>p.2≤99100800) t.2.2.2∧x0.length≤32) (fun r:((Int×(List Qb)))=>r.2.length≤37888∧Q5 (fun p:Int×Int=>p.2≤99100800) r.2) (step:=by
  intro s h h0 h1 h2 hw
  try simp only[sS,reduceCtorEq]at *
  repeat' (first | intro _ | apply And.intro)
  all_goals first | exact Ma | exact Y4 (by grind) (Uv (by grind)) | exact Qrh (by grind) (by grind [Q5.all,Mc.side,Mc.time]) | exact Ql8 (P:=Mc 99100800) (by grind) (fun x h=>⟨h.side,by have:=h.time; omega⟩) | exact lv)
@[instance]abbrev Jj6{r35 v33}{s}:=upL (N:=N) (s:=s) (Qer.eq_def N r35 v33) (fun t=>t.1) r35.length (fun t=>r35.length≤151552∧Q5 (fun p:Int×Int=>p.2≤99100800) r35∧t.2.length≤49*t.1) (fun r:(((List Qb)))=>r.length≤7426048) (step:=by
  intro s h h0 h1 h2 hw;have g0:=(fun p (hp:p∈r35)=>h.2.1.all p hp:∀p∈r35,p.2≤99100800)
  exact lw)
@[instance]abbrev Jss{x0 x1 x2}:=mkW (Qc7.eq_1 N x0 x1 x2) (sz x0≤32∧0≤x2∧x2≤86400000) (fun r=>r.length≤7426048)
@[instance]abbrev Jx9{x0 ca ce}:=mkW (Qgl.eq_1 N x0 ca ce) (True) (fun r=>True)
@[instance]abbrev Qrj{x0 ca ce}{s}:=upL (N:=N) (s:=s) (Gg.eq_def N x0 ca ce) (fun t=>t.1) x0.length (fun t=>x0.length≤32∧sz x0≤4096∧Q5 (fun p:Qm=>p.2.2.2.2.2.length≤32) x0∧t.2.length≤t.1∧sz t.2≤4096∧Q5 (fun p:Qm=>p.2.2.2.2.2.length≤32) t.2∧x0.length≤4096) (fun r:(((List Qm)))=>r.length≤32∧sz r≤4096∧Q5 (fun p:Qm=>p.2.2.2.2.2.length≤32) r) (step:=by
  intro s h h0 h1 h2 hw
  try simp only[sS,reduceCtorEq]at *
  repeat' (first | intro _ | apply And.intro)
  all_goals first | exact Ma | exact Y4 (by grind) (Uv (by grind [Q5.all])) | exact lv)
@[instance]abbrev Qv9{x0 ca ce}:=mkW (Kv.eq_1 N x0 ca ce) (x0.length≤32∧sz x0≤4096∧Q5 (fun p:Qm=>p.2.2.2.2.2.length≤32) x0) (fun r=>r.length≤32∧sz r≤4096∧Q5 (fun p:Qm=>p.2.2.2.2.2.length≤32) r)
@[instance]abbrev Jj7{x0}{s}:=upL (N:=N) (s:=s) (Qes.eq_def N x0) (fun t=>t.1) x0.2.2.2.2.2.length (fun t=>x0.2.2.2.2.2.length≤32∧sz x0≤4096∧t.2=x0.2.2.2.2.2.take t.1.toNat) (fun r:(((List Jt)))=>r=x0.2.2.2.2.2) (step:=by
  intro s h h0 h1 h2 hw
  try simp only[sS,reduceCtorEq]at *
  repeat' (first | intro _ | apply And.intro)
  all_goals first | grind [Yz,Vr,Zp.deep] | exact lv)
@[instance]abbrev Jst{x0}:=mkW (Qc8.eq_1 N x0) (x0.2.2.2.2.2.length≤32∧sz x0≤4096) (fun r=>r=x0)
@[instance]abbrev J0v{x0 x1 x2}:=mkW (Qoh.eq_1 N x0 x1 x2) (x0.length≤32∧sz x0≤4096∧Q5 (fun p:Qm=>p.2.2.2.2.2.length≤32) x0) (fun r=>r.2.2.2.2.2.2.length≤32∧sz r.2.2.2.2.2.2≤4096) (k:=by
  intro h;have g0:=(fun p l hp q=>q.all p hp:∀(p:Qm) (l:List Qm),p∈l→Q5 (fun p:Qm=>p.2.2.2.2.2.length≤32) l→p.2.2.2.2.2.length≤32)
  try simp only[sS,reduceCtorEq]at *
  repeat' (first | intro _ | apply And.intro)
  all_goals first | assumption | omega | ((simp (disch:=omega) only [Q9]at *)<;>omega) | exact g0 _ _ (by assumption) (And.right (And.right (by assumption))) | exact lv)
@[instance]abbrev Q0x{r12 x0 r4}{s}:=upL (N:=N) (s:=s) (D3.eq_def N r12 x0 r4) (fun t=>t.1) r12.length (fun t=>r12.length≤32∧sz r12≤4096∧t.2.length≤t.1∧sz t.2≤4096∧Q5 (Jw9 x0) t.2∧r12.length≤4096) (fun r:(((List Ju)))=>r.length≤32∧sz r≤4096∧Q5 (Jw9 x0) r)
@[instance]abbrev Q0y{x0 x2 x1}{s}:=upL (N:=N) (s:=s) (D4.eq_def N x0 x2 x1) (fun t=>t) x0.2.2.2.length (fun t=>x0.2.2.2.length≤32∧x1.length≤32∧sz x1≤4096∧Q5 (fun p:Qm=>p.2.2.2.2.2.length≤32) x1∧x1.length≤4096) (fun r:((Unit)⊕((List Ju)))=>∀t,r=.inr t→t.length≤32∧sz t≤4096∧Q5 (Jw9 x0) t)
@[instance]abbrev Q8t{x0 x1 x2}:=mkW (Ff.eq_1 N x0 x1 x2) (sz x0≤32∧x1.length≤32∧sz x1≤4096∧Q5 (fun p:Qm=>p.2.2.2.2.2.length≤32) x1) (fun r=>r.length≤32∧sz r≤4096∧Q5 (Jw9 x0) r)
@[instance]abbrev Jhb{x2}{s}:=upL (N:=N) (s:=s) (Qb9.eq_def N x2) (fun t=>t.1) x2.1.length (fun t=>sz x2.1≤1000000000000∧t.2.1=x2.1.take t.1.toNat) (fun r:(((List Qa)×(List (Jf×Bool))))=>r.1=x2.1) (step:=by
  intro s h h0 h1 h2 hw
  try simp only[sS,reduceCtorEq]at *
  repeat' (first | intro _ | apply And.intro)
  all_goals first | grind [Yz,Vr,Zp.deep] | exact lv)
@[instance]abbrev Jhc{r118 x4}{s}:=upL (N:=N) (s:=s) (Qca.eq_def N r118 x4) (fun t=>t.1) r118.length (fun t=>r118.length≤32∧sz r118≤4096∧0≤s.1∧s.2.1.length≤999999999900∧t.2.1.length≤s.2.1.length+(t.1 - s.1)∧sz t.2.1≤1000000000000∧Ins (OfG r118) s.2.1 t.2.1∧r118.length≤4096) (fun r:(((List Qa)×(List (Jf×Bool))))=>r.1.length≤s.2.1.length+32∧sz r.1≤1000000000000∧Ins (OfG r118) s.2.1 r.1)
@[instance]abbrev Jhd{r54 x1 x109 x4}{s}:=upL (N:=N) (s:=s) (Qcb.eq_def N r54 x1 x109 x4) (fun t=>t.1) r54.length (fun t=>r54.length≤32∧sz r54≤32∧x1.length≤32∧sz x1≤4096∧Q5 (fun p:Qm=>p.2.2.2.2.2.length≤32) x1∧0≤s.1∧s.2.1.length≤999999990000∧t.2.1.length≤s.2.1.length+32*(t.1 - s.1)∧sz t.2.1≤1000000000000∧Ins (Jee r54) s.2.1 t.2.1∧x1.length≤4096) (fun r:(((List Qa)×(List (Jf×Bool))))=>r.1.length≤s.2.1.length+1024∧sz r.1≤1000000000000∧Ins (Jee r54) s.2.1 r.1)
@[instance]abbrev Jhe{r56 r54 x1 x4}{s}:=upL (N:=N) (s:=s) (Qcc.eq_def N r56 r54 x1 x4) (fun t=>t.1) r56.length (fun t=>r56.length≤7426048∧r54.length≤32∧sz r54≤32∧x1.length≤32∧sz x1≤4096∧Q5 (fun p:Qm=>p.2.2.2.2.2.length≤32) x1∧0≤s.1∧s.2.1.length≤900000000000∧t.2.1.length≤s.2.1.length+1024*(t.1 - s.1)∧sz t.2.1≤1000000000000∧Ins (Jee r54) s.2.1 t.2.1∧x1.length≤4096) (fun r:(((List Qa)×(List (Jf×Bool))))=>r.1.length≤s.2.1.length+7604273152∧sz r.1≤1000000000000∧Ins (Jee r54) s.2.1 r.1)
@[instance]abbrev Jrr{x0 x1 x2 x3 x4}:=mkW (Fg.eq_1 N x0 x1 x2 x3 x4) (x0.length≤32∧x1.length≤32∧sz x1≤4096∧Q5 (fun p:Qm=>p.2.2.2.2.2.length≤32) x1∧x2.1.length≤900000000000∧sz x2.1≤1000000000000∧x2.2.1.length≤1099511627∧x2.2.2.length≤1099511627∧x4≤86400000) (fun r=>r.1.length≤x2.1.length+7604273152∧sz r.1≤1000000000000∧r.2.1=x2.2.1∧r.2.2=x2.2.2∧Ins (Qv2 x3) x2.1 r.1) (k:=by
  intro h
  try simp only[sS,reduceCtorEq]at *
  repeat' (first | intro _ | apply And.intro)
  all_goals first | ((repeat cases ‹_∧_›); first | assumption | omega | exact J62 (by assumption) (by assumption) (by first | assumption | rfl) | exact Qfm | exact Q8a (by assumption) | exact Q0d Qfm (fun w hw=>Qti (by assumption) (by grind) hw) ((by assumption:(_:Int)=0→_=_) (Decidable.not_not.1 (by assumption))) (by assumption) (by assumption)) | exact lv)
@[instance]abbrev Jrs{cx dg cq ga gb gk gm gn gq dn dp dq dv dw dl dx du dm dy dz ce cd cg ci cj ck}:=mkW (Lt.eq_1 N cx dg cq ga gb gk gm gn gq dn dp dq dv dw dl dx du dm dy dz ce cd cg ci cj ck) (X9 cx∧Xu cq∧dg.1.length≤900000000000∧sz dg.1≤1000000000000∧dg.2.1.length≤1000000000∧dg.2.2.length≤1000000000) (fun r=>r.1=cx∧r.2.1=cq∧r.2.2.1=ga∧r.2.2.2.1=gb∧r.2.2.2.2.1=gk∧r.2.2.2.2.2.1=gm∧r.2.2.2.2.2.2.1=gn∧r.2.2.2.2.2.2.2.1=gq∧r.2.2.2.2.2.2.2.2.2.2.2.2.2.2.2.2.2.2.2.2.2.2.1=ce∧r.2.2.2.2.2.2.2.2.2.2.2.2.2.2.2.2.2.2.2.2.2.2.2.1=cd∧r.2.2.2.2.2.2.2.2.2.2.2.2.2.2.2.2.2.2.2.2.2.2.2.2.1=cg∧r.2.2.2.2.2.2.2.2.2.2.2.2.2.2.2.2.2.2.2.1.length≤dg.1.length+7604273152∧sz r.2.2.2.2.2.2.2.2.2.2.2.2.2.2.2.2.2.2.2.1≤1000000000000∧r.2.2.2.2.2.2.2.2.2.2.2.2.2.2.2.2.2.2.2.2.1.length≤dg.2.1.length+1∧r.2.2.2.2.2.2.2.2.2.2.2.2.2.2.2.2.2.2.2.2.2.1=dg.2.2∧r.2.2.2.2.2.2.2.2.2.2.2.2.2.2.2.2.2.2.2.2.2.2.2.2.2.1.length≤1000000000000∧r.2.2.2.2.2.2.2.2.2.2.2.2.2.2.2.2.2.2.2.2.2.2.2.2.2.2.1=cj∧r.2.2.2.2.2.2.2.2.2.2.2.2.2.2.2.2.2.2.2.2.2.2.2.2.2.2.2=ck) (k:=by
  intro h;have g0:=h.1.ev; have g1:=h.1.prodL; have g2:=h.1.prodS; have g3:=h.1.prodO; have g4:=h.2.1.start
  exact lw)
@[instance]abbrev Jrt{cx cq ga gb gk gm gn gq dn dp dq dv dw dl dx du dm dy dz ce cd cg ci cj ck cm dj ge}:=mkW (Lw.eq_1 N cx cq ga gb gk gm gn gq dn dp dq dv dw dl dx du dm dy dz ce cd cg ci cj ck cm dj ge) (X9 cx∧Xu cq∧sz gq≤4096∧Sh.sh gq∧sz ci≤4096∧Sh.sh ci∧sz cj≤4096∧sz ck≤4096∧Q5 (fun d:Qp=>dpt d.2.1≤4096) ck∧dj.length≤17301537) (fun r=>r.2.1=cx∧r.2.2.1=cq∧r.2.2.2.1=ga∧r.2.2.2.2.1=gb∧r.2.2.2.2.2.1=(gk,gm,gn,gq,ci,cj,ck)∧r.2.2.2.2.2.2.2.2.2.2.2.2.2.2.2.2.2.1=ce∧r.2.2.2.2.2.2.2.2.2.2.2.2.2.2.2.2.2.2.1=cd∧r.2.2.2.2.2.2.2.2.2.2.2.2.2.2.2.2.2.2.2.1=cg∧r.2.2.2.2.2.2.2.2.2.2.2.2.2.2.2.2.2.2.2.2.1=cm∧r.2.2.2.2.2.2.2.2.2.2.2.2.2.2.2.2.2.2.2.2.2.1.length≤17301537∧r.2.2.2.2.2.2.2.2.2.2.2.2.2.2.2.2.2.2.2.2.2.2=ge) (k:=by
  intro h;have g0:=h.1.hol; have g1:=h.2.1.to_; have g2:=h.2.1.toS
  exact lw)
@[instance]abbrev J0w{ct cp cw dh di gg gi gj gr cz d3 d4 d5 d6 d7 d8 d9 da db de cd cg ci cj ck cm}:=mkW (Qgs.eq_1 N ct cp cw dh di gg gi gj gr cz d3 d4 d5 d6 d7 d8 d9 da db de cd cg ci cj ck cm) (X9 ct∧Xu cw∧cp.1.length≤900000000000∧sz cp.1≤1000000000000∧cp.2.1.length≤1000000000∧cp.2.2.length≤1000000000∧sz gr≤4096∧Sh.sh gr∧sz cd≤4096∧Sh.sh cd∧sz cg≤4096∧sz ci≤4096∧Q5 (fun d:Qp=>dpt d.2.1≤4096) ci∧cj.length≤1000000000000∧ck.length≤17301537) (fun r=>r.2.1=ct∧r.2.2.1=cw∧r.2.2.2.1=dh∧r.2.2.2.2.1=di∧r.2.2.2.2.2.1=(gg,gi,gj,gr,cd,cg,ci)∧r.2.2.2.2.2.2.2.2.2.2.2.2.2.2.2.2.2.1.length≤cp.1.length+7604273152∧sz r.2.2.2.2.2.2.2.2.2.2.2.2.2.2.2.2.2.1≤1000000000000∧r.2.2.2.2.2.2.2.2.2.2.2.2.2.2.2.2.2.2.1.length≤cp.2.1.length+1∧r.2.2.2.2.2.2.2.2.2.2.2.2.2.2.2.2.2.2.2.1=cp.2.2∧r.2.2.2.2.2.2.2.2.2.2.2.2.2.2.2.2.2.2.2.2.1.length≤1000000000000∧r.2.2.2.2.2.2.2.2.2.2.2.2.2.2.2.2.2.2.2.2.2.1.length≤17301537∧r.2.2.2.2.2.2.2.2.2.2.2.2.2.2.2.2.2.2.2.2.2.2=cm)
@[instance]abbrev Jsu{ct cp cw dh di gg gi gj gr cz d3 d4 d5 d6 d7 d8 d9 da db de cd cg ci cj ck cm dj}:=mkW (Kc.eq_1 N ct cp cw dh di gg gi gj gr cz d3 d4 d5 d6 d7 d8 d9 da db de cd cg ci cj ck cm dj) (X9 ct∧Xu cw∧cp.1.length≤900000000000∧sz cp.1≤1000000000000∧cp.2.1.length≤1000000000∧cp.2.2.length≤1000000000∧sz gr≤4096∧Sh.sh gr∧sz cd≤4096∧Sh.sh cd∧sz cg≤4096∧sz ci≤4096∧Q5 (fun d:Qp=>dpt d.2.1≤4096) ci∧cj.length≤1000000000000∧ck.length≤17301537) (fun r=>r.1=ct∧r.2.2.2.2.1=cw∧r.2.2.2.2.2.1=dh∧r.2.2.2.2.2.2.1=di∧sz r.2.2.2.2.2.2.2.2.2.2.1≤4096∧Sh.sh r.2.2.2.2.2.2.2.2.2.2.1∧sz r.2.2.2.2.2.2.2.2.2.2.2.1≤4096∧Sh.sh r.2.2.2.2.2.2.2.2.2.2.2.1∧sz r.2.2.2.2.2.2.2.2.2.2.2.2.1≤4096∧sz r.2.2.2.2.2.2.2.2.2.2.2.2.2.1≤4096∧Q5 (fun d:Qp=>dpt d.2.1≤4096) r.2.2.2.2.2.2.2.2.2.2.2.2.2.1∧r.2.1.length≤cp.1.length+7604273152∧sz r.2.1≤1000000000000∧r.2.2.1.length≤cp.2.1.length+1∧r.2.2.2.1=cp.2.2∧r.2.2.2.2.2.2.2.2.2.2.2.2.2.2.2.2.2.2.2.2.2.2.2.2.2.2.1.length≤1000000000000∧r.2.2.2.2.2.2.2.2.2.2.2.2.2.2.2.2.2.2.2.2.2.2.2.2.2.2.2.1.length≤17301537∧r.2.2.2.2.2.2.2.2.2.2.2.2.2.2.2.2.2.2.2.2.2.2.2.2.2.2.2.2=cm)
@[instance]abbrev Jj8{x0 ca}:=mkW (Oq.eq_1 N x0 ca) (sz x0.2.1≤4096) (fun r=>True)
@[instance]abbrev Jhf{x0 x1}{s}:=upL (N:=N) (s:=s) (Qcf.eq_def N x0 x1) (fun t=>t.2.1) x0.length (fun t=>sz x0≤4096∧x0.length≤4096∧t.2.2.length≤t.2.1) (fun r:((Int×(List Qy))⊕(Int×Int))=>∀a,r=.inl a→a.2.length≤4096)
@[instance]abbrev Jru{x0 x1 x2}:=mkW (Fi.eq_1 N x0 x1 x2) (sz x0≤4096) (fun r=>r.2.2.length≤4096)
@[instance]abbrev Jrv{cx dg cq ga gb gp dn dp dq dv dw dl dx du dm dy dz ce cd cg}:=mkW (W6.eq_1 N cx dg cq ga gb gp dn dp dq dv dw dl dx du dm dy dz ce cd cg) (True) (fun r=>True)
@[instance]abbrev Jfn{cx dg cq ga gb gp dn dp dq dv dw dl dx du dm dy dz ce cd cg}:=mkW (G6.eq_1 N cx dg cq ga gb gp dn dp dq dv dw dl dx du dm dy dz ce cd cg) (X9 cx∧dg.2.2.length≤1000000000∧cg.length≤4096∧sz gp.2.2.2.1≤4096∧Sh.sh gp.2.2.2.1∧sz gp.2.2.2.2.1≤4096∧Sh.sh gp.2.2.2.2.1∧sz gp.2.2.2.2.2.1≤4096∧sz gp.2.2.2.2.2.2≤4096∧Q5 (fun d:Qp=>dpt d.2.1≤4096) gp.2.2.2.2.2.2) (fun r=>r.2.1=cx∧r.2.2.1=dg∧r.2.2.2.1=cq∧r.2.2.2.2.1=ga∧r.2.2.2.2.2.1=gb∧r.2.2.2.2.2.2.1=gp∧r.2.2.2.2.2.2.2.2.2.2.2.2.2.2.2.2.2.2.1=ce∧r.2.2.2.2.2.2.2.2.2.2.2.2.2.2.2.2.2.2.2.1=cd∧r.2.2.2.2.2.2.2.2.2.2.2.2.2.2.2.2.2.2.2.2.length≤4096) (k:=by
  intro h;have g0:=h.1.hol
  exact lw)
@[instance]abbrev J0x{ct cp cw dh di gc cz d3 d4 d5 d6 d7 d8 d9 da db de cd cg ci}:=mkW (Qgu.eq_1 N ct cp cw dh di gc cz d3 d4 d5 d6 d7 d8 d9 da db de cd cg ci) (X9 ct∧cp.2.2.length≤1000000000∧ci.length≤4096∧sz gc.2.2.2.1≤4096∧Sh.sh gc.2.2.2.1∧sz gc.2.2.2.2.1≤4096∧Sh.sh gc.2.2.2.2.1∧sz gc.2.2.2.2.2.1≤4096∧sz gc.2.2.2.2.2.2≤4096∧Q5 (fun d:Qp=>dpt d.2.1≤4096) gc.2.2.2.2.2.2) (fun r=>r.2.1=ct∧r.2.2.1=cp∧r.2.2.2.1=cw∧r.2.2.2.2.1=dh∧r.2.2.2.2.2.1=di∧r.2.2.2.2.2.2.1=gc∧r.2.2.2.2.2.2.2.2.2.2.2.2.2.2.2.2.2.2.1=cd∧r.2.2.2.2.2.2.2.2.2.2.2.2.2.2.2.2.2.2.2.1=cg∧r.2.2.2.2.2.2.2.2.2.2.2.2.2.2.2.2.2.2.2.2.length≤4096)
@[instance]abbrev Jsv{ct cp cw dh di gc cz d3 d4 d5 d6 d7 d8 d9 da db de cd cg ci cj}:=mkW (Ub.eq_1 N ct cp cw dh di gc cz d3 d4 d5 d6 d7 d8 d9 da db de cd cg ci cj) (X9 ct∧cp.2.2.length≤1000000000∧ci.length≤4096∧sz gc.2.2.2.1≤4096∧Sh.sh gc.2.2.2.1∧sz gc.2.2.2.2.1≤4096∧Sh.sh gc.2.2.2.2.1∧sz gc.2.2.2.2.2.1≤4096∧sz gc.2.2.2.2.2.2≤4096∧Q5 (fun d:Qp=>dpt d.2.1≤4096) gc.2.2.2.2.2.2) (fun r=>r.1=ct∧r.2.1=cp∧r.2.2.1=cw∧r.2.2.2.1=dh∧r.2.2.2.2.1=di∧r.2.2.2.2.2.1=gc∧r.2.2.2.2.2.2.2.2.2.2.2.2.2.2.2.2.2.2.1=cd∧r.2.2.2.2.2.2.2.2.2.2.2.2.2.2.2.2.2.2.2.1=cg∧r.2.2.2.2.2.2.2.2.2.2.2.2.2.2.2.2.2.2.2.2.length≤4096)
@[instance]abbrev Jj9{ca ce}{s}:=upL (N:=N) (s:=s) (Qe1.eq_def N ca ce) (fun t=>t) ca.length (fun t=>ca.length≤1099511627776) (fun r:((Unit)⊕(Int×Int))=>∀t,r=.inr t→0≤t.1∧t.1≤t.2∧t.2≤t.1+1∧t.1<ca.length∧(t.1<t.2→∀x,ca[t.1.toNat]?=some x→Jja ce.1 x)) (step:=by
  intro s h h0 h1 h2 hw
  try simp only[sS,reduceCtorEq]at *
  repeat' (first | intro _ | apply And.intro)
  all_goals first | ((repeat cases ‹_∧_›); first | assumption | omega | grind [Jja]) | exact lv)
@[instance]abbrev Jsw{ca ce}:=mkW (Qdh.eq_1 N ca ce) (ca.length≤1099511627776) (fun r=>0≤r.1∧r.1≤r.2∧r.2≤r.1+1∧r.2≤ca.length∧(r.1<r.2→∀x,ca[r.1.toNat]?=some x→Jja ce.1 x)) (k:=by
  intro h
  try simp only[sS,reduceCtorEq]at *
  repeat' (first | intro _ | apply And.intro)
  all_goals first | ((repeat cases ‹_∧_›); first | assumption | omega | (exfalso; omega) | solve_by_elim) | exact lv)
attribute [local instance 1300] Ji8 in
@[instance]abbrev Jy2{x0 x1}:=mkW (P4.eq_1 N x0 x1) (x0.length≤1099511627776) (fun r=>r.2.length≤x0.length+1∧(r.1=0→Ins (Jja x1.1) x0 r.2))
@[instance]abbrev Jsx{x0}{s}:=upL (N:=N) (s:=s) (Qni.eq_def N x0) (fun t=>t.1) x0.1.length (fun t=>sz x0.1≤1000000000000∧t.2.1=x0.1.take t.1.toNat∧t.2.2.1=s.2.2.1∧t.2.2.2=s.2.2.2) (fun r:(((List Qa)×(List Qd)×(List Qc)))=>r.1=x0.1∧r.2.1=s.2.2.1∧r.2.2=s.2.2.2) (step:=by
  intro s h h0 h1 h2 hw
  try simp only[sS,reduceCtorEq]at *
  repeat' (first | intro _ | apply And.intro)
  all_goals first | grind [Yz,Vr,Zp.deep] | exact lv)
@[instance]abbrev J0y{x0}:=mkW (Qag.eq_1 N x0) (sz x0≤1000000000000) (fun r=>r=x0)
@[instance]abbrev Jya{cx dg cq ga gb gp dn dp dq dv dw dl dx du dm dy dz ce cd cg}:=mkW (Te.eq_1 N cx dg cq ga gb gp dn dp dq dv dw dl dx du dm dy dz ce cd cg) (sz dg≤1000000000000) (fun r=>r.2.1=cx∧r.2.2.1=dg.1∧r.2.2.2.1.length=dg.2.1.length∧r.2.2.2.2.1.length≤dg.2.2.length+1∧r.2.2.2.2.2.2.2.2.2.2.2.2.2.2.2.2.2.2.2.2.1=ce∧r.2.2.2.2.2.2.2.2.2.2.2.2.2.2.2.2.2.2.2.2.2.1=cd∧r.2.2.2.2.2.2.2.2.2.2.2.2.2.2.2.2.2.2.2.2.2.2=cg)
@[instance]abbrev J0z{ct cp cw dh di gc cz d3 d4 d5 d6 d7 d8 d9 da db de cd cg ci}:=mkW (Qgw.eq_1 N ct cp cw dh di gc cz d3 d4 d5 d6 d7 d8 d9 da db de cd cg ci) (sz cp≤1000000000000) (fun r=>r.2.2.1.1=cp.1∧r.2.2.1.2.1.length=cp.2.1.length∧r.2.2.1.2.2.length≤cp.2.2.length+1∧r.2.2.2.2.2.2.2.2.2.2.2.2.2.2.2.2.2.2.1=cd∧r.2.2.2.2.2.2.2.2.2.2.2.2.2.2.2.2.2.2.2.1=cg∧r.2.2.2.2.2.2.2.2.2.2.2.2.2.2.2.2.2.2.2.2=ci)
@[instance]abbrev Jsy{ct cp cw dh di gc cz d3 d4 d5 d6 d7 d8 d9 da db de cd cg ci cj}:=mkW (Vq.eq_1 N ct cp cw dh di gc cz d3 d4 d5 d6 d7 d8 d9 da db de cd cg ci cj) (sz cp≤1000000000000) (fun r=>r.2.1.1=cp.1∧r.2.1.2.1.length=cp.2.1.length∧r.2.1.2.2.length≤cp.2.2.length+1∧r.2.2.2.2.2.2.2.2.2.2.2.2.2.2.2.2.2.2.1=cd∧r.2.2.2.2.2.2.2.2.2.2.2.2.2.2.2.2.2.2.2.1=cg∧r.2.2.2.2.2.2.2.2.2.2.2.2.2.2.2.2.2.2.2.2=ci)
@[instance]abbrev Jka{x0 x1 x2}:=mkW (Lz.eq_1 N x0 x1 x2) (X9 x0∧Xu x2∧x1.1.length≤900000000000∧sz x1.1≤1000000000000∧x1.2.1.length≤1000000000∧x1.2.2.length≤1000000000) (fun r=>r.1.length≤x1.1.length+7604273152∧sz r.1≤1000000000000∧r.2.1.length≤x1.2.1.length+1∧r.2.2.1.length≤x1.2.2.length+1∧r.2.2.2.2.2.2.2.2.2.2.2.2.2.1.length≤1000000000000∧r.2.2.2.2.2.2.2.2.2.2.2.2.2.2.1.length≤17301537∧r.2.2.2.2.2.2.2.2.2.2.2.2.2.2.2.length≤4096) (k:=by
  intro h
  try simp only[sS,reduceCtorEq]at *
  repeat' (first | intro _ | apply And.intro)
  all_goals first | (simp only[*,sz1,sh1,mx1,JW,Ma,QN,and_true]; done) | (simp only[*,sz1,sh1,mx1,JW]at *; omega) | exact lv)
theorem Jyb{i L:Nat}(h:i<L)(hL:L≤9223372036854775806):IntKind.wrap .i64 ((i:Int)+1)=((i+1:Nat):Int):=Q9 (n:=(i:Int)+1) (by omega) (by omega)
abbrev EvS(ev:List Qe):Prop:=ev.Pairwise fun a b=>a.1≤b.1
theorem J8y{N:Nat}{e:Qe}{p:Int}(h:Zu N e p=some 0):p≤e.1:=by
 apply Classical.byContradiction;intro hn;have hlt:e.1<p:=by omega
 unfold Zu at h;split at h
 ·cases h
 ·split at h
  ·cases h
  ·rw[if_pos (decide_eq_true hlt)]at h; cases h
theorem J8z{N:Nat}{ev:List Qe}(hl:ev.length≤4096):∀(k i n:Nat) (p:Int) (a:List Jz) (b:List Qu) (c:List Int),ev.length=i+k→Qf (Jn N ev) n (p,(i:Int),a,b,c)=some (.inl ())→(∀e∈ev.drop i,p≤e.1)∧EvS (ev.drop i)
 | 0,i,n,p,a,b,c,hk,h=>by
  rw[JM (by omega)];exact⟨fun e he=>absurd he QT,.nil⟩
 | k+1,i,n,p,a,b,c,hk,h=>by
  cases n with
  | zero=>simp[Qf]at h
  | succ n =>
   have hi:i<ev.length:=by omega
   have hw:=Jyb hi (by omega:ev.length≤9223372036854775806);simp only[Qf]at h;unfold Jn at h;dsimp only at h;rw[if_pos (decide_eq_true (by omega)),G8 hi,QJ]at h;cases hf:Kt N (a,b,c) ev[i] p with
   | none=>rw[hf]at h; cases h
   | some r =>
    rw[hf,QJ]at h
    by_cases hr:r=0
    ·subst hr
     rw[if_neg (by decide),QJ]at h;cases ha:Vd N (a,b,c) ev[i]with
     | none=>rw[ha]at h; cases h
     | some w =>
      rw[ha,QJ,QJ,QJ,hw]at h;obtain⟨h1,h2⟩:=J8z hl k (i+1) n ev[i].1 w.1 w.2.1 w.2.2 (by omega) h
      have hp:p≤ev[i].1:=by
       unfold Kt at hf;cases hfo:Zu N ev[i] p with
       | none=>rw[hfo]at hf; cases hf
       | some q =>
        rw[hfo,QJ]at hf
        by_cases hq:q=0
        ·subst hq; exact J8y hfo
        ·rw[if_pos (by simpa using hq)]at hf
         exact absurd (Option.some.inj hf) hq
      rw[List.drop_eq_getElem_cons hi];refine⟨fun e he=>?_,List.pairwise_cons.2 ⟨fun e he=>h1 e he,h2⟩⟩;rcases QX.1 he with rfl | he
      ·exact hp
      ·exact Int.le_trans hp (h1 e he)
    ·rw[if_pos (by simpa using hr),QJ]at h
     cases h
theorem J66{N:Nat}{ev:List Qe}:∀(n:Nat) (s:Int×Int×List Jz×List Qu×List Int) (w:Int×Int),Qf (Jn N ev) n s=some (.inr w)→w.2≠0
 | 0,s,w,h=>by simp[Qf]at h
 | n+1,s,w,h=>by
  simp only[Qf]at h;cases hf:Jn N ev s with
  | none=>rw[hf]at h; cases h
  | some q =>
   rw[hf,QJ]at h;cases q with
   | inl s'=>exact J66 n s' w h
   | inr z =>
    have hz:z=.inr w:=Option.some.inj h;subst hz;unfold Jn at hf;split at hf
    ·simp only[Option.bind_eq_some_iff]at hf
     obtain⟨x,hx,r,hr,hf⟩:=hf;split at hf
     ·rename_i hc
      cases Option.some.inj hf;simpa using hc
     ·simp only[Option.bind_eq_some_iff]at hf
      obtain⟨_,_,_,_,_,_,hf⟩:=hf;cases hf
    ·cases hf
theorem J67{N:Nat}{ev:List Qe}{u:Int}(h:Vf N ev=some (u,0)):EvS ev:=by
 unfold Vf at h
 by_cases hc:(decide ((ev.length:Int)>4096))=true
 ·rw[if_pos hc]at h; cases h
 ·rw[if_neg hc]at h
  have hl:ev.length≤4096:=by simp at hc; omega
  cases hlp:Qf (Jn N ev) N (0,0,([]:List Jz),([]:List Qu),([]:List Int))with
  | none=>rw[hlp]at h; cases h
  | some q =>
   cases q with
   | inl x=>exact(J8z hl ev.length 0 N 0 [] [] [] (by omega) hlp).2
   | inr w =>
    exfalso;rw[hlp,QJ]at h;have h2:w.2=0:=congrArg Prod.snd (Option.some.inj h);exact J66 _ _ _ hlp h2
theorem Q5z{σ τ:Type}{f:σ→Option (σ⊕τ)}{P:τ→Prop}(h:∀s r,f s=some (.inr r)→P r):∀(n:Nat) (s:σ) (r:τ),Qf f n s=some r→P r
 | 0,s,r,e=>by simp[Qf]at e
 | n+1,s,r,e=>by
  simp only[Qf]at e;cases hf:f s with
  | none=>rw[hf]at e; cases e
  | some q =>
   rw[hf,QJ]at e;cases q with
   | inl s'=>exact Q5z h n s' r e
   | inr z =>
    have hz:z=r:=Option.some.inj e;exact hz▸h s z hf
abbrev NoR(r:Unit⊕Bool):Prop:=∀v,r=.inr v→v=false
theorem nR1{N:Nat}{b:Q7}{n:Int}:∀s r,K0 N b n s=some (.inr r)→NoR r:=fun s r h=>by
 unfold K0 at h;split at h
 ·simp only[Option.bind_eq_some_iff]at h
  obtain⟨x,_,y,_,h⟩:=h;split at h
  ·cases h; intro v e; cases e; rfl
  ·cases h
 ·cases h; intro v e; cases e
theorem nR2{N:Nat}{b:Q7}{n:Int}:∀s r,K1 N b n s=some (.inr r)→NoR r:=fun s r h=>by
 unfold K1 at h;split at h
 ·simp only[Option.bind_eq_some_iff]at h
  obtain⟨x,_,h⟩:=h;split at h
  ·cases h; intro v e; cases e; rfl
  ·cases h
 ·cases h; intro v e; cases e
theorem nR3{N:Nat}{b:Q7}{n:Int}:∀s r,K2 N b n s=some (.inr r)→NoR r:=fun s r h=>by
 unfold K2 at h;split at h
 ·simp only[Option.bind_eq_some_iff]at h
  obtain⟨x,_,h⟩:=h;split at h
  ·cases h; intro v e; cases e; rfl
  ·cases h
 ·cases h; intro v e; cases e
theorem nR4{N:Nat}{b:Q7}:∀s r,K3 N b s=some (.inr r)→NoR r:=fun s r h=>by
 unfold K3 at h;split at h
 ·simp only[Option.bind_eq_some_iff]at h
  obtain⟨x,_,y,_,z,_,h⟩:=h;split at h
  ·cases h; intro v e; cases e; rfl
  ·cases h
 ·cases h; intro v e; cases e
theorem J68{N:Nat}{b:Q7}{n:Int}(h:U8 N b n=some true):∃u,Vf N b.1=some (u,0):=by
 unfold U8 at h;split at h
 ·cases h
 ·simp only[Option.bind_eq_some_iff]at h
  obtain⟨r1,e1,h⟩:=h;have n1:=Q5z (nR1 (N:=N)) _ _ _ e1;cases r1 with
  | inr v=>have:=n1 v rfl; subst this; cases h
  | inl _ =>
   simp only[Option.bind_eq_some_iff]at h;obtain⟨r2,e2,h⟩:=h;have n2:=Q5z (nR2 (N:=N)) _ _ _ e2;cases r2 with
   | inr v=>have:=n2 v rfl; subst this; cases h
   | inl _ =>
    simp only[Option.bind_eq_some_iff]at h;obtain⟨r3,e3,h⟩:=h;have n3:=Q5z (nR3 (N:=N)) _ _ _ e3;cases r3 with
    | inr v=>have:=n3 v rfl; subst this; cases h
    | inl _ =>
     simp only[Option.bind_eq_some_iff]at h;obtain⟨r4,e4,h⟩:=h;have n4:=Q5z (nR4 (N:=N)) _ _ _ e4;cases r4 with
     | inr v=>have:=n4 v rfl; subst this; cases h
     | inl _ =>
      simp only[Option.bind_eq_some_iff]at h;obtain⟨w,ew,v1,hv1,h⟩:=h
      by_cases hw:w.2=0
      ·refine⟨w.1,?_⟩
       rw[ew];exact congrArg some (Prod.ext rfl hw)
      ·rw[if_neg (by simpa using hw)]at hv1
       cases hv1;simp at h
abbrev bk0:Q2:=([],[],[])
def bkN(N:Nat)(es:List Qe):Option Q2:=es.foldl (fun o e=>o.bind fun b=>Vd N b e) (some bk0)
theorem Jok{N:Nat}{ev:List Qe}{i:Nat}(h:i<ev.length):bkN N (ev.take (i+1))=(bkN N (ev.take i)).bind fun b=>Vd N b ev[i]:=by
 unfold bkN;rw[XH h,List.foldl_append];rfl
structure BkZ(j:Nat)(b:Q2):Prop where
 a:sz b.1≤j
 s:sz b.2.1≤j
 e:b.2.2.length≤j
structure EvV(N:Nat)(ev:List Qe):Prop where
 ok:∃u,Vf N ev=some (u,0)
 len:ev.length≤32
 sh:Sh.sh ev
theorem Jyc{N:Nat}[hN:Kb N]{ev:List Qe}(hl:ev.length≤32)(hsh:Sh.sh ev):∀(k i n:Nat) (p:Int) (b:Q2),ev.length=i+k→bkN N (ev.take i)=some b→BkZ i b→Qf (Jn N ev) n (p,(i:Int),b.1,b.2.1,b.2.2)=some (.inl ())→∀j,i≤j→j≤ev.length→∃b',bkN N (ev.take j)=some b'∧BkZ j b'
 | 0,i,n,p,b,hk,hb,hz,h=>fun j h1 h2=>by
  obtain rfl:j=i:=by omega
  exact⟨b,hb,hz⟩
 | k+1,i,n,p,b,hk,hb,hz,h=>fun j h1 h2=>by
  cases n with
  | zero=>simp[Qf]at h
  | succ n =>
   have hi:i<ev.length:=by omega
   have hw:=Jyb hi (by omega:ev.length≤9223372036854775806);simp only[Qf]at h;unfold Jn at h;dsimp only at h;rw[if_pos (decide_eq_true (by omega)),G8 hi,QJ]at h;have hz1:=hz.a; have hz2:=hz.s; have hz3:=hz.e;have hse:Sh.sh ev[i]:=Jww (JH hi) hsh;have hzb:sz b≤32:=by simp only[sz1,mx1,Qwl]; omega
   obtain⟨f,ef,hf⟩:=(Qli (N:=N) (x0:=b) (x1:=ev[i]) (x2:=p)).spec _ ⟨⟨by omega,hse⟩,fun r h=>h⟩;rw[show((b.1,b.2.1,b.2.2):Q2)=b from rfl,ef,QJ]at h
   by_cases hr:f=0
   ·subst hr
    rw[if_neg (by decide),QJ]at h;obtain⟨⟨q1,q2⟩,q3⟩:=hf rfl;obtain⟨w,ew,z1,z2,z3,_⟩:=(Qlj (N:=N) (x0:=b) (x1:=ev[i])).spec _ ⟨⟨by omega,q1,q2⟩,fun r h=>h⟩;rw[ew,QJ,QJ,QJ,hw]at h;rcases Nat.lt_or_ge i j with hj | hj
    ·refine Jyc hl hsh k (i+1) n ev[i].1 w (by omega) (by rw[Jok hi,hb]; exact ew) ⟨by omega,by omega,?_⟩ h j hj h2
     have:=Hq (l:=w.2.2);have:=hz.e;simp only[Qwl]at z3; omega
    ·obtain rfl:j=i:=by omega
     exact⟨b,hb,hz⟩
   ·rw[if_pos (by simpa using hr),QJ]at h
    cases h
theorem Jyd{N:Nat}[hN:Kb N]{ev:List Qe}(h:EvV N ev){j:Nat}(hj:j≤ev.length):∃b,bkN N (ev.take j)=some b∧BkZ j b:=by
 obtain⟨⟨u,h1⟩,hl,hsh⟩:=h;unfold Vf at h1;rw[if_neg (by simp; omega)]at h1;cases hlp:Qf (Jn N ev) N (0,0,([]:List Jz),([]:List Qu),([]:List Int))with
 | none=>rw[hlp]at h1; cases h1
 | some q =>
  cases q with
  | inl x=>exact Jyc hl hsh ev.length 0 N 0 bk0 (by omega) rfl ⟨by simp[Ji2],by simp[Ji2],by simp⟩ hlp j (by omega) hj
  | inr w =>
   exfalso;rw[hlp,QJ]at h1;have h2:w.2=0:=congrArg Prod.snd (Option.some.inj h1);exact J66 _ _ _ hlp h2
theorem J00{N:Nat}{ev:List Qe}(h:EvV N ev):EvS ev:=let⟨_,e⟩:=h.ok; J67 e
theorem Qtq{N:Nat}[hN:Kb N]{ev:List Qe}{t:Int}(hv:EvV N ev):∀(k i n j:Nat) (b:Q2),ev.length=i+k→k<n→j≤ev.length→bkN N (ev.take j)=some b→(j=i∨∀e∈ev.drop i,t<e.1)→∃(m:Nat) (r:Q2),m≤ev.length∧bkN N (ev.take m)=some r∧Qf (Zl N ev t) n ((i:Int),b.1,b.2.1,b.2.2)=some (r.1,r.2.1,r.2.2)
 | 0,i,n,j,b,hk,hn,hj,hb,h=>by
  obtain⟨n,rfl⟩:∃q,n=q+1:=⟨n - 1,by omega⟩
  refine⟨j,b,hj,hb,?_⟩;simp only[Qf];unfold Zl;rw[if_neg (fun h=>by have:=of_decide_eq_true h; dsimp only at this; omega)];rfl
 | k+1,i,n,j,b,hk,hn,hj,hb,h=>by
  obtain⟨n,rfl⟩:∃q,n=q+1:=⟨n - 1,by omega⟩
  have hi:i<ev.length:=by omega
  have hl:=hv.len;have hw:=Jyb hi (by omega:ev.length≤9223372036854775806);simp only[Qf];unfold Zl;dsimp only;rw[if_pos (decide_eq_true (by omega)),G8 hi,QJ]
  by_cases hc:ev[i].1≤t
  ·have hji:j=i:=by
    rcases h with h | h
    ·exact h
    ·have:=h ev[i] (by rw[List.drop_eq_getElem_cons hi]; exact .head _); omega
   subst hji;obtain⟨b',hb',_⟩:=Jyd hv (j:=j+1) (by omega);have e:Vd N b ev[j]=some b':=by rw[Jok hi,hb]at hb'; exact hb'
   rw[if_pos (decide_eq_true hc),QJ,show((b.1,b.2.1,b.2.2):Q2)=b from rfl,e,QJ,QJ,QJ,hw];exact Qtq hv k (j+1) n (j+1) b' (by omega) (by omega) (by omega) hb' (.inl rfl)
  ·rw[if_neg (fun h=>hc (of_decide_eq_true h)),QJ,QJ,hw]
   refine Qtq hv k (i+1) n j b (by omega) (by omega) hj hb (.inr fun e he=>?_);have hs:=J00 hv;have h1:EvS (ev.drop i):=List.Pairwise.sublist (List.drop_sublist _ _) hs;rw[List.drop_eq_getElem_cons hi]at h1;have:=(List.pairwise_cons.1 h1).1 e he;omega
theorem J69{N:Nat}[hN:Kb N]{ev:List Qe}{t:Int}(hv:EvV N ev):∃(m:Nat) (r:Q2),m≤ev.length∧bkN N (ev.take m)=some r∧Zr N ev t=some r:=by
 have hB:=hN.le; have hl:=hv.len;obtain⟨m,r,h1,h2,h3⟩:=Qtq (t:=t) hv ev.length 0 N 0 bk0 (by omega) (by omega) (by omega) rfl (.inl rfl);refine⟨m,r,h1,h2,?_⟩;unfold Zr;have h3':Qf (Zl N ev t) N (0,([]:List Jz),([]:List Qu),([]:List Int))=_:=h3;rw[h3']; rfl
@[instance]abbrev Jhg{N:Nat}[hN:Kb N]{x0:List Qe}{x1:Int}:WP (Zr N x0 x1) (fun R=>EvV N x0∧∀r:Q2,(sz r.1≤32∧sz r.2.1≤32∧r.2.2.length≤32)→R r):=Bk fun h=>by
 obtain⟨m,r,h1,h2,h3⟩:=J69 (t:=x1) h;obtain⟨b,e,z⟩:=Jyd h h1;rw[h2]at e;cases Option.some.inj e;have:=h.len; have:=z.a; have:=z.s; have:=z.e;exact⟨r,h3,by omega,by omega,by omega⟩
theorem Jye{ev:List Qe}{a:Int}{i:Nat}{x y z:Qe}(h1:¬¬x.2.1=3)(h2:y.2.2.1=a)(hx:ev[i]?=some x)(hy:ev[i]?=some y)(hz:ev[i]?=some z):W9 ev a z.2.2.2.1:=by
 rw[hx]at hy hz;cases Option.some.inj hy;cases Option.some.inj hz;exact⟨x,List.mem_of_getElem? hx,Decidable.not_not.1 h1,h2,rfl⟩
class Jol(P:Prop)(ev:outParam (List Qe)):Prop where
 len:P→ev.length≤32
instance {N:Nat} {ev:List Qe}:Jol (EvV N ev) ev:=⟨fun h=>h.len⟩
instance {P Q:Prop} {ev:List Qe} [h:Jol P ev]:Jol (P∧Q) ev:=⟨fun k=>h.len k.1⟩
theorem Jom{P:Prop}{ev:List Qe}[h:Jol P ev](k:P):ev.length≤32:=h.len k
structure Jkb(ev:List Qe)(a:Int)(h:Qt):Prop where
 acc:h.1=a
 add:W9 ev a h.2.1
 act:h.2.2.2.length≤32
theorem Jyf{ev:List Qe}{a:Int}{l:List Qt}(h:Q5 (Jkb ev a) l):Q5 (fun h:Qt=>h.2.2.2.length≤32) l:=⟨fun x hx=>(h.all x hx).act⟩
structure Qnu(l:List (Int×Int)):Prop where
 end_:∀p,l.getLast?=some p→(l.length:Int)*86400≤p.1+86400∧p.1<12622780800∧p.1 % 86400=0
theorem J01:Qnu []:=⟨fun p h=>by cases h⟩
theorem Q8u{l:List (Int×Int)}(h:Qnu l):l.length≤146097:=by
 cases hl:l.getLast? with
 | none=>rw[List.getLast?_eq_none_iff.1 hl]; simp
 | some p=>have:=h.end_ p hl; omega
theorem J02{l:List (Int×Int)}{y:Int×Int}(h:(l.length:Int)=0)(hq:y.1 % 86400=0∧0≤y.1∧y.1<12622780800):Qnu (l++[y]):=⟨fun p hp=>by
 rw[List.length_eq_zero_iff.1 (Int.natCast_eq_zero.1 h)]at hp ⊢;simp only[QE,ZB,Option.some.injEq]at hp;subst hp
 simp only[QE,ZR]; omega⟩
theorem J03{l r:List (Int×Int)}{i:Nat}{x y z:Int×Int}(hlt:x.1<y.1)(h:Qnu l)(hx:l[(IntKind.wrap .i64 ((l.length:Int) - 1)).toNat]?=some x)(hy:r[i]?=some y)(hz:r[i]?=some z)(hq:z.1 % 86400=0∧0≤z.1∧z.1<12622780800):Qnu (l++[z]):=⟨fun p hp=>by
 rw[hy]at hz;cases Option.some.inj hz;simp only[List.getLast?_append,ZB,Option.some_or,Option.some.injEq]at hp;subst hp;have hl:=Q8u h;rw[Q9 (by omega) (by omega)]at hx
 have hg:l.getLast?=some x:=by
  rw[List.getLast?_eq_getElem?,←hx];congr 1;omega
 have h1:=h.end_ x hg;simp only[List.length_append,ZR]
 omega⟩
theorem atW{α:Type}{l:List α}:1≤l.length→l.length≤1099511627776→0≤IntKind.wrap .i64 ((l.length:Int) - 1)∧IntKind.wrap .i64 ((l.length:Int) - 1)<l.length:=fun h1 h2=>by
 rw[Q9 (by omega) (by omega)]; omega
theorem J9l{x:Int}(h:0≤x∧x≤50):IntKind.wrap .u64 x=x:=by
 show x % 18446744073709551616=x;omega
theorem cyw{s a:Int}(r:Int):0≤s∧s≤200000→0≤r∧r≤31→1≤a∧a≤28→IntKind.wrap .i64 (s+r)=s+r∧IntKind.wrap .i64 (IntKind.wrap .i64 (IntKind.wrap .i64 (s+r+a) - 1)*86400)=(s+r+a - 1)*86400:=fun h1 h2 h3=>by
 refine⟨Q9 (by omega) (by omega),?_⟩;rw[Q9 (n:=s+r+a) (by omega) (by omega),Q9 (n:=s+r+a - 1) (by omega) (by omega),Q9 (by omega) (by omega)]
structure Vs(Q:Int→Int→Prop)(l m:List Qa):Prop where
 all:∀b∈m,(∃y∈l,b.1=y.1∧b.2.1=y.2.1)∨Q b.1 b.2.1
theorem Jfo{Q:Int→Int→Prop}{l:List Qa}:Vs Q l l:=⟨fun b h=>.inl ⟨b,h,rfl,rfl⟩⟩
theorem Qmd{Q:Int→Int→Prop}{l m k:List Qa}(h:Vs Q l m)(h2:Vs Q m k):Vs Q l k:=⟨fun b hb=>by
 rcases h2.all b hb with⟨y,hy,e1,e2⟩ | q
 ·rcases h.all y hy with⟨z,hz,f1,f2⟩ | q
  ·exact .inl ⟨z,hz,e1.trans f1,e2.trans f2⟩
  ·exact .inr (by rw[e1,e2]; exact q)
 ·exact .inr q⟩
theorem Qln{Q Q':Int→Int→Prop}{l m:List Qa}(h:Vs Q l m)(hq:∀a s,Q a s→Q' a s):Vs Q' l m:=⟨fun b hb=>(h.all b hb).imp id (hq _ _)⟩
def OfB(r:List Qa)(a s:Int):Prop:=∃h∈r,a=h.1∧s=h.2.1
def OfH(r:List Qt)(a s:Int):Prop:=∃h∈r,a=h.1∧s=h.2.1
def Jyg(ev:List Qe)(k a s:Int):Prop:=a=k∧W9 ev a s
def Jkc(b:Qa)(a s:Int):Prop:=a=b.1∧s=b.2.1
theorem J04{l s t:List Qa}{b c:Qa}(h1:∀x∈s,x∈l)(h2:∀x∈t,x∈l)(e1:c.1=b.1)(e2:c.2.1=b.2.1):Vs (Jkc b) l (s++[c]++t):=⟨fun x hx=>by
 rcases QZ.1 hx with hx | hx
 ·rcases QZ.1 hx with hx | hx
  ·exact .inl ⟨x,h1 x hx,rfl,rfl⟩
  ·rw[QO]at hx
   subst hx;exact .inr ⟨e1,e2⟩
 ·exact .inl ⟨x,h2 x hx,rfl,rfl⟩⟩
theorem J05{l m:List Qa}{b c:Qa}(h:Vs (Jkc c) l m)(e1:c.1=b.1)(e2:c.2.1=b.2.1):Vs (Jkc b) l m:=Qln h fun a s q=>⟨q.1.trans e1,q.2.trans e2⟩
theorem Jyh{r l m k:List Qa}{b:Qa}(h:Vs (OfB r) l m)(hb:b∈r)(h2:Vs (Jkc b) m k):Vs (OfB r) l k:=Qmd h (Qln h2 fun a s q=>⟨b,hb,q⟩)
structure J06(h:Qt)(b:Qa):Prop where
 acc:b.1=h.1
 sub:b.2.1=h.2.1
theorem Jyi{r:List Qt}{h:Qt}{q l m k:List Qa}(h1:Vs (OfH r) l m)(hh:h∈r)(h3:Q5 (J06 h) q)(h2:Vs (OfB q) m k):Vs (OfH r) l k:=Qmd h1 (Qln h2 fun a s ⟨b,hb,e1,e2⟩=>⟨h,hh,e1.trans (h3.all b hb).acc,e2.trans (h3.all b hb).sub⟩)
theorem J07{ev:List Qe}{a:Int}{r:List Qt}{l m:List Qa}(h:Vs (OfH r) l m)(hr:Q5 (Jkb ev a) r):Vs (Jyg ev a) l m:=Qln h fun k s hb=>by
 obtain⟨x,hx,e1,e2⟩:=hb;have:=hr.all x hx;exact⟨e1.trans this.acc,by rw[e1,e2,this.acc]; exact this.add⟩
def NoB(a s:Int):Prop:=False
theorem J08{Q:Int→Int→Prop}{l m:List Qa}{i:Nat}{y c:Qa}(h:Vs Q l m)(hy:m[i]?=some y)(e1:c.1=y.1)(e2:c.2.1=y.2.1):Vs Q l (m.set i c):=⟨fun b hb=>by
 rcases XV hb with hb | rfl
 ·exact h.all b hb
 ·rw[e1,e2]; exact h.all y (List.mem_of_getElem? hy)⟩
theorem J9m{m:List Qa}(h:sz m≤1000000000000)(b:Qa)(hb:b∈m):b.2.2.2.2.2.1.length≤1000000000000:=by
 have h1:=Nat.le_trans (Qhg hb) h;have h2:=Hq (l:=b.2.2.2.2.2.1);simp only[sz1,mx1]at h1; omega
structure Jrw(ev:List Qe)(l:List Qa):Prop where
 own:∀b∈l,W9 ev b.1 b.2.1
theorem Jyj{ev:List Qe}:Jrw ev []:=⟨fun b h=>absurd h QT⟩
theorem Jyk{ev:List Qe}{k:Int}{l m:List Qa}(h:Jrw ev l)(h2:Vs (Jyg ev k) l m):Jrw ev m:=⟨fun b hb=>by
 rcases h2.all b hb with⟨y,hy,e1,e2⟩ | q
 ·rw[e1,e2]; exact h.own y hy
 ·exact q.2⟩
theorem J7a{Q:Int→Int→Prop}{l m:List Qa}(h:m=l):Vs Q l m:=h▸Jfo
theorem J80{Q:Int→Int→Prop}{l l' m k:List Qa}(e1:l'=l)(h1:Vs Q l' m)(h2:Vs NoB m k):Vs Q l k:=Qmd (e1▸h1) (Qln h2 fun _ _ q=>q.elim)
theorem J9n{Q:Int→Int→Prop}{l l' m k r:List Qa}(e1:l'=l)(e2:r=k)(h1:Vs Q l' m)(h2:Vs NoB m k):Vs Q l r:=e2▸J80 e1 h1 h2
@[instance]abbrev Jkd{x0 x1 x2}:=mkW (F4.eq_1 N x0 x1 x2) (EvV N x0) (fun r=>sz r.1≤32)
@[instance]abbrev Qwr{x0 x1}{s}:=upL (N:=N) (s:=s) (Ag.eq_def N x0 x1) (fun t=>t) x0.length (fun t=>x0.length=x1.length∧x0.length≤9223372036854775807) (fun r:((Unit)⊕(Bool))=>True)
@[instance]abbrev Q2c{x0 x1}:=mkW (Gp.eq_1 N x0 x1) (sz x0≤9223372036854775807∧sz x1≤9223372036854775807) (fun r=>True)
@[instance]abbrev Jfp{x0 x1}:=mkW (Ci.eq_1 N x0 x1) (sz x0≤9223372036854775807∧sz x1≤9223372036854775807) (fun r=>True)
@[instance]abbrev Q2d{x0 x1}{s}:=upL (N:=N) (s:=s) (Iq.eq_def N x0 x1) (fun t=>t.1) x0.length (fun t=>EvV N x0∧x0.length≤32∧t.2.length≤t.1∧sz t.2≤32) (fun r:(((List Q6)))=>sz r≤32)
@[instance]abbrev Q93{x0 x1}:=mkW (We.eq_1 N x0 x1) (EvV N x0) (fun r=>sz r≤32) (k:=by
  intro h;have g0:=Jom h
  exact lw)
@[instance]abbrev Jfq{r1 x2}{s}:=upL (N:=N) (s:=s) (Qab.eq_def N r1 x2) (fun t=>t.1) r1.length (fun t=>sz r1≤32∧r1.length≤32) (fun r:((Qb×Str×Bool×Bool)⊕(Bool×Q6))=>∀t,r=.inr t→sz t.2≤32)
@[instance]abbrev Jon{x0 x1 x2}:=mkW (Ro.eq_1 N x0 x1 x2) (EvV N x0) (fun r=>sz r≤32)
@[instance]abbrev Q50{s}:=mkL (N:=N) (s:=s) (Mi.eq_def N) (fun t=>(10000 - t.1).toNat) (fun t=>1≤t.1∧t.1≤10000∧sz t.2.1≤32∧sz t.2.2.1≤32∧t.2.2.1.length≤32∧t.2.2.2.2.length≤32∧t.2.2.2.1.length≤32∧sz t.2.2.2.2≤32) (fun r:((Q2×(List Qu)))=>sz r.2≤32∧sz r.1≤32∧r.1.1.length≤32)
@[instance]abbrev Q51{v151 v149}{s}:=upL (N:=N) (s:=s) (Mj.eq_def N v151 v149) (fun t=>t.1) v151.length (fun t=>sz v151≤32∧t.2.2.2.2.2.2.length≤t.1∧v151.length≤32) (fun r:((Int×Int×Int×Bool×Bool×(List Int)))=>r.2.2.2.2.2.length≤32)
@[instance]abbrev Q2e{v44}{s}:=mkL (N:=N) (s:=s) (Ir.eq_def N v44) (fun t=>(10000 - t.1).toNat) (fun t=>sz v44≤32∧v44.1.length≤32∧1≤t.1∧t.1≤10000∧sz t.2.2≤32∧t.2.1.length≤32∧sz t.2.1≤32) (fun r:(((List Qr)×(List Qu)))=>sz r.1≤32)
@[instance]abbrev Jfr{x0 x1}:=mkW (Cj.eq_1 N x0 x1) (EvV N x0) (fun r=>sz r.1≤32)
@[instance]abbrev Q0z{r1 x1}{s}:=upL (N:=N) (s:=s) (Do.eq_def N r1 x1) (fun t=>t.1) r1.length (fun t=>sz r1≤32∧r1.length≤32) (fun r:((Int×Int×Int×Bool×Bool)⊕(Bool×Qr))=>True)
@[instance]abbrev Q8v{x0 x1 x2}:=mkW (Eu.eq_1 N x0 x1 x2) (EvV N x0) (fun r=>True)
@[instance]abbrev Q2f{x0}{s}:=upL (N:=N) (s:=s) (Ix.eq_def N x0) (fun t=>t.1) x0.length (fun t=>x0.length≤32∧t.2.length≤t.1) (fun r:(((List Qb)))=>r.length≤32)
@[instance]abbrev Q94{x0}:=mkW (Ax.eq_1 N x0) (x0.length≤32) (fun r=>r.length≤32)
@[instance]abbrev Q2g{r1 x2}{s}:=upL (N:=N) (s:=s) (Iy.eq_def N r1 x2) (fun t=>t.1) r1.length (fun t=>sz r1≤32∧t.2.length≤t.1∧r1.length≤32) (fun r:(((List Qb)))=>r.length≤32)
@[instance]abbrev Q95{x0 x1 x2}:=mkW (Ay.eq_1 N x0 x1 x2) (EvV N x0) (fun r=>r.length≤32)
@[instance]abbrev Q2h{x0 x1}{s}:=upL (N:=N) (s:=s) (Iv.eq_def N x0 x1) (fun t=>t.1) x0.length (fun t=>x0.length≤32) (fun r:((Qe)⊕(Bool×Qe))=>True)
@[instance]abbrev Q96{x0 x1}:=mkW (Wg.eq_1 N x0 x1) (x0.length≤32) (fun r=>True)
@[instance]abbrev Q8w{x0}:=mkW (Xm.eq_1 N x0) (True) (fun r=>True)
@[instance]abbrev Q8x{v3 x0 v2}{s}:=mkL (N:=N) (s:=s) (Pm.eq_def N v3 x0 v2) (fun t=>t.toNat) (fun t=>0≤t∧t≤v3.length∧v3.length≤32∧0≤v2∧v2<x0.length∧x0.length≤32) (fun r:((Int))=>0≤r∧r≤v3.length)
attribute [local instance 1300] Qz8 in
@[instance]abbrev Q8y{x0 x1}{s}:=upL (N:=N) (s:=s) (Pn.eq_def N x0 x1) (fun t=>t.1) x0.length (fun t=>x0.length≤32∧t.2.length≤t.1∧Q5 (fun s:Int=>W9 x0 x1 s) t.2) (fun r:(((List Int)))=>r.length≤32∧Q5 (fun s:Int=>W9 x0 x1 s) r)
@[instance]abbrev Jhh{x0 x1}:=mkW (Iw.eq_1 N x0 x1) (x0.length≤32) (fun r=>r.length≤32∧Q5 (fun s:Int=>W9 x0 x1 s) r)
@[instance]abbrev Q97{x0 x1}{s}:=upL (N:=N) (s:=s) (R5.eq_def N x0 x1) (fun t=>t) x0.length (fun t=>x0.length≤1000000000000) (fun r:((Unit)⊕(Bool))=>True)
@[instance]abbrev Jke{x0 x1}:=mkW (F5.eq_1 N x0 x1) (x0.length≤1000000000000) (fun r=>True)
@[instance]abbrev Q0k{v6 x0 v4}{s}:=mkL (N:=N) (s:=s) (Bp.eq_def N v6 x0 v4) (fun t=>t.toNat) (fun t=>0≤t∧t≤v6.length∧v6.length≤32∧0≤v4∧v4<x0.length∧x0.length≤32) (fun r:((Int))=>0≤r∧r≤v6.length)
@[instance]abbrev Q0l{x0 x1}{s}:=upL (N:=N) (s:=s) (Bq.eq_def N x0 x1) (fun t=>t.1) x0.length (fun t=>x0.length≤32∧t.2.length≤t.1) (fun r:(((List Str)))=>r.length≤32)
@[instance]abbrev Q52{x0 x1}:=mkW (Hm.eq_1 N x0 x1) (x0.length≤32) (fun r=>r.length≤32)
@[instance]abbrev Q0m{r6 r1 v3 x0 x1}{s}:=upL (N:=N) (s:=s) (Br.eq_def N r6 r1 v3 x0 x1) (fun t=>t.1) r6.length (fun t=>EvV N x0∧r6.length≤32∧r1.length≤32∧0≤v3∧v3<r1.length∧Q5 (fun s:Int=>W9 x0 x1 s) r1∧0≤s.1∧s.2.length≤1024∧t.2.length≤s.2.length+(t.1 - s.1)∧Q5 (Jkb x0 x1) t.2) (fun r:(((List Qt)))=>r.length≤s.2.length+32∧Q5 (Jkb x0 x1) r) (step:=by
  intro s h h0 h1 h2 hw;have g0:=(fun s hs=>h.2.2.2.2.2.1.all s hs:∀s∈r1,W9 x0 x1 s)
  exact lw)
@[instance]abbrev Q0n{r1 x0 x1}{s}:=upL (N:=N) (s:=s) (Bs.eq_def N r1 x0 x1) (fun t=>t.1) r1.length (fun t=>EvV N x0∧r1.length≤32∧Q5 (fun s:Int=>W9 x0 x1 s) r1∧t.2.length≤32*t.1∧Q5 (Jkb x0 x1) t.2) (fun r:(((List Qt)))=>r.length≤1024∧Q5 (Jkb x0 x1) r) (step:=by
  intro s h h0 h1 h2 hw;have g0:=Jom h
  exact lw)
@[instance]abbrev Q53{x0 x1}:=mkW (Ho.eq_1 N x0 x1) (EvV N x0) (fun r=>r.length≤1024∧Q5 (Jkb x0 x1) r) (k:=by
  intro h;have g0:=Jom h
  exact lw)
@[instance]abbrev Jfs{x0}:=mkW (Cm.eq_1 N x0) (True) (fun r=>r=true→x0.2≤12622780800)
@[instance]abbrev Jhi{x0}:=mkW (I1.eq_1 N x0) (True) (fun r=>True)
@[instance]abbrev Q98{x0 x1}:=mkW (A1.eq_1 N x0 x1) (True) (fun r=>0≤r∧r≤31)
@[instance]abbrev Q2i{x0 x1}{s}:=mkL (N:=N) (s:=s) (I2.eq_def N x0 x1) (fun t=>(4801 - t.2.2.1).toNat) (fun t=>1≤x0∧x0≤28∧x1.2≤12622780800∧0≤t.2.2.1∧t.2.2.1≤4801∧0≤t.2.1∧t.2.1≤31*t.2.2.1∧0≤t.1∧t.1 % 86400=0∧t.2.2.2.length≤t.2.2.1∧Q5 (fun p:Int×Int=>p.1 % 86400=0∧0≤p.1∧p.1<12622780800) t.2.2.2) (fun r:(((List Qb)))=>r.length≤4801∧Q5 (fun p:Int×Int=>p.1 % 86400=0∧0≤p.1∧p.1<12622780800) r) (step:=by
  intro s h;have g0:=(fun a=>Q9 (by omega) (by omega):0≤s.2.2.1∧s.2.2.1≤4800→IntKind.wrap .i64 (s.2.2.1+1)=s.2.2.1+1); have g1:=cyw (s:=s.2.1) (a:=x0)
  try simp only[sS,reduceCtorEq]at *
  repeat' (first | intro _ | apply And.intro)
  all_goals first | ((repeat cases ‹_∧_›); first | assumption | omega | exact Y4 (by assumption) (Uv (by omega)) | ((simp (disch:=omega) only [Q9]at *)<;>omega)) | exact lv)
attribute [local instance 1300] Qz8 in
@[instance]abbrev Q99{x0 x1}:=mkW (Wj.eq_1 N x0 x1) (True) (fun r=>r.length≤4801∧Q5 (fun p:Int×Int=>p.1 % 86400=0∧0≤p.1∧p.1<12622780800) r)
@[instance]abbrev Jft{x0 x1}:=mkW (Ct.eq_1 N x0 x1) (True) (fun r=>True)
@[instance]abbrev Q2j{x0}{s}:=upL (N:=N) (s:=s) (I3.eq_def N x0) (fun t=>t.1) x0.length (fun t=>x0.length≤1024∧Q5 (fun h:Qt=>h.2.2.2.length≤32) x0∧t.2.length≤32*t.1) (fun r:(((List Qb)))=>r.length≤32768) (step:=by
  intro s h h0 h1 h2 hw;have g0:=(fun p hp=>h.2.1.all p hp:∀p∈x0,p.2.2.2.length≤32)
  exact lw)
attribute [local instance 1300] Qz8 in
@[instance]abbrev Q2k{r12}{s}:=upL (N:=N) (s:=s) (I4.eq_def N r12) (fun t=>t.1) r12.length (fun t=>r12.length≤4801∧Q5 (fun p:Int×Int=>p.1 % 86400=0∧0≤p.1∧p.1<12622780800) r12∧Qnu t.2) (fun r:(((List Qb)))=>Qnu r) (step:=by
  intro s h h0 h1 h2 hw;have g0:=(fun p hp=>h.2.1.all p hp:∀p∈r12,p.1 % 86400=0∧0≤p.1∧p.1<12622780800); have g1:=Q8u h.2.2; have g2:=(atW (l:=s.2))
  exact lw)
@[instance]abbrev Q2l{r7 x1}{s}:=upL (N:=N) (s:=s) (I5.eq_def N r7 x1) (fun t=>t.1) r7.length (fun t=>r7.length≤70000∧Qnu t.2) (fun r:(((List Qb)))=>Qnu r)
@[instance]abbrev Jaa{x0 x1 x2}:=mkW (A3.eq_1 N x0 x1 x2) (x0.length≤1024∧Q5 (fun h:Qt=>h.2.2.2.length≤32) x0) (fun r=>Qnu r)
@[instance]abbrev Q54{x0 x1}{s}:=upL (N:=N) (s:=s) (Mp.eq_def N x0 x1) (fun t=>t.1) x0.length (fun t=>x0.length≤32) (fun r:((Qb)⊕(Bool×Qb))=>True)
@[instance]abbrev Jfu{x0 x1}:=mkW (Cn.eq_1 N x0 x1) (x0.length≤32) (fun r=>True)
@[instance]abbrev Jfv{x0 x1 x2}{s}:=upL (N:=N) (s:=s) (Qae.eq_def N x0 x1 x2) (fun t=>t.2.1) x0.length (fun t=>x0.length≤32∧sz x0≤4096∧Q5 (fun p:Qm=>p.2.2.2.2.2.length≤32) x0∧t.2.2.2.2.2.2.2.length≤32∧sz t.2.2≤4096∧x0.length≤4096) (fun r:((Bool×Qm))=>r.2.2.2.2.2.2.length≤32∧sz r.2≤4096) (step:=by
  intro s h h0 h1 h2 hw;have g0:=(fun p hp=>h.2.2.1.all p hp:∀p∈x0,p.2.2.2.2.2.length≤32)
  exact lw)
@[instance]abbrev Joo{x0 x1 x2}:=mkW (Rq.eq_1 N x0 x1 x2) (x0.length≤32∧sz x0≤4096∧Q5 (fun p:Qm=>p.2.2.2.2.2.length≤32) x0) (fun r=>r.1.2.2.2.2.2.length≤32∧sz r.1≤4096)
@[instance]abbrev Q00{r3 x1 r1}{s}:=upL (N:=N) (s:=s) (Dv.eq_def N r3 x1 r1) (fun t=>t.1) r3.2.2.2.2.2.length (fun t=>r3.2.2.2.2.2.length≤32∧sz r3≤4096∧t.2.length=t.1∧Q5 (J06 x1) t.2∧sz t.2≤4096) (fun r:(((List Qa)))=>r.length=r3.2.2.2.2.2.length∧Q5 (J06 x1) r∧sz r≤4096)
@[instance]abbrev Q8z{x0 x1 x2}:=mkW (E1.eq_1 N x0 x1 x2) (x1.2.2.2.length≤32∧x0.length≤32∧sz x0≤4096∧Q5 (fun p:Qm=>p.2.2.2.2.2.length≤32) x0) (fun r=>r.1.length=r.2.length∧r.2.length≤32∧Q5 (J06 x1) r.2∧sz r.2≤4096)
@[instance]abbrev Jhj{x0}:=mkW (Hw.eq_1 N x0) (sz x0≤1000000000000) (fun r=>r.1=x0.1∧r.2.1=x0.2.1∧r.2.2.1=x0.2.2.1∧r.2.2.2.1=x0.2.2.2.1∧r.2.2.2.2.1=x0.2.2.2.2.1∧r.2.2.2.2.2.1=x0.2.2.2.2.2.2.1∧r.2.2.2.2.2.2.1=x0.2.2.2.2.2.2.2.1∧r.2.2.2.2.2.2.2.1=x0.2.2.2.2.2.2.2.2.1∧r.2.2.2.2.2.2.2.2.1=x0.2.2.2.2.2.2.2.2.2.1∧r.2.2.2.2.2.2.2.2.2.1=x0.2.2.2.2.2.2.2.2.2.2∧r.2.2.2.2.2.2.2.2.2.2=x0.2.2.2.2.2.1)
@[instance]abbrev Q2m{x0}{s}:=upL (N:=N) (s:=s) (Iu.eq_def N x0) (fun t=>t.1) x0.length (fun t=>sz x0≤1000000000000∧t.2=x0.take t.1.toNat∧x0.length≤1000000000000) (fun r:(((List Qa)))=>r=x0) (step:=by
  intro s h h0 h1 h2 hw
  try simp only[sS,reduceCtorEq]at *
  repeat' (first | intro _ | apply And.intro)
  all_goals first | ((repeat cases ‹_∧_›); first | grind [Yz,Vr,Zp.deep]) | exact lv)
@[instance]abbrev Jab{x0}:=mkW (Wf.eq_1 N x0) (sz x0≤1000000000000) (fun r=>r=x0)
@[instance]abbrev Q2n{x0}:=mkW (Vg.eq_1 N x0) (sz x0≤1000000000000) (fun r=>r=x0) (k:=by
  intro h
  try simp only[sS,reduceCtorEq]at *
  repeat' (first | intro _ | apply And.intro)
  all_goals first | ((repeat cases ‹_∧_›); first | (subst_vars; rfl) | exact Prod.ext (by assumption) rfl) | exact lv)
@[instance]abbrev Q80{x0 x1}{s}:=upL (N:=N) (s:=s) (Po.eq_def N x0 x1) (fun t=>t) x0.length (fun t=>x0.length≤1000000000000) (fun r:((Unit)⊕(Int))=>True)
@[instance]abbrev Jhk{x0 x1}:=mkW (I6.eq_1 N x0 x1) (x0.length≤1000000000000) (fun r=>True)
@[instance]abbrev Jac{x0 x1}:=mkW (A4.eq_1 N x0 x1) (x0.length≤1000000000000) (fun r=>True)
@[instance]abbrev Q55{x0 x1}:=mkW (Ky.eq_1 N x0 x1) (True) (fun r=>True)
@[instance]abbrev Q81{x0 x1}:=mkW (E2.eq_1 N x0 x1) (True) (fun r=>True)
@[instance]abbrev Jfw{x0 x1 x2}:=mkW (Co.eq_1 N x0 x1 x2) (sz x1≤4096) (fun r=>r.1=x1.1∧r.2.1=x1.2.1∧r.2.2.2.2.2.2.2.2.2.2.length≤4096)
@[instance]abbrev Q82{x0 x1}{s}:=upL (N:=N) (s:=s) (Pp.eq_def N x0 x1) (fun t=>t) x0.length (fun t=>x0.length≤1000000000000) (fun r:((Int))=>0≤r∧r≤x0.length)
@[instance]abbrev Jhl{x0 x1}:=mkW (Hx.eq_1 N x0 x1) (x0.length≤999999999999∧sz x0≤1000000000000∧sz x1≤4096) (fun r=>r.length≤x0.length+1∧sz r≤1000000000000∧Vs (Jkc x1) x0 r)
@[instance]abbrev Q2o{x0 x1 x2}{s}:=upL (N:=N) (s:=s) (I7.eq_def N x0 x1 x2) (fun t=>t) x0.length (fun t=>x0.length≤999999999999∧sz x0≤1000000000000∧sz x1≤4096∧x0.length≤1000000000000) (fun r:((Unit)⊕((List Qa)))=>∀t,r=.inr t→t.length≤x0.length+1∧sz t≤1000000000000∧Vs (Jkc x1) x0 t)
@[instance]abbrev Jad{x0 x1 x2}:=mkW (A5.eq_1 N x0 x1 x2) (x0.length≤999999999999∧sz x0≤1000000000000∧sz x1≤4096) (fun r=>r.length≤x0.length+1∧sz r≤1000000000000∧Vs (Jkc x1) x0 r)
@[instance]abbrev Q01{r107 x4 r106}{s}:=upL (N:=N) (s:=s) (Dw.eq_def N r107 x4 r106) (fun t=>t.1) r107.length (fun t=>r107.length≤32∧sz r107≤4096∧r106.length=r107.length∧0≤s.1∧s.2.1.length≤999999999900∧t.2.1.length≤s.2.1.length+(t.1 - s.1)∧sz t.2.1≤1000000000000∧Vs (OfB r107) s.2.1 t.2.1∧t.2.2.1=s.2.2.1∧t.2.2.2=s.2.2.2∧r107.length≤4096) (fun r:(((List Qa)×(List Qd)×(List Qc)))=>r.1.length≤s.2.1.length+32∧sz r.1≤1000000000000∧Vs (OfB r107) s.2.1 r.1∧r.2.1=s.2.2.1∧r.2.2=s.2.2.2) (step:=by
  intro s h h0 h1 h2 hw;have g0:=(fun b hb=>Nat.le_trans (Qhg hb) h.2.1:∀b∈r107,sz b≤4096)
  exact lw)
@[instance]abbrev Q02{r9 r10 v34 x1 x4}{s}:=upL (N:=N) (s:=s) (Dy.eq_def N r9 r10 v34 x1 x4) (fun t=>t.1) r9.length (fun t=>r9.length≤1024∧Q5 (fun h:Qt=>h.2.2.2.length≤32) r9∧0≤v34∧v34<r10.length∧x1.length≤32∧sz x1≤4096∧Q5 (fun p:Qm=>p.2.2.2.2.2.length≤32) x1∧0≤s.1∧s.2.1.length≤999999900000∧t.2.1.length≤s.2.1.length+32*(t.1 - s.1)∧sz t.2.1≤1000000000000∧Vs (OfH r9) s.2.1 t.2.1∧t.2.2.1=s.2.2.1∧t.2.2.2=s.2.2.2∧x1.length≤4096) (fun r:(((List Qa)×(List Qd)×(List Qc)))=>r.1.length≤s.2.1.length+32768∧sz r.1≤1000000000000∧Vs (OfH r9) s.2.1 r.1∧r.2.1=s.2.2.1∧r.2.2=s.2.2.2) (step:=by
  intro s h h0 h1 h2 hw;have g0:=(fun p hp=>h.2.1.all p hp:∀p∈r9,p.2.2.2.length≤32)
  exact lw)
@[instance]abbrev Q03{r10 r9 x1 x4}{s}:=upL (N:=N) (s:=s) (Dz.eq_def N r10 r9 x1 x4) (fun t=>t.1) r10.length (fun t=>r10.length≤146097∧r9.length≤1024∧Q5 (fun h:Qt=>h.2.2.2.length≤32) r9∧x1.length≤32∧sz x1≤4096∧Q5 (fun p:Qm=>p.2.2.2.2.2.length≤32) x1∧0≤s.1∧s.2.1.length≤900000000000∧t.2.1.length≤s.2.1.length+32768*(t.1 - s.1)∧sz t.2.1≤1000000000000∧Vs (OfH r9) s.2.1 t.2.1∧t.2.2.1=s.2.2.1∧t.2.2.2=s.2.2.2∧x1.length≤4096) (fun r:(((List Qa)×(List Qd)×(List Qc)))=>r.1.length≤s.2.1.length+4787306496∧sz r.1≤1000000000000∧Vs (OfH r9) s.2.1 r.1∧r.2.1=s.2.2.1∧r.2.2=s.2.2.2)
@[instance]abbrev Q83{x0 x1 x2 x3 x4}:=mkW (E3.eq_1 N x0 x1 x2 x3 x4) (EvV N x0∧x1.length≤32∧sz x1≤4096∧Q5 (fun p:Qm=>p.2.2.2.2.2.length≤32) x1∧x2.1.length≤900000000000∧sz x2≤1000000000000) (fun r=>r.1.length≤x2.1.length+4787306496∧sz r.1≤1000000000000∧Vs (Jyg x0 x3) x2.1 r.1∧r.2.1=x2.2.1∧r.2.2=x2.2.2) (k:=by
  intro h;have g0:=Jom h
  exact lw)
@[instance]abbrev Q84{x0 x1 x2}:=mkW (Ey.eq_1 N x0 x1 x2) (x0.length≤32) (fun r=>True)
@[instance]abbrev Q0o{ca x1}{s}:=Qrg (N:=N) (s:=s) (Bo.eq_def N ca x1) ca (ca.length≤1000000000001) (fun y=>y.1≠x1) (∀y∈ca,y.1≠x1) (fun u=>0≤u∧u<ca.length∧∃a∈ca,a.1=x1)
@[instance]abbrev Q56{x1 ca}:=mkW (Uq.eq_1 N x1 ca) (ca.length≤1000000000001) (fun r => -1≤r∧r<ca.length∧(0≤r→∃a∈ca,a.1=x1)∧(r<0→∀a∈ca,a.1≠x1))
@[instance]abbrev Q04{ca x1}{s}:=upL (N:=N) (s:=s) (Dt.eq_def N ca x1) (fun t=>t) ca.length (fun t=>ca.length≤1000000000001) (fun r:((Int))=>0≤r∧r≤ca.length)
@[instance]abbrev Q85{x1 ca}:=mkW (Ez.eq_1 N x1 ca) (ca.length≤1000000000001) (fun r=>r.2.length≤ca.length+1∧∃a∈r.2,a.1=x1.1) (k:=by
  intro h
  try simp only[sS,reduceCtorEq]at *
  repeat' (first | intro _ | apply And.intro)
  all_goals first | ((repeat cases ‹_∧_›); first | exact⟨x1,by simp,rfl⟩) | exact lv)
@[instance]abbrev Jfx{x0}:=mkW (Yi.eq_1 N x0) (True) (fun r=>r=true → -1125899906842624≤x0∧x0≤1125899906842624)
@[instance]abbrev Jfy{x0}:=mkW (U3.eq_1 N x0) (True) (fun r=>True)
@[instance]abbrev Jfz{x0}:=mkW (Gs.eq_1 N x0) (True) (fun r=>True)
@[instance]abbrev Jae{x0 x1}:=mkW (Aw.eq_1 N x0 x1) (True) (fun r=>True)
@[instance]abbrev Jf0{x0 x1}:=mkW (Ck.eq_1 N x0 x1) (True) (fun r=>True)
@[instance]abbrev Jf1{x0 x1}:=mkW (Cl.eq_1 N x0 x1) (True) (fun r=>True)
@[instance]abbrev Q05{x0 x2 x25 x3}{s}:=upL (N:=N) (s:=s) (Du.eq_def N x0 x2 x25 x3) (fun t=>t.1) x0.length (fun t=>x0.length≤32) (fun r:((Qd))=>True)
@[instance]abbrev Q86{x0 x1 x2 x3}:=mkW (E0.eq_1 N x0 x1 x2 x3) (x0.length≤32∧sz x1≤1000000000000) (fun r=>r.1=x1.1∧r.2.1.length≤x1.2.1.length+1∧r.2.2=x1.2.2)
@[instance]abbrev Jhm{x0}:=mkW (Hz.eq_1 N x0) (True) (fun r=>True)
@[instance]abbrev Jf2{x0 x1}:=mkW (Cv.eq_1 N x0 x1) (True) (fun r=>True)
@[instance]abbrev Jkf{x0 x1 x2 x3}:=mkW (Oc.eq_1 N x0 x1 x2 x3) (sz x0≤1000000000000) (fun r=>r.2.2.1=x0.1∧r.2.2.2.1.length=x0.2.1.length∧r.2.2.2.2=x0.2.2)
@[instance]abbrev Jaf{x0 x1}:=mkW (A6.eq_1 N x0 x1) (True) (fun r=>True)
@[instance]abbrev Q2p{x0 v3 v4}{s}:=mkL (N:=N) (s:=s) (I8.eq_def N x0 v3 v4) (fun t=>t.toNat) (fun t=>x0.length≤1000000000000∧0≤v3∧v3<x0.length∧Q5 (fun i:Int=>0≤i∧i<(x0.length:Int)) v4∧v4.length≤1000000000000∧0≤t∧t≤v4.length) (fun r:((Int))=>0≤r∧r≤v4.length) (step:=by
  intro s h;have g0:=(fun i hi=>h.2.2.2.1.all i hi:∀i∈v4,0≤i∧i<(x0.length:Int))
  exact lw)
@[instance]abbrev Q2q{x0}{s}:=upL (N:=N) (s:=s) (I9.eq_def N x0) (fun t=>t.1) x0.length (fun t=>x0.length≤1000000000000∧Q5 (fun i:Int=>0≤i∧i<(x0.length:Int)) t.2∧(t.2.length:Int)=t.1) (fun r:(((List Int)))=>r.length=x0.length∧Q5 (fun i:Int=>0≤i∧i<(x0.length:Int)) r)
@[instance]abbrev Jag{x0}:=mkW (A7.eq_1 N x0) (x0.length≤1000000000000) (fun r=>r.length=x0.length∧Q5 (fun i:Int=>0≤i∧i<(x0.length:Int)) r)
@[instance]abbrev Jah{x0 x1 x2 x3 x4 x5 x6}:=mkW (A8.eq_1 N x0 x1 x2 x3 x4 x5 x6) (x0.2.2.2.2.2.1.length≤1000000000000) (fun r=>True)
@[instance]abbrev Q87{r2 x1 x2 x3 x4 x5 x6}{s}:=upL (N:=N) (s:=s) (Pq.eq_def N r2 x1 x2 x3 x4 x5 x6) (fun t=>t.2.1) r2.length (fun t=>r2.length≤1000000000000∧Q5 (fun i:Int=>0≤i∧i<(t.2.2.1.length:Int)) r2∧sz t.2.2.1≤1000000000000∧Vs NoB s.2.2.1 t.2.2.1∧t.2.2.1.length=s.2.2.1.length∧t.2.2.2.length≤t.2.1) (fun r:((Int×(List Qa)×(List Q8)))=>Vs NoB s.2.2.1 r.2.1∧sz r.2.1≤1000000000000∧r.2.1.length=s.2.2.1.length) (step:=by
  intro s h h0 h1 h2 hw;have g0:=(fun i hi=>h.2.1.all i hi:∀i∈r2,0≤i∧i<(s.2.2.1.length:Int)); have g1:=J9m h.2.2.1
  exact lw)
@[instance]abbrev Jhn{x0 x1 x2 x3 x4 x5 x6 x7}:=mkW (La.eq_1 N x0 x1 x2 x3 x4 x5 x6 x7) (sz x0≤1000000000000) (fun r=>Vs NoB x0 r.2.1∧sz r.2.1≤1000000000000∧r.2.1.length=x0.length)
@[instance]abbrev Jf3{x0 x1 x2 x3}:=mkW (Cp.eq_1 N x0 x1 x2 x3) (sz x0≤1000000000000) (fun r=>Vs NoB x0.1 r.2.1∧sz r.2.1≤1000000000000∧r.2.1.length=x0.1.length∧r.2.2.1=x0.2.1∧r.2.2.2.1=x0.2.2)
@[instance]abbrev Jho{x0 x1}:=mkW (Xn.eq_1 N x0 x1) (True) (fun r=>True)
@[instance]abbrev Jf4{x0 x1}:=mkW (Vx.eq_1 N x0 x1) (True) (fun r=>True)
@[instance]abbrev Jf5{x0}:=mkW (Gw.eq_1 N x0) (True) (fun r=>True)
@[instance]abbrev Jai{x0}:=mkW (Z4.eq_1 N x0) (True) (fun r=>True)
@[instance]abbrev Jaj{x0 x1 x2 x3}{s}:=upL (N:=N) (s:=s) (Sd.eq_def N x0 x1 x2 x3) (fun t=>t.1) x0.length (fun t=>x0.length≤1000000000) (fun r:((Qc)⊕(Qc))=>True)
@[instance]abbrev Jkg{x0 x1 x2 x3}:=mkW (F7.eq_1 N x0 x1 x2 x3) (x0.length≤1000000000) (fun r=>True)
@[instance]abbrev Q57{x0}{s}:=upL (N:=N) (s:=s) (M4.eq_def N x0) (fun t=>t) x0.length (fun t=>x0.length≤1000000000) (fun r:((Unit)⊕(Bool))=>True)
@[instance]abbrev Jf6{x0}:=mkW (Cw.eq_1 N x0) (x0.length≤1000000000) (fun r=>True)
@[instance]abbrev Jak{x0 r6 x1}{s}:=upL (N:=N) (s:=s) (Sf.eq_def N x0 r6 x1) (fun t=>t.1) x0.length (fun t=>x0.length≤1000000000∧t.2.length≤t.1) (fun r:(((List Qc)))=>r.length≤x0.length)
@[instance]abbrev Jal{x0 r6 x1}{s}:=upL (N:=N) (s:=s) (Sg.eq_def N x0 r6 x1) (fun t=>t.1) x0.length (fun t=>x0.length≤1000000000∧0≤s.1∧s.2.length≤1000000001∧t.2.length≤s.2.length+(t.1 - s.1)) (fun r:(((List Qc)))=>r.length≤s.2.length+x0.length)
@[instance]abbrev Jkh{x0 x1}:=mkW (Od.eq_1 N x0 x1) (x0.length≤1000000000) (fun r=>r.2.length≤2*x0.length+1)
@[instance]abbrev Q2r{x0 x1}:=mkW (Gr.eq_1 N x0 x1) (List.length x0≤9223372036854775807∧List.length x1≤9223372036854775807) (fun r=>True)
@[instance]abbrev Q06{x0 v3 x1}{s}:=mkL (N:=N) (s:=s) (Dr.eq_def N x0 v3 x1) (fun t=>(9223372036854775807 - t.2.2).toNat) (fun t=>sz x0≤9223372036854775807∧Sh.sh x0∧Sh.sh x1∧List.length x1≤9223372036854775807∧0≤v3∧v3<x0.length∧0≤t.2.2∧x0.length≤9223372036854775807) (fun r:((Str×Int))=>True) (step:=by
  intro s h
  try simp only[sS,reduceCtorEq]at *
  repeat' (first | intro _ | apply And.intro)
  all_goals first | ((repeat cases ‹_∧_›); first | exact Qlg (by grind)) | exact lv)
@[instance]abbrev Q07{x0 x1}{s}:=upL (N:=N) (s:=s) (Ds.eq_def N x0 x1) (fun t=>t.2.2) x0.length (fun t=>sz x0≤9223372036854775807∧Sh.sh x0∧Sh.sh x1∧List.length x1≤9223372036854775807∧x0.length≤9223372036854775807) (fun r:((Str))=>True)
@[instance]abbrev Q88{x0 x1}:=mkW (Ew.eq_1 N x0 x1) (sz x0≤9223372036854775807∧Sh.sh x0∧Sh.sh x1∧List.length x1≤9223372036854775807) (fun r=>True)
@[instance]abbrev Jhp{x0 x1}:=mkW (Hv.eq_1 N x0 x1) (sz x0≤9223372036854775807∧Sh.sh x0∧Sh.sh x1∧List.length x1≤9223372036854775807) (fun r=>True)
@[instance]abbrev Q89{x0}:=mkW (E4.eq_1 N x0) (True) (fun r=>0≤x0∧x0<146097→0≤r∧r≤6)
@[instance]abbrev Jam{x0 x1}{s}:=upL (N:=N) (s:=s) (R8.eq_def N x0 x1) (fun t=>t) x0.length (fun t=>x0.length≤4096) (fun r:((Unit)⊕(Int))=>∀u,r=.inr u→u=7)
@[instance]abbrev Jki{x0 x1}:=mkW (N6.eq_1 N x0 x1) (x0.length≤4096) (fun r=>0≤x1∧x1<146097→0≤r∧r≤7)
@[instance]abbrev Q58{x0 v2 r1 x2}{s}:=mkL (N:=N) (s:=s) (Mu.eq_def N x0 v2 r1 x2) (fun t=>(9223372036854775807 - t).toNat) (fun t=>1≤x0.length∧sz x0≤4096∧0≤v2∧v2<x0.length∧0≤r1∧0≤t∧x0.length≤4096) (fun r:((Unit)⊕(Str))=>True)
@[instance]abbrev Q59{x0 r1 x2}{s}:=upL (N:=N) (s:=s) (Mv.eq_def N x0 r1 x2) (fun t=>t) x0.length (fun t=>1≤x0.length∧sz x0≤4096∧0≤r1∧x0.length≤4096) (fun r:((Unit)⊕(Str))=>True)
@[instance]abbrev Jf7{x0 x1 x2}:=mkW (Gt.eq_1 N x0 x1 x2) (1≤x0.length∧sz x0≤4096∧x1.length≤4096∧0≤x2∧x2<12622780800) (fun r=>True) (k:=by
  intro h;have g0:=(fun a=>by rw[QU (by omega),Q9 (by omega) (by omega)]:0≤x2∧x2≤12622780799→IntKind.wrap .i64 (Int.tdiv x2 86400)=x2 / 86400); have g1:=(atW (l:=x0))
  exact lw)
@[instance]abbrev Jop{x0 x1 x2}:=mkW (B9.eq_1 N x0 x1 x2) (sz x0≤4096∧Sh.sh x0∧x1.length≤4096) (fun r=>True)
@[instance]abbrev Q08{x0 v14 v6}{s}:=mkL (N:=N) (s:=s) (D0.eq_def N x0 v14 v6) (fun t=>(9223372036854775807 - t.2).toNat) (fun t=>sz x0≤4096∧0≤v14∧v14<x0.length∧0≤t.2∧x0.length≤4096) (fun r:((Bool))=>True)
@[instance]abbrev Q09{x0 v6}{s}:=upL (N:=N) (s:=s) (D1.eq_def N x0 v6) (fun t=>t.2) x0.length (fun t=>sz x0≤4096∧x0.length≤4096) (fun r:((Bool))=>True)
@[instance]abbrev Q1a{x0}{s}:=upI (N:=N) (s:=s) (D2.eq_def N x0) (fun t=>t.1) ((1440:Int)) (fun t=>sz x0≤4096∧t.2.length≤t.1∧t.1≤1440∧x0.length≤4096) (fun r:(((List Int)))=>r.length≤1440)
@[instance]abbrev Q9a{x0}:=mkW (E5.eq_1 N x0) (sz x0≤4096) (fun r=>r.length≤1440)
@[instance]abbrev Jan{r5 v11 x2 x0 x1}{s}:=upL (N:=N) (s:=s) (R9.eq_def N r5 v11 x2 x0 x1) (fun t=>t.1) r5.length (fun t=>1≤x0.length∧sz x0≤4096∧x1.length≤4096∧r5.length≤1440∧0≤x2.1∧x2.2≤12622780800∧0≤s.1∧s.2.length≤1000000000∧t.2.length≤s.2.length+(t.1 - s.1)∧x0.length≤4096) (fun r:(((List Ym)))=>r.length≤s.2.length+1440) (step:=by
  intro s h h0 h1 h2 hw
  try simp only[sS,reduceCtorEq]at *
  repeat' (first | intro _ | apply And.intro)
  all_goals first | ((repeat cases ‹_∧_›); first | assumption | omega | (split at*<;> split at*<;> omega)) | exact lv)
@[instance]abbrev Jao{x2 r5 x0 x1}{s}:=mkL (N:=N) (s:=s) (Sa.eq_def N x2 r5 x0 x1) (fun t=>(146100 - t.1).toNat) (fun t=>1≤x0.length∧sz x0≤4096∧x1.length≤4096∧r5.length≤1440∧0≤x2.1∧x2.2≤12622780800∧0≤s.1∧0≤t.1∧t.1≤146098∧s.1≤t.1∧t.2.length≤1440*(t.1 - s.1)∧x0.length≤4096) (fun r:(((List Ym)))=>r.length≤210381120) (step:=by
  intro s h;have g0:=(fun a=>Q9 (by omega) (by omega):0≤s.1∧s.1≤146098→IntKind.wrap .i64 (s.1*86400)=s.1*86400); have g1:=(fun a=>Q9 (by omega) (by omega):0≤s.1∧s.1≤146098→IntKind.wrap .i64 (s.1+1)=s.1+1)
  exact lw)
@[instance]abbrev Jkj{x0 x1 x2}:=mkW (N7.eq_1 N x0 x1 x2) (sz x0≤4096∧Sh.sh x0∧x1.length≤4096) (fun r=>r.length≤210381120) (k:=by
  intro h;have g0:=(fun a=>by rw[QU (by omega),Q9 (by omega) (by omega)]:0≤x2.1∧x2.1≤12622780799→IntKind.wrap .i64 (Int.tdiv x2.1 86400)=x2.1 / 86400)
  exact lw)
@[instance]abbrev Jap{x0 x1}:=mkW (A9.eq_1 N x0 x1) (True) (fun r=>True)
@[instance]abbrev Jaq{r7}{s}:=upL (N:=N) (s:=s) (Sc.eq_def N r7) (fun t=>t.1) r7.length (fun t=>r7.length≤210381120∧t.2.length≤t.1) (fun r:(((List Qj)))=>r.length≤210381120)
@[instance]abbrev Jkk{x0 x1 x2 x3}:=mkW (N8.eq_1 N x0 x1 x2 x3) (sz x0≤4096∧Sh.sh x0.2.2.2.2.1∧x1.length≤4096) (fun r=>r.length≤210381120)
@[instance]abbrev Jhq{x0 x1}:=mkW (Lb.eq_1 N x0 x1) (sz x0≤4096∧Sh.sh x0.2.2.2.1∧Sh.sh x1.2.2.2.2.2.1∧List.length x1.2.2.2.2.2.1≤9223372036854775807) (fun r=>True)
@[instance]abbrev Q9b{x0 x1 x2 x3}{s}:=upL (N:=N) (s:=s) (Pr.eq_def N x0 x1 x2 x3) (fun t=>t.1) x0.2.2.2.2.2.1.length (fun t=>sz x0≤4096∧x0.2.2.2.2.2.1.length≤4096) (fun r:((Int×Str×Str×Int)⊕(Bool×Ji))=>∀t,r=.inr t→t.2.2.2.2.2.length≤4096)
@[instance]abbrev Jhr{x0 x1 x2 x3}:=mkW (Lc.eq_1 N x0 x1 x2 x3) (sz x0≤4096) (fun r=>r.1.2.2.2.2.length≤4096)
@[instance]abbrev Jar{x0 x1 x2}:=mkW (Ba.eq_1 N x0 x1 x2) (True) (fun r=>True)
@[instance]abbrev Jhs{x0 x1}:=mkW (Ld.eq_1 N x0 x1) (1≤x0.2.1) (fun r=>True)
@[instance]abbrev Q6a{x0 x1}{s}:=upL (N:=N) (s:=s) (Mx.eq_def N x0 x1) (fun t=>t.2.2) x0.length (fun t=>x0.length≤4096∧Q5 (fun s:Yu=>1≤s.2.1) x0) (fun r:((Int))=>True) (step:=by
  intro s h h0 h1 h2 hw;have g0:=(fun s hs=>h.2.all s hs:∀s∈x0,1≤s.2.1)
  exact lw)
@[instance]abbrev Jf8{x0 x1}:=mkW (Gu.eq_1 N x0 x1) (x0.length≤4096) (fun r=>True)
@[instance]abbrev Q9c{x0 x1 x2}:=mkW (E6.eq_1 N x0 x1 x2) (x0.length≤4096) (fun r=>True)
@[instance]abbrev Q6b{r1 x0 x2}{s}:=upL (N:=N) (s:=s) (My.eq_def N r1 x0 x2) (fun t=>t.2.2.2.1) r1.length (fun t=>r1.length≤210381120∧sz x0≤4096∧Sh.sh x0.2.2.2.1∧Sh.sh x2.2.2.2.2.2.1∧List.length x2.2.2.2.2.2.1≤9223372036854775807∧t.2.2.2.2.length≤t.2.2.2.1) (fun r:((Int×Int×(List Qj))⊕(Int×Int))=>∀t,r=.inl t→t.2.2.length≤210381120)
@[instance]abbrev Jf9{x0 x1 x2 x3}:=mkW (Cr.eq_1 N x0 x1 x2 x3) (sz x0≤4096∧Sh.sh x0.2.2.2.1∧Sh.sh x0.2.2.2.2.1∧x1.length≤4096∧Sh.sh x2.2.2.2.2.2.1∧List.length x2.2.2.2.2.2.1≤9223372036854775807) (fun r=>r.2.2.length≤210381120)
theorem J5n{α τ:Type}{f:Int→Option (Int⊕τ)}{l:List α}(g:Nat→α→Option τ)(E:τ)(hl:l.length≤9223372036854775806)
  (h:∀(i:Nat) (hi:i<l.length),f (i:Int)=some (match g i l[i]with | some t=>.inr t | none=>.inl (IntKind.wrap .i64 ((i:Int)+1)))) (he:f (l.length:Int)=some (.inr E)) :
  ∀(k i n:Nat),l.length=i+k→k<n→∃r,Qf f n (i:Int)=some r∧((∀(j:Nat) (hj:j<l.length),i≤j→g j l[j]=none)∧r=E∨∃(j:Nat) (hj:j<l.length),i≤j∧g j l[j]=some r∧∀(q:Nat) (hq:q<l.length),i≤q→q<j→g q l[q]=none)
 | 0,i,n,hk,hn=>by
  obtain⟨m,rfl⟩:∃m,n=m+1:=⟨n - 1,by omega⟩
  have hi:i=l.length:=by omega
  subst hi;exact⟨E,by simp[Qf,he],.inl ⟨fun j hj hij=>by omega,rfl⟩⟩
 | k+1,i,n,hk,hn=>by
  obtain⟨m,rfl⟩:∃m,n=m+1:=⟨n - 1,by omega⟩
  have hlt:i<l.length:=by omega
  have hf:=h i hlt;cases hg:g i l[i]with
  | some t =>
   rw[hg]at hf;exact⟨t,by simp[Qf,hf],.inr ⟨i,hlt,QY _,hg,fun q hq h1 h2=>by omega⟩⟩
  | none =>
   rw[hg]at hf;simp only at hf;rw[Q9 (n:=(i:Int)+1) (by omega) (by omega)]at hf;obtain⟨r,e,hr⟩:=J5n g E hl h he k (i+1) m (by omega) (by omega);refine⟨r,by simp only[Qf,hf,QJ]; exact e,?_⟩;rcases hr with⟨h1,h2⟩ | ⟨j,hj,h1,h2,h3⟩
   ·exact .inl ⟨fun j hj hij=>by
     by_cases e:j=i
     ·subst e; exact hg
     ·exact h1 j hj (by omega),h2⟩
   ·exact .inr ⟨j,hj,by omega,h2,fun q hq h4 h5=>by
     by_cases e:q=i
     ·subst e; exact hg
     ·exact h3 q hq (by omega) h5⟩
theorem J7b{α:Type}{b:Nat}{l m:List α}(h:(l.length+m.length)*b≤140737488355328):app b l m=some (l++m):=by unfold app; rw[if_pos h]
theorem J5o{N:Nat}[hN:Kb N]{l:List Str}{x:Str}(hl:l.length≤1000000000000):Kg N l x=some (l.any fun y=>y==x):=by
 have hB:=hN.le
 obtain⟨r,e,hr⟩:=J5n (f:=Ul N l x) (l:=l) (fun i y=>if y==x then some (.inr true)else none) (.inl ()) (by omega) (fun i hi=>by
  unfold Ul;rw[if_pos (decide_eq_true (by omega)),G8 hi,QJ]
  cases l[i]==x<;>rfl) (by
  unfold Ul
  rw[if_neg (fun h=>by have:=of_decide_eq_true h; omega)]) l.length 0 N (by omega) (by omega)
 have e':Qf (Ul N l x) N 0=some r:=e;unfold Kg;rw[e',QJ];rcases hr with⟨h1,rfl⟩ | ⟨j,hj,_,h2,_⟩
 ·have:(l.any fun y=>y==x)=false:=by
   refine List.any_eq_false.2 fun y hy=>?_;obtain⟨j,hj,rfl⟩:=List.mem_iff_getElem.1 hy;have:=h1 j hj (QN _);cases hb:l[j]==x with
   | true=>rw[hb]at this; simp at this
   | false=>simp
  rw[this]
 ·cases hb:l[j]==x with
  | false=>rw[hb]at h2; simp at h2
  | true =>
   rw[hb]at h2;simp only[if_true,Option.some.injEq]at h2;subst h2;have:(l.any fun y=>y==x)=true:=ZF.2 ⟨l[j],JH hj,hb⟩;rw[this]
theorem Jyl{N:Nat}[hN:Kb N](x:Str):Vh N x=some (atr x):=by
 unfold Vh;rw[J5o (by decide),J5o (by decide),←Q0f (N:=N),Yf.eq_1];simp only[List.any_cons,List.any_nil,KV,QJ]
 by_cases h1:x=[107,105,110,100]
 ·subst h1; rfl
 by_cases h2:x=[117,110,105,116,115]
 ·subst h2; rfl
 by_cases h3:x=[119,101,101,107,100,97,121]
 ·subst h3; rfl
 by_cases h4:x=[109,105,110,117,116,101]
 ·subst h4; rfl
 by_cases h5:x=[116,111,116,97,108]
 ·subst h5; rfl
 by_cases h6:x=[115,112,101,110,116]
 ·subst h6; rfl
 by_cases h7:x=[122,111,110,101]
 ·subst h7; rfl
 by_cases h8:x=[98,97,110,100]
 ·subst h8; rfl
 have q:∀y:Str,x≠y→(y==x)=false∧(x==y)=false:=fun y h=>⟨beq_eq_false_iff_ne.2 fun e=>h e.symm,beq_eq_false_iff_ne.2 h⟩
 simp only[(q _ h1).1,(q _ h2).1,(q _ h3).1,(q _ h4).1,(q _ h5).1,(q _ h6).1,(q _ h7).1,(q _ h8).1,(q _ h1).2,(q _ h2).2,(q _ h3).2,(q _ h4).2,(q _ h5).2,(q _ h6).2,(q _ h7).2,(q _ h8).2,KV,QG,if_false,QJ]
theorem J09{N:Nat}(x:Int):Kr N x=Yy N x:=by
 unfold Kr Yy
 by_cases h1:x=1∨x=2∨x=3
 ·rcases h1 with rfl | rfl | rfl<;>rfl
 ·have e1:(decide (x≥1)&&decide (x≤3))=false:=by
   rw[Bool.and_eq_false_iff]; simp only[decide_eq_false_iff_not]; omega
  have e2:((x==1)||(x==2)||(x==3))=false:=by
   simp only[JO,beq_eq_false_iff_ne]; omega
  rw[e1,e2]
theorem J1a{N:Nat}[hN:Kb N]{K x:Int}:Kw N K [x]=some (!(decide (x<0)||decide (x>K))):=by
 obtain⟨M,rfl⟩:∃M,N=M+2:=⟨N - 2,by have:=hN.le; omega⟩
 unfold Kw;simp only[Qf];unfold Lu;rw[if_pos (by rfl),show idx [x] 0=some x from rfl,QJ];cases decide (x<0)||decide (x>K)<;>rfl
section
variable {N:Nat}
theorem J81{e:Ql}{a:Int}(h:e.x.1=4):((Yc N e [a]).bind fun r10=>if(r10==0)=true then some ((0:Int),(7:Int))else some (r10,0))=(V2 N e.x.1 [a,0]).bind fun w12=>some (w12.1,w12.2):=by
 unfold Yc V2;rw[h]
 by_cases ha:a=3
 ·subst ha; rfl
 ·simp[idx,ha]
theorem J82{e:Ql}{a b:Int}(h:4<e.x.1):((Yc N e [a,b]).bind fun r10=>if(r10==0)=true then some ((0:Int),(7:Int))else some (r10,0))=(V2 N e.x.1 [a,b]).bind fun w12=>some (w12.1,w12.2):=by
 unfold Yc V2;have n1:(e.x.1==1)=false:=beq_eq_false_iff_ne.2 (by omega);have n2:(e.x.1==2)=false:=beq_eq_false_iff_ne.2 (by omega);have n3:(e.x.1==3)=false:=beq_eq_false_iff_ne.2 (by omega);have n4:(e.x.1==4)=false:=beq_eq_false_iff_ne.2 (by omega);have i0:idx [a,b] 0=some a:=rfl;have i1:idx [a,b] 1=some b:=rfl;simp only[n1,n2,n3,n4,i0,i1,QJ,QG,if_false]
 by_cases hab:a=b
 ·subst hab
  have ne:(a != a)=false:=by simp
  rw[ne];simp only[QG,if_false,beq_self_eq_true,Bool.true_and,KK];cases(e.x.1==5)<;>cases(e.x.1==6)<;>cases(e.x.1==7)<;>cases(e.x.1==8)<;>cases(e.x.1==9)<;>cases(e.x.1==10)<;>by_cases h3:a=3<;>by_cases h4:a=1<;>simp_all
 ·have ne:(a != b)=true:=by simpa using hab
  have e1:((a==3)&&(b==3))=false:=by
   cases h1:a==3<;>cases h2:b==3<;>simp_all
  have e2:((a==1)&&(b==1))=false:=by
   cases h1:a==1<;>cases h2:b==1<;>simp_all
  have e3:(a==b)=false:=beq_eq_false_iff_ne.2 hab;rw[ne,e1,e2,e3];simp only[if_true,KQ,QJ];cases(e.x.1==5)<;>cases(e.x.1==6)<;>cases(e.x.1==7)<;>cases(e.x.1==8)<;>cases(e.x.1==9)<;>cases(e.x.1==10)<;>rfl
variable [hN:Kb N]
theorem Joq:∀(n:Nat) (e:Ql) (d:Int),Jl N n e d=Q3 N n e d
 | 0,e,d=>rfl
 | n+1,e,d=>by
  have hB:=hN.le;have ih:∀x,Jl N n x (IntKind.wrap .i64 (d+1))=Q3 N n x (IntKind.wrap .i64 (d+1)):=fun x=>Joq n x _;unfold Jl Q3 F8;rw[J09];cases hd:decide (d>16)with
  | true=>rfl
  | false =>
   simp only[QG,if_false]
   obtain⟨q,hq⟩:∃q,Yy N e.x.1=some q:=by
    unfold Yy; repeat' split
    all_goals exact⟨_,rfl⟩
   rw[hq];simp only[QJ]
   by_cases hl:(q != (e.ks.length:Int))=true
   ·rw[if_pos hl,if_pos hl]; rfl
   ·rw[if_neg hl,if_neg hl]
    have hl':q=(e.ks.length:Int):=by simpa using hl
    unfold Yy at hq
    by_cases h1:e.x.1=1
    ·have hk:e.ks.length=0:=by
      rw[h1]at hq; simp at hq; omega
     rw[h1,J1a];obtain⟨M,hM⟩:∃M,N=M+1:=⟨N - 1,by omega⟩
     have hloop:Qf (Jw N (Jl N n) e d) N (0,([]:List Int))=some (.inl []):=by
      rw[hM]; simp only[Qf]; unfold Jw;rw[if_neg (by rw[hk]; decide)]; rfl
     rw[hloop];unfold Yc;rw[h1];cases decide (e.x.2.1<0)||decide (e.x.2.1>1099511627776)<;>rfl
    ·by_cases h2:e.x.1=2
     ·have hk:e.ks.length=0:=by
       rw[h2]at hq; simp at hq; omega
      rw[h2];obtain⟨M,hM⟩:∃M,N=M+1:=⟨N - 1,by omega⟩
      have hloop:Qf (Jw N (Jl N n) e d) N (0,([]:List Int))=some (.inl []):=by
       rw[hM]; simp only[Qf]; unfold Jw;rw[if_neg (by rw[hk]; decide)]; rfl
      rw[hloop];unfold Yc;rw[h2];cases decide ((List.length e.x.2.2:Int)>200)<;>rfl
     ·by_cases h3:e.x.1=3
      ·have hk:e.ks.length=0:=by
        rw[h3]at hq; simp at hq; omega
       rw[h3,Jyl,Q0f];obtain⟨M,hM⟩:∃M,N=M+1:=⟨N - 1,by omega⟩
       have hloop:Qf (Jw N (Jl N n) e d) N (0,([]:List Int))=some (.inl []):=by
        rw[hM]; simp only[Qf]; unfold Jw;rw[if_neg (by rw[hk]; decide)]; rfl
       rw[hloop];unfold Yc;rw[h3,Jyl]
       by_cases h0:atr e.x.2.2=0
       ·rw[h0]; rfl
       ·have b0:(atr e.x.2.2==0)=false:=beq_eq_false_iff_ne.2 h0
        have b1:(atr e.x.2.2 != 0)=true:=by simpa using h0
        simp[b0,b1,h0]
      ·have b1:(e.x.1==1)=false:=beq_eq_false_iff_ne.2 h1
       have b2:(e.x.1==2)=false:=beq_eq_false_iff_ne.2 h2;have b3:(e.x.1==3)=false:=beq_eq_false_iff_ne.2 h3;simp only[b1,b2,b3,KQ,QG,if_false,QJ];rw[if_neg (by decide)];obtain⟨M,hM⟩:∃M,N=M+3:=⟨N - 3,by omega⟩
       simp only[b1,b2,b3,Bool.or_self,QG,if_false]at hq
       by_cases h4:e.x.1=4
       ·have hk:e.ks.length=1:=by
         rw[h4]at hq; simp at hq; omega
        have l0:0<e.ks.length:=by omega
        have e0:idx e.ks 0=some e.ks[0]:=G8 (i:=0) l0
        have lA:Qf (Jw N (Jl N n) e d) N (0,([]:List Int))=(Q3 N n (e.ks[0]'(by omega)) (IntKind.wrap .i64 (d+1))).bind fun w=>if(w.2 != 0)=true then some (.inr (0,w.2))else some (.inl [w.1]):=by
         rw[hM]; simp only[Qf]; rw[←hM];unfold Jw;dsimp only;rw[if_pos (decide_eq_true (by omega)),e0,QJ,ih];cases Q3 N n (e.ks[0]'(by omega)) (IntKind.wrap .i64 (d+1))with
         | none=>rfl
         | some w =>
          simp only[QJ];cases w.2 != 0 with
          | true=>rfl
          | false =>
           rw[if_neg (by decide),if_neg (by decide),J7b (by simp),QJ,QJ];dsimp only;rw[show IntKind.wrap .i64 (0+1)=((1:Nat):Int)from rfl,if_neg (fun h=>by have:=of_decide_eq_true h; omega)];rfl
        have lB:Qf (Uo N (Q3 N n) e d) N (0,List.replicate 2 0)=(Q3 N n (e.ks[0]'(by omega)) (IntKind.wrap .i64 (d+1))).bind fun w=>if(w.2 != 0)=true then some (.inr (0,w.2))else some (.inl [w.1,0]):=by
         rw[hM]; simp only[Qf]; rw[←hM];unfold Uo;dsimp only;rw[if_pos (decide_eq_true (by omega)),e0,QJ];cases Q3 N n (e.ks[0]'(by omega)) (IntKind.wrap .i64 (d+1))with
         | none=>rfl
         | some w =>
          simp only[QJ];cases w.2 != 0 with
          | true=>rfl
          | false =>
           rw[if_neg (by decide),if_neg (by decide),show idx (List.replicate 2 (0:Int)) 0=some 0 from rfl,QJ,QJ,QJ];dsimp only;rw[show IntKind.wrap .i64 (0+1)=((1:Nat):Int)from rfl,if_neg (fun h=>by have:=of_decide_eq_true h; omega)];rfl
        rw[lA,lB];cases Q3 N n (e.ks[0]'(by omega)) (IntKind.wrap .i64 (d+1))with
        | none=>rfl
        | some w =>
         simp only[QJ];cases w.2 != 0 with
         | true=>rfl
         | false=>exact J81 h4
       ·have b4:(e.x.1==4)=false:=beq_eq_false_iff_ne.2 h4
        simp only[b4,QG,if_false]at hq
        have hk:e.ks.length=2∧4<e.x.1:=by
         split at hq
         ·rename_i hc
          simp only[QQ,decide_eq_true_eq]at hc;cases Option.some.inj hq; omega
         ·cases Option.some.inj hq; omega
        obtain⟨hk,h5⟩:=hk;have l0:0<e.ks.length:=by omega
        have l1:1<e.ks.length:=by omega
        have e0:idx e.ks 0=some e.ks[0]:=G8 (i:=0) l0;have e1:idx e.ks ((1:Nat):Int)=some e.ks[1]:=G8 (i:=1) l1
        have lA:Qf (Jw N (Jl N n) e d) N (0,([]:List Int))=(Q3 N n (e.ks[0]'(by omega)) (IntKind.wrap .i64 (d+1))).bind fun w=>if(w.2 != 0)=true then some (.inr (0,w.2))else(Q3 N n (e.ks[1]'(by omega)) (IntKind.wrap .i64 (d+1))).bind fun v=>if(v.2 != 0)=true then some (.inr (0,v.2))else some (.inl [w.1,v.1]):=by
         rw[hM]; simp only[Qf]; rw[←hM];unfold Jw;dsimp only;rw[if_pos (decide_eq_true (by omega)),e0,QJ,ih];cases Q3 N n (e.ks[0]'(by omega)) (IntKind.wrap .i64 (d+1))with
         | none=>rfl
         | some w =>
          simp only[QJ];cases w.2 != 0 with
          | true=>rfl
          | false =>
           rw[if_neg (by decide),if_neg (by decide),J7b (by simp),QJ,QJ];dsimp only;rw[show IntKind.wrap .i64 (0+1)=((1:Nat):Int)from rfl,if_pos (decide_eq_true (by omega)),e1,QJ,ih];cases Q3 N n (e.ks[1]'(by omega)) (IntKind.wrap .i64 (d+1))with
           | none=>rfl
           | some v =>
            simp only[QJ];cases v.2 != 0 with
            | true=>rfl
            | false =>
             rw[if_neg (by decide),if_neg (by decide),J7b (by simp),QJ,QJ];dsimp only;rw[show IntKind.wrap .i64 (((1:Nat):Int)+1)=2 from rfl,if_neg (fun h=>by have:=of_decide_eq_true h; omega)];rfl
        have lB:Qf (Uo N (Q3 N n) e d) N (0,List.replicate 2 0)=(Q3 N n (e.ks[0]'(by omega)) (IntKind.wrap .i64 (d+1))).bind fun w=>if(w.2 != 0)=true then some (.inr (0,w.2))else(Q3 N n (e.ks[1]'(by omega)) (IntKind.wrap .i64 (d+1))).bind fun v=>if(v.2 != 0)=true then some (.inr (0,v.2))else some (.inl [w.1,v.1]):=by
         rw[hM]; simp only[Qf]; rw[←hM];unfold Uo;dsimp only;rw[if_pos (decide_eq_true (by omega)),e0,QJ];cases Q3 N n (e.ks[0]'(by omega)) (IntKind.wrap .i64 (d+1))with
         | none=>rfl
         | some w =>
          simp only[QJ];cases w.2 != 0 with
          | true=>rfl
          | false =>
           rw[if_neg (by decide),if_neg (by decide),show idx (List.replicate 2 (0:Int)) 0=some 0 from rfl,QJ,QJ,QJ];dsimp only;rw[show IntKind.wrap .i64 (0+1)=((1:Nat):Int)from rfl,if_pos (decide_eq_true (by omega)),e1,QJ];cases Q3 N n (e.ks[1]'(by omega)) (IntKind.wrap .i64 (d+1))with
           | none=>rfl
           | some v =>
            simp only[QJ];cases v.2 != 0 with
            | true=>rfl
            | false =>
             rw[if_neg (by decide),if_neg (by decide),show idx (List.set (List.replicate 2 (0:Int)) (Int.toNat 0) w.1) ((1:Nat):Int)=some 0 from rfl,QJ,QJ,QJ];dsimp only;rw[show IntKind.wrap .i64 (((1:Nat):Int)+1)=2 from rfl,if_neg (fun h=>by have:=of_decide_eq_true h; omega)];rfl
        rw[lA,lB];cases Q3 N n (e.ks[0]'(by omega)) (IntKind.wrap .i64 (d+1))with
        | none=>rfl
        | some w =>
         simp only[QJ];cases w.2 != 0 with
         | true=>rfl
         | false =>
          simp only[QG,if_false];cases Q3 N n (e.ks[1]'(by omega)) (IntKind.wrap .i64 (d+1))with
          | none=>rfl
          | some v =>
           simp only[QJ];cases v.2 != 0 with
           | true=>rfl
           | false=>exact J82 h5
theorem Jym{e:Ql}:Uh N e=Zf N e:=by
 unfold Uh Zf Rr Lx;rw[Joq]
end
theorem J1b{x:Int}(h : -4611686018427387904≤x∧x≤4611686018427387904):(if(IntKind.wrap .i64 (0 - x))>x then(IntKind.wrap .i64 (0 - x))else x)=(x.natAbs:Int)∧(if(decide (x<0))=true then some (IntKind.wrap .i64 (0 - x))else some x)=some (x.natAbs:Int):=by
 rw[Q9 (by omega) (by omega)];constructor
 ·split<;>omega
 ·by_cases h0:x<0
  ·rw[if_pos (decide_eq_true h0)]; congr 1; omega
  ·rw[if_neg (fun q=>h0 (of_decide_eq_true q))]; congr 1; omega
theorem J7c{N:Nat}{a b:Int}(ha : -4611686018427387904≤a∧a≤4611686018427387904)(hb : -4611686018427387904≤b∧b≤4611686018427387904):Us N a b=G5 N a b:=by
 unfold Us G5 Hy;rw[(J1b ha).1,(J1b hb).1,(J1b ha).2,(J1b hb).2]
 by_cases h0:a=0
 ·subst h0; simp; rfl
 ·have hA:(a.natAbs:Int)≠0:=by omega
  have e1:(a != 0)=true:=by simpa using h0
  have e2:(a==0)=false:=beq_eq_false_iff_ne.2 h0;rw[e1,e2];simp only[if_true,QJ,ZE]
  have q1:Tp .i64 4611686018427387904 (a.natAbs:Int)=some (4611686018427387904 / (a.natAbs:Int)):=by
   unfold Tp;have l1:4611686018427387904 / (a.natAbs:Int)≤4611686018427387904:=XN _ (by omega);have l2:0≤4611686018427387904 / (a.natAbs:Int):=XR (by omega) (by omega);rw[if_neg hA,QU (by omega),Q9 (by omega) (by omega)]
  rw[q1,QJ,QJ]
  by_cases hb0:b=0
  ·subst hb0
   have l2:0≤4611686018427387904 / (a.natAbs:Int):=XR (by omega) (by omega);rw[if_neg (fun q=>by have:=of_decide_eq_true q; omega)];simp; rfl
  ·have hB:(b.natAbs:Int)≠0:=by omega
   have e3:(b==0)=false:=beq_eq_false_iff_ne.2 hb0
   have q2:Tp .i64 4611686018427387904 (b.natAbs:Int)=some (4611686018427387904 / (b.natAbs:Int)):=by
    unfold Tp;have l1:4611686018427387904 / (b.natAbs:Int)≤4611686018427387904:=XN _ (by omega);have l2:0≤4611686018427387904 / (b.natAbs:Int):=XR (by omega) (by omega);rw[if_neg hB,QU (by omega),Q9 (by omega) (by omega)]
   rw[e3,q2];simp only[QG,if_false,QJ]
   have k:((b.natAbs:Int)>4611686018427387904 / (a.natAbs:Int))↔((a.natAbs:Int)>4611686018427387904 / (b.natAbs:Int)):=by
    show(4611686018427387904 / (a.natAbs:Int)<(b.natAbs:Int))↔(4611686018427387904 / (b.natAbs:Int)<(a.natAbs:Int));rw[ZM (by omega),ZM (by omega),Int.mul_comm]
   rw[decide_eq_decide.2 k]
theorem Jrx{n:Nat}{e:Ql}(h:Y5 (n+1) e 1)(h1:e.x.1=1):0≤e.x.2.1∧e.x.2.1≤1099511627776:=by
 rw[Y5]at h;rcases h with h | h | h | ⟨h2,_⟩
 ·exact⟨h.2.2.2.1,h.2.2.2.2⟩
 ·omega
 ·omega
 ·omega
section
variable {N:Nat} [hN:Kb N]
theorem Q9d:∀(n m:Nat) (e:Ql) (v:Yh),m≤n→Y5 m e 1→Vo N n e v=Ua N n e v
 | n,0,e,v,hm,h=>h.elim
 | 0,m+1,e,v,hm,h=>by omega
 | n+1,m+1,e,v,hm,h=>by
  unfold Vo Ua
  by_cases h1:e.x.1=1
  ·have hr:=Jrx h h1
   rw[if_pos (beq_iff_eq.2 h1),if_pos (beq_iff_eq.2 h1)];unfold Gh;rw[if_neg (by simp only[JZ,decide_eq_true_eq]; omega)];rfl
  ·rw[if_neg (fun q=>h1 (beq_iff_eq.1 q)),if_neg (fun q=>h1 (beq_iff_eq.1 q))]
   by_cases h3:e.x.1=3
   ·rw[if_pos (beq_iff_eq.2 h3),if_pos (beq_iff_eq.2 h3)]
    rfl
   ·rw[if_neg (fun q=>h3 (beq_iff_eq.1 q)),if_neg (fun q=>h3 (beq_iff_eq.1 q))]
    obtain⟨h4,h5,hl,hK⟩:=((Qtp h).resolve_left h1).resolve_left h3;have l0:(0:Nat)<e.ks.length:=by omega
    have l1:(1:Nat)<e.ks.length:=by omega
    have t0:=hK.all 0 _ (List.getElem?_eq_getElem l0) (by omega);have t1:=hK.all 1 _ (List.getElem?_eq_getElem l1) (by omega);have e0:idx e.ks 0=some e.ks[0]:=G8 (i:=0) l0;have e1:idx e.ks 1=some e.ks[1]:=G8 (i:=1) l1;obtain⟨a,ea,ha⟩:=Xf (N:=N) n m _ v (by omega) t0;obtain⟨b,eb,hb⟩:=Xf (N:=N) n m _ v (by omega) t1;unfold X7;rw[e0,e1];simp only[QJ];rw[Q9d n m _ v (by omega) t0,Q9d n m _ v (by omega) t1,ea,eb];simp only[QJ];cases hc:(!a.2)||(!b.2)with
    | true=>rfl
    | false =>
     have ha':=ha (by simp at hc; exact hc.1);have hb':=hb (by simp at hc; exact hc.2);simp only[QG,if_false]
     by_cases q11:e.x.1=11
     ·rw[q11]; rfl
     by_cases q12:e.x.1=12
     ·rw[q12]; rfl
     by_cases q13:e.x.1=13
     ·rw[q13]
      show(Us N a.1 b.1).bind _=(G5 N a.1 b.1).bind _;rw[J7c ha' hb']
     ·rw[if_neg (fun q=>q11 (beq_iff_eq.1 q)),if_neg (fun q=>q12 (beq_iff_eq.1 q)),if_neg (fun q=>q13 (beq_iff_eq.1 q)),if_neg (fun q=>q12 (beq_iff_eq.1 q)),if_neg (fun q=>q11 (beq_iff_eq.1 q)),if_neg (fun q=>q13 (beq_iff_eq.1 q))]
      simp only[QJ]
      by_cases hb0:b.1=0
      ·rw[if_pos (beq_iff_eq.2 hb0),if_pos (beq_iff_eq.2 hb0)]
      ·rw[if_neg (fun q=>hb0 (beq_iff_eq.1 q)),if_neg (fun q=>hb0 (beq_iff_eq.1 q))]
       have n1:=ZW a.1 b.1;have n2:(a.1.tmod b.1).natAbs≤a.1.natAbs:=by rw[Int.natAbs_tmod]; exact Nat.mod_le _ _
       unfold Gh Tp Qrq;rw[if_neg hb0,if_neg hb0,Q9 (by omega) (by omega)];cases e.x.1==14<;>simp only[QG,if_false,if_true,QJ]<;>rw[if_neg (by simp only[JZ,decide_eq_true_eq]; omega)]<;>rfl
theorem Jyn{n m:Nat}{e:Ql}{d:Int}{r:Int×Int}(h:Y5 m e 1)(hr:Q3 N n e d=some r):r.1≠2:=by
 cases m with
 | zero=>exact h.elim
 | succ m =>
  have hk:(e.x.1=1)∨(e.x.1=3∧atr e.x.2.2=1)∨10<e.x.1:=by
   rw[Y5]at h;rcases h with h | h | h | ⟨h1,h2,k0,k1,h3,h4,h5⟩
   ·exact .inl h.1
   ·exact absurd h.2.2.2 (by decide)
   ·exact .inr (.inl ⟨h.1,h.2.2.1.symm⟩)
   ·refine .inr (.inr ?_)
    clear h3 h4; omega
  clear h;cases n with
  | zero=>cases hr
  | succ n =>
   unfold Q3 at hr;split at hr
   ·cases hr; decide
   ·simp only[Option.bind_eq_some_iff]at hr
    obtain⟨q,_,hr⟩:=hr;split at hr
    ·cases hr; decide
    ·split at hr
     ·simp only[Option.bind_eq_some_iff]at hr
      obtain⟨_,_,hr⟩:=hr;split at hr<;>(cases hr; decide)
     ·rename_i h1
      have h1:¬ e.x.1=1:=fun k=>h1 (beq_iff_eq.2 k);split at hr
      ·rename_i h2
       have:=beq_iff_eq.1 h2;omega
      ·split at hr
       ·rename_i h3
        have h3:=beq_iff_eq.1 h3;rw[Q0f,QJ]at hr;have ha:atr e.x.2.2=1:=by omega
        rw[ha]at hr;cases hr; decide
       ·rename_i h3
        have h3:¬ e.x.1=3:=fun k=>h3 (beq_iff_eq.2 k);simp only[Option.bind_eq_some_iff]at hr;obtain⟨w,hw,hr⟩:=hr;cases w with
        | inl l =>
         simp only[Option.bind_eq_some_iff]at hr;obtain⟨c,hc,hr⟩:=hr;cases Option.some.inj hr;unfold V2 at hc;have n4:(e.x.1==4)=false:=beq_eq_false_iff_ne.2 (by omega);have n5:(e.x.1==5)=false:=beq_eq_false_iff_ne.2 (by omega);have n6:(e.x.1==6)=false:=beq_eq_false_iff_ne.2 (by omega);have n7:(e.x.1==7)=false:=beq_eq_false_iff_ne.2 (by omega);have n8:(e.x.1==8)=false:=beq_eq_false_iff_ne.2 (by omega);have n9:(e.x.1==9)=false:=beq_eq_false_iff_ne.2 (by omega);have n10:(e.x.1==10)=false:=beq_eq_false_iff_ne.2 (by omega);simp only[n4,n5,n6,n7,n8,n9,n10,QG,if_false,QJ]at hc;simp only[Option.bind_eq_some_iff]at hc;obtain⟨_,_,x2,_,_,_,x3,_,hc⟩:=hc;split at hc<;>(cases Option.some.inj hc; decide)
        | inr w =>
         cases Option.some.inj hr
         have:=Q5z (P:=fun r:List Int⊕(Int×Int)=>∀w,r=.inr w→w.1=0) (f:=Uo N (Q3 N n) e d) (fun s r h=>by
          unfold Uo at h;split at h
          ·simp only[Option.bind_eq_some_iff]at h
           obtain⟨_,_,w,_,h⟩:=h;split at h
           ·cases h; intro w e; cases e; rfl
           ·simp only[Option.bind_eq_some_iff]at h
            obtain⟨_,_,_,_,h⟩:=h;cases h
          ·cases h; intro w e; cases e) _ _ _ hw w rfl
         rw[this]; decide
theorem Jyo{m:Nat}{e:Ql}{r:Int×Int}(h:Y5 m e 1)(hr:Zf N e=some r):r.1≠2:=by
 unfold Zf Lx at hr;simp only[Option.bind_eq_some_iff]at hr;obtain⟨w,hw,hr⟩:=hr;cases Option.some.inj hr;exact Jyn h hw
theorem J7d{m:Nat}{e:Ql}{v:Yh}{k:Int}(hs:sz e≤4096)(hm:m≤N)(h2:e.ks.length=2)(h6:6<e.x.1)(hk:k=1∨(k=2∧(e.x.1=7∨e.x.1=8)))(hK:Q8p m e k):((Zt N e v).bind fun r14=>some r14)=(Af N e v).bind fun w10=>if(!w10.2)=true then some false else if(e.x.1==7)=true then some (w10.1==0)else if(e.x.1==8)=true then some (w10.1 != 0)else if(e.x.1==9)=true then some (decide (w10.1<0))else some (decide (w10.1≤0)):=by
 have l0:(0:Nat)<e.ks.length:=by omega
 have l1:(1:Nat)<e.ks.length:=by omega
 have e0:idx e.ks 0=some e.ks[0]:=G8 (i:=0) l0;have e1:idx e.ks 1=some e.ks[1]:=G8 (i:=1) l1;have t0:=hK.all 0 _ (List.getElem?_eq_getElem l0) (by omega);have t1:=hK.all 1 _ (List.getElem?_eq_getElem l1) (by omega);have s0:sz e.ks[0]≤4096:=Nat.le_trans (Qhg (JH l0)) (Nat.le_trans Qhi hs)
 have cmp:∀x:Int,Ur N e.x.1 x=some (if(e.x.1==7)=true then(x==0)else if(e.x.1==8)=true then(x != 0)else if(e.x.1==9)=true then(decide (x<0))else(decide (x≤0))):=fun x=>by
  unfold Ur;cases e.x.1==7<;>cases e.x.1==8<;>cases e.x.1==9<;>rfl
 unfold Zt Af;simp only[e0,e1,QJ,Jym (N:=N)];rcases hk with rfl | ⟨rfl,hk⟩
 ·obtain⟨w,ew,_⟩:=(Qbl (N:=N) (x0:=e.ks[0])).spec (fun _=>True) ⟨s0,fun _ _=>trivial⟩
  have hw:=Jyo (N:=N) t0 ew;have q0:=Q9d (N:=N) N m _ v hm t0;have q1:=Q9d (N:=N) N m _ v hm t1;obtain⟨a,ea,_⟩:=Xf (N:=N) N m _ v hm t0;obtain⟨b,eb,_⟩:=Xf (N:=N) N m _ v hm t1;unfold Bb Qce;rw[ew,q0,q1,ea,eb];simp only[QJ];rw[if_neg (fun q=>hw (beq_iff_eq.1 q)),if_neg (fun q=>hw (beq_iff_eq.1 q))];cases(!a.2)||(!b.2)with
  | true=>rfl
  | false =>
   simp only[QG,if_false,cmp,QJ];rcases XX a.1 b.1 with hlt | heq | hgt
   ·rw[decide_eq_true hlt,decide_eq_false (by omega:¬ a.1>b.1)]
    cases e.x.1==7<;>cases e.x.1==8<;>cases e.x.1==9<;>rfl
   ·rw[decide_eq_false (by omega:¬ a.1<b.1),decide_eq_false (by omega:¬ a.1>b.1)]
    cases e.x.1==7<;>cases e.x.1==8<;>cases e.x.1==9<;>rfl
   ·rw[decide_eq_false (by omega:¬ a.1<b.1),decide_eq_true hgt]
    cases e.x.1==7<;>cases e.x.1==8<;>cases e.x.1==9<;>rfl
 ·simp only[Q5v (N:=N) t0,QJ,beq_self_eq_true,if_true]
  obtain⟨a,ea⟩:∃a,Hj N e.ks[0] v=some a:=by
   unfold Hj; repeat' split
   all_goals exact⟨_,rfl⟩
  obtain⟨b,eb⟩:∃a,Hj N e.ks[1] v=some a:=by
   unfold Hj; repeat' split
   all_goals exact⟨_,rfl⟩
  rw[show Xo N e.ks[0] v=Hj N e.ks[0] v from rfl,show Xo N e.ks[1] v=Hj N e.ks[1] v from rfl,ea,eb];simp only[QJ,Go.Proofs.bytesLess_eq]
  by_cases hab:a=b
  ·subst hab
   rw[decide_eq_false (List.lt_irrefl a)];simp only[beq_self_eq_true,if_true,Bool.or_true,Bool.not_true,QG,if_false,QJ,cmp];rcases hk with hk | hk<;>rw[hk]<;>rfl
  ·have e3:(a==b)=false:=beq_eq_false_iff_ne.2 hab
   rw[e3];cases decide (a<b)<;>simp only[QG,if_false,if_true,KV,Bool.not_true,KJ,QJ,cmp]<;>rcases hk with hk | hk<;>rw[hk]<;>rfl
theorem Q9e{n:Nat}{e:Ql}(h:Y5 (n+1) e 3)(h6:6<e.x.1):e.ks.length=2∧∃k,(k=1∨(k=2∧(e.x.1=7∨e.x.1=8)))∧Q8p n e k:=by
 rw[Y5]at h;rcases h with h | h | h | ⟨h1,h2,k0,k1,h3,h4,h5⟩
 ·omega
 ·omega
 ·omega
 ·rcases h5 with h5 | ⟨h5,h7 | h7 | h7 | h7⟩
  ·omega
  ·obtain⟨h7,_⟩:=h7; omega
  ·obtain⟨h8,rfl,h9,_⟩:=h7
   have hl:(0:Nat)<e.ks.length:=by omega
   have:=Q0g (h3 _ (List.getElem?_eq_getElem hl));exact⟨h5,k0,by omega,Qmc h3 h4⟩
  ·obtain⟨h8,rfl,rfl,_⟩:=h7
   exact⟨h5,1,.inl rfl,Qmc h3 h4⟩
  ·exact absurd h7.2.2.2 (by decide)
theorem Jga:∀(n m:Nat) (e:Ql) (v:Yh),m≤n→m≤N→sz e≤4096→Y5 m e 3→Jh N n e v=Jp N n e v
 | n,0,e,v,hm,_,_,h=>h.elim
 | 0,m+1,e,v,hm,_,_,h=>by omega
 | n+1,m+1,e,v,hm,hN',hs,h=>by
  have hks:sz e.ks≤4096:=Nat.le_trans Qhi hs;have h3:=Qur h;unfold Jh Jp
  by_cases q3:e.x.1=3
  ·rw[if_pos (beq_iff_eq.2 q3),if_pos (beq_iff_eq.2 q3)]
  rw[if_neg (fun q=>q3 (beq_iff_eq.1 q)),if_neg (fun q=>q3 (beq_iff_eq.1 q))]
  have kid:∀(i:Nat) (hi:i<e.ks.length) (t:Y5 m e.ks[i] 3),(idx e.ks (i:Int)).bind (fun x=>Jh N n x v)=Vu N (Jp N n) i e v∧∃r,Vu N (Jp N n) i e v=some r:=fun i hi t=>by
   have se:=Nat.le_trans (Qhg (JH hi)) hks;obtain⟨r,er,_⟩:=Qbm (N:=N) n m _ v (by omega) (by omega) se t;unfold Vu;rw[G8 hi,QJ,QJ,Jga n m _ v (by omega) (by omega) se t,er];exact⟨rfl,r,rfl⟩
  have kb:∀{β:Type} (i:Int) (f:Bool→Option β),((idx e.ks i).bind fun x=>(Jh N n x v).bind f)=((idx e.ks i).bind (fun x=>Jh N n x v)).bind f:=fun i f=>by rw[ZH]
  by_cases q4:e.x.1=4
  ·rw[if_pos (beq_iff_eq.2 q4),if_pos (beq_iff_eq.2 q4)]
   have hl:0<e.ks.length∧∀a,e.ks[0]?=some a→Y5 m a 3:=by
    rcases h3 with h | h | h | h
    ·omega
    ·exact⟨by omega,h.2.2⟩
    ·obtain⟨h,_⟩:=h; omega
    ·obtain⟨h,_⟩:=h; omega
   have:=(kid 0 hl.1 (hl.2 _ (List.getElem?_eq_getElem hl.1))).1;rw[kb];exact congrArg (fun o:Option Bool=>o.bind fun r=>some (!r)) this
  rw[if_neg (fun q=>q4 (beq_iff_eq.1 q)),if_neg (fun q=>q4 (beq_iff_eq.1 q))]
  have h56:e.x.1=5∨e.x.1=6→∃(l0:0<e.ks.length) (l1:1<e.ks.length),Y5 m e.ks[0] 3∧Y5 m e.ks[1] 3:=fun q=>by
   rcases h3 with h | h | h | h
   ·omega
   ·obtain⟨h,_⟩:=h; omega
   ·obtain⟨_,hl,hK⟩:=h
    exact⟨by omega,by omega,hK.all 0 _ (List.getElem?_eq_getElem (by omega)) (by omega),hK.all 1 _ (List.getElem?_eq_getElem (by omega)) (by omega)⟩
   ·obtain⟨h,_⟩:=h; omega
  by_cases q5:e.x.1=5
  ·rw[if_pos (beq_iff_eq.2 q5),if_pos (beq_iff_eq.2 q5)]
   obtain⟨l0,l1,t0,t1⟩:=h56 (.inl q5);obtain⟨k0,r0,e0⟩:=kid 0 l0 t0;obtain⟨k1,r1,e1⟩:=kid 1 l1 t1;simp only[kb];rw[show((0:Nat):Int)=0 from rfl]at k0 e0;rw[show((1:Nat):Int)=1 from rfl]at k1 e1;rw[k0,k1,e0,e1];cases r0<;>rfl
  rw[if_neg (fun q=>q5 (beq_iff_eq.1 q)),if_neg (fun q=>q5 (beq_iff_eq.1 q))]
  by_cases q6:e.x.1=6
  ·rw[if_pos (beq_iff_eq.2 q6),if_pos (beq_iff_eq.2 q6)]
   obtain⟨l0,l1,t0,t1⟩:=h56 (.inr q6);obtain⟨k0,r0,e0⟩:=kid 0 l0 t0;obtain⟨k1,r1,e1⟩:=kid 1 l1 t1;simp only[kb];rw[show((0:Nat):Int)=0 from rfl]at k0 e0;rw[show((1:Nat):Int)=1 from rfl]at k1 e1;rw[k0,k1,e0,e1];cases r0<;>rfl
  rw[if_neg (fun q=>q6 (beq_iff_eq.1 q)),if_neg (fun q=>q6 (beq_iff_eq.1 q))]
  have hop:6<e.x.1:=by
   rcases h3 with h | h | h | h
   ·omega
   ·obtain⟨h,_⟩:=h; omega
   ·obtain⟨h,_⟩:=h; omega
   ·exact h.1
  obtain⟨hl,k,hk,hK⟩:=Q9e h hop;exact J7d hs (by omega) hl hop hk hK
theorem J1c{e:Ql}{v:Yh}(hs:sz e≤4096):Ks N e v=Qa1 N e v:=by
 unfold Ks Qa1 M2 Qdd;rw[Jym (N:=N)];obtain⟨w,ew,ht⟩:=(Qbl (N:=N) (x0:=e)).spec _ ⟨hs,fun r h=>h⟩;rw[ew,QJ,QJ]
 by_cases h0:w.2=0
 ·by_cases h3:w.1=3
  ·have t:=ht h0
   rw[h3]at t;rw[Jga N N e v (QY _) (QY _) hs t,if_pos (by simp[h0,h3]),if_neg (by simp[h0,h3])];cases Jp N N e v<;>rfl
  ·rw[if_neg (by simp[h3]),if_pos (by simp[h3])]; rfl
 ·rw[if_neg (by simp[h0]),if_pos (by simp[h0])]; rfl
end
@[instance]abbrev Jkl{x0 x1 x2 x3 x4}:=mkW (N9.eq_1 N x0 x1 x2 x3 x4) (True) (fun r=>True)
@[instance]abbrev Jgb{x0:Ql}{x1:Yh}:WP (Ks N x0 x1) (fun R=>sz x0≤4096∧∀r:Bool,True→R r):=Bk fun h=>by
 rw[J1c h];exact(Q8q (N:=N) (x0:=x0) (x1:=x1)).spec _ ⟨h,fun _ _=>trivial⟩
@[instance]abbrev Q2s{x0 x1 x2}{s}:=mkL (N:=N) (s:=s) (Lf.eq_def N x0 x1 x2) (fun t=>(t.2.2+1).toNat) (fun t=>x2=10000 ∧ -1≤t.2.2∧t.2.2≤50) (fun r:((Int×Int))=>True) (step:=by
  intro s h;have g0:=(fun a=>J9l a:0≤s.2.2∧s.2.2≤50→IntKind.wrap .u64 s.2.2=s.2.2)
  exact lw)
@[instance]abbrev Jas{x0 x1 x2}:=mkW (Bc.eq_1 N x0 x1 x2) (x2=10000) (fun r=>True)
theorem Jry{N:Nat}[hN:Kb N]:∀(n:Nat) (a b:Int),0≤a→0<n→W (Ys N n a b 10000) fun _=>True
 | 0,a,b,ha,hn=>by omega
 | n+1,a,b,ha,hn=>by
  unfold Ys;have:∀x,WP (Ys N n x b 10000) (fun R=>False∧∀r:Int×Int,True→R r):=fun x=>Bk fun h=>h.elim;refine wp ?_
  try simp only[sS,reduceCtorEq]at *
  repeat' (first | intro _ | apply And.intro)
  all_goals first | assumption | omega | grind
theorem J1d{N:Nat}[hN:Kb N](a b:Int):W (Gv N a b 10000) fun _=>True:=by
 obtain⟨M,rfl⟩:∃M,N=M+2:=⟨N - 2,by have:=hN.le; omega⟩
 unfold Gv Ys;have:WP (Ys (M+2) (M+1) (IntKind.wrap .i64 (0 - a)) b 10000) (fun R=>(0≤IntKind.wrap .i64 (0 - a))∧∀r:Int×Int,True→R r):=Bk fun h=>Jry (M+1) _ b h (by omega);have hw : -1125899906842624≤a∧a≤1125899906842624→a<0→0≤IntKind.wrap .i64 (0 - a):=fun h1 h2=>by rw[Q9 (by omega) (by omega)]; omega
 refine wp ?_
 try simp only[sS,reduceCtorEq]at *
 repeat' (first | intro _ | apply And.intro)
 all_goals first | assumption | omega | exact hw (by grind) (by assumption) | grind
@[instance]abbrev Jgc{x0 x1 x2:Int}:WP (Gv N x0 x1 x2) (fun R=>x2=10000∧∀r:Int×Int,True→R r):=Bk fun h=>by rw[h]; exact J1d x0 x1
@[instance]abbrev Q9f{x0 x1}:=mkW (E7.eq_1 N x0 x1) (True) (fun r=>True)
@[instance]abbrev Q6c{x0 x1}{s}:=upL (N:=N) (s:=s) (M3.eq_def N x0 x1) (fun t=>t.2.1) x0.length (fun t=>sz x0≤4096∧x0.length≤4096∧t.2.2.length≤t.2.1) (fun r:((Int×(List Qy))⊕(Int×Int))=>True)
@[instance]abbrev Jgd{x0 x1 x2}:=mkW (Cu.eq_1 N x0 x1 x2) (sz x0≤4096) (fun r=>True)
@[instance]abbrev Q6d{x0}{s}:=mkL (N:=N) (s:=s) (Mz.eq_def N x0) (fun t=>(x0.2.2.2.2.2.2.1.length - t.2).toNat) (fun t=>x0.2.2.2.2.2.2.1.length≤210381120∧0≤t.2∧t.2≤x0.2.2.2.2.2.2.1.length) (fun r:((Int))=>True)
@[instance]abbrev Jge{x0}:=mkW (Cs.eq_1 N x0) (x0.2.2.2.2.2.2.1.length≤210381120) (fun r=>True)
@[instance]abbrev Jgf{x0 x1 x2}{s}:=upL (N:=N) (s:=s) (Qac.eq_def N x0 x1 x2) (fun t=>t.2.1) x0.length (fun t=>x0.length≤4096∧sz x0≤4096∧Sh.sh x0∧sz t.2.2≤4096∧Sh.sh t.2.2) (fun r:((Bool×Qn))=>sz r.2≤4096∧Sh.sh r.2)
@[instance]abbrev Jor{x0 x1 x2}:=mkW (Rp.eq_1 N x0 x1 x2) (sz x0≤4096∧Sh.sh x0) (fun r=>sz r.1≤4096∧Sh.sh r.1)
@[instance]abbrev Jat{x0}:=mkW (Av.eq_1 N x0) (True) (fun r=>True)
@[instance]abbrev Q6e{x0}{s}:=upL (N:=N) (s:=s) (Mg.eq_def N x0) (fun t=>t.1) x0.1.length (fun t=>sz x0.1≤1000000000000∧t.2.1=x0.1.take t.1.toNat∧t.2.2.1=s.2.2.1∧t.2.2.2=s.2.2.2) (fun r:(((List Qa)×(List Qd)×(List Qc)))=>r.1=x0.1∧r.2.1=s.2.2.1∧r.2.2=s.2.2.2) (step:=by
  intro s h h0 h1 h2 hw
  try simp only[sS,reduceCtorEq]at *
  repeat' (first | intro _ | apply And.intro)
  all_goals first | ((repeat cases ‹_∧_›); first | grind [Yz,Vr,Zp.deep]) | exact lv)
@[instance]abbrev Qlo{x0}:=mkW (Vc.eq_1 N x0) (sz x0≤1000000000000) (fun r=>r=x0)
@[instance]abbrev Jau{x0 x1 x2}:=mkW (Bd.eq_1 N x0 x1 x2) (X9 x0∧EvV N x0.1∧Xu x2∧x1.1.length≤900000000000∧sz x1≤1000000000000∧x1.2.1.length≤1000000000∧x1.2.2.length≤1000000000) (fun r=>r.1.length≤x1.1.length+4787306496∧sz r.1≤1000000000000∧Vs (Jyg x0.1 x2.2.2.1) x1.1 r.1∧r.2.1.length≤x1.2.1.length+1∧r.2.2.1.length≤2*x1.2.2.length+1) (k:=by
  intro h;have g0:=h.1.tarL; have g1:=h.1.tarS; have g2:=h.1.prodL; have g3:=h.1.prodS; have g4:=h.1.prodO; have g5:=h.1.hol; have g6:=h.2.1.len; have g7:=h.2.2.1.to_; have g8:=h.2.2.1.toS
  exact lw)
@[instance]abbrev Qpf{x0 x1 x2}:=mkW (Ww.eq_1 N x0 x1 x2) (X9 x0∧EvV N x0.1∧Xu x2∧x1.1.length≤900000000000∧sz x1≤1000000000000∧x1.2.1.length≤1000000000∧x1.2.2.length≤1000000000) (fun r=>r.1.length≤x1.1.length+4787306496∧sz r.1≤1000000000000∧Vs (Jyg x0.1 x2.2.2.1) x1.1 r.1∧r.2.1.length≤x1.2.1.length+1∧r.2.2.1.length≤2*x1.2.2.length+1)
abbrev J7e:Type:=(List Qa)×(List Qd)×(List Qc)×Qh×Int×Str×Int×Str×Int×Int×Int×Int×Int×(List Q8)×(List Qj)×(List Qy)
def Qnv(N:Nat)(s:Qv)(u:Qh)(e:Int):Option J7e:=(Qag N s).bind fun w=>some (w.1,w.2.1,w.2.2,u,e,[],0,[],0,0,0,0,0,[],[],[])
def J7f(N:Nat)(b:Q7)(s:Qv)(u:Qh):Option J7e :=
 if u.2.2.2.2.2.2.2.2.2.1||(u.2.2.2.2.2.2.2.1==0)then Qnv N s u 0 else
 (Ln N b.1 u.2.2.2.1 u.2.2.2.2.2.2.1).bind fun sp=>if !sp.2 then Qnv N s u 11 else
 (Lp N b.1 u.2.2.2.1 u.2.2.2.2.2.2.1).bind fun cs=>if cs.1.2.1 != u.2.2.1 then Qnv N s u 11 else if sp.1.2.2.2.1 then Qnv N s u 16 else
 (Wz N b.1 cs.1.2.1 u.2.2.2.2.2.2.1).bind fun ac =>
 (Qej N b.2.1 sp.1.2.1 u.2.2.2.2.2.2.1).bind fun tf=>if !tf.2.2.2.1 then Qnv N s u 18 else
 (Of N tf.2.2.2.2.1 u.2.2.2.2.2.1).bind fun z =>
 (Hd N b.1 s u.2.2.1 u.2.2.2.2.2.2.1).bind fun w1 =>
 (Fg N b.1 b.2.2.1 (w1.1,w1.2.1,w1.2.2) u.2.2.1 u.2.2.2.2.2.2.1).bind fun w4 =>
 (Bw N (w4.1,w4.2.1,w4.2.2) u z.1 sp.1.2.2.2.2).bind fun w7 =>
 (Bx N (tf.1,tf.2.1,tf.2.2.1,tf.2.2.2.2.1,tf.2.2.2.2.2.1,tf.2.2.2.2.2.2.1,tf.2.2.2.2.2.2.2) b.2.2.2.2.1 u (IntKind.wrap .i64 (u.2.2.2.2.2.2.2.1 - w7.1))).bind fun p=>if p.2.1 != 0 then Qnv N s u p.2.1 else
 (Qf (H9 N p.2.2) N (p.1,0)).bind fun g=>if decide (g>1125899906842624)then Qnv N s u 6 else
 (Fh N ac.1.2.2.1 u.2.2.2.2.2.2.1).bind fun cy =>
 (P1 N w7.2.2.2.1 u.2.2.2.1 u.2.1 cy.1).bind fun c =>
 (Qew N tf.2.2.2.2.2.1 b.2.2.2.2.1 u.2.2.2.2.2.2.1).bind fun bd =>
 (Ae N u z.1 bd c sp.1.2.2.2.2).bind fun en =>
 (Fi N tf.2.2.2.2.2.2.2 en g).bind fun d=>if d.2.1 != 0 then Qnv N s u d.2.1 else
 (P3 N (w7.2.1,w7.2.2.1,w7.2.2.2.1) u.2.2.1 d.1 ac.1.2.2.2.1).bind fun y =>
 (P4 N y.2.2.2.2 (u.2.2.2.1,u.2.1,cy.1,u.2.2.2.2.2.2.2.1,d.1)).bind fun k=>if k.1 != 0 then Qnv N s u k.1 else
 some (y.2.2.1,y.2.2.2.1,k.2,u,0,tf.1,tf.2.1,z.1,p.1,g,d.1,y.1,y.2.1,w7.2.2.2.2,p.2.2,d.2.2)
theorem e11:(((11:Int)==0)=true)=False:=by decide
theorem e16:(((16:Int)==0)=true)=False:=by decide
theorem e18:(((18:Int)==0)=true)=False:=by decide
theorem e6:(((6:Int)==0)=true)=False:=by decide
theorem e0:(((0:Int)==0)=true)=True:=by decide
theorem n0:(((0:Int) != 0)=true)=False:=by decide
theorem n11:(((11:Int) != 0)=true)=True:=by decide
theorem n16:(((16:Int) != 0)=true)=True:=by decide
theorem n18:(((18:Int) != 0)=true)=True:=by decide
theorem n6:(((6:Int) != 0)=true)=True:=by decide
theorem J7g{N:Nat}{b:Q7}{s:Qv}{u:Qh}:Lz N b s u=J7f N b s u:=by
 unfold Lz J7f
 by_cases c0:(u.2.2.2.2.2.2.2.2.2.1||(u.2.2.2.2.2.2.2.1==0))=true
 ·rw[if_pos c0,if_pos c0]; rfl
 ·rw[if_neg c0,if_neg c0]
  simp only[Qge,Qgd,H6,e0,if_true];cases h1:Ln N b.1 u.2.2.2.1 u.2.2.2.2.2.2.1 with
  | none=>rfl
  | some sp =>
   simp only[QJ];cases h2:sp.2 with
   | false =>
    simp only[KJ,if_true,QJ,X5,Kc,Ub,Vq,e11,n11,if_false];rfl
   | true =>
    simp only[Bool.not_true,QG,if_false];cases h3:Lp N b.1 u.2.2.2.1 u.2.2.2.2.2.2.1 with
    | none=>rfl
    | some cs =>
     simp only[QJ]
     by_cases c1:(cs.1.2.1 != u.2.2.1)=true
     ·rw[if_pos c1,if_pos c1]
      simp only[QJ,X5,Kc,Ub,Vq,e11,n11,if_false,if_true];rfl
     ·rw[if_neg c1,if_neg c1]
      by_cases c2:sp.1.2.2.2.1=true
      ·rw[if_pos c2,if_pos c2]
       simp only[QJ,X5,Kc,Ub,Vq,e16,n16,if_false,if_true];rfl
      ·rw[if_neg c2,if_neg c2]
       cases h4:Wz N b.1 cs.1.2.1 u.2.2.2.2.2.2.1 with
       | none=>rfl
       | some ac =>
        simp only[QJ,X5,Qgh,Aa,e0,if_true];cases h5:Qej N b.2.1 sp.1.2.1 u.2.2.2.2.2.2.1 with
        | none=>rfl
        | some tf =>
         simp only[QJ];cases c3:tf.2.2.2.1 with
         | false =>
          simp only[KJ,if_true,QJ,Kc,Ub,Vq,e18,n18,if_false];rfl
         | true =>
          simp only[Bool.not_true,QG,if_false];cases h6:Of N tf.2.2.2.2.1 u.2.2.2.2.2.1 with
          | none=>rfl
          | some z =>
           simp only[QJ,Kc,Qgs,Lt,e0,if_true];cases h7:Hd N b.1 s u.2.2.1 u.2.2.2.2.2.2.1 with
           | none=>rfl
           | some w1 =>
            simp only[QJ];cases h8:Fg N b.1 b.2.2.1 (w1.1,w1.2.1,w1.2.2) u.2.2.1 u.2.2.2.2.2.2.1 with
            | none=>rfl
            | some w4 =>
             simp only[QJ];cases h9:Bw N (w4.1,w4.2.1,w4.2.2) u z.1 sp.1.2.2.2.2 with
             | none=>rfl
             | some w7 =>
              simp only[QJ,Lw];cases h10:Bx N (tf.1,tf.2.1,tf.2.2.1,tf.2.2.2.2.1,tf.2.2.2.2.2.1,tf.2.2.2.2.2.2.1,tf.2.2.2.2.2.2.2) b.2.2.2.2.1 u (IntKind.wrap .i64 (u.2.2.2.2.2.2.2.1 - w7.1))with
              | none=>rfl
              | some p =>
               simp only[QJ]
               by_cases c4:(p.2.1 != 0)=true
               ·rw[if_pos c4,if_pos c4]
                have q:((p.2.1==0)=true)=False:=by simpa using c4
                have q2:((p.2.1 != 0)=true)=True:=by simpa using c4
                simp only[QJ,Ub,Vq,q,q2,if_false,if_true];rfl
               ·rw[if_neg c4,if_neg c4]
                cases h11:Qf (H9 N p.2.2) N (p.1,0)with
                | none=>rfl
                | some g =>
                 simp only[QJ]
                 by_cases c5:decide (g>1125899906842624)=true
                 ·rw[if_pos c5,if_pos c5]
                  simp only[QJ,Ub,Vq,e6,n6,if_false,if_true];rfl
                 ·rw[if_neg c5,if_neg c5]
                  simp only[QJ,Ub,Qgu,G6,W6,e0,if_true];cases h12:Fh N ac.1.2.2.1 u.2.2.2.2.2.2.1 with
                  | none=>rfl
                  | some cy =>
                   simp only[QJ];cases h13:P1 N w7.2.2.2.1 u.2.2.2.1 u.2.1 cy.1 with
                   | none=>rfl
                   | some c =>
                    simp only[QJ];cases h14:Qew N tf.2.2.2.2.2.1 b.2.2.2.2.1 u.2.2.2.2.2.2.1 with
                    | none=>rfl
                    | some bd =>
                     simp only[QJ];cases h15:Ae N u z.1 bd c sp.1.2.2.2.2 with
                     | none=>rfl
                     | some en =>
                      simp only[QJ];cases h16:Fi N tf.2.2.2.2.2.2.2 en g with
                      | none=>rfl
                      | some d =>
                       simp only[QJ]
                       by_cases c6:(d.2.1 != 0)=true
                       ·rw[if_pos c6,if_pos c6]
                        have q:((d.2.1==0)=true)=False:=by simpa using c6
                        have q2:((d.2.1 != 0)=true)=True:=by simpa using c6
                        simp only[QJ,Vq,q,q2,if_false,if_true];rfl
                       ·rw[if_neg c6,if_neg c6]
                        simp only[QJ,Vq,Qgw,Te,W6,e0,if_true,h12];cases h17:P3 N (w7.2.1,w7.2.2.1,w7.2.2.2.1) u.2.2.1 d.1 ac.1.2.2.2.1 with
                        | none=>rfl
                        | some y =>
                         simp only[QJ];cases h18:P4 N y.2.2.2.2 (u.2.2.2.1,u.2.1,cy.1,u.2.2.2.2.2.2.2.1,d.1)with
                         | none=>rfl
                         | some k =>
                          simp only[QJ]
                          by_cases c7:(k.1 != 0)=true
                          ·rw[if_pos c7,if_pos c7]
                           have q2:((k.1 != 0)=true)=True:=by simpa using c7
                           simp only[QJ,q2,if_true];rfl
                          ·rw[if_neg c7,if_neg c7]
                           simp only[QJ,n0,if_false]
theorem J9o{ev:List Qe}{a k c:Int}{l l1 l2 l3 l4:List Qa}(hu:O5 ev)(hA:1≤a)(ho:Jrw ev l)(h1:c=0∨W9 ev c k)(h2:¬¬c=a)(e1:l1=l)(i:Ins (Qv2 a) l1 l2)(o:Jeg l2 a k l3)(e2:l4=l3):Ins (Qv2 a) l l4:=by
 have hc:c=a:=Decidable.not_not.1 h2;subst hc e1 e2;have hk:W9 ev c k:=h1.resolve_left (by omega);have hown:Jxc l1 c k:=⟨fun b hb e=>hu.u _ _ _ (by have:=ho.own b hb; rwa[e]at this) hk⟩
 exact To i (o.ins (Jxg hown i))
theorem J9p{a:Int}{l l1 l2 l3 l4:List Qd}(i:Ins (Q0c a) l l1)(e1:l2=l1)(e2:l3=l2)(j:Ins (Q0c a) l3 l4):Ins (Q0c a) l l4:=by
 subst e1 e2; exact To i j
theorem J9q{a:Int}{l l1 l2 l3 l4 l5:List Qc}{r:Int}(e1:l1=l)(e2:l2=l1)(e3:l3=l2)(e4:l4=l3)(i:r=0→Ins (Jja a) l4 l5)(h:¬¬r=0):Ins (Jja a) l l5:=by
 subst e1 e2 e3 e4; exact i (Decidable.not_not.1 h)
@[instance]abbrev J9r{N:Nat}[Kb N]{s:Qv}{u:Qh}{e:Int}:=mkW (Qnv.eq_1 N s u e) (sz s≤1000000000000) (fun r=>r.1=s.1∧r.2.1=s.2.1∧r.2.2.1=s.2.2)
@[reducible] def J7h{N:Nat}[Kb N]{b:Q7}{s:Qv}{u:Qh}:=mkW (J7f.eq_1 N b s u) (X9 b∧Xu u∧UsA u∧O5 b.1∧Jrw b.1 s.1∧s.1.length≤900000000000∧sz s.1≤1000000000000∧s.2.1.length≤1000000000∧s.2.2.length≤1000000000) (fun r=>Ins (Qv2 u.2.2.1) s.1 r.1∧Ins (Q0c u.2.2.1) s.2.1 r.2.1∧Ins (Jja u.2.2.2.1) s.2.2 r.2.2.1) (k:=by
  intro h;have g0:=h.1.ev; have g1:=h.1.prodL; have g2:=h.1.prodS; have g3:=h.1.prodO; have g4:=h.1.hol; have g5:=h.1.tarL; have g6:=h.1.tarS; have g7:=h.1.tarO; have g8:=h.2.1.start; have g9:=h.2.1.to_; have g10:=h.2.1.toS; have g11:=h.2.2.1.acc
  exact lw)
theorem J7i{x0:Q7}{x2:Int}(e:x2=24)(hs:Sh.sh x0)(h:(sz x0:Int)≤4096∧(x0.1.length:Int)≤x2∧(x0.2.2.1.length:Int)≤x2∧Q5 Zp x0.2.1∧Q5 (fun p:Qm=>(p.2.2.2.2.2.length:Int)≤x2) x0.2.2.1):X9 x0:=by
 subst e;obtain⟨h1,h2,h3,h4,h5⟩:=h;have h6:=Hq (l:=x0.2.2.2.2.1);simp only[sz1,sh1,mx1]at h1 hs h6;exact⟨by omega,by omega,hs.2.1,h4,by omega,by omega,Ql8 h5 fun p hp=>by omega,by omega⟩
theorem J1e{x:Qh}(h:¬ 12622780800≤x.2.2.2.2.2.2.1)(k:x.2.2.2.2.2.2.1<86400000∨12622780800<x.2.2.2.2.2.2.1)(l:(List.length x.2.2.2.2.2.1:Int)≤200):Xu x:=⟨by omega,by omega,by show List.length x.2.2.2.2.2.1≤9223372036854775807; omega⟩
@[instance]abbrev J7l{N:Nat}[hN:Kb N]{x0:Q7}:WP (U8 N x0 24) (fun R=>(sz x0≤9223372036854775807∧Sh.sh x0)∧∀r:Bool,(r=true→((sz x0:Int)≤4096∧(x0.1.length:Int)≤24∧(x0.2.2.1.length:Int)≤24∧Q5 Zp x0.2.1∧Q5 (fun p:Qm=>(p.2.2.2.2.2.length:Int)≤24) x0.2.2.1)∧O5 x0.1∧EvV N x0.1)→R r):=Bk fun h=>by
 obtain⟨r,e,hr⟩:=(Qlk (N:=N) (x0:=x0) (x1:=24)).spec _ ⟨⟨h.1,h.2,by omega,by omega⟩,fun r h=>h⟩;refine⟨r,e,fun ht=>?_⟩;subst ht;obtain⟨q1,q2,q3,q4,q5,q6⟩:=hr rfl;exact⟨⟨q1,q2,q3,q4,q5⟩,q6 rfl,⟨J68 e,by omega,h.2.1⟩⟩
theorem J1f{l s t:List Qh}{x:Qh}(h1:∀y∈s,y∈l)(h2:∀y∈t,y∈l):Q5 (fun u=>u=x∨u∈l) (s++[x]++t):=⟨fun y hy=>by
 rcases QZ.1 hy with hy | hy
 ·rcases QZ.1 hy with hy | hy
  ·exact .inr (h1 y hy)
  ·exact .inl (QO.1 hy)
 ·exact .inr (h2 y hy)⟩
theorem J1g{l v r:List Qh}{x:Qh}(h:Q5 (fun u=>u=x∨u∈v) r)(hv:Q5 (fun u=>u∈l) v)(hx:x∈l):Q5 (fun u=>u∈l) r:=⟨fun y hy=>(h.all y hy).elim (fun e=>e▸hx) (hv.all y)⟩
def klt(a b:Int×Int×Int×Int):Prop:=a.1<b.1∨(a.1=b.1∧(a.2.1<b.2.1∨(a.2.1=b.2.1∧(a.2.2.1<b.2.2.1∨(a.2.2.1=b.2.2.1∧a.2.2.2<b.2.2.2)))))
structure Ids(l:List Qh):Prop where
 inj:∀u∈l,∀v∈l,u.1=v.1→u=v
instance {a b:Int×Int×Int×Int}:Decidable (klt a b):=by unfold klt; infer_instance
theorem Qtr{α:Type}{b:Nat}{l m:List α}(h:(l.length+m.length)*b≤140737488355328):app b l m=some (l++m):=by unfold app; rw[if_pos h]
@[instance]abbrev Q9g{x1}{s}:=upL (N:=N) (s:=s) (Px.eq_def N x1) (fun t=>t) x1.length (fun t=>x1.length≤24∧Qlf Xu x1 t∧Qlf UsA x1 t) (fun r:((Unit)⊕(Bool))=>(∀u,r=.inl u→Q5 Xu x1∧Q5 UsA x1)∧∀u,r=.inr u→u=false) (step:=by
  intro s h h0 h1 h2 hw
  try simp only[sS,reduceCtorEq]at *
  repeat' (first | intro _ | apply And.intro)
  all_goals first | ((repeat cases ‹_∧_›); first | assumption | omega | exact⟨Qfj (by assumption) (by omega)⟩ | (rw[hw (by omega)]; exact Ow h0 (by assumption) (by assumption) (J1e (by grind) (by grind) (by grind))) | (rw[hw (by omega)]; exact Ow h0 (by assumption) (by assumption) (by grind)) | grind) | exact lv)
@[instance]abbrev Qm8{x0 x1}:=mkW (Lk.eq_1 N x0 x1) (sz x0≤9223372036854775807∧Sh.sh x0) (fun r=>r=true→x1.length≤24∧(sz x0:Int)≤4096∧X9 x0∧Q5 Xu x1∧Q5 UsA x1∧O5 x0.1∧EvV N x0.1) (k:=by
  intro h;have g0:=(fun q=>J7i (x2:=24) rfl h.2 q)
  try simp only[sS,reduceCtorEq]at *
  repeat' (first | intro _ | apply And.intro)
  all_goals first | ((repeat cases ‹_∧_›); first | assumption | omega | exact Qbj | grind) | exact lv)
@[instance]abbrev Jht{x0 x1}:=mkW (L0.eq_1 N x0 x1) (True) (fun r=>True)
@[instance]abbrev Jav{x0 x1}{s}:=upL (N:=N) (s:=s) (Ss.eq_def N x0 x1) (fun t=>t) x0.length (fun t=>x0.length≤1000) (fun r:((Int))=>0≤r∧r≤x0.length)
@[instance]abbrev Jkm{x0 x1}:=mkW (Or.eq_1 N x0 x1) (x0.length≤1000) (fun r=>r.length=x0.length+1∧Q5 (fun u=>u=x1∨u∈x0) r)
@[instance]abbrev Q6f{x0}{s}:=upL (N:=N) (s:=s) (Nk.eq_def N x0) (fun t=>t.1) x0.length (fun t=>x0.length≤1000∧(t.2.length:Int)=t.1∧Q5 (fun u=>u∈x0) t.2) (fun r:(((List Qh)))=>r.length=x0.length∧Q5 (fun u=>u∈x0) r)
@[instance]abbrev Qlp{x0}:=mkW (Dh.eq_1 N x0) (x0.length≤1000) (fun r=>r.length=x0.length∧Q5 (fun u=>u∈x0) r)
theorem Fu{N:Nat}[Kb N]:∀(n:Nat) (e:Ql),dpt e≤n→sz e≤4096→W (Yj N n e) fun r=>r=e
 | 0,e,h,hs=>by cases e with | mk a ks=>rw[dpt]at h; omega
 | n+1,e,h,hs=>by
  unfold Yj;have hk:=Qhi (e:=e);have hlen:=Hq (l:=e.ks);have ih:∀x:Ql,WP (Yj N n x) (fun R=>(x∈e.ks∧sz x≤4096)∧∀r:Ql,r=x→R r):=fun x=>Bk fun hx=>Fu n x (by have:=Jwy hx.1; omega) hx.2
  have loop:=fun s:Int×Int×Int×Str×List Ql=>upL (N:=N) (s:=s) (Aj.eq_def N (Yj N n) e) (fun s=>s.1) e.ks.length (fun t=>e.ks.length≤4096∧t.2.1=s.2.1∧t.2.2.1=s.2.2.1∧t.2.2.2.1=s.2.2.2.1∧t.2.2.2.2=e.ks.take t.1.toNat) (fun r:Int×Int×Str×List Ql=>r=(s.2.1,s.2.2.1,s.2.2.2.1,e.ks)) (step:=by
   intro s h h0 h1 h2 hw
   try simp only[sS,reduceCtorEq]at *
   repeat' (first | intro _ | apply And.intro)
   all_goals first | assumption | omega | grind [Yz,Vr])
  refine wp ?_;simp only[forall_eq];refine⟨⟨⟨by omega,trivial,trivial,trivial,by simp⟩,by simp,by simp⟩,?_⟩;cases e with
  | mk a ks=>rfl
@[instance]abbrev Q2t{N:Nat}[hN:Kb N]{x0:Ql}:WP (L1 N x0) (fun R=>(sz x0≤4096∧dpt x0≤4096)∧∀r:Ql,r=x0→R r):=Bk (by
  intro h;have:=hN.le
  exact Fu N x0 (by omega) h.1)
@[instance]abbrev Quv{x0}{s}:=upL (N:=N) (s:=s) (Eb.eq_def N x0) (fun t=>t.1) x0.2.2.2.1.length (fun t=>sz x0≤4096∧t.2.1=s.2.1∧t.2.2.1=s.2.2.1∧t.2.2.2.1=s.2.2.2.1∧t.2.2.2.2=x0.2.2.2.1.take t.1.toNat) (fun r:((Str×Int×Bool×(List Qw)))=>r.1=s.2.1∧r.2.1=s.2.2.1∧r.2.2.1=s.2.2.2.1∧r.2.2.2=x0.2.2.2.1) (step:=by
  intro s h h0 h1 h2 hw
  try simp only[sS,reduceCtorEq]at *
  repeat' (first | intro _ | apply And.intro)
  all_goals first | grind [Yz,Vr,Zp.deep] | exact lv)
@[instance]abbrev Quw{x0}{s}:=upL (N:=N) (s:=s) (Ec.eq_def N x0) (fun t=>t.1) x0.2.2.2.2.1.length (fun t=>sz x0≤4096∧t.2.1=s.2.1∧t.2.2.1=s.2.2.1∧t.2.2.2.1=s.2.2.2.1∧t.2.2.2.2.1=s.2.2.2.2.1∧t.2.2.2.2.2=x0.2.2.2.2.1.take t.1.toNat) (fun r:((Str×Int×Bool×(List Qw)×(List Qx)))=>r.1=s.2.1∧r.2.1=s.2.2.1∧r.2.2.1=s.2.2.2.1∧r.2.2.2.1=s.2.2.2.2.1∧r.2.2.2.2=x0.2.2.2.2.1) (step:=by
  intro s h h0 h1 h2 hw
  try simp only[sS,reduceCtorEq]at *
  repeat' (first | intro _ | apply And.intro)
  all_goals first | grind [Yz,Vr,Zp.deep] | exact lv)
@[instance]abbrev Qux{x0}{s}:=upL (N:=N) (s:=s) (Ed.eq_def N x0) (fun t=>t.1) x0.2.2.2.2.2.1.length (fun t=>sz x0≤4096∧t.2.1=s.2.1∧t.2.2.1=s.2.2.1∧t.2.2.2.1=s.2.2.2.1∧t.2.2.2.2.1=s.2.2.2.2.1∧t.2.2.2.2.2.1=s.2.2.2.2.2.1∧t.2.2.2.2.2.2=x0.2.2.2.2.2.1.take t.1.toNat) (fun r:((Str×Int×Bool×(List Qw)×(List Qx)×(List Ji)))=>r.1=s.2.1∧r.2.1=s.2.2.1∧r.2.2.1=s.2.2.2.1∧r.2.2.2.1=s.2.2.2.2.1∧r.2.2.2.2.1=s.2.2.2.2.2.1∧r.2.2.2.2.2=x0.2.2.2.2.2.1) (step:=by
  intro s h h0 h1 h2 hw
  try simp only[sS,reduceCtorEq]at *
  repeat' (first | intro _ | apply And.intro)
  all_goals first | grind [Yz,Vr,Zp.deep] | exact lv)
@[instance]abbrev Quy{x0}{s}:=upL (N:=N) (s:=s) (Ee.eq_def N x0) (fun t=>t.1) x0.2.2.2.2.2.2.length (fun t=>sz x0≤4096∧Zp x0∧t.2.1=s.2.1∧t.2.2.1=s.2.2.1∧t.2.2.2.1=s.2.2.2.1∧t.2.2.2.2.1=s.2.2.2.2.1∧t.2.2.2.2.2.1=s.2.2.2.2.2.1∧t.2.2.2.2.2.2.1=s.2.2.2.2.2.2.1∧t.2.2.2.2.2.2.2=x0.2.2.2.2.2.2.take t.1.toNat) (fun r:((Str×Int×Bool×(List Qw)×(List Qx)×(List Ji)×(List Qp)))=>r.1=s.2.1∧r.2.1=s.2.2.1∧r.2.2.1=s.2.2.2.1∧r.2.2.2.1=s.2.2.2.2.1∧r.2.2.2.2.1=s.2.2.2.2.2.1∧r.2.2.2.2.2.1=s.2.2.2.2.2.2.1∧r.2.2.2.2.2.2=x0.2.2.2.2.2.2) (step:=by
  intro s h h0 h1 h2 hw
  try simp only[sS,reduceCtorEq]at *
  repeat' (first | intro _ | apply And.intro)
  all_goals first | grind [Yz,Vr,Zp.deep] | exact lv)
@[instance]abbrev Q0p{x0}:=mkW (X8.eq_1 N x0) (sz x0≤4096∧Zp x0) (fun r=>r=x0)
@[instance]abbrev Qws{x0}{s}:=upL (N:=N) (s:=s) (Ak.eq_def N x0) (fun t=>t.1) x0.2.1.length (fun t=>sz x0≤4096∧Q5 Zp x0.2.1∧t.2.1=s.2.1∧t.2.2.1=x0.2.1.take t.1.toNat∧t.2.2.2.1=s.2.2.2.1∧t.2.2.2.2=s.2.2.2.2) (fun r:(((List Qe)×(List Qn)×(List Wv)×(List Int)))=>r.1=s.2.1∧r.2.1=x0.2.1∧r.2.2.1=s.2.2.2.1∧r.2.2.2=s.2.2.2.2) (step:=by
  intro s h h0 h1 h2 hw
  try simp only[sS,reduceCtorEq]at *
  repeat' (first | intro _ | apply And.intro)
  all_goals first | grind [Yz,Vr,Q5.all] | exact lv)
@[instance]abbrev Qwt{x0}{s}:=upL (N:=N) (s:=s) (Ao.eq_def N x0) (fun t=>t.1) x0.2.2.2.2.2.length (fun t=>sz x0≤4096∧t.2.1=s.2.1∧t.2.2.1=s.2.2.1∧t.2.2.2.1=s.2.2.2.1∧t.2.2.2.2.1=s.2.2.2.2.1∧t.2.2.2.2.2.1=s.2.2.2.2.2.1∧t.2.2.2.2.2.2=x0.2.2.2.2.2.take t.1.toNat) (fun r:(((List Qe)×(List Qn)×(List Qm)×(List Wv)×(List Int)×(List Yv)))=>r.1=s.2.1∧r.2.1=s.2.2.1∧r.2.2.1=s.2.2.2.1∧r.2.2.2.1=s.2.2.2.2.1∧r.2.2.2.2.1=s.2.2.2.2.2.1∧r.2.2.2.2.2=x0.2.2.2.2.2) (step:=by
  intro s h h0 h1 h2 hw
  try simp only[sS,reduceCtorEq]at *
  repeat' (first | intro _ | apply And.intro)
  all_goals first | grind [Yz,Vr,Zp.deep] | exact lv)
@[instance]abbrev Qwu{x0 v52}{s}:=upL (N:=N) (s:=s) (Al.eq_def N x0 v52) (fun t=>t.1) ((x0.2.2.1[v52.toNat]?.getD (([]:Str),0,0,([]:Str),false,([]:List Jt))).2.2.2.2.2).length (fun t=>sz x0≤4096∧0≤v52∧v52<x0.2.2.1.length∧t.2.1=s.2.1∧t.2.2.1=s.2.2.1∧t.2.2.2.1=s.2.2.2.1∧t.2.2.2.2.1=s.2.2.2.2.1∧t.2.2.2.2.2.1=s.2.2.2.2.2.1∧t.2.2.2.2.2.2=(x0.2.2.1[v52.toNat]?.getD (([]:Str),0,0,([]:Str),false,([]:List Jt))).2.2.2.2.2.take t.1.toNat) (fun r:((Str×Int×Int×Str×Bool×(List Jt)))=>r.1=s.2.1∧r.2.1=s.2.2.1∧r.2.2.1=s.2.2.2.1∧r.2.2.2.1=s.2.2.2.2.1∧r.2.2.2.2.1=s.2.2.2.2.2.1∧r.2.2.2.2.2=(x0.2.2.1[v52.toNat]?.getD (([]:Str),0,0,([]:Str),false,([]:List Jt))).2.2.2.2.2) (fun s h=>by have h1:=h.1; have h2:=h.2.1; have h3:=h.2.2.1; have h4:v52.toNat<x0.2.2.1.length:=(by omega); have h5:=Qhg (JH h4); rw[List.getElem?_eq_getElem h4]; simp only[XK]; have h6:=Hq (l:=x0.2.2.1[v52.toNat].2.2.2.2.2); simp only[sz1,mx1]at *; omega) (step:=by
  intro s h h0 h1 h2 hw
  try simp only[sS,reduceCtorEq]at *
  repeat' (first | intro _ | apply And.intro)
  all_goals first | grind [Yz,Vr,Zp.deep] | exact lv)
@[instance]abbrev Qwv{x0}{s}:=upL (N:=N) (s:=s) (Am.eq_def N x0) (fun t=>t.1) x0.2.2.1.length (fun t=>sz x0≤4096∧t.2.1=s.2.1∧t.2.2.1=s.2.2.1∧t.2.2.2.1=x0.2.2.1.take t.1.toNat∧t.2.2.2.2.1=s.2.2.2.2.1∧t.2.2.2.2.2=s.2.2.2.2.2) (fun r:(((List Qe)×(List Qn)×(List Qm)×(List Wv)×(List Int)))=>r.1=s.2.1∧r.2.1=s.2.2.1∧r.2.2.1=x0.2.2.1∧r.2.2.2.1=s.2.2.2.2.1∧r.2.2.2.2=s.2.2.2.2.2) (step:=by
  intro s h h0 h1 h2 hw
  try simp only[sS,reduceCtorEq]at *
  repeat' (first | intro _ | apply And.intro)
  all_goals first | grind [Yz,Vr,Zp.deep] | exact lv)
@[instance]abbrev Qdx{x0}:=mkW (Z9.eq_1 N x0) (sz x0≤4096∧Q5 Zp x0.2.1) (fun r=>r=x0)
@[instance]abbrev Qwa{x0 x1}{s}:=upL (N:=N) (s:=s) (Fk.eq_def N x0 x1) (fun t=>t) x0.2.2.2.2.2.1.length (fun t=>x0.2.2.2.2.2.1.length=x1.2.2.2.2.2.1.length∧x0.2.2.2.2.2.1.length≤9223372036854775807) (fun r:((Unit)⊕(Bool))=>∀u,r=.inr u→x0≠x1)
@[instance]abbrev Q1b{x0 x1}:=mkW (W7.eq_1 N x0 x1) (sz x0≤9223372036854775807) (fun r=>x0=x1→r=true)
@[instance]abbrev Qww{x0 x1}{s}:=upL (N:=N) (s:=s) (Ap.eq_def N x0 x1) (fun t=>t) x0.1.length (fun t=>x0.1.length=x1.1.length∧x0.1.length≤9223372036854775807∧sz x0.1≤9223372036854775807) (fun r:((Unit)⊕(Bool))=>∀u,r=.inr u→x0≠x1)
@[instance]abbrev Qwx{x0 x1}{s}:=upL (N:=N) (s:=s) (Aq.eq_def N x0 x1) (fun t=>t) x0.2.1.length (fun t=>x0.2.1.length=x1.2.1.length∧x0.2.1.length≤9223372036854775807) (fun r:((Unit)⊕(Bool))=>∀u,r=.inr u→x0≠x1)
@[instance]abbrev Qwy{x0 x1}{s}:=upL (N:=N) (s:=s) (Ar.eq_def N x0 x1) (fun t=>t) x0.2.2.length (fun t=>x0.2.2.length=x1.2.2.length∧x0.2.2.length≤9223372036854775807) (fun r:((Unit)⊕(Bool))=>∀u,r=.inr u→x0≠x1)
@[instance]abbrev Qdy{x0 x1}:=mkW (Uj.eq_1 N x0 x1) (sz x0≤9223372036854775807) (fun r=>x0=x1→r=true)
abbrev GS(t:Ty)(i:Sz t.De)(j:Sh t.De):Prop:=∀x:t.De,gd t x→@sz _ i x≤9223372036854775807∧@Sh.sh _ j x
theorem gsI{k:IntKind}:GS (.int k) (inferInstanceAs (Sz Int)) (inferInstanceAs (Sh Int)):=fun _ _=>⟨QN _,True.intro⟩
theorem gsB:GS .bool (inferInstanceAs (Sz Bool)) (inferInstanceAs (Sh Bool)):=fun _ _=>⟨QN _,True.intro⟩
theorem gsS:GS .str (inferInstanceAs (Sz (List UInt8))) (inferInstanceAs (Sh (List UInt8))):=fun x h=>⟨QN _,h⟩
theorem gsL{t:Ty}{i:Sz t.De}{j:Sh t.De}(h:GS t i j):GS (.sl t) (inferInstanceAs (Sz (List t.De))) (inferInstanceAs (Sh (List t.De))):=fun x g=>⟨J5g g.1 fun y hy=>(h y (g.2 y hy)).1,⟨fun y hy=>(h y (g.2 y hy)).2⟩⟩
theorem gsP{a b:Ty}{i:Sz a.De}{j:Sh a.De}{k:Sz b.De}{l:Sh b.De}(h:GS a i j)(h2:GS b k l):GS (.pr a b) (inferInstanceAs (Sz (a.De×b.De))) (inferInstanceAs (Sh (a.De×b.De))):=fun x g=>⟨ZX.2 ⟨(h x.1 g.1).1,(h2 x.2 g.2).1⟩,(h x.1 g.1).2,(h2 x.2 g.2).2⟩
theorem gsR{t:Ty}:GS (.rose t) (inferInstanceAs (Sz (Wn t.De))) (inferInstanceAs (Sh (Wn t.De))):=fun x g=>by
 refine⟨?_,True.intro⟩;obtain⟨n,hn⟩:=g;revert x
 induction n with
 | zero=>exact fun x h=>h.elim
 | succ n ih =>
  intro x h;exact Jxi (e:=x) h.2.1 fun y hy=>ih y (h.2.2 y hy)
theorem gsT{t:Ty}{i:Sz t.De}{j:Sh t.De}(h:GS t i j):GS (.st t) i j:=h
theorem J1h:GS Wu (inferInstanceAs (Sz Ql)) (inferInstanceAs (Sh Ql)):=gsR
theorem J1i:GS Ws (inferInstanceAs (Sz Wd)) (inferInstanceAs (Sh Wd)):=gsT (gsP gsI (gsP gsI gsI))
theorem Jos:GS Ke (inferInstanceAs (Sz Yu)) (inferInstanceAs (Sh Yu)):=gsT (gsP gsI (gsP gsI gsI))
theorem Jrz:GS Je (inferInstanceAs (Sz Qb)) (inferInstanceAs (Sh Qb)):=gsT (gsP gsI gsI)
theorem Jyp:GS J2 (inferInstanceAs (Sz Qe)) (inferInstanceAs (Sh Qe)):=gsT (gsP gsI (gsP gsI (gsP gsI (gsP gsI (gsP gsS (gsP gsS gsI))))))
theorem J1j:GS Zq (inferInstanceAs (Sz Qw)) (inferInstanceAs (Sh Qw)):=gsT (gsP gsS (gsL gsS))
theorem J1k:GS Uz (inferInstanceAs (Sz Qx)) (inferInstanceAs (Sh Qx)):=gsT (gsP gsS (gsL J1i))
theorem J1l:GS Wt (inferInstanceAs (Sz Ji)) (inferInstanceAs (Sh Ji)):=gsT (gsP gsI (gsP gsS (gsP gsS (gsP gsI (gsL Jos)))))
theorem Jgg:GS V8 (inferInstanceAs (Sz Qp)) (inferInstanceAs (Sh Qp)):=gsT (gsP gsS (gsP J1h gsI))
theorem Jr0:GS J9 (inferInstanceAs (Sz Qn)) (inferInstanceAs (Sh Qn)):=gsT (gsP gsS (gsP gsI (gsP gsB (gsP (gsL J1j) (gsP (gsL J1k) (gsP (gsL J1l) (gsL Jgg)))))))
theorem Jr1:GS Xk (inferInstanceAs (Sz Jt)) (inferInstanceAs (Sh Jt)):=gsT (gsP gsI (gsP (gsL gsS) (gsP gsI (gsP gsI (gsP gsI gsB)))))
theorem Jkn:GS Ye (inferInstanceAs (Sz Qm)) (inferInstanceAs (Sh Qm)):=gsT (gsP gsS (gsP gsI (gsP gsI (gsP gsS (gsP gsB (gsL Jr1))))))
theorem J7j:GS Ph (inferInstanceAs (Sz Wv)) (inferInstanceAs (Sh Wv)):=gsT (gsP gsS (gsP gsI gsI))
theorem Q9h:GS Zk (inferInstanceAs (Sz Yv)) (inferInstanceAs (Sh Yv)):=gsT (gsP gsI (gsP gsI (gsP gsB (gsP Jrz (gsP (gsL Jos) gsI)))))
theorem J1m:GS Xd (inferInstanceAs (Sz Q7)) (inferInstanceAs (Sh Q7)):=gsT (gsP (gsL Jyp) (gsP (gsL Jr0) (gsP (gsL Jkn) (gsP (gsL J7j) (gsP (gsL gsI) (gsL Q9h))))))
def pB(a:Int)(b:Qa):Bool:=b.1 != a
def pW(a:Int)(w:Qd):Bool:=w.1 != a
def pC(k:Int)(c:Qc):Bool:=c.1 != k
def woF(s:Qv)(u:Qh):Qv:=(s.1.filter (pB u.2.2.1),s.2.1.filter (pW u.2.2.1),s.2.2.filter (pC u.2.2.2.1))
section
variable {N:Nat} [hN:Kb N]
theorem wo1{s:Qv}{u:Qh}(hr:s.1.length≤1000000000000):Qf (Y7 N s u) N (0,[])=some (s.1.filter (pB u.2.2.1)):=by
 have hB:=hN.le
 have key:Qf (Y7 N s u) N (0,([]:List Qa))=some ([]++s.1.filter (pB u.2.2.1)):=by
  refine Qtf s.1 (Nat.le_trans hr (by decide)) (f:=Y7 N s u) (fun(q:List Qa) i=>(i,q)) (fun i q=>q.length≤i) (fun q l=>q++l.filter (pB u.2.2.1)) ?_ ?_ (by omega) (QY _)
  ·intro q _ h
   simp only[Y7];rw[h]; simp
  ·intro q i x xs h1 h2 h3 h4 h5 hq
   left;have hi:=(List.getElem?_eq_some_iff.1 h1).1;simp only[Y7];rw[if_pos h2,h3,QJ,QJ,h4];cases hc:pB u.2.2.1 x with
   | true =>
    refine⟨q++[x],?_,by simp; omega,by rw[XG hc]; simp⟩;have hc':(x.1 != u.2.2.1)=true:=hc;rw[hc',if_pos rfl,Qtr (by simp; omega)]; rfl
   | false =>
    refine⟨q,?_,by omega,by rw[JE (by simp[hc])]⟩;have hc':(x.1 != u.2.2.1)=false:=hc;rw[hc',if_neg (by decide)]; rfl
 simpa using key
theorem wo2{s:Qv}{u:Qh}{v:List Qa}(hr:s.2.1.length≤1000000000000):Qf (Y8 N s u) N (0,v,[])=some (v,s.2.1.filter (pW u.2.2.1)):=by
 have hB:=hN.le
 have key:Qf (Y8 N s u) N (0,v,([]:List Qd))=some (v,[]++s.2.1.filter (pW u.2.2.1)):=by
  refine Qtf s.2.1 (Nat.le_trans hr (by decide)) (f:=Y8 N s u) (fun(q:List Qd) i=>(i,v,q)) (fun i q=>q.length≤i) (fun q l=>(v,q++l.filter (pW u.2.2.1))) ?_ ?_ (by omega) (QY _)
  ·intro q _ h
   simp only[Y8];rw[h]; simp
  ·intro q i x xs h1 h2 h3 h4 h5 hq
   left;have hi:=(List.getElem?_eq_some_iff.1 h1).1;simp only[Y8];rw[if_pos h2,h3,QJ,QJ,h4];cases hc:pW u.2.2.1 x with
   | true =>
    refine⟨q++[x],?_,by simp; omega,by rw[XG hc]; simp⟩;have hc':(x.1 != u.2.2.1)=true:=hc;rw[hc',if_pos rfl,Qtr (by simp; omega)]; rfl
   | false =>
    refine⟨q,?_,by omega,by rw[JE (by simp[hc])]⟩;have hc':(x.1 != u.2.2.1)=false:=hc;rw[hc',if_neg (by decide)]; rfl
 simpa using key
theorem wo3{s:Qv}{u:Qh}{v:List Qa}{w:List Qd}(hr:s.2.2.length≤1000000000000):Qf (Y9 N s u) N (0,v,w,[])=some (v,w,s.2.2.filter (pC u.2.2.2.1)):=by
 have hB:=hN.le
 have key:Qf (Y9 N s u) N (0,v,w,([]:List Qc))=some (v,w,[]++s.2.2.filter (pC u.2.2.2.1)):=by
  refine Qtf s.2.2 (Nat.le_trans hr (by decide)) (f:=Y9 N s u) (fun(q:List Qc) i=>(i,v,w,q)) (fun i q=>q.length≤i) (fun q l=>(v,w,q++l.filter (pC u.2.2.2.1))) ?_ ?_ (by omega) (QY _)
  ·intro q _ h
   simp only[Y9];rw[h]; simp
  ·intro q i x xs h1 h2 h3 h4 h5 hq
   left;have hi:=(List.getElem?_eq_some_iff.1 h1).1;simp only[Y9];rw[if_pos h2,h3,QJ,QJ,h4];cases hc:pC u.2.2.2.1 x with
   | true =>
    refine⟨q++[x],?_,by simp; omega,by rw[XG hc]; simp⟩;have hc':(x.1 != u.2.2.2.1)=true:=hc;rw[hc',if_pos rfl,Qtr (by simp; omega)]; rfl
   | false =>
    refine⟨q,?_,by omega,by rw[JE (by simp[hc])]⟩;have hc':(x.1 != u.2.2.2.1)=false:=hc;rw[hc',if_neg (by decide)]; rfl
 simpa using key
theorem J5p{s:Qv}{u:Qh}(h1:s.1.length≤1000000000000)(h2:s.2.1.length≤1000000000000)(h3:s.2.2.length≤1000000000000):V3 N s u=some (woF s u):=by
 unfold V3;rw[wo1 h1,QJ,wo2 h2,QJ,wo3 h3];rfl
theorem Jr2{b:Q7}(hs:sz b≤4096)(ht:Q5 Zp b.2.1):Z9 N b=some b:=by
 obtain⟨r,e,hr⟩:=(Qdx (N:=N) (x0:=b)).spec (fun r=>r=b) ⟨⟨hs,ht⟩,fun r h=>h⟩;rw[e,hr]
theorem clR{s:Qv}(h:sz s≤1000000000000):Vc N s=some s:=by
 obtain⟨r,e,q⟩:=(Qlo (N:=N) (x0:=s)).spec (fun r=>r=s) ⟨h,fun r h=>h⟩;rw[e,q]
theorem J7k{s:Qv}(h:sz s≤9223372036854775807):Uj N s s=some true:=by
 obtain⟨r,e,hr⟩:=(Qdy (N:=N) (x0:=s) (x1:=s)).spec (fun r=>r=true) ⟨h,fun r h=>h rfl⟩;rw[e,hr]
end
structure StR(ev:List Qe)(k:Nat)(s:Qv):Prop where
 own:Jrw ev s.1
 buck:s.1.length≤k*4787306496
 size:sz s≤1000000000000
 wall:s.2.1.length≤k
 coun:s.2.2.length+1≤2 ^ k
abbrev st0:Qv:=(([]:List Qa),([]:List Qd),([]:List Qc))
theorem Jyq{ev:List Qe}:StR ev 0 st0:=⟨Jyj,QY _,by decide,QY _,by decide⟩
theorem J5q{k:Nat}(h:k≤24):2 ^ k≤16777216:=Nat.pow_le_pow_right (by omega) h
theorem Jko{N:Nat}[hN:Kb N]{b:Q7}{s:Qv}{u:Qh}{k:Nat}(hb:X9 b)(he:EvV N b.1)(hu:O5 b.1)(hU:Xu u)(hA:UsA u)(hk:k<24)(hs:StR b.1 k s) :
  ∃w q:J7e,Lz N b s u=some w∧Ww N b s u=some q∧w.1.length≤1000000000000∧w.2.1.length≤1000000000000∧w.2.2.1.length≤1000000000000∧woF (w.1,w.2.1,w.2.2.1) u=woF s u∧StR b.1 (k+1) (q.1,q.2.1,q.2.2.1):=by
 obtain⟨h1,h2,h3,h4,h5⟩:=hs;have h6:=J5q (k:=k) (by omega);have hz:sz s.1≤1000000000000:=by simp only[sz1,mx1]at h3; omega
 obtain⟨w,ew,p1,p2,p3,p4,p5⟩:=(Jka (N:=N) (x0:=b) (x1:=s) (x2:=u)).spec _ ⟨⟨hb,hU,by omega,hz,by omega,by omega⟩,fun r h=>h⟩;obtain⟨w',ew',i1,i2,i3⟩:=(J7h (N:=N) (b:=b) (s:=s) (u:=u)).spec _ ⟨⟨hb,hU,hA,hu,h1,by omega,hz,by omega,by omega⟩,fun r h=>h⟩;rw[←J7g,ew]at ew';cases Option.some.inj ew';obtain⟨q,eq,r1,r2,r3,r4,r5⟩:=(Qpf (N:=N) (x0:=b) (x1:=s) (x2:=u)).spec _ ⟨⟨hb,he,hU,by omega,h3,by omega,by omega⟩,fun r h=>h⟩;refine⟨w,q,ew,eq,by omega,by omega,by omega,?_,⟨Jyk h1 r3,by show q.1.length≤_; omega,?_,by show q.2.1.length≤_; omega,by show q.2.2.1.length+1≤_; rw[Nat.pow_succ]; omega⟩⟩
 ·have e1:=i1.eq (pB u.2.2.1) fun x hx=>by unfold pB; rw[show x.1=u.2.2.1 from hx]; simp
  have e2:=i2.eq (pW u.2.2.1) fun x hx=>by unfold pW; rw[show x.1=u.2.2.1 from hx]; simp
  have e3:=i3.eq (pC u.2.2.2.1) fun x hx=>by unfold pC; rw[show x.1=u.2.2.2.1 from hx]; simp
  exact Prod.ext e1 (Prod.ext e2 e3)
 ·simp only[sz1,mx1]; omega
theorem Q0q{N:Nat}[hN:Kb N]{b:Q7}{l:List Qh}(hz:sz b≤4096)(hb:X9 b)(he:EvV N b.1)(hu:O5 b.1)(hl:l.length≤24)(hU:∀u∈l,Xu u∧UsA u):∀(k i n:Nat) (s:Qv),l.length=i+k→k<n→StR b.1 i s →
  Qf (Yd N l b) n ((i:Int),s.1,s.2.1,s.2.2)=some (.inl ())
 | _,_,0,_,_,hn,_=>by omega
 | 0,i,n+1,s,hk,hn,hs=>by
  have hi:i=l.length:=by omega
  subst hi
  have e:Yd N l b ((l.length:Int),s.1,s.2.1,s.2.2)=some (.inr (.inl ())):=by
   unfold Yd;rw[if_neg (fun h=>by have:=of_decide_eq_true h; omega)]
  simp only[Qf,e,QJ]
 | k+1,i,n+1,s,hk,hn,hs=>by
  have hlt:i<l.length:=by omega
  obtain⟨w,q,ew,eq,w1,w2,w3,hw,hq⟩:=Jko hb he hu (hU _ (JH hlt)).1 (hU _ (JH hlt)).2 (by omega) hs;have s1:=hs.buck; have s2:=hs.wall; have s3:=hs.coun; have s4:=J5q (k:=i) (by omega)
  have hz2:sz (woF s l[i])≤9223372036854775807:=by
   have h1:=Ji1 (l:=s.1.filter (pB l[i].2.2.1)) (m:=s.1) (List.length_filter_le _ _) fun x hx=>(QB.1 hx).1;have h2:=List.length_filter_le (pW l[i].2.2.1) s.2.1;have h3:=List.length_filter_le (pC l[i].2.2.2.1) s.2.2;have h4:=hs.size;unfold woF;simp only[sz1,mx1,Qwl]at *; omega
  have e:Yd N l b ((i:Int),s.1,s.2.1,s.2.2)=some (.inl (((i+1:Nat):Int),q.1,q.2.1,q.2.2.1)):=by
   unfold Yd;rw[if_pos (decide_eq_true (by omega)),Jr2 hz hb.tarO,QJ];show(Vc N s).bind _=_;rw[clR hs.size,QJ,G8 hlt,QJ,QJ];show(Lz N b s l[i]).bind _=_;rw[ew,QJ,QJ,QJ,J5p w1 w2 w3,QJ,QJ,QJ];show(V3 N s l[i]).bind _=_;rw[J5p (by omega) (by omega) (by omega),QJ,hw];show(Uj N (woF s l[i]) (woF s l[i])).bind _=_;rw[J7k hz2,QJ,if_neg (by decide),QJ,QJ];show(Ww N b s l[i]).bind _=_;rw[eq,QJ,Q9 (n:=(i:Int)+1) (by omega) (by omega)];rfl
  simp only[Qf,e,QJ];exact Q0q hz hb he hu hl hU k (i+1) n (q.1,q.2.1,q.2.2.1) (by omega) (by omega) hq
theorem J1n(M:Nat):U9 (M+64)=some true:=by kernel_rfl
theorem Jyr{N:Nat}[hN:Kb N]:U9 N=some true:=by
 have e:N=(N - 64)+64:=by have:=hN.le; omega
 rw[e]; exact J1n _
theorem Jkp{N:Nat}[hN:Kb N]{x0:Q7}{x1:List Qh}(g0:gd Xd x0):Ka N x0 x1=some true:=by
 have hg:=J1m x0 g0;have hB:=hN.le;obtain⟨r,er,hr⟩:=(Qm8 (N:=N) (x0:=x0) (x1:=x1)).spec _ ⟨hg,fun r h=>h⟩;unfold Ka;rw[er,QJ];cases r with
 | false=>rw[if_pos (by decide),Jyr]; rfl
 | true =>
  obtain⟨h1,h2,h3,h4,h5,h6,h7⟩:=hr rfl;obtain⟨o,eo,o1,o2⟩:=(Qlp (N:=N) (x0:=x1)).spec _ ⟨by omega,fun r h=>h⟩;rw[if_neg (by decide),eo,QJ];have:=Q0q (N:=N) (b:=x0) (l:=o) (by omega) h3 h7 h6 (by omega) (fun u hu=>⟨h4.all u (o2.all u hu),h5.all u (o2.all u hu)⟩) o.length 0 N st0 (by omega) (by omega) Jyq;rw[show Qf (Yd N o x0) N (0,[],[],[])=some (.inl ())from this];show(U9 N).bind _=_;rw[Jyr]; rfl
theorem big:Kb 18446744073709551616:=⟨QY _⟩
theorem Q2u(x0:Q7)(g0:gd Xd x0)(x1:List Qh)(g1:gd (.sl J3) x1):∃N,Ka N x0 x1=some true:=⟨18446744073709551616,have:=big; Jkp g0⟩
end Gx
