/- The plain laws for HistoryApart. -/
import Derived.Test.YtfkpgpibpnghiaaGreatXFns
import Derived.Test.YtfkpgpibpnghiaaGreatGDraw
import Derived.Lib.RowBridge
import Derived.Test.YtfkpgpibpnghiaaGreatXRl
import Derived.KernelRfl
import Derived.Sort.Walk0
namespace Gx
open Go Gd
set_option linter.unusedVariables false
set_option linter.unusedSimpArgs false
theorem A8{α σ ρ τ:Type}(l:List α)(hl:l.length≤maxLen){f:ρ→Option (ρ⊕τ)}(mk:σ→Int→ρ)(Inv:Nat→σ→Prop)(go:σ→List α→τ)
  (h0:∀s,Inv l.length s→decide (((l.length:Nat):Int)<(l.length:Int))=false→f (mk s (l.length:Int))=some (.inr (go s [])))
  (h1:∀s (i:Nat) x xs,l[i]?=some x→decide ((i:Int)<(l.length:Int))=true→idx l (i:Int)=some x→IntKind.wrap .i64 ((i:Int)+1)=((i+1:Nat):Int)→l.drop i=x::xs→Inv i s →
   (∃s',f (mk s (i:Int))=some (.inl (mk s' ((i+1:Nat):Int)))∧Inv (i+1) s'∧go s (x::xs)=go s' xs)∨f (mk s (i:Int))=some (.inr (go s (x::xs))))
  {n:Nat} {s:σ} (hn:l.length<n) (hs:Inv 0 s):Qe f n (mk s 0)=some (go s l):=by
 have main:∀(k i n:Nat) (s:σ),l.length=i+k→k<n→Inv i s→Qe f n (mk s (i:Int))=some (go s (l.drop i)):=by
  intro k
  induction k with
  | zero =>
   intro i n s hk hn hI
   obtain⟨m,rfl⟩:∃m,n=m+1:=⟨n - 1,by omega⟩
   have hi:i=l.length:=by omega
   subst hi
   rw[JE]
   simp[Qe,h0 s hI (by simp)]
  | succ k ih =>
   intro i n s hk hn hI
   obtain⟨m,rfl⟩:∃m,n=m+1:=⟨n - 1,by omega⟩
   have hlt:i<l.length:=by omega
   have hd:=List.drop_eq_getElem_cons hlt
   rw[hd]
   rcases h1 s i _ _ (List.getElem?_eq_getElem hlt) (by simpa using hlt) (Jag (List.getElem?_eq_getElem hlt)) (Jdp (by omega)) hd hI with⟨s',e1,e2,e3⟩ | e1
   ·simp only[Qe,e1,QQ,e3]
    exact ih (i+1) m s' (by omega) (by omega) e2
   ·simp only[Qe,e1,QQ]
 simpa using main l.length 0 n s (by omega) hn hs
theorem Q4d{σ τ:Type}{f g:σ→Option (σ⊕τ)}(h:∀s,f s=g s)(n:Nat)(s:σ):Qe f n s=Qe g n s:=by rw[show f=g from funext h]
theorem Jk5{α:Type}{l:List α}{i:Int}{x:α}(h:idx l i=some x):0≤i∧i<l.length∧l[i.toNat]?=some x:=by
 obtain⟨h0,h1⟩:=Gn h
 obtain⟨h2,_⟩:=List.getElem?_eq_some_iff.1 h1
 exact⟨h0,by omega,h1⟩
theorem K9{α:Type}{l:List α}{i:Nat}(h:i<l.length):idx l (i:Int)=some l[i]:=Jag (List.getElem?_eq_getElem h)
theorem Jk6(a b:Nat):((max a b:Nat):Int)=max (a:Int) (b:Int):=by omega
def W{α:Type}(o:Option α)(R:α→Prop):Prop:=∃r,o=some r∧R r
class WP{α:Type}(o:Option α)(T:outParam ((α→Prop)→Prop)):Prop where
 spec:∀R,T R→W o R
class WPf{α β:Type}(f:α→Option β)(T:outParam (α→(β→Prop)→Prop)):Prop where
 spec:∀a R,T a R→W (f a) R
theorem wp{α:Type}{o:Option α}{T:(α→Prop)→Prop}[h:WP o T]{R:α→Prop}(k:T R):W o R:=h.spec R k
theorem W.mono{α:Type}{o:Option α}{R S:α→Prop}(h:W o R)(k:∀r,R r→S r):W o S:=let⟨r,e,hr⟩:=h; ⟨r,e,k r hr⟩
theorem Lr{α:Type}{o:Option α}{P:Prop}{Q:α→Prop}(h:P→W o Q):WP o (fun R=>P∧∀r,Q r→R r):=⟨fun R k=>(h k.1).mono k.2⟩
instance wpSome {α:Type} (a:α):WP (some a) (fun R=>R a):=⟨fun R h=>⟨a,rfl,h⟩⟩
instance wpNone {α:Type}:WP (none:Option α) (fun _=>False):=⟨fun _ h=>h.elim⟩
instance wpIte {α:Type} {c:Prop} [Decidable c] {a b:Option α} {A B:(α→Prop)→Prop} [ha:WP a A] [hb:WP b B]:WP (if c then a else b) (fun R=>(c→A R)∧(¬ c→B R)):=⟨fun R h=>by
 split
 ·rename_i hc; exact ha.spec R (h.1 hc)
 ·rename_i hc; exact hb.spec R (h.2 hc)⟩
instance wpBind {α β:Type} {o:Option α} {f:α→Option β} {A:(α→Prop)→Prop} {B:α→(β→Prop)→Prop} [ha:WP o A] [hb:WPf f B]:WP (o.bind f) (fun R=>A fun r=>B r R):=⟨fun R h=>by
 obtain⟨r,e,hr⟩:=ha.spec _ h
 rw[e]; exact hb.spec r R hr⟩
instance (priority:=1100) wpAnd {β:Type} {c:Prop} [Decidable c] {a:Option Bool} {f:Bool→Option β} {A:(Bool→Prop)→Prop} {B C:(β→Prop)→Prop} [ha:WP a A] [hb:WP (f true) B] [hc:WP (f false) C] :
  WP ((if c then a else some false).bind f) (fun R=>(c→A fun b=>b=true→B R)∧(c→A fun _=>True)∧C R):=⟨fun R h=>by
 by_cases h0:c
 ·rw[if_pos h0]
  obtain⟨r,e,hr⟩:=ha.spec _ (h.1 h0)
  rw[e]
  cases r with
  | true=>exact hb.spec R (hr rfl)
  | false=>exact hc.spec R h.2.2
 ·rw[if_neg h0]; exact hc.spec R h.2.2⟩
instance (priority:=1100) wpOr {β:Type} {c:Prop} [Decidable c] {a:Option Bool} {f:Bool→Option β} {A:(Bool→Prop)→Prop} {B C:(β→Prop)→Prop} [ha:WP a A] [hb:WP (f true) B] [hc:WP (f false) C] :
  WP ((if c then some true else a).bind f) (fun R=>(¬ c→A fun b=>b=false→C R)∧(¬ c→A fun _=>True)∧B R):=⟨fun R h=>by
 by_cases h0:c
 ·rw[if_pos h0]; exact hb.spec R h.2.2
 ·rw[if_neg h0]
  obtain⟨r,e,hr⟩:=ha.spec _ (h.1 h0)
  rw[e]
  cases r with
  | true=>exact hb.spec R h.2.2
  | false=>exact hc.spec R (hr rfl)⟩
instance (priority:=1200) wpBindT {α β:Type} {a b:Option α} {f:α→Option β} {A:(β→Prop)→Prop} [ha:WP (a.bind f) A]:WP ((if true=true then a else b).bind f) A:=⟨fun R h=>by rw [if_pos rfl]; exact ha.spec R h⟩
instance (priority:=1200) wpBindF {α β:Type} {a b:Option α} {f:α→Option β} {A:(β→Prop)→Prop} [ha:WP (b.bind f) A]:WP ((if false=true then a else b).bind f) A:=⟨fun R h=>by rw [if_neg (by decide)]; exact ha.spec R h⟩
instance (priority:=1200) wpIteT {α:Type} {a b:Option α} {A:(α→Prop)→Prop} [ha:WP a A]:WP (if true=true then a else b) A:=⟨fun R h=>by rw [if_pos rfl]; exact ha.spec R h⟩
instance (priority:=1200) wpIteF {α:Type} {a b:Option α} {A:(α→Prop)→Prop} [ha:WP b A]:WP (if false=true then a else b) A:=⟨fun R h=>by rw [if_neg (by decide)]; exact ha.spec R h⟩
instance (priority:=1000) wpfVar {α β:Type} {f:α→Option β} {T:α→(β→Prop)→Prop} [h:∀a,WP (f a) (T a)]:WPf f T:=⟨fun a R k=>(h a).spec R k⟩
instance (priority:=900) wpfSum {α β γ:Type} {f:α⊕β→Option γ} {A:α→(γ→Prop)→Prop} {B:β→(γ→Prop)→Prop} [ha:WPf (fun a=>f (.inl a)) A] [hb:WPf (fun b=>f (.inr b)) B] :
  WPf f (fun s R=>(∀a,s=.inl a→A a R)∧(∀b,s=.inr b→B b R)):=⟨fun s R k=>by
 cases s with
 | inl a=>exact ha.spec a R (k.1 a rfl)
 | inr b=>exact hb.spec b R (k.2 b rfl)⟩
instance (priority:=850) wpfPairSum {α β γ δ:Type} {f:(α⊕β)×γ→Option δ} {A:α→γ→(δ→Prop)→Prop} {B:β→γ→(δ→Prop)→Prop} [ha:∀a,WPf (fun c=>f (.inl a,c)) (A a)] [hb:∀b,WPf (fun c=>f (.inr b,c)) (B b)] :
  WPf f (fun p R=>(∀a,p.1=.inl a→A a p.2 R)∧(∀b,p.1=.inr b→B b p.2 R)):=⟨fun p R k=>by
 obtain⟨s,c⟩:=p
 cases s with
 | inl a=>exact(ha a).spec c R (k.1 a rfl)
 | inr b=>exact(hb b).spec c R (k.2 b rfl)⟩
instance (priority:=800) wpfPair {α β γ:Type} {f:α×β→Option γ} {A:α→β→(γ→Prop)→Prop} [h:∀a,WPf (fun b=>f (a,b)) (A a)]:WPf f (fun p R=>A p.1 p.2 R):=⟨fun p R k=>(h p.1).spec p.2 R k⟩
class Sz(α:Type) where
 sz:α→Nat
open Sz
instance:Sz Int:=⟨fun _=>0⟩
instance:Sz Bool:=⟨fun _=>0⟩
instance:Sz Unit:=⟨fun _=>0⟩
instance {α β:Type} [Sz α] [Sz β]:Sz (α×β):=⟨fun p=>max (sz p.1) (sz p.2)⟩
instance {α β:Type} [Sz α] [Sz β]:Sz (α⊕β):=⟨fun p=>match p with | .inl a=>sz a | .inr b=>sz b⟩
def szL{α:Type}[Sz α]:List α→Nat
 | []=>0
 | x::l=>max (sz x) (szL l)
instance {α:Type} [Sz α]:Sz (List α):=⟨fun l=>max l.length (szL l)⟩
instance (priority:=2000) szStr:Sz (List UInt8):=⟨fun _=>0⟩
mutual
def rsz{α:Type}:Xs α→Nat
 | .mk _ ks=>max ks.length (Q8t ks)
def Q8t{α:Type}:List (Xs α)→Nat
 | []=>0
 | x::l=>max (rsz x) (Q8t l)
end
instance {α:Type}:Sz (Xs α):=⟨rsz⟩
theorem Jk7(x:Int):sz x=0:=rfl
section
variable {α β:Type} [Sz α] [Sz β]
theorem Qp5(p:α×β):sz p=max (sz p.1) (sz p.2):=rfl
theorem Zb{l:List α}:l.length≤sz l:=Nat.le_max_left _ _
theorem Jtx{l:List α}:szL l≤sz l:=Nat.le_max_right _ _
theorem Jcb:∀{l:List α} {x:α},x∈l→sz x≤szL l
 | y::l,x,h=>by
  rcases QX.1 h with rfl | h
  ·exact Nat.le_max_left _ _
  ·exact Nat.le_trans (Jcb h) (Nat.le_max_right _ _)
theorem Qex{l:List α}{x:α}(h:x∈l):sz x≤sz l:=Nat.le_trans (Jcb h) Jtx
theorem Qth{K:Nat}:∀{l:List α},(∀x∈l,sz x≤K)→szL l≤K
 | [],_=>JQ _
 | x::l,h=>KX.2 ⟨h x (.head _),Qth fun y hy=>h y (.tail _ hy)⟩
theorem Jk8{K:Nat}{l:List α}(hl:l.length≤K)(h:∀x∈l,sz x≤K):sz l≤K:=KX.2 ⟨hl,Qth h⟩
theorem Qzt{l m:List α}(hl:l.length≤m.length)(h:∀x∈l,x∈m):sz l≤sz m:=Jk8 (Nat.le_trans hl Zb) fun x hx=>Qex (h x hx)
theorem Jk9:sz ([]:List α)=0:=rfl
theorem Qti:∀l m:List α,szL (l++m)=max (szL l) (szL m)
 | [],m=>by simp[szL]
 | x::l,m=>by simp only[QM,szL,Qti l m]; omega
theorem Je9(l m:List α):sz (l++m)=max (l.length+m.length) (max (sz l) (sz m)):=by
 show max (l++m).length (szL (l++m))=max _ (max (max l.length (szL l)) (max m.length (szL m)))
 rw[List.length_append,Qti]; omega
theorem Qbl(x:α)(l:List α):sz (x::l)=max (l.length+1) (max (sz x) (sz l)):=by
 show max (l.length+1) (max (sz x) (szL l))=max _ (max _ (max l.length (szL l)))
 omega
theorem Jcc:∀(l:List α) (i:Nat) (x:α),szL (l.set i x)≤max (szL l) (sz x)
 | [],i,x=>JQ _
 | y::l,0,x=>by simp only[List.set_cons_zero,szL]; omega
 | y::l,i+1,x=>by
  have:=Jcc l i x
  simp only[List.set_cons_succ,szL]; omega
theorem Qbm(l:List α)(i:Nat)(x:α):sz (l.set i x)≤max (sz l) (sz x):=by
 have h1:=Jcc l i x
 show max (l.set i x).length (szL (l.set i x))≤max (max l.length (szL l)) (sz x)
 rw[List.length_set]; omega
theorem Qik{α:Type}{e:Xs α}:sz e.ks≤sz e:=by
 have:∀l:List (Xs α),szL l=Q8t l:=fun l=>by
  induction l with
  | nil=>rfl
  | cons x l ih=>simp only[szL,Q8t,ih]; rfl
 cases e with
 | mk x ks =>
  show max ks.length (szL ks)≤rsz (.mk x ks)
  rw[this]; simp only[rsz]; exact QG _
end
class Qey(α:Type)[Sz α]:Prop where
 flat:∀x:α,sz x=0
instance:Qey Int:=⟨fun _=>rfl⟩
instance:Qey Bool:=⟨fun _=>rfl⟩
instance (priority:=2000):Qey (List UInt8):=⟨fun _=>rfl⟩
instance {α β:Type} [Sz α] [Sz β] [ha:Qey α] [hb:Qey β]:Qey (α×β):=⟨fun x=>by rw [Qp5,ha.flat,hb.flat]; rfl⟩
theorem Qko{α:Type}[Sz α][h:Qey α](l:List α):sz l=l.length:=by
 have:szL l≤0:=Qth fun x _=>Nat.le_of_eq (h.flat x)
 show max l.length (szL l)=l.length
 omega
structure Qg7{α:Type}(P:α→Prop)(l:List α)(v:Int):Prop where
 at_:∀j:Nat,(j:Int)<v→∀a,l[j]?=some a→P a
theorem Qbn{α:Type}{P:α→Prop}{l:List α}:Qg7 P l 0:=⟨fun j h=>by omega⟩
theorem Pe{α:Type}{P:α→Prop}{l:List α}{v:Int}{x:α}(h0:0≤v)(h:Qg7 P l v)(hx:l[v.toNat]?=some x)(px:P x):Qg7 P l (v+1):=⟨fun j hj a ha=>by
 by_cases hjv:(j:Int)<v
 ·exact h.at_ j hjv a ha
 ·have:j=v.toNat:=by omega
  subst this; rw[hx]at ha; exact Option.some.inj ha▸px⟩
theorem T1{α:Type}{P:α→Prop}{l:List α}{v:Int}(h:Qg7 P l v)(hl:l.length≤v):∀a∈l,P a:=fun a ha=>by
 obtain⟨i,hi,e⟩:=ZV ha
 exact h.at_ i (by omega) a (by rw[List.getElem?_eq_getElem hi,e])
theorem Qzu{α:Type}[Sz α]{B:Int}{l:List α}(h:∀y∈l,(sz y:Int)≤B)(h0:0≤B):(szL l:Int)≤B:=by
 have:=Qth (K:=B.toNat) fun x hx=>by have:=h x hx; omega
 omega
theorem Pf{α:Type}[Sz α](l:List α):sz l=max l.length (szL l):=rfl
class Sh(α:Type) where
 sh:α→Prop
open Sh
instance:Sh Int:=⟨fun _=>True⟩
instance:Sh Bool:=⟨fun _=>True⟩
instance:Sh Unit:=⟨fun _=>True⟩
instance {α β:Type} [Sh α] [Sh β]:Sh (α×β):=⟨fun p=>sh p.1∧sh p.2⟩
instance {α β:Type} [Sh α] [Sh β]:Sh (α⊕β):=⟨fun p=>match p with | .inl a=>sh a | .inr b=>sh b⟩
structure ShL{α:Type}[Sh α](l:List α):Prop where
 all:∀x∈l,sh x
instance {α:Type} [Sh α]:Sh (List α):=⟨ShL⟩
instance (priority:=2000) shStr:Sh (List UInt8):=⟨fun s=>s.length≤9223372036854775807⟩
instance {α:Type}:Sh (Xs α):=⟨fun _=>True⟩
theorem Jty{α:Type}[Sh α]{l:List α}{x:α}(h:x∈l)(hl:sh l):sh x:=hl.all x h
theorem Qil{x:List UInt8}(h:sh x):x.length≤9223372036854775807:=h
theorem Jfa{α:Type}[Sh α](l m:List α):sh (l++m)=(sh l∧sh m):=propext ⟨fun h=>⟨⟨fun x hx=>h.all x (List.mem_append_left _ hx)⟩,⟨fun x hx=>h.all x (List.mem_append_right _ hx)⟩⟩,fun h=>⟨fun x hx=>(QZ.1 hx).elim (h.1.all x) (h.2.all x)⟩⟩
theorem Jo3{α:Type}[Sh α](x:α)(l:List α):sh (x::l)=(sh x∧sh l):=propext ⟨fun h=>⟨h.all x (.head _),⟨fun y hy=>h.all y (.tail _ hy)⟩⟩,fun h=>⟨fun y hy=>(QX.1 hy).elim (fun e=>e▸h.1) (h.2.all y)⟩⟩
theorem Qim{α:Type}[Sh α]{l:List α}{i:Nat}{x:α}(hl:sh l)(hx:sh x):sh (l.set i x):=⟨fun y hy=>(KV hy).elim (hl.all y) (fun e=>e▸hx)⟩
theorem Qfr{α:Type}[Sz α]{K:Int}{l:List α}{i:Nat}{x:α}(h1:(sz l:Int)≤K)(h2:(sz x:Int)≤K):((sz (l.set i x):Nat):Int)≤K:=by
 have:=Qbm l i x
 omega
theorem Qfs{α:Type}[Sz α]{K:Nat}{l:List α}{i:Nat}{x:α}(h1:sz l≤K)(h2:sz x≤K):sz (l.set i x)≤K:=by
 have:=Qbm l i x
 omega
section
variable {V:Type} [Sz V]
theorem Ip(key:Int)(v:V):∀m:List (Int×V),sz (Yd (k:=.int .i64) key v m:List (Int×V))≤max (sz m+1) (sz v)
 | []=>by
  show sz [((key,v):Int×V)]≤_
  rw[Qbl,Qp5]; simp only[Jk7,Jk9,QH]; omega
 | x::m=>by
  have ih:=Ip key v m
  unfold Yd
  cases h:eqK (.int .i64) key x.1 with
  | true =>
   show sz ((key,v)::m:List (Int×V))≤_
   rw[Qbl,Qbl,Qp5]; simp only[Jk7]; omega
  | false =>
   show sz (x::(Yd (k:=.int .i64) key v m:List (Int×V)))≤_
   rw[Qbl,Qbl]
   have:=Zb (l:=(Yd (k:=.int .i64) key v m:List (Int×V)))
   have h2:(Yd (k:=.int .i64) key v m:List (Int×V)).length≤m.length+1:=by
    clear ih h this
    induction m with
    | nil=>exact QG _
    | cons y m ih =>
     unfold Yd
     cases eqK (.int .i64) key y.1 with
     | true=>exact ZQ _
     | false=>exact XF ih
   omega
theorem Ls{W:Type}(key:Int)(v:W):∀m:List (Int×W),(Yd (k:=.int .i64) key v m).length≤m.length+1
 | []=>QG _
 | x::m=>by
  have ih:=Ls key v m
  unfold Yd
  cases eqK (.int .i64) key x.1 with
  | true=>exact ZQ _
  | false=>exact XF ih
theorem Lt{W:Type}(key:Str)(v:W):∀m:List (Str×W),(Yd (k:=.str) key v m).length≤m.length+1
 | []=>QG _
 | x::m=>by
  have ih:=Lt key v m
  unfold Yd
  cases eqK .str key x.1 with
  | true=>exact ZQ _
  | false=>exact XF ih
theorem Lu{W:Type}(key:Str):∀m:List (Str×W),(Lz (k:=.str) key m).length≤m.length
 | []=>QG _
 | x::m=>by
  have ih:=Lu key m
  unfold Lz
  cases eqK .str key x.1 with
  | true=>exact ZQ _
  | false=>exact XF ih
theorem Cj{W:Type}(key:Int):∀m:List (Int×W),(Lz (k:=.int .i64) key m).length≤m.length
 | []=>QG _
 | x::m=>by
  have ih:=Cj key m
  unfold Lz
  cases eqK (.int .i64) key x.1 with
  | true=>exact ZQ _
  | false=>exact XF ih
theorem Qtj{W:Type}{key:Int}{y:Int×W}:∀{m:List (Int×W)},y∈(Lz (k:=.int .i64) key m:List (Int×W))→y∈m
 | x::m,h=>by
  unfold Lz at h
  cases hk:eqK (.int .i64) key x.1 with
  | true=>rw[hk]at h; exact .tail _ h
  | false =>
   rw[hk]at h
   rcases QX.1 h with h | h
   ·exact h▸.head _
   ·exact .tail _ (Qtj h)
theorem Qbo(key:Int)(m:List (Int×V)):sz (Lz (k:=.int .i64) key m:List (Int×V))≤sz m:=Qzt (Cj key m) fun _ h=>Qtj h
theorem Ck(key:Int)(d:V):∀m:List (Int×V),sz ((Qr (k:=.int .i64) key m).getD d)≤max (sz m) (sz d)
 | []=>Nat.le_max_right _ _
 | x::m=>by
  have ih:=Ck key d m
  unfold Qr
  rw[Qbl,Qp5]
  cases eqK (.int .i64) key x.1 with
  | true=>show sz x.2≤_; omega
  | false=>show sz ((Qr (k:=.int .i64) key m).getD d)≤_; omega
end
theorem Qtk(x:Int):eqK (.int .i64) x x=true:=by simp[eqK]
theorem Qez(x:Str):eqK .str x x=true:=by simp[eqK]
class Y2(N:Nat):Prop where
 le:18446744073709551616≤N
section
variable {α β σ τ:Type}
instance wpIdx [Sz α] [Sh α] {l:List α} {i:Int}:WP (idx l i) (fun R=>(0≤i∧i<l.length)∧∀x,x∈l→sz x≤sz l→(Sh.sh l→Sh.sh x)→l[i.toNat]?=some x→R x):=⟨fun R h=>by
 obtain⟨⟨h0,h1⟩,hR⟩:=h
 have hi:i.toNat<l.length:=by omega
 have hm:l[i.toNat]∈l:=XB hi
 refine⟨l[i.toNat],?_,hR _ hm (Qex hm) (Jty hm) (List.getElem?_eq_getElem hi)⟩
 unfold idx
 rw[if_pos h0,List.getElem?_eq_getElem hi]⟩
instance wpSidx {s:Str} {i:Int}:WP (Dr s i) (fun R=>(0≤i∧i<s.length)∧∀x,0≤x→x<256→R x):=⟨fun R h=>by
 obtain⟨⟨h0,h1⟩,hR⟩:=h
 have hi:i.toNat<s.length:=by omega
 refine⟨((s[i.toNat]).toNat:Int),?_,hR _ (by omega) (by have:=UInt8.toNat_lt s[i.toNat]; omega)⟩
 unfold Dr idx
 rw[if_pos h0,List.getElem?_eq_getElem hi]; rfl⟩
instance wpSlc [Sz α] [Sh α] {l:List α} {a b:Int}:WP (slc l a b) (fun R=>(0≤a∧a≤b∧b≤l.length)∧∀s,(s.length:Int)=b - a→(∀x∈s,x∈l)→sz s≤sz l→(Sh.sh l→Sh.sh s)→R s):=⟨fun R h=>by
 obtain⟨⟨h0,h1,h2⟩,hR⟩:=h
 have hlen:(((l.drop a.toNat).take (b - a).toNat).length:Int)=b - a:=by rw[List.length_take,List.length_drop]; omega
 have hm:∀x∈(l.drop a.toNat).take (b - a).toNat,x∈l:=fun x hx=>List.mem_of_mem_drop (VX hx)
 refine⟨(l.drop a.toNat).take (b - a).toNat,?_,hR _ hlen hm (Qzt (by rw[List.length_take,List.length_drop]; omega) hm) (fun h=>⟨fun x hx=>h.all x (hm x hx)⟩)⟩
 unfold slc
 rw[if_pos ⟨h0,h1,h2⟩]⟩
instance wpApp {b:Nat} {l m:List α}:WP (app b l m) (fun R=>(l.length+m.length)*b≤140737488355328∧R (l++m)):=⟨fun R h=>⟨l++m,by unfold app; rw [if_pos h.1],h.2⟩⟩
instance wpMkL {b:Nat} {l c:Int} {z:α}:WP (mkL b l c z) (fun R=>(0≤l∧l≤c∧(b:Int)*c≤281474976710656)∧R (List.replicate l.toNat z)):=⟨fun R h=>⟨_,by unfold mkL; rw [if_pos h.1],h.2⟩⟩
instance wpQuo {k:IntKind} {x y:Int}:WP (Qk6 k x y) (fun R=>y≠0∧R (k.wrap (x.tdiv y))):=⟨fun R h=>⟨_,by unfold Qk6; rw [if_neg h.1],h.2⟩⟩
instance wpRem {x y:Int}:WP (Qyj x y) (fun R=>y≠0∧R (x.tmod y)):=⟨fun R h=>⟨_,by unfold Qyj; rw [if_neg h.1],h.2⟩⟩
instance wpShr {k:IntKind} {x y:Int}:WP (Jdi k x y) (fun R=>0≤y∧∀r,R r):=⟨fun R h=>⟨_,by unfold Jdi; rw [if_neg (by omega)],h.2 _⟩⟩
instance wpShl {k:IntKind} {x y:Int}:WP (Jdj k x y) (fun R=>0≤y∧∀r,R r):=⟨fun R h=>⟨_,by unfold Jdj; rw [if_neg (by omega)],h.2 _⟩⟩
instance wpScat {a b:Str}:WP (Jno a b) (fun R=>a.length+b.length≤9223372036854775807∧R (a++b)):=⟨fun R h=>⟨_,by unfold Jno; rw [if_pos h.1],h.2⟩⟩
instance wpChk {b:Bool}:WP (chk b) (fun R=>b=true∧R ()):=⟨fun R h=>⟨(),by rw [h.1]; rfl,h.2⟩⟩
theorem Jtz{f:σ→α→Option σ}{es:List α}(I:Int→σ→Prop)(step:∀(n:Int) s e,e∈es→0≤n→n<es.length→I n s→W (f s e) (I (n+1))){s:σ}:WP (Qnt f es s) (fun R=>I 0 s∧∀r,I es.length r→R r):=Lr fun h=>by
 have main:∀(l:List α) (n:Int) (s:σ),(∀e∈l,e∈es)→0≤n→n+l.length=es.length→I n s→W (Qnt f l s) (I es.length):=by
  intro l
  induction l with
  | nil=>intro n s hm h0 hn hI; exact⟨s,rfl,by rw[←hn]; simpa using hI⟩
  | cons x l ih =>
   intro n s hm h0 hn hI
   simp only[List.length_cons]at hn
   obtain⟨s1,e1,h1⟩:=step n s x (hm x (.head _)) h0 (by omega) hI
   show W ((f s x).bind fun s'=>Qnt f l s') _
   rw[e1]
   exact ih (n+1) s1 (fun e he=>hm e (.tail _ he)) (by omega) (by omega) h1
 exact main es 0 s (fun _ h=>h) (ZP _) (by simp) h
theorem Q8u{f:σ→Option (σ⊕τ)}{N:Nat}[hN:Y2 N](μ:σ→Nat)(I:σ→Prop)(Q:τ→Prop)(hμ:∀s,I s→μ s<18446744073709551616)
  (step:∀s,I s→W (f s) fun r=>match r with | .inl s'=>I s'∧μ s'<μ s | .inr t=>Q t) (s:σ):WP (Qe f N s) (fun R=>I s∧∀r,Q r→R r):=Lr fun h=>by
 have main:∀(k n:Nat) (s:σ),I s→μ s≤k→k<n→W (Qe f n s) Q:=by
  intro k
  induction k with
  | zero =>
   intro n s hI hk hn
   obtain⟨m,rfl⟩:∃m,n=m+1:=⟨n - 1,by omega⟩
   obtain⟨r,e,hr⟩:=step s hI
   cases r with
   | inl s'=>exact absurd hr.2 (by omega)
   | inr t=>exact⟨t,by simp[Qe,e],hr⟩
  | succ k ih =>
   intro n s hI hk hn
   obtain⟨m,rfl⟩:∃m,n=m+1:=⟨n - 1,by omega⟩
   obtain⟨r,e,hr⟩:=step s hI
   cases r with
   | inl s' =>
    obtain⟨t,e2,ht⟩:=ih m s' hr.1 (by have:=hr.2; omega) (by omega)
    exact⟨t,by simp[Qe,e,e2],ht⟩
   | inr t=>exact⟨t,by simp[Qe,e],hr⟩
 exact main (μ s) N s h (QG _) (QP (hμ s h) hN.le)
theorem ss:(∀(p:Prop) [Decidable p],(decide p=true)=p)∧(∀(p:Prop) [Decidable p],(decide p=false)=¬ p)∧(∀b:Bool,(¬ b=true)=(b=false))∧(∀a b:Bool,((a&&b)=true)=(a=true∧b=true))∧(∀a b:Bool,((a||b)=true)=(a=true∨b=true)) ∧
  (∀b:Bool,((!b)=true)=(b=false))∧(∀b:Bool,((!b)=false)=(b=true))∧(∀a b:Bool,((a&&b)=false)=(a=true→b=false))∧(∀a b:Bool,((a||b)=false)=(a=false∧b=false)) ∧
  (∀a b:Int,((a==b)=true)=(a=b))∧(∀a b:Int,((a==b)=false)=¬ a=b)∧(∀a b:Int,((a != b)=true)=¬ a=b)∧(∀a b:Int,((a != b)=false)=(a=b))∧(∀p q:Prop,(¬ (p∧q))=(p→¬ q))∧(∀p q:Prop,(¬ (p∨q))=(¬ p∧¬ q)):=by
 refine⟨?_,?_,?_,?_,?_,?_,?_,?_,?_,?_,?_,?_,?_,?_,?_⟩
 all_goals intros
 all_goals simp
theorem sz1:(∀(α β:Type) [Sz α] [Sz β] (p:α×β),sz p=max (sz p.1) (sz p.2))∧(∀x:Int,sz x=0)∧(∀x:Bool,sz x=0)∧(∀x:Unit,sz x=0)∧(∀x:List UInt8,sz x=0)∧(∀(α β:Type) [Sz α] [Sz β] (a:α),sz (Sum.inl a:α⊕β)=sz a) ∧
  (∀(α β:Type) [Sz α] [Sz β] (b:β),sz (Sum.inr b:α⊕β)=sz b)∧(∀(α:Type) [Sz α] [Qey α] (l:List α),sz l=l.length) ∧
  (∀(α:Type) [Sz α] (l m:List α),sz (l++m)=max (l.length+m.length) (max (sz l) (sz m)))∧(∀(α:Type) [Sz α] (x:α) (l:List α),sz (x::l)=max (l.length+1) (max (sz x) (sz l)))∧(∀(α:Type) [Sz α],sz ([]:List α)=0) :=
 ⟨fun _ _ _ _ _=>rfl,fun _=>rfl,fun _=>rfl,fun _=>rfl,fun _=>rfl,fun _ _ _ _ _=>rfl,fun _ _ _ _ _=>rfl,fun _ _ _ l=>Qko l,fun _ _=>Je9,fun _ _=>Qbl,fun _ _=>rfl⟩
theorem sh1:(∀(α β:Type) [Sh α] [Sh β] (p:α×β),Sh.sh p=(Sh.sh p.1∧Sh.sh p.2))∧(∀x:Int,Sh.sh x=True)∧(∀x:Bool,Sh.sh x=True)∧(∀x:Unit,Sh.sh x=True)∧(∀(α:Type) (x:Xs α),Sh.sh x=True)∧(∀(α β:Type) [Sh α] [Sh β] (a:α),Sh.sh (Sum.inl a:α⊕β)=Sh.sh a) ∧
  (∀(α β:Type) [Sh α] [Sh β] (b:β),Sh.sh (Sum.inr b:α⊕β)=Sh.sh b)∧(∀(α:Type) [Sh α] (l m:List α),Sh.sh (l++m)=(Sh.sh l∧Sh.sh m))∧(∀(α:Type) [Sh α] (x:α) (l:List α),Sh.sh (x::l)=(Sh.sh x∧Sh.sh l))∧(∀(α:Type) [Sh α],Sh.sh ([]:List α)=True)∧Sh.sh ([]:List UInt8)=True :=
 ⟨fun _ _ _ _ _=>rfl,fun _=>rfl,fun _=>rfl,fun _=>rfl,fun _ _=>rfl,fun _ _ _ _ _=>rfl,fun _ _ _ _ _=>rfl,fun _ _=>Jfa,fun _ _=>Jo3,fun _ _=>propext ⟨fun _=>trivial,fun _=>⟨fun _ h=>by cases h⟩⟩,propext ⟨fun _=>trivial,fun _=>by show([]:List UInt8).length≤_; decide⟩⟩
theorem mx1:(∀n:Nat,max 0 n=n)∧(∀n:Nat,max n 0=n)∧(∀a b c:Nat,(max a b≤c)=(a≤c∧b≤c))∧(∀a b:Nat,((max a b:Nat):Int)=max (a:Int) (b:Int))∧(∀a b c:Int,(max a b≤c)=(a≤c∧b≤c)) :=
 ⟨VG,KM,fun _ _ _=>propext KX,Jk6,fun _ _ _=>propext Int.max_le⟩
theorem sS:(((∀(α β:Type) (p:α⊕β→Prop),(∀x,p x)=((∀a,p (.inl a))∧∀b,p (.inr b)))∧(∀(α β:Type) (a b:α),((Sum.inl a:α⊕β)=.inl b)=(a=b))∧(∀(α β:Type) (a b:β),((Sum.inr a:α⊕β)=.inr b)=(a=b))∧(∀(α:Type) (p:α→Prop) (a:α),(∀b,a=b→p b)=p a)∧(∀(α:Type) (p:α→Prop) (a:α),(∀b,b=a→p b)=p a)) ∧
  (∀p:Prop,(False→p)=True)∧(∀α:Type,(α→True)=True)∧(∀p:Prop,(p→True)=True)∧(∀p:Prop,(True→p)=p)∧(∀p:Prop,(p∧True)=p)∧(∀p:Prop,(True∧p)=p)∧(∀(α:Type) [Nonempty α] (p:Prop),(α→p)=p)∧(∀(α:Type) [BEq α] [LawfulBEq α] (a b:α),((a==b)=true)=(a=b))∧(∀(α:Type) [BEq α] [LawfulBEq α] (a b:α),((a != b)=true)=(a≠b))∧(∀(α:Type) (a b:α),(a≠b)=¬ (a=b)) ∧
  (∀(α:Type) (l m:List α),(l++m).length=l.length+m.length)∧(∀(α:Type) (x:α) (l:List α),(x::l).length=l.length+1)∧(∀(α:Type),([]:List α).length=0)∧(∀(α:Type) (l:List α) (i:Nat) (x:α),(l.set i x).length=l.length)∧(∀(α:Type) (l:List α),[]++l=l)∧∀n:Nat,0+n=n)∧(type_of% ss)∧(type_of% sz1)∧(type_of% sh1)∧type_of% mx1:=by
 refine⟨⟨⟨fun _ _ p=>propext Sum.forall,?_,?_,?_,?_⟩,?_,?_,?_,?_,?_,?_,fun _ _ _=>propext (forall_const _),fun _ _ _ a b=>propext beq_iff_eq,fun _ _ _ a b=>propext bne_iff_ne,?_,?_,?_,?_,?_,?_,?_⟩,ss,sz1,sh1,mx1⟩
 all_goals simp
theorem lv{P:Prop}(h:P:=by first | assumption | omega | exact Qbn | ((simp (disch:=omega) only [Q0] at *)<;>omega) | ((first | refine Qfr ?_ ?_ | refine Qfs ?_ ?_)<;>(try simp only [sz1,mx1])<;>first | omega | ((simp (disch:=omega) only [Q0] at *)<;>omega)) | exact Nat.le_trans Zb (by omega) | exact Qtk _ | exact Qez _ | grind [Pf,Qbm,Qim,Ip,Qbo,Ck,Ls,Lt,Cj,Lu]):P:=h
theorem mkW {o o':Option α} {T:(α→Prop)→Prop} (e:o=o') [hw:WP o' T] (P:Prop) (Q:α→Prop) (k:P→T Q:=by
  intro h
  try simp only[sS,reduceCtorEq]at *
  repeat' (first | intro _ | apply And.intro)
  all_goals first | assumption | omega | exact Qbn | ((simp (disch:=omega) only [Q0]at *)<;>omega) | ((first | refine Qfr ?_ ?_ | refine Qfs ?_ ?_)<;>(try simp only[sz1,mx1])<;>first | omega | ((simp (disch:=omega) only [Q0]at *)<;>omega)) | exact Nat.le_trans Zb (by omega) | exact Qtk _ | exact Qez _ | grind [Pf,Qbm,Qim,Ip,Qbo,Ck,Ls,Lt,Cj,Lu]):WP o (fun R=>P∧∀r,Q r→R r):=Lr fun h=>by rw[e]; exact hw.spec Q (k h)
theorem Jt0{f:σ→Option (σ⊕τ)}{N:Nat}[hN:Y2 N](ix:σ→Int)(len:Nat)(I:σ→Prop)(Q:τ→Prop)(hl:∀s,I s→len≤9223372036854775807)
  (step:∀s,I s→0≤ix s→ix s≤len→(ix s<len→IntKind.wrap .i64 (ix s+1)=ix s+1)→W (f s) fun r=>match r with | .inl s'=>I s'∧ix s<len∧ix s'=IntKind.wrap .i64 (ix s+1) | .inr t=>Q t) (s:σ) :
  WP (Qe f N s) (fun R=>(I s∧0≤ix s∧ix s≤len)∧∀r,Q r→R r) :=
 Q8u (fun s=>((len:Int) - ix s).toNat) (fun s=>I s∧0≤ix s∧ix s≤len) Q (fun s h=>by have:=hl s h.1; omega) (fun s h=>by
  have hl':=hl s h.1
  have hw:ix s<len→IntKind.wrap .i64 (ix s+1)=ix s+1:=fun hlt=>by
   exact Q0 (by omega) (by omega)
  refine(step s h.1 h.2.1 h.2.2 hw).mono fun r hr=>?_
  cases r with
  | inl s' =>
   obtain⟨h1,h2,h3⟩:=hr
   rw[hw h2]at h3
   exact⟨⟨h1,by omega,by omega⟩,by omega⟩
  | inr t=>exact hr) s
theorem upL {f f':σ→Option (σ⊕τ)} {B:σ→(σ⊕τ→Prop)→Prop} (e:∀s,f s=f' s) [hf:WPf f' B] {N:Nat} [hN:Y2 N] (ix:σ→Int) (len:Nat) (I:σ→Prop) (Q:τ→Prop) (hl:∀s,I s→len≤9223372036854775807:=by
  intro s h
  try simp only[sz1,sh1,mx1]at *
  first | omega | exact Nat.le_trans Zb (by omega) | grind [Pf])
  (step:∀s,I s→0≤ix s→ix s≤len→len≤9223372036854775807→(ix s<len→IntKind.wrap .i64 (ix s+1)=ix s+1)→B s (fun r=>match r with | .inl s'=>I s'∧ix s<len∧ix s'=IntKind.wrap .i64 (ix s+1) | .inr t=>Q t):=by
  intro s h h0 h1 h2 hw
  try simp only[sS,reduceCtorEq]at *
  repeat' (first | intro _ | apply And.intro)
  all_goals first | assumption | omega | ((simp (disch:=omega) only [Q0]at *)<;>omega) | ((first | refine Qfr ?_ ?_ | refine Qfs ?_ ?_)<;>(try simp only[sz1,mx1])<;>first | omega | ((simp (disch:=omega) only [Q0]at *)<;>omega)) | exact Nat.le_trans Zb (by omega) | exact Qtk _ | exact Qez _ | grind [Pf,Qbm,Qim,Ip,Qbo,Ck,Ls,Lt,Cj,Lu]) {s:σ} :
  WP (Qe f N s) (fun R=>(I s∧0≤ix s∧ix s≤len)∧∀r,Q r→R r):=Jt0 ix len I Q hl (fun s h h0 h1 hw=>by rw[e s]; exact hf.spec s _ (step s h h0 h1 (hl s h) hw)) s
theorem Qmx {α ε:Type} {f f':Int→Option (Int⊕(Unit⊕ε))} {B:Int→(Int⊕(Unit⊕ε)→Prop)→Prop} (e:∀s,f s=f' s) [hf:WPf f' B] {N:Nat} [hN:Y2 N] (l:List α) (I:Prop) (P:α→Prop) (C:Prop) (E:ε→Prop) (hl:I→l.length≤9223372036854775807:=by
  intro h
  try simp only[sz1,sh1,mx1]at *
  first | omega | exact Nat.le_trans Zb (by omega) | grind [Pf])
  (fin:I→(∀y∈l,P y)→C:=by
  intro h hall
  first | exact hall | exact Qzu hall (by omega))
  (step:∀s:Int,I→0≤s→s≤l.length→l.length≤9223372036854775807→(s<l.length→IntKind.wrap .i64 (s+1)=s+1)→B s (fun r=>match r with | .inl s'=>(∃x,l[s.toNat]?=some x∧P x)∧s<l.length∧s'=IntKind.wrap .i64 (s+1) | .inr t=>(∀u,t=.inl u→l.length≤s)∧∀u,t=.inr u→E u):=by
  intro s h h0 h1 h2 hw
  try simp only[sS,reduceCtorEq]at *
  repeat' (first | intro _ | apply And.intro)
  all_goals first | assumption | omega | ((simp (disch:=omega) only [Q0]at *)<;>omega) | (refine⟨_,by assumption,?_⟩; first | assumption | omega | ((simp (disch:=omega) only [Q0]at *)<;>omega) | ((first | refine Qfr ?_ ?_ | refine Qfs ?_ ?_)<;>(try simp only[sz1,mx1])<;>first | omega | ((simp (disch:=omega) only [Q0]at *)<;>omega)) | exact Nat.le_trans Zb (by omega) | exact Qtk _ | exact Qez _ | grind [Pf,Qbm,Qim,Ip,Qbo,Ck,Ls,Lt,Cj,Lu]) | exact Nat.le_trans Zb (by omega) | exact Qtk _ | exact Qez _ | grind [Pf,Qbm,Qim,Ip,Qbo,Ck,Ls,Lt,Cj,Lu]) {s:Int} :
  WP (Qe f N s) (fun R=>(I∧Qg7 P l s∧0≤s∧s≤l.length)∧∀r:Unit⊕ε,((∀u,r=.inl u→C)∧∀u,r=.inr u→E u)→R r):=⟨fun R h=>by
 have hw:=Jt0 (f:=f) (N:=N) (fun s=>s) l.length (fun s=>I∧Qg7 P l s) (fun r:Unit⊕ε=>(∀u,r=.inl u→C)∧∀u,r=.inr u→E u) (fun s h=>hl h.1) (fun s h h0 h1 hw=>by
  rw[e s]
  refine(hf.spec s _ (step s h.1 h0 h1 (hl h.1) hw)).mono fun r hr=>?_
  cases r with
  | inl s' =>
   obtain⟨x1,x2,x3⟩:=hr
   refine⟨⟨h.1,?_⟩,x2,x3⟩
   rw[x3,hw x2]
   obtain⟨x,y1,y2⟩:=x1
   exact Pe h0 h.2 y1 y2
  | inr t =>
   refine⟨fun u hu=>?_,hr.2⟩
   have hge:=hr.1 u hu
   exact fin h.1 (T1 h.2 hge)) s
 exact hw.spec R ⟨⟨⟨h.1.1,h.1.2.1⟩,h.1.2.2⟩,h.2⟩⟩
theorem Jvp{f:σ→Option (σ⊕τ)}{N:Nat}[hN:Y2 N](ix:σ→Int)(E:Int)(I:σ→Prop)(Q:τ→Prop)(hl:∀s,I s→E≤9223372036854775807)
  (step:∀s,I s→0≤ix s→(ix s<E→IntKind.wrap .i64 (ix s+1)=ix s+1)→W (f s) fun r=>match r with | .inl s'=>I s'∧ix s<E∧ix s'=IntKind.wrap .i64 (ix s+1) | .inr t=>Q t) (s:σ) :
  WP (Qe f N s) (fun R=>(I s∧0≤ix s)∧∀r,Q r→R r) :=
 Q8u (fun s=>(E - ix s).toNat) (fun s=>I s∧0≤ix s) Q (fun s h=>by have:=hl s h.1; omega) (fun s h=>by
  have hl':=hl s h.1
  have hw:ix s<E→IntKind.wrap .i64 (ix s+1)=ix s+1:=fun hlt=>by
   exact Q0 (by omega) (by omega)
  refine(step s h.1 h.2 hw).mono fun r hr=>?_
  cases r with
  | inl s' =>
   obtain⟨h1,h2,h3⟩:=hr
   rw[hw h2]at h3
   exact⟨⟨h1,by omega⟩,by omega⟩
  | inr t=>exact hr) s
theorem upI {f f':σ→Option (σ⊕τ)} {B:σ→(σ⊕τ→Prop)→Prop} (e:∀s,f s=f' s) [hf:WPf f' B] {N:Nat} [hN:Y2 N] (ix:σ→Int) (E:Int) (I:σ→Prop) (Q:τ→Prop) (hl:∀s,I s→E≤9223372036854775807:=by
  intro s h
  try simp only[sz1,sh1,mx1]at *
  first | omega | grind [Pf])
  (step:∀s,I s→0≤ix s→(ix s<E→IntKind.wrap .i64 (ix s+1)=ix s+1)→B s (fun r=>match r with | .inl s'=>I s'∧ix s<E∧ix s'=IntKind.wrap .i64 (ix s+1) | .inr t=>Q t):=by
  intro s h h0 hw
  try simp only[sS,reduceCtorEq]at *
  repeat' (first | intro _ | apply And.intro)
  all_goals first | assumption | omega | ((simp (disch:=omega) only [Q0]at *)<;>omega) | ((first | refine Qfr ?_ ?_ | refine Qfs ?_ ?_)<;>(try simp only[sz1,mx1])<;>first | omega | ((simp (disch:=omega) only [Q0]at *)<;>omega)) | exact Nat.le_trans Zb (by omega) | exact Qtk _ | exact Qez _ | grind [Pf,Qbm,Qim,Ip,Qbo,Ck,Ls,Lt,Cj,Lu]) {s:σ} :
  WP (Qe f N s) (fun R=>(I s∧0≤ix s)∧∀r,Q r→R r):=Jvp ix E I Q hl (fun s h h0 hw=>by rw[e s]; exact hf.spec s _ (step s h h0 hw)) s
theorem mkL {f f':σ→Option (σ⊕τ)} {B:σ→(σ⊕τ→Prop)→Prop} (e:∀s,f s=f' s) [hf:WPf f' B] {N:Nat} [hN:Y2 N] (μ:σ→Nat) (I:σ→Prop) (Q:τ→Prop) (hμ:∀s,I s→μ s<18446744073709551616:=by
  intro s h
  try simp only[sz1,sh1,mx1]at *
  first | omega | grind [Pf])
  (step:∀s,I s→B s (fun r=>match r with | .inl s'=>I s'∧μ s'<μ s | .inr t=>Q t):=by
  intro s h
  try simp only[sS,reduceCtorEq]at *
  repeat' (first | intro _ | apply And.intro)
  all_goals first | assumption | omega | ((simp (disch:=omega) only [Q0]at *)<;>omega) | ((first | refine Qfr ?_ ?_ | refine Qfs ?_ ?_)<;>(try simp only[sz1,mx1])<;>first | omega | ((simp (disch:=omega) only [Q0]at *)<;>omega)) | exact Nat.le_trans Zb (by omega) | exact Qtk _ | exact Qez _ | grind [Pf,Qbm,Qim,Ip,Qbo,Ck,Ls,Lt,Cj,Lu]) {s:σ} :
  WP (Qe f N s) (fun R=>I s∧∀r,Q r→R r):=Q8u μ I Q hμ (fun s h=>by rw[e s]; exact hf.spec s _ (step s h)) s
end
mutual
def dpt{α:Type}:Xs α→Nat
 | .mk _ ks=>Jfb ks+1
def Jfb{α:Type}:List (Xs α)→Nat
 | []=>0
 | x::l=>max (dpt x) (Jfb l)
end
theorem Q4e{α:Type}:∀{l:List (Xs α)} {x:Xs α},x∈l→dpt x≤Jfb l
 | y::l,x,h=>by
  rw[Jfb]
  rcases QX.1 h with rfl | h
  ·omega
  ·have:=Q4e h; omega
theorem Jla{α:Type}{e x:Xs α}(h:x∈e.ks):dpt x<dpt e:=by
 cases e with
 | mk a ks=>rw[dpt]; have:=Q4e (l:=ks) h; omega
theorem Jcd{α:Type}{K:Nat}:∀{l:List (Xs α)},(∀x∈l,dpt x≤K)→Jfb l≤K
 | [],_=>JQ _
 | x::l,h=>by rw[Jfb]; exact KX.2 ⟨h x (.head _),Jcd fun y hy=>h y (.tail _ hy)⟩
theorem Jt1{α:Type}{e:Xs α}{K:Nat}(h:∀x∈e.ks,dpt x≤K):dpt e≤K+1:=by
 cases e with
 | mk a ks=>rw[dpt]; have:=Jcd (l:=ks) h; omega
structure Jb{α:Type}(P:α→Prop)(l:List α):Prop where
 all:∀x∈l,P x
structure Kh(x:Qo):Prop where
 deep:∀d∈x.2.2.2.2.2.2,dpt d.2.1≤4096
open Go Gd Sz
theorem Qzv(m:List (Int×Int×Int×Int×Str×List Str×List Str×Bool×Bool))(x:Int) :
  ((Qr (k:=.int .i64) x m).getD (0,0,0,([]:Str),([]:List Str),([]:List Str),false,false)).2.2.2.2.1.length≤sz m∧((Qr (k:=.int .i64) x m).getD (0,0,0,([]:Str),([]:List Str),([]:List Str),false,false)).2.2.2.2.2.1.length≤sz m:=by
 have h:=Ck x ((0,0,0,([]:Str),([]:List Str),([]:List Str),false,false):Int×Int×Int×Str×List Str×List Str×Bool×Bool) m
 simp only[sz1,mx1,QH,KM,VG]at h ⊢
 omega
theorem Jce(m:List (Int×Int×Int×Int×Bool×Bool×List Int))(x:Int) :
  ((Qr (k:=.int .i64) x m).getD (0,0,0,false,false,([]:List Int))).2.2.2.2.2.length≤sz m:=by
 have h:=Ck x ((0,0,0,false,false,([]:List Int)):Int×Int×Int×Bool×Bool×List Int) m
 simp only[sz1,mx1,QH,KM,VG]at h ⊢
 omega
theorem Q4f(m:List (Int×List Int))(x:Int):((Qr (k:=.int .i64) x m).getD ([]:List Int)).length≤sz m:=by
 have h:=Ck x ([]:List Int) m
 simp only[sz1,mx1,QH,KM]at h ⊢
 omega
theorem Jo4{V:Type}[Sz V]{K:Int}{x:Int}{v:V}{m:List (Int×V)}(h1:(sz m:Int)+1≤K)(h2:(sz v:Int)≤K):((sz (Yd (k:=.int .i64) x v m:List (Int×V)):Nat):Int)≤K:=by
 have:=Ip x v m
 omega
theorem Y5{α:Type}{l:List α}{i:Int}{x:α}(h0:0≤i)(h:l[i.toNat]?=some x):l.take i.toNat++[x]=l.take (i+1).toNat:=by
 have e:(i+1).toNat=i.toNat+1:=by omega
 rw[e,List.take_add_one,h]; rfl
theorem Uc{α:Type}{l:List α}{i:Int}(h:(l.length:Int)≤i):l.take i.toNat=l:=List.take_of_length_le (by omega)
instance (priority:=2000) wpSlcS {l:Str} {a b:Int}:WP (slc l a b) (fun R=>(0≤a∧a≤b∧b≤(List.length l:Int))∧∀s:Str,(List.length s:Int)=b - a→R s):=⟨fun R h=>by
 obtain⟨⟨h0,h1,h2⟩,hR⟩:=h
 refine⟨(l.drop a.toNat).take (b - a).toNat,?_,hR _ (by rw[List.length_take,List.length_drop]; omega)⟩
 unfold slc
 rw[if_pos ⟨h0,h1,h2⟩]⟩
def lpd(y:Int):Int:=if(y.tmod 4=0∧y.tmod 100≠0)∨y.tmod 400=0 then 1 else 0
def bef(y:Int):Int:=365*(y - 2000)+(if y>2000 then(y - 2001) / 4 - (y - 2001) / 100+(y - 2001) / 400+1 else 0)
theorem Jlb(y:Int):0≤lpd y∧lpd y≤1:=by unfold lpd; split<;>omega
theorem Jlc(y:Int)(h:2000≤y):bef (y+1)=bef y+365+lpd y:=by
 unfold bef lpd
 rw[JP (by omega),JP (by omega),JP (by omega)]
 split<;>split<;>split<;>omega
theorem Qzw(y:Int)(h:2000≤y):365*(y - 2000)≤bef y∧bef y≤366*(y - 2000):=by
 unfold bef
 split<;>omega
theorem Jld:bef 2400=146097:=by decide
def mon(y m:Int):Int:=if m=2 then 28+lpd y else if m=4∨m=6∨m=9∨m=11 then 30 else 31
def lft(y m:Int):Int:=if m=1 then 365+lpd y else if m=2 then 334+lpd y else if m=3 then 306 else if m=4 then 275 else if m=5 then 245 else if m=6 then 214 else if m=7 then 184 else if m=8 then 153 else if m=9 then 122 else if m=10 then 92 else if m=11 then 61 else if m=12 then 31 else 0
theorem Jle(y m:Int)(h:1≤m∧m≤12):lft y m=mon y m+lft y (m+1):=by
 have hx:m=1∨m=2∨m=3∨m=4∨m=5∨m=6∨m=7∨m=8∨m=9∨m=10∨m=11∨m=12:=by omega
 rcases hx with rfl | rfl | rfl | rfl | rfl | rfl | rfl | rfl | rfl | rfl | rfl | rfl<;>simp[lft,mon]<;>omega
theorem Jvq(y:Int):lft y 1=365+lpd y:=by simp[lft]
theorem Jt2(y:Int):lft y 13=0:=by simp[lft]
theorem Qe0{W:Type}{key:Int}{v:W}{y:Int×W}:∀{m:List (Int×W)},y∈(Yd (k:=.int .i64) key v m:List (Int×W))→y=(key,v)∨y∈m
 | [],h=>by
  unfold Yd at h
  rcases QX.1 h with h | h
  ·exact .inl h
  ·exact .inr h
 | x::m,h=>by
  unfold Yd at h
  cases hk:eqK (.int .i64) key x.1 with
  | true =>
   rw[hk]at h
   rcases QX.1 h with h | h
   ·exact .inl h
   ·exact .inr (.tail _ h)
  | false =>
   rw[hk]at h
   rcases QX.1 h with h | h
   ·exact .inr (h▸.head _)
   ·rcases Qe0 h with h | h
    ·exact .inl h
    ·exact .inr (.tail _ h)
theorem Qw5{W:Type}{key:Int}:∀{m:List (Int×W)} {v:W},Qr (k:=.int .i64) key m=some v→∃p∈m,p.2=v
 | x::m,v,h=>by
  unfold Qr at h
  cases hk:eqK (.int .i64) key x.1 with
  | true=>rw[hk]at h; exact⟨x,.head _,Option.some.inj h⟩
  | false =>
   rw[hk]at h
   obtain⟨p,hp,e⟩:=Qw5 h
   exact⟨p,.tail _ hp,e⟩
structure Qg8(m:List (Int×Int))(n:Int):Prop where
 all:∀p∈m,0≤p.2∧p.2<n
theorem Qft{n:Int}:Qg8 [] n:=⟨fun _ h=>absurd h QO⟩
theorem Qfu{m:List (Int×Int)}{n key v:Int}(h:Qg8 m n)(h0:0≤v)(h1:v<n):Qg8 (Yd (k:=.int .i64) key v m) n:=⟨fun p hp=>by
 rcases Qe0 hp with e | hp
 ·rw[e]; exact⟨h0,h1⟩
 ·exact h.all p hp⟩
theorem Qfv{m:List (Int×Int)}{n key d:Int}(h:Qg8 m n)(hs:(Qr (k:=.int .i64) key m).isSome=true):0≤(Qr (k:=.int .i64) key m).getD d∧(Qr (k:=.int .i64) key m).getD d<n:=by
 cases e:Qr (k:=.int .i64) key m with
 | none=>rw[e]at hs; exact absurd hs (by decide)
 | some v =>
  obtain⟨p,hp,e2⟩:=Qw5 e
  have:=h.all p hp
  rw[e2]at this; exact this
theorem Qw6{W:Type}{key:Str}{v:W}:∀{m:List (Str×W)},Qr (k:=.str) key (Yd (k:=.str) key v m:List (Str×W))=some v
 | []=>by
  unfold Yd Qr
  rw[Qez]; rfl
 | x::m=>by
  unfold Yd
  cases hk:eqK .str key x.1 with
  | true=>show Qr (k:=.str) key ((key,v)::m:List (Str×W))=_; unfold Qr; rw[Qez]; rfl
  | false =>
   show Qr (k:=.str) key (x::(Yd (k:=.str) key v m:List (Str×W)))=_
   unfold Qr
   rw[hk]; exact Qw6
theorem Zf{α:Type}{P:α→Prop}:Jb P []:=⟨fun _ h=>absurd h QO⟩
theorem Ud{α:Type}{P:α→Prop}{l m:List α}(h:Jb P l)(k:Jb P m):Jb P (l++m):=⟨fun x hx=>(QZ.1 hx).elim (h.all x) (k.all x)⟩
theorem Xa{α:Type}{P:α→Prop}{x:α}(h:P x):Jb P [x]:=⟨fun y hy=>by rw[JK.1 hy]; exact h⟩
theorem Q4g{α:Type}{P:α→Prop}{x y:α}(h:P x)(k:P y):Jb P [x,y]:=⟨fun z hz=>by
 rcases QX.1 hz with e | hz
 ·rw[e]; exact h
 ·rw[JK.1 hz]; exact k⟩
theorem Qkp{α:Type}{P:α→Prop}{l:List α}{i:Nat}{x:α}(h:Jb P l)(k:P x):Jb P (l.set i x):=⟨fun y hy=>(KV hy).elim (h.all y) (fun e=>e▸k)⟩
theorem Qfw{α:Type}{P Q:α→Prop}{l:List α}(h:Jb P l)(k:∀x,P x→Q x):Jb Q l:=⟨fun x hx=>k x (h.all x hx)⟩
structure Cl(B:Int)(c:Int×Int×Int):Prop where
 side:0≤c.2.1∧c.2.1≤1
 time:0≤c.1∧c.1≤B
instance wpSortF {l:List (Int×Int×Int)}:WP (Qgy (fun x:Int×Int×Int=>x.1) l) (fun R=>(l.length≤1099511627776∧Jb (Cl 12622780800) l)∧∀r,r.length=l.length→(∀P:Int×Int×Int→Prop,Jb P l→Jb P r)→R r):=⟨fun R h=>by
 obtain⟨⟨h1,h2⟩,hR⟩:=h
 have hk:l.all (fun x=>kOk x.1)=true:=JX.2 fun x hx=>by
  have:=(h2.all x hx).time
  unfold kOk
  simp only[QJ,decide_eq_true_eq]
  omega
 have he:∃r,Qgy (fun x:Int×Int×Int=>x.1) l=some r:=by
  unfold Qgy
  rw[hk]
  have:decide (l.length<4611686018427387904)=true:=decide_eq_true (by omega)
  rw[this]
  simp only[Bool.and_self,cond_true]
  cases Nat.ble l.length 12&&Q8k (fun x:Int×Int×Int=>x.1) l<;>exact⟨_,rfl⟩
 obtain⟨r,e⟩:=he
 have hp:=(Qsd _ e).1
 exact⟨r,e,hR r hp.length_eq (fun P hP=>⟨fun x hx=>hP.all x (hp.mem_iff.1 hx)⟩)⟩⟩
theorem Jcf{β:Type}{c:Prop}[Decidable c]{a:Option Bool}{f:Bool→Option β}{A:(Bool→Prop)→Prop}{B C:(β→Prop)→Prop}[ha:WP a A][hb:WP (f true) B][hc:WP (f false) C] :
  WP ((if c then some true else a).bind f) (fun R=>(c→B R)∧(¬ c→A fun b=>(b=true→B R)∧(b=false→C R))):=⟨fun R h=>by
 by_cases h0:c
 ·rw[if_pos h0]; exact hb.spec R (h.1 h0)
 ·rw[if_neg h0]
  obtain⟨r,e,hr⟩:=ha.spec _ (h.2 h0)
  rw[e]
  cases r with
  | true=>exact hb.spec R (hr.1 rfl)
  | false=>exact hc.spec R (hr.2 rfl)⟩
theorem Jt3{β:Type}{c:Prop}[Decidable c]{a:Option Bool}{f:Bool→Option β}{A:(Bool→Prop)→Prop}{B C:(β→Prop)→Prop}[ha:WP a A][hb:WP (f true) B][hc:WP (f false) C] :
  WP ((if c then a else some false).bind f) (fun R=>(c→A fun b=>(b=true→B R)∧(b=false→C R))∧(¬ c→C R)):=⟨fun R h=>by
 by_cases h0:c
 ·rw[if_pos h0]
  obtain⟨r,e,hr⟩:=ha.spec _ (h.1 h0)
  rw[e]
  cases r with
  | true=>exact hb.spec R (hr.1 rfl)
  | false=>exact hc.spec R (hr.2 rfl)
 ·rw[if_neg h0]; exact hc.spec R (h.2 h0)⟩
instance (priority:=900) wpfOpt {α γ:Type} {f:Option α→Option γ} {A:α→(γ→Prop)→Prop} {B:(γ→Prop)→Prop} [ha:WPf (fun a=>f (some a)) A] [hb:WP (f none) B]:WPf f (fun s R=>(∀a,s=some a→A a R)∧(s=none→B R)):=⟨fun s R k=>by
 cases s with
 | some a=>exact ha.spec a R (k.1 a rfl)
 | none=>exact hb.spec R (k.2 rfl)⟩
theorem Qw7{α:Type}{o:Option α}(h:o=none):isNone o=true:=by rw[h]; rfl
theorem Q4h{W:Type}{key:Str}{v:W}{m:List (Str×W)}{C:Prop}(h:Qr (k:=.str) key (Yd (k:=.str) key v m:List (Str×W))=none):C:=by
 rw[Qw6]at h; exact absurd h (by simp)
instance wpSortZ {l:List Int}:WP (Qwn l) (fun R=>l.length≤1099511627776∧∀r,r.length=l.length→R r):=⟨fun R h=>by
 refine⟨Qly l,?_,h.2 _ (Pu l).length_eq⟩
 unfold Qwn
 rw[decide_eq_true (by omega)]; rfl⟩
instance wpCompactZ {l:List Int}:WP (S6 l) (fun R=>l.length≤1099511627776∧∀r,r.length≤l.length→R r):=⟨fun R h=>by
 refine⟨Lib.compact l,?_,h.2 _ (Lib.compact_length_le l)⟩
 unfold S6
 rw[decide_eq_true (by omega)]; rfl⟩
instance wpFiltZ {p:Int→Bool} {l:List Int}:WP (Qwo p l) (fun R=>l.length≤1099511627776∧∀r,r.length≤l.length→R r):=⟨fun R h=>by
 refine⟨l.filter fun x=>!p x,?_,h.2 _ (List.length_filter_le _ _)⟩
 unfold Qwo
 rw[decide_eq_true (by omega)]; rfl⟩
def Q4i(K:Int):List Int→Prop
 | []=>True
 | a::l=>(0≤a∧a≤K)∧Q4i K l
theorem Q4j{K:Int}:∀{l:List Int},(∀y∈l,0≤y∧y≤K)→Q4i K l
 | [],_=>True.intro
 | a::l,h=>⟨h a (.head _),Q4j fun y hy=>h y (.tail _ hy)⟩
structure Qhe(s:Int×Int×Int):Prop where
 upto:0≤s.1∧s.1≤1099511627776
 inc:1≤s.2.1∧s.2.1≤1099511627776
 price:0≤s.2.2∧s.2.2≤1125899906842624
theorem Jfc{s:Int×Int×Int}(h1:Q4i 1099511627776 [s.1,s.2.1])(h2:s.2.1≠0)(h3:Q4i 1125899906842624 [s.2.2]):Qhe s:=⟨h1.1,⟨by have:=h1.2.1; omega,h1.2.1.2⟩,h3.1⟩
theorem Jlf(v a i:Int)(h1:1≤i)(h2:i≤1099511627776)(h3:a<v)(h4:0≤a)(h5:v≤2199023255552):IntKind.wrap .i64 (Int.tdiv (IntKind.wrap .i64 (IntKind.wrap .i64 (IntKind.wrap .i64 (v - a)+i) - 1)) i)≠0:=by
 rw[Q0 (n:=v - a) (by omega) (by omega),Q0 (n:=v - a+i) (by omega) (by omega),Q0 (n:=v - a+i - 1) (by omega) (by omega),QF (by omega)]
 have h6:1≤(v - a+i - 1) / i:=by
  rw[Int.le_ediv_iff_mul_le (by omega)]; omega
 have h7:(v - a+i - 1) / i≤v - a+i - 1:=Int.ediv_le_self _ (by omega)
 rw[Q0 (by omega) (by omega)]; omega
theorem Jvr{v a i:Int}(h:IntKind.wrap .i64 (Int.tdiv (IntKind.wrap .i64 (IntKind.wrap .i64 (IntKind.wrap .i64 (v - a)+i) - 1)) i)=0)(h1:1≤i∧i≤1099511627776)(h3:¬ v≤a)(h4:0≤a)(h5:v≤2199023255552):False:=Jlf v a i h1.1 h1.2 (by omega) h4 h5 h
structure Ki(b:Q2):Prop where
 ev:b.1.length≤32
 tarL:sz b.2.1≤4096
 tarS:Sh.sh b.2.1
 tarO:Jb Kh b.2.1
 prodL:b.2.2.1.length≤32
 prodS:sz b.2.2.1≤4096
 prodO:Jb (fun p:Qm=>p.2.2.2.2.2.length≤32) b.2.2.1
 hol:b.2.2.2.2.1.length≤4096
structure Zk(u:Qc):Prop where
 start:u.2.2.2.2.2.2.1≤86400000
 to_:u.2.2.2.2.2.1.length≤9223372036854775807
 toS:Sh.sh u.2.2.2.2.2.1
structure Kj(ev:List Qg)(a s:Int):Prop where
 ex:∃e∈ev,e.2.1=3∧e.2.2.1=a∧e.2.2.2.1=s
theorem Q8v{ev es:List Qg}{a s:Int}(h:Kj es a s)(k:∀e∈es,e∈ev):Kj ev a s:=let⟨e,he,q⟩:=h.ex; ⟨e,k e he,q⟩
structure Ga(ev:List Qg):Prop where
 u:∀a b s,Kj ev a s→Kj ev b s→a=b
structure Qin(ev:List Qg)(v:Int)(subs:List Qz):Prop where
 ad:∀j:Nat,(j:Int)<v→∀e,ev[j]?=some e→e.2.1=3→∃s∈subs,s.1=e.2.2.2.1∧s.2.1=e.2.2.1
 un:∀s∈subs,∀t∈subs,s.1=t.1→s.2.1=t.2.1
theorem Q4k{ev:List Qg}:Qin ev 0 []:=⟨fun j h=>by omega,fun s h=>absurd h QO⟩
structure Qmy(x:Qg)(l m:List Qz):Prop where
 keep:x.2.1≠3→m.map (fun s:Qz=>(s.1,s.2.1))=l.map fun s:Qz=>(s.1,s.2.1)
 add:x.2.1=3→∃t:Qz,t.1=x.2.2.2.1∧t.2.1=x.2.2.1∧m=l++[t]
theorem Q8w{x:Qg}{l:List Qz}{t:Qz}(h:x.2.1=3)(h1:t.1=x.2.2.2.1)(h2:t.2.1=x.2.2.1):Qmy x l (l++[t]):=⟨fun k=>absurd h k,fun _=>⟨t,h1,h2,rfl⟩⟩
theorem Q4l{x:Qg}{l:List Qz}(h:¬ x.2.1=3):Qmy x l l:=⟨fun _=>rfl,fun k=>absurd k h⟩
theorem Qtl{x:Qg}{l:List Qz}{i:Nat}{s t:Qz}(h:¬ x.2.1=3)(hs:l[i]?=some s)(h1:t.1=s.1)(h2:t.2.1=s.2.1):Qmy x l (l.set i t):=⟨fun _=>by
 have h3:i<l.length:=(List.getElem?_eq_some_iff.1 hs).1
 have h4:l[i]=s:=(List.getElem?_eq_some_iff.1 hs).2
 refine ZM (by simp) fun j k1 k2=>?_
 rw[XE,XE,List.getElem_set]
 by_cases c:i=j
 ·subst c; rw[if_pos rfl,h1,h2,h4]
 ·rw[if_neg c],fun k=>absurd k h⟩
theorem Q4m{ev:List Qg}{v:Int}{l m:List Qz}{x:Qg}(h0:0≤v)(h:Qin ev v l)(hx:ev[v.toNat]?=some x)(hf:x.2.1=3→∀s∈l,s.1≠x.2.2.2.1)(hm:Qmy x l m):Qin ev (v+1) m:=by
 have key:∀s∈l,∃t∈m,t.1=s.1∧t.2.1=s.2.1:=fun s hs=>by
  by_cases c:x.2.1=3
  ·obtain⟨t,_,_,e⟩:=hm.add c
   exact⟨s,e▸List.mem_append_left _ hs,rfl,rfl⟩
  ·have e:=hm.keep c
   have h1:(s.1,s.2.1)∈m.map (fun s:Qz=>(s.1,s.2.1)):=e▸QK.2 ⟨s,hs,rfl⟩
   obtain⟨t,ht,e2⟩:=QK.1 h1
   simp only[Prod.mk.injEq]at e2
   exact⟨t,ht,e2.1,e2.2⟩
 have back:∀t∈m,(∃s∈l,t.1=s.1∧t.2.1=s.2.1)∨(x.2.1=3∧t.1=x.2.2.2.1∧t.2.1=x.2.2.1):=fun t ht=>by
  by_cases c:x.2.1=3
  ·obtain⟨u,h1,h2,e⟩:=hm.add c
   rw[e]at ht
   rcases QZ.1 ht with ht | ht
   ·exact .inl ⟨t,ht,rfl,rfl⟩
   ·rw[JK]at ht
    subst ht
    exact .inr ⟨c,h1,h2⟩
  ·have e:=hm.keep c
   have h1:(t.1,t.2.1)∈l.map (fun s:Qz=>(s.1,s.2.1)):=e▸QK.2 ⟨t,ht,rfl⟩
   obtain⟨s,hs,e2⟩:=QK.1 h1
   simp only[Prod.mk.injEq]at e2
   exact .inl ⟨s,hs,e2.1.symm,e2.2.symm⟩
 refine⟨fun j hj e he h3=>?_,fun s hs t ht est=>?_⟩
 ·by_cases c:(j:Int)<v
  ·obtain⟨s,hs,h1,h2⟩:=h.ad j c e he h3
   obtain⟨t,ht,k1,k2⟩:=key s hs
   exact⟨t,ht,by omega,by omega⟩
  ·have e1:v.toNat=j:=by omega
   rw[e1,he]at hx
   cases Option.some.inj hx
   obtain⟨t,h1,h2,e⟩:=hm.add h3
   exact⟨t,by rw[e]; exact List.mem_append_right _ (.head _),h1,h2⟩
 ·rcases back s hs with⟨s',q1,q2,q3⟩ | ⟨c,q2,q3⟩
  ·rcases back t ht with⟨t',r1,r2,r3⟩ | ⟨c,r2,r3⟩
   ·have:=h.un s' q1 t' r1 (by omega); omega
   ·exact absurd (by omega) (hf c s' q1)
  ·rcases back t ht with⟨t',r1,r2,r3⟩ | ⟨c,r2,r3⟩
   ·exact absurd (by omega) (hf c t' r1)
   ·omega
theorem Qzx{ev:List Qg}{v r:Int}{Q:Prop}{l m:List Qz}{x y:Qg}(hf:r=0→Q∧(r=0→x.2.1=3→∀s:Qz,s∈l→¬ s.1=x.2.2.2.1))(hx:ev[v.toNat]?=some x)(hm:Qmy y l m)(hy:ev[v.toNat]?=some y)(hr:r=0)(h0:0≤v)(h:Qin ev v l):Qin ev (v+1) m:=by
 rw[hy]at hx
 cases Option.some.inj hx
 exact Q4m h0 h hy ((hf hr).2 hr) hm
theorem Q8x{ev:List Qg}{v:Int}{l:List Qz}(h:Qin ev v l)(hv:(ev.length:Int)≤v):Ga ev:=⟨fun a b s ha hb=>by
 obtain⟨e,he,h1,h2,h3⟩:=ha.ex
 obtain⟨f,hf,k1,k2,k3⟩:=hb.ex
 obtain⟨i,hi⟩:=VQ.1 he
 obtain⟨j,hj⟩:=VQ.1 hf
 obtain⟨x,hx,x1,x2⟩:=h.ad i (by have:=(List.getElem?_eq_some_iff.1 hi).1; omega) e hi h1
 obtain⟨y,hy,y1,y2⟩:=h.ad j (by have:=(List.getElem?_eq_some_iff.1 hj).1; omega) f hj k1
 have:=h.un x hx y hy (by omega)
 omega⟩
structure Qtm(ev:List Qg)(m:List (Int×Qz)):Prop where
 all:∀p∈m,p.2.1=p.1∧Kj ev p.2.2.1 p.1
theorem Jfd{ev:List Qg}:Qtm ev []:=⟨fun p h=>absurd h QO⟩
structure Qfx(x:Qg)(m m':List (Int×Qz)):Prop where
 st:∀ev,x∈ev→Qtm ev m→Qtm ev m'
theorem Qzy{x:Qg}{m:List (Int×Qz)}:Qfx x m m:=⟨fun _ _ h=>h⟩
theorem Q4n{x:Qg}{m:List (Int×Qz)}{s:Qz}(h:x.2.1=3)(h1:s.1=x.2.2.2.1)(h2:s.2.1=x.2.2.1):Qfx x m (Yd (k:=.int .i64) x.2.2.2.1 s m):=⟨fun ev hx hm=>⟨fun p hp=>by
 rcases Qe0 hp with rfl | hp
 ·exact⟨h1,⟨x,hx,h,h2.symm,rfl⟩⟩
 ·exact hm.all p hp⟩⟩
theorem Q4o{x:Qg}{m:List (Int×Qz)}{k:Int}:Qfx x m (Lz (k:=.int .i64) k m):=⟨fun ev hx hm=>⟨fun p hp=>hm.all p (Qtj hp)⟩⟩
theorem Qbp{W:Type}{key:Int}:∀{m:List (Int×W)} {v:W},Qr (k:=.int .i64) key m=some v→(key,v)∈m
 | z::m,v,h=>by
  unfold Qr at h
  cases hk:eqK (.int .i64) key z.1 with
  | true =>
   rw[hk]at h
   have e:key=z.1:=by simpa[eqK]using hk
   cases Option.some.inj h
   rw[e]; exact .head _
  | false=>rw[hk]at h; exact .tail _ (Qbp h)
theorem Q4p{x:Qg}{m:List (Int×Qz)}{k:Int}{s d:Qz}(h:(Qr (k:=.int .i64) k m).isSome=true)(h1:s.1=((Qr (k:=.int .i64) k m).getD d).1)(h2:s.2.1=((Qr (k:=.int .i64) k m).getD d).2.1):Qfx x m (Yd (k:=.int .i64) k s m):=⟨fun ev hx hm=>⟨fun p hp=>by
 rcases Qe0 hp with rfl | hp
 ·obtain⟨y,hy⟩:=Option.isSome_iff_exists.1 h
  rw[hy]at h1 h2
  simp only[XQ]at h1 h2
  have:=hm.all _ (Qbp hy)
  exact⟨h1.trans this.1,by show Kj ev s.2.1 k; rw[h2]; exact this.2⟩
 ·exact hm.all p hp⟩⟩
structure Qw8(m:List (Int×Qz))(s:Qz):Prop where
 ex:∃k,Qr (k:=.int .i64) k m=some s
theorem Jlg{m:List (Int×Qz)}{k:Int}{d:Qz}(h:¬ (Qr (k:=.int .i64) k m).isSome=false):Qw8 m ((Qr (k:=.int .i64) k m).getD d):=by
 cases hf:Qr (k:=.int .i64) k m with
 | none=>rw[hf]at h; exact absurd rfl h
 | some y=>exact⟨k,hf⟩
theorem Jfe{ev:List Qg}{m:List (Int×Qz)}{s:Qz}(h:Qw8 m s)(hm:Qtm ev m):Kj ev s.2.1 s.1:=by
 obtain⟨k,hk⟩:=h.ex
 have:=hm.all _ (Qbp hk)
 have e:s.1=k:=this.1
 rw[e]; exact this.2
theorem Qw9{es ev:List Qg}{m:List (Int×Qz)}{l:List Qz}(h:Jb (Qw8 m) l)(hm:Qtm es m)(hs:Jb (fun e:Qg=>e∈ev) es):Jb (fun s:Qz=>Kj ev s.2.1 s.1) l:=⟨fun s hs'=>Q8v (Jfe (h.all s hs') hm) hs.all⟩
theorem Q4q{α:Type}{P:α→Prop}{l m:List α}(h:Jb P m)(k:∀x∈l,x∈m):Jb P l:=⟨fun x hx=>h.all x (k x hx)⟩
structure Jlh(ev:List Qg)(a:Int)(m:List (Int×Bool)):Prop where
 all:∀p∈m,Kj ev a p.1
theorem Jli{ev:List Qg}{a:Int}:Jlh ev a []:=⟨fun p h=>absurd h QO⟩
theorem Jlj{ev:List Qg}{a:Int}{m:List (Int×Bool)}{x:Qg}{b:Bool}(h:Jlh ev a m)(hx:x∈ev)(h1:x.2.1=3)(h2:x.2.2.1=a):Jlh ev a (Yd (k:=.int .i64) x.2.2.2.1 b m):=⟨fun p hp=>by
 rcases Qe0 hp with rfl | hp
 ·exact⟨x,hx,h1,h2,rfl⟩
 ·exact h.all p hp⟩
theorem Jlk{ev:List Qg}{a k:Int}{m:List (Int×Bool)}(h:Jlh ev a m)(hk:(Qr (k:=.int .i64) k m).getD false=true):Kj ev a k:=by
 cases hf:Qr (k:=.int .i64) k m with
 | none=>rw[hf]at hk; cases hk
 | some y=>exact h.all _ (Qbp hf)
structure Jll(ev:List Qg)(a:Int)(h:Q7):Prop where
 acc:h.1=a
 add:Kj ev a h.2.1
structure Jo5(h:Q7)(g:Qy):Prop where
 acc:g.1.1=h.1
 sub:g.1.2.1=h.2.1
structure UsA(u:Qc):Prop where
 acc:1≤u.2.2.1
theorem Jlm{ev:List Qg}{m:List (Int×Qz)}(h:m=[]):Qtm ev m:=h▸Jfd
theorem Jt4{ev:List Qg}{l:List Qz}{s:Qz}{k:Int}(hs:s∈l)(h:Jb (fun s:Qz=>Kj ev s.2.1 s.1) l)(e:s.1=k):Kj ev s.2.1 k:=e▸h.all s hs
set_option linter.defProp false
set_option maxRecDepth 100000
set_option maxHeartbeats 4000000
set_option synthInstance.maxSize 100000
set_option synthInstance.maxHeartbeats 1000000
theorem Jln{α:Type}{e:Xs α}{K:Nat}(h:e.ks.length≤K)(hk:∀y∈e.ks,sz y≤K):sz e≤K:=by
 have:∀l:List (Xs α),szL l=Q8t l:=fun l=>by
  induction l with
  | nil=>rfl
  | cons x l ih=>simp only[szL,Q8t,ih]; rfl
 cases e with
 | mk x ks =>
  have h2:Q8t ks≤K:=by rw[←this]; exact Qth hk
  show rsz (.mk x ks)≤K
  simp only[rsz]
  have h1:ks.length≤K:=h
  omega
theorem Qxa{N:Nat}[Y2 N]:∀(n:Nat) (e:Ql) (d:Int),0≤d→d≤19→20≤n+d→sz e≤9223372036854775807→W (Ym N n e d) fun r=>1≤r∧r≤1000*(20 - d)∧(r<1000→(sz e:Int)≤r∧(dpt e:Int)≤19 - d)
 | 0,e,d,h0,h1,h2,h3=>by omega
 | n+1,e,d,h0,h1,h2,h3=>by
  unfold Ym
  by_cases hd:d>18
  ·rw[if_pos (by simpa using hd)]
   exact⟨1000,rfl,by omega,by omega,by omega⟩
  ·rw[if_neg (by simpa using hd)]
   have hw:IntKind.wrap .i64 (d+1)=d+1:=Q0 (by omega) (by omega)
   have ih:∀x:Ql,WP (Ym N n x (d+1)) (fun R=>sz x≤9223372036854775807∧∀r:Int,(1≤r∧r≤1000*(20 - (d+1))∧(r<1000→(sz x:Int)≤r∧(dpt x:Int)≤19 - (d+1)))→R r):=fun x=>Lr fun h=>Qxa n x (d+1) (by omega) (by omega) (by omega) h
   have hk:=Qik (e:=e)
   have hlen:=Zb (l:=e.ks)
   have loop:∀s:Int×Int,WP (Qe (Kk N (Ym N n) e d) N s) _:=Jt0 (f:=Kk N (Ym N n) e d) (fun s:Int×Int=>s.2) e.ks.length
    (fun s:Int×Int=>s.2+1≤s.1∧s.1≤1000*(20 - d)∧(s.1<1000→Qg7 (fun y=>(sz y:Int)≤s.1∧(dpt y:Int)≤18 - d) e.ks s.2)) (fun r:Int=>1≤r∧r≤1000*(20 - d)∧(r<1000→(sz e:Int)≤r∧(dpt e:Int)≤19 - d)) (fun s h=>by omega) (by
    rintro⟨v1,v2⟩ ⟨i1,i2,i3⟩ h0' h1' hw2
    simp only at i1 i2 i3 h0' h1' hw2
    unfold Kk
    simp only[hw]
    refine wp ?_
    simp only[QJ,decide_eq_true_eq]
    refine⟨fun hc=>⟨⟨h0',hc.1⟩,fun x hm hs _ hx=>⟨by omega,fun r hr=>?_⟩⟩,fun hc=>?_⟩
    ·have hv:IntKind.wrap .i64 (v1+r)=v1+r:=Q0 (by omega) (by omega)
     rw[hv]
     refine⟨⟨by rw[hw2 hc.1]; omega,by omega,fun hlt=>?_⟩,hc.1,trivial⟩
     rw[hw2 hc.1]
     exact Pe h0' ⟨fun j hj a ha=>by have:=(i3 hc.2).at_ j hj a ha; exact⟨by omega,this.2⟩⟩ hx (by have:=hr.2.2 (by omega); exact⟨by omega,by omega⟩)
    ·refine⟨by omega,i2,fun hlt=>?_⟩
     have hge:(e.ks.length:Int)≤v2:=by
      rcases Int.lt_or_le v2 e.ks.length with h | h
      ·exact absurd ⟨h,hlt⟩ hc
      ·exact h
     have hall:=T1 (i3 hlt) hge
     have h8:=Jln (e:=e) (K:=v1.toNat) (by omega) (fun y hy=>by have:=(hall y hy).1; omega)
     have h9:=Jt1 (e:=e) (K:=(18 - d).toNat) (fun y hy=>by have:=(hall y hy).2; omega)
     exact⟨by omega,by omega⟩)
   have:=loop
   refine wp ?_
   exact⟨⟨⟨by omega,by omega,fun _=>Qbn⟩,by omega,by omega⟩,fun r hr=>hr⟩
instance w_billingref37_Nodes {N:Nat} [hN:Y2 N] {x0:Ql} {x1:Int}:WP (N5 N x0 x1) (fun R=>(sz x0≤9223372036854775807∧x1=0)∧∀r:Int,(1≤r∧r≤20000∧(r<1000→(sz x0:Int)≤r∧(dpt x0:Int)≤19))→R r):=Lr (by
  intro h
  have:=hN.le
  exact(Qxa N x0 x1 (by omega) (by omega) (by omega) h.1).mono fun r hr=>⟨hr.1,by omega,fun hl=>by have:=hr.2.2 hl; omega⟩)
variable {N:Nat} [Y2 N]
@[reducible,instance] def Qxb{x0 x1}{s}:=Qmx (N:=N) (s:=s) (Cu.eq_def N x0 x1) x0.2.2.2.2.2.2 (sz x0≤9223372036854775807∧1≤x1∧x1≤200) (fun y=>(sz y:Int)≤4*x1∧dpt y.2.1≤4096) ((szL x0.2.2.2.2.2.2:Int)≤4*x1∧Kh x0) (fun u=>u=false) (fin:=fun h hall=>⟨Qzu (fun y hy=>(hall y hy).1) (by omega),⟨fun y hy=>(hall y hy).2⟩⟩)
@[reducible,instance] def Qxc{x0 x1}{s}:=Qmx (N:=N) (s:=s) (Cv.eq_def N x0 x1) x0.2.2.2.1 (sz x0≤9223372036854775807∧1≤x1∧x1≤200) (fun y=>(sz y:Int)≤4*x1) ((szL x0.2.2.2.1:Int)≤4*x1) (fun u=>u=false)
@[reducible,instance] def Qxd{x0 x1}{s}:=Qmx (N:=N) (s:=s) (Cw.eq_def N x0 x1) x0.2.2.2.2.2.1 (sz x0≤9223372036854775807∧1≤x1∧x1≤200) (fun y=>(sz y:Int)≤4*x1) ((szL x0.2.2.2.2.2.1:Int)≤4*x1) (fun u=>u=false)
@[reducible,instance] def Qxe{x0 x1}{s}:=Qmx (N:=N) (s:=s) (Cy.eq_def N x0 x1) x0.2.2.2.2.1 (sz x0≤9223372036854775807∧1≤x1∧x1≤200) (fun y=>(sz y:Int)≤4*x1) ((szL x0.2.2.2.2.1:Int)≤4*x1) (fun u=>u=false)
@[reducible,instance] def Q4r{x0 x1}:=mkW (Fw.eq_1 N x0 x1) (sz x0≤9223372036854775807∧1≤x1∧x1≤200) (fun r=>r=true→(sz x0:Int)≤4*x1∧Kh x0)
@[reducible,instance] def Q6i{x0}:=mkW (Gu.eq_1 N x0) (True) (fun r=>r.length=5∧(∀b,r[0]?=some b→(b=true↔(x0=1∨x0=2∨x0=3∨x0=14∨x0=15))))
@[reducible,instance] def Jcg{x0}:=mkW (Fn.eq_1 N x0) (True) (fun r=>True)
@[reducible,instance] def Qzz{x0}{s}:=upL (N:=N) (s:=s) (I2.eq_def N x0) (fun t=>t) x0.length (fun t=>Sh.sh x0) (fun r:((Unit)⊕(Bool))=>True) (fun _ h=>Qil (by grind))
@[reducible,instance] def Q6j{x0}:=mkW (Vx.eq_1 N x0) (Sh.sh x0) (fun r=>True)
@[reducible,instance] def Qxf{x0}{s}:=upL (N:=N) (s:=s) (Cz.eq_def N x0) (fun t=>t) x0.length (fun t=>Sh.sh x0) (fun r:((Unit)⊕(Bool))=>True) (fun _ h=>Qil (by grind))
@[reducible,instance] def Q4s{x0}:=mkW (Ws.eq_1 N x0) (Sh.sh x0) (fun r=>True)
@[reducible,instance] def Q4t{x0}:=mkW (Fx.eq_1 N x0) (True) (fun r=>True)
@[reducible,instance] def Q6k{x0 x1}:=mkW (Bo.eq_1 N x0 x1) (Sh.sh x0) (fun r=>True)
@[reducible,instance] def Qt7{x0 x1}{s}:=Qmx (N:=N) (s:=s) (Au.eq_def N x0 x1) x0.1 (sz x0≤9223372036854775807) (fun y=>y.1≠x1) (∀y∈x0.1,y.1≠x1) (fun u=>0≤u∧u<x0.1.length∧∃a∈x0.1,a.1=x1)
@[reducible,instance] def Qz0{x0 x1}:=mkW (K3.eq_1 N x0 x1) (sz x0≤9223372036854775807) (fun r => -1≤r∧r<x0.1.length∧(0≤r→∃a∈x0.1,a.1=x1)∧(r<0→∀a∈x0.1,a.1≠x1))
@[reducible,instance] def Q0v{x0 x1}{s}:=Qmx (N:=N) (s:=s) (Md.eq_def N x0 x1) x0.2.1 (sz x0≤9223372036854775807) (fun y=>y.1≠x1) (∀y∈x0.2.1,y.1≠x1) (fun u=>0≤u∧u<x0.2.1.length∧∃a∈x0.2.1,a.1=x1)
@[reducible,instance] def Q8y{x0 x1}:=mkW (X4.eq_1 N x0 x1) (sz x0≤9223372036854775807) (fun r => -1≤r∧r<x0.2.1.length∧(0≤r→∃a∈x0.2.1,a.1=x1)∧(r<0→∀a∈x0.2.1,a.1≠x1))
@[reducible,instance] def Qxg{x0 x1}{s}:=upL (N:=N) (s:=s) (C0.eq_def N x0 x1) (fun t=>t) x0.2.2.length (fun t=>sz x0≤9223372036854775807) (fun r:((Unit)⊕(Bool))=>True)
@[reducible,instance] def Q4u{x0 x1}:=mkW (Wt.eq_1 N x0 x1) (sz x0≤9223372036854775807) (fun r=>True)
@[reducible,instance] def Qz1{x0 x1}{s}:=upL (N:=N) (s:=s) (I3.eq_def N x0 x1) (fun t=>t) x0.2.1.length (fun t=>sz x0≤9223372036854775807) (fun r:((Unit)⊕(Bool))=>True)
@[reducible,instance] def Q6l{x0 x1}:=mkW (Bp.eq_1 N x0 x1) (sz x0≤9223372036854775807) (fun r=>True)
attribute [local instance 1300] Jt3 in
@[reducible,instance] def Qu1{x0 x1}:=mkW (Wu.eq_1 N x0 x1) (sz x0≤9223372036854775807) (fun r=>r=0→x1.2.1≠1→∃a∈x0.1,a.1=x1.2.2.1∧(r=0→x1.2.1=3→∀a∈x0.2.1,a.1≠x1.2.2.2.1))
@[reducible,instance] def Q0w{x0 x1}{s}:=upL (N:=N) (s:=s) (Me.eq_def N x0 x1) (fun t=>t) x0.length (fun t=>sz x0≤9223372036854775807) (fun r:((Unit)⊕(Bool))=>True)
@[reducible,instance] def Q8z{x0 x1}:=mkW (Zq.eq_1 N x0 x1) (sz x0≤9223372036854775807) (fun r=>True)
@[reducible,instance] def Qxh{x0 x1}{s}:=upL (N:=N) (s:=s) (C1.eq_def N x0 x1) (fun t=>t) x0.2.1.length (fun t=>sz x0≤9223372036854775807) (fun r:((Unit)⊕(Bool))=>True)
@[reducible,instance] def Q4v{x0 x1}:=mkW (Fy.eq_1 N x0 x1) (sz x0≤9223372036854775807) (fun r=>True)
@[reducible,instance] def Q4w{x0 x1}:=mkW (Fz.eq_1 N x0 x1) (sz x0≤9223372036854775807) (fun r=>r=0→∃a∈x0.2.1,a.1=x1.2.2.2.1)
@[reducible,instance] def Q4x{x0 x1 x2}:=mkW (F0.eq_1 N x0 x1 x2) (sz x0≤9223372036854775807∧Sh.sh x1) (fun r=>r=0→((x1.2.1=2→∃a∈x0.1,a.1=x1.2.2.1)∧(¬ (x1.2.1=1∨x1.2.1=2∨x1.2.1=3∨x1.2.1=14∨x1.2.1=15)→∃a∈x0.2.1,a.1=x1.2.2.2.1))∧(r=0→x1.2.1=3→∀a∈x0.2.1,a.1≠x1.2.2.2.1))
@[reducible,instance] def Qz2{x0 x1}{s}:=upL (N:=N) (s:=s) (I4.eq_def N x0 x1) (fun t=>t) x0.length (fun t=>sz x0≤9223372036854775807) (fun r:((Int))=>0≤r∧r≤x0.length)
@[reducible,instance] def Q6m{x0 x1}:=mkW (Gv.eq_1 N x0 x1) (sz x0≤1099511627776) (fun r=>sz r≤sz x0+1)
@[reducible,instance] def Qt8{x0 x1}{s}:=upL (N:=N) (s:=s) (Av.eq_def N x0 x1) (fun t=>t.1) x0.length (fun t=>sz x0≤1099511627776∧t.2.length≤t.1∧sz t.2≤(sz x0)) (fun r:(((List Str)))=>sz r≤(sz x0))
@[reducible,instance] def Qz3{x0 x1}:=mkW (K4.eq_1 N x0 x1) (sz x0≤1099511627776) (fun r=>sz r≤(sz x0))
@[reducible,instance] def Qz4{x0 x1}:=mkW (Hl.eq_1 N x0 x1) (sz x0≤1099511627776) (fun r=>r.2.2.2.2.1.length≤x0.2.2.2.2.1.length+1∧r.2.2.2.2.2.1.length≤x0.2.2.2.2.2.1.length+1∧r.1=x0.1∧r.2.1=x0.2.1)
@[reducible,instance] def Q4y{x0 x1}:=mkW (F2.eq_1 N x0 x1) (sz x0≤1099511627776∧(x1.2.1=2→∃a∈x0.1,a.1=x1.2.2.1)∧(¬ (x1.2.1=1∨x1.2.1=2∨x1.2.1=3∨x1.2.1=14∨x1.2.1=15)→∃a∈x0.2.1,a.1=x1.2.2.2.1)) (fun r=>sz r.1≤sz x0.1+1∧sz r.2.1≤sz x0.2.1+1∧sz r.2.2≤sz x0.2.2+1∧Qmy x1 x0.2.1 r.2.1) (k:=by
  intro h
  try simp only[sS,reduceCtorEq]at *
  repeat' (first | intro _ | apply And.intro)
  all_goals first | ((repeat cases ‹_∧_›); first | assumption | omega | exact Q8w (by assumption) rfl rfl | exact Q4l (by omega) | exact Qtl (by omega) (by assumption) (by assumption) (by assumption) | (refine Qtl (by omega) (by assumption) ?_ ?_<;>grind)) | exact lv)
@[reducible,instance] def Qxi{x0}{s}:=upL (N:=N) (s:=s) (C2.eq_def N x0) (fun t=>t.2.1) x0.length (fun t=>x0.length≤4096∧Sh.sh x0∧sz t.2.2.1≤t.2.1∧sz t.2.2.2.1≤t.2.1∧sz t.2.2.2.2≤t.2.1∧Qin x0 t.2.1 t.2.2.2.1) (fun r:((Unit)⊕(Int×Int))=>(∀u,r=.inl u→Ga x0)∧(∀u,r=.inr u→u.2≠0)) (step:=by
  intro s h h0 h1 h2 hw
  try simp only[sS,reduceCtorEq]at *
  repeat' (first | intro _ | apply And.intro)
  all_goals first | ((repeat cases ‹_∧_›); first | assumption | omega | exact Q8x (by assumption) (by omega) | (rw[hw (by omega)]; exact Qzx (by assumption) (by assumption) (by assumption) (by assumption) (by omega) h0 (by assumption))) | exact lv)
@[reducible,instance] def Q4z{x0}:=mkW (F3.eq_1 N x0) (sz x0≤1099511627776∧Sh.sh x0) (fun r=>r.2=0→Ga x0) (k:=by
  intro h
  try simp only[sS,reduceCtorEq]at *
  repeat' (first | intro _ | apply And.intro)
  all_goals first | exact Q4k | grind | exact lv)
@[reducible,instance] def Qxj{x0}{s}:=upL (N:=N) (s:=s) (C3.eq_def N x0) (fun t=>t) x0.length (fun t=>sz x0≤9223372036854775807∧Sh.sh x0) (fun r:((Unit)⊕(Int))=>True)
@[reducible,instance] def Qxk{x0}{s}:=upI (N:=N) (s:=s) (C4.eq_def N x0) (fun t=>t) ((x0.length:Int)) (fun t=>sz x0≤9223372036854775807∧1≤t) (fun r:((Unit)⊕(Int))=>True)
@[reducible,instance] def Q40{x0}:=mkW (F4.eq_1 N x0) (sz x0≤9223372036854775807∧Sh.sh x0) (fun r=>r=0→sz x0≤64)
@[reducible,instance] def Q0x{x0}:=mkW (Ew.eq_1 N x0) (sz x0≤9223372036854775807∧Sh.sh x0) (fun r=>r=0→sz x0≤64)
@[reducible,instance] def Q0y{x0}{s}:=Qmx (N:=N) (s:=s) (Mf.eq_def N x0) x0.2.2.2.2.2 (sz x0≤9223372036854775807∧Sh.sh x0) (fun y=>(sz y:Int)≤64) ((szL (x0.2.2.2.2.2):Int)≤64) (fun u=>u≠0)
@[reducible,instance] def Q80{x0}:=mkW (D4.eq_1 N x0) (sz x0≤9223372036854775807∧Sh.sh x0) (fun r=>r=0→sz x0≤64)
@[reducible,instance] def Qxl{x0}{s}:=Qmx (N:=N) (s:=s) (C5.eq_def N x0) x0 (sz x0≤9223372036854775807∧Sh.sh x0) (fun y=>(sz y:Int)≤64) ((szL (x0):Int)≤64) (fun u=>u≠0)
@[reducible,instance] def Q41{x0}:=mkW (F5.eq_1 N x0) (sz x0≤9223372036854775807∧Sh.sh x0) (fun r=>r=0→sz x0≤4096)
@[reducible,instance] def Q42{x0}:=mkW (Wv.eq_1 N x0) (True) (fun r=>True)
@[reducible,instance] def Q43{x0}:=mkW (F6.eq_1 N x0) (True) (fun r=>True)
@[reducible,instance] def Qz5{x0}{s}:=upL (N:=N) (s:=s) (I5.eq_def N x0) (fun t=>t) x0.length (fun t=>Sh.sh x0) (fun r:((Unit)⊕(Bool))=>True) (fun _ h=>Qil (by grind))
@[reducible,instance] def Q6n{x0}:=mkW (Gw.eq_1 N x0) (Sh.sh x0) (fun r=>True)
@[reducible,instance] def Qz6{x0}{s}:=upL (N:=N) (s:=s) (I6.eq_def N x0) (fun t=>t) x0.length (fun t=>Sh.sh x0) (fun r:((Unit)⊕(Bool))=>True) (fun _ h=>Qil (by grind))
@[reducible,instance] def Q6o{x0}:=mkW (Gy.eq_1 N x0) (Sh.sh x0) (fun r=>True)
@[reducible,instance] def Qt9{x0 v1 x1 x2}{s}:=upI (N:=N) (s:=s) (Aw.eq_def N x0 v1 x1 x2) (fun t=>t) (9223372036854775807) (fun t=>sz x0≤9223372036854775807∧0≤v1∧v1≤x1∧x1<x0.length∧∀z,x0[x1.toNat]?=some z→0≤x2∧x2<z.2.length∧x0.length≤9223372036854775807) (fun r:((Unit)⊕(Bool))=>True)
@[reducible,instance] def Qua{x1 x0 x2}{s}:=upI (N:=N) (s:=s) (Ax.eq_def N x1 x0 x2) (fun t=>t) (x1+1) (fun t=>sz x0≤9223372036854775807∧0≤x1∧x1<x0.length∧∀z,x0[x1.toNat]?=some z→0≤x2∧x2<z.2.length∧x0.length≤9223372036854775807) (fun r:((Unit)⊕(Bool))=>True)
@[reducible,instance] def Qz7{x0 x1 x2}:=mkW (Hm.eq_1 N x0 x1 x2) (sz x0≤9223372036854775807∧0≤x1∧x1<x0.length∧(∀z,x0[x1.toNat]?=some z→0≤x2∧x2<z.2.length)) (fun r=>True)
@[reducible,instance] def Qz8{x1 x0 x2}{s}:=upI (N:=N) (s:=s) (I7.eq_def N x1 x0 x2) (fun t=>t) (x1) (fun t=>x1≤x0.length∧x0.length≤9223372036854775807) (fun r:((Unit)⊕(Int))=>True)
@[reducible,instance] def Qz9{x2 x0 x1}{s}:=upL (N:=N) (s:=s) (I8.eq_def N x2 x0 x1) (fun t=>t) x2.2.length (fun t=>sz x2≤9223372036854775807∧sz x0≤9223372036854775807∧Sh.sh x2∧Sh.sh x0∧0≤x1∧x1<x0.length∧x0[x1.toNat]?=some x2∧x0.length≤9223372036854775807) (fun r:((Unit)⊕(Int))=>True)
@[reducible,instance] def Q6p{x0 x1}:=mkW (Bq.eq_1 N x0 x1) (sz x0≤9223372036854775807∧Sh.sh x0∧0≤x1∧x1<x0.length) (fun r=>True)
@[reducible,instance] def Qxm{x0}{s}:=upL (N:=N) (s:=s) (C6.eq_def N x0) (fun t=>t) x0.length (fun t=>sz x0≤9223372036854775807∧Sh.sh x0∧x0.length≤9223372036854775807) (fun r:((Unit)⊕(Int))=>True)
@[reducible,instance] def Q44{x0}:=mkW (F7.eq_1 N x0) (sz x0≤9223372036854775807∧Sh.sh x0) (fun r=>True)
@[reducible,instance] def Qxn{x0}{s}:=upL (N:=N) (s:=s) (C7.eq_def N x0) (fun t=>t) x0.length (fun t=>sz x0≤9223372036854775807) (fun r:((Unit)⊕(Int))=>True)
@[reducible,instance] def Q45{x0 x1}:=mkW (F8.eq_1 N x0 x1) (sz x0≤9223372036854775807) (fun r=>True)
@[reducible,instance] def Qxo{v1 x0}{s}:=upI (N:=N) (s:=s) (C8.eq_def N v1 x0) (fun t=>t) (v1) (fun t=>v1<x0.length∧x0.length≤9223372036854775807) (fun r:((Unit)⊕(Int))=>True)
@[reducible,instance] def Qxp{x0}{s}:=upL (N:=N) (s:=s) (C9.eq_def N x0) (fun t=>t) x0.length (fun t=>sz x0≤9223372036854775807∧Sh.sh x0∧x0.length≤9223372036854775807) (fun r:((Unit)⊕(Int))=>True)
@[reducible,instance] def Q46{x0}:=mkW (F9.eq_1 N x0) (sz x0≤9223372036854775807∧Sh.sh x0) (fun r=>True)
@[reducible,instance] def Q0a{x0 x1}{s}:=upL (N:=N) (s:=s) (I9.eq_def N x0 x1) (fun t=>t) x0.2.2.2.1.length (fun t=>sz x0≤9223372036854775807) (fun r:((Unit)⊕(Bool))=>True)
@[reducible,instance] def Q6q{x0 x1}:=mkW (Br.eq_1 N x0 x1) (sz x0≤9223372036854775807) (fun r=>True)
@[reducible,instance] def Q0b{x0 x1}{s}:=upL (N:=N) (s:=s) (La.eq_def N x0 x1) (fun t=>t) x0.2.2.2.2.1.length (fun t=>sz x0≤9223372036854775807) (fun r:((Unit)⊕(Bool))=>True)
@[reducible,instance] def Q6r{x0 x1}:=mkW (Bt.eq_1 N x0 x1) (sz x0≤9223372036854775807) (fun r=>True)
@[reducible,instance] def Qxq{x0}{s}:=upL (N:=N) (s:=s) (Da.eq_def N x0) (fun t=>t.2) x0.length (fun t=>sz x0≤9223372036854775807) (fun r:((Unit)⊕(Int))=>True)
@[reducible,instance] def Q47{x0}:=mkW (Ww.eq_1 N x0) (sz x0≤9223372036854775807) (fun r=>True)
@[reducible,instance] def Qxr{x0}{s}:=upL (N:=N) (s:=s) (Db.eq_def N x0) (fun t=>t) x0.2.2.2.2.2.1.length (fun t=>sz x0≤9223372036854775807) (fun r:((Unit)⊕(Int))=>True)
@[reducible,instance] def Q48{x0}:=mkW (Aa.eq_1 N x0) (sz x0≤9223372036854775807) (fun r=>True)
@[reducible,instance] def Q49{x0}:=mkW (Ab.eq_1 N x0) (True) (fun r=>(x0=4→r=1)∧(¬ (x0=1∨x0=2∨x0=3∨x0=4)→r=2∨r = -1))
@[reducible,instance] def Q0z{x0 x1}{s}:=upL (N:=N) (s:=s) (Mg.eq_def N x0 x1) (fun t=>t) x0.length (fun t=>sz x0≤9223372036854775807) (fun r:((Unit)⊕(Bool))=>True)
@[reducible,instance] def Q81{x0 x1}:=mkW (Ea.eq_1 N x0 x1) (sz x0≤9223372036854775807) (fun r=>True)
@[reducible,instance] def Qu2{x0}:=mkW (Zg.eq_1 N x0) (True) (fun r=>True)
@[reducible,instance] def Q82{x0}:=mkW (D5.eq_1 N x0) (sz x0≤9223372036854775807) (fun r=>r=0→((x0.x.1=4→x0.ks.length=1)∧(¬ (x0.x.1=1∨x0.x.1=2∨x0.x.1=3∨x0.x.1=4)→x0.ks.length=2)))
@[reducible,instance] def Q00{x0 x1}:=mkW (Ey.eq_1 N x0 x1) ((x0.x.1=4→1≤x1.length)∧(¬ (x0.x.1=1∨x0.x.1=2∨x0.x.1=3∨x0.x.1=4)→2≤x1.length)) (fun r=>True)
theorem Q5a{N:Nat}[Y2 N]:∀(n:Nat) (e:Ql) (d:Int),1≤d→d≤17→18≤n+d→sz e≤1099511627776→W (Vy N n e d) fun _=>True
 | 0,e,d,h0,h1,h2,h3=>by omega
 | n+1,e,d,h0,h1,h2,h3=>by
  unfold Vy
  by_cases hd:d>16
  ·rw[if_pos (by simpa using hd)]
   exact⟨_,rfl,trivial⟩
  ·rw[if_neg (by simpa using hd)]
   have hw:IntKind.wrap .i64 (d+1)=d+1:=Q0 (by omega) (by omega)
   have ih:∀x:Ql,WP (Vy N n x (IntKind.wrap .i64 (d+1))) (fun R=>sz x≤1099511627776∧∀r:Int×Int,True→R r):=fun x=>Lr fun h=>by rw[hw]; exact Q5a n x (d+1) (by omega) (by omega) (by omega) h
   have hk:=Qik (e:=e)
   have hlen:=Zb (l:=e.ks)
   have loop:=fun s:Int×List Int=>upL (N:=N) (s:=s) (N6.eq_def N (Vy N n) e d) (fun s=>s.1) e.ks.length (fun s=>sz e.ks≤1099511627776∧s.2.length=s.1) (fun r:List Int⊕(Int×Int)=>∀a,r=.inl a→a.length=e.ks.length)
   refine wp ?_
   simp only[ss,sz1,sh1,mx1,Sum.forall,Sum.inl.injEq,Sum.inr.injEq,reduceCtorEq,forall_eq',forall_eq,false_implies,implies_true,true_implies,and_true,true_and,forall_const,beq_iff_eq,bne_iff_ne,ne_eq,List.length_append,List.length_cons,QH]at *
   repeat' (first | intro _ | apply And.intro)
   all_goals first | assumption | omega | grind
@[reducible,instance] def Jch{N:Nat}[hN:Y2 N]{x0:Ql}{x1:Int}:WP (Qby N x0 x1) (fun R=>(sz x0≤1099511627776∧x1=1)∧∀r:Int×Int,True→R r):=Lr (by
  intro h
  have:=hN.le
  exact Q5a N x0 x1 (by omega) (by omega) (by omega) h.1)
@[reducible,instance] def Q6s{x0}:=mkW (Bu.eq_1 N x0) (sz x0≤1099511627776) (fun r=>True)
@[reducible,instance] def Qp6{v1 x0 x2}{s}:=upI (N:=N) (s:=s) (Ej.eq_def N v1 x0 x2) (fun t=>t) (v1) (fun t=>v1≤x0.2.2.2.2.2.2.length∧x0.2.2.2.2.2.2.length≤9223372036854775807) (fun r:((Unit)⊕(Int))=>True)
@[reducible,instance] def Qp7{x0}{s}:=upL (N:=N) (s:=s) (Ek.eq_def N x0) (fun t=>t) x0.2.2.2.2.2.2.length (fun t=>sz x0≤1099511627776∧Sh.sh x0) (fun r:((Unit)⊕(Int))=>True)
@[reducible,instance] def Qu3{x0}:=mkW (Wx.eq_1 N x0) (sz x0≤1099511627776∧Sh.sh x0) (fun r=>True)
@[reducible,instance] def Q01{x0}:=mkW (Ez.eq_1 N x0) (sz x0≤1099511627776∧Sh.sh x0) (fun r=>True)
@[reducible,instance] def Q5b{x0 x1}:=mkW (Ac.eq_1 N x0 x1) (sz x0≤9223372036854775807∧sz x1≤9223372036854775807) (fun r=>True)
@[reducible,instance] def Qxs{x0}{s}:=upL (N:=N) (s:=s) (Dc.eq_def N x0) (fun t=>t) x0.length (fun t=>sz x0≤1099511627776∧Sh.sh x0∧x0.length≤1099511627776) (fun r:((Unit)⊕(Int))=>True)
@[reducible,instance] def Q5c{x0}:=mkW (Ad.eq_1 N x0) (sz x0≤1099511627776∧Sh.sh x0) (fun r=>True)
@[reducible,instance] def Qxt{x0}{s}:=upL (N:=N) (s:=s) (Dd.eq_def N x0) (fun t=>t) x0.length (fun t=>sz x0≤9223372036854775807∧Sh.sh x0) (fun r:((Unit)⊕(Bool))=>True)
@[reducible,instance] def Q5d{x0}:=mkW (Ae.eq_1 N x0) (sz x0≤9223372036854775807∧Sh.sh x0) (fun r=>True)
@[reducible,instance] def Q5e{x0}:=mkW (Z9.eq_1 N x0) (True) (fun r=>True)
@[reducible,instance] def Q02{x0 x1}{s}:=upL (N:=N) (s:=s) (Mh.eq_def N x0 x1) (fun t=>t.2.1) x0.length (fun t=>x0.length≤1099511627776∧t.2.2.length≤t.2.1+1∧(t.1=false→t.2.2.length≤t.2.1)) (fun r:((Bool×(List Int)))=>r.2.length≤x0.length+1∧(r.1=false→r.2.length≤x0.length))
@[reducible,instance] def Q83{x0 x1}:=mkW (Eb.eq_1 N x0 x1) (sz x0≤1099511627776) (fun r=>r.length≤x0.length+1)
@[reducible,instance] def Qu4{x1}{s}:=upL (N:=N) (s:=s) (Bv.eq_def N x1) (fun t=>t.2) x1.length (fun t=>sz x1≤1099511627776∧s.1.length≤1099511627∧x1.length≤1099511627∧(t.1.length:Int)+2*(x1.length - t.2)≤s.1.length+2*(x1.length - s.2)∧0≤s.2) (fun r:(((List Int)))=>(r.length:Int)≤s.1.length+2*(x1.length - s.2))
@[reducible,instance] def Q03{x0 x1}:=mkW (Xp.eq_1 N x0 x1) (x0.length≤1099511627∧x1.length≤1099511627) (fun r=>r.length≤x0.length+2*x1.length)
@[reducible,instance] def Qxu{x0 x1}:=mkW (Gq.eq_1 N x0 x1) (True) (fun r=>True)
@[reducible,instance] def Q5f{x0 x1}{s}:=upL (N:=N) (s:=s) (N7.eq_def N x0 x1) (fun t=>t) x0.length (fun t=>sz x0≤9223372036854775807) (fun r:((Unit)⊕(Bool))=>True)
@[reducible,instance] def Jci{x0 x1}:=mkW (Fp.eq_1 N x0 x1) (sz x0≤9223372036854775807) (fun r=>True)
@[reducible,instance] def Qu5{r2 x0 x2 x1 x3}{s}:=upI (N:=N) (s:=s) (Bw.eq_def N r2 x0 x2 x1 x3) (fun t=>t.1) ((r2.length:Int)) (fun t=>r2.length≤1099511627776∧t.1≤r2.length∧t.2.length≤t.1∧sz x0≤1099511627776∧sz x1≤1099511627776) (fun r:(((List Qb)))=>r.length≤r2.length)
@[reducible,instance] def Q04{x0 x1 x2 x3}:=mkW (E0.eq_1 N x0 x1 x2 x3) (x0.length≤1000∧x1.length≤1000) (fun r=>True)
@[reducible,instance] def Q05{x0 x1}:=mkW (E1.eq_1 N x0 x1) (x0.length≤1000∧x1.length≤1000) (fun r=>True)
@[reducible,instance] def Qu6{x0 x1}:=mkW (Wy.eq_1 N x0 x1) (True) (fun r=>True)
@[reducible,instance] def Qpj{v1 x0 x2}{s}:=upI (N:=N) (s:=s) (Ho.eq_def N v1 x0 x2) (fun t=>t) (v1) (fun t=>v1<x0.length∧x0.length≤9223372036854775807) (fun r:((Unit)⊕(Bool))=>True)
@[reducible,instance] def Qpk{x0}{s}:=upL (N:=N) (s:=s) (Hp.eq_def N x0) (fun t=>t) x0.length (fun t=>sz x0≤9223372036854775807∧x0.length≤9223372036854775807) (fun r:((Unit)⊕(Bool))=>True)
@[reducible,instance] def Qub{x0}:=mkW (X5.eq_1 N x0) (sz x0≤9223372036854775807) (fun r=>True)
@[reducible,instance] def Qxv{x0 x1}{s}:=Qmx (N:=N) (s:=s) (Df.eq_def N x0 x1) x0.2.1 (sz x0.2.1≤9223372036854775807∧Sh.sh x0.2.1∧1≤x1∧x1≤200) (fun y=>(sz y:Int)≤4*x1∧Kh y) ((szL x0.2.1:Int)≤4*x1∧Jb Kh x0.2.1) (fun u=>u=false) (fin:=fun h hall=>⟨Qzu (fun y hy=>(hall y hy).1) (by omega),⟨fun y hy=>(hall y hy).2⟩⟩)
@[reducible,instance] def Qxw{x0 x1}{s}:=Qmx (N:=N) (s:=s) (Dg.eq_def N x0 x1) x0.2.2.2.2.2 (x0.2.2.2.2.2.length≤9223372036854775807∧1≤x1∧x1≤200) (fun y=>(sz y:Int)≤x1) ((szL (x0.2.2.2.2.2):Int)≤x1) (fun u=>u=false)
@[reducible,instance] def Qxx{x0 x1}{s}:=Qmx (N:=N) (s:=s) (Dh.eq_def N x0 x1) x0.2.2.1 (x0.2.2.1.length≤9223372036854775807∧1≤x1∧x1≤200) (fun y=>(y.2.2.2.2.2.length:Int)≤x1) (Jb (fun p:Qm=>(p.2.2.2.2.2.length:Int)≤x1) x0.2.2.1) (fun u=>u=false) (fin:=fun h hall=>⟨hall⟩)
@[reducible,instance] def Qxy{x0}{s}:=Qmx (N:=N) (s:=s) (Di.eq_def N x0) x0.2.2.2.2.1 (x0.2.2.2.2.1.length≤9223372036854775807) (fun y=>True) (∀y∈x0.2.2.2.2.1,True) (fun u=>u=false)
@[reducible,instance] def Q5g{x0 x1}:=mkW (Af.eq_1 N x0 x1) (sz x0≤9223372036854775807∧Sh.sh x0∧1≤x1∧x1≤200) (fun r=>r=true→(sz x0:Int)≤4096∧(x0.1.length:Int)≤x1∧(x0.2.2.1.length:Int)≤x1∧Jb Kh x0.2.1∧Jb (fun p:Qm=>(p.2.2.2.2.2.length:Int)≤x1) x0.2.2.1∧(r=true→Ga x0.1))
def Qkq(u:Qc):Int×Int×Int×Int:=(u.2.2.2.2.2.2.1,u.2.2.2.2.2.2.2.2.2.2.1,u.2.2.2.2.2.2.2.2.2.2.2,u.1)
def klt(a b:Int×Int×Int×Int):Prop:=a.1<b.1∨(a.1=b.1∧(a.2.1<b.2.1∨(a.2.1=b.2.1∧(a.2.2.1<b.2.2.1∨(a.2.2.1=b.2.2.1∧a.2.2.2<b.2.2.2)))))
def ule(u v:Qc):Prop:=¬ klt (Qkq v) (Qkq u)
theorem Jff{a b c:Int×Int×Int×Int}(h:¬ klt b a)(k:¬ klt c b):¬ klt c a:=by
 unfold klt at *
 omega
theorem Jt5{a b:Int×Int×Int×Int}(h:¬ klt b a)(k:¬ klt a b):a.2.2.2=b.2.2.2:=by
 unfold klt at *
 omega
theorem Qxz{a b:Int×Int×Int×Int}(h:klt a b):¬ klt b a:=by
 unfold klt at *
 omega
theorem Jfg{u v w:Qc}(h:ule u v)(k:ule v w):ule u w:=Jff h k
structure Ids(l:List Qc):Prop where
 inj:∀u∈l,∀v∈l,u.1=v.1→u=v
theorem Q5h{l m n:List Qc}(hi:Ids n)(h1:l.Perm n)(h2:m.Perm n)(s1:l.Pairwise ule)(s2:m.Pairwise ule):l=m :=
 List.Perm.eq_of_pairwise (fun a b ha hb hab hba=>hi.inj a (h1.mem_iff.1 ha) b (h2.mem_iff.1 hb) (Jt5 (a:=Qkq a) (b:=Qkq b) hab hba)) s1 s2 (h1.trans h2.symm)
instance {a b:Int×Int×Int×Int}:Decidable (klt a b):=by unfold klt; infer_instance
def leB(x y:Qc):Bool:=!decide (klt (Qkq y) (Qkq x))
theorem P8{x y:Qc}:leB x y=true↔ule x y:=by unfold leB ule; simp
theorem Qfy{N:Nat}(a b:Qav):Hq N a b=some (decide (klt a b)):=by
 obtain⟨a1,a2,a3,a4⟩:=a
 obtain⟨b1,b2,b3,b4⟩:=b
 unfold Hq
 simp only[Bool.and_true]
 by_cases h1:a1=b1
 ·by_cases h2:a2=b2
  ·by_cases h3:a3=b3
   ·by_cases h4:a4=b4
    ·subst h1 h2 h3 h4
     rw[decide_eq_false (fun h=>Qxz h h)]; simp
    ·have:decide (klt (a1,a2,a3,a4) (b1,b2,b3,b4))=decide (a4<b4):=by
      refine decide_eq_decide.2 ?_
      unfold klt; simp only; omega
     rw[this]; simp[h1,h2,h3,h4]
   ·have:decide (klt (a1,a2,a3,a4) (b1,b2,b3,b4))=decide (a3<b3):=by
     refine decide_eq_decide.2 ?_
     unfold klt; simp only; omega
    rw[this]; simp[h1,h2,h3]
  ·have:decide (klt (a1,a2,a3,a4) (b1,b2,b3,b4))=decide (a2<b2):=by
    refine decide_eq_decide.2 ?_
    unfold klt; simp only; omega
   rw[this]; simp[h1,h2]
 ·have:decide (klt (a1,a2,a3,a4) (b1,b2,b3,b4))=decide (a1<b1):=by
   refine decide_eq_decide.2 ?_
   unfold klt; simp only; omega
  rw[this]; simp[h1]
theorem Qkr{α:Type}(x:α)(l:List α):slc (x::l) 1 (((x::l).length:Nat):Int)=some l:=by
 unfold slc
 rw[if_pos ⟨by omega,by simp; omega,by omega⟩]
 simp
theorem Jj{α:Type}{b:Nat}{l m:List α}(h:(l.length+m.length)*b≤140737488355328):app b l m=some (l++m):=by unfold app; rw[if_pos h]
theorem Pg{N:Nat}:∀(k n:Nat) (a b o:List Qc),a.length+b.length=k→k<n→(o.length+k)*112≤140737488355328→Qe (Yg N) n (a,b,o)=some (o++List.merge a b leB)
 | k,0,a,b,o,hk,hn,hb=>by omega
 | k,n+1,[],[],o,hk,hn,hb=>by
  simp[Qe,Yg]
 | k,n+1,x::a,[],o,hk,hn,hb=>by
  simp only[List.length_cons,QH]at hk
  have ih:=Pg (N:=N) (k - 1) n a [] (o++[x]) (by simp; omega) (by omega) (by simp; omega)
  have e:Yg N (x::a,[],o)=some (.inl (a,[],o++[x])):=by
   unfold Yg
   have ha:=Jj (l:=o) (m:=[x]) (b:=112) (by simp; omega)
   simp only[Qkr]
   simp[idx,ha]
  simp[Qe,e,ih]
 | k,n+1,[],y::b,o,hk,hn,hb=>by
  simp only[List.length_cons,QH]at hk
  have ih:=Pg (N:=N) (k - 1) n [] b (o++[y]) (by simp; omega) (by omega) (by simp; omega)
  have e:Yg N ([],y::b,o)=some (.inl ([],b,o++[y])):=by
   unfold Yg
   have ha:=Jj (l:=o) (m:=[y]) (b:=112) (by simp; omega)
   simp only[Qkr]
   have hne:¬ ((b.length:Int)+1=0):=by omega
   simp[idx,ha,hne]
  simp[Qe,e,ih]
 | k,n+1,x::a,y::b,o,hk,hn,hb=>by
  simp only[List.length_cons]at hk
  have hne:¬ ((b.length:Int)+1=0):=by omega
  have hgt:(0:Int)<(a.length:Int)+1:=by omega
  cases hle:leB x y with
  | true =>
   have ih:=Pg (N:=N) (k - 1) n a (y::b) (o++[x]) (by simp; omega) (by omega) (by simp; omega)
   have e:Yg N (x::a,y::b,o)=some (.inl (a,y::b,o++[x])):=by
    unfold Yg
    have hq:decide (klt (Qkq y) (Qkq x))=false:=by unfold leB at hle; simpa using hle
    have hf:∀u,D6 N u=some (Qkq u):=fun u=>rfl
    have ha:=Jj (l:=o) (m:=[x]) (b:=112) (by simp; omega)
    simp only[Qkr,hf,Qfy,hq]
    simp[idx,hne,hgt,hf,Qfy,hq,ha]
   rw[KF _ _ _ hle]
   simp[Qe,e,ih]
  | false =>
   have ih:=Pg (N:=N) (k - 1) n (x::a) b (o++[y]) (by simp; omega) (by omega) (by simp; omega)
   have e:Yg N (x::a,y::b,o)=some (.inl (x::a,b,o++[y])):=by
    unfold Yg
    have hq:decide (klt (Qkq y) (Qkq x))=true:=by unfold leB at hle; simpa using hle
    have hf:∀u,D6 N u=some (Qkq u):=fun u=>rfl
    have ha:=Jj (l:=o) (m:=[y]) (b:=112) (by simp; omega)
    simp only[Qkr,hf,Qfy,hq]
    simp[idx,hne,hgt,hf,Qfy,hq,ha]
   rw[KA _ _ _ (by simp[hle])]
   simp[Qe,e,ih]
theorem Q0c{N:Nat}[hN:Y2 N]:∀(n:Nat) (l:List Qc),l.length<n→l.length≤1000→∃r,Ku N n l=some r∧r.Perm l∧r.Pairwise ule
 | 0,l,h,_=>by omega
 | n+1,l,h,hl=>by
  unfold Ku
  by_cases h2:l.length<2
  ·rw[if_pos (decide_eq_true (by omega)),Jj (by simp; omega),QQ,QV]
   refine⟨l,rfl,.refl _,?_⟩
   cases l with
   | nil=>exact .nil
   | cons x t =>
    cases t with
    | nil=>exact XA _ _
    | cons y t=>simp only[List.length_cons]at h2; omega
  ·rw[if_neg (fun hc=>h2 (by have:=of_decide_eq_true hc; omega))]
   have hd:IntKind.wrap .i64 (Int.tdiv (l.length:Int) 2)=((l.length / 2:Nat):Int):=by
    rw[QF (by omega),Q0 (by omega) (by omega)]; omega
   rw[hd]
   have e1:slc l 0 ((l.length / 2:Nat):Int)=some (l.take (l.length / 2)):=by
    unfold slc
    rw[if_pos ⟨by omega,by omega,by omega⟩]
    have:(((l.length / 2:Nat):Int) - 0).toNat=l.length / 2:=by omega
    rw[this]; rfl
   have e2:slc l ((l.length / 2:Nat):Int) (l.length:Int)=some (l.drop (l.length / 2)):=by
    unfold slc
    rw[if_pos ⟨by omega,by omega,by omega⟩]
    have:((l.length:Int) - ((l.length / 2:Nat):Int)).toNat=(l.drop (l.length / 2)).length:=by rw[List.length_drop]; omega
    rw[XO,this,List.take_length]
   obtain⟨a,ea,pa,sa⟩:=Q0c (N:=N) n (l.take (l.length / 2)) (by rw[List.length_take]; omega) (by rw[List.length_take]; omega)
   obtain⟨b,eb,pb,sb⟩:=Q0c (N:=N) n (l.drop (l.length / 2)) (by rw[List.length_drop]; omega) (by rw[List.length_drop]; omega)
   have la:=pa.length_eq
   have lb:=pb.length_eq
   rw[List.length_take]at la
   rw[List.length_drop]at lb
   have hm:∀z:Qc,Gd.mkL 112 0 (l.length:Int) z=some []:=fun z=>by
    unfold Gd.mkL
    rw[if_pos ⟨by omega,by omega,by omega⟩]; rfl
   have hl1:=Pg (N:=N) (a.length+b.length) N a b [] rfl (by have:=hN.le; omega) (by simp; omega)
   rw[e1,QQ,ea,QQ,e2,QQ,eb,QQ,hm,QQ,hl1]
   refine⟨List.merge a b leB,by simp,?_,?_⟩
   ·refine(KN leB).trans ((pa.append pb).trans ?_)
    rw[List.take_append_drop]
   ·have hp:=VW (le:=leB) (fun x y z h k=>P8.2 (Jfg (P8.1 h) (P8.1 k))) (fun x y=>by
     rw[JU,P8,P8]
     unfold ule
     by_cases h:klt (Qkq y) (Qkq x)
     ·exact .inr (Qxz h)
     ·exact .inl h) a b (sa.imp P8.2) (sb.imp P8.2)
    exact hp.imp P8.1
theorem Q5i{N:Nat}[hN:Y2 N]{l:List Qc}(hl:l.length≤1000):∃r,In N l=some r∧r.Perm l∧r.Pairwise ule:=Q0c N l (by have:=hN.le; omega) hl
@[reducible,instance] def Q06{x0}:=mkW (E2.eq_1 N x0) (True) (fun r=>r=true→0≤x0.2.2.2.2.2.2.1∧x0.2.2.2.2.2.2.1<12622780800∧(r=true→UsA x0)) (k:=by
  intro h
  try simp only[sS,reduceCtorEq]at *
  repeat' (first | intro _ | apply And.intro)
  all_goals first | exact⟨by omega⟩ | exact lv)
@[reducible,instance] def Q6t{x0}:=mkW (Bx.eq_1 N x0) (True) (fun r=>r=true→x0<86400000∨x0>12622780800)
@[reducible,instance] def Q6u{x0 x1}{s}:=upL (N:=N) (s:=s) (Pw.eq_def N x0 x1) (fun t=>t) x0.length (fun t=>sz x0≤9223372036854775807) (fun r:((Int))=>0≤r∧r≤x0.length)
@[reducible,instance] def Jfh{x0 x1}:=mkW (N8.eq_1 N x0 x1) (sz x0≤1099511627776) (fun r=>sz r≤sz x0+1)
@[reducible,instance] def Q0d{x0 x1}{s}:=upL (N:=N) (s:=s) (Le.eq_def N x0 x1) (fun t=>t.1) x0.length (fun t=>sz x0≤1099511627776∧t.2.length≤t.1∧sz t.2≤(sz x0)) (fun r:(((List Str)))=>sz r≤(sz x0))
@[reducible,instance] def Q6v{x0 x1}:=mkW (By.eq_1 N x0 x1) (sz x0≤1099511627776) (fun r=>sz r≤(sz x0))
@[reducible,instance] def Jfi{x0 x1}:=mkW (N9.eq_1 N x0 x1) (sz x0≤1099511627776) (fun r=>r.2.2.2.2.1.length≤x0.2.2.2.2.1.length+1∧r.2.2.2.2.2.1.length≤x0.2.2.2.2.2.1.length+1)
@[reducible,instance] def Q0e{x0 x1}{s}:=upL (N:=N) (s:=s) (Lf.eq_def N x0 x1) (fun t=>t.1) x0.length (fun t=>x0.length≤32∧t.2.1.length≤t.1∧sz t.2.1≤t.1∧sz t.2.2≤t.1) (fun r:(((List Q3)))=>sz r≤32)
@[reducible,instance] def Q6w{x0 x1}:=mkW (Bz.eq_1 N x0 x1) (x0.length≤32) (fun r=>sz r≤32)
@[reducible,instance] def Q5j{x0 x1}{s}:=upL (N:=N) (s:=s) (Oa.eq_def N x0 x1) (fun t=>t) x0.2.2.2.2.2.1.length (fun t=>sz x0≤9223372036854775807∧sz x1≤9223372036854775807∧x0.2.2.2.2.2.1.length=x1.2.2.2.2.2.1.length) (fun r:((Unit)⊕(Bool))=>True)
@[reducible,instance] def Jcj{x0 x1}:=mkW (L2.eq_1 N x0 x1) (sz x0≤9223372036854775807∧sz x1≤9223372036854775807) (fun r=>True)
@[reducible,instance] def Q5k{x0 x1}:=mkW (Ag.eq_1 N x0 x1) (sz x0≤9223372036854775807∧sz x1≤9223372036854775807) (fun r=>True)
@[reducible,instance] def Q5l{x0 x1}:=mkW (Ah.eq_1 N x0 x1) (True) (fun r=>sz r≤sz x0)
@[reducible,instance] def Qe1{x0}{s}:=upL (N:=N) (s:=s) (Zd.eq_def N x0) (fun t=>t.1) x0.length (fun t=>sz x0≤32∧t.2.length≤t.1∧sz t.2≤32∧x0.length≤32) (fun r:(((List Q3)))=>sz r≤32)
@[reducible,instance] def Qg9{x0}:=mkW (Vj.eq_1 N x0) (sz x0≤32) (fun r=>sz r≤32)
@[reducible,instance] def Q07{r2}{s}:=upL (N:=N) (s:=s) (Mi.eq_def N r2) (fun t=>t.1) r2.length (fun t=>sz r2≤32∧t.2.length≤t.1∧sz t.2≤32∧r2.length≤32) (fun r:(((List Jc)))=>sz r≤32)
@[reducible,instance] def Q84{x0 x1}:=mkW (Ec.eq_1 N x0 x1) (x0.length≤32) (fun r=>sz r≤32)
@[reducible,instance] def Jfj{x0}:=mkW (Ut.eq_1 N x0) (True) (fun r=>r=true→0≤x0.1∧x0.1<x0.2∧x0.2≤12622780800)
@[reducible,instance] def Q6x{x0 x1}:=mkW (G0.eq_1 N x0 x1) (True) (fun r=>True)
@[reducible,instance] def Jck{r1 x2}{s}:=upL (N:=N) (s:=s) (Qbz.eq_def N r1 x2) (fun t=>t.1) r1.length (fun t=>sz r1≤9223372036854775807∧r1.length≤9223372036854775807) (fun r:((Qb×Str×Bool×Bool)⊕(Bool×Jc))=>sz r≤(sz r1))
@[reducible,instance] def Jlo{x0 x1 x2}:=mkW (Wz.eq_1 N x0 x1 x2) (x0.length≤32) (fun r=>sz r≤32)
@[reducible,instance] def Jfk:=mkW (Oc.eq_1 N) (True) (fun r=>sz r≤0∧r.2.1=[])
@[reducible,instance] def Jg5{x0 x1}:=mkW (Rl.eq_1 N x0 x1) (sz x0≤9223372036854775807) (fun r=>r.1=x0)
@[reducible,instance] def Q5m{x1 x2}{s}:=upL (N:=N) (s:=s) (Od.eq_def N x1 x2) (fun t=>t.1) x1.length (fun t=>x1.length≤32∧t.2.length≤t.1∧Jb (fun e:Qg=>e∈x1) t.2) (fun r:(((Unit)⊕(Unit))×(List Qg))=>r.2.length≤32∧Jb (fun e:Qg=>e∈x1) r.2) (step:=by
  intro s h h0 h1 h2 hw
  try simp only[sS,reduceCtorEq]at *
  repeat' (first | intro _ | apply And.intro)
  all_goals first | ((repeat cases ‹_∧_›); first | assumption | omega | exact Ud (by assumption) (Xa (by assumption))) | exact lv)
@[reducible,instance] def Jcl{x1 x2}:=mkW (L3.eq_1 N x1 x2) (x1.length≤32) (fun r=>r.length≤32∧Jb (fun e:Qg=>e∈x1) r) (k:=by
  intro h
  try simp only[sS,reduceCtorEq]at *
  repeat' (first | intro _ | apply And.intro)
  all_goals first | ((repeat cases ‹_∧_›); first | assumption | omega | exact Zf) | exact lv)
@[reducible,instance] def Qx0{x0 x1}{s}:=upL (N:=N) (s:=s) (Dj.eq_def N x0 x1) (fun t=>t) x0.length (fun t=>sz x0≤9223372036854775807) (fun r:((Int))=>0≤r∧r≤x0.length)
@[reducible,instance] def Q5n{x0 x1}:=mkW (W0.eq_1 N x0 x1) (sz x0≤1099511627776) (fun r=>r.length≤x0.length+1)
@[reducible,instance] def Qtn{x0 x1}{s}:=upL (N:=N) (s:=s) (E8.eq_def N x0 x1) (fun t=>t) x0.length (fun t=>sz x0≤9223372036854775807) (fun r:((Int))=>0≤r∧r≤x0.length)
@[reducible,instance] def Qx1{x0 x1}:=mkW (Kl.eq_1 N x0 x1) (sz x0≤1099511627776) (fun r=>r.length≤x0.length+1)
@[reducible,instance] def Q5o{x0 x1}{s}:=upL (N:=N) (s:=s) (Oe.eq_def N x0 x1) (fun t=>t.1) x0.length (fun t=>sz x0≤1099511627776∧t.2.length≤t.1∧sz t.2≤(sz x0)) (fun r:(((List Str)))=>sz r≤(sz x0))
@[reducible,instance] def Jcm{x0 x1}:=mkW (Fq.eq_1 N x0 x1) (sz x0≤1099511627776) (fun r=>sz r≤(sz x0))
@[reducible,instance] def Qu7{x1 x2 ce cd cg ci cj ck cm}:=mkW (W5.eq_1 N x1 x2 ce cd cg ci cj ck cm) (sz x1≤1099511627) (fun r=>sz r.1≤sz x1+1∧r.2.length≤ci.length+1∧r.1.1=x1.1∧r.1.2.1=x1.2.1)
@[reducible,instance] def Qpl{x1 cd}{s}:=upL (N:=N) (s:=s) (Hr.eq_def N x1 cd) (fun t=>t.1) ((((Qr (k:=(.int .i64)) x1.2.2.2.1 cd).getD (0,0,0,([]:Str),([]:List Str),([]:List Str),false,false)).2.2.2.2.1)).length (fun t=>sz cd≤1099511627∧t.2.length≤s.2.length∧cd.length≤1099511627) (fun r:(((List (Str×Int))))=>r.length≤s.2.length) (fun t h=>by have:=Qzv cd x1.2.2.2.1; omega)
@[reducible,instance] def Quc{x1 ce cd cg ci cj ck cm}:=mkW (X6.eq_1 N x1 ce cd cg ci cj ck cm) (sz ce≤1099511627∧sz cd≤1099511627∧cg.length≤1099511627∧ci.length≤1099511627∧cj.length≤1099511627∧ck.length≤1099511627∧cm.length≤1099511627) (fun r=>sz r.1≤sz ce+1∧sz r.2.1≤sz cd+1∧r.2.2.1.length≤cg.length+1∧r.2.2.2.1.length≤ci.length+1∧r.2.2.2.2.1.length≤cj.length+1∧r.2.2.2.2.2.1.length≤ck.length+1∧r.2.2.2.2.2.2.length≤cm.length+1∧Qfx x1 cd r.2.1) (k:=by
  intro h
  have g0:=Qzv cd; have g1:=Jce ce
  try simp only[sS,reduceCtorEq]at *
  repeat' (first | intro _ | apply And.intro)
  all_goals first | ((repeat cases ‹_∧_›); first | assumption | omega | exact Qzy | exact Q4o | exact Q4n (by assumption) rfl rfl | exact Q4p (by assumption) (by assumption) (by assumption)) | (refine Nat.le_trans (Ip _ _ _) (KX.2 ⟨?_,?_⟩)<;>(try simp only[sz1,mx1])<;>grind) | exact lv)
@[reducible,instance] def Qoa{cm cd}{s}:=upL (N:=N) (s:=s) (G1.eq_def N cm cd) (fun t=>t.1) cm.length (fun t=>cm.length≤1099511627∧sz cd≤1099511627∧(sz t.2.1:Int)≤t.1∧t.2.2.length≤t.1∧sz t.2.2≤t.1+sz cd∧Jb (Qw8 cd) t.2.2∧cd.length≤1099511627) (fun r:(((List (Int×(List Int)))×(List Qz)))=>sz r.1≤cm.length∧sz r.2≤cm.length+sz cd∧Jb (Qw8 cd) r.2) (step:=by
  intro s h h0 h1 h2 hw
  have g0:=Qzv cd; have g1:=Q4f s.2.1
  try simp only[sS,reduceCtorEq]at *
  repeat' (first | intro _ | apply And.intro)
  all_goals first | ((repeat cases ‹_∧_›); first | assumption | omega | exact Ud (by assumption) (Xa (Jlg (by assumption)))) | (refine Jo4 ?_ ?_<;>(try simp only[sz1,mx1,List.length_append,List.length_cons,QH])<;>grind) | exact lv)
@[reducible,instance] def Qob{ck ce v20}{s}:=upL (N:=N) (s:=s) (G2.eq_def N ck ce v20) (fun t=>t.1) ck.length (fun t=>ck.length≤1099511627∧sz ce≤1099511627∧sz v20≤1099511627∧t.2.1.length≤t.1∧sz t.2.1≤3298534881∧sz t.2.2≤10995116270∧t.2.2=s.2.2∧ce.length≤1099511627∧v20.length≤1099511627) (fun r:(((List Qq)×(List Qz)))=>sz r.1≤3298534881∧sz r.2≤10995116270∧r.2=s.2.2) (step:=by
  intro s h h0 h1 h2 hw
  have g0:=Jce ce; have g1:=Q4f v20
  try simp only[sS,reduceCtorEq]at *
  repeat' (first | intro _ | apply And.intro)
  all_goals first | exact lv)
@[reducible,instance] def Qto{ce cd cg ci cj ck cm}:=mkW (Xf.eq_1 N ce cd cg ci cj ck cm) (sz ce≤1099511627∧sz cd≤1099511627∧cg.length≤1099511627∧ci.length≤1099511627∧cj.length≤1099511627∧ck.length≤1099511627∧cm.length≤1099511627) (fun r=>sz r.1≤10995116270∧sz r.2≤10995116270∧Jb (Qw8 cd) r.2) (k:=by
  intro h
  try simp only[sS,reduceCtorEq]at *
  repeat' (first | intro _ | apply And.intro)
  all_goals first | ((repeat cases ‹_∧_›); first | assumption | omega | exact Zf | (subst_vars; assumption) | (simp only[*]; assumption)) | exact lv)
@[reducible,instance] def Q6y{es:List Qg}{s:(List (Int×Qq))×(List (Int×Qz))×(List (Int×Bool))×(List (Str×Int))×(List (Int×Int))×(List Int)×(List Int)}:=Jtz (f:=G3 N) (es:=es) (fun n s=>es.length≤32∧Qtm es s.2.1∧(sz s.1:Int)≤n∧(sz s.2.1:Int)≤n∧(s.2.2.1.length:Int)≤n∧(s.2.2.2.1.length:Int)≤n∧(s.2.2.2.2.1.length:Int)≤n∧(s.2.2.2.2.2.1.length:Int)≤n∧(s.2.2.2.2.2.2.length:Int)≤n) (by
  intro n s e he h0 hn h
  show W (G3 N s e) _
  rw[G3.eq_1]
  refine wp ?_
  try simp only[sS,reduceCtorEq]at *
  repeat' (first | intro _ | apply And.intro)
  all_goals first | assumption | omega | (have hB:=h.2.1; (repeat cases ‹_∧_›); exact Qfx.st (by assumption) _ he hB)) (s:=s)
@[reducible,instance] def Jfl{x0 x1}:=mkW (B0.eq_1 N x0 x1) (x0.length≤32) (fun r=>sz r.1≤10995116270∧sz r.2≤10995116270∧Jb (fun s:Qz=>Kj x0 s.2.1 s.1) r.2) (k:=by
  intro h
  try simp only[sS,reduceCtorEq]at *
  repeat' (first | intro _ | apply And.intro)
  all_goals first | ((repeat cases ‹_∧_›); first | assumption | omega | exact Jlm (by assumption) | exact Qw9 (by assumption) (by assumption) (by assumption) | (subst_vars; exact Qw9 (by assumption) (by assumption) (by assumption))) | exact lv)
@[reducible,instance] def Jcn{r2 x1}{s}:=upL (N:=N) (s:=s) (Qb0.eq_def N r2 x1) (fun t=>t.1) r2.length (fun t=>sz r2≤10995116270∧r2.length≤10995116270) (fun r:((Int×Int×Int×Str×Bool×Bool)⊕(Bool×Qz))=>∀t,r=.inr t→sz t.2≤10995116270∧t.2∈r2∧t.2.1=x1)
@[reducible,instance] def Qtp{x0 x1 x2}:=mkW (K5.eq_1 N x0 x1 x2) (x0.length≤32) (fun r=>sz r.1≤10995116270∧(r.1.2.1=0∨Kj x0 r.1.2.1 x1)) (k:=by
  intro h
  try simp only[sS,reduceCtorEq]at *
  repeat' (first | intro _ | apply And.intro)
  all_goals first | ((repeat cases ‹_∧_›); first | assumption | omega | exact .inl rfl | exact .inr (Jt4 (by assumption) (by assumption) (by assumption))) | exact lv)
@[reducible,instance] def Q08{r1 x1}{s}:=upL (N:=N) (s:=s) (Mj.eq_def N r1 x1) (fun t=>t.1) r1.length (fun t=>sz r1≤10995116270∧r1.length≤10995116270) (fun r:((Int×Int×Int×Bool×Bool)⊕(Bool×Qq))=>∀t,r=.inr t→sz t.2≤10995116270)
@[reducible,instance] def Q85{x0 x1 x2}:=mkW (Uk.eq_1 N x0 x1 x2) (x0.length≤32) (fun r=>sz r.1≤10995116270)
@[reducible,instance] def Q0f{x0}:=mkW (Hs.eq_1 N x0) (x0.length≤4096) (fun r=>r=x0)
@[reducible,instance] def Qu8{x0}:=mkW (W6.eq_1 N x0) (x0.length≤4096) (fun r=>r=x0)
@[reducible,instance] def Qu9{x0}:=mkW (W7.eq_1 N x0) (x0.length≤4096) (fun r=>r=x0)
theorem Qch{N:Nat}[Y2 N]:∀(n:Nat) (e:Ql),dpt e≤n→sz e≤4096→W (Xg N n e) fun r=>r=e
 | 0,e,h,hs=>by cases e with | mk a ks=>rw[dpt]at h; omega
 | n+1,e,h,hs=>by
  unfold Xg
  have hk:=Qik (e:=e)
  have hlen:=Zb (l:=e.ks)
  have ih:∀x:Ql,WP (Xg N n x) (fun R=>(x∈e.ks∧sz x≤4096)∧∀r:Ql,r=x→R r):=fun x=>Lr fun hx=>Qch n x (by have:=Jla hx.1; omega) hx.2
  have loop:=fun s:Int×List Ql=>upL (N:=N) (s:=s) (Qdo.eq_def N (Xg N n) e) (fun s=>s.1) e.ks.length (fun s=>e.ks.length≤4096∧s.2=e.ks.take s.1.toNat) (fun r:List Ql=>r=e.ks) (step:=by
   intro s h h0 h1 h2 hw
   try simp only[sS,reduceCtorEq]at *
   repeat' (first | intro _ | apply And.intro)
   all_goals first | assumption | omega | grind [Y5,Uc])
  refine wp ?_
  simp only[forall_eq]
  refine⟨⟨⟨by omega,by simp⟩,by omega,by omega⟩,?_⟩
  cases e with
  | mk a ks=>rfl
@[reducible,instance] def Jna{N:Nat}[hN:Y2 N]{x0:Ql}:WP (Qnx N x0) (fun R=>(sz x0≤4096∧dpt x0≤4096)∧∀r:Ql,r=x0→R r):=Lr (by
  intro h
  have:=hN.le
  exact Qch N x0 (by omega) h.1)
@[reducible,instance] def Jco{x0}{s}:=upL (N:=N) (s:=s) (Qb1.eq_def N x0) (fun t=>t.1) x0.2.2.2.1.length (fun t=>sz x0≤4096∧t.2.1=x0.1∧t.2.2.1=x0.2.1∧t.2.2.2.1=x0.2.2.1∧t.2.2.2.2=x0.2.2.2.1.take t.1.toNat) (fun r:((Str×Int×Bool×(List Qw)))=>r.1=x0.1∧r.2.1=x0.2.1∧r.2.2.1=x0.2.2.1∧r.2.2.2=x0.2.2.2.1) (step:=by
  intro s h h0 h1 h2 hw
  try simp only[sS,reduceCtorEq]at *
  repeat' (first | intro _ | apply And.intro)
  all_goals first | grind [Y5,Uc,Kh.deep] | exact lv)
@[reducible,instance] def Jcp{x0}{s}:=upL (N:=N) (s:=s) (Qb2.eq_def N x0) (fun t=>t.1) x0.2.2.2.2.1.length (fun t=>sz x0≤4096∧t.2.1=x0.1∧t.2.2.1=x0.2.1∧t.2.2.2.1=x0.2.2.1∧t.2.2.2.2.1=x0.2.2.2.1∧t.2.2.2.2.2=x0.2.2.2.2.1.take t.1.toNat) (fun r:((Str×Int×Bool×(List Qw)×(List Qx)))=>r.1=x0.1∧r.2.1=x0.2.1∧r.2.2.1=x0.2.2.1∧r.2.2.2.1=x0.2.2.2.1∧r.2.2.2.2=x0.2.2.2.2.1) (step:=by
  intro s h h0 h1 h2 hw
  try simp only[sS,reduceCtorEq]at *
  repeat' (first | intro _ | apply And.intro)
  all_goals first | grind [Y5,Uc,Kh.deep] | exact lv)
@[reducible,instance] def Jcq{x0}{s}:=upL (N:=N) (s:=s) (Qb3.eq_def N x0) (fun t=>t.1) x0.2.2.2.2.2.1.length (fun t=>sz x0≤4096∧t.2.1=x0.1∧t.2.2.1=x0.2.1∧t.2.2.2.1=x0.2.2.1∧t.2.2.2.2.1=x0.2.2.2.1∧t.2.2.2.2.2.1=x0.2.2.2.2.1∧t.2.2.2.2.2.2=x0.2.2.2.2.2.1.take t.1.toNat) (fun r:((Str×Int×Bool×(List Qw)×(List Qx)×(List Ji)))=>r.1=x0.1∧r.2.1=x0.2.1∧r.2.2.1=x0.2.2.1∧r.2.2.2.1=x0.2.2.2.1∧r.2.2.2.2.1=x0.2.2.2.2.1∧r.2.2.2.2.2=x0.2.2.2.2.2.1) (step:=by
  intro s h h0 h1 h2 hw
  try simp only[sS,reduceCtorEq]at *
  repeat' (first | intro _ | apply And.intro)
  all_goals first | grind [Y5,Uc,Kh.deep] | exact lv)
@[reducible,instance] def Jcr{x0}{s}:=upL (N:=N) (s:=s) (Qb4.eq_def N x0) (fun t=>t.1) x0.2.2.2.2.2.2.length (fun t=>sz x0≤4096∧Kh x0∧t.2.1=x0.1∧t.2.2.1=x0.2.1∧t.2.2.2.1=x0.2.2.1∧t.2.2.2.2.1=x0.2.2.2.1∧t.2.2.2.2.2.1=x0.2.2.2.2.1∧t.2.2.2.2.2.2.1=x0.2.2.2.2.2.1∧t.2.2.2.2.2.2.2=x0.2.2.2.2.2.2.take t.1.toNat) (fun r:((Str×Int×Bool×(List Qw)×(List Qx)×(List Ji)×(List Qn)))=>r.1=x0.1∧r.2.1=x0.2.1∧r.2.2.1=x0.2.2.1∧r.2.2.2.1=x0.2.2.2.1∧r.2.2.2.2.1=x0.2.2.2.2.1∧r.2.2.2.2.2.1=x0.2.2.2.2.2.1∧r.2.2.2.2.2.2=x0.2.2.2.2.2.2) (step:=by
  intro s h h0 h1 h2 hw
  try simp only[sS,reduceCtorEq]at *
  repeat' (first | intro _ | apply And.intro)
  all_goals first | grind [Y5,Uc,Kh.deep] | exact lv)
@[reducible,instance] def Jlp{x0}:=mkW (Qay.eq_1 N x0) (sz x0≤4096∧Kh x0) (fun r=>r=x0)
@[reducible,instance] def Jlq{x0 x1 x2}{s}:=upL (N:=N) (s:=s) (Qjz.eq_def N x0 x1 x2) (fun t=>t.2) x0.length (fun t=>x0.length≤4096 ∧ -1≤t.1∧t.1<x0.length) (fun r:((Int)) => -1≤r∧r<x0.length)
@[reducible,instance] def Jsk{x0 x1 x2}:=mkW (D8.eq_1 N x0 x1 x2) (sz x0≤4096∧Sh.sh x0∧Jb Kh x0) (fun r=>sz r≤4096∧Sh.sh r∧Jb (fun d=>dpt d.2.1≤4096) r.2.2.2.2.2.2.2) (k:=by
  intro h
  try simp only[sS,reduceCtorEq]at *
  repeat' (first | intro _ | apply And.intro)
  all_goals first | exact⟨fun _ h=>absurd h QO⟩ | exact⟨fun d hd=>absurd hd QO⟩ | exact Jb.all (And.right (And.right (by assumption))) _ (by assumption) | exact⟨Kh.deep (Jb.all (And.right (And.right (by assumption))) _ (by assumption))⟩ | exact lv)
@[reducible,instance] def Jg6{x0}{s}:=upL (N:=N) (s:=s) (Qg0.eq_def N x0) (fun t=>t) x0.length (fun t=>Sh.sh x0) (fun r:((Unit)⊕(Bool))=>True) (fun _ h=>Qil (by grind))
@[reducible,instance] def Jo6{x0}:=mkW (Qhw.eq_1 N x0) (Sh.sh x0) (fun r=>True)
@[reducible,instance] def Jg7{x0 ca}:=mkW (Rm.eq_1 N x0 ca) (True) (fun r=>True)
@[reducible,instance] def Qmz{x0 ca}{s}:=upL (N:=N) (s:=s) (Gf.eq_def N x0 ca) (fun t=>t) x0.length (fun t=>x0.length≤9223372036854775807) (fun r:((Unit)⊕(Int))=>∀t,r=.inr t→0≤t∧t<x0.length)
@[reducible,instance] def Qp8{x0 ca}:=mkW (Kq.eq_1 N x0 ca) (x0.length≤9223372036854775807) (fun r => -1≤r∧r<x0.length)
@[reducible,instance] def Qm0{x0 ca}:=mkW (U7.eq_1 N x0 ca) (x0.length≤9223372036854775807) (fun r=>True)
@[reducible,instance] def Jlr{x0}:=mkW (Qaz.eq_1 N x0) (True) (fun r=>True)
@[reducible,instance] def Jcs{x0}{s}:=upL (N:=N) (s:=s) (Qb5.eq_def N x0) (fun t=>t) x0.length (fun t=>Sh.sh x0) (fun r:((Unit)⊕(Bool))=>True) (fun _ h=>Qil (by grind))
@[reducible,instance] def Jls{x0}:=mkW (B1.eq_1 N x0) (Sh.sh x0) (fun r=>True)
@[reducible,instance] def Jfm{x4}{s}:=upL (N:=N) (s:=s) (Qdp.eq_def N x4) (fun t=>t.1) x4.2.length (fun t=>x4.2.length≤9223372036854775807∧Sh.sh x4) (fun r:(((List (Str×Str)))⊕(Int))=>∀c,r=.inr c→c≠0)
@[reducible,instance] def Jfn{x0}{s}:=upL (N:=N) (s:=s) (Qdq.eq_def N x0) (fun t=>t.1) x0.length (fun t=>sz x0≤9223372036854775807∧Sh.sh x0∧x0.length≤9223372036854775807) (fun r:(((List (Str×Str)))⊕(Int))=>∀c,r=.inr c→c≠0)
@[reducible,instance] def Jnb{x0}:=mkW (Qdr.eq_1 N x0) (sz x0≤9223372036854775807∧Sh.sh x0) (fun r=>∀c,r=.inr c→c≠0)
@[reducible,instance] def Q86{x1 ca}{s}:=mkL (N:=N) (s:=s) (Ta.eq_def N x1 ca) (fun t=>t.toNat) (fun t=>List.length x1≤9223372036854775807∧t≤List.length x1) (fun r:((Unit)⊕(Str×Bool))=>True)
@[reducible,instance] def Jg8{x1 x2 ca}:=mkW (Rn.eq_1 N x1 x2 ca) (List.length x1≤9223372036854775807∧x2≤List.length x1) (fun r=>True)
@[reducible,instance] def Jo7{x0 x1}:=mkW (Ht.eq_1 N x0 x1) (sz x0≤9223372036854775807∧Sh.sh x0∧Sh.sh x1∧List.length x1≤9223372036854775807) (fun r=>True)
@[reducible,instance] def Jct{x0:Int}:WP (Kw N x0) (fun R=>(2000≤x0∧x0≤2400)∧∀r:Int,r=bef x0→R r):=Lr fun h=>by
 obtain⟨h0,h1⟩:=h
 have e1:IntKind.wrap .i64 (x0 - 2000)=x0 - 2000:=Q0 (by omega) (by omega)
 have e2:IntKind.wrap .i64 (365*(x0 - 2000))=365*(x0 - 2000):=Q0 (by omega) (by omega)
 rw[Kw.eq_1,e1,e2]
 by_cases hc:x0 - 2000>0
 ·have e3:IntKind.wrap .i64 (x0 - 2000 - 1)=x0 - 2001:=by rw[Q0 (by omega) (by omega)]; omega
  rw[if_pos (by simpa using hc),e3,QF (by omega),QF (by omega),QF (by omega)]
  refine⟨_,rfl,?_⟩
  simp (disch:=omega) only [Q0]
  unfold bef
  rw[if_pos (by omega)]
  try omega
 ·rw[if_neg (by simpa using hc)]
  refine⟨_,rfl,?_⟩
  unfold bef
  rw[if_neg (by omega)]
  try omega
@[reducible,instance] def Qpm{x0:Int}:WP (Rr N x0) (fun R=>True∧∀r:Bool,lpd x0=(if r=true then 1 else 0)→R r):=Lr fun h=>by
 refine⟨_,rfl,?_⟩
 unfold lpd
 simp only[JU,QJ,beq_iff_eq,bne_iff_ne,ne_eq]
@[reducible,instance] def Jg9{x0 x1:Int}:WP (Xi N x0 x1) (fun R=>(1≤x1∧x1≤12)∧∀r:Int,((28≤r∧r≤31)∧r=mon x0 x1)→R r):=Lr fun h=>by
 have hx:x1=1∨x1=2∨x1=3∨x1=4∨x1=5∨x1=6∨x1=7∨x1=8∨x1=9∨x1=10∨x1=11∨x1=12:=by omega
 unfold mon
 rcases hx with rfl | rfl | rfl | rfl | rfl | rfl | rfl | rfl | rfl | rfl | rfl | rfl
 case inr.inl =>
  obtain⟨b,e,hb⟩:=(Qpm (N:=N) (x0:=x0)).spec (fun b=>lpd x0=(if b=true then 1 else 0)) ⟨trivial,fun _ h=>h⟩
  rw[Xi.eq_1,e]
  cases b
  ·exact⟨28,rfl,by simp at hb; rw[hb]; decide⟩
  ·exact⟨29,rfl,by simp at hb; rw[hb]; decide⟩
 all_goals exact⟨_,rfl,by simp⟩
@[reducible,instance] def Q87{x0}{s}:=mkL (N:=N) (s:=s) (Tc.eq_def N x0) (fun t=>(2400 - t.1).toNat) (fun t=>x0<146097∧2000≤t.1∧t.1≤2399∧bef t.1≤x0∧t.2.1=1∧t.2.2=0) (fun r:((Bn))=>2000≤r.1∧r.1≤2399∧bef r.1≤x0∧x0<bef r.1+365+lpd r.1∧r.2.1=1) (step:=by
  intro s h
  have g0:=Jlc s.1; have g1:=Jld; have g2:=(show 2000≤s.1∧s.1≤2399→IntKind.wrap .i64 (s.1+1)=s.1+1 from fun a=>Q0 (by omega) (by omega))
  try simp only[sS,reduceCtorEq]at *
  repeat' (first | intro _ | apply And.intro)
  all_goals first | exact lv)
@[reducible,instance] def Q88{s}:=mkL (N:=N) (s:=s) (Td.eq_def N) (fun t=>(13 - t.2.2.1).toNat) (fun t=>0≤t.1∧t.1≤366∧1≤t.2.2.1∧t.2.2.1≤12∧2000≤t.2.1∧t.2.1≤2399∧t.1<lft t.2.1 t.2.2.1∧t.2.1=s.2.1) (fun r:((Int×Bn))=>0≤r.1∧r.1≤366∧2000≤r.2.1∧r.2.1≤2399∧1≤r.2.2.1∧r.2.2.1≤12∧r.2.1=s.2.1) (step:=by
  intro s h
  have g0:=Jlb s.2.1; have g1:=Jle s.2.1 s.2.2.1; have g2:=Jt2 s.2.1; have g3:=(show 1≤s.2.2.1∧s.2.2.1≤12→IntKind.wrap .i64 (s.2.2.1+1)=s.2.2.1+1 from fun a=>Q0 (by omega) (by omega)); have g4:=(show ∀d:Int,0≤s.1∧s.1≤366→28≤d∧d≤31→IntKind.wrap .i64 (s.1 - d)=s.1 - d from fun d a b=>Q0 (by omega) (by omega))
  try simp only[sS,reduceCtorEq]at *
  repeat' (first | intro _ | apply And.intro)
  all_goals first | exact lv)
@[reducible,instance] def Jha{x0}:=mkW (Rs.eq_1 N x0) (True) (fun r=>0≤r.1∧r.1≤2399∧0≤r.2.1∧r.2.1≤12∧0≤r.2.2∧r.2.2≤367∧(0≤x0→x0<146097→2000≤r.1∧365*(r.1 - 2000)≤x0∧1≤r.2.1)) (k:=by
  intro h
  have g0:=Jlb; have g1:=Qzw; have g2:=Jvq; have g3:=(show 0≤x0∧x0<146097→IntKind.wrap .i64 (2000+IntKind.wrap .i64 (Int.tdiv x0 366))=2000+x0 / 366 from fun a=>by rw[QF (by omega),Q0 (n:=x0 / 366) (by omega) (by omega),Q0 (by omega) (by omega)]); have g4:=(show ∀y:Int,2000≤y→bef y≤x0→x0<146097→IntKind.wrap .i64 (x0 - bef y)=x0 - bef y from fun y a b c=>by have:=Qzw y a; exact Q0 (by omega) (by omega))
  try simp only[sS,reduceCtorEq]at *
  repeat' (first | intro _ | apply And.intro)
  all_goals first | exact lv)
@[reducible,instance] def Jfo{x0 x1}:=mkW (Hv.eq_1 N x0 x1) (True) (fun r => -24002≤r∧r≤4799∧(0≤x1→x1≤12622780799 → -1≤r∧r≤12*(x1 / 31536000)+11)) (k:=by
  intro h
  have g0:=(show ∀x:Int,0≤x∧x≤12622780799→IntKind.wrap .i64 (Int.tdiv x 86400)=x / 86400 from fun x a=>by rw[QF (by omega),Q0 (by omega) (by omega)])
  try simp only[sS,reduceCtorEq]at *
  repeat' (first | intro _ | apply And.intro)
  all_goals first | (have g1:=g0 x1; simp (disch:=omega) only [Q0]at *; omega) | exact lv)
@[reducible,instance] def Jcu{x0 x1}:=mkW (L6.eq_1 N x0 x1) (True) (fun r=>(r≠0→2000≤x0∧x0≤2399∧1≤x1∧x1≤12∧r≤31)∧(2000≤x0→x0≤2399→1≤x1→x1≤12→28≤r))
@[reducible,instance] def Jcv{x0}{s}:=upI (N:=N) (s:=s) (Qb6.eq_def N x0) (fun t=>t.2) (x0.2.1) (fun t=>1≤t.2∧t.2≤x0.2.1∧x0.2.1≤12∧0≤t.1∧t.1≤366*400+31*t.2∧t.1≤s.1+31*(t.2 - s.2)) (fun r:((Int))=>0≤r∧r≤s.1+31*(x0.2.1 - s.2))
attribute [local instance 1300] Jcf in
@[reducible,instance] def Jlt{x0}:=mkW (Qa2.eq_1 N x0) (True) (fun r=>(2000≤x0.1→x0.1≤2399→1≤x0.2.1→x0.2.1≤12→1≤x0.2.2→x0.2.2≤28→r.2=0∧0≤r.1∧r.1≤366*(x0.1 - 2000)+31*x0.2.1)) (k:=by
  intro h
  have g0:=Qzw; have g1:=(show 2000≤x0.1∧x0.1≤2399∧1≤x0.2.2∧x0.2.2≤31→IntKind.wrap .i64 (IntKind.wrap .i64 (bef x0.1+x0.2.2) - 1)=bef x0.1+x0.2.2 - 1 from fun a=>by have:=Qzw x0.1 a.1; rw[Q0 (n:=bef x0.1+x0.2.2) (by omega) (by omega),Q0 (by omega) (by omega)])
  try simp only[sS,reduceCtorEq]at *
  repeat' (first | intro _ | apply And.intro)
  all_goals first | exact lv)
@[reducible,instance] def Jfp{x0 x1}:=mkW (B2.eq_1 N x0 x1) (True) (fun r=>0≤x1→x1<4788→1≤x0→x0≤28→r≤2678400*(x1+1)) (k:=by
  intro h
  have g0:=(show 0≤x1∧x1<4788→1≤x0∧x0≤28→∀w:Int×Int,(2000≤IntKind.wrap .i64 (2000+IntKind.wrap .i64 (Int.tdiv x1 12))→IntKind.wrap .i64 (2000+IntKind.wrap .i64 (Int.tdiv x1 12))≤2399→1≤IntKind.wrap .i64 (Int.tmod x1 12+1)→IntKind.wrap .i64 (Int.tmod x1 12+1)≤12→1≤x0→x0≤28→w.2=0∧0≤w.1∧w.1≤366*(IntKind.wrap .i64 (2000+IntKind.wrap .i64 (Int.tdiv x1 12)) - 2000)+31*IntKind.wrap .i64 (Int.tmod x1 12+1))→w.2=0∧IntKind.wrap .i64 (w.1*86400)≤2678400*(x1+1)from fun a b w h=>by rw[QF (by omega),JP (by omega),Q0 (n:=x1 / 12) (by omega) (by omega),Q0 (by omega) (by omega),Q0 (by omega) (by omega)]at h; have h:=h (by omega) (by omega) (by omega) (by omega) b.1 b.2; rw[Q0 (by omega) (by omega)]; omega)
  try simp only[sS,reduceCtorEq]at *
  repeat' (first | intro _ | apply And.intro)
  all_goals first | (have k:=fun a b=>g0 a b _ (by assumption); omega) | exact lv)
@[reducible,instance] def Q6z{x0 x1}:=mkW (G6.eq_1 N x0 x1) (True) (fun r => -1≤x1→x1<4787→1≤x0→x0≤28→r.2≤2678400*(x1+2))
@[reducible,instance] def Q5p{x0 x1}{s}:=mkL (N:=N) (s:=s) (Oj.eq_def N x0 x1) (fun t=>(4801 - t.1).toNat) (fun t=>1≤x0∧x0≤28∧0≤x1.1∧x1.1<x1.2∧x1.2≤12622780800 ∧ -1≤t.1∧t.1≤4800∧t.2.length≤t.1+1∧(x1.2≤86400001→t.1≤36)∧(x1.2≤99100800→t.1≤48)∧(x1.2≤86400001→Jb (fun p:Int×Int=>p.2≤99100800) t.2)) (fun r:(((List Qb)))=>r.length≤30000∧(x1.2≤86400001→r.length≤37)∧(x1.2≤99100800→r.length≤49)∧(x1.2≤86400001→Jb (fun p:Int×Int=>p.2≤99100800) r)) (step:=by
  intro s h
  have g0:=(show 0≤x1.1∧x1.1<x1.2∧x1.2≤12622780800→IntKind.wrap .i64 (x1.2 - 1)=x1.2 - 1 from fun a=>Q0 (by omega) (by omega))
  try simp only[sS,reduceCtorEq]at *
  repeat' (first | intro _ | apply And.intro)
  all_goals first | exact Ud (by grind) (Xa (by grind)) | exact lv)
@[reducible,instance] def Jcw{x0 x1}:=mkW (Fr.eq_1 N x0 x1) (True) (fun r=>r.length≤30000∧(x1.2≤86400001→r.length≤37)∧(x1.2≤99100800→r.length≤49)∧(x1.2≤86400001→Jb (fun p:Int×Int=>p.2≤99100800) r)) (k:=by
  intro h
  try simp only[sS,reduceCtorEq]at *
  repeat' (first | intro _ | apply And.intro)
  all_goals first | exact Zf | exact lv)
@[reducible,instance] def Q5q{x0}{s}:=upL (N:=N) (s:=s) (Of.eq_def N x0) (fun t=>t.1) x0.length (fun t=>sz x0≤1000000000000∧t.2=x0.take t.1.toNat∧x0.length≤1000000000000) (fun r:(((List Qa)))=>r=x0) (step:=by
  intro s h h0 h1 h2 hw
  try simp only[sS,reduceCtorEq]at *
  repeat' (first | intro _ | apply And.intro)
  all_goals first | grind [Y5,Uc,Kh.deep] | exact lv)
@[reducible,instance] def Jcx{x0}:=mkW (L4.eq_1 N x0) (sz x0≤1000000000000) (fun r=>r=x0)
@[reducible,instance] def Qpn{x0}:=mkW (Gl.eq_1 N x0) (sz x0≤1000000000000) (fun r=>r=x0)
@[reducible,instance] def Q60{x0 x1 x2}{s}:=upL (N:=N) (s:=s) (Px.eq_def N x0 x1 x2) (fun t=>t) x0.length (fun t=>x0.length≤32) (fun r:((Unit)⊕(Bool))=>True)
@[reducible,instance] def Qm1{x0 x1 x2}:=mkW (Og.eq_1 N x0 x1 x2) (x0.length≤32) (fun r=>True)
@[reducible,instance] def Q61{x0}{s}:=upL (N:=N) (s:=s) (Vz.eq_def N x0) (fun t=>t.1) x0.length (fun t=>x0.length≤1000000000000∧Qg8 t.2 x0.length) (fun r:(((List (Int×Int))))=>Qg8 r x0.length) (step:=by
  intro s h h0 h1 h2 hw
  try simp only[sS,reduceCtorEq]at *
  repeat' (first | intro _ | apply And.intro)
  all_goals first | exact Qft | exact Qfu (by grind) (by omega) (by omega) | exact lv)
@[reducible,instance] def Jfq{x0}:=mkW (Hu.eq_1 N x0) (x0.length≤1000000000000) (fun r=>Qg8 r x0.length) (k:=by
  intro h
  try simp only[sS,reduceCtorEq]at *
  repeat' (first | intro _ | apply And.intro)
  all_goals first | exact Qft | exact Qfu (by grind) (by omega) (by omega) | exact lv)
@[reducible,instance] def Jcy{x0 x1}{s}:=upL (N:=N) (s:=s) (Kv.eq_def N x0 x1) (fun t=>t) x0.length (fun t=>x0.length≤1000000000000) (fun r:((Int))=>0≤r∧r≤x0.length)
@[reducible,instance] def Jlu{x0 x1}:=mkW (Ee.eq_1 N x0 x1) (x0.length≤1000000000000) (fun r=>0≤r.1∧r.1<r.2.length∧r.2.length≤x0.length+1) (k:=by
  intro h
  try simp only[sS,reduceCtorEq]at *
  repeat' (first | intro _ | apply And.intro)
  all_goals first | exact(Qfv (by assumption) (by assumption)).1 | exact(Qfv (by assumption) (by assumption)).2 | exact lv)
@[reducible,instance] def Q62{x0 x1 x2}:=mkW (Yx.eq_1 N x0 x1 x2) (True) (fun r=>True)
@[reducible,instance] def Jlv{x0}:=mkW (Ef.eq_1 N x0) (True) (fun r=>True)
@[reducible,instance] def Jlw{x0}:=mkW (Eg.eq_1 N x0) (True) (fun r=>True)
@[reducible,instance] def Jhb{x0 x1}:=mkW (Vp.eq_1 N x0 x1) (True) (fun r=>(x1≠0→r.2≠0))
@[reducible,instance] def Jhc{x0 x1}:=mkW (Ro.eq_1 N x0 x1) (True) (fun r=>r.2=0→r.1.1=x0.1)
@[reducible,instance] def Q63{x0 x1 ca}:=mkW (G5.eq_1 N x0 x1 ca) (True) (fun r=>(x1=0→r=x0)∧(x1≠0→r=ca))
@[reducible,instance] def Jlx{x0 x1}:=mkW (Qa1.eq_1 N x0 x1) (True) (fun r=>r.2=0→r.1.1=x0.1)
@[reducible,instance] def Qe2{x0 x2 r8 r7 x3}{s}:=upL (N:=N) (s:=s) (Y0.eq_def N x0 x2 r8 r7 x3) (fun t=>t.1) x0.length (fun t=>x0.length≤32∧0≤r7∧r7<r8.length∧t.2.1=s.2.1) (fun r:((Qi))=>r.1=s.2.1)
@[reducible,instance] def Jcz{x0 x1 x2 x3}:=mkW (J5.eq_1 N x0 x1 x2 x3) (x0.length≤32∧sz x1≤1000000000000) (fun r=>r.1=x1.1∧r.2.1.length≤x1.2.1.length+1∧r.2.2=x1.2.2)
@[reducible,instance] def Jly{x0}:=mkW (W8.eq_1 N x0) (sz x0≤1000000000000) (fun r=>r.2.2.2.2.2.2.2.2.2.2.length=x0.2.2.2.2.2.1.length)
@[reducible,instance] def Jsl{x0}:=mkW (Ay.eq_1 N x0) (sz x0≤9223372036854775807) (fun r=>True)
@[reducible,instance] def Q89{x0 x1}{s}:=upL (N:=N) (s:=s) (Tb.eq_def N x0 x1) (fun t=>t) x0.length (fun t=>x0.length≤32) (fun r:((Unit)⊕(Int))=>True)
@[reducible,instance] def Qpo{x0 x1}:=mkW (Rp.eq_1 N x0 x1) (x0.length≤32) (fun r=>True)
@[reducible,instance] def Qx2{x0 ca}{s}:=upL (N:=N) (s:=s) (Dk.eq_def N x0 ca) (fun t=>t) x0.2.2.1.length (fun t=>sz x0≤32) (fun r:((Unit)⊕(Bool))=>True)
@[reducible,instance] def Q5r{x0 ca}:=mkW (Ai.eq_1 N x0 ca) (sz x0≤32) (fun r=>True)
@[reducible,instance] def Q5s{x0 x1}:=mkW (Aj.eq_1 N x0 x1) (True) (fun r=>True)
@[reducible,instance] def Q5t{x0 x1}:=mkW (Ak.eq_1 N x0 x1) (True) (fun r=>True)
@[reducible,instance] def Qks{x0}{s}:=upL (N:=N) (s:=s) (X7.eq_def N x0) (fun t=>t.1) x0.length (fun t=>x0.length≤32∧t.2.length≤t.1) (fun r:(((List Qb)))=>r.length≤32)
@[reducible,instance] def Qoc{x0}:=mkW (Zh.eq_1 N x0) (x0.length≤32) (fun r=>r.length≤32)
@[reducible,instance] def Q09{r1 ca}{s}:=upL (N:=N) (s:=s) (Mk.eq_def N r1 ca) (fun t=>t.1) r1.length (fun t=>sz r1≤32∧t.2.length≤t.1∧r1.length≤32) (fun r:(((List Qb)))=>r.length≤32)
@[reducible,instance] def Q9a{x0 x1 ca}:=mkW (D9.eq_1 N x0 x1 ca) (x0.length≤32) (fun r=>r.length≤32)
@[reducible,instance] def Q9b{x0 x1 x2}:=mkW (Ia.eq_1 N x0 x1 x2) (x0.length≤32) (fun r=>r.length≤32)
@[reducible,instance] def Jhd{x0 x1}:=mkW (Rq.eq_1 N x0 x1) (True) (fun r=>True)
@[reducible,instance] def Q5u{v17 x1 x21 r53}{s}:=upL (N:=N) (s:=s) (Oh.eq_def N v17 x1 x21 r53) (fun t=>t) v17.length (fun t=>v17.length≤32) (fun r:((Int))=>0≤r∧r≤v17.length)
@[reducible,instance] def Q5v{x0 x1}:=mkW (Ka.eq_1 N x0 x1) (True) (fun r=>r.2=true→r.1.1<r.1.2∧0≤r.1.1∧r.1.2≤x0.2∧r.1.2≤x1.2)
@[reducible,instance] def Q5w{x0 ca cd cg}:=mkW (Al.eq_1 N x0 ca cd cg) (0≤ca∧ca≤86400000∧cd.length≤37888∧Jb (fun p:Int×Int=>p.2≤99100800) cd) (fun r=>r.length≤cd.length+37∧Jb (fun p:Int×Int=>p.2≤99100800) r) (k:=by
  intro h
  have g0:=(show 0≤ca∧ca≤86400000→IntKind.wrap .i64 (ca+1)=ca+1 from fun a=>Q0 (by omega) (by omega))
  try simp only[sS,reduceCtorEq]at *
  repeat' (first | intro _ | apply And.intro)
  all_goals first | exact Ud (by grind) (by grind) | exact lv)
@[reducible,instance] def Qx3{x0 x1}{s}:=upL (N:=N) (s:=s) (Dl.eq_def N x0 x1) (fun t=>t.1) x0.length (fun t=>x0.length≤37888∧Jb (fun p:Int×Int=>p.2≤99100800) x0∧0≤x1∧x1≤1∧s.2.length≤75776∧0≤s.1∧t.2.length≤s.2.length+2*(t.1 - s.1)∧Jb (Cl 99100800) t.2) (fun r:(((List Jd)))=>r.length≤s.2.length+2*x0.length∧Jb (Cl 99100800) r) (step:=by
  intro s h h0 h1 h2 hw
  try simp only[sS,reduceCtorEq]at *
  repeat' (first | intro _ | apply And.intro)
  all_goals first | exact Ud (by grind) (Q4g ⟨by grind,by grind [Jb.all]⟩ ⟨by grind,by grind [Jb.all]⟩) | exact lv)
@[reducible,instance] def Q5x{x0 x1 ce}:=mkW (Am.eq_1 N x0 x1 ce) (x0.length≤37888∧Jb (fun p:Int×Int=>p.2≤99100800) x0∧0≤x1∧x1≤1∧ce.length≤75776∧Jb (Cl 99100800) ce) (fun r=>r.length≤ce.length+2*x0.length∧Jb (Cl 99100800) r)
@[reducible,instance] def Qtq{x0 x1}{s}:=upL (N:=N) (s:=s) (E9.eq_def N x0 x1) (fun t=>t.1) x0.length (fun t=>x0.length≤37888∧Jb (fun p:Int×Int=>p.2≤99100800) x0∧0≤x1∧x1≤1∧s.2.length≤75776∧0≤s.1∧t.2.length≤s.2.length+2*(t.1 - s.1)∧Jb (Cl 99100800) t.2) (fun r:(((List Jd)))=>r.length≤s.2.length+2*x0.length∧Jb (Cl 99100800) r) (step:=by
  intro s h h0 h1 h2 hw
  try simp only[sS,reduceCtorEq]at *
  repeat' (first | intro _ | apply And.intro)
  all_goals first | exact Ud (by grind) (Q4g ⟨by grind,by grind [Jb.all]⟩ ⟨by grind,by grind [Jb.all]⟩) | exact lv)
@[reducible,instance] def Qx4{x0 x1 ce}:=mkW (Gr.eq_1 N x0 x1 ce) (x0.length≤37888∧Jb (fun p:Int×Int=>p.2≤99100800) x0∧0≤x1∧x1≤1∧ce.length≤75776∧Jb (Cl 99100800) ce) (fun r=>r.length≤ce.length+2*x0.length∧Jb (Cl 99100800) r)
@[reducible,instance] def Q9c{x0 x1}:=mkW (Ib.eq_1 N x0 x1) (True) (fun r=>True)
@[reducible,instance] def Q1a{r3}{s}:=upL (N:=N) (s:=s) (Mm.eq_def N r3) (fun t=>t.2.1) r3.length (fun t=>r3.length≤151552∧Jb (Cl 99100800) r3∧t.2.2.2.length=2∧t.2.2.1.length≤t.2.1∧(t.1=true→1≤t.2.2.1.length)∧Jb (fun p:Int×Int=>p.2≤99100800) t.2.2.1) (fun r:(((List Qb)))=>r.length≤151552∧Jb (fun p:Int×Int=>p.2≤99100800) r) (step:=by
  intro s h h0 h1 h2 hw
  have g0:=h.2.1; have g1:=h.2.2.2.2.2; have g2:=(show ∀c∈r3,0≤c.2.1∧c.2.1≤1∧0≤c.1∧c.1≤99100800 from fun c hc=>have k:=h.2.1.all c hc; ⟨k.side.1,k.side.2,k.time.1,k.time.2⟩); have g3:=(show s.2.2.1.length≤151552→1≤s.2.2.1.length→IntKind.wrap .i64 ((s.2.2.1.length:Int) - 1)=(s.2.2.1.length:Int) - 1 from fun a b=>Q0 (by omega) (by omega))
  try simp only[sS,reduceCtorEq]at *
  repeat' (first | intro _ | apply And.intro)
  all_goals first | assumption | exact(g2 _ (by assumption)).1 | exact Int.lt_of_le_of_lt (g2 _ (by assumption)).2.1 (by omega) | exact Ud (by assumption) (Xa (by decide)) | exact Ud (by assumption) (Xa (show(0:Int)≤99100800 by decide)) | exact Qkp (by assumption) (g2 _ (by assumption)).2.2.2 | exact lv)
@[reducible,instance] def Q9d{x0 x1}:=mkW (Ic.eq_1 N x0 x1) (x0.length≤37888∧Jb (fun p:Int×Int=>p.2≤99100800) x0∧x1.length≤37888∧Jb (fun p:Int×Int=>p.2≤99100800) x1) (fun r=>r.length≤151552∧Jb (fun p:Int×Int=>p.2≤99100800) r) (k:=by
  intro h
  try simp only[sS,reduceCtorEq]at *
  repeat' (first | intro _ | apply And.intro)
  all_goals first | exact Zf | exact Ud (by grind) (Xa (by grind)) | exact Qkp (by grind) (by grind [Jb.all,Cl.side,Cl.time]) | exact Qfw (P:=Cl 99100800) (by grind) (fun x h=>⟨h.side,by have:=h.time; omega⟩) | exact lv)
@[reducible,instance] def Jfr{x0}:=mkW (Ol.eq_1 N x0) (x0.length≤37888∧Jb (fun p:Int×Int=>p.2≤99100800) x0) (fun r=>r.length≤151552∧Jb (fun p:Int×Int=>p.2≤99100800) r) (k:=by
  intro h
  try simp only[sS,reduceCtorEq]at *
  repeat' (first | intro _ | apply And.intro)
  all_goals first | exact Zf | exact Ud (by grind) (Xa (by grind)) | exact Qkp (by grind) (by grind [Jb.all,Cl.side,Cl.time]) | exact Qfw (P:=Cl 99100800) (by grind) (fun x h=>⟨h.side,by have:=h.time; omega⟩) | exact lv)
@[reducible,instance] def Q9e{x22}{s}:=upL (N:=N) (s:=s) (Te.eq_def N x22) (fun t=>t.1) x22.2.2.2.length (fun t=>x22.2.2.2.length≤32∧0≤t.2.2.1∧t.2.2.1≤86400000∧0≤s.1∧s.2.2.2.length≤36704∧t.2.2.2.length≤s.2.2.2.length+37*(t.1 - s.1)∧Jb (fun p:Int×Int=>p.2≤99100800) t.2.2.2∧t.2.2.1=s.2.2.1) (fun r:((Int×Int×(List Qb)))=>r.2.1=s.2.2.1∧r.2.2.length≤s.2.2.2.length+1184∧Jb (fun p:Int×Int=>p.2≤99100800) r.2.2)
@[reducible,instance] def Q9f{x0}{s}:=upL (N:=N) (s:=s) (Tf.eq_def N x0) (fun t=>t.1) x0.length (fun t=>sz x0≤32∧0≤t.2.2.1∧t.2.2.1≤86400000∧t.2.2.2.length≤1184*t.1∧Jb (fun p:Int×Int=>p.2≤99100800) t.2.2.2∧x0.length≤32) (fun r:((Int×(List Qb)))=>r.2.length≤37888∧Jb (fun p:Int×Int=>p.2≤99100800) r.2) (step:=by
  intro s h h0 h1 h2 hw
  try simp only[sS,reduceCtorEq]at *
  repeat' (first | intro _ | apply And.intro)
  all_goals first | exact Zf | exact Ud (by grind) (Xa (by grind)) | exact Qkp (by grind) (by grind [Jb.all,Cl.side,Cl.time]) | exact Qfw (P:=Cl 99100800) (by grind) (fun x h=>⟨h.side,by have:=h.time; omega⟩) | exact lv)
@[reducible,instance] def Q9g{r35 v33}{s}:=upL (N:=N) (s:=s) (Tg.eq_def N r35 v33) (fun t=>t.1) r35.length (fun t=>r35.length≤151552∧Jb (fun p:Int×Int=>p.2≤99100800) r35∧t.2.length≤49*t.1) (fun r:(((List Qb)))=>r.length≤7426048) (step:=by
  intro s h h0 h1 h2 hw
  have g0:=(fun p (hp:p∈r35)=>h.2.1.all p hp:∀p∈r35,p.2≤99100800)
  try simp only[sS,reduceCtorEq]at *
  repeat' (first | intro _ | apply And.intro)
  all_goals first | exact lv)
@[reducible,instance] def Qpp{x0 x1 x2}:=mkW (Rt.eq_1 N x0 x1 x2) (sz x0≤32∧0≤x2∧x2≤86400000) (fun r=>r.length≤7426048) (k:=by
  intro h
  try simp only[sS,reduceCtorEq]at *
  repeat' (first | intro _ | apply And.intro)
  all_goals first | exact Zf | exact lv)
@[reducible,instance] def Jlz{x0 ca ce}:=mkW (Qa3.eq_1 N x0 ca ce) (True) (fun r=>True)
@[reducible,instance] def Qkx{x0 ca ce}{s}:=upL (N:=N) (s:=s) (Wl.eq_def N x0 ca ce) (fun t=>t.1) x0.length (fun t=>x0.length≤32∧sz x0≤4096∧Jb (fun p:Qm=>p.2.2.2.2.2.length≤32) x0∧t.2.length≤t.1∧sz t.2≤4096∧Jb (fun p:Qm=>p.2.2.2.2.2.length≤32) t.2∧x0.length≤4096) (fun r:(((List Qm)))=>r.length≤32∧sz r≤4096∧Jb (fun p:Qm=>p.2.2.2.2.2.length≤32) r) (step:=by
  intro s h h0 h1 h2 hw
  try simp only[sS,reduceCtorEq]at *
  repeat' (first | intro _ | apply And.intro)
  all_goals first | exact Zf | exact Ud (by grind) (Xa (by grind [Jb.all])) | exact lv)
@[reducible,instance] def Qpq{x0 ca ce}:=mkW (Kb.eq_1 N x0 ca ce) (x0.length≤32∧sz x0≤4096∧Jb (fun p:Qm=>p.2.2.2.2.2.length≤32) x0) (fun r=>r.length≤32∧sz r≤4096∧Jb (fun p:Qm=>p.2.2.2.2.2.length≤32) r) (k:=by
  intro h
  try simp only[sS,reduceCtorEq]at *
  repeat' (first | intro _ | apply And.intro)
  all_goals first | exact Zf | exact lv)
@[reducible,instance] def Q9h{x0}{s}:=upL (N:=N) (s:=s) (Th.eq_def N x0) (fun t=>t.1) x0.2.2.2.2.2.length (fun t=>x0.2.2.2.2.2.length≤32∧sz x0≤4096∧t.2=x0.2.2.2.2.2.take t.1.toNat) (fun r:(((List Yc)))=>r=x0.2.2.2.2.2) (step:=by
  intro s h h0 h1 h2 hw
  try simp only[sS,reduceCtorEq]at *
  repeat' (first | intro _ | apply And.intro)
  all_goals first | grind [Y5,Uc,Kh.deep] | exact lv)
@[reducible,instance] def Jhe{x0}:=mkW (Ru.eq_1 N x0) (x0.2.2.2.2.2.length≤32∧sz x0≤4096) (fun r=>r=x0)
@[reducible,instance] def Jo8{x0 x1 x2}:=mkW (Qhx.eq_1 N x0 x1 x2) (x0.length≤32∧sz x0≤4096∧Jb (fun p:Qm=>p.2.2.2.2.2.length≤32) x0) (fun r=>r.2.2.2.2.2.2.length≤32∧sz r.2.2.2.2.2.2≤4096) (k:=by
  intro h
  have g0:=(fun p l hp q=>q.all p hp:∀(p:Qm) (l:List Qm),p∈l→Jb (fun p:Qm=>p.2.2.2.2.2.length≤32) l→p.2.2.2.2.2.length≤32)
  try simp only[sS,reduceCtorEq]at *
  repeat' (first | intro _ | apply And.intro)
  all_goals first | assumption | omega | ((simp (disch:=omega) only [Q0]at *)<;>omega) | exact g0 _ _ (by assumption) (And.right (And.right (by assumption))) | exact lv)
@[reducible,instance] def Qud{r12 x0 r4}{s}:=upL (N:=N) (s:=s) (Az.eq_def N r12 x0 r4) (fun t=>t.1) r12.length (fun t=>r12.length≤32∧sz r12≤4096∧t.2.length≤t.1∧sz t.2≤4096∧Jb (Jo5 x0) t.2∧r12.length≤4096) (fun r:(((List Qy)))=>r.length≤32∧sz r≤4096∧Jb (Jo5 x0) r) (step:=by
  intro s h h0 h1 h2 hw
  try simp only[sS,reduceCtorEq]at *
  repeat' (first | intro _ | apply And.intro)
  all_goals first | ((repeat cases ‹_∧_›); first | assumption | omega | exact Zf | exact Ud (by assumption) (Xa ⟨rfl,rfl⟩)) | exact lv)
@[reducible,instance] def Que{x0 x2 x1}{s}:=upL (N:=N) (s:=s) (A1.eq_def N x0 x2 x1) (fun t=>t) x0.2.2.2.length (fun t=>x0.2.2.2.length≤32∧x1.length≤32∧sz x1≤4096∧Jb (fun p:Qm=>p.2.2.2.2.2.length≤32) x1∧x1.length≤4096) (fun r:((Unit)⊕((List Qy)))=>∀t,r=.inr t→t.length≤32∧sz t≤4096∧Jb (Jo5 x0) t) (step:=by
  intro s h h0 h1 h2 hw
  try simp only[sS,reduceCtorEq]at *
  repeat' (first | intro _ | apply And.intro)
  all_goals first | ((repeat cases ‹_∧_›); first | assumption | omega | exact Zf) | exact lv)
@[reducible,instance] def Qbq{x0 x1 x2}:=mkW (Uu.eq_1 N x0 x1 x2) (sz x0≤32∧x1.length≤32∧sz x1≤4096∧Jb (fun p:Qm=>p.2.2.2.2.2.length≤32) x1) (fun r=>r.length≤32∧sz r≤4096∧Jb (Jo5 x0) r) (k:=by
  intro h
  try simp only[sS,reduceCtorEq]at *
  repeat' (first | intro _ | apply And.intro)
  all_goals first | ((repeat cases ‹_∧_›); first | assumption | omega | exact Zf) | exact lv)
@[reducible,instance] def Jc0{x0 x1}:=mkW (Kx.eq_1 N x0 x1) (True) (fun r=>True)
@[reducible,instance] def Jl0{x0 x1 x2}:=mkW (B3.eq_1 N x0 x1 x2) (sz x1≤4096) (fun r=>r.2.2.2.2.2.2.2.2.2.2.length≤4096)
@[reducible,instance] def Jhf{x0 x1}:=mkW (Fa.eq_1 N x0 x1) (True) (fun r=>True)
@[reducible,instance] def Q1b{ce x1}{s}:=upL (N:=N) (s:=s) (V4.eq_def N ce x1) (fun t=>t.1) ce.length (fun t=>ce.length≤1000000000000∧t.2.2.2.2.2.2.2.2.2.2.2.length≤4096∧sz ce≤1000000000000) (fun r:((Int×Int×Str×Int×Int×Qb×Int×Int×Int×Bool×(List Str)))=>r.2.2.2.2.2.2.2.2.2.2.length≤4096)
@[reducible,instance] def Q1c{ce v40 v41 v42 v43 v44 v50 v45 v46 v47 v48 v49}{s}:=upL (N:=N) (s:=s) (V5.eq_def N ce v40 v41 v42 v43 v44 v50 v45 v46 v47 v48 v49) (fun t=>t) ce.length (fun t=>ce.length≤1000000000000) (fun r:((Int))=>0≤r∧r≤ce.length)
attribute [local instance 1300] Jcf in
@[reducible,instance] def Q5y{x0 x1}{s}:=upL (N:=N) (s:=s) (Oi.eq_def N x0 x1) (fun t=>t.1) x0.length (fun t=>x0.length≤32∧t.2.2.2.length≤t.1∧sz t.2.2.2≤32∧Jlh x0 x1 t.2.1∧Jb (Jll x0 x1) t.2.2.2) (fun r:(((List Q7)))=>sz r≤32∧Jb (Jll x0 x1) r) (step:=by
  intro s h h0 h1 h2 hw
  try simp only[sS,reduceCtorEq]at *
  repeat' (first | intro _ | apply And.intro)
  all_goals first | ((repeat cases ‹_∧_›); first | assumption | omega | exact Qez _ | exact Qw7 (by assumption) | exact Q4h (by assumption) | exact Jlj (by assumption) (by assumption) (by assumption) (by assumption) | exact Ud (Ud (Q4q (by assumption) (by assumption)) (Xa ⟨rfl,Jlk (by assumption) (by grind)⟩)) (Q4q (by assumption) (by assumption)) | (exfalso; grind)) | exact Qez _ | exact Qw7 (by assumption) | exact Q4h (by assumption) | exact lv)
@[reducible,instance] def Qkt{x0 x1}:=mkW (L5.eq_1 N x0 x1) (x0.length≤32) (fun r=>sz r≤32∧Jb (Jll x0 x1) r) (k:=by
  intro h
  try simp only[sS,reduceCtorEq]at *
  repeat' (first | intro _ | apply And.intro)
  all_goals first | ((repeat cases ‹_∧_›); first | assumption | omega | exact Jli | exact Zf) | exact lv)
@[reducible,instance] def Q9i{x1 ce cd}:=mkW (X8.eq_1 N x1 ce cd) (ce.length≤999999999999∧sz ce≤1000000000000∧sz x1≤4096) (fun r=>r.2.length≤ce.length+1∧sz r.2≤1000000000000)
@[reducible,instance] def Q64{x2}{s}:=upL (N:=N) (s:=s) (V0.eq_def N x2) (fun t=>t.1) x2.1.length (fun t=>x2.1.length≤1000000000000∧sz x2.1≤1000000000000∧t.2.1.length≤t.1∧sz t.2.1≤1000000000000) (fun r:(((List Qa)×(List (Qu×Bool))))=>r.1.length≤x2.1.length∧sz r.1≤1000000000000)
@[reducible,instance] def Q65{r118 x4}{s}:=upL (N:=N) (s:=s) (U0.eq_def N r118 x4) (fun t=>t.1) r118.length (fun t=>r118.length≤32∧sz r118≤4096∧0≤s.1∧s.2.1.length≤999999999900∧t.2.1.length≤s.2.1.length+(t.1 - s.1)∧sz t.2.1≤1000000000000∧r118.length≤4096) (fun r:(((List Qa)×(List (Qu×Bool))))=>r.1.length≤s.2.1.length+32∧sz r.1≤1000000000000)
@[reducible,instance] def Q66{r54 x1 x109 x4}{s}:=upL (N:=N) (s:=s) (U1.eq_def N r54 x1 x109 x4) (fun t=>t.1) r54.length (fun t=>r54.length≤32∧sz r54≤32∧x1.length≤32∧sz x1≤4096∧Jb (fun p:Qm=>p.2.2.2.2.2.length≤32) x1∧0≤s.1∧s.2.1.length≤999999990000∧t.2.1.length≤s.2.1.length+32*(t.1 - s.1)∧sz t.2.1≤1000000000000∧x1.length≤4096) (fun r:(((List Qa)×(List (Qu×Bool))))=>r.1.length≤s.2.1.length+1024∧sz r.1≤1000000000000)
@[reducible,instance] def Q67{r56 r54 x1 x4}{s}:=upL (N:=N) (s:=s) (V1.eq_def N r56 r54 x1 x4) (fun t=>t.1) r56.length (fun t=>r56.length≤7426048∧r54.length≤32∧sz r54≤32∧x1.length≤32∧sz x1≤4096∧Jb (fun p:Qm=>p.2.2.2.2.2.length≤32) x1∧0≤s.1∧s.2.1.length≤900000000000∧t.2.1.length≤s.2.1.length+1024*(t.1 - s.1)∧sz t.2.1≤1000000000000∧x1.length≤4096) (fun r:(((List Qa)×(List (Qu×Bool))))=>r.1.length≤s.2.1.length+7604273152∧sz r.1≤1000000000000)
@[reducible,instance] def Qm2{x0 x1 x2 x3 x4}:=mkW (Jz.eq_1 N x0 x1 x2 x3 x4) (x0.length≤32∧x1.length≤32∧sz x1≤4096∧Jb (fun p:Qm=>p.2.2.2.2.2.length≤32) x1∧x2.1.length≤900000000000∧sz x2.1≤1000000000000∧x2.2.1.length≤1099511627∧x2.2.2.length≤1099511627∧x4≤86400000) (fun r=>r.1.length≤x2.1.length+7604273152∧sz r.1≤1000000000000∧r.2.1=x2.2.1∧r.2.2=x2.2.2)
@[reducible,instance] def Jl1{x0}:=mkW (M7.eq_1 N x0) (sz x0≤1000000000000) (fun r=>r.2.2.2.2.2.2.2.2.2.2.length=x0.2.2.2.2.2.1.length)
@[reducible,instance] def Q9j{x0}{s}:=upL (N:=N) (s:=s) (Zr.eq_def N x0) (fun t=>t.1) x0.length (fun t=>sz x0≤1000000000000∧t.2.length=t.1∧sz t.2≤1000000000000∧x0.length≤1000000000000) (fun r:(((List Qa)))=>r.length=x0.length∧sz r≤1000000000000)
@[reducible,instance] def Jhg{x0}:=mkW (Fb.eq_1 N x0) (sz x0≤1000000000000) (fun r=>r.length=x0.length∧sz r≤1000000000000)
@[reducible,instance] def Jfs{x0 x1}:=mkW (Uv.eq_1 N x0 x1) (True) (fun r=>True)
@[reducible,instance] def Jft{x0 x1}:=mkW (Hw.eq_1 N x0 x1) (True) (fun r=>True)
theorem Qio{N:Nat}[Y2 N]{x2:Int}{L:Int}{s:Int×List Int}:WP (Qe (Zt N x2) N s) (fun R=>((0≤s.1∧s.1≤x2∧x2≤L∧L≤1000000000000)∧s.2=[])∧∀r:List Int,((r.length:Int)=x2 - s.1∧Jb (fun i:Int=>0≤i∧i<L) r)→R r):=⟨fun R h=>(mkL (N:=N) (s:=s) (Zt.eq_def N x2) (fun t=>(x2 - t.1).toNat) (fun t=>0≤s.1∧s.1≤t.1∧t.1≤x2∧x2≤L∧L≤1000000000000∧(t.2.length:Int)=t.1 - s.1∧Jb (fun i:Int=>0≤i∧i<L) t.2) (fun r:List Int=>(r.length:Int)=x2 - s.1∧Jb (fun i:Int=>0≤i∧i<L) r) (step:=by
  intro t h
  try simp only[sS,reduceCtorEq]at *
  repeat' (first | intro _ | apply And.intro)
  all_goals first | assumption | omega | ((simp (disch:=omega) only [Q0]at *)<;>omega) | exact Ud (by grind) (Xa (by grind)) | grind)).spec R ⟨⟨h.1.1.1,ZP _,h.1.1.2.1,h.1.1.2.2.1,h.1.1.2.2.2,by rw[h.1.2]; simp,by rw[h.1.2]; exact Zf⟩,h.2⟩⟩
attribute [local instance 1300] Jcf in
@[reducible,instance] def Q9k{r6 r7 x0}{s}:=mkL (N:=N) (s:=s) (Zu.eq_def N r6 r7 x0) (fun t=>(r6.length - t.1+(r7.length - t.2.1)).toNat) (fun t=>r6.length+r7.length≤1000000000000∧Jb (fun i:Int=>0≤i∧i<(x0.length:Int)) r6∧Jb (fun i:Int=>0≤i∧i<(x0.length:Int)) r7∧0≤t.1∧t.1≤r6.length∧0≤t.2.1∧t.2.1≤r7.length∧(t.2.2.length:Int)=t.1+t.2.1∧Jb (fun i:Int=>0≤i∧i<(x0.length:Int)) t.2.2) (fun r:(((List Int)))=>r.length=r6.length+r7.length∧Jb (fun i:Int=>0≤i∧i<(x0.length:Int)) r) (step:=by
  intro s h
  have g0:=(fun i hi=>h.2.1.all i hi:∀i∈r6,0≤i∧i<(x0.length:Int)); have g1:=(fun i hi=>h.2.2.1.all i hi:∀i∈r7,0≤i∧i<(x0.length:Int))
  try simp only[sS,reduceCtorEq]at *
  repeat' (first | intro _ | apply And.intro)
  all_goals first | assumption | omega | ((simp (disch:=omega) only [Q0]at *)<;>omega) | exact(g0 _ (by assumption)).1 | exact(g0 _ (by assumption)).2 | exact(g1 _ (by assumption)).1 | exact(g1 _ (by assumption)).2 | exact Ud (by grind) (Xa (g0 _ (by assumption))) | exact Ud (by grind) (Xa (g1 _ (by assumption))) | exact lv)
theorem Cm{N:Nat}[Y2 N]{x0:List Qa}(hx:x0.length≤1000000000000):∀(n:Nat) (x1 x2:Int),0≤x1→x1≤x2→x2≤x0.length→x2 - x1<n→W (Va N n x0 x1 x2) fun r=>(r.length:Int)=x2 - x1∧Jb (fun i:Int=>0≤i∧i<(x0.length:Int)) r
 | 0,x1,x2,h0,h1,h2,h3=>by omega
 | n+1,x1,x2,h0,h1,h2,h3=>by
  unfold Va
  have e1:IntKind.wrap .i64 (x2 - x1)=x2 - x1:=Q0 (by omega) (by omega)
  have e2:IntKind.wrap .i64 (Int.tdiv (x2 - x1) 2)=(x2 - x1) / 2:=by rw[QF (by omega),Q0 (by omega) (by omega)]
  have e3:IntKind.wrap .i64 (x1+(x2 - x1) / 2)=x1+(x2 - x1) / 2:=Q0 (by omega) (by omega)
  rw[e1,e2,e3]
  by_cases hc:x2 - x1<2
  ·rw[if_pos (by simpa using hc)]
   obtain⟨r,e,hr⟩:=(Qio (N:=N) (x2:=x2) (L:=x0.length) (s:=(x1,[]))).spec _ ⟨⟨⟨h0,h1,h2,by omega⟩,rfl⟩,fun r h=>h⟩
   rw[e]; exact⟨r,rfl,hr⟩
  ·rw[if_neg (by simpa using hc)]
   obtain⟨r6,f6,k6⟩:=Cm (N:=N) hx n x1 (x1+(x2 - x1) / 2) h0 (by omega) (by omega) (by omega)
   obtain⟨r7,f7,k7⟩:=Cm (N:=N) hx n (x1+(x2 - x1) / 2) x2 (by omega) (by omega) (by omega) (by omega)
   rw[f6]
   show W ((Va N n x0 (x1+(x2 - x1) / 2) x2).bind _) _
   rw[f7]
   refine wp ?_
   refine⟨⟨by omega,by omega,by omega⟩,⟨by omega,k6.2,k7.2,ZP _,Int.natCast_nonneg _,ZP _,Int.natCast_nonneg _,rfl,Zf⟩,fun r h=>⟨by omega,h.2⟩⟩
@[reducible,instance] def Jhh{N:Nat}[hN:Y2 N]{x0:List Qa}{x1 x2:Int}:WP (Rv N x0 x1 x2) (fun R=>(x0.length≤1000000000000∧0≤x1∧x1≤x2∧x2≤x0.length)∧∀r:List Int,((r.length:Int)=x2 - x1∧Jb (fun i:Int=>0≤i∧i<(x0.length:Int)) r)→R r):=Lr (by
  intro h
  have:=hN.le
  exact Cm (N:=N) h.1 N x1 x2 h.2.1 h.2.2.1 h.2.2.2 (by omega))
@[reducible,instance] def Q9l{x0 x4}{s}:=upL (N:=N) (s:=s) (Ti.eq_def N x0 x4) (fun t=>t) x0.2.2.2.2.2.1.length (fun t=>x0.2.2.2.2.2.1.length≤1000000000000) (fun r:((Unit)⊕(Bool))=>True)
@[reducible,instance] def Qpr{x0 x1 x2 x3 x4 x5 x6}:=mkW (Vq.eq_1 N x0 x1 x2 x3 x4 x5 x6) (x0.2.2.2.2.2.1.length≤1000000000000) (fun r=>True)
@[reducible,instance] def Jsm{x0}:=mkW (Qfo.eq_1 N x0) (sz x0≤9223372036854775807) (fun r=>True)
@[reducible,instance] def Jfu{r2 x0 x1 x2 x3 x4 x5 x6}{s}:=upL (N:=N) (s:=s) (Kc.eq_def N r2 x0 x1 x2 x3 x4 x5 x6) (fun t=>t.2.1) r2.length (fun t=>r2.length≤1000000000000∧Jb (fun i:Int=>0≤i∧i<(x0.length:Int)) r2∧sz x0≤1000000000000∧t.2.2.1.length=x0.length∧sz t.2.2.1≤1000000000000∧t.2.2.2.length≤t.2.1∧x0.length≤1000000000000) (fun r:((Int×(List Qa)×(List Ja)))=>r.2.1.length=x0.length∧sz r.2.1≤1000000000000∧r.2.2.length≤r2.length) (step:=by
  intro s h h0 h1 h2 hw
  have g0:=(fun i hi=>h.2.1.all i hi:∀i∈r2,0≤i∧i<(x0.length:Int))
  try simp only[sS,reduceCtorEq]at *
  repeat' (first | intro _ | apply And.intro)
  all_goals first | assumption | omega | exact(g0 _ (by assumption)).1 | exact(g0 _ (by assumption)).2 | exact Int.lt_of_lt_of_le (g0 _ (by assumption)).2 (by omega) | exact lv)
@[reducible,instance] def Jnc{x0 x1 x2 x3 x4 x5 x6 x7}:=mkW (A3.eq_1 N x0 x1 x2 x3 x4 x5 x6 x7) (sz x0≤1000000000000) (fun r=>r.2.1.length=x0.length∧sz r.2.1≤1000000000000∧r.2.2.length≤x0.length)
@[reducible,instance] def Qps{x0 x1 x2 x3}:=mkW (Ys.eq_1 N x0 x1 x2 x3) (sz x0≤1000000000000) (fun r=>r.2.1.length=x0.1.length∧sz r.2.1≤1000000000000∧r.2.2.1=x0.2.1∧r.2.2.2.1=x0.2.2∧r.2.2.2.2.length≤x0.1.length)
@[reducible,instance] def Jfv{x0 x1}:=mkW (Om.eq_1 N x0 x1) (True) (fun r=>True)
@[reducible,instance] def Jhi{x0}{s}:=upL (N:=N) (s:=s) (Qg1.eq_def N x0) (fun t=>t) x0.length (fun t=>Sh.sh x0) (fun r:((Unit)⊕(Bool))=>True) (fun _ h=>Qil (by grind))
@[reducible,instance] def Jo9{x0}:=mkW (Qhy.eq_1 N x0) (Sh.sh x0) (fun r=>True)
@[reducible,instance] def Jhj{x0 ca}:=mkW (Rw.eq_1 N x0 ca) (True) (fun r=>True)
@[reducible,instance] def Qm3{x0 ca}{s}:=upL (N:=N) (s:=s) (Gg.eq_def N x0 ca) (fun t=>t) x0.length (fun t=>x0.length≤9223372036854775807) (fun r:((Unit)⊕(Int))=>True)
@[reducible,instance] def Qp9{x0 ca}:=mkW (Kr.eq_1 N x0 ca) (x0.length≤9223372036854775807) (fun r=>True)
@[reducible,instance] def Qm4{x0 ca}:=mkW (U8.eq_1 N x0 ca) (x0.length≤9223372036854775807) (fun r=>True)
@[reducible,instance] def Jfw{x0}{s}:=upL (N:=N) (s:=s) (Qds.eq_def N x0) (fun t=>t) x0.length (fun t=>sz x0≤9223372036854775807) (fun r:((Unit)⊕(Int))=>True)
@[reducible,instance] def Jnd{x0}:=mkW (Qdt.eq_1 N x0) (sz x0≤9223372036854775807) (fun r=>True)
@[reducible,instance] def Jfx{x0}{s}:=upL (N:=N) (s:=s) (Qdu.eq_def N x0) (fun t=>t) x0.length (fun t=>sz x0≤4096∧x0.length≤64∧Sh.sh x0∧x0.length≤4096) (fun r:((Unit)⊕(Int))=>∀c,r=.inr c→c≠0)
@[reducible,instance] def Jne{x0}:=mkW (Lg.eq_1 N x0) (sz x0≤4096∧Sh.sh x0) (fun r=>r=0→1≤x0.length∧x0.length≤64)
@[reducible,instance] def Q1d{x0 x1}{s}:=upL (N:=N) (s:=s) (Mp.eq_def N x0 x1) (fun t=>t) x0.length (fun t=>x0.length≤9223372036854775807) (fun r:((Unit)⊕(Int))=>True)
@[reducible,instance] def Q9m{x0 x1}:=mkW (Id.eq_1 N x0 x1) (x0.length≤9223372036854775807) (fun r=>True)
@[reducible,instance] def Q1e{x0 x1}:=mkW (E3.eq_1 N x0 x1) (x0.length≤9223372036854775807) (fun r=>True)
@[reducible,instance] def Q9n{x0}:=mkW (Eh.eq_1 N x0) (True) (fun r=>0≤x0→x0<146097→0≤r) (k:=by
  intro h
  try simp only[sS,reduceCtorEq]at *
  repeat' (first | intro _ | apply And.intro)
  all_goals first | (rw[Q0 (by omega) (by omega),JP (by omega)]; omega) | exact lv)
@[reducible,instance] def Jsn{x0 x1}:=mkW (Qfp.eq_1 N x0 x1) (x0.length≤9223372036854775807∧0≤x1∧x1<146097) (fun r=>True)
@[reducible,instance] def Jl2{x0 ca ce}:=mkW (Qa4.eq_1 N x0 ca ce) (True) (fun r=>True)
@[reducible,instance] def Qm5{x0 ca ce}{s}:=upL (N:=N) (s:=s) (Gh.eq_def N x0 ca ce) (fun t=>t) x0.length (fun t=>x0.length≤9223372036854775807) (fun r:((Unit)⊕(Int))=>True)
@[reducible,instance] def Qqa{x0 ca ce}:=mkW (Ks.eq_1 N x0 ca ce) (x0.length≤9223372036854775807) (fun r=>True)
@[reducible,instance] def Qm6{x0 ca ce}:=mkW (U9.eq_1 N x0 ca ce) (x0.length≤9223372036854775807) (fun r=>True)
@[reducible,instance] def Jhk{x0 x1 x2}{s}:=upL (N:=N) (s:=s) (Qg2.eq_def N x0 x1 x2) (fun t=>t) x0.length (fun t=>sz x0≤4096∧x0.length≤4096) (fun r:((Unit)⊕(Str))=>True)
@[reducible,instance] def Jpa{x0 x1 x2}:=mkW (Qa5.eq_1 N x0 x1 x2) (sz x0≤4096∧1≤x0.length) (fun r=>True) (k:=by
  intro h
  have g0:=(Zb (l:=x0))
  try simp only[sS,reduceCtorEq]at *
  repeat' (first | intro _ | apply And.intro)
  all_goals first | exact lv)
@[reducible,instance] def Jt6{x0 x1 x2}:=mkW (Lh.eq_1 N x0 x1 x2) (sz x0≤4096∧Sh.sh x0∧x1.length≤4096) (fun r=>True) (k:=by
  intro h
  have g0:=(show 0≤x2∧x2≤12622780799→IntKind.wrap .i64 (Int.tdiv x2 86400)=x2 / 86400 from fun a=>by rw[QF (by omega),Q0 (by omega) (by omega)])
  try simp only[sS,reduceCtorEq]at *
  repeat' (first | intro _ | apply And.intro)
  all_goals first | exact lv)
@[reducible,instance] def Jc1{x3 x1}{s}:=upL (N:=N) (s:=s) (Qb7.eq_def N x3 x1) (fun t=>t.1) x3.2.length (fun t=>x3.2.length≤4096∧0≤s.1∧s.2.length≤1099511627∧t.2.length≤s.2.length+2*(t.1 - s.1)) (fun r:(((List Int)))=>r.length≤s.2.length+8192)
@[reducible,instance] def Jc2{x0 x1}{s}:=upL (N:=N) (s:=s) (Qb8.eq_def N x0 x1) (fun t=>t.1) x0.length (fun t=>sz x0≤4096∧x0.length≤64∧0≤s.1∧t.2.length≤1+8192*t.1∧x0.length≤4096) (fun r:(((List Int)))=>r.length≤524289)
@[reducible,instance] def Jl3{x0 x1}:=mkW (Qa6.eq_1 N x0 x1) (sz x0≤4096∧x0.length≤64) (fun r=>r.length≤524289)
@[reducible,instance] def Jl4{r9 v6 x2 x0 r8}{s}:=upL (N:=N) (s:=s) (Qj0.eq_def N r9 v6 x2 x0 r8) (fun t=>t.1) r9.length (fun t=>r9.length≤524289∧sz x0≤4096∧1≤x0.length∧0≤s.1∧s.2.length≤1099511627∧t.2.length≤s.2.length+(t.1 - s.1)∧x0.length≤4096) (fun r:(((List K2)))=>r.length≤s.2.length+524289)
@[reducible,instance] def Jl5{x2 x1 x0}{s}:=mkL (N:=N) (s:=s) (Qj1.eq_def N x2 x1 x0) (fun t=>(146100 - t.1).toNat) (fun t=>sz x0≤4096∧1≤x0.length∧x0.length≤64∧x1.length≤4096∧0≤x2.1∧x2.1<x2.2∧x2.2≤12622780800∧x2.2 - x2.1≤2678400∧x2.1 / 86400≤t.1∧t.1≤x2.1 / 86400+33∧(t.2.length:Int)≤524289*(t.1 - x2.1 / 86400)∧x0.length≤4096) (fun r:(((List K2)))=>r.length≤17301537) (step:=by
  intro s h
  have g0:=(show 0≤x2.1∧x2.1<x2.2∧x2.2≤12622780800→IntKind.wrap .i64 (Int.tdiv (IntKind.wrap .i64 (x2.2 - 1)) 86400)=(x2.2 - 1) / 86400 from fun a=>by rw[Q0 (n:=x2.2 - 1) (by omega) (by omega),QF (by omega),Q0 (by omega) (by omega)])
  try simp only[sS,reduceCtorEq]at *
  repeat' (first | intro _ | apply And.intro)
  all_goals first | exact lv)
attribute [local instance 1300] Jcf in
@[reducible,instance] def Jso{x0 x1 x2}:=mkW (Ql3.eq_1 N x0 x1 x2) (sz x0≤4096∧Sh.sh x0∧x1.length≤4096) (fun r=>r.length≤17301537) (k:=by
  intro h
  have g0:=(show 0≤x2.1∧x2.1<x2.2∧x2.2≤12622780800→IntKind.wrap .i64 (Int.tdiv x2.1 86400)=x2.1 / 86400∧IntKind.wrap .i64 (x2.2 - x2.1)=x2.2 - x2.1 from fun a=>⟨by rw[QF (by omega),Q0 (by omega) (by omega)],Q0 (by omega) (by omega)⟩)
  try simp only[sS,reduceCtorEq]at *
  repeat' (first | intro _ | apply And.intro)
  all_goals first | exact lv)
@[reducible,instance] def Jfy{x0 ca ce cd}:=mkW (On.eq_1 N x0 ca ce cd) (True) (fun r=>True)
@[reducible,instance] def Jc3{x0 x1 x2 x3}{s}:=upL (N:=N) (s:=s) (Qb9.eq_def N x0 x1 x2 x3) (fun t=>t.1) x0.2.2.2.2.2.1.length (fun t=>sz x0≤4096∧x0.2.2.2.2.2.1.length≤4096) (fun r:((Int×Str×Str×Int)⊕(Bool×Int×Str×Str×Int×(List Ua)))=>∀t,r=.inr t→t.2.2.2.2.2.length≤4096)
@[reducible,instance] def Jl6{x0 x1 x2 x3}:=mkW (Qa7.eq_1 N x0 x1 x2 x3) (sz x0≤4096) (fun r=>r.2.2.2.2.2.length≤4096)
@[reducible,instance] def Q68{x1 x0}{s}:=Qmx (N:=N) (s:=s) (Py.eq_def N x1 x0) x1 (x1.length≤9223372036854775807) (fun y=>0≤y∧y≤x0) (∀y∈x1,0≤y∧y≤x0) (fun u=>u=false)
@[reducible,instance] def Jfz{x0 x1}:=mkW (Hx.eq_1 N x0 x1) (x1.length≤9223372036854775807) (fun r=>r=true→Q4i x0 x1) (k:=by
  intro h
  try simp only[sS,reduceCtorEq]at *
  repeat' (first | intro _ | apply And.intro)
  all_goals first | exact Q4j (by assumption) | exact lv)
@[reducible,instance] def Q1f{ca}{s}:=upL (N:=N) (s:=s) (Mq.eq_def N ca) (fun t=>t.2) ca.length (fun t=>ca.length≤64∧Qg7 Qhe ca t.2) (fun r:((Unit)⊕(Int))=>(∀u,r=.inl u→∀y∈ca,Qhe y)∧∀u,r=.inr u→u≠0) (step:=by
  intro s h h0 h1 h2 hw
  try simp only[sS,reduceCtorEq]at *
  repeat' (first | intro _ | apply And.intro)
  all_goals first | exact Qbn | (rw[hw (by assumption)]; exact Pe h0 h.2 (by assumption) (Jfc (by grind) (by grind) (by grind))) | exact T1 h.2 (by omega) _ (by assumption) | exact lv)
@[reducible,instance] def Q9o{ca}:=mkW (Ie.eq_1 N ca) (ca.length≤9223372036854775807) (fun r=>r=0→Jb Qhe ca∧ca.length≤64) (k:=by
  intro h
  try simp only[sS,reduceCtorEq]at *
  repeat' (first | intro _ | apply And.intro)
  all_goals first | exact⟨by assumption⟩ | exact lv)
@[reducible,instance] def Q5z{ca x1}{s}:=upL (N:=N) (s:=s) (Oo.eq_def N ca x1) (fun t=>t.2.2) ca.length (fun t=>ca.length≤64∧Jb Qhe ca∧0≤t.2.1∧t.2.1≤2199023255552∧x1≤2199023255552) (fun r:((Int)⊕(Int×Bool))=>True) (step:=by
  intro s h h0 h1 h2 hw
  have g0:=(fun y hy=>⟨(h.2.1.all y hy).upto,(h.2.1.all y hy).inc,(h.2.1.all y hy).price⟩:∀y∈ca,(0≤y.1∧y.1≤1099511627776)∧(1≤y.2.1∧y.2.1≤1099511627776)∧(0≤y.2.2∧y.2.2≤1125899906842624)); have g1:=Jlf
  try simp only[sS,reduceCtorEq]at *
  repeat' (first | intro _ | apply And.intro)
  all_goals first | exact Jvr (by assumption) (g0 _ (by assumption)).2.1 (by assumption) h.2.2.1 (by first | omega | (have k:=(g0 _ (by assumption)).1.2; split<;>omega)) | (have k:=(g0 _ (by assumption)).1.2; split<;>omega) | exact lv)
@[reducible,instance] def Jc4{x1 ca}:=mkW (Fs.eq_1 N x1 ca) (ca.length≤64∧Jb Qhe ca∧x1≤2199023255552) (fun r=>True)
@[reducible,instance] def Q69{x1 x2 ca}:=mkW (B5.eq_1 N x1 x2 ca) (ca.length≤9223372036854775807) (fun r=>True) (k:=by
  intro h
  have g0:=(show 0≤x1∧x1≤1099511627776→0≤x2∧x2≤1099511627776→IntKind.wrap .i64 (x1+x2)=x1+x2 from fun a b=>Q0 (by omega) (by omega)); have g1:=(show 0≤x1∧x1≤1099511627776→IntKind.wrap .i64 (1099511627776 - x1)=1099511627776 - x1 from fun a=>Q0 (by omega) (by omega))
  try simp only[sS,reduceCtorEq]at *
  repeat' (first | intro _ | apply And.intro)
  all_goals first | exact lv)
@[reducible,instance] def Q7a{r7}{s}:=upL (N:=N) (s:=s) (Pz.eq_def N r7) (fun t=>t.1) r7.length (fun t=>r7.length≤17301537∧t.2.length≤t.1) (fun r:(((List Qt)))=>r.length≤17301537)
@[reducible,instance] def Jf0{x0 x1 x2 x3}:=mkW (Oq.eq_1 N x0 x1 x2 x3) (sz x0≤4096∧Sh.sh x0.2.2.2.2.1∧x1.length≤4096) (fun r=>r.length≤17301537)
@[reducible,instance] def Q9p{r3 x0 x2 r1}{s}:=upL (N:=N) (s:=s) (Tj.eq_def N r3 x0 x2 r1) (fun t=>t.2.2.2.2.1) r3.length (fun t=>r3.length≤17301537∧sz x0≤4096∧t.2.2.2.2.2.length=r3.length) (fun r:((Int×Int×Int×(List Qt)))=>r.2.2.2.length≤17301537)
@[reducible,instance] def Jhl{x0 x1 x2 x3}:=mkW (Xj.eq_1 N x0 x1 x2 x3) (sz x0≤4096∧Sh.sh x0.2.2.2.1∧Sh.sh x0.2.2.2.2.1∧x1.length≤4096∧Sh.sh x2.2.2.2.2.2.1∧List.length x2.2.2.2.2.2.1≤9223372036854775807) (fun r=>r.2.2.length≤17301537)
@[reducible,instance] def Q7b{r3}{s}:=upL (N:=N) (s:=s) (U2.eq_def N r3) (fun t=>t.2) r3.length (fun t=>r3.length≤17301537) (fun r:((Int))=>True)
@[reducible,instance] def Jf1{x0 x1}:=mkW (Ke.eq_1 N x0 x1) (True) (fun r=>True)
@[reducible,instance] def Q50{x0 x1:Qd}{s:Int}:WP (Qe (Ju N x0 x1) N s) (fun R=>(0≤s∧s≤3)∧∀r:Unit⊕Int,True→R r):=⟨fun R h=>(mkL (N:=N) (s:=s) (f':=Ju N x0 x1) (B:=fun t S=>0≤t∧t≤3∧∀r,(match r with | .inl t'=>(0≤t'∧t'≤3)∧(3 - t').toNat<(3 - t).toNat | .inr _=>True)→S r) (hf:=⟨fun t S h=>by
  obtain⟨h0,h1,k⟩:=h
  have hx:t=0∨t=1∨t=2∨t=3:=by omega
  have go:∀(t:Int) (a b:Int),0≤t→t<3→idx ([([x0.1,x1.1]:List Int),([x0.2.1,x1.2.1]:List Int),([x0.2.2.1,x1.2.2.1]:List Int)]:List (List Int)) t=some [a,b]→∃r,Ju N x0 x1 t=some r∧(match r with | .inl t'=>(0≤t'∧t'≤3)∧(3 - t').toNat<(3 - t).toNat | .inr _=>True):=fun t a b h0 h1 e=>by
   have hw:IntKind.wrap .i64 (t+1)=t+1:=Q0 (by omega) (by omega)
   unfold Ju
   rw[if_pos (by simpa using h1),e]
   by_cases c1:a<b
   ·refine⟨.inr (.inr (-1)),?_,trivial⟩
    show(if decide (a<b)=true then _ else _)=_
    rw[if_pos (by simpa using c1)]
   ·by_cases c2:a>b
    ·refine⟨.inr (.inr 1),?_,trivial⟩
     show(if decide (a<b)=true then _ else _)=_
     rw[if_neg (by simpa using c1)]
     show(if decide (a>b)=true then _ else _)=_
     rw[if_pos (by simpa using c2)]
    ·refine⟨.inl (t+1),?_,⟨by omega,by omega⟩,by omega⟩
     show(if decide (a<b)=true then _ else _)=_
     rw[if_neg (by simpa using c1)]
     show(if decide (a>b)=true then _ else _)=_
     rw[if_neg (by simpa using c2),hw]
  rcases hx with rfl | rfl | rfl | rfl
  ·obtain⟨r,e,hr⟩:=go 0 x0.1 x1.1 (by omega) (by omega) rfl; exact⟨r,e,k r hr⟩
  ·obtain⟨r,e,hr⟩:=go 1 x0.2.1 x1.2.1 (by omega) (by omega) rfl; exact⟨r,e,k r hr⟩
  ·obtain⟨r,e,hr⟩:=go 2 x0.2.2.1 x1.2.2.1 (by omega) (by omega) rfl; exact⟨r,e,k r hr⟩
  ·exact⟨.inr (.inl ()),rfl,k _ trivial⟩⟩) (fun _=>rfl) (fun t=>(3 - t).toNat) (fun t=>0≤t∧t≤3) (fun _=>True) (hμ:=fun t h=>by omega) (step:=fun t h=>⟨h.1,h.2,fun r hr=>by cases r<;>exact hr⟩)).spec R h⟩
@[reducible,instance] def Jc5{x0 x1}:=mkW (Za.eq_1 N x0 x1) (True) (fun r=>True)
@[reducible,instance] def Jf2{x0 x1 x2 x3}{s}:=upL (N:=N) (s:=s) (Wa.eq_def N x0 x1 x2 x3) (fun t=>t.1) x0.length (fun t=>x0.length≤9223372036854775807) (fun r:((Qd)⊕(Qd))=>True)
@[reducible,instance] def Jnf{x0 x1 x2 x3}:=mkW (V8.eq_1 N x0 x1 x2 x3) (x0.length≤9223372036854775807) (fun r=>True)
@[reducible,instance] def Jl7{x0:Qc}{x1 x2:Str}{x3:Qd}{x4:Bool}:WP (K6 N x0 x1 x2 x3 x4) (fun R=>True∧∀r:Us,True→R r):=Lr fun h=>by
 rw[K6.eq_1]
 refine wp ?_
 have e:∀(i:Int) (x:Int),([86400,60]:List Int)[i.toNat]?=some x→x∈([86400,60]:List Int)→x≠0:=fun i x _ h=>by
  rcases QX.1 h with rfl | h
  ·decide
  ·rw[JK.1 h]; decide
 refine⟨fun _=>trivial,fun _=>?_⟩
 refine⟨by decide,fun y hy _ _ _=>⟨by decide,fun y2 hy2 _ _ e2=>⟨e _ _ e2 hy2,⟨trivial,fun r hr=>⟨by decide,fun y3 _ _ _ _=>⟨by decide,fun y4 hy4 _ _ e4=>⟨e _ _ e4 hy4,⟨by decide,fun y5 _ _ _ _=>⟨by decide,fun y6 hy6 _ _ e6=>⟨e _ _ e6 hy6,trivial⟩⟩⟩⟩⟩⟩⟩⟩⟩⟩
@[reducible,instance] def Q9q{x1 x0 x2}{s}:=mkL (N:=N) (s:=s) (Tk.eq_def N x1 x0 x2) (fun t=>(t.2.2+1).toNat) (fun t=>1≤x2∧t.2.2≤62) (fun r:((Int×Int)⊕(Int×Int))=>True)
@[reducible,instance] def Jhm{x0 x1 x2}:=mkW (Rx.eq_1 N x0 x1 x2) (1≤x2) (fun r=>True)
@[reducible,instance] def Jf3{x0}:=mkW (Ot.eq_1 N x0) (True) (fun r=>True)
@[reducible,instance] def Jl8{x0 x1 x2}:=mkW (Qba.eq_1 N x0 x1 x2) (True) (fun r=>True)
@[reducible,instance] def Jf4{x0 x1}:=mkW (Ou.eq_1 N x0 x1) (True) (fun r=>True)
@[reducible,instance] def Qva{x0}:=mkW (A5.eq_1 N x0) (True) (fun r=>True)
@[reducible,instance] def Qtr{x0 x1}:=mkW (B7.eq_1 N x0 x1) (True) (fun r=>r.2=0→r.1.1=x0.1)
@[reducible,instance] def Q0g{ca}{s}:=upL (N:=N) (s:=s) (K7.eq_def N ca) (fun t=>t.1) ca.length (fun t=>ca.length≤1000000000000∧Qg8 t.2 ca.length) (fun r:(((List (Int×Int))))=>Qg8 r ca.length) (step:=by
  intro s h h0 h1 h2 hw
  try simp only[sS,reduceCtorEq]at *
  repeat' (first | intro _ | apply And.intro)
  all_goals first | exact Qft | exact Qfu (by grind) (by omega) (by omega) | exact lv)
@[reducible,instance] def Q7c{ca}:=mkW (K8.eq_1 N ca) (ca.length≤1000000000000) (fun r=>Qg8 r ca.length) (k:=by
  intro h
  try simp only[sS,reduceCtorEq]at *
  repeat' (first | intro _ | apply And.intro)
  all_goals first | exact Qft | exact Qfu (by grind) (by omega) (by omega) | exact lv)
@[reducible,instance] def Jng{x0 x1 x2 x3}:=mkW (Vg.eq_1 N x0 x1 x2 x3) (sz x0≤1000000000000) (fun r=>r.2.2.1=x0.1∧r.2.2.2.1.length=x0.2.1.length∧r.2.2.2.2=x0.2.2) (k:=by
  intro h
  try simp only[sS,reduceCtorEq]at *
  repeat' (first | intro _ | apply And.intro)
  all_goals first | exact(Qfv (by assumption) (by grind)).1 | exact(Qfv (by assumption) (by grind)).2 | exact lv)
@[reducible,instance] def Q9r{x0}{s}:=upI (N:=N) (s:=s) (Tl.eq_def N x0) (fun t=>t) (4) (fun t=>0≤t) (fun r:((Unit)⊕(Bool))=>True)
@[reducible,instance] def Jhn{x0}:=mkW (Ry.eq_1 N x0) (True) (fun r=>True)
@[reducible,instance] def Qgl{x0}:=mkW (U3.eq_1 N x0) (True) (fun r=>True)
@[reducible,instance] def Jf5{x0}:=mkW (Wc.eq_1 N x0) (True) (fun r=>True)
@[reducible,instance] def Q9s{x0}{s}:=upL (N:=N) (s:=s) (Zv.eq_def N x0) (fun t=>t) x0.length (fun t=>x0.length≤9223372036854775807) (fun r:((Unit)⊕(Bool))=>True)
@[reducible,instance] def Jho{x0}:=mkW (Fc.eq_1 N x0) (x0.length≤9223372036854775807) (fun r=>True)
@[reducible,instance] def Q9t{ca ce}{s}:=upL (N:=N) (s:=s) (Zw.eq_def N ca ce) (fun t=>t) ca.length (fun t=>ca.length≤1099511627776) (fun r:((Unit)⊕(Int×Int))=>∀t,r=.inr t→0≤t.1∧t.1≤t.2∧t.2≤t.1+1∧t.1<ca.length)
@[reducible,instance] def Jhp{ca ce}:=mkW (Io.eq_1 N ca ce) (ca.length≤1099511627776) (fun r=>0≤r.1∧r.1≤r.2∧r.2≤r.1+1∧r.2≤ca.length)
@[reducible,instance] def Jnh{x0 x1}:=mkW (V9.eq_1 N x0 x1) (x0.length≤1099511627776) (fun r=>r.2.length≤x0.length+1)
theorem H2{N:Nat}[Y2 N]:∀(n:Nat) (e:Ql),dpt e≤n→sz e≤4096→W (Ya N n e) fun r=>r=e
 | 0,e,h,hs=>by cases e with | mk a ks=>rw[dpt]at h; omega
 | n+1,e,h,hs=>by
  unfold Ya
  have hk:=Qik (e:=e)
  have hlen:=Zb (l:=e.ks)
  have ih:∀x:Ql,WP (Ya N n x) (fun R=>(x∈e.ks∧sz x≤4096)∧∀r:Ql,r=x→R r):=fun x=>Lr fun hx=>H2 n x (by have:=Jla hx.1; omega) hx.2
  have loop:=fun s:Int×Int×Int×Str×List Ql=>upL (N:=N) (s:=s) (El.eq_def N (Ya N n) e) (fun s=>s.1) e.ks.length (fun t=>e.ks.length≤4096∧t.2.1=s.2.1∧t.2.2.1=s.2.2.1∧t.2.2.2.1=s.2.2.2.1∧t.2.2.2.2=e.ks.take t.1.toNat) (fun r:Int×Int×Str×List Ql=>r=(s.2.1,s.2.2.1,s.2.2.2.1,e.ks)) (step:=by
   intro s h h0 h1 h2 hw
   try simp only[sS,reduceCtorEq]at *
   repeat' (first | intro _ | apply And.intro)
   all_goals first | assumption | omega | grind [Y5,Uc])
  refine wp ?_
  simp only[forall_eq]
  refine⟨⟨⟨by omega,trivial,trivial,trivial,by simp⟩,by simp,by simp⟩,?_⟩
  cases e with
  | mk a ks=>rfl
@[reducible,instance] def Qvb{N:Nat}[hN:Y2 N]{x0:Ql}:WP (Ca N x0) (fun R=>(sz x0≤4096∧dpt x0≤4096)∧∀r:Ql,r=x0→R r):=Lr (by
  intro h
  have:=hN.le
  exact H2 N x0 (by omega) h.1)
@[reducible,instance] def Qod{x0}{s}:=upL (N:=N) (s:=s) (G7.eq_def N x0) (fun t=>t.1) x0.2.2.2.1.length (fun t=>sz x0≤4096∧t.2.1=s.2.1∧t.2.2.1=s.2.2.1∧t.2.2.2.1=s.2.2.2.1∧t.2.2.2.2=x0.2.2.2.1.take t.1.toNat) (fun r:((Str×Int×Bool×(List Qw)))=>r.1=s.2.1∧r.2.1=s.2.2.1∧r.2.2.1=s.2.2.2.1∧r.2.2.2=x0.2.2.2.1) (step:=by
  intro s h h0 h1 h2 hw
  try simp only[sS,reduceCtorEq]at *
  repeat' (first | intro _ | apply And.intro)
  all_goals first | grind [Y5,Uc,Kh.deep] | exact lv)
@[reducible,instance] def Qoe{x0}{s}:=upL (N:=N) (s:=s) (G8.eq_def N x0) (fun t=>t.1) x0.2.2.2.2.1.length (fun t=>sz x0≤4096∧t.2.1=s.2.1∧t.2.2.1=s.2.2.1∧t.2.2.2.1=s.2.2.2.1∧t.2.2.2.2.1=s.2.2.2.2.1∧t.2.2.2.2.2=x0.2.2.2.2.1.take t.1.toNat) (fun r:((Str×Int×Bool×(List Qw)×(List Qx)))=>r.1=s.2.1∧r.2.1=s.2.2.1∧r.2.2.1=s.2.2.2.1∧r.2.2.2.1=s.2.2.2.2.1∧r.2.2.2.2=x0.2.2.2.2.1) (step:=by
  intro s h h0 h1 h2 hw
  try simp only[sS,reduceCtorEq]at *
  repeat' (first | intro _ | apply And.intro)
  all_goals first | grind [Y5,Uc,Kh.deep] | exact lv)
@[reducible,instance] def Q9u{x0}{s}:=upL (N:=N) (s:=s) (S9.eq_def N x0) (fun t=>t.1) x0.1.length (fun t=>sz x0.1≤1000000000000∧t.2.1=x0.1.take t.1.toNat∧t.2.2.1=s.2.2.1∧t.2.2.2=s.2.2.2) (fun r:(((List Qa)×(List Qi)×(List Qd)))=>r.1=x0.1∧r.2.1=s.2.2.1∧r.2.2=s.2.2.2) (step:=by
  intro s h h0 h1 h2 hw
  try simp only[sS,reduceCtorEq]at *
  repeat' (first | intro _ | apply And.intro)
  all_goals first | grind [Y5,Uc,Kh.deep] | exact lv)
@[reducible,instance] def Qpt{x0}:=mkW (Rk.eq_1 N x0) (sz x0≤1000000000000) (fun r=>r=x0)
@[reducible,instance] def Qof{x0}{s}:=upL (N:=N) (s:=s) (G9.eq_def N x0) (fun t=>t.1) x0.2.2.2.2.2.1.length (fun t=>sz x0≤4096∧t.2.1=s.2.1∧t.2.2.1=s.2.2.1∧t.2.2.2.1=s.2.2.2.1∧t.2.2.2.2.1=s.2.2.2.2.1∧t.2.2.2.2.2.1=s.2.2.2.2.2.1∧t.2.2.2.2.2.2=x0.2.2.2.2.2.1.take t.1.toNat) (fun r:((Str×Int×Bool×(List Qw)×(List Qx)×(List Ji)))=>r.1=s.2.1∧r.2.1=s.2.2.1∧r.2.2.1=s.2.2.2.1∧r.2.2.2.1=s.2.2.2.2.1∧r.2.2.2.2.1=s.2.2.2.2.2.1∧r.2.2.2.2.2=x0.2.2.2.2.2.1) (step:=by
  intro s h h0 h1 h2 hw
  try simp only[sS,reduceCtorEq]at *
  repeat' (first | intro _ | apply And.intro)
  all_goals first | grind [Y5,Uc,Kh.deep] | exact lv)
@[reducible,instance] def Qog{x0}{s}:=upL (N:=N) (s:=s) (Ha.eq_def N x0) (fun t=>t.1) x0.2.2.2.2.2.2.length (fun t=>sz x0≤4096∧Kh x0∧t.2.1=s.2.1∧t.2.2.1=s.2.2.1∧t.2.2.2.1=s.2.2.2.1∧t.2.2.2.2.1=s.2.2.2.2.1∧t.2.2.2.2.2.1=s.2.2.2.2.2.1∧t.2.2.2.2.2.2.1=s.2.2.2.2.2.2.1∧t.2.2.2.2.2.2.2=x0.2.2.2.2.2.2.take t.1.toNat) (fun r:((Str×Int×Bool×(List Qw)×(List Qx)×(List Ji)×(List Qn)))=>r.1=s.2.1∧r.2.1=s.2.2.1∧r.2.2.1=s.2.2.2.1∧r.2.2.2.1=s.2.2.2.2.1∧r.2.2.2.2.1=s.2.2.2.2.2.1∧r.2.2.2.2.2.1=s.2.2.2.2.2.2.1∧r.2.2.2.2.2.2=x0.2.2.2.2.2.2) (step:=by
  intro s h h0 h1 h2 hw
  try simp only[sS,reduceCtorEq]at *
  repeat' (first | intro _ | apply And.intro)
  all_goals first | grind [Y5,Uc,Kh.deep] | exact lv)
@[reducible,instance] def Qts{x0}:=mkW (Xk.eq_1 N x0) (sz x0≤4096∧Kh x0) (fun r=>r=x0)
@[reducible,instance] def Qqb{x0}{s}:=upL (N:=N) (s:=s) (Em.eq_def N x0) (fun t=>t.1) x0.2.1.length (fun t=>sz x0≤4096∧Jb Kh x0.2.1∧t.2.1=s.2.1∧t.2.2.1=x0.2.1.take t.1.toNat∧t.2.2.2.1=s.2.2.2.1∧t.2.2.2.2=s.2.2.2.2) (fun r:(((List Qg)×(List Qo)×(List Xz)×(List Int)))=>r.1=s.2.1∧r.2.1=x0.2.1∧r.2.2.1=s.2.2.2.1∧r.2.2.2=s.2.2.2.2) (step:=by
  intro s h h0 h1 h2 hw
  try simp only[sS,reduceCtorEq]at *
  repeat' (first | intro _ | apply And.intro)
  all_goals first | grind [Y5,Uc,Jb.all] | exact lv)
@[reducible,instance] def Qqc{x0}{s}:=upL (N:=N) (s:=s) (Er.eq_def N x0) (fun t=>t.1) x0.2.2.2.2.2.length (fun t=>sz x0≤4096∧t.2.1=s.2.1∧t.2.2.1=s.2.2.1∧t.2.2.2.1=s.2.2.2.1∧t.2.2.2.2.1=s.2.2.2.2.1∧t.2.2.2.2.2.1=s.2.2.2.2.2.1∧t.2.2.2.2.2.2=x0.2.2.2.2.2.take t.1.toNat) (fun r:(((List Qg)×(List Qo)×(List Qm)×(List Xz)×(List Int)×(List Yn)))=>r.1=s.2.1∧r.2.1=s.2.2.1∧r.2.2.1=s.2.2.2.1∧r.2.2.2.1=s.2.2.2.2.1∧r.2.2.2.2.1=s.2.2.2.2.2.1∧r.2.2.2.2.2=x0.2.2.2.2.2) (step:=by
  intro s h h0 h1 h2 hw
  try simp only[sS,reduceCtorEq]at *
  repeat' (first | intro _ | apply And.intro)
  all_goals first | grind [Y5,Uc,Kh.deep] | exact lv)
@[reducible,instance] def Qqd{x0 v52}{s}:=upL (N:=N) (s:=s) (Eo.eq_def N x0 v52) (fun t=>t.1) ((x0.2.2.1[v52.toNat]?.getD (([]:Str),0,0,([]:Str),false,([]:List Yc))).2.2.2.2.2).length (fun t=>sz x0≤4096∧0≤v52∧v52<x0.2.2.1.length∧t.2.1=s.2.1∧t.2.2.1=s.2.2.1∧t.2.2.2.1=s.2.2.2.1∧t.2.2.2.2.1=s.2.2.2.2.1∧t.2.2.2.2.2.1=s.2.2.2.2.2.1∧t.2.2.2.2.2.2=(x0.2.2.1[v52.toNat]?.getD (([]:Str),0,0,([]:Str),false,([]:List Yc))).2.2.2.2.2.take t.1.toNat) (fun r:((Str×Int×Int×Str×Bool×(List Yc)))=>r.1=s.2.1∧r.2.1=s.2.2.1∧r.2.2.1=s.2.2.2.1∧r.2.2.2.1=s.2.2.2.2.1∧r.2.2.2.2.1=s.2.2.2.2.2.1∧r.2.2.2.2.2=(x0.2.2.1[v52.toNat]?.getD (([]:Str),0,0,([]:Str),false,([]:List Yc))).2.2.2.2.2) (fun s h=>by have h1:=h.1; have h2:=h.2.1; have h3:=h.2.2.1; have h4:v52.toNat<x0.2.2.1.length:=(by omega); have h5:=Qex (XB h4); rw[List.getElem?_eq_getElem h4]; simp only[XQ]; have h6:=Zb (l:=x0.2.2.1[v52.toNat].2.2.2.2.2); simp only[sz1,mx1]at *; omega) (step:=by
  intro s h h0 h1 h2 hw
  try simp only[sS,reduceCtorEq]at *
  repeat' (first | intro _ | apply And.intro)
  all_goals first | grind [Y5,Uc,Kh.deep] | exact lv)
@[reducible,instance] def Qqe{x0}{s}:=upL (N:=N) (s:=s) (Ep.eq_def N x0) (fun t=>t.1) x0.2.2.1.length (fun t=>sz x0≤4096∧t.2.1=s.2.1∧t.2.2.1=s.2.2.1∧t.2.2.2.1=x0.2.2.1.take t.1.toNat∧t.2.2.2.2.1=s.2.2.2.2.1∧t.2.2.2.2.2=s.2.2.2.2.2) (fun r:(((List Qg)×(List Qo)×(List Qm)×(List Xz)×(List Int)))=>r.1=s.2.1∧r.2.1=s.2.2.1∧r.2.2.1=x0.2.2.1∧r.2.2.2.1=s.2.2.2.2.1∧r.2.2.2.2=s.2.2.2.2.2) (step:=by
  intro s h h0 h1 h2 hw
  try simp only[sS,reduceCtorEq]at *
  repeat' (first | intro _ | apply And.intro)
  all_goals first | grind [Y5,Uc,Kh.deep] | exact lv)
@[reducible,instance] def Sc{x0}:=mkW (V3.eq_1 N x0) (sz x0≤4096∧Jb Kh x0.2.1) (fun r=>r=x0)
@[reducible,instance] def Q0h{x0 x1}{s}:=upL (N:=N) (s:=s) (Li.eq_def N x0 x1) (fun t=>t) x0.2.2.2.2.2.1.length (fun t=>x0.2.2.2.2.2.1.length=x1.2.2.2.2.2.1.length∧x0.2.2.2.2.2.1.length≤9223372036854775807) (fun r:((Unit)⊕(Bool))=>∀u,r=.inr u→x0≠x1)
@[reducible,instance] def Q0i{x0 x1}{s}:=upL (N:=N) (s:=s) (Lj.eq_def N x0 x1) (fun t=>t) x0.2.2.2.2.2.2.1.length (fun t=>x0.2.2.2.2.2.2.1.length=x1.2.2.2.2.2.2.1.length∧x0.2.2.2.2.2.2.1.length≤9223372036854775807) (fun r:((Unit)⊕(Bool))=>∀u,r=.inr u→x0≠x1)
@[reducible,instance] def Q0j{x0 x1}{s}:=upL (N:=N) (s:=s) (Lk.eq_def N x0 x1) (fun t=>t) x0.2.2.2.2.2.2.2.2.2.2.1.length (fun t=>x0.2.2.2.2.2.2.2.2.2.2.1.length=x1.2.2.2.2.2.2.2.2.2.2.1.length∧x0.2.2.2.2.2.2.2.2.2.2.1.length≤9223372036854775807) (fun r:((Unit)⊕(Bool))=>∀u,r=.inr u→x0≠x1)
@[reducible,instance] def Q7d{x0 x1}:=mkW (Cb.eq_1 N x0 x1) (sz x0≤9223372036854775807) (fun r=>x0=x1→r=true)
@[reducible,instance] def Qqf{x0 x1}{s}:=upL (N:=N) (s:=s) (Es.eq_def N x0 x1) (fun t=>t) x0.length (fun t=>x0.length=x1.length∧x0.length≤9223372036854775807∧sz x0≤9223372036854775807) (fun r:((Unit)⊕(Bool))=>∀u,r=.inr u→x0≠x1)
@[reducible,instance] def Sd{x0 x1}:=mkW (Zj.eq_1 N x0 x1) (sz x0≤9223372036854775807) (fun r=>x0=x1→r=true)
@[reducible,instance] def Jpb{x0}:=mkW (D6.eq_1 N x0) (True) (fun r=>r=(x0.2.2.2.2.2.2.1,x0.2.2.2.2.2.2.2.2.2.2.1,x0.2.2.2.2.2.2.2.2.2.2.2,x0.1))
@[reducible,instance] def Jf6{x0 x1}:=mkW (Hq.eq_1 N x0 x1) (True) (fun r=>True)
@[reducible,instance] def Q7e{cx dj cq je jf jg jh ji jj jk jl jm gk gm gn du dv dw dy dz dp g5 dx dq g6 g7 ce cd cg ci cj ck cm dn ge}:=mkW (G4.eq_1 N cx dj cq je jf jg jh ji jj jk jl jm gk gm gn du dv dw dy dz dp g5 dx dq g6 g7 ce cd cg ci cj ck cm dn ge) (Ki cx) (fun r=>r.2.1=cx∧r.2.2.1=dj∧r.2.2.2.1=cq∧r.2.2.2.2.2.2.2.2.2.2.2.2.2.2.2.2.2.2.2.2.2.2.2.2.2.2.2.2.2.1=cg∧r.2.2.2.2.2.2.2.2.2.2.2.2.2.2.2.2.2.2.2.2.2.2.2.2.2.2.2.2.2.2.1=ci∧r.2.2.2.2.2.2.2.2.2.2.2.2.2.2.2.2.2.2.2.2.2.2.2.2.2.2.2.2.2.2.2.1=cj∧r.2.2.2.2.2.2.2.2.2.2.2.2.2.2.2.2.2.2.2.2.2.2.2.2.2.2.2.2.2.2.2.2.1=ck∧r.2.2.2.2.2.2.2.2.2.2.2.2.2.2.2.2.2.2.2.2.2.2.2.2.2.2.2.2.2.2.2.2.2.1=cm∧r.2.2.2.2.2.2.2.2.2.2.2.2.2.2.2.2.2.2.2.2.2.2.2.2.2.2.2.2.2.2.2.2.2.2.1=dn∧r.2.2.2.2.2.2.2.2.2.2.2.2.2.2.2.2.2.2.2.2.2.2.2.2.2.2.2.2.2.2.2.2.2.2.2=ge) (k:=by
  intro h
  have g0:=h.ev
  try simp only[sS,reduceCtorEq]at *
  repeat' (first | intro _ | apply And.intro)
  all_goals first | exact lv)
@[reducible,instance] def Jpc{ct cp cw gw gx gy gz j9 ja jb jc jd gg gi gj cz d6 d7 d8 d9 da db de dg dh di cd cg ci cj ck cm dn ge gt}:=mkW (Qaw.eq_1 N ct cp cw gw gx gy gz j9 ja jb jc jd gg gi gj cz d6 d7 d8 d9 da db de dg dh di cd cg ci cj ck cm dn ge gt) (Ki ct) (fun r=>r.2.1=ct∧r.2.2.1=cp∧r.2.2.2.1=cw∧r.2.2.2.2.2.2.2.2.2.2.2.2.2.2.2.2.2.2.2.2.1=ci∧r.2.2.2.2.2.2.2.2.2.2.2.2.2.2.2.2.2.2.2.2.2.1=cj∧r.2.2.2.2.2.2.2.2.2.2.2.2.2.2.2.2.2.2.2.2.2.2.1=ck∧r.2.2.2.2.2.2.2.2.2.2.2.2.2.2.2.2.2.2.2.2.2.2.2.1=cm∧r.2.2.2.2.2.2.2.2.2.2.2.2.2.2.2.2.2.2.2.2.2.2.2.2.1=dn∧r.2.2.2.2.2.2.2.2.2.2.2.2.2.2.2.2.2.2.2.2.2.2.2.2.2.1=ge∧r.2.2.2.2.2.2.2.2.2.2.2.2.2.2.2.2.2.2.2.2.2.2.2.2.2.2=gt)
@[reducible,instance] def Jpd{ct cp cw gw gx gy gz j9 ja jb jc jd gg gi gj cz d6 d7 d8 d9 da db de dg dh di cd cg ci cj ck cm dn ge gt jo}:=mkW (Qax.eq_1 N ct cp cw gw gx gy gz j9 ja jb jc jd gg gi gj cz d6 d7 d8 d9 da db de dg dh di cd cg ci cj ck cm dn ge gt jo) (Ki ct) (fun r=>r.1=ct∧r.2.1=cp∧r.2.2.1=cw∧r.2.2.2.2.2.2.2.2.2.2.2.2.2.2.2.2.2.2.2.2.2.2.2.2.2.2.2.2.2.1=ci∧r.2.2.2.2.2.2.2.2.2.2.2.2.2.2.2.2.2.2.2.2.2.2.2.2.2.2.2.2.2.2.1=cj∧r.2.2.2.2.2.2.2.2.2.2.2.2.2.2.2.2.2.2.2.2.2.2.2.2.2.2.2.2.2.2.2.1=ck∧r.2.2.2.2.2.2.2.2.2.2.2.2.2.2.2.2.2.2.2.2.2.2.2.2.2.2.2.2.2.2.2.2.1=cm∧r.2.2.2.2.2.2.2.2.2.2.2.2.2.2.2.2.2.2.2.2.2.2.2.2.2.2.2.2.2.2.2.2.2.1=dn∧r.2.2.2.2.2.2.2.2.2.2.2.2.2.2.2.2.2.2.2.2.2.2.2.2.2.2.2.2.2.2.2.2.2.2.1=ge∧r.2.2.2.2.2.2.2.2.2.2.2.2.2.2.2.2.2.2.2.2.2.2.2.2.2.2.2.2.2.2.2.2.2.2.2=gt)
@[reducible,instance] def Q9v{cx dj cq g8 g9 gk gm gn du dv dw dy dz dp g5 dx dq g6 g7 ce cd cg ci cj ck cm}:=mkW (Ed.eq_1 N cx dj cq g8 g9 gk gm gn du dv dw dy dz dp g5 dx dq g6 g7 ce cd cg ci cj ck cm) (Ki cx∧Zk cq∧sz ce≤4096∧Sh.sh ce∧sz cd≤4096∧Sh.sh cd∧sz cg≤4096∧sz ci≤4096∧Jb (fun d:Qn=>dpt d.2.1≤4096) ci) (fun r=>r.2.1=cx∧r.2.2.1=dj∧r.2.2.2.1=cq∧r.2.2.2.2.1=g8∧r.2.2.2.2.2.1=g9∧sz r.2.2.2.2.2.2.2.2.2.1≤4096∧Sh.sh r.2.2.2.2.2.2.2.2.2.1∧sz r.2.2.2.2.2.2.2.2.2.2.2.2.2.2.2.2.2.2.2.2.2.1≤4096∧Sh.sh r.2.2.2.2.2.2.2.2.2.2.2.2.2.2.2.2.2.2.2.2.2.1∧sz r.2.2.2.2.2.2.2.2.2.2.2.2.2.2.2.2.2.2.2.2.2.2.1≤4096∧sz r.2.2.2.2.2.2.2.2.2.2.2.2.2.2.2.2.2.2.2.2.2.2.2.1≤4096∧Jb (fun d:Qn=>dpt d.2.1≤4096) r.2.2.2.2.2.2.2.2.2.2.2.2.2.2.2.2.2.2.2.2.2.2.2.1∧r.2.2.2.2.2.2.2.2.2.2.2.2.2.2.2.2.2.2.2.2.2.2.2.2.1=cj∧r.2.2.2.2.2.2.2.2.2.2.2.2.2.2.2.2.2.2.2.2.2.2.2.2.2.1=ck∧r.2.2.2.2.2.2.2.2.2.2.2.2.2.2.2.2.2.2.2.2.2.2.2.2.2.2=cm) (k:=by
  intro h
  have g0:=h.1.tarL; have g1:=h.1.tarS; have g2:=h.1.tarO; have g3:=h.2.1.to_; have g4:=h.2.1.toS
  try simp only[sS,reduceCtorEq]at *
  repeat' (first | intro _ | apply And.intro)
  all_goals first | exact lv)
@[reducible,instance] def Jpe{ct cp cw dl dm gg gi gj cz d6 d7 d8 d9 da db de dg dh di cd cg ci cj ck cm dn}:=mkW (Qa0.eq_1 N ct cp cw dl dm gg gi gj cz d6 d7 d8 d9 da db de dg dh di cd cg ci cj ck cm dn) (Ki ct∧Zk cw∧sz cd≤4096∧Sh.sh cd∧sz cg≤4096∧Sh.sh cg∧sz ci≤4096∧sz cj≤4096∧Jb (fun d:Qn=>dpt d.2.1≤4096) cj) (fun r=>r.2.1=ct∧r.2.2.1=cp∧r.2.2.2.1=cw∧r.2.2.2.2.1=dl∧r.2.2.2.2.2.1=dm∧sz r.2.2.2.2.2.2.2.2.2.1≤4096∧Sh.sh r.2.2.2.2.2.2.2.2.2.1∧sz r.2.2.2.2.2.2.2.2.2.2.2.2.2.2.2.2.2.2.2.2.2.1≤4096∧Sh.sh r.2.2.2.2.2.2.2.2.2.2.2.2.2.2.2.2.2.2.2.2.2.1∧sz r.2.2.2.2.2.2.2.2.2.2.2.2.2.2.2.2.2.2.2.2.2.2.1≤4096∧sz r.2.2.2.2.2.2.2.2.2.2.2.2.2.2.2.2.2.2.2.2.2.2.2.1≤4096∧Jb (fun d:Qn=>dpt d.2.1≤4096) r.2.2.2.2.2.2.2.2.2.2.2.2.2.2.2.2.2.2.2.2.2.2.2.1∧r.2.2.2.2.2.2.2.2.2.2.2.2.2.2.2.2.2.2.2.2.2.2.2.2.1=ck∧r.2.2.2.2.2.2.2.2.2.2.2.2.2.2.2.2.2.2.2.2.2.2.2.2.2.1=cm∧r.2.2.2.2.2.2.2.2.2.2.2.2.2.2.2.2.2.2.2.2.2.2.2.2.2.2=dn)
@[reducible,instance] def Jhq{ct cp cw dl dm gg gi gj cz d6 d7 d8 d9 da db de dg dh di cd cg ci cj ck cm dn ge}:=mkW (Xh.eq_1 N ct cp cw dl dm gg gi gj cz d6 d7 d8 d9 da db de dg dh di cd cg ci cj ck cm dn ge) (Ki ct∧Zk cw∧sz cd≤4096∧Sh.sh cd∧sz cg≤4096∧Sh.sh cg∧sz ci≤4096∧sz cj≤4096∧Jb (fun d:Qn=>dpt d.2.1≤4096) cj) (fun r=>r.1=ct∧r.2.1=cp∧r.2.2.1=cw∧r.2.2.2.1=dl∧r.2.2.2.2.1=dm∧sz r.2.2.2.2.2.2.2.2.1≤4096∧Sh.sh r.2.2.2.2.2.2.2.2.1∧sz r.2.2.2.2.2.2.2.2.2.2.2.2.2.2.2.2.2.2.2.2.2.1≤4096∧Sh.sh r.2.2.2.2.2.2.2.2.2.2.2.2.2.2.2.2.2.2.2.2.2.1∧sz r.2.2.2.2.2.2.2.2.2.2.2.2.2.2.2.2.2.2.2.2.2.2.1≤4096∧sz r.2.2.2.2.2.2.2.2.2.2.2.2.2.2.2.2.2.2.2.2.2.2.2.1≤4096∧Jb (fun d:Qn=>dpt d.2.1≤4096) r.2.2.2.2.2.2.2.2.2.2.2.2.2.2.2.2.2.2.2.2.2.2.2.1∧r.2.2.2.2.2.2.2.2.2.2.2.2.2.2.2.2.2.2.2.2.2.2.2.2.1=ck∧r.2.2.2.2.2.2.2.2.2.2.2.2.2.2.2.2.2.2.2.2.2.2.2.2.2.1=cm∧r.2.2.2.2.2.2.2.2.2.2.2.2.2.2.2.2.2.2.2.2.2.2.2.2.2.2=dn)
@[reducible,instance] def Jf7{cx dj cq g8 g9 gk gm gn gq du dv dw dy dz dp g5 dx dq g6 g7 ce cd cg ci cj ck}:=mkW (B4.eq_1 N cx dj cq g8 g9 gk gm gn gq du dv dw dy dz dp g5 dx dq g6 g7 ce cd cg ci cj ck) (Ki cx∧Zk cq∧dj.1.length≤900000000000∧sz dj.1≤1000000000000∧dj.2.1.length≤1000000000∧dj.2.2.length≤1000000000) (fun r=>r.1=cx∧r.2.1=cq∧r.2.2.1=g8∧r.2.2.2.1=g9∧r.2.2.2.2.1=gk∧r.2.2.2.2.2.1=gm∧r.2.2.2.2.2.2.1=gn∧r.2.2.2.2.2.2.2.1=gq∧r.2.2.2.2.2.2.2.2.2.2.2.2.2.2.2.2.2.2.2.2.2.2.1=ce∧r.2.2.2.2.2.2.2.2.2.2.2.2.2.2.2.2.2.2.2.2.2.2.2.1=cd∧r.2.2.2.2.2.2.2.2.2.2.2.2.2.2.2.2.2.2.2.2.2.2.2.2.1=cg∧r.2.2.2.2.2.2.2.2.2.2.2.2.2.2.2.2.2.2.2.1.length≤dj.1.length+7604273152∧sz r.2.2.2.2.2.2.2.2.2.2.2.2.2.2.2.2.2.2.2.1≤1000000000000∧r.2.2.2.2.2.2.2.2.2.2.2.2.2.2.2.2.2.2.2.2.1.length≤dj.2.1.length+1∧r.2.2.2.2.2.2.2.2.2.2.2.2.2.2.2.2.2.2.2.2.2.1=dj.2.2∧r.2.2.2.2.2.2.2.2.2.2.2.2.2.2.2.2.2.2.2.2.2.2.2.2.2.1.length≤1000000000000∧r.2.2.2.2.2.2.2.2.2.2.2.2.2.2.2.2.2.2.2.2.2.2.2.2.2.2.1=cj∧r.2.2.2.2.2.2.2.2.2.2.2.2.2.2.2.2.2.2.2.2.2.2.2.2.2.2.2=ck) (k:=by
  intro h
  have g0:=h.1.ev; have g1:=h.1.prodL; have g2:=h.1.prodS; have g3:=h.1.prodO; have g4:=h.2.1.start
  try simp only[sS,reduceCtorEq]at *
  repeat' (first | intro _ | apply And.intro)
  all_goals first | exact lv)
@[reducible,instance] def Jf8{cx cq g8 g9 gk gm gn gq du dv dw dy dz dp g5 dx dq g6 g7 ce cd cg ci cj ck cm dn ge}:=mkW (B6.eq_1 N cx cq g8 g9 gk gm gn gq du dv dw dy dz dp g5 dx dq g6 g7 ce cd cg ci cj ck cm dn ge) (Ki cx∧Zk cq∧sz gq≤4096∧Sh.sh gq∧sz ci≤4096∧Sh.sh ci∧sz cj≤4096∧sz ck≤4096∧Jb (fun d:Qn=>dpt d.2.1≤4096) ck∧dn.length≤17301537) (fun r=>r.2.1=cx∧r.2.2.1=cq∧r.2.2.2.1=g8∧r.2.2.2.2.1=g9∧r.2.2.2.2.2.1=(gk,gm,gn,gq,ci,cj,ck)∧r.2.2.2.2.2.2.2.2.2.2.2.2.2.2.2.2.2.1=ce∧r.2.2.2.2.2.2.2.2.2.2.2.2.2.2.2.2.2.2.1=cd∧r.2.2.2.2.2.2.2.2.2.2.2.2.2.2.2.2.2.2.2.1=cg∧r.2.2.2.2.2.2.2.2.2.2.2.2.2.2.2.2.2.2.2.2.1=cm∧r.2.2.2.2.2.2.2.2.2.2.2.2.2.2.2.2.2.2.2.2.2.1.length≤17301537∧r.2.2.2.2.2.2.2.2.2.2.2.2.2.2.2.2.2.2.2.2.2.2=ge) (k:=by
  intro h
  have g0:=h.1.hol; have g1:=h.2.1.to_; have g2:=h.2.1.toS
  try simp only[sS,reduceCtorEq]at *
  repeat' (first | intro _ | apply And.intro)
  all_goals first | exact lv)
@[reducible,instance] def Jpf{ct cp cw dl dm gg gi gj gr cz d6 d7 d8 d9 da db de dg dh di cd cg ci cj ck cm}:=mkW (Qa8.eq_1 N ct cp cw dl dm gg gi gj gr cz d6 d7 d8 d9 da db de dg dh di cd cg ci cj ck cm) (Ki ct∧Zk cw∧cp.1.length≤900000000000∧sz cp.1≤1000000000000∧cp.2.1.length≤1000000000∧cp.2.2.length≤1000000000∧sz gr≤4096∧Sh.sh gr∧sz cd≤4096∧Sh.sh cd∧sz cg≤4096∧sz ci≤4096∧Jb (fun d:Qn=>dpt d.2.1≤4096) ci∧cj.length≤1000000000000∧ck.length≤17301537) (fun r=>r.2.1=ct∧r.2.2.1=cw∧r.2.2.2.1=dl∧r.2.2.2.2.1=dm∧r.2.2.2.2.2.1=(gg,gi,gj,gr,cd,cg,ci)∧r.2.2.2.2.2.2.2.2.2.2.2.2.2.2.2.2.2.1.length≤cp.1.length+7604273152∧sz r.2.2.2.2.2.2.2.2.2.2.2.2.2.2.2.2.2.1≤1000000000000∧r.2.2.2.2.2.2.2.2.2.2.2.2.2.2.2.2.2.2.1.length≤cp.2.1.length+1∧r.2.2.2.2.2.2.2.2.2.2.2.2.2.2.2.2.2.2.2.1=cp.2.2∧r.2.2.2.2.2.2.2.2.2.2.2.2.2.2.2.2.2.2.2.2.1.length≤1000000000000∧r.2.2.2.2.2.2.2.2.2.2.2.2.2.2.2.2.2.2.2.2.2.1.length≤17301537∧r.2.2.2.2.2.2.2.2.2.2.2.2.2.2.2.2.2.2.2.2.2.2=cm)
@[reducible,instance] def Jhr{ct cp cw dl dm gg gi gj gr cz d6 d7 d8 d9 da db de dg dh di cd cg ci cj ck cm dn}:=mkW (Zl.eq_1 N ct cp cw dl dm gg gi gj gr cz d6 d7 d8 d9 da db de dg dh di cd cg ci cj ck cm dn) (Ki ct∧Zk cw∧cp.1.length≤900000000000∧sz cp.1≤1000000000000∧cp.2.1.length≤1000000000∧cp.2.2.length≤1000000000∧sz gr≤4096∧Sh.sh gr∧sz cd≤4096∧Sh.sh cd∧sz cg≤4096∧sz ci≤4096∧Jb (fun d:Qn=>dpt d.2.1≤4096) ci∧cj.length≤1000000000000∧ck.length≤17301537) (fun r=>r.1=ct∧r.2.2.2.2.1=cw∧r.2.2.2.2.2.1=dl∧r.2.2.2.2.2.2.1=dm∧sz r.2.2.2.2.2.2.2.2.2.2.1≤4096∧Sh.sh r.2.2.2.2.2.2.2.2.2.2.1∧sz r.2.2.2.2.2.2.2.2.2.2.2.1≤4096∧Sh.sh r.2.2.2.2.2.2.2.2.2.2.2.1∧sz r.2.2.2.2.2.2.2.2.2.2.2.2.1≤4096∧sz r.2.2.2.2.2.2.2.2.2.2.2.2.2.1≤4096∧Jb (fun d:Qn=>dpt d.2.1≤4096) r.2.2.2.2.2.2.2.2.2.2.2.2.2.1∧r.2.1.length≤cp.1.length+7604273152∧sz r.2.1≤1000000000000∧r.2.2.1.length≤cp.2.1.length+1∧r.2.2.2.1=cp.2.2∧r.2.2.2.2.2.2.2.2.2.2.2.2.2.2.2.2.2.2.2.2.2.2.2.2.2.2.1.length≤1000000000000∧r.2.2.2.2.2.2.2.2.2.2.2.2.2.2.2.2.2.2.2.2.2.2.2.2.2.2.2.1.length≤17301537∧r.2.2.2.2.2.2.2.2.2.2.2.2.2.2.2.2.2.2.2.2.2.2.2.2.2.2.2.2=cm)
@[reducible,instance] def Q9w{x0}:=mkW (Wb.eq_1 N x0) (True) (fun r=>((x0=1∨x0=2∨x0=3)∧r=0)∨(x0=4∧r=1)∨(4<x0∧x0<16∧r=2)∨r = -1)
def atr(x:Str):Int:=(Yh 0 x).getD 0
theorem Jl9{N:Nat}(x:Str):Yh N x=some (atr x):=by
 have h:∃r,Yh 0 x=some r:=by
  obtain⟨r,e,_⟩:=(mkW (Yh.eq_1 0 x) True (fun r=>True)).spec (fun _=>True) ⟨trivial,fun _ _=>trivial⟩
  exact⟨r,e⟩
 obtain⟨r,e⟩:=h
 unfold atr
 rw[e,XQ,←e,Yh.eq_1,Yh.eq_1]
@[reducible,instance] def Q7f{x0:Str}:WP (Yh N x0) (fun R=>True∧∀r:Int,r=atr x0→R r):=Lr fun _=>⟨_,Jl9 x0,rfl⟩
@[reducible,instance] def Q9x{x0 x1}:=mkW (If.eq_1 N x0 x1) (x1.length=2) (fun r=>r.2=0→∃k0 k1,x1[0]?=some k0∧x1[1]?=some k1∧((x0=4∧k0=3∧r.1=3)∨((x0=5∨x0=6)∧k0=3∧k1=3∧r.1=3)∨((x0=7∨x0=8)∧k0=k1∧k0≠3∧r.1=3)∨((x0=9∨x0=10)∧k0=1∧k1=1∧r.1=3)∨(¬ (4≤x0∧x0≤10)∧k0=1∧k1=1∧r.1=1)))
def Um:Nat→Ql→Int→Prop
 | 0,_,_=>False
 | n+1,e,k =>
  (e.x.1=1∧e.ks.length=0∧k=1)∨(e.x.1=2∧e.ks.length=0∧List.length e.x.2.2≤200∧k=2)∨(e.x.1=3∧e.ks.length=0∧k=atr e.x.2.2∧k≠0) ∨
  (4≤e.x.1∧e.x.1<16∧∃k0 k1,(∀a,e.ks[0]?=some a→Um n a k0)∧(∀a,e.ks[1]?=some a→Um n a k1) ∧
   ((e.x.1=4∧e.ks.length=1∧k0=3∧k=3)∨(e.ks.length=2∧(((e.x.1=5∨e.x.1=6)∧k0=3∧k1=3∧k=3)∨((e.x.1=7∨e.x.1=8)∧k0=k1∧k0≠3∧k=3)∨((e.x.1=9∨e.x.1=10)∧k0=1∧k1=1∧k=3)∨(10<e.x.1∧k0=1∧k1=1∧k=1)))))
structure Qe3(n:Nat)(ks:List Ql)(l:List Int)(i:Int):Prop where
 at_:∀j:Nat,(j:Int)<i→∀a k,ks[j]?=some a→l[j]?=some k→Um n a k
theorem Jma{n:Nat}{e:Ql}{l:List Int}{r:Int}(h1:(e.x.1=4∧e.ks.length=1)∨(4<e.x.1∧e.x.1<16∧e.ks.length=2))(hk:Qe3 n e.ks l e.ks.length)
  (hc:∃k0 k1,l[0]?=some k0∧l[1]?=some k1∧((e.x.1=4∧k0=3∧r=3)∨((e.x.1=5∨e.x.1=6)∧k0=3∧k1=3∧r=3)∨((e.x.1=7∨e.x.1=8)∧k0=k1∧k0≠3∧r=3)∨((e.x.1=9∨e.x.1=10)∧k0=1∧k1=1∧r=3)∨((4≤e.x.1→¬ e.x.1≤10)∧k0=1∧k1=1∧r=1))):Um (n+1) e r:=by
 obtain⟨k0,k1,e0,e1,h⟩:=hc
 rw[Um]
 refine .inr (.inr (.inr ⟨by clear hk h; omega,by clear hk h; omega,k0,k1,fun a ha=>hk.at_ 0 (by clear h; omega) a k0 ha e0,fun a ha=>hk.at_ 1 ?_ a k1 ha e1,?_⟩))
 ·have:=(List.getElem?_eq_some_iff.1 ha).1
  omega
 ·rcases h with h | h | h | h | h
  ·exact .inl ⟨h.1,by omega,h.2.1,h.2.2⟩
  ·exact .inr ⟨by omega,.inl h⟩
  ·exact .inr ⟨by omega,.inr (.inl h)⟩
  ·exact .inr ⟨by omega,.inr (.inr (.inl h))⟩
  ·exact .inr ⟨by omega,.inr (.inr (.inr ⟨by omega,h.2.1,h.2.2.1,h.2.2.2⟩))⟩
theorem Jf9{n:Nat}{ks:List Ql}{l:List Int}:Qe3 n ks l 0:=⟨fun j h=>by omega⟩
theorem Jga{n:Nat}{ks:List Ql}{l:List Int}{i k:Int}{x:Ql}(h:Qe3 n ks l i)(h0:0≤i)(hx:ks[i.toNat]?=some x)(t:Um n x k):Qe3 n ks (l.set i.toNat k) (i+1):=⟨fun j hj a k' ha hk=>by
 by_cases e:j=i.toNat
 ·subst e
  rw[hx]at ha
  rw[List.getElem?_set_self']at hk
  cases hl:l[i.toNat]? with
  | none=>rw[hl]at hk; cases hk
  | some y =>
   rw[hl]at hk
   simp only[Option.map_eq_map,XN,Function.const_apply,Option.some.injEq]at hk ha
   rw[←hk,←ha]; exact t
 ·rw[List.getElem?_set_ne (by omega)]at hk
  exact h.at_ j (by omega) a k' ha hk⟩
theorem Jmb{n:Nat}{ks:List Ql}{l:List Int}{i j:Int}(h:Qe3 n ks l i)(hle:j≤i):Qe3 n ks l j:=⟨fun m hm=>h.at_ m (by omega)⟩
theorem T2{N:Nat}[Y2 N]:∀(n:Nat) (e:Ql) (d:Int),1≤d→d≤17→18≤n+d→sz e≤4096→W (Uw N n e d) fun r=>r.2=0→Um n e r.1
 | 0,e,d,h0,h1,h2,h3=>by omega
 | n+1,e,d,h0,h1,h2,h3=>by
  unfold Uw
  by_cases hd:d>16
  ·rw[if_pos (by simpa using hd)]
   exact⟨_,rfl,fun h=>absurd h (by decide)⟩
  ·rw[if_neg (by simpa using hd)]
   have hw:IntKind.wrap .i64 (d+1)=d+1:=Q0 (by omega) (by omega)
   have ih:∀x:Ql,WP (Uw N n x (IntKind.wrap .i64 (d+1))) (fun R=>sz x≤4096∧∀r:Int×Int,(r.2=0→Um n x r.1)→R r):=fun x=>Lr fun h=>by rw[hw]; exact T2 n x (d+1) (by omega) (by omega) (by omega) h
   have hk:=Qik (e:=e)
   have hlen:=Zb (l:=e.ks)
   have loop:=fun s:Int×List Int=>upL (N:=N) (s:=s) (Qca.eq_def N (Uw N n) e d) (fun s=>s.1) e.ks.length (fun s=>sz e.ks≤4096∧e.ks.length≤2∧s.2.length=2∧Qe3 n e.ks s.2 s.1) (fun r:List Int⊕(Int×Int)=>(∀a,r=.inl a→a.length=2∧Qe3 n e.ks a e.ks.length)∧∀a,r=.inr a→a.2≠0) (step:=by
    intro s h h0 h1 h2 hw
    try simp only[sS,reduceCtorEq]at *
    repeat' (first | intro _ | apply And.intro)
    all_goals first | assumption | omega | (rw[hw (by assumption)]; exact Jga h.2.2.2 h0 (by assumption) (by grind)) | exact Jmb h.2.2.2 (by omega) | grind)
   refine wp ?_
   try simp only[sS,reduceCtorEq]at *
   repeat' (first | intro _ | apply And.intro)
   all_goals first | assumption | omega | exact Jf9 | exact ZD | (rename_i h5 _ h6 h7; exact Jma (by clear h6 h7 h5; omega) h5.2 (h6 h7)) | (rw[Um]; exact .inl ⟨by assumption,by omega,rfl⟩) | (rw[Um]; exact .inr (.inl ⟨by assumption,by omega,by omega,rfl⟩)) | (rw[Um]; exact .inr (.inr (.inl ⟨by assumption,by omega,rfl,by assumption⟩)))
@[reducible,instance] def Jmc{N:Nat}[hN:Y2 N]{x0:Ql}{x1:Int}:WP (Qa9 N x0 x1) (fun R=>(sz x0≤4096∧x1=1)∧∀r:Int×Int,(r.2=0→Um N x0 r.1)→R r):=Lr (by
  intro h
  have:=hN.le
  rw[h.2]
  exact T2 N x0 1 (by omega) (by omega) (by omega) h.1)
@[reducible,instance] def Qtt{x0}:=mkW (Ei.eq_1 N x0) (sz x0≤4096) (fun r=>r.2=0→Um N x0 r.1)
@[reducible,instance] def Jsp{x0 x1}:=mkW (Qfq.eq_1 N x0 x1) (True) (fun r=>True)
@[reducible,instance] def Jni{x0}:=mkW (A4.eq_1 N x0) (True) (fun r=>r.2=true → -4611686018427387904≤r.1∧r.1≤4611686018427387904)
@[reducible,instance] def Jgb{x0 x1}:=mkW (Or.eq_1 N x0 x1) (True) (fun r=>True)
theorem Qpu{N:Nat}[Y2 N]{self:Ql→Us→Option (Int×Bool)}{i:Int}{e:Ql}{v:Us}{P:Ql→Prop}{Q:Int×Bool→Prop}(ih:∀x,P x→W (self x v) Q)(h:∀a,e.ks[i.toNat]?=some a→P a)(h0:0≤i)(h1:i<e.ks.length):W (Gm N self i e v) Q:=by
 rw[Gm.eq_1]
 have hl:i.toNat<e.ks.length:=by omega
 have he:idx e.ks i=some e.ks[i.toNat]:=by unfold idx; rw[if_pos h0,List.getElem?_eq_getElem hl]
 obtain⟨r,er,hr⟩:=ih _ (h _ (List.getElem?_eq_getElem hl))
 rw[he]
 show W ((self e.ks[i.toNat] v).bind _) _
 rw[er]
 exact⟨_,rfl,hr⟩
@[reducible,instance] def Jt7{x0:Int}{x1:Int}:WP (Qj2 N x0 x1) (fun R=>((-4611686018427387904≤x0∧x0≤4611686018427387904) ∧ -4611686018427387904≤x1∧x1≤4611686018427387904)∧∀r:Int×Bool,(r.2=true → -4611686018427387904≤r.1∧r.1≤4611686018427387904)→R r):=Lr (by
  rintro⟨h0,h1⟩
  unfold Qj2
  rcases JY x1 0 with h | h | h
  ·rw[Q0 (n := -4611686018427387904 - x1) (by omega) (by omega)]
   refine wp ?_
   simp only[ss,JU,QJ,decide_eq_true_eq]
   refine⟨fun _ h=>absurd h (by decide),fun hc _=>?_⟩
   rw[Q0 (by omega) (by omega)]; omega
  ·subst h
   refine wp ?_
   refine⟨fun _ h=>absurd h (by decide),fun hc _=>?_⟩
   simp only[Int.add_zero]
   rw[Q0 (by omega) (by omega)]; exact h0
  ·rw[Q0 (n:=4611686018427387904 - x1) (by omega) (by omega)]
   refine wp ?_
   simp only[ss,JU,QJ,decide_eq_true_eq]
   refine⟨fun _ h=>absurd h (by decide),fun hc _=>?_⟩
   rw[Q0 (by omega) (by omega)]; omega)
theorem Jpg{a b:Int}(ha : -4611686018427387904≤a∧a≤4611686018427387904)(hb : -4611686018427387904≤b∧b≤4611686018427387904)(h0:b≠0)(hq:(if 0 - a>a then 0 - a else a)≤(4611686018427387904:Int).tdiv (if 0 - b>b then 0 - b else b)) : -4611686018427387904≤a*b∧a*b≤4611686018427387904:=by
 generalize hA:(if 0 - a>a then 0 - a else a)=A at hq
 generalize hB:(if 0 - b>b then 0 - b else b)=B at hq
 have h1:0≤A∧(A=a∨A = -a):=by split at hA<;>omega
 have h2:0<B∧(B=b∨B = -b):=by split at hB<;>omega
 rw[QF (by omega)]at hq
 have h3:A*B≤4611686018427387904:=by
  have:=ZN hq (Int.le_of_lt h2.1)
  exact Int.le_trans this (Int.ediv_mul_le _ (by omega))
 have h4:0≤A*B:=Int.mul_nonneg h1.1 (Int.le_of_lt h2.1)
 rcases h1.2 with e1 | e1<;>rcases h2.2 with e2 | e2<;>subst e1 e2<;>(try simp only[Int.neg_mul,Int.mul_neg,Int.neg_neg]at h3 h4)<;>omega
@[reducible,instance] def Jmd{x0:Int}{x1:Int}:WP (M8 N x0 x1) (fun R=>((-4611686018427387904≤x0∧x0≤4611686018427387904) ∧ -4611686018427387904≤x1∧x1≤4611686018427387904)∧∀r:Int×Bool,(r.2=true → -4611686018427387904≤r.1∧r.1≤4611686018427387904)→R r):=Lr (by
  rintro⟨h0,h1⟩
  unfold M8
  rw[Q0 (n:=0 - x0) (by omega) (by omega),Q0 (n:=0 - x1) (by omega) (by omega)]
  by_cases hz:((x0==0)||(x1==0))=true
  ·rw[if_pos hz]; exact⟨_,rfl,fun _=>by decide⟩
  ·rw[if_neg hz]
   have hz0:x1≠0:=fun e=>hz (by rw[e]; simp)
   refine wp ?_
   have hB:(if 0 - x1>x1 then 0 - x1 else x1)≠0∧1≤(if 0 - x1>x1 then 0 - x1 else x1):=by split<;>omega
   refine⟨hB.1,?_⟩
   have hq:(4611686018427387904:Int).tdiv (if 0 - x1>x1 then 0 - x1 else x1)≤4611686018427387904∧0≤(4611686018427387904:Int).tdiv (if 0 - x1>x1 then 0 - x1 else x1):=by
    rw[QF (by omega)]
    exact⟨Int.ediv_le_self _ (by omega),Int.ediv_nonneg (by omega) (by omega)⟩
   rw[Q0 (n:=(4611686018427387904:Int).tdiv (if 0 - x1>x1 then 0 - x1 else x1)) (by omega) (by omega)]
   refine⟨fun _ h=>absurd h (by decide),fun hle _=>?_⟩
   have:=Jpg h0 h1 hz0 (Int.not_lt.1 fun hgt=>hle (decide_eq_true hgt))
   rw[Q0 (n:=x0*x1) (by omega) (by omega)]
   exact this)
end Gx
