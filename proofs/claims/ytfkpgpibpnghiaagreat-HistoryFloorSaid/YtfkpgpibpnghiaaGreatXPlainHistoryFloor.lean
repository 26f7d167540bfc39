/- The plain laws for HistoryFloor. -/
import Derived.Test.YtfkpgpibpnghiaaGreatXFns
import Derived.Test.YtfkpgpibpnghiaaGreatGRows
import Derived.Lib.RowBridge
import Derived.Test.YtfkpgpibpnghiaaGreatXRl
import Derived.KernelRfl
namespace Gx
open Go Gd
set_option linter.unusedVariables false
set_option linter.unusedSimpArgs false
theorem T9{α:Type}{l:List α}{i:Nat}(h:i<l.length):idx l (i:Int)=some l[i]:=Jit (List.getElem?_eq_getElem h)
theorem Jgw(a b:Nat):((max a b:Nat):Int)=max (a:Int) (b:Int):=by omega
def W{α:Type}(o:Option α)(R:α→Prop):Prop:=∃r,o=some r∧R r
class WP{α:Type}(o:Option α)(T:outParam ((α→Prop)→Prop)):Prop where
 spec:∀R,T R→W o R
class WPf{α β:Type}(f:α→Option β)(T:outParam (α→(β→Prop)→Prop)):Prop where
 spec:∀a R,T a R→W (f a) R
theorem wp{α:Type}{o:Option α}{T:(α→Prop)→Prop}[h:WP o T]{R:α→Prop}(k:T R):W o R:=h.spec R k
theorem W.mono{α:Type}{o:Option α}{R S:α→Prop}(h:W o R)(k:∀r,R r→S r):W o S:=let⟨r,e,hr⟩:=h; ⟨r,e,k r hr⟩
theorem Dm{α:Type}{o:Option α}{P:Prop}{Q:α→Prop}(h:P→W o Q):WP o (fun R=>P∧∀r,Q r→R r):=⟨fun R k=>(h k.1).mono k.2⟩
instance wpSome {α:Type} (a:α):WP (some a) (fun R=>R a):=⟨fun R h=>⟨a,rfl,h⟩⟩
instance wpNone {α:Type}:WP (none:Option α) (fun _=>False):=⟨fun _ h=>h.elim⟩
instance wpIte {α:Type} {c:Prop} [Decidable c] {a b:Option α} {A B:(α→Prop)→Prop} [ha:WP a A] [hb:WP b B]:WP (if c then a else b) (fun R=>(c→A R)∧(¬ c→B R)):=⟨fun R h=>by
 split
 ·rename_i hc; exact ha.spec R (h.1 hc)
 ·rename_i hc; exact hb.spec R (h.2 hc)⟩
instance wpBind {α β:Type} {o:Option α} {f:α→Option β} {A:(α→Prop)→Prop} {B:α→(β→Prop)→Prop} [ha:WP o A] [hb:WPf f B]:WP (o.bind f) (fun R=>A fun r=>B r R):=⟨fun R h=>by
 obtain⟨r,e,hr⟩:=ha.spec _ h
 rw[e]; exact hb.spec r R hr⟩
instance (priority:=1100) wpAnd {β:Type} {c:Prop} [Decidable c] {a:Option Bool} {f:Bool→Option β} {A:(Bool→Prop)→Prop} {B C:(β→Prop)→Prop} [ha:WP a A] [hb:WP (f true) B] [hc:WP (f false) C] :
  WP ((if c then a else some false).bind f) (fun R=>(c→A fun b=>b=true→B R)∧(c→A fun _=>True)∧C R):=⟨fun R h=>by
 by_cases h0:c
 ·rw[if_pos h0]
  obtain⟨r,e,hr⟩:=ha.spec _ (h.1 h0)
  rw[e]
  cases r with
  | true=>exact hb.spec R (hr rfl)
  | false=>exact hc.spec R h.2.2
 ·rw[if_neg h0]; exact hc.spec R h.2.2⟩
instance (priority:=1100) wpOr {β:Type} {c:Prop} [Decidable c] {a:Option Bool} {f:Bool→Option β} {A:(Bool→Prop)→Prop} {B C:(β→Prop)→Prop} [ha:WP a A] [hb:WP (f true) B] [hc:WP (f false) C] :
  WP ((if c then some true else a).bind f) (fun R=>(¬ c→A fun b=>b=false→C R)∧(¬ c→A fun _=>True)∧B R):=⟨fun R h=>by
 by_cases h0:c
 ·rw[if_pos h0]; exact hb.spec R h.2.2
 ·rw[if_neg h0]
  obtain⟨r,e,hr⟩:=ha.spec _ (h.1 h0)
  rw[e]
  cases r with
  | true=>exact hb.spec R h.2.2
  | false=>exact hc.spec R (hr rfl)⟩
instance (priority:=1200) wpBindT {α β:Type} {a b:Option α} {f:α→Option β} {A:(β→Prop)→Prop} [ha:WP (a.bind f) A]:WP ((if true=true then a else b).bind f) A:=⟨fun R h=>by rw [if_pos rfl]; exact ha.spec R h⟩
instance (priority:=1200) wpBindF {α β:Type} {a b:Option α} {f:α→Option β} {A:(β→Prop)→Prop} [ha:WP (b.bind f) A]:WP ((if false=true then a else b).bind f) A:=⟨fun R h=>by rw [if_neg (by decide)]; exact ha.spec R h⟩
instance (priority:=1200) wpIteT {α:Type} {a b:Option α} {A:(α→Prop)→Prop} [ha:WP a A]:WP (if true=true then a else b) A:=⟨fun R h=>by rw [if_pos rfl]; exact ha.spec R h⟩
instance (priority:=1200) wpIteF {α:Type} {a b:Option α} {A:(α→Prop)→Prop} [ha:WP b A]:WP (if false=true then a else b) A:=⟨fun R h=>by rw [if_neg (by decide)]; exact ha.spec R h⟩
instance (priority:=1000) wpfVar {α β:Type} {f:α→Option β} {T:α→(β→Prop)→Prop} [h:∀a,WP (f a) (T a)]:WPf f T:=⟨fun a R k=>(h a).spec R k⟩
instance (priority:=900) wpfSum {α β γ:Type} {f:α⊕β→Option γ} {A:α→(γ→Prop)→Prop} {B:β→(γ→Prop)→Prop} [ha:WPf (fun a=>f (.inl a)) A] [hb:WPf (fun b=>f (.inr b)) B] :
  WPf f (fun s R=>(∀a,s=.inl a→A a R)∧(∀b,s=.inr b→B b R)):=⟨fun s R k=>by
 cases s with
 | inl a=>exact ha.spec a R (k.1 a rfl)
 | inr b=>exact hb.spec b R (k.2 b rfl)⟩
instance (priority:=850) wpfPairSum {α β γ δ:Type} {f:(α⊕β)×γ→Option δ} {A:α→γ→(δ→Prop)→Prop} {B:β→γ→(δ→Prop)→Prop} [ha:∀a,WPf (fun c=>f (.inl a,c)) (A a)] [hb:∀b,WPf (fun c=>f (.inr b,c)) (B b)] :
  WPf f (fun p R=>(∀a,p.1=.inl a→A a p.2 R)∧(∀b,p.1=.inr b→B b p.2 R)):=⟨fun p R k=>by
 obtain⟨s,c⟩:=p
 cases s with
 | inl a=>exact(ha a).spec c R (k.1 a rfl)
 | inr b=>exact(hb b).spec c R (k.2 b rfl)⟩
instance (priority:=800) wpfPair {α β γ:Type} {f:α×β→Option γ} {A:α→β→(γ→Prop)→Prop} [h:∀a,WPf (fun b=>f (a,b)) (A a)]:WPf f (fun p R=>A p.1 p.2 R):=⟨fun p R k=>(h p.1).spec p.2 R k⟩
class Sz(α:Type) where
 sz:α→Nat
open Sz
instance:Sz Int:=⟨fun _=>0⟩
instance:Sz Bool:=⟨fun _=>0⟩
instance:Sz Unit:=⟨fun _=>0⟩
instance {α β:Type} [Sz α] [Sz β]:Sz (α×β):=⟨fun p=>max (sz p.1) (sz p.2)⟩
instance {α β:Type} [Sz α] [Sz β]:Sz (α⊕β):=⟨fun p=>match p with | .inl a=>sz a | .inr b=>sz b⟩
def szL{α:Type}[Sz α]:List α→Nat
 | []=>0
 | x::l=>max (sz x) (szL l)
instance {α:Type} [Sz α]:Sz (List α):=⟨fun l=>max l.length (szL l)⟩
instance (priority:=2000) szStr:Sz (List UInt8):=⟨fun _=>0⟩
mutual
def rsz{α:Type}:Ke α→Nat
 | .mk _ ks=>max ks.length (Q44 ks)
def Q44{α:Type}:List (Ke α)→Nat
 | []=>0
 | x::l=>max (rsz x) (Q44 l)
end
instance {α:Type}:Sz (Ke α):=⟨rsz⟩
theorem Jgx(x:Int):sz x=0:=rfl
section
variable {α β:Type} [Sz α] [Sz β]
theorem Qn3(p:α×β):sz p=max (sz p.1) (sz p.2):=rfl
theorem Kt{l:List α}:l.length≤sz l:=Nat.le_max_left _ _
theorem Jon{l:List α}:szL l≤sz l:=Nat.le_max_right _ _
theorem Q8g:∀{l:List α} {x:α},x∈l→sz x≤szL l
 | y::l,x,h=>by
  rcases QJ.1 h with rfl | h
  ·exact Nat.le_max_left _ _
  ·exact Nat.le_trans (Q8g h) (Nat.le_max_right _ _)
theorem Qrf{l:List α}{x:α}(h:x∈l):sz x≤sz l:=Nat.le_trans (Q8g h) Jon
theorem Qrg{K:Nat}:∀{l:List α},(∀x∈l,sz x≤K)→szL l≤K
 | [],_=>QM _
 | x::l,h=>XN.2 ⟨h x (.head _),Qrg fun y hy=>h y (.tail _ hy)⟩
theorem Jnc{K:Nat}{l:List α}(hl:l.length≤K)(h:∀x∈l,sz x≤K):sz l≤K:=XN.2 ⟨hl,Qrg h⟩
theorem Q45{l m:List α}(hl:l.length≤m.length)(h:∀x∈l,x∈m):sz l≤sz m:=Jnc (Nat.le_trans hl Kt) fun x hx=>Qrf (h x hx)
theorem Jgy:sz ([]:List α)=0:=rfl
theorem Qrh:∀l m:List α,szL (l++m)=max (szL l) (szL m)
 | [],m=>by simp[szL]
 | x::l,m=>by simp only[QA,szL,Qrh l m]; omega
theorem Ja9(l m:List α):sz (l++m)=max (l.length+m.length) (max (sz l) (sz m)):=by
 show max (l++m).length (szL (l++m))=max _ (max (max l.length (szL l)) (max m.length (szL m)))
 rw[List.length_append,Qrh]; omega
theorem Qaa(x:α)(l:List α):sz (x::l)=max (l.length+1) (max (sz x) (sz l)):=by
 show max (l.length+1) (max (sz x) (szL l))=max _ (max _ (max l.length (szL l)))
 omega
theorem Q8h:∀(l:List α) (i:Nat) (x:α),szL (l.set i x)≤max (szL l) (sz x)
 | [],i,x=>QM _
 | y::l,0,x=>by simp only[XL,szL]; omega
 | y::l,i+1,x=>by
  have:=Q8h l i x
  simp only[List.set_cons_succ,szL]; omega
theorem Qab(l:List α)(i:Nat)(x:α):sz (l.set i x)≤max (sz l) (sz x):=by
 have h1:=Q8h l i x
 show max (l.set i x).length (szL (l.set i x))≤max (max l.length (szL l)) (sz x)
 rw[List.length_set]; omega
theorem Qgz{α:Type}{e:Ke α}:sz e.ks≤sz e:=by
 have:∀l:List (Ke α),szL l=Q44 l:=fun l=>by
  induction l with
  | nil=>rfl
  | cons x l ih=>simp only[szL,Q44,ih]; rfl
 cases e with
 | mk x ks =>
  show max ks.length (szL ks)≤rsz (.mk x ks)
  rw[this]; simp only[rsz]; exact QY _
end
class Qdo(α:Type)[Sz α]:Prop where
 flat:∀x:α,sz x=0
instance:Qdo Int:=⟨fun _=>rfl⟩
instance:Qdo Bool:=⟨fun _=>rfl⟩
instance (priority:=2000):Qdo (List UInt8):=⟨fun _=>rfl⟩
instance {α β:Type} [Sz α] [Sz β] [ha:Qdo α] [hb:Qdo β]:Qdo (α×β):=⟨fun x=>by rw [Qn3,ha.flat,hb.flat]; rfl⟩
theorem Jj1{α:Type}[Sz α][h:Qdo α](l:List α):sz l=l.length:=by
 have:szL l≤0:=Qrg fun x _=>Nat.le_of_eq (h.flat x)
 show max l.length (szL l)=l.length
 omega
structure Qfj{α:Type}(P:α→Prop)(l:List α)(v:Int):Prop where
 at_:∀j:Nat,(j:Int)<v→∀a,l[j]?=some a→P a
theorem Qac{α:Type}{P:α→Prop}{l:List α}:Qfj P l 0:=⟨fun j h=>by omega⟩
theorem Nb{α:Type}{P:α→Prop}{l:List α}{v:Int}{x:α}(h0:0≤v)(h:Qfj P l v)(hx:l[v.toNat]?=some x)(px:P x):Qfj P l (v+1):=⟨fun j hj a ha=>by
 by_cases hjv:(j:Int)<v
 ·exact h.at_ j hjv a ha
 ·have:j=v.toNat:=by omega
  subst this; rw[hx]at ha; exact Option.some.inj ha▸px⟩
theorem Sf{α:Type}{P:α→Prop}{l:List α}{v:Int}(h:Qfj P l v)(hl:l.length≤v):∀a∈l,P a:=fun a ha=>by
 obtain⟨i,hi,e⟩:=XC ha
 exact h.at_ i (by omega) a (by rw[List.getElem?_eq_getElem hi,e])
theorem Qiy{α:Type}[Sz α]{B:Int}{l:List α}(h:∀y∈l,(sz y:Int)≤B)(h0:0≤B):(szL l:Int)≤B:=by
 have:=Qrg (K:=B.toNat) fun x hx=>by have:=h x hx; omega
 omega
theorem Nc{α:Type}[Sz α](l:List α):sz l=max l.length (szL l):=rfl
class Sh(α:Type) where
 sh:α→Prop
open Sh
instance:Sh Int:=⟨fun _=>True⟩
instance:Sh Bool:=⟨fun _=>True⟩
instance:Sh Unit:=⟨fun _=>True⟩
instance {α β:Type} [Sh α] [Sh β]:Sh (α×β):=⟨fun p=>sh p.1∧sh p.2⟩
instance {α β:Type} [Sh α] [Sh β]:Sh (α⊕β):=⟨fun p=>match p with | .inl a=>sh a | .inr b=>sh b⟩
structure ShL{α:Type}[Sh α](l:List α):Prop where
 all:∀x∈l,sh x
instance {α:Type} [Sh α]:Sh (List α):=⟨ShL⟩
instance (priority:=2000) shStr:Sh (List UInt8):=⟨fun s=>s.length≤9223372036854775807⟩
instance {α:Type}:Sh (Ke α):=⟨fun _=>True⟩
theorem Joo{α:Type}[Sh α]{l:List α}{x:α}(h:x∈l)(hl:sh l):sh x:=hl.all x h
theorem Qg0{x:List UInt8}(h:sh x):x.length≤9223372036854775807:=h
theorem Jba{α:Type}[Sh α](l m:List α):sh (l++m)=(sh l∧sh m):=propext ⟨fun h=>⟨⟨fun x hx=>h.all x (List.mem_append_left _ hx)⟩,⟨fun x hx=>h.all x (List.mem_append_right _ hx)⟩⟩,fun h=>⟨fun x hx=>(QX.1 hx).elim (h.1.all x) (h.2.all x)⟩⟩
theorem Jj2{α:Type}[Sh α](x:α)(l:List α):sh (x::l)=(sh x∧sh l):=propext ⟨fun h=>⟨h.all x (.head _),⟨fun y hy=>h.all y (.tail _ hy)⟩⟩,fun h=>⟨fun y hy=>(QJ.1 hy).elim (fun e=>e▸h.1) (h.2.all y)⟩⟩
theorem Qg1{α:Type}[Sh α]{l:List α}{i:Nat}{x:α}(hl:sh l)(hx:sh x):sh (l.set i x):=⟨fun y hy=>(ZQ hy).elim (hl.all y) (fun e=>e▸hx)⟩
theorem Qd8{α:Type}[Sz α]{K:Int}{l:List α}{i:Nat}{x:α}(h1:(sz l:Int)≤K)(h2:(sz x:Int)≤K):((sz (l.set i x):Nat):Int)≤K:=by
 have:=Qab l i x
 omega
theorem Qd9{α:Type}[Sz α]{K:Nat}{l:List α}{i:Nat}{x:α}(h1:sz l≤K)(h2:sz x≤K):sz (l.set i x)≤K:=by
 have:=Qab l i x
 omega
section
variable {V:Type} [Sz V]
theorem Cm(key:Int)(v:V):∀m:List (Int×V),sz (Yu (k:=.int .i64) key v m:List (Int×V))≤max (sz m+1) (sz v)
 | []=>by
  show sz [((key,v):Int×V)]≤_
  rw[Qaa,Qn3]; simp only[Jgx,Jgy,QR]; omega
 | x::m=>by
  have ih:=Cm key v m
  unfold Yu
  cases h:eqK (.int .i64) key x.1 with
  | true =>
   show sz ((key,v)::m:List (Int×V))≤_
   rw[Qaa,Qaa,Qn3]; simp only[Jgx]; omega
  | false =>
   show sz (x::(Yu (k:=.int .i64) key v m:List (Int×V)))≤_
   rw[Qaa,Qaa]
   have:=Kt (l:=(Yu (k:=.int .i64) key v m:List (Int×V)))
   have h2:(Yu (k:=.int .i64) key v m:List (Int×V)).length≤m.length+1:=by
    clear ih h this
    induction m with
    | nil=>exact QY _
    | cons y m ih =>
     unfold Yu
     cases eqK (.int .i64) key y.1 with
     | true=>exact ZK _
     | false=>exact JN ih
   omega
theorem Dn{W:Type}(key:Int)(v:W):∀m:List (Int×W),(Yu (k:=.int .i64) key v m).length≤m.length+1
 | []=>QY _
 | x::m=>by
  have ih:=Dn key v m
  unfold Yu
  cases eqK (.int .i64) key x.1 with
  | true=>exact ZK _
  | false=>exact JN ih
theorem Do{W:Type}(key:Str)(v:W):∀m:List (Str×W),(Yu (k:=.str) key v m).length≤m.length+1
 | []=>QY _
 | x::m=>by
  have ih:=Do key v m
  unfold Yu
  cases eqK .str key x.1 with
  | true=>exact ZK _
  | false=>exact JN ih
theorem Dp{W:Type}(key:Str):∀m:List (Str×W),(Iy (k:=.str) key m).length≤m.length
 | []=>QY _
 | x::m=>by
  have ih:=Dp key m
  unfold Iy
  cases eqK .str key x.1 with
  | true=>exact ZK _
  | false=>exact JN ih
theorem Ak{W:Type}(key:Int):∀m:List (Int×W),(Iy (k:=.int .i64) key m).length≤m.length
 | []=>QY _
 | x::m=>by
  have ih:=Ak key m
  unfold Iy
  cases eqK (.int .i64) key x.1 with
  | true=>exact ZK _
  | false=>exact JN ih
theorem Q01{W:Type}{key:Int}{y:Int×W}:∀{m:List (Int×W)},y∈(Iy (k:=.int .i64) key m:List (Int×W))→y∈m
 | x::m,h=>by
  unfold Iy at h
  cases hk:eqK (.int .i64) key x.1 with
  | true=>rw[hk]at h; exact .tail _ h
  | false =>
   rw[hk]at h
   rcases QJ.1 h with h | h
   ·exact h▸.head _
   ·exact .tail _ (Q01 h)
theorem Qad(key:Int)(m:List (Int×V)):sz (Iy (k:=.int .i64) key m:List (Int×V))≤sz m:=Q45 (Ak key m) fun _ h=>Q01 h
theorem Al(key:Int)(d:V):∀m:List (Int×V),sz ((Qw (k:=.int .i64) key m).getD d)≤max (sz m) (sz d)
 | []=>Nat.le_max_right _ _
 | x::m=>by
  have ih:=Al key d m
  unfold Qw
  rw[Qaa,Qn3]
  cases eqK (.int .i64) key x.1 with
  | true=>show sz x.2≤_; omega
  | false=>show sz ((Qw (k:=.int .i64) key m).getD d)≤_; omega
end
theorem Qri(x:Int):eqK (.int .i64) x x=true:=by simp[eqK]
theorem Qfk(x:Str):eqK .str x x=true:=by simp[eqK]
class Xy(N:Nat):Prop where
 le:18446744073709551616≤N
section
variable {α β σ τ:Type}
instance wpIdx [Sz α] [Sh α] {l:List α} {i:Int}:WP (idx l i) (fun R=>(0≤i∧i<l.length)∧∀x,x∈l→sz x≤sz l→(Sh.sh l→Sh.sh x)→l[i.toNat]?=some x→R x):=⟨fun R h=>by
 obtain⟨⟨h0,h1⟩,hR⟩:=h
 have hi:i.toNat<l.length:=by omega
 have hm:l[i.toNat]∈l:=XJ hi
 refine⟨l[i.toNat],?_,hR _ hm (Qrf hm) (Joo hm) (List.getElem?_eq_getElem hi)⟩
 unfold idx
 rw[if_pos h0,List.getElem?_eq_getElem hi]⟩
instance wpSidx {s:Str} {i:Int}:WP (Bn s i) (fun R=>(0≤i∧i<s.length)∧∀x,0≤x→x<256→R x):=⟨fun R h=>by
 obtain⟨⟨h0,h1⟩,hR⟩:=h
 have hi:i.toNat<s.length:=by omega
 refine⟨((s[i.toNat]).toNat:Int),?_,hR _ (by omega) (by have:=UInt8.toNat_lt s[i.toNat]; omega)⟩
 unfold Bn idx
 rw[if_pos h0,List.getElem?_eq_getElem hi]; rfl⟩
instance wpSlc [Sz α] [Sh α] {l:List α} {a b:Int}:WP (slc l a b) (fun R=>(0≤a∧a≤b∧b≤l.length)∧∀s,(s.length:Int)=b - a→(∀x∈s,x∈l)→sz s≤sz l→(Sh.sh l→Sh.sh s)→R s):=⟨fun R h=>by
 obtain⟨⟨h0,h1,h2⟩,hR⟩:=h
 have hlen:(((l.drop a.toNat).take (b - a).toNat).length:Int)=b - a:=by rw[List.length_take,List.length_drop]; omega
 have hm:∀x∈(l.drop a.toNat).take (b - a).toNat,x∈l:=fun x hx=>ZB (XB hx)
 refine⟨(l.drop a.toNat).take (b - a).toNat,?_,hR _ hlen hm (Q45 (by rw[List.length_take,List.length_drop]; omega) hm) (fun h=>⟨fun x hx=>h.all x (hm x hx)⟩)⟩
 unfold slc
 rw[if_pos ⟨h0,h1,h2⟩]⟩
instance wpApp {b:Nat} {l m:List α}:WP (app b l m) (fun R=>(l.length+m.length)*b≤140737488355328∧R (l++m)):=⟨fun R h=>⟨l++m,by unfold app; rw [if_pos h.1],h.2⟩⟩
instance wpMkL {b:Nat} {l c:Int} {z:α}:WP (mkL b l c z) (fun R=>(0≤l∧l≤c∧(b:Int)*c≤281474976710656)∧R (List.replicate l.toNat z)):=⟨fun R h=>⟨_,by unfold mkL; rw [if_pos h.1],h.2⟩⟩
instance wpQuo {k:IntKind} {x y:Int}:WP (Qjd k x y) (fun R=>y≠0∧R (k.wrap (x.tdiv y))):=⟨fun R h=>⟨_,by unfold Qjd; rw [if_neg h.1],h.2⟩⟩
instance wpRem {x y:Int}:WP (Qvr x y) (fun R=>y≠0∧R (x.tmod y)):=⟨fun R h=>⟨_,by unfold Qvr; rw [if_neg h.1],h.2⟩⟩
instance wpShr {k:IntKind} {x y:Int}:WP (Q9i k x y) (fun R=>0≤y∧∀r,R r):=⟨fun R h=>⟨_,by unfold Q9i; rw [if_neg (by omega)],h.2 _⟩⟩
instance wpShl {k:IntKind} {x y:Int}:WP (Q9j k x y) (fun R=>0≤y∧∀r,R r):=⟨fun R h=>⟨_,by unfold Q9j; rw [if_neg (by omega)],h.2 _⟩⟩
instance wpScat {a b:Str}:WP (Jim a b) (fun R=>a.length+b.length≤9223372036854775807∧R (a++b)):=⟨fun R h=>⟨_,by unfold Jim; rw [if_pos h.1],h.2⟩⟩
instance wpChk {b:Bool}:WP (chk b) (fun R=>b=true∧R ()):=⟨fun R h=>⟨(),by rw [h.1]; rfl,h.2⟩⟩
theorem Jop{f:σ→α→Option σ}{es:List α}(I:Int→σ→Prop)(step:∀(n:Int) s e,e∈es→0≤n→n<es.length→I n s→W (f s e) (I (n+1))){s:σ}:WP (Qls f es s) (fun R=>I 0 s∧∀r,I es.length r→R r):=Dm fun h=>by
 have main:∀(l:List α) (n:Int) (s:σ),(∀e∈l,e∈es)→0≤n→n+l.length=es.length→I n s→W (Qls f l s) (I es.length):=by
  intro l
  induction l with
  | nil=>intro n s hm h0 hn hI; exact⟨s,rfl,by rw[←hn]; simpa using hI⟩
  | cons x l ih =>
   intro n s hm h0 hn hI
   simp only[List.length_cons]at hn
   obtain⟨s1,e1,h1⟩:=step n s x (hm x (.head _)) h0 (by omega) hI
   show W ((f s x).bind fun s'=>Qls f l s') _
   rw[e1]
   exact ih (n+1) s1 (fun e he=>hm e (.tail _ he)) (by omega) (by omega) h1
 exact main es 0 s (fun _ h=>h) (XV _) (by simp) h
theorem Q46{f:σ→Option (σ⊕τ)}{N:Nat}[hN:Xy N](μ:σ→Nat)(I:σ→Prop)(Q:τ→Prop)(hμ:∀s,I s→μ s<18446744073709551616)
  (step:∀s,I s→W (f s) fun r=>match r with | .inl s'=>I s'∧μ s'<μ s | .inr t=>Q t) (s:σ):WP (Qf f N s) (fun R=>I s∧∀r,Q r→R r):=Dm fun h=>by
 have main:∀(k n:Nat) (s:σ),I s→μ s≤k→k<n→W (Qf f n s) Q:=by
  intro k
  induction k with
  | zero =>
   intro n s hI hk hn
   obtain⟨m,rfl⟩:∃m,n=m+1:=⟨n - 1,by omega⟩
   obtain⟨r,e,hr⟩:=step s hI
   cases r with
   | inl s'=>exact absurd hr.2 (by omega)
   | inr t=>exact⟨t,by simp[Qf,e],hr⟩
  | succ k ih =>
   intro n s hI hk hn
   obtain⟨m,rfl⟩:∃m,n=m+1:=⟨n - 1,by omega⟩
   obtain⟨r,e,hr⟩:=step s hI
   cases r with
   | inl s' =>
    obtain⟨t,e2,ht⟩:=ih m s' hr.1 (by have:=hr.2; omega) (by omega)
    exact⟨t,by simp[Qf,e,e2],ht⟩
   | inr t=>exact⟨t,by simp[Qf,e],hr⟩
 exact main (μ s) N s h (QY _) (QC (hμ s h) hN.le)
theorem ss:(∀(p:Prop) [Decidable p],(decide p=true)=p)∧(∀(p:Prop) [Decidable p],(decide p=false)=¬ p)∧(∀b:Bool,(¬ b=true)=(b=false))∧(∀a b:Bool,((a&&b)=true)=(a=true∧b=true))∧(∀a b:Bool,((a||b)=true)=(a=true∨b=true)) ∧
  (∀b:Bool,((!b)=true)=(b=false))∧(∀b:Bool,((!b)=false)=(b=true))∧(∀a b:Bool,((a&&b)=false)=(a=true→b=false))∧(∀a b:Bool,((a||b)=false)=(a=false∧b=false)) ∧
  (∀a b:Int,((a==b)=true)=(a=b))∧(∀a b:Int,((a==b)=false)=¬ a=b)∧(∀a b:Int,((a != b)=true)=¬ a=b)∧(∀a b:Int,((a != b)=false)=(a=b))∧(∀p q:Prop,(¬ (p∧q))=(p→¬ q))∧(∀p q:Prop,(¬ (p∨q))=(¬ p∧¬ q)):=by
 refine⟨?_,?_,?_,?_,?_,?_,?_,?_,?_,?_,?_,?_,?_,?_,?_⟩
 all_goals intros
 all_goals simp
theorem sz1:(∀(α β:Type) [Sz α] [Sz β] (p:α×β),sz p=max (sz p.1) (sz p.2))∧(∀x:Int,sz x=0)∧(∀x:Bool,sz x=0)∧(∀x:Unit,sz x=0)∧(∀x:List UInt8,sz x=0)∧(∀(α β:Type) [Sz α] [Sz β] (a:α),sz (Sum.inl a:α⊕β)=sz a) ∧
  (∀(α β:Type) [Sz α] [Sz β] (b:β),sz (Sum.inr b:α⊕β)=sz b)∧(∀(α:Type) [Sz α] [Qdo α] (l:List α),sz l=l.length) ∧
  (∀(α:Type) [Sz α] (l m:List α),sz (l++m)=max (l.length+m.length) (max (sz l) (sz m)))∧(∀(α:Type) [Sz α] (x:α) (l:List α),sz (x::l)=max (l.length+1) (max (sz x) (sz l)))∧(∀(α:Type) [Sz α],sz ([]:List α)=0) :=
 ⟨fun _ _ _ _ _=>rfl,fun _=>rfl,fun _=>rfl,fun _=>rfl,fun _=>rfl,fun _ _ _ _ _=>rfl,fun _ _ _ _ _=>rfl,fun _ _ _ l=>Jj1 l,fun _ _=>Ja9,fun _ _=>Qaa,fun _ _=>rfl⟩
theorem sh1:(∀(α β:Type) [Sh α] [Sh β] (p:α×β),Sh.sh p=(Sh.sh p.1∧Sh.sh p.2))∧(∀x:Int,Sh.sh x=True)∧(∀x:Bool,Sh.sh x=True)∧(∀x:Unit,Sh.sh x=True)∧(∀(α:Type) (x:Ke α),Sh.sh x=True)∧(∀(α β:Type) [Sh α] [Sh β] (a:α),Sh.sh (Sum.inl a:α⊕β)=Sh.sh a) ∧
  (∀(α β:Type) [Sh α] [Sh β] (b:β),Sh.sh (Sum.inr b:α⊕β)=Sh.sh b)∧(∀(α:Type) [Sh α] (l m:List α),Sh.sh (l++m)=(Sh.sh l∧Sh.sh m))∧(∀(α:Type) [Sh α] (x:α) (l:List α),Sh.sh (x::l)=(Sh.sh x∧Sh.sh l))∧(∀(α:Type) [Sh α],Sh.sh ([]:List α)=True)∧Sh.sh ([]:List UInt8)=True :=
 ⟨fun _ _ _ _ _=>rfl,fun _=>rfl,fun _=>rfl,fun _=>rfl,fun _ _=>rfl,fun _ _ _ _ _=>rfl,fun _ _ _ _ _=>rfl,fun _ _=>Jba,fun _ _=>Jj2,fun _ _=>propext ⟨fun _=>trivial,fun _=>⟨fun _ h=>by cases h⟩⟩,propext ⟨fun _=>trivial,fun _=>by show([]:List UInt8).length≤_; decide⟩⟩
theorem mx1:(∀n:Nat,max 0 n=n)∧(∀n:Nat,max n 0=n)∧(∀a b c:Nat,(max a b≤c)=(a≤c∧b≤c))∧(∀a b:Nat,((max a b:Nat):Int)=max (a:Int) (b:Int))∧(∀a b c:Int,(max a b≤c)=(a≤c∧b≤c)) :=
 ⟨ZL,ZG,fun _ _ _=>propext XN,Jgw,fun _ _ _=>propext Int.max_le⟩
theorem sS:(((∀(α β:Type) (p:α⊕β→Prop),(∀x,p x)=((∀a,p (.inl a))∧∀b,p (.inr b)))∧(∀(α β:Type) (a b:α),((Sum.inl a:α⊕β)=.inl b)=(a=b))∧(∀(α β:Type) (a b:β),((Sum.inr a:α⊕β)=.inr b)=(a=b))∧(∀(α:Type) (p:α→Prop) (a:α),(∀b,a=b→p b)=p a)∧(∀(α:Type) (p:α→Prop) (a:α),(∀b,b=a→p b)=p a)) ∧
  (∀p:Prop,(False→p)=True)∧(∀α:Type,(α→True)=True)∧(∀p:Prop,(p→True)=True)∧(∀p:Prop,(True→p)=p)∧(∀p:Prop,(p∧True)=p)∧(∀p:Prop,(True∧p)=p)∧(∀(α:Type) [Nonempty α] (p:Prop),(α→p)=p)∧(∀(α:Type) [BEq α] [LawfulBEq α] (a b:α),((a==b)=true)=(a=b))∧(∀(α:Type) [BEq α] [LawfulBEq α] (a b:α),((a != b)=true)=(a≠b))∧(∀(α:Type) (a b:α),(a≠b)=¬ (a=b)) ∧
  (∀(α:Type) (l m:List α),(l++m).length=l.length+m.length)∧(∀(α:Type) (x:α) (l:List α),(x::l).length=l.length+1)∧(∀(α:Type),([]:List α).length=0)∧(∀(α:Type) (l:List α) (i:Nat) (x:α),(l.set i x).length=l.length)∧(∀(α:Type) (l:List α),[]++l=l)∧∀n:Nat,0+n=n)∧(type_of% ss)∧(type_of% sz1)∧(type_of% sh1)∧type_of% mx1:=by
 refine⟨⟨⟨fun _ _ p=>propext Sum.forall,?_,?_,?_,?_⟩,?_,?_,?_,?_,?_,?_,fun _ _ _=>propext (forall_const _),fun _ _ _ a b=>propext beq_iff_eq,fun _ _ _ a b=>propext bne_iff_ne,?_,?_,?_,?_,?_,?_,?_⟩,ss,sz1,sh1,mx1⟩
 all_goals simp
theorem lv{P:Prop}(h:P:=by first | assumption | omega | exact Qac | ((simp (disch:=omega) only [Qx] at *)<;>omega) | ((first | refine Qd8 ?_ ?_ | refine Qd9 ?_ ?_)<;>(try simp only [sz1,mx1])<;>first | omega | ((simp (disch:=omega) only [Qx] at *)<;>omega)) | exact Nat.le_trans Kt (by omega) | exact Qri _ | exact Qfk _ | grind [Nc,Qab,Qg1,Cm,Qad,Al,Dn,Do,Ak,Dp]):P:=h
theorem mkW {o o':Option α} {T:(α→Prop)→Prop} (e:o=o') [hw:WP o' T] (P:Prop) (Q:α→Prop) (k:P→T Q:=by
  intro h
  try simp only[sS,reduceCtorEq]at *
  repeat' (first | intro _ | apply And.intro)
  all_goals first | assumption | omega | exact Qac | ((simp (disch:=omega) only [Qx]at *)<;>omega) | ((first | refine Qd8 ?_ ?_ | refine Qd9 ?_ ?_)<;>(try simp only[sz1,mx1])<;>first | omega | ((simp (disch:=omega) only [Qx]at *)<;>omega)) | exact Nat.le_trans Kt (by omega) | exact Qri _ | exact Qfk _ | grind [Nc,Qab,Qg1,Cm,Qad,Al,Dn,Do,Ak,Dp]):WP o (fun R=>P∧∀r,Q r→R r):=Dm fun h=>by rw[e]; exact hw.spec Q (k h)
theorem Joq{f:σ→Option (σ⊕τ)}{N:Nat}[hN:Xy N](ix:σ→Int)(len:Nat)(I:σ→Prop)(Q:τ→Prop)(hl:∀s,I s→len≤9223372036854775807)
  (step:∀s,I s→0≤ix s→ix s≤len→(ix s<len→IntKind.wrap .i64 (ix s+1)=ix s+1)→W (f s) fun r=>match r with | .inl s'=>I s'∧ix s<len∧ix s'=IntKind.wrap .i64 (ix s+1) | .inr t=>Q t) (s:σ) :
  WP (Qf f N s) (fun R=>(I s∧0≤ix s∧ix s≤len)∧∀r,Q r→R r) :=
 Q46 (fun s=>((len:Int) - ix s).toNat) (fun s=>I s∧0≤ix s∧ix s≤len) Q (fun s h=>by have:=hl s h.1; omega) (fun s h=>by
  have mf:=hl s h.1
  have hw:ix s<len→IntKind.wrap .i64 (ix s+1)=ix s+1:=fun hlt=>by
   exact Qx (by omega) (by omega)
  refine(step s h.1 h.2.1 h.2.2 hw).mono fun r hr=>?_
  cases r with
  | inl s' =>
   obtain⟨h1,h2,h3⟩:=hr
   rw[hw h2]at h3
   exact⟨⟨h1,by omega,by omega⟩,by omega⟩
  | inr t=>exact hr) s
theorem upL {f f':σ→Option (σ⊕τ)} {B:σ→(σ⊕τ→Prop)→Prop} (e:∀s,f s=f' s) [hf:WPf f' B] {N:Nat} [hN:Xy N] (ix:σ→Int) (len:Nat) (I:σ→Prop) (Q:τ→Prop) (hl:∀s,I s→len≤9223372036854775807:=by
  intro s h
  try simp only[sz1,sh1,mx1]at *
  first | omega | exact Nat.le_trans Kt (by omega) | grind [Nc])
  (step:∀s,I s→0≤ix s→ix s≤len→len≤9223372036854775807→(ix s<len→IntKind.wrap .i64 (ix s+1)=ix s+1)→B s (fun r=>match r with | .inl s'=>I s'∧ix s<len∧ix s'=IntKind.wrap .i64 (ix s+1) | .inr t=>Q t):=by
  intro s h h0 h1 h2 hw
  try simp only[sS,reduceCtorEq]at *
  repeat' (first | intro _ | apply And.intro)
  all_goals first | assumption | omega | ((simp (disch:=omega) only [Qx]at *)<;>omega) | ((first | refine Qd8 ?_ ?_ | refine Qd9 ?_ ?_)<;>(try simp only[sz1,mx1])<;>first | omega | ((simp (disch:=omega) only [Qx]at *)<;>omega)) | exact Nat.le_trans Kt (by omega) | exact Qri _ | exact Qfk _ | grind [Nc,Qab,Qg1,Cm,Qad,Al,Dn,Do,Ak,Dp]) {s:σ} :
  WP (Qf f N s) (fun R=>(I s∧0≤ix s∧ix s≤len)∧∀r,Q r→R r):=Joq ix len I Q hl (fun s h h0 h1 hw=>by rw[e s]; exact hf.spec s _ (step s h h0 h1 (hl s h) hw)) s
theorem Qk4 {α ε:Type} {f f':Int→Option (Int⊕(Unit⊕ε))} {B:Int→(Int⊕(Unit⊕ε)→Prop)→Prop} (e:∀s,f s=f' s) [hf:WPf f' B] {N:Nat} [hN:Xy N] (l:List α) (I:Prop) (P:α→Prop) (C:Prop) (E:ε→Prop) (hl:I→l.length≤9223372036854775807:=by
  intro h
  try simp only[sz1,sh1,mx1]at *
  first | omega | exact Nat.le_trans Kt (by omega) | grind [Nc])
  (fin:I→(∀y∈l,P y)→C:=by
  intro h ze
  first | exact ze | exact Qiy ze (by omega))
  (step:∀s:Int,I→0≤s→s≤l.length→l.length≤9223372036854775807→(s<l.length→IntKind.wrap .i64 (s+1)=s+1)→B s (fun r=>match r with | .inl s'=>(∃x,l[s.toNat]?=some x∧P x)∧s<l.length∧s'=IntKind.wrap .i64 (s+1) | .inr t=>(∀u,t=.inl u→l.length≤s)∧∀u,t=.inr u→E u):=by
  intro s h h0 h1 h2 hw
  try simp only[sS,reduceCtorEq]at *
  repeat' (first | intro _ | apply And.intro)
  all_goals first | assumption | omega | ((simp (disch:=omega) only [Qx]at *)<;>omega) | (refine⟨_,by assumption,?_⟩; first | assumption | omega | ((simp (disch:=omega) only [Qx]at *)<;>omega) | ((first | refine Qd8 ?_ ?_ | refine Qd9 ?_ ?_)<;>(try simp only[sz1,mx1])<;>first | omega | ((simp (disch:=omega) only [Qx]at *)<;>omega)) | exact Nat.le_trans Kt (by omega) | exact Qri _ | exact Qfk _ | grind [Nc,Qab,Qg1,Cm,Qad,Al,Dn,Do,Ak,Dp]) | exact Nat.le_trans Kt (by omega) | exact Qri _ | exact Qfk _ | grind [Nc,Qab,Qg1,Cm,Qad,Al,Dn,Do,Ak,Dp]) {s:Int} :
  WP (Qf f N s) (fun R=>(I∧Qfj P l s∧0≤s∧s≤l.length)∧∀r:Unit⊕ε,((∀u,r=.inl u→C)∧∀u,r=.inr u→E u)→R r):=⟨fun R h=>by
 have hw:=Joq (f:=f) (N:=N) (fun s=>s) l.length (fun s=>I∧Qfj P l s) (fun r:Unit⊕ε=>(∀u,r=.inl u→C)∧∀u,r=.inr u→E u) (fun s h=>hl h.1) (fun s h h0 h1 hw=>by
  rw[e s]
  refine(hf.spec s _ (step s h.1 h0 h1 (hl h.1) hw)).mono fun r hr=>?_
  cases r with
  | inl s' =>
   obtain⟨x1,x2,x3⟩:=hr
   refine⟨⟨h.1,?_⟩,x2,x3⟩
   rw[x3,hw x2]
   obtain⟨x,y1,y2⟩:=x1
   exact Nb h0 h.2 y1 y2
  | inr t =>
   refine⟨fun u hu=>?_,hr.2⟩
   have ti:=hr.1 u hu
   exact fin h.1 (Sf h.2 ti)) s
 exact hw.spec R ⟨⟨⟨h.1.1,h.1.2.1⟩,h.1.2.2⟩,h.2⟩⟩
theorem Jp4{f:σ→Option (σ⊕τ)}{N:Nat}[hN:Xy N](ix:σ→Int)(E:Int)(I:σ→Prop)(Q:τ→Prop)(hl:∀s,I s→E≤9223372036854775807)
  (step:∀s,I s→0≤ix s→(ix s<E→IntKind.wrap .i64 (ix s+1)=ix s+1)→W (f s) fun r=>match r with | .inl s'=>I s'∧ix s<E∧ix s'=IntKind.wrap .i64 (ix s+1) | .inr t=>Q t) (s:σ) :
  WP (Qf f N s) (fun R=>(I s∧0≤ix s)∧∀r,Q r→R r) :=
 Q46 (fun s=>(E - ix s).toNat) (fun s=>I s∧0≤ix s) Q (fun s h=>by have:=hl s h.1; omega) (fun s h=>by
  have mf:=hl s h.1
  have hw:ix s<E→IntKind.wrap .i64 (ix s+1)=ix s+1:=fun hlt=>by
   exact Qx (by omega) (by omega)
  refine(step s h.1 h.2 hw).mono fun r hr=>?_
  cases r with
  | inl s' =>
   obtain⟨h1,h2,h3⟩:=hr
   rw[hw h2]at h3
   exact⟨⟨h1,by omega⟩,by omega⟩
  | inr t=>exact hr) s
theorem upI {f f':σ→Option (σ⊕τ)} {B:σ→(σ⊕τ→Prop)→Prop} (e:∀s,f s=f' s) [hf:WPf f' B] {N:Nat} [hN:Xy N] (ix:σ→Int) (E:Int) (I:σ→Prop) (Q:τ→Prop) (hl:∀s,I s→E≤9223372036854775807:=by
  intro s h
  try simp only[sz1,sh1,mx1]at *
  first | omega | grind [Nc])
  (step:∀s,I s→0≤ix s→(ix s<E→IntKind.wrap .i64 (ix s+1)=ix s+1)→B s (fun r=>match r with | .inl s'=>I s'∧ix s<E∧ix s'=IntKind.wrap .i64 (ix s+1) | .inr t=>Q t):=by
  intro s h h0 hw
  try simp only[sS,reduceCtorEq]at *
  repeat' (first | intro _ | apply And.intro)
  all_goals first | assumption | omega | ((simp (disch:=omega) only [Qx]at *)<;>omega) | ((first | refine Qd8 ?_ ?_ | refine Qd9 ?_ ?_)<;>(try simp only[sz1,mx1])<;>first | omega | ((simp (disch:=omega) only [Qx]at *)<;>omega)) | exact Nat.le_trans Kt (by omega) | exact Qri _ | exact Qfk _ | grind [Nc,Qab,Qg1,Cm,Qad,Al,Dn,Do,Ak,Dp]) {s:σ} :
  WP (Qf f N s) (fun R=>(I s∧0≤ix s)∧∀r,Q r→R r):=Jp4 ix E I Q hl (fun s h h0 hw=>by rw[e s]; exact hf.spec s _ (step s h h0 hw)) s
theorem mkL {f f':σ→Option (σ⊕τ)} {B:σ→(σ⊕τ→Prop)→Prop} (e:∀s,f s=f' s) [hf:WPf f' B] {N:Nat} [hN:Xy N] (μ:σ→Nat) (I:σ→Prop) (Q:τ→Prop) (hμ:∀s,I s→μ s<18446744073709551616:=by
  intro s h
  try simp only[sz1,sh1,mx1]at *
  first | omega | grind [Nc])
  (step:∀s,I s→B s (fun r=>match r with | .inl s'=>I s'∧μ s'<μ s | .inr t=>Q t):=by
  intro s h
  try simp only[sS,reduceCtorEq]at *
  repeat' (first | intro _ | apply And.intro)
  all_goals first | assumption | omega | ((simp (disch:=omega) only [Qx]at *)<;>omega) | ((first | refine Qd8 ?_ ?_ | refine Qd9 ?_ ?_)<;>(try simp only[sz1,mx1])<;>first | omega | ((simp (disch:=omega) only [Qx]at *)<;>omega)) | exact Nat.le_trans Kt (by omega) | exact Qri _ | exact Qfk _ | grind [Nc,Qab,Qg1,Cm,Qad,Al,Dn,Do,Ak,Dp]) {s:σ} :
  WP (Qf f N s) (fun R=>I s∧∀r,Q r→R r):=Q46 μ I Q hμ (fun s h=>by rw[e s]; exact hf.spec s _ (step s h)) s
end
mutual
def dpt{α:Type}:Ke α→Nat
 | .mk _ ks=>Jbb ks+1
def Jbb{α:Type}:List (Ke α)→Nat
 | []=>0
 | x::l=>max (dpt x) (Jbb l)
end
theorem Q02{α:Type}:∀{l:List (Ke α)} {x:Ke α},x∈l→dpt x≤Jbb l
 | y::l,x,h=>by
  rw[Jbb]
  rcases QJ.1 h with rfl | h
  ·omega
  ·have:=Q02 h; omega
theorem Jgz{α:Type}{e x:Ke α}(h:x∈e.ks):dpt x<dpt e:=by
 cases e with
 | mk a ks=>rw[dpt]; have:=Q02 (l:=ks) h; omega
theorem Q8i{α:Type}{K:Nat}:∀{l:List (Ke α)},(∀x∈l,dpt x≤K)→Jbb l≤K
 | [],_=>QM _
 | x::l,h=>by rw[Jbb]; exact XN.2 ⟨h x (.head _),Q8i fun y hy=>h y (.tail _ hy)⟩
theorem Jor{α:Type}{e:Ke α}{K:Nat}(h:∀x∈e.ks,dpt x≤K):dpt e≤K+1:=by
 cases e with
 | mk a ks=>rw[dpt]; have:=Q8i (l:=ks) h; omega
structure Qr{α:Type}(P:α→Prop)(l:List α):Prop where
 all:∀x∈l,P x
structure Uk(x:Ql):Prop where
 deep:∀d∈x.2.2.2.2.2.2,dpt d.2.1≤4096
open Go Gd Sz
theorem Qw1(m:List (Int×Int×Int×Int×Str×List Str×List Str×Bool×Bool))(x:Int) :
  ((Qw (k:=.int .i64) x m).getD (0,0,0,([]:Str),([]:List Str),([]:List Str),false,false)).2.2.2.2.1.length≤sz m∧((Qw (k:=.int .i64) x m).getD (0,0,0,([]:Str),([]:List Str),([]:List Str),false,false)).2.2.2.2.2.1.length≤sz m:=by
 have h:=Al x ((0,0,0,([]:Str),([]:List Str),([]:List Str),false,false):Int×Int×Int×Str×List Str×List Str×Bool×Bool) m
 simp only[sz1,mx1,QR,ZG,ZL]at h ⊢
 omega
theorem Q8j(m:List (Int×Int×Int×Int×Bool×Bool×List Int))(x:Int) :
  ((Qw (k:=.int .i64) x m).getD (0,0,0,false,false,([]:List Int))).2.2.2.2.2.length≤sz m:=by
 have h:=Al x ((0,0,0,false,false,([]:List Int)):Int×Int×Int×Bool×Bool×List Int) m
 simp only[sz1,mx1,QR,ZG,ZL]at h ⊢
 omega
theorem Q03(m:List (Int×List Int))(x:Int):((Qw (k:=.int .i64) x m).getD ([]:List Int)).length≤sz m:=by
 have h:=Al x ([]:List Int) m
 simp only[sz1,mx1,QR,ZG]at h ⊢
 omega
theorem Jj3{V:Type}[Sz V]{K:Int}{x:Int}{v:V}{m:List (Int×V)}(h1:(sz m:Int)+1≤K)(h2:(sz v:Int)≤K):((sz (Yu (k:=.int .i64) x v m:List (Int×V)):Nat):Int)≤K:=by
 have:=Cm x v m
 omega
theorem Yp{α:Type}{l:List α}{i:Int}{x:α}(h0:0≤i)(h:l[i.toNat]?=some x):l.take i.toNat++[x]=l.take (i+1).toNat:=by
 have e:(i+1).toNat=i.toNat+1:=by omega
 rw[e,List.take_add_one,h]; rfl
theorem Y2{α:Type}{l:List α}{i:Int}(h:(l.length:Int)≤i):l.take i.toNat=l:=List.take_of_length_le (by omega)
instance (priority:=2000) wpSlcS {l:Str} {a b:Int}:WP (slc l a b) (fun R=>(0≤a∧a≤b∧b≤(List.length l:Int))∧∀s:Str,(List.length s:Int)=b - a→R s):=⟨fun R h=>by
 obtain⟨⟨h0,h1,h2⟩,hR⟩:=h
 refine⟨(l.drop a.toNat).take (b - a).toNat,?_,hR _ (by rw[List.length_take,List.length_drop]; omega)⟩
 unfold slc
 rw[if_pos ⟨h0,h1,h2⟩]⟩
def lpd(y:Int):Int:=if(y.tmod 4=0∧y.tmod 100≠0)∨y.tmod 400=0 then 1 else 0
def bef(y:Int):Int:=365*(y - 2000)+(if y>2000 then(y - 2001) / 4 - (y - 2001) / 100+(y - 2001) / 400+1 else 0)
theorem Jg0(y:Int):0≤lpd y∧lpd y≤1:=by unfold lpd; split<;>omega
theorem Jg1(y:Int)(h:2000≤y):bef (y+1)=bef y+365+lpd y:=by
 unfold bef lpd
 rw[JY (by omega),JY (by omega),JY (by omega)]
 split<;>split<;>split<;>omega
theorem Qw2(y:Int)(h:2000≤y):365*(y - 2000)≤bef y∧bef y≤366*(y - 2000):=by
 unfold bef
 split<;>omega
theorem Jg2:bef 2400=146097:=by decide
def mon(y m:Int):Int:=if m=2 then 28+lpd y else if m=4∨m=6∨m=9∨m=11 then 30 else 31
def lft(y m:Int):Int:=if m=1 then 365+lpd y else if m=2 then 334+lpd y else if m=3 then 306 else if m=4 then 275 else if m=5 then 245 else if m=6 then 214 else if m=7 then 184 else if m=8 then 153 else if m=9 then 122 else if m=10 then 92 else if m=11 then 61 else if m=12 then 31 else 0
theorem Jg3(y m:Int)(h:1≤m∧m≤12):lft y m=mon y m+lft y (m+1):=by
 have hx:m=1∨m=2∨m=3∨m=4∨m=5∨m=6∨m=7∨m=8∨m=9∨m=10∨m=11∨m=12:=by omega
 rcases hx with rfl | rfl | rfl | rfl | rfl | rfl | rfl | rfl | rfl | rfl | rfl | rfl<;>simp[lft,mon]<;>omega
theorem Jp5(y:Int):lft y 1=365+lpd y:=by simp[lft]
theorem Jos(y:Int):lft y 13=0:=by simp[lft]
theorem Q04{W:Type}{key:Int}{v:W}{y:Int×W}:∀{m:List (Int×W)},y∈(Yu (k:=.int .i64) key v m:List (Int×W))→y=(key,v)∨y∈m
 | [],h=>by
  unfold Yu at h
  rcases QJ.1 h with h | h
  ·exact .inl h
  ·exact .inr h
 | x::m,h=>by
  unfold Yu at h
  cases hk:eqK (.int .i64) key x.1 with
  | true =>
   rw[hk]at h
   rcases QJ.1 h with h | h
   ·exact .inl h
   ·exact .inr (.tail _ h)
  | false =>
   rw[hk]at h
   rcases QJ.1 h with h | h
   ·exact .inr (h▸.head _)
   ·rcases Q04 h with h | h
    ·exact .inl h
    ·exact .inr (.tail _ h)
theorem Quk{W:Type}{key:Int}:∀{m:List (Int×W)} {v:W},Qw (k:=.int .i64) key m=some v→∃p∈m,p.2=v
 | x::m,v,h=>by
  unfold Qw at h
  cases hk:eqK (.int .i64) key x.1 with
  | true=>rw[hk]at h; exact⟨x,.head _,Option.some.inj h⟩
  | false =>
   rw[hk]at h
   obtain⟨p,hp,e⟩:=Quk h
   exact⟨p,.tail _ hp,e⟩
structure Qfl(m:List (Int×Int))(n:Int):Prop where
 all:∀p∈m,0≤p.2∧p.2<n
theorem Qea{n:Int}:Qfl [] n:=⟨fun _ h=>absurd h JE⟩
theorem Qeb{m:List (Int×Int)}{n key v:Int}(h:Qfl m n)(h0:0≤v)(h1:v<n):Qfl (Yu (k:=.int .i64) key v m) n:=⟨fun p hp=>by
 rcases Q04 hp with e | hp
 ·rw[e]; exact⟨h0,h1⟩
 ·exact h.all p hp⟩
theorem Qec{m:List (Int×Int)}{n key d:Int}(h:Qfl m n)(hs:(Qw (k:=.int .i64) key m).isSome=true):0≤(Qw (k:=.int .i64) key m).getD d∧(Qw (k:=.int .i64) key m).getD d<n:=by
 cases e:Qw (k:=.int .i64) key m with
 | none=>rw[e]at hs; exact absurd hs (by decide)
 | some v =>
  obtain⟨p,hp,e2⟩:=Quk e
  have:=h.all p hp
  rw[e2]at this; exact this
theorem Qul{W:Type}{key:Str}{v:W}:∀{m:List (Str×W)},Qw (k:=.str) key (Yu (k:=.str) key v m:List (Str×W))=some v
 | []=>by
  unfold Yu Qw
  rw[Qfk]; rfl
 | x::m=>by
  unfold Yu
  cases hk:eqK .str key x.1 with
  | true=>show Qw (k:=.str) key ((key,v)::m:List (Str×W))=_; unfold Qw; rw[Qfk]; rfl
  | false =>
   show Qw (k:=.str) key (x::(Yu (k:=.str) key v m:List (Str×W)))=_
   unfold Qw
   rw[hk]; exact Qul
theorem Ul{α:Type}{P:α→Prop}:Qr P []:=⟨fun _ h=>absurd h JE⟩
theorem Vj{α:Type}{P:α→Prop}{l m:List α}(h:Qr P l)(k:Qr P m):Qr P (l++m):=⟨fun x hx=>(QX.1 hx).elim (h.all x) (k.all x)⟩
theorem Zt{α:Type}{P:α→Prop}{x:α}(h:P x):Qr P [x]:=⟨fun y hy=>by rw[JW.1 hy]; exact h⟩
theorem Q05{α:Type}{P:α→Prop}{x y:α}(h:P x)(k:P y):Qr P [x,y]:=⟨fun z hz=>by
 rcases QJ.1 hz with e | hz
 ·rw[e]; exact h
 ·rw[JW.1 hz]; exact k⟩
theorem Nd{α:Type}{P:α→Prop}{l:List α}{i:Nat}{x:α}(h:Qr P l)(k:P x):Qr P (l.set i x):=⟨fun y hy=>(ZQ hy).elim (h.all y) (fun e=>e▸k)⟩
theorem Qed{α:Type}{P Q:α→Prop}{l:List α}(h:Qr P l)(k:∀x,P x→Q x):Qr Q l:=⟨fun x hx=>k x (h.all x hx)⟩
structure Am(B:Int)(c:Int×Int×Int):Prop where
 side:0≤c.2.1∧c.2.1≤1
 time:0≤c.1∧c.1≤B
instance wpSortF {l:List (Int×Int×Int)}:WP (Qe8 (fun x:Int×Int×Int=>x.1) l) (fun R=>(l.length≤1099511627776∧Qr (Am 12622780800) l)∧∀r,r.length=l.length→(∀P:Int×Int×Int→Prop,Qr P l→Qr P r)→R r):=⟨fun R h=>by
 obtain⟨⟨h1,h2⟩,hR⟩:=h
 have hk:l.all (fun x=>kOk x.1)=true:=QO.2 fun x hx=>by
  have:=(h2.all x hx).time
  unfold kOk
  simp only[QQ,decide_eq_true_eq]
  omega
 have he:∃r,Qe8 (fun x:Int×Int×Int=>x.1) l=some r:=by
  unfold Qe8
  rw[hk]
  have:decide (l.length<4611686018427387904)=true:=decide_eq_true (by omega)
  rw[this]
  simp only[Bool.and_self,cond_true]
  cases Nat.ble l.length 12&&Q4v (fun x:Int×Int×Int=>x.1) l<;>exact⟨_,rfl⟩
 obtain⟨r,e⟩:=he
 have hp:=(Qqb _ e).1
 exact⟨r,e,hR r hp.length_eq (fun P hP=>⟨fun x hx=>hP.all x (hp.mem_iff.1 hx)⟩)⟩⟩
theorem Qiz{β:Type}{c:Prop}[Decidable c]{a:Option Bool}{f:Bool→Option β}{A:(Bool→Prop)→Prop}{B C:(β→Prop)→Prop}[ha:WP a A][hb:WP (f true) B][hc:WP (f false) C] :
  WP ((if c then some true else a).bind f) (fun R=>(c→B R)∧(¬ c→A fun b=>(b=true→B R)∧(b=false→C R))):=⟨fun R h=>by
 by_cases h0:c
 ·rw[if_pos h0]; exact hb.spec R (h.1 h0)
 ·rw[if_neg h0]
  obtain⟨r,e,hr⟩:=ha.spec _ (h.2 h0)
  rw[e]
  cases r with
  | true=>exact hb.spec R (hr.1 rfl)
  | false=>exact hc.spec R (hr.2 rfl)⟩
instance (priority:=900) wpfOpt {α γ:Type} {f:Option α→Option γ} {A:α→(γ→Prop)→Prop} {B:(γ→Prop)→Prop} [ha:WPf (fun a=>f (some a)) A] [hb:WP (f none) B]:WPf f (fun s R=>(∀a,s=some a→A a R)∧(s=none→B R)):=⟨fun s R k=>by
 cases s with
 | some a=>exact ha.spec a R (k.1 a rfl)
 | none=>exact hb.spec R (k.2 rfl)⟩
theorem Jbc{α:Type}{o:Option α}(h:o=none):isNone o=true:=by rw[h]; rfl
theorem Jg4{W:Type}{key:Str}{v:W}{m:List (Str×W)}{C:Prop}(h:Qw (k:=.str) key (Yu (k:=.str) key v m:List (Str×W))=none):C:=by
 rw[Qul]at h; exact absurd h (by simp)
instance wpSortZ {l:List Int}:WP (Qt3 l) (fun R=>l.length≤1099511627776∧∀r,r.length=l.length→R r):=⟨fun R h=>by
 refine⟨Qj6 l,?_,h.2 _ (Nt l).length_eq⟩
 unfold Qt3
 rw[decide_eq_true (by omega)]; rfl⟩
instance wpCompactZ {l:List Int}:WP (Re l) (fun R=>l.length≤1099511627776∧∀r,r.length≤l.length→R r):=⟨fun R h=>by
 refine⟨Lib.compact l,?_,h.2 _ (Lib.compact_length_le l)⟩
 unfold Re
 rw[decide_eq_true (by omega)]; rfl⟩
instance wpFiltZ {p:Int→Bool} {l:List Int}:WP (Qt4 p l) (fun R=>l.length≤1099511627776∧∀r,r.length≤l.length→R r):=⟨fun R h=>by
 refine⟨l.filter fun x=>!p x,?_,h.2 _ (List.length_filter_le _ _)⟩
 unfold Qt4
 rw[decide_eq_true (by omega)]; rfl⟩
def Q06(K:Int):List Int→Prop
 | []=>True
 | a::l=>(0≤a∧a≤K)∧Q06 K l
theorem Q07{K:Int}:∀{l:List Int},(∀y∈l,0≤y∧y≤K)→Q06 K l
 | [],_=>True.intro
 | a::l,h=>⟨h a (.head _),Q07 fun y hy=>h y (.tail _ hy)⟩
structure Qk5(s:Int×Int×Int):Prop where
 upto:0≤s.1∧s.1≤1099511627776
 inc:1≤s.2.1∧s.2.1≤1099511627776
 price:0≤s.2.2∧s.2.2≤1125899906842624
theorem Jbd{s:Int×Int×Int}(h1:Q06 1099511627776 [s.1,s.2.1])(h2:s.2.1≠0)(h3:Q06 1125899906842624 [s.2.2]):Qk5 s:=⟨h1.1,⟨by have:=h1.2.1; omega,h1.2.1.2⟩,h3.1⟩
theorem Jg5(v a i:Int)(h1:1≤i)(h2:i≤1099511627776)(h3:a<v)(h4:0≤a)(h5:v≤2199023255552):IntKind.wrap .i64 (Int.tdiv (IntKind.wrap .i64 (IntKind.wrap .i64 (IntKind.wrap .i64 (v - a)+i) - 1)) i)≠0:=by
 rw[Qx (n:=v - a) (by omega) (by omega),Qx (n:=v - a+i) (by omega) (by omega),Qx (n:=v - a+i - 1) (by omega) (by omega),QG (by omega)]
 have h6:1≤(v - a+i - 1) / i:=by
  rw[Int.le_ediv_iff_mul_le (by omega)]; omega
 have h7:(v - a+i - 1) / i≤v - a+i - 1:=Int.ediv_le_self _ (by omega)
 rw[Qx (by omega) (by omega)]; omega
theorem Jp6{v a i:Int}(h:IntKind.wrap .i64 (Int.tdiv (IntKind.wrap .i64 (IntKind.wrap .i64 (IntKind.wrap .i64 (v - a)+i) - 1)) i)=0)(h1:1≤i∧i≤1099511627776)(h3:¬ v≤a)(h4:0≤a)(h5:v≤2199023255552):False:=Jg5 v a i h1.1 h1.2 (by omega) h4 h5 h
structure Xz(b:Q2):Prop where
 ev:b.1.length≤32
 tarL:sz b.2.1≤4096
 tarS:Sh.sh b.2.1
 tarO:Qr Uk b.2.1
 prodL:b.2.2.1.length≤32
 prodS:sz b.2.2.1≤4096
 prodO:Qr (fun p:Qo=>p.2.2.2.2.2.length≤32) b.2.2.1
 hol:b.2.2.2.2.1.length≤4096
structure Wp(u:Qc):Prop where
 start:u.2.2.2.2.2.2.1≤86400000
 to_:u.2.2.2.2.2.1.length≤9223372036854775807
 toS:Sh.sh u.2.2.2.2.2.1
structure Q47(w:Qm):Prop where
 c:(1≤w.1∧w.1≤9999)∧(-1125899906842624≤w.2.1∧w.2.1≤1125899906842624)∧(-1125899906842624≤w.2.2.1∧w.2.2.1≤0)∧(0≤w.2.2.2.1∧w.2.2.2.1≤1125899906842624)∧(-1≤w.2.2.2.2∧w.2.2.2.2≤12622780799)∧w.2.2.1≤w.2.1 - w.2.2.2.1
structure Jz(w:Qm):Prop where
 c:Q47 w
 z:w.2.2.2.1=0
theorem Jbe{a:Int}(h1:1≤a)(h2:a≤9999):Jz (a,0,0,0,-1):=⟨⟨⟨⟨h1,h2⟩,by simp⟩⟩,rfl⟩
theorem Qum{w:Qm}{b:Int}(h:Jz w)(h1:w.2.2.1≤b)(h2:b≤1125899906842624):Jz (w.1,b,w.2.2.1,w.2.2.2.1,w.2.2.2.2):=by
 have c:=h.c.c
 have z:=h.z
 refine⟨⟨c.1,⟨?_,h2⟩,c.2.2.1,c.2.2.2.1,c.2.2.2.2.1,?_⟩,z⟩
 ·show -1125899906842624≤b
  omega
 ·show w.2.2.1≤b - w.2.2.2.1
  omega
theorem Q08{w:Qm}{f:Int}(h:Jz w)(h1 : -1125899906842624≤f)(h2:f≤0)(h3:f≤w.2.1 - w.2.2.2.1):Jz (w.1,w.2.1,f,w.2.2.2.1,w.2.2.2.2):=⟨⟨h.c.c.1,h.c.c.2.1,⟨h1,h2⟩,h.c.c.2.2.2.1,h.c.c.2.2.2.2.1,h3⟩,h.z⟩
theorem Q09{w:Qm}{t:Int}(h:Jz w)(h1:t≤12622780799):Jz (w.1,w.2.1,w.2.2.1,w.2.2.2.1,(if t>w.2.2.2.2 then t else w.2.2.2.2)):=by
 have c:=h.c.c
 refine⟨⟨c.1,c.2.1,c.2.2.1,c.2.2.2.1,?_,c.2.2.2.2.2⟩,h.z⟩
 show -1≤(if t>w.2.2.2.2 then t else w.2.2.2.2)∧(if t>w.2.2.2.2 then t else w.2.2.2.2)≤12622780799
 split<;>omega
theorem Qi0{w:Qm}(h1 : -1125899906842624≤w.2.1∧w.2.1≤1125899906842624)(h2:0≤w.2.2.2.1∧w.2.2.2.1≤1125899906842624):IntKind.wrap .i64 (w.2.1 - w.2.2.2.1)=w.2.1 - w.2.2.2.1:=Qx (by omega) (by omega)
structure Qrj(b:Jw):Prop where
 c:(0≤b.2.2.1∧b.2.2.1≤1099511627776)∧0≤b.2.2.2.1∧b.2.2.2.1≤1099511627776
structure V9(p:Qo):Prop where
 c:Qr Qrj p.2.2.2.2.2
structure Q1a(g:J9):Prop where
 c:g.1.2.2.2.2.2.2.2.1=g.1.2.2.2.2.2.2.2.2.1∧(0≤g.1.2.2.2.2.2.2.2.1∧g.1.2.2.2.2.2.2.2.1≤1099511627776)∧0≤g.2∧g.2≤1099511627776
theorem Jj4{b:Jw}(h:Qrj b){a s:Int}{p:Str}{i k:Int}{z:List Str}{v:Int×Int}{q:Int}{d:Bool}:Q1a ((a,s,p,i,k,z,v,b.2.2.1,b.2.2.1,q,d),b.2.2.2.1):=⟨rfl,h.c.1,h.c.2⟩
structure Hh(b:Qb):Prop where
 c:0≤b.2.2.2.2.2.2.2.2.1∧b.2.2.2.2.2.2.2.2.1≤b.2.2.2.2.2.2.2.1∧b.2.2.2.2.2.2.2.1≤2199023255552
structure UsF(u:Qc):Prop where
 c:(1≤u.2.2.1∧u.2.2.1≤9999)∧0≤u.2.2.2.2.2.2.2.1∧u.2.2.2.2.2.2.2.1≤1099511627776
def mis:List Qb→Int
 | []=>0
 | b::l=>b.2.2.2.2.2.2.2.1 - b.2.2.2.2.2.2.2.2.1+mis l
def tks:List Q7→Int
 | []=>0
 | t::l=>t.2.2.2.2+tks l
theorem Qn4:∀l m:List Qb,mis (l++m)=mis l+mis m
 | [],m=>(ZM _).symm
 | b::l,m=>by simp only[QA,mis,Qn4 l m]; omega
theorem Q8k:∀l m:List Q7,tks (l++m)=tks l+tks m
 | [],m=>(ZM _).symm
 | b::l,m=>by simp only[QA,tks,Q8k l m]; omega
theorem Q8l:∀{l:List Qb} {i:Nat} {y z:Qb},l[i]?=some z→mis (l.set i y)=mis l+(y.2.2.2.2.2.2.2.1 - y.2.2.2.2.2.2.2.2.1) - (z.2.2.2.2.2.2.2.1 - z.2.2.2.2.2.2.2.2.1)
 | [],i,y,z,h=>by simp at h
 | b::l,0,y,z,h=>by
  simp only[List.getElem?_cons_zero,Option.some.injEq]at h
  subst h
  simp only[XL,mis]; omega
 | b::l,i+1,y,z,h=>by
  simp only[List.getElem?_cons_succ]at h
  simp only[List.set_cons_succ,mis,Q8l h]; omega
theorem Qi1{α:Type}{P:α→Prop}{l:List α}{x:α}(hx:x∈l)(h:Qr P l):P x:=h.all x hx
theorem Qi2{α:Type}{P:α→Prop}{l m:List α}(h:Qr P m)(k:∀x∈l,x∈m):Qr P l:=⟨fun x hx=>h.all x (k x hx)⟩
theorem Jot{α:Type}[Sz α][Sh α]{l:List α}{a b:Int}:WP (slc l a b) (fun R=>(0≤a∧a≤b∧b≤l.length)∧∀s,(s.length:Int)=b - a→(∀x∈s,x∈l)→sz s≤sz l→s=(l.drop a.toNat).take (b - a).toNat→R s):=⟨fun R h=>by
 obtain⟨⟨h0,h1,h2⟩,hR⟩:=h
 have hm:∀x∈(l.drop a.toNat).take (b - a).toNat,x∈l:=fun x hx=>ZB (XB hx)
 refine⟨(l.drop a.toNat).take (b - a).toNat,?_,hR _ (by rw[List.length_take,List.length_drop]; omega) hm (Q45 (by rw[List.length_take,List.length_drop]; omega) hm) rfl⟩
 unfold slc
 rw[if_pos ⟨h0,h1,h2⟩]⟩
theorem Jj5{l s t:List Qb}{v:Int}{b:Qb}(hs:s=(l.drop (0:Int).toNat).take (v - 0).toNat)(ht:t=(l.drop v.toNat).take ((l.length:Int) - v).toNat)(hb:b.2.2.2.2.2.2.2.1=b.2.2.2.2.2.2.2.2.1):mis (s++[b]++t)=mis l:=by
 have e1:(v - 0).toNat=v.toNat:=by omega
 have e2:(l.drop v.toNat).take ((l.length:Int) - v).toNat=l.drop v.toNat:=List.take_of_length_le (by rw[List.length_drop]; omega)
 rw[hs,ht,e1,e2,Qn4,Qn4]
 show mis (l.take v.toNat)+mis [b]+_=_
 have h3:mis l=mis (l.take v.toNat)+mis (l.drop v.toNat):=by rw[←Qn4,List.take_append_drop]
 have h4:mis [b]=0:=by simp only[mis]; omega
 omega
theorem Jg6{l s t:List Qb}{b:Qb}(h:Qr Hh l)(hs:∀x∈s,x∈l)(ht:∀x∈t,x∈l)(hb:b.2.2.2.2.2.2.2.1=b.2.2.2.2.2.2.2.2.1)(h0:0≤b.2.2.2.2.2.2.2.1)(h1:b.2.2.2.2.2.2.2.1≤2199023255552):Qr Hh (s++[b]++t):=Vj (Vj (Qi2 h hs) (Zt ⟨by omega,by omega,h1⟩)) (Qi2 h ht)
section
variable {l:List Qb} {i:Nat} {a b c:Qb} {n:Int}
theorem Jg7(hl:Qr Hh l)(ha:l[i]?=some a)(h0:0≤n)(h1:n≤1099511627776):0≤IntKind.wrap .i64 (n - (if a.2.2.2.2.2.2.2.2.1<n then a.2.2.2.2.2.2.2.2.1 else n))∧IntKind.wrap .i64 (n - (if a.2.2.2.2.2.2.2.2.1<n then a.2.2.2.2.2.2.2.2.1 else n))≤1099511627776:=by
 have c:=(hl.all a (List.mem_of_getElem? ha)).c
 split
 ·rw[Qx (by omega) (by omega)]; omega
 ·rw[Qx (by omega) (by omega)]; omega
theorem Jou(hl:Qr Hh l)(ha:l[i]?=some a)(hb:l[i]?=some b)(hc:l[i]?=some c)(h0:0≤n):Qr Hh (l.set i (c.1,c.2.1,c.2.2.1,c.2.2.2.1,c.2.2.2.2.1,c.2.2.2.2.2.1,c.2.2.2.2.2.2.1,c.2.2.2.2.2.2.2.1,(IntKind.wrap .i64 (b.2.2.2.2.2.2.2.2.1 - (if a.2.2.2.2.2.2.2.2.1<n then a.2.2.2.2.2.2.2.2.1 else n))),c.2.2.2.2.2.2.2.2.2.1,c.2.2.2.2.2.2.2.2.2.2)):=by
 rw[ha]at hb hc
 have h:=(hl.all a (List.mem_of_getElem? ha)).c
 rw[←Option.some.inj hb,←Option.some.inj hc]
 refine Nd hl ⟨?_⟩
 simp only
 split<;>(rw[Qx (by omega) (by omega)]; omega)
theorem Jov{m:Int}{t:List Q7}{p q r:Int}{u:Str}(hm:mis l=m+tks t)(hl:Qr Hh l)(ha:l[i]?=some a)(hb:l[i]?=some b)(hc:l[i]?=some c)(h0:0≤n):mis (l.set i (c.1,c.2.1,c.2.2.1,c.2.2.2.1,c.2.2.2.2.1,c.2.2.2.2.2.1,c.2.2.2.2.2.2.1,c.2.2.2.2.2.2.2.1,(IntKind.wrap .i64 (b.2.2.2.2.2.2.2.2.1 - (if a.2.2.2.2.2.2.2.2.1<n then a.2.2.2.2.2.2.2.2.1 else n))),c.2.2.2.2.2.2.2.2.2.1,c.2.2.2.2.2.2.2.2.2.2))=m+tks (t++[(p,u,q,r,(if a.2.2.2.2.2.2.2.2.1<n then a.2.2.2.2.2.2.2.2.1 else n))]):=by
 rw[Q8l ha,Q8k]
 rw[ha]at hb hc
 have h:=(hl.all a (List.mem_of_getElem? ha)).c
 rw[←Option.some.inj hb,←Option.some.inj hc]
 simp only[tks]
 split<;>(rw[Qx (by omega) (by omega)]; omega)
end
set_option linter.defProp false
set_option maxRecDepth 100000
set_option maxHeartbeats 4000000
set_option synthInstance.maxSize 100000
set_option synthInstance.maxHeartbeats 1000000
theorem Jg8{α:Type}{e:Ke α}{K:Nat}(h:e.ks.length≤K)(hk:∀y∈e.ks,sz y≤K):sz e≤K:=by
 have:∀l:List (Ke α),szL l=Q44 l:=fun l=>by
  induction l with
  | nil=>rfl
  | cons x l ih=>simp only[szL,Q44,ih]; rfl
 cases e with
 | mk x ks =>
  have h2:Q44 ks≤K:=by rw[←this]; exact Qrg hk
  show rsz (.mk x ks)≤K
  simp only[rsz]
  have h1:ks.length≤K:=h
  omega
theorem Qun{N:Nat}[Xy N]:∀(n:Nat) (e:Qj) (d:Int),0≤d→d≤19→20≤n+d→sz e≤9223372036854775807→W (Ye N n e d) fun r=>1≤r∧r≤1000*(20 - d)∧(r<1000→(sz e:Int)≤r∧(dpt e:Int)≤19 - d)
 | 0,e,d,h0,h1,h2,h3=>by omega
 | n+1,e,d,h0,h1,h2,h3=>by
  unfold Ye
  by_cases hd:d>18
  ·rw[if_pos (by simpa using hd)]
   exact⟨1000,rfl,by omega,by omega,by omega⟩
  ·rw[if_neg (by simpa using hd)]
   have hw:IntKind.wrap .i64 (d+1)=d+1:=Qx (by omega) (by omega)
   have ih:∀x:Qj,WP (Ye N n x (d+1)) (fun R=>sz x≤9223372036854775807∧∀r:Int,(1≤r∧r≤1000*(20 - (d+1))∧(r<1000→(sz x:Int)≤r∧(dpt x:Int)≤19 - (d+1)))→R r):=fun x=>Dm fun h=>Qun n x (d+1) (by omega) (by omega) (by omega) h
   have hk:=Qgz (e:=e)
   have hlen:=Kt (l:=e.ks)
   have loop:∀s:Int×Int,WP (Qf (Za N (Ye N n) e d) N s) _:=Joq (f:=Za N (Ye N n) e d) (fun s:Int×Int=>s.2) e.ks.length
    (fun s:Int×Int=>s.2+1≤s.1∧s.1≤1000*(20 - d)∧(s.1<1000→Qfj (fun y=>(sz y:Int)≤s.1∧(dpt y:Int)≤18 - d) e.ks s.2)) (fun r:Int=>1≤r∧r≤1000*(20 - d)∧(r<1000→(sz e:Int)≤r∧(dpt e:Int)≤19 - d)) (fun s h=>by omega) (by
    rintro⟨v1,v2⟩ ⟨i1,i2,i3⟩ nh k8 hw2
    simp only at i1 i2 i3 nh k8 hw2
    unfold Za
    simp only[hw]
    refine wp ?_
    simp only[QQ,decide_eq_true_eq]
    refine⟨fun hc=>⟨⟨nh,hc.1⟩,fun x hm hs _ hx=>⟨by omega,fun r hr=>?_⟩⟩,fun hc=>?_⟩
    ·have hv:IntKind.wrap .i64 (v1+r)=v1+r:=Qx (by omega) (by omega)
     rw[hv]
     refine⟨⟨by rw[hw2 hc.1]; omega,by omega,fun hlt=>?_⟩,hc.1,trivial⟩
     rw[hw2 hc.1]
     exact Nb nh ⟨fun j hj a ha=>by have:=(i3 hc.2).at_ j hj a ha; exact⟨by omega,this.2⟩⟩ hx (by have:=hr.2.2 (by omega); exact⟨by omega,by omega⟩)
    ·refine⟨by omega,i2,fun hlt=>?_⟩
     have ti:(e.ks.length:Int)≤v2:=by
      rcases Int.lt_or_le v2 e.ks.length with h | h
      ·exact absurd ⟨h,hlt⟩ hc
      ·exact h
     have ze:=Sf (i3 hlt) ti
     have h8:=Jg8 (e:=e) (K:=v1.toNat) (by omega) (fun y hy=>by have:=(ze y hy).1; omega)
     have h9:=Jor (e:=e) (K:=(18 - d).toNat) (fun y hy=>by have:=(ze y hy).2; omega)
     exact⟨by omega,by omega⟩)
   have:=loop
   refine wp ?_
   exact⟨⟨⟨by omega,by omega,fun _=>Qac⟩,by omega,by omega⟩,fun r hr=>hr⟩
instance w_billingref37_Nodes {N:Nat} [hN:Xy N] {x0:Qj} {x1:Int}:WP (Lw N x0 x1) (fun R=>(sz x0≤9223372036854775807∧x1=0)∧∀r:Int,(1≤r∧r≤20000∧(r<1000→(sz x0:Int)≤r∧(dpt x0:Int)≤19))→R r):=Dm (by
  intro h
  have:=hN.le
  exact(Qun N x0 x1 (by omega) (by omega) (by omega) h.1).mono fun r hr=>⟨hr.1,by omega,fun hl=>by have:=hr.2.2 hl; omega⟩)
variable {N:Nat} [Xy N]
@[reducible,instance] def Quo{x0 x1}{s}:=Qk4 (N:=N) (s:=s) (Aq.eq_def N x0 x1) x0.2.2.2.2.2.2 (sz x0≤9223372036854775807∧1≤x1∧x1≤200) (fun y=>(sz y:Int)≤4*x1∧dpt y.2.1≤4096) ((szL x0.2.2.2.2.2.2:Int)≤4*x1∧Uk x0) (fun u=>u=false) (fin:=fun h ze=>⟨Qiy (fun y hy=>(ze y hy).1) (by omega),⟨fun y hy=>(ze y hy).2⟩⟩)
@[reducible,instance] def Qup{x0 x1}{s}:=Qk4 (N:=N) (s:=s) (Ar.eq_def N x0 x1) x0.2.2.2.1 (sz x0≤9223372036854775807∧1≤x1∧x1≤200) (fun y=>(sz y:Int)≤4*x1) ((szL x0.2.2.2.1:Int)≤4*x1) (fun u=>u=false)
@[reducible,instance] def Quq{x0 x1}{s}:=Qk4 (N:=N) (s:=s) (As.eq_def N x0 x1) x0.2.2.2.2.2.1 (sz x0≤9223372036854775807∧1≤x1∧x1≤200) (fun y=>(sz y:Int)≤4*x1) ((szL x0.2.2.2.2.2.1:Int)≤4*x1) (fun u=>u=false)
@[reducible,instance] def Qur{x0 x1}{s}:=Qk4 (N:=N) (s:=s) (At.eq_def N x0 x1) x0.2.2.2.2.1 (sz x0≤9223372036854775807∧1≤x1∧x1≤200) (fun y=>(sz y:Int)≤4*x1) ((szL x0.2.2.2.2.1:Int)≤4*x1) (fun u=>u=false)
@[reducible,instance] def Q1b{x0 x1}:=mkW (H4.eq_1 N x0 x1) (sz x0≤9223372036854775807∧1≤x1∧x1≤200) (fun r=>r=true→(sz x0:Int)≤4*x1∧Uk x0)
@[reducible,instance] def Q2u{x0}:=mkW (X6.eq_1 N x0) (True) (fun r=>r.length=5∧(∀b,r[0]?=some b→(b=true↔(x0=1∨x0=2∨x0=3∨x0=14∨x0=15))))
@[reducible,instance] def Q8m{x0}:=mkW (Hv.eq_1 N x0) (True) (fun r=>True)
@[reducible,instance] def Qw3{x0}{s}:=upL (N:=N) (s:=s) (Cz.eq_def N x0) (fun t=>t) x0.length (fun t=>Sh.sh x0) (fun r:((Unit)⊕(Bool))=>True) (fun _ h=>Qg0 (by grind))
@[reducible,instance] def Q2v{x0}:=mkW (Vg.eq_1 N x0) (Sh.sh x0) (fun r=>True)
@[reducible,instance] def Qus{x0}{s}:=upL (N:=N) (s:=s) (Au.eq_def N x0) (fun t=>t) x0.length (fun t=>Sh.sh x0) (fun r:((Unit)⊕(Bool))=>True) (fun _ h=>Qg0 (by grind))
@[reducible,instance] def Q1c{x0}:=mkW (K7.eq_1 N x0) (Sh.sh x0) (fun r=>True)
@[reducible,instance] def Q1d{x0}:=mkW (H5.eq_1 N x0) (True) (fun r=>True)
@[reducible,instance] def Q2w{x0 x1}:=mkW (Fr.eq_1 N x0 x1) (Sh.sh x0) (fun r=>True)
@[reducible,instance] def Qrs{x0 x1}{s}:=Qk4 (N:=N) (s:=s) (E4.eq_def N x0 x1) x0.1 (sz x0≤9223372036854775807) (fun y=>y.1≠x1) (∀y∈x0.1,y.1≠x1) (fun u=>0≤u∧u<x0.1.length∧∃a∈x0.1,a.1=x1)
@[reducible,instance] def Qw4{x0 x1}:=mkW (Zq.eq_1 N x0 x1) (sz x0≤9223372036854775807) (fun r => -1≤r∧r<x0.1.length∧(0≤r→∃a∈x0.1,a.1=x1)∧(r<0→∀a∈x0.1,a.1≠x1))
@[reducible,instance] def Qxp{x0 x1}{s}:=Qk4 (N:=N) (s:=s) (D9.eq_def N x0 x1) x0.2.1 (sz x0≤9223372036854775807) (fun y=>y.1≠x1) (∀y∈x0.2.1,y.1≠x1) (fun u=>0≤u∧u<x0.2.1.length∧∃a∈x0.2.1,a.1=x1)
@[reducible,instance] def Q48{x0 x1}:=mkW (Km.eq_1 N x0 x1) (sz x0≤9223372036854775807) (fun r => -1≤r∧r<x0.2.1.length∧(0≤r→∃a∈x0.2.1,a.1=x1)∧(r<0→∀a∈x0.2.1,a.1≠x1))
@[reducible,instance] def Qut{x0 x1}{s}:=upL (N:=N) (s:=s) (Av.eq_def N x0 x1) (fun t=>t) x0.2.2.length (fun t=>sz x0≤9223372036854775807) (fun r:((Unit)⊕(Bool))=>True)
@[reducible,instance] def Q1e{x0 x1}:=mkW (K8.eq_1 N x0 x1) (sz x0≤9223372036854775807) (fun r=>True)
@[reducible,instance] def Qw5{x0 x1}{s}:=upL (N:=N) (s:=s) (C0.eq_def N x0 x1) (fun t=>t) x0.2.1.length (fun t=>sz x0≤9223372036854775807) (fun r:((Unit)⊕(Bool))=>True)
@[reducible,instance] def Q2x{x0 x1}:=mkW (Fs.eq_1 N x0 x1) (sz x0≤9223372036854775807) (fun r=>True)
@[reducible,instance] def Qsl{x0 x1}:=mkW (K9.eq_1 N x0 x1) (sz x0≤9223372036854775807) (fun r=>r=0→x1.2.1≠1→∃a∈x0.1,a.1=x1.2.2.1)
@[reducible,instance] def Qxq{x0 x1}{s}:=upL (N:=N) (s:=s) (Ia.eq_def N x0 x1) (fun t=>t) x0.length (fun t=>sz x0≤9223372036854775807) (fun r:((Unit)⊕(Bool))=>True)
@[reducible,instance] def Q49{x0 x1}:=mkW (Ut.eq_1 N x0 x1) (sz x0≤9223372036854775807) (fun r=>True)
@[reducible,instance] def Quu{x0 x1}{s}:=upL (N:=N) (s:=s) (Aw.eq_def N x0 x1) (fun t=>t) x0.2.1.length (fun t=>sz x0≤9223372036854775807) (fun r:((Unit)⊕(Bool))=>True)
@[reducible,instance] def Q1f{x0 x1}:=mkW (H6.eq_1 N x0 x1) (sz x0≤9223372036854775807) (fun r=>True)
@[reducible,instance] def Q1g{x0 x1}:=mkW (H7.eq_1 N x0 x1) (sz x0≤9223372036854775807) (fun r=>r=0→∃a∈x0.2.1,a.1=x1.2.2.2.1)
@[reducible,instance] def Q1h{x0 x1 x2}:=mkW (H8.eq_1 N x0 x1 x2) (sz x0≤9223372036854775807∧Sh.sh x1) (fun r=>r=0→((x1.2.1=2→∃a∈x0.1,a.1=x1.2.2.1)∧(¬ (x1.2.1=1∨x1.2.1=2∨x1.2.1=3∨x1.2.1=14∨x1.2.1=15)→∃a∈x0.2.1,a.1=x1.2.2.2.1)))
@[reducible,instance] def Qw6{x0 x1}{s}:=upL (N:=N) (s:=s) (C1.eq_def N x0 x1) (fun t=>t) x0.length (fun t=>sz x0≤9223372036854775807) (fun r:((Int))=>0≤r∧r≤x0.length)
@[reducible,instance] def Q2y{x0 x1}:=mkW (X7.eq_1 N x0 x1) (sz x0≤1099511627776) (fun r=>sz r≤sz x0+1)
@[reducible,instance] def Qrt{x0 x1}{s}:=upL (N:=N) (s:=s) (E5.eq_def N x0 x1) (fun t=>t.1) x0.length (fun t=>sz x0≤1099511627776∧t.2.length≤t.1∧sz t.2≤(sz x0)) (fun r:(((List Str)))=>sz r≤(sz x0))
@[reducible,instance] def Qw7{x0 x1}:=mkW (Zr.eq_1 N x0 x1) (sz x0≤1099511627776) (fun r=>sz r≤(sz x0))
@[reducible,instance] def Qw8{x0 x1}:=mkW (Ww.eq_1 N x0 x1) (sz x0≤1099511627776) (fun r=>r.2.2.2.2.1.length≤x0.2.2.2.2.1.length+1∧r.2.2.2.2.2.1.length≤x0.2.2.2.2.2.1.length+1)
@[reducible,instance] def Q1i{x0 x1}:=mkW (H9.eq_1 N x0 x1) (sz x0≤1099511627776∧(x1.2.1=2→∃a∈x0.1,a.1=x1.2.2.1)∧(¬ (x1.2.1=1∨x1.2.1=2∨x1.2.1=3∨x1.2.1=14∨x1.2.1=15)→∃a∈x0.2.1,a.1=x1.2.2.2.1)) (fun r=>sz r.1≤sz x0.1+1∧sz r.2.1≤sz x0.2.1+1∧sz r.2.2≤sz x0.2.2+1)
@[reducible,instance] def Quv{x0}{s}:=upL (N:=N) (s:=s) (Ax.eq_def N x0) (fun t=>t.2.1) x0.length (fun t=>x0.length≤4096∧Sh.sh x0∧sz t.2.2.1≤t.2.1∧sz t.2.2.2.1≤t.2.1∧sz t.2.2.2.2≤t.2.1) (fun r:((Unit)⊕(Int×Int))=>True)
@[reducible,instance] def Q1j{x0}:=mkW (Ea.eq_1 N x0) (sz x0≤1099511627776∧Sh.sh x0) (fun r=>True)
@[reducible,instance] def Quw{x0}{s}:=upL (N:=N) (s:=s) (Ay.eq_def N x0) (fun t=>t) x0.length (fun t=>sz x0≤9223372036854775807∧Sh.sh x0) (fun r:((Unit)⊕(Int))=>True)
@[reducible,instance] def Qux{x0}{s}:=upI (N:=N) (s:=s) (Az.eq_def N x0) (fun t=>t) ((x0.length:Int)) (fun t=>sz x0≤9223372036854775807∧1≤t) (fun r:((Unit)⊕(Int))=>True)
@[reducible,instance] def Q1k{x0}:=mkW (Eb.eq_1 N x0) (sz x0≤9223372036854775807∧Sh.sh x0) (fun r=>r=0→sz x0≤64)
@[reducible,instance] def Qxr{x0}:=mkW (G8.eq_1 N x0) (sz x0≤9223372036854775807∧Sh.sh x0) (fun r=>r=0→sz x0≤64∧(r=0→Qrj x0)) (k:=by
  intro h
  try simp only[sS,reduceCtorEq]at *
  repeat' (first | intro _ | apply And.intro)
  all_goals first | exact⟨⟨by omega,by omega⟩,by omega,by omega⟩ | exact lv)
@[reducible,instance] def Qxs{x0}{s}:=Qk4 (N:=N) (s:=s) (Ib.eq_def N x0) x0.2.2.2.2.2 (sz x0≤9223372036854775807∧Sh.sh x0) (fun y=>(sz y:Int)≤64∧Qrj y) ((szL x0.2.2.2.2.2:Int)≤64∧V9 x0) (fun u=>u≠0) (fin:=fun h ze=>⟨Qiy (fun y hy=>(ze y hy).1) (by omega),⟨⟨fun y hy=>(ze y hy).2⟩⟩⟩)
@[reducible,instance] def Q5a{x0}:=mkW (By.eq_1 N x0) (sz x0≤9223372036854775807∧Sh.sh x0) (fun r=>r=0→sz x0≤64∧(r=0→V9 x0))
@[reducible,instance] def Quy{x0}{s}:=Qk4 (N:=N) (s:=s) (A1.eq_def N x0) x0 (sz x0≤9223372036854775807∧Sh.sh x0) (fun y=>(sz y:Int)≤64∧V9 y) ((szL x0:Int)≤64∧Qr V9 x0) (fun u=>u≠0) (fin:=fun h ze=>⟨Qiy (fun y hy=>(ze y hy).1) (by omega),⟨fun y hy=>(ze y hy).2⟩⟩)
@[reducible,instance] def Q1l{x0}:=mkW (Ec.eq_1 N x0) (sz x0≤9223372036854775807∧Sh.sh x0) (fun r=>r=0→sz x0≤4096∧(r=0→Qr V9 x0))
@[reducible,instance] def Q1m{x0}:=mkW (Xa.eq_1 N x0) (True) (fun r=>True)
@[reducible,instance] def Q1n{x0}:=mkW (Ed.eq_1 N x0) (True) (fun r=>True)
@[reducible,instance] def Qw9{x0}{s}:=upL (N:=N) (s:=s) (C2.eq_def N x0) (fun t=>t) x0.length (fun t=>Sh.sh x0) (fun r:((Unit)⊕(Bool))=>True) (fun _ h=>Qg0 (by grind))
@[reducible,instance] def Q2z{x0}:=mkW (X8.eq_1 N x0) (Sh.sh x0) (fun r=>True)
@[reducible,instance] def Qxa{x0}{s}:=upL (N:=N) (s:=s) (C3.eq_def N x0) (fun t=>t) x0.length (fun t=>Sh.sh x0) (fun r:((Unit)⊕(Bool))=>True) (fun _ h=>Qg0 (by grind))
@[reducible,instance] def Q20{x0}:=mkW (X9.eq_1 N x0) (Sh.sh x0) (fun r=>True)
@[reducible,instance] def Qru{x0 v1 x1 x2}{s}:=upI (N:=N) (s:=s) (E6.eq_def N x0 v1 x1 x2) (fun t=>t) (9223372036854775807) (fun t=>sz x0≤9223372036854775807∧0≤v1∧v1≤x1∧x1<x0.length∧∀z,x0[x1.toNat]?=some z→0≤x2∧x2<z.2.length∧x0.length≤9223372036854775807) (fun r:((Unit)⊕(Bool))=>True)
@[reducible,instance] def Qrv{x1 x0 x2}{s}:=upI (N:=N) (s:=s) (E7.eq_def N x1 x0 x2) (fun t=>t) (x1+1) (fun t=>sz x0≤9223372036854775807∧0≤x1∧x1<x0.length∧∀z,x0[x1.toNat]?=some z→0≤x2∧x2<z.2.length∧x0.length≤9223372036854775807) (fun r:((Unit)⊕(Bool))=>True)
@[reducible,instance] def Qxb{x0 x1 x2}:=mkW (Wx.eq_1 N x0 x1 x2) (sz x0≤9223372036854775807∧0≤x1∧x1<x0.length∧(∀z,x0[x1.toNat]?=some z→0≤x2∧x2<z.2.length)) (fun r=>True)
@[reducible,instance] def Qxc{x1 x0 x2}{s}:=upI (N:=N) (s:=s) (C4.eq_def N x1 x0 x2) (fun t=>t) (x1) (fun t=>x1≤x0.length∧x0.length≤9223372036854775807) (fun r:((Unit)⊕(Int))=>True)
@[reducible,instance] def Qxd{x2 x0 x1}{s}:=upL (N:=N) (s:=s) (C5.eq_def N x2 x0 x1) (fun t=>t) x2.2.length (fun t=>sz x2≤9223372036854775807∧sz x0≤9223372036854775807∧Sh.sh x2∧Sh.sh x0∧0≤x1∧x1<x0.length∧x0[x1.toNat]?=some x2∧x0.length≤9223372036854775807) (fun r:((Unit)⊕(Int))=>True)
@[reducible,instance] def Q21{x0 x1}:=mkW (Ft.eq_1 N x0 x1) (sz x0≤9223372036854775807∧Sh.sh x0∧0≤x1∧x1<x0.length) (fun r=>True)
@[reducible,instance] def Quz{x0}{s}:=upL (N:=N) (s:=s) (A3.eq_def N x0) (fun t=>t) x0.length (fun t=>sz x0≤9223372036854775807∧Sh.sh x0∧x0.length≤9223372036854775807) (fun r:((Unit)⊕(Int))=>True)
@[reducible,instance] def Q1o{x0}:=mkW (Ee.eq_1 N x0) (sz x0≤9223372036854775807∧Sh.sh x0) (fun r=>True)
@[reducible,instance] def Qu0{x0}{s}:=upL (N:=N) (s:=s) (A4.eq_def N x0) (fun t=>t) x0.length (fun t=>sz x0≤9223372036854775807) (fun r:((Unit)⊕(Int))=>True)
@[reducible,instance] def Q1p{x0 x1}:=mkW (Ef.eq_1 N x0 x1) (sz x0≤9223372036854775807) (fun r=>True)
@[reducible,instance] def Qu1{v1 x0}{s}:=upI (N:=N) (s:=s) (A5.eq_def N v1 x0) (fun t=>t) (v1) (fun t=>v1<x0.length∧x0.length≤9223372036854775807) (fun r:((Unit)⊕(Int))=>True)
@[reducible,instance] def Qu2{x0}{s}:=upL (N:=N) (s:=s) (A6.eq_def N x0) (fun t=>t) x0.length (fun t=>sz x0≤9223372036854775807∧Sh.sh x0∧x0.length≤9223372036854775807) (fun r:((Unit)⊕(Int))=>True)
@[reducible,instance] def Q1q{x0}:=mkW (Eg.eq_1 N x0) (sz x0≤9223372036854775807∧Sh.sh x0) (fun r=>True)
@[reducible,instance] def Qxe{x0 x1}{s}:=upL (N:=N) (s:=s) (C6.eq_def N x0 x1) (fun t=>t) x0.2.2.2.1.length (fun t=>sz x0≤9223372036854775807) (fun r:((Unit)⊕(Bool))=>True)
@[reducible,instance] def Q22{x0 x1}:=mkW (Fu.eq_1 N x0 x1) (sz x0≤9223372036854775807) (fun r=>True)
@[reducible,instance] def Qxf{x0 x1}{s}:=upL (N:=N) (s:=s) (C7.eq_def N x0 x1) (fun t=>t) x0.2.2.2.2.1.length (fun t=>sz x0≤9223372036854775807) (fun r:((Unit)⊕(Bool))=>True)
@[reducible,instance] def Q23{x0 x1}:=mkW (Fv.eq_1 N x0 x1) (sz x0≤9223372036854775807) (fun r=>True)
@[reducible,instance] def Qu3{x0}{s}:=upL (N:=N) (s:=s) (A7.eq_def N x0) (fun t=>t.2) x0.length (fun t=>sz x0≤9223372036854775807) (fun r:((Unit)⊕(Int))=>True)
@[reducible,instance] def Q1r{x0}:=mkW (Xb.eq_1 N x0) (sz x0≤9223372036854775807) (fun r=>True)
@[reducible,instance] def Qu4{x0}{s}:=upL (N:=N) (s:=s) (A8.eq_def N x0) (fun t=>t) x0.2.2.2.2.2.1.length (fun t=>sz x0≤9223372036854775807) (fun r:((Unit)⊕(Int))=>True)
@[reducible,instance] def Q1s{x0}:=mkW (Eh.eq_1 N x0) (sz x0≤9223372036854775807) (fun r=>True)
@[reducible,instance] def Q1t{x0}:=mkW (Ei.eq_1 N x0) (True) (fun r=>(x0=4→r=1)∧(¬ (x0=1∨x0=2∨x0=3∨x0=4)→r=2∨r = -1))
@[reducible,instance] def Qxt{x0 x1}{s}:=upL (N:=N) (s:=s) (Ic.eq_def N x0 x1) (fun t=>t) x0.length (fun t=>sz x0≤9223372036854775807) (fun r:((Unit)⊕(Bool))=>True)
@[reducible,instance] def Q5b{x0 x1}:=mkW (Gr.eq_1 N x0 x1) (sz x0≤9223372036854775807) (fun r=>True)
@[reducible,instance] def Qsm{x0}:=mkW (Um.eq_1 N x0) (True) (fun r=>True)
@[reducible,instance] def Q5c{x0}:=mkW (Bz.eq_1 N x0) (sz x0≤9223372036854775807) (fun r=>r=0→((x0.x.1=4→x0.ks.length=1)∧(¬ (x0.x.1=1∨x0.x.1=2∨x0.x.1=3∨x0.x.1=4)→x0.ks.length=2)))
@[reducible,instance] def Qxu{x0 x1}:=mkW (G9.eq_1 N x0 x1) ((x0.x.1=4→1≤x1.length)∧(¬ (x0.x.1=1∨x0.x.1=2∨x0.x.1=3∨x0.x.1=4)→2≤x1.length)) (fun r=>True)
theorem Q1u{N:Nat}[Xy N]:∀(n:Nat) (e:Qj) (d:Int),1≤d→d≤17→18≤n+d→sz e≤1099511627776→W (Vh N n e d) fun _=>True
 | 0,e,d,h0,h1,h2,h3=>by omega
 | n+1,e,d,h0,h1,h2,h3=>by
  unfold Vh
  by_cases hd:d>16
  ·rw[if_pos (by simpa using hd)]
   exact⟨_,rfl,trivial⟩
  ·rw[if_neg (by simpa using hd)]
   have hw:IntKind.wrap .i64 (d+1)=d+1:=Qx (by omega) (by omega)
   have ih:∀x:Qj,WP (Vh N n x (IntKind.wrap .i64 (d+1))) (fun R=>sz x≤1099511627776∧∀r:Int×Int,True→R r):=fun x=>Dm fun h=>by rw[hw]; exact Q1u n x (d+1) (by omega) (by omega) (by omega) h
   have hk:=Qgz (e:=e)
   have hlen:=Kt (l:=e.ks)
   have loop:=fun s:Int×List Int=>upL (N:=N) (s:=s) (Lx.eq_def N (Vh N n) e d) (fun s=>s.1) e.ks.length (fun s=>sz e.ks≤1099511627776∧s.2.length=s.1) (fun r:List Int⊕(Int×Int)=>∀a,r=.inl a→a.length=e.ks.length)
   refine wp ?_
   simp only[ss,sz1,sh1,mx1,Sum.forall,Sum.inl.injEq,Sum.inr.injEq,reduceCtorEq,forall_eq',forall_eq,false_implies,implies_true,true_implies,and_true,true_and,forall_const,beq_iff_eq,bne_iff_ne,ne_eq,List.length_append,List.length_cons,QR]at *
   repeat' (first | intro _ | apply And.intro)
   all_goals first | assumption | omega | grind
@[reducible,instance] def Q8n{N:Nat}[hN:Xy N]{x0:Qj}{x1:Int}:WP (Qai N x0 x1) (fun R=>(sz x0≤1099511627776∧x1=1)∧∀r:Int×Int,True→R r):=Dm (by
  intro h
  have:=hN.le
  exact Q1u N x0 x1 (by omega) (by omega) (by omega) h.1)
@[reducible,instance] def Q24{x0}:=mkW (Fw.eq_1 N x0) (sz x0≤1099511627776) (fun r=>True)
@[reducible,instance] def Qn5{v1 x0 x2}{s}:=upI (N:=N) (s:=s) (Gz.eq_def N v1 x0 x2) (fun t=>t) (v1) (fun t=>v1≤x0.2.2.2.2.2.2.length∧x0.2.2.2.2.2.2.length≤9223372036854775807) (fun r:((Unit)⊕(Int))=>True)
@[reducible,instance] def Qn6{x0}{s}:=upL (N:=N) (s:=s) (G0.eq_def N x0) (fun t=>t) x0.2.2.2.2.2.2.length (fun t=>sz x0≤1099511627776∧Sh.sh x0) (fun r:((Unit)⊕(Int))=>True)
@[reducible,instance] def Qsn{x0}:=mkW (Xc.eq_1 N x0) (sz x0≤1099511627776∧Sh.sh x0) (fun r=>True)
@[reducible,instance] def Qxv{x0}:=mkW (Ha.eq_1 N x0) (sz x0≤1099511627776∧Sh.sh x0) (fun r=>True)
@[reducible,instance] def Q1v{x0 x1}:=mkW (Ej.eq_1 N x0 x1) (sz x0≤9223372036854775807∧sz x1≤9223372036854775807) (fun r=>True)
@[reducible,instance] def Qu5{x0}{s}:=upL (N:=N) (s:=s) (A9.eq_def N x0) (fun t=>t) x0.length (fun t=>sz x0≤1099511627776∧Sh.sh x0∧x0.length≤1099511627776) (fun r:((Unit)⊕(Int))=>True)
@[reducible,instance] def Q1w{x0}:=mkW (Ek.eq_1 N x0) (sz x0≤1099511627776∧Sh.sh x0) (fun r=>True)
@[reducible,instance] def Qu6{x0}{s}:=upL (N:=N) (s:=s) (Ba.eq_def N x0) (fun t=>t) x0.length (fun t=>sz x0≤9223372036854775807∧Sh.sh x0) (fun r:((Unit)⊕(Bool))=>True)
@[reducible,instance] def Q1x{x0}:=mkW (El.eq_1 N x0) (sz x0≤9223372036854775807∧Sh.sh x0) (fun r=>True)
@[reducible,instance] def Q1y{x0}:=mkW (U4.eq_1 N x0) (True) (fun r=>True)
@[reducible,instance] def Qxw{x0 x1}{s}:=upL (N:=N) (s:=s) (Id.eq_def N x0 x1) (fun t=>t.2.1) x0.length (fun t=>x0.length≤1099511627776∧t.2.2.length≤t.2.1+1∧(t.1=false→t.2.2.length≤t.2.1)) (fun r:((Bool×(List Int)))=>r.2.length≤x0.length+1∧(r.1=false→r.2.length≤x0.length))
@[reducible,instance] def Q5d{x0 x1}:=mkW (Gs.eq_1 N x0 x1) (sz x0≤1099511627776) (fun r=>r.length≤x0.length+1)
@[reducible,instance] def Qso{x1}{s}:=upL (N:=N) (s:=s) (Fx.eq_def N x1) (fun t=>t.2) x1.length (fun t=>sz x1≤1099511627776∧s.1.length≤1099511627∧x1.length≤1099511627∧(t.1.length:Int)+2*(x1.length - t.2)≤s.1.length+2*(x1.length - s.2)∧0≤s.2) (fun r:(((List Int)))=>(r.length:Int)≤s.1.length+2*(x1.length - s.2))
@[reducible,instance] def Qxx{x0 x1}:=mkW (Z9.eq_1 N x0 x1) (x0.length≤1099511627∧x1.length≤1099511627) (fun r=>r.length≤x0.length+2*x1.length)
@[reducible,instance] def Qu7{x0 x1}:=mkW (Xw.eq_1 N x0 x1) (True) (fun r=>True)
@[reducible,instance] def Q1z{x0 x1}{s}:=upL (N:=N) (s:=s) (Ly.eq_def N x0 x1) (fun t=>t) x0.length (fun t=>sz x0≤9223372036854775807) (fun r:((Unit)⊕(Bool))=>True)
@[reducible,instance] def Q8o{x0 x1}:=mkW (Hw.eq_1 N x0 x1) (sz x0≤9223372036854775807) (fun r=>True)
@[reducible,instance] def Qsp{r2 x0 x2 x1 x3}{s}:=upI (N:=N) (s:=s) (Fy.eq_def N r2 x0 x2 x1 x3) (fun t=>t.1) ((r2.length:Int)) (fun t=>r2.length≤1099511627776∧t.1≤r2.length∧t.2.length≤t.1∧sz x0≤1099511627776∧sz x1≤1099511627776) (fun r:(((List Qa)))=>r.length≤r2.length)
@[reducible,instance] def Qxy{x0 x1 x2 x3}:=mkW (Hb.eq_1 N x0 x1 x2 x3) (x0.length≤1000∧x1.length≤1000) (fun r=>True)
@[reducible,instance] def Qxz{x0 x1}:=mkW (Hc.eq_1 N x0 x1) (x0.length≤1000∧x1.length≤1000) (fun r=>True)
@[reducible,instance] def Qsq{x0 x1}:=mkW (Xd.eq_1 N x0 x1) (True) (fun r=>True)
@[reducible,instance] def Qnl{v1 x0 x2}{s}:=upI (N:=N) (s:=s) (Wy.eq_def N v1 x0 x2) (fun t=>t) (v1) (fun t=>v1<x0.length∧x0.length≤9223372036854775807) (fun r:((Unit)⊕(Bool))=>True)
@[reducible,instance] def Qnm{x0}{s}:=upL (N:=N) (s:=s) (Wz.eq_def N x0) (fun t=>t) x0.length (fun t=>sz x0≤9223372036854775807∧x0.length≤9223372036854775807) (fun r:((Unit)⊕(Bool))=>True)
@[reducible,instance] def Qrw{x0}:=mkW (Kn.eq_1 N x0) (sz x0≤9223372036854775807) (fun r=>True)
@[reducible,instance] def Qu8{x0 x1}{s}:=Qk4 (N:=N) (s:=s) (Bb.eq_def N x0 x1) x0.2.1 (sz x0.2.1≤9223372036854775807∧Sh.sh x0.2.1∧1≤x1∧x1≤200) (fun y=>(sz y:Int)≤4*x1∧Uk y) ((szL x0.2.1:Int)≤4*x1∧Qr Uk x0.2.1) (fun u=>u=false) (fin:=fun h ze=>⟨Qiy (fun y hy=>(ze y hy).1) (by omega),⟨fun y hy=>(ze y hy).2⟩⟩)
@[reducible,instance] def Qu9{x0 x1}{s}:=Qk4 (N:=N) (s:=s) (Bc.eq_def N x0 x1) x0.2.2.2.2.2 (x0.2.2.2.2.2.length≤9223372036854775807∧1≤x1∧x1≤200) (fun y=>(sz y:Int)≤x1) ((szL (x0.2.2.2.2.2):Int)≤x1) (fun u=>u=false)
@[reducible,instance] def Qva{x0 x1}{s}:=Qk4 (N:=N) (s:=s) (Bd.eq_def N x0 x1) x0.2.2.1 (x0.2.2.1.length≤9223372036854775807∧1≤x1∧x1≤200) (fun y=>(y.2.2.2.2.2.length:Int)≤x1) (Qr (fun p:Qo=>(p.2.2.2.2.2.length:Int)≤x1) x0.2.2.1) (fun u=>u=false) (fin:=fun h ze=>⟨ze⟩)
@[reducible,instance] def Qvb{x0}{s}:=Qk4 (N:=N) (s:=s) (Be.eq_def N x0) x0.2.2.2.2.1 (x0.2.2.2.2.1.length≤9223372036854775807) (fun y=>True) (∀y∈x0.2.2.2.2.1,True) (fun u=>u=false)
@[reducible,instance] def Q10{x0 x1}:=mkW (Em.eq_1 N x0 x1) (sz x0≤9223372036854775807∧Sh.sh x0∧1≤x1∧x1≤200) (fun r=>r=true→(sz x0:Int)≤4096∧(x0.1.length:Int)≤x1∧(x0.2.2.1.length:Int)≤x1∧Qr Uk x0.2.1∧Qr (fun p:Qo=>(p.2.2.2.2.2.length:Int)≤x1) x0.2.2.1∧(r=true→Qr V9 x0.2.2.1))
def Qnn(u:Qc):Int×Int×Int×Int:=(u.2.2.2.2.2.2.1,u.2.2.2.2.2.2.2.2.2.2.1,u.2.2.2.2.2.2.2.2.2.2.2,u.1)
def klt(a b:Int×Int×Int×Int):Prop:=a.1<b.1∨(a.1=b.1∧(a.2.1<b.2.1∨(a.2.1=b.2.1∧(a.2.2.1<b.2.2.1∨(a.2.2.1=b.2.2.1∧a.2.2.2<b.2.2.2)))))
def ule(u v:Qc):Prop:=¬ klt (Qnn v) (Qnn u)
theorem Jbf{a b c:Int×Int×Int×Int}(h:¬ klt b a)(k:¬ klt c b):¬ klt c a:=by
 unfold klt at *
 omega
theorem Qvc{a b:Int×Int×Int×Int}(h:klt a b):¬ klt b a:=by
 unfold klt at *
 omega
theorem Jbg{u v w:Qc}(h:ule u v)(k:ule v w):ule u w:=Jbf h k
structure Ids(l:List Qc):Prop where
 inj:∀u∈l,∀v∈l,u.1=v.1→u=v
instance {a b:Int×Int×Int×Int}:Decidable (klt a b):=by unfold klt; infer_instance
def leB(x y:Qc):Bool:=!decide (klt (Qnn y) (Qnn x))
theorem Of{x y:Qc}:leB x y=true↔ule x y:=by unfold leB ule; simp
theorem Qee{N:Nat}(a b:Te):W0 N a b=some (decide (klt a b)):=by
 obtain⟨a1,a2,a3,a4⟩:=a
 obtain⟨b1,b2,b3,b4⟩:=b
 unfold W0
 simp only[Bool.and_true]
 by_cases h1:a1=b1
 ·by_cases h2:a2=b2
  ·by_cases h3:a3=b3
   ·by_cases h4:a4=b4
    ·subst h1 h2 h3 h4
     rw[decide_eq_false (fun h=>Qvc h h)]; simp
    ·have:decide (klt (a1,a2,a3,a4) (b1,b2,b3,b4))=decide (a4<b4):=by
      refine decide_eq_decide.2 ?_
      unfold klt; simp only; omega
     rw[this]; simp[h1,h2,h3,h4]
   ·have:decide (klt (a1,a2,a3,a4) (b1,b2,b3,b4))=decide (a3<b3):=by
     refine decide_eq_decide.2 ?_
     unfold klt; simp only; omega
    rw[this]; simp[h1,h2,h3]
  ·have:decide (klt (a1,a2,a3,a4) (b1,b2,b3,b4))=decide (a2<b2):=by
    refine decide_eq_decide.2 ?_
    unfold klt; simp only; omega
   rw[this]; simp[h1,h2]
 ·have:decide (klt (a1,a2,a3,a4) (b1,b2,b3,b4))=decide (a1<b1):=by
   refine decide_eq_decide.2 ?_
   unfold klt; simp only; omega
  rw[this]; simp[h1]
theorem Qi3{α:Type}(x:α)(l:List α):slc (x::l) 1 (((x::l).length:Nat):Int)=some l:=by
 unfold slc
 rw[if_pos ⟨by omega,by simp; omega,by omega⟩]
 simp
theorem Cg{α:Type}{b:Nat}{l m:List α}(h:(l.length+m.length)*b≤140737488355328):app b l m=some (l++m):=by unfold app; rw[if_pos h]
theorem Nf{N:Nat}:∀(k n:Nat) (a b o:List Qc),a.length+b.length=k→k<n→(o.length+k)*112≤140737488355328→Qf (J8 N) n (a,b,o)=some (o++List.merge a b leB)
 | k,0,a,b,o,hk,hn,hb=>by omega
 | k,n+1,[],[],o,hk,hn,hb=>by
  simp[Qf,J8]
 | k,n+1,x::a,[],o,hk,hn,hb=>by
  simp only[List.length_cons,QR]at hk
  have ih:=Nf (N:=N) (k - 1) n a [] (o++[x]) (by simp; omega) (by omega) (by simp; omega)
  have e:J8 N (x::a,[],o)=some (.inl (a,[],o++[x])):=by
   unfold J8
   have ha:=Cg (l:=o) (m:=[x]) (b:=112) (by simp; omega)
   simp only[Qi3]
   simp[idx,ha]
  simp[Qf,e,ih]
 | k,n+1,[],y::b,o,hk,hn,hb=>by
  simp only[List.length_cons,QR]at hk
  have ih:=Nf (N:=N) (k - 1) n [] b (o++[y]) (by simp; omega) (by omega) (by simp; omega)
  have e:J8 N ([],y::b,o)=some (.inl ([],b,o++[y])):=by
   unfold J8
   have ha:=Cg (l:=o) (m:=[y]) (b:=112) (by simp; omega)
   simp only[Qi3]
   have zk:¬ ((b.length:Int)+1=0):=by omega
   simp[idx,ha,zk]
  simp[Qf,e,ih]
 | k,n+1,x::a,y::b,o,hk,hn,hb=>by
  simp only[List.length_cons]at hk
  have zk:¬ ((b.length:Int)+1=0):=by omega
  have ie:(0:Int)<(a.length:Int)+1:=by omega
  cases hle:leB x y with
  | true =>
   have ih:=Nf (N:=N) (k - 1) n a (y::b) (o++[x]) (by simp; omega) (by omega) (by simp; omega)
   have e:J8 N (x::a,y::b,o)=some (.inl (a,y::b,o++[x])):=by
    unfold J8
    have hq:decide (klt (Qnn y) (Qnn x))=false:=by unfold leB at hle; simpa using hle
    have hf:∀u,B0 N u=some (Qnn u):=fun u=>rfl
    have ha:=Cg (l:=o) (m:=[x]) (b:=112) (by simp; omega)
    simp only[Qi3,hf,Qee,hq]
    simp[idx,zk,ie,hf,Qee,hq,ha]
   rw[List.cons_merge_cons_pos _ _ _ hle]
   simp[Qf,e,ih]
  | false =>
   have ih:=Nf (N:=N) (k - 1) n (x::a) b (o++[y]) (by simp; omega) (by omega) (by simp; omega)
   have e:J8 N (x::a,y::b,o)=some (.inl (x::a,b,o++[y])):=by
    unfold J8
    have hq:decide (klt (Qnn y) (Qnn x))=true:=by unfold leB at hle; simpa using hle
    have hf:∀u,B0 N u=some (Qnn u):=fun u=>rfl
    have ha:=Cg (l:=o) (m:=[y]) (b:=112) (by simp; omega)
    simp only[Qi3,hf,Qee,hq]
    simp[idx,zk,ie,hf,Qee,hq,ha]
   rw[List.cons_merge_cons_neg _ _ _ (by simp[hle])]
   simp[Qf,e,ih]
theorem Qxg{N:Nat}[hN:Xy N]:∀(n:Nat) (l:List Qc),l.length<n→l.length≤1000→∃r,Zj N n l=some r∧r.Perm l∧r.Pairwise ule
 | 0,l,h,_=>by omega
 | n+1,l,h,hl=>by
  unfold Zj
  by_cases h2:l.length<2
  ·rw[if_pos (decide_eq_true (by omega)),Cg (by simp; omega),QW,QU]
   refine⟨l,rfl,.refl _,?_⟩
   cases l with
   | nil=>exact .nil
   | cons x t =>
    cases t with
    | nil=>exact ZW _ _
    | cons y t=>simp only[List.length_cons]at h2; omega
  ·rw[if_neg (fun hc=>h2 (by have:=of_decide_eq_true hc; omega))]
   have hd:IntKind.wrap .i64 (Int.tdiv (l.length:Int) 2)=((l.length / 2:Nat):Int):=by
    rw[QG (by omega),Qx (by omega) (by omega)]; omega
   rw[hd]
   have e1:slc l 0 ((l.length / 2:Nat):Int)=some (l.take (l.length / 2)):=by
    unfold slc
    rw[if_pos ⟨by omega,by omega,by omega⟩]
    have:(((l.length / 2:Nat):Int) - 0).toNat=l.length / 2:=by omega
    rw[this]; rfl
   have e2:slc l ((l.length / 2:Nat):Int) (l.length:Int)=some (l.drop (l.length / 2)):=by
    unfold slc
    rw[if_pos ⟨by omega,by omega,by omega⟩]
    have:((l.length:Int) - ((l.length / 2:Nat):Int)).toNat=(l.drop (l.length / 2)).length:=by rw[List.length_drop]; omega
    rw[Int.toNat_natCast,this,List.take_length]
   obtain⟨a,ea,pa,sa⟩:=Qxg (N:=N) n (l.take (l.length / 2)) (by rw[List.length_take]; omega) (by rw[List.length_take]; omega)
   obtain⟨b,eb,pb,sb⟩:=Qxg (N:=N) n (l.drop (l.length / 2)) (by rw[List.length_drop]; omega) (by rw[List.length_drop]; omega)
   have la:=pa.length_eq
   have lb:=pb.length_eq
   rw[List.length_take]at la
   rw[List.length_drop]at lb
   have hm:∀z:Qc,Gd.mkL 112 0 (l.length:Int) z=some []:=fun z=>by
    unfold Gd.mkL
    rw[if_pos ⟨by omega,by omega,by omega⟩]; rfl
   have ed:=Nf (N:=N) (a.length+b.length) N a b [] rfl (by have:=hN.le; omega) (by simp; omega)
   rw[e1,QW,ea,QW,e2,QW,eb,QW,hm,QW,ed]
   refine⟨List.merge a b leB,by simp,?_,?_⟩
   ·refine(List.merge_perm_append leB).trans ((pa.append pb).trans ?_)
    rw[List.take_append_drop]
   ·have hp:=List.pairwise_merge (le:=leB) (fun x y z h k=>Of.2 (Jbg (Of.1 h) (Of.1 k))) (fun x y=>by
     rw[JZ,Of,Of]
     unfold ule
     by_cases h:klt (Qnn y) (Qnn x)
     ·exact .inr (Qvc h)
     ·exact .inl h) a b (sa.imp Of.2) (sb.imp Of.2)
    exact hp.imp Of.1
theorem Jg9{N:Nat}[hN:Xy N]{l:List Qc}(hl:l.length≤1000):∃r,Cl N l=some r∧r.Perm l∧r.Pairwise ule:=Qxg N l (by have:=hN.le; omega) hl
@[reducible,instance] def Qx0{x0}:=mkW (Hd.eq_1 N x0) (True) (fun r=>r=true→0≤x0.2.2.2.2.2.2.1∧x0.2.2.2.2.2.2.1<12622780800∧(r=true→UsF x0)) (k:=by
  intro h
  try simp only[sS,reduceCtorEq]at *
  repeat' (first | intro _ | apply And.intro)
  all_goals first | exact⟨⟨by omega,by omega⟩,by omega,by omega⟩ | exact lv)
@[reducible,instance] def Q25{x0}:=mkW (Fz.eq_1 N x0) (True) (fun r=>r=true→x0<86400000∨x0>12622780800)
@[reducible,instance] def Q26{x0 x1}{s}:=upL (N:=N) (s:=s) (Nv.eq_def N x0 x1) (fun t=>t) x0.length (fun t=>sz x0≤9223372036854775807) (fun r:((Int))=>0≤r∧r≤x0.length)
@[reducible,instance] def Jbh{x0 x1}:=mkW (Lz.eq_1 N x0 x1) (sz x0≤1099511627776) (fun r=>sz r≤sz x0+1)
@[reducible,instance] def Qxh{x0 x1}{s}:=upL (N:=N) (s:=s) (Db.eq_def N x0 x1) (fun t=>t.1) x0.length (fun t=>sz x0≤1099511627776∧t.2.length≤t.1∧sz t.2≤(sz x0)) (fun r:(((List Str)))=>sz r≤(sz x0))
@[reducible,instance] def Q27{x0 x1}:=mkW (F0.eq_1 N x0 x1) (sz x0≤1099511627776) (fun r=>sz r≤(sz x0))
@[reducible,instance] def Jbi{x0 x1}:=mkW (L0.eq_1 N x0 x1) (sz x0≤1099511627776) (fun r=>r.2.2.2.2.1.length≤x0.2.2.2.2.1.length+1∧r.2.2.2.2.2.1.length≤x0.2.2.2.2.2.1.length+1)
@[reducible,instance] def Qxi{x0 x1}{s}:=upL (N:=N) (s:=s) (Dc.eq_def N x0 x1) (fun t=>t.1) x0.length (fun t=>x0.length≤32∧t.2.1.length≤t.1∧sz t.2.1≤t.1∧sz t.2.2≤t.1) (fun r:(((List Qy)))=>sz r≤32)
@[reducible,instance] def Q28{x0 x1}:=mkW (F2.eq_1 N x0 x1) (x0.length≤32) (fun r=>sz r≤32)
@[reducible,instance] def Q11{x0 x1}{s}:=upL (N:=N) (s:=s) (L1.eq_def N x0 x1) (fun t=>t) x0.2.2.2.2.2.1.length (fun t=>sz x0≤9223372036854775807∧sz x1≤9223372036854775807∧x0.2.2.2.2.2.1.length=x1.2.2.2.2.2.1.length) (fun r:((Unit)⊕(Bool))=>True)
@[reducible,instance] def Q8p{x0 x1}:=mkW (Dw.eq_1 N x0 x1) (sz x0≤9223372036854775807∧sz x1≤9223372036854775807) (fun r=>True)
@[reducible,instance] def Q12{x0 x1}:=mkW (Eo.eq_1 N x0 x1) (sz x0≤9223372036854775807∧sz x1≤9223372036854775807) (fun r=>True)
@[reducible,instance] def Q13{x0 x1}:=mkW (Ep.eq_1 N x0 x1) (True) (fun r=>sz r≤sz x0)
@[reducible,instance] def Qdp{x0}{s}:=upL (N:=N) (s:=s) (Ui.eq_def N x0) (fun t=>t.1) x0.length (fun t=>sz x0≤32∧t.2.length≤t.1∧sz t.2≤32∧x0.length≤32) (fun r:(((List Qy)))=>sz r≤32)
@[reducible,instance] def Qfm{x0}:=mkW (Y3.eq_1 N x0) (sz x0≤32) (fun r=>sz r≤32)
@[reducible,instance] def Qx1{r2}{s}:=upL (N:=N) (s:=s) (Ie.eq_def N r2) (fun t=>t.1) r2.length (fun t=>sz r2≤32∧t.2.length≤t.1∧sz t.2≤32∧r2.length≤32) (fun r:(((List Q8)))=>sz r≤32)
@[reducible,instance] def Q5e{x0 x1}:=mkW (Gt.eq_1 N x0 x1) (x0.length≤32) (fun r=>sz r≤32)
@[reducible,instance] def Jbj{x0}:=mkW (V6.eq_1 N x0) (True) (fun r=>r=true→0≤x0.1∧x0.1<x0.2∧x0.2≤12622780800)
@[reducible,instance] def Q29{x0 x1}:=mkW (Wb.eq_1 N x0 x1) (True) (fun r=>True)
@[reducible,instance] def Q8q{r1 x2}{s}:=upL (N:=N) (s:=s) (Qaj.eq_def N r1 x2) (fun t=>t.1) r1.length (fun t=>sz r1≤9223372036854775807∧r1.length≤9223372036854775807) (fun r:((Qa×Str×Bool×Bool)⊕(Bool×Q8))=>sz r≤(sz r1))
@[reducible,instance] def Jha{x0 x1 x2}:=mkW (Tg.eq_1 N x0 x1 x2) (x0.length≤32) (fun r=>sz r≤32)
@[reducible,instance] def Jbk:=mkW (L2.eq_1 N) (True) (fun r=>sz r≤0)
@[reducible,instance] def Jcp{x0 x1}:=mkW (Ot.eq_1 N x0 x1) (sz x0≤9223372036854775807) (fun r=>r.1.length=x0.length)
@[reducible,instance] def Q14{x1 x2}{s}:=upL (N:=N) (s:=s) (L3.eq_def N x1 x2) (fun t=>t.1) x1.length (fun t=>x1.length≤32∧t.2.length≤t.1) (fun r:(((Unit)⊕(Unit))×(List Qv))=>r.2.length≤32)
@[reducible,instance] def Q8r{x1 x2}:=mkW (Dy.eq_1 N x1 x2) (x1.length≤32) (fun r=>r.length≤32)
@[reducible,instance] def Qvd{x0 x1}{s}:=upL (N:=N) (s:=s) (Bf.eq_def N x0 x1) (fun t=>t) x0.length (fun t=>sz x0≤9223372036854775807) (fun r:((Int))=>0≤r∧r≤x0.length)
@[reducible,instance] def Q15{x0 x1}:=mkW (Xe.eq_1 N x0 x1) (sz x0≤1099511627776) (fun r=>r.length≤x0.length+1)
@[reducible,instance] def Qrk{x0 x1}{s}:=upL (N:=N) (s:=s) (Hk.eq_def N x0 x1) (fun t=>t) x0.length (fun t=>sz x0≤9223372036854775807) (fun r:((Int))=>0≤r∧r≤x0.length)
@[reducible,instance] def Qve{x0 x1}:=mkW (Zb.eq_1 N x0 x1) (sz x0≤1099511627776) (fun r=>r.length≤x0.length+1)
@[reducible,instance] def Q16{x0 x1}{s}:=upL (N:=N) (s:=s) (L4.eq_def N x0 x1) (fun t=>t.1) x0.length (fun t=>sz x0≤1099511627776∧t.2.length≤t.1∧sz t.2≤(sz x0)) (fun r:(((List Str)))=>sz r≤(sz x0))
@[reducible,instance] def Q8s{x0 x1}:=mkW (Hx.eq_1 N x0 x1) (sz x0≤1099511627776) (fun r=>sz r≤(sz x0))
@[reducible,instance] def Qsr{x1 x2 ca cd ce cg ci cj ck}:=mkW (Xf.eq_1 N x1 x2 ca cd ce cg ci cj ck) (sz x1≤1099511627) (fun r=>sz r.1≤sz x1+1∧r.2.length≤cg.length+1)
@[reducible,instance] def Qno{x1 cd}{s}:=upL (N:=N) (s:=s) (W5.eq_def N x1 cd) (fun t=>t.1) ((((Qw (k:=(.int .i64)) x1.2.2.2.1 cd).getD (0,0,0,([]:Str),([]:List Str),([]:List Str),false,false)).2.2.2.2.1)).length (fun t=>sz cd≤1099511627∧t.2.length≤s.2.length∧cd.length≤1099511627) (fun r:(((List (Str×Int))))=>r.length≤s.2.length) (fun t h=>by have:=Qw1 cd x1.2.2.2.1; omega)
@[reducible,instance] def Qrx{x1 ca cd ce cg ci cj ck}:=mkW (Ko.eq_1 N x1 ca cd ce cg ci cj ck) (sz ca≤1099511627∧sz cd≤1099511627∧ce.length≤1099511627∧cg.length≤1099511627∧ci.length≤1099511627∧cj.length≤1099511627∧ck.length≤1099511627) (fun r=>sz r.1≤sz ca+1∧sz r.2.1≤sz cd+1∧r.2.2.1.length≤ce.length+1∧r.2.2.2.1.length≤cg.length+1∧r.2.2.2.2.1.length≤ci.length+1∧r.2.2.2.2.2.1.length≤cj.length+1∧r.2.2.2.2.2.2.length≤ck.length+1) (k:=by
  intro h
  have g0:=Qw1 cd; have g1:=Q8j ca
  try simp only[sS,reduceCtorEq]at *
  repeat' (first | intro _ | apply And.intro)
  all_goals first | (refine Nat.le_trans (Cm _ _ _) (XN.2 ⟨?_,?_⟩)<;>(try simp only[sz1,mx1])<;>grind) | exact lv)
@[reducible,instance] def Qmb{ck cd}{s}:=upL (N:=N) (s:=s) (Wc.eq_def N ck cd) (fun t=>t.1) ck.length (fun t=>ck.length≤1099511627∧sz cd≤1099511627∧(sz t.2.1:Int)≤t.1∧t.2.2.length≤t.1∧sz t.2.2≤t.1+sz cd∧cd.length≤1099511627) (fun r:(((List (Int×(List Int)))×(List Jj)))=>sz r.1≤ck.length∧sz r.2≤ck.length+sz cd) (step:=by
  intro s h h0 h1 h2 hw
  have g0:=Qw1 cd; have g1:=Q03 s.2.1
  try simp only[sS,reduceCtorEq]at *
  repeat' (first | intro _ | apply And.intro)
  all_goals first | (refine Jj3 ?_ ?_<;>(try simp only[sz1,mx1,List.length_append,List.length_cons,QR])<;>grind) | exact lv)
@[reducible,instance] def Qmc{cj ca v20}{s}:=upL (N:=N) (s:=s) (Wd.eq_def N cj ca v20) (fun t=>t.1) cj.length (fun t=>cj.length≤1099511627∧sz ca≤1099511627∧sz v20≤1099511627∧t.2.1.length≤t.1∧sz t.2.1≤3298534881∧sz t.2.2≤10995116270∧ca.length≤1099511627∧v20.length≤1099511627) (fun r:(((List Qn)×(List Jj)))=>sz r.1≤3298534881∧sz r.2≤10995116270) (step:=by
  intro s h h0 h1 h2 hw
  have g0:=Q8j ca; have g1:=Q03 v20
  try simp only[sS,reduceCtorEq]at *
  repeat' (first | intro _ | apply And.intro)
  all_goals first | exact lv)
@[reducible,instance] def Qrl{ca cd ce cg ci cj ck}:=mkW (Zz.eq_1 N ca cd ce cg ci cj ck) (sz ca≤1099511627∧sz cd≤1099511627∧ce.length≤1099511627∧cg.length≤1099511627∧ci.length≤1099511627∧cj.length≤1099511627∧ck.length≤1099511627) (fun r=>sz r.1≤10995116270∧sz r.2≤10995116270)
@[reducible,instance] def Q3a{es:List Qv}{s:(List (Int×Qn))×(List (Int×Jj))×(List (Int×Bool))×(List (Str×Int))×(List (Int×Int))×(List Int)×(List Int)}:=Jop (f:=We N) (es:=es) (fun n s=>es.length≤32∧(sz s.1:Int)≤n∧(sz s.2.1:Int)≤n∧(s.2.2.1.length:Int)≤n∧(s.2.2.2.1.length:Int)≤n∧(s.2.2.2.2.1.length:Int)≤n∧(s.2.2.2.2.2.1.length:Int)≤n∧(s.2.2.2.2.2.2.length:Int)≤n) (by
  intro n s e he h0 hn h
  show W (We N s e) _
  rw[We.eq_1]
  refine wp ?_
  try simp only[sS,reduceCtorEq]at *
  repeat' (first | intro _ | apply And.intro)
  all_goals first | assumption | omega) (s:=s)
@[reducible,instance] def Jbl{x0 x1}:=mkW (F3.eq_1 N x0 x1) (x0.length≤32) (fun r=>sz r.1≤10995116270∧sz r.2≤10995116270)
@[reducible,instance] def Q8t{r2 x1}{s}:=upL (N:=N) (s:=s) (Qak.eq_def N r2 x1) (fun t=>t.1) r2.length (fun t=>sz r2≤10995116270∧r2.length≤10995116270) (fun r:((Int×Int×Int×Str×Bool×Bool)⊕(Bool×Jj))=>∀t,r=.inr t→sz t.2≤10995116270)
@[reducible,instance] def Jhb{x0 x1 x2}:=mkW (Th.eq_1 N x0 x1 x2) (x0.length≤32) (fun r=>sz r.1≤10995116270)
@[reducible,instance] def Qx2{r1 x1}{s}:=upL (N:=N) (s:=s) (If.eq_def N r1 x1) (fun t=>t.1) r1.length (fun t=>sz r1≤10995116270∧r1.length≤10995116270) (fun r:((Int×Int×Int×Bool×Bool)⊕(Bool×Qn))=>∀t,r=.inr t→sz t.2≤10995116270)
@[reducible,instance] def Q5f{x0 x1 x2}:=mkW (B1.eq_1 N x0 x1 x2) (x0.length≤32) (fun r=>sz r.1≤10995116270)
@[reducible,instance] def Qxj{x0}:=mkW (W6.eq_1 N x0) (x0.length≤4096) (fun r=>r=x0)
@[reducible,instance] def Qss{x0}:=mkW (Xg.eq_1 N x0) (x0.length≤4096) (fun r=>r=x0)
@[reducible,instance] def Qst{x0}:=mkW (Xh.eq_1 N x0) (x0.length≤4096) (fun r=>r=x0)
theorem Qa2{N:Nat}[Xy N]:∀(n:Nat) (e:Qj),dpt e≤n→sz e≤4096→W (Z0 N n e) fun r=>r=e
 | 0,e,h,hs=>by cases e with | mk a ks=>rw[dpt]at h; omega
 | n+1,e,h,hs=>by
  unfold Z0
  have hk:=Qgz (e:=e)
  have hlen:=Kt (l:=e.ks)
  have ih:∀x:Qj,WP (Z0 N n x) (fun R=>(x∈e.ks∧sz x≤4096)∧∀r:Qj,r=x→R r):=fun x=>Dm fun hx=>Qa2 n x (by have:=Jgz hx.1; omega) hx.2
  have loop:=fun s:Int×List Qj=>upL (N:=N) (s:=s) (Qb7.eq_def N (Z0 N n) e) (fun s=>s.1) e.ks.length (fun s=>e.ks.length≤4096∧s.2=e.ks.take s.1.toNat) (fun r:List Qj=>r=e.ks) (step:=by
   intro s h h0 h1 h2 hw
   try simp only[sS,reduceCtorEq]at *
   repeat' (first | intro _ | apply And.intro)
   all_goals first | assumption | omega | grind [Yp,Y2])
  refine wp ?_
  simp only[forall_eq]
  refine⟨⟨⟨by omega,by simp⟩,by omega,by omega⟩,?_⟩
  cases e with
  | mk a ks=>rfl
@[reducible,instance] def Jh7{N:Nat}[hN:Xy N]{x0:Qj}:WP (Qlx N x0) (fun R=>(sz x0≤4096∧dpt x0≤4096)∧∀r:Qj,r=x0→R r):=Dm (by
  intro h
  have:=hN.le
  exact Qa2 N x0 (by omega) h.1)
@[reducible,instance] def Q8u{x0}{s}:=upL (N:=N) (s:=s) (Qal.eq_def N x0) (fun t=>t.1) x0.2.2.2.1.length (fun t=>sz x0≤4096∧t.2.1=x0.1∧t.2.2.1=x0.2.1∧t.2.2.2.1=x0.2.2.1∧t.2.2.2.2=x0.2.2.2.1.take t.1.toNat) (fun r:((Str×Int×Bool×(List Qq)))=>r.1=x0.1∧r.2.1=x0.2.1∧r.2.2.1=x0.2.2.1∧r.2.2.2=x0.2.2.2.1) (step:=by
  intro s h h0 h1 h2 hw
  try simp only[sS,reduceCtorEq]at *
  repeat' (first | intro _ | apply And.intro)
  all_goals first | grind [Yp,Y2,Uk.deep] | exact lv)
@[reducible,instance] def Q8v{x0}{s}:=upL (N:=N) (s:=s) (Qam.eq_def N x0) (fun t=>t.1) x0.2.2.2.2.1.length (fun t=>sz x0≤4096∧t.2.1=x0.1∧t.2.2.1=x0.2.1∧t.2.2.2.1=x0.2.2.1∧t.2.2.2.2.1=x0.2.2.2.1∧t.2.2.2.2.2=x0.2.2.2.2.1.take t.1.toNat) (fun r:((Str×Int×Bool×(List Qq)×(List Qt)))=>r.1=x0.1∧r.2.1=x0.2.1∧r.2.2.1=x0.2.2.1∧r.2.2.2.1=x0.2.2.2.1∧r.2.2.2.2=x0.2.2.2.2.1) (step:=by
  intro s h h0 h1 h2 hw
  try simp only[sS,reduceCtorEq]at *
  repeat' (first | intro _ | apply And.intro)
  all_goals first | grind [Yp,Y2,Uk.deep] | exact lv)
@[reducible,instance] def Q8w{x0}{s}:=upL (N:=N) (s:=s) (Qan.eq_def N x0) (fun t=>t.1) x0.2.2.2.2.2.1.length (fun t=>sz x0≤4096∧t.2.1=x0.1∧t.2.2.1=x0.2.1∧t.2.2.2.1=x0.2.2.1∧t.2.2.2.2.1=x0.2.2.2.1∧t.2.2.2.2.2.1=x0.2.2.2.2.1∧t.2.2.2.2.2.2=x0.2.2.2.2.2.1.take t.1.toNat) (fun r:((Str×Int×Bool×(List Qq)×(List Qt)×(List Jc)))=>r.1=x0.1∧r.2.1=x0.2.1∧r.2.2.1=x0.2.2.1∧r.2.2.2.1=x0.2.2.2.1∧r.2.2.2.2.1=x0.2.2.2.2.1∧r.2.2.2.2.2=x0.2.2.2.2.2.1) (step:=by
  intro s h h0 h1 h2 hw
  try simp only[sS,reduceCtorEq]at *
  repeat' (first | intro _ | apply And.intro)
  all_goals first | grind [Yp,Y2,Uk.deep] | exact lv)
@[reducible,instance] def Q8x{x0}{s}:=upL (N:=N) (s:=s) (Qao.eq_def N x0) (fun t=>t.1) x0.2.2.2.2.2.2.length (fun t=>sz x0≤4096∧Uk x0∧t.2.1=x0.1∧t.2.2.1=x0.2.1∧t.2.2.2.1=x0.2.2.1∧t.2.2.2.2.1=x0.2.2.2.1∧t.2.2.2.2.2.1=x0.2.2.2.2.1∧t.2.2.2.2.2.2.1=x0.2.2.2.2.2.1∧t.2.2.2.2.2.2.2=x0.2.2.2.2.2.2.take t.1.toNat) (fun r:((Str×Int×Bool×(List Qq)×(List Qt)×(List Jc)×(List Qk)))=>r.1=x0.1∧r.2.1=x0.2.1∧r.2.2.1=x0.2.2.1∧r.2.2.2.1=x0.2.2.2.1∧r.2.2.2.2.1=x0.2.2.2.2.1∧r.2.2.2.2.2.1=x0.2.2.2.2.2.1∧r.2.2.2.2.2.2=x0.2.2.2.2.2.2) (step:=by
  intro s h h0 h1 h2 hw
  try simp only[sS,reduceCtorEq]at *
  repeat' (first | intro _ | apply And.intro)
  all_goals first | grind [Yp,Y2,Uk.deep] | exact lv)
@[reducible,instance] def Jhc{x0}:=mkW (Ti.eq_1 N x0) (sz x0≤4096∧Uk x0) (fun r=>r=x0)
@[reducible,instance] def Jhd{x0 x1 x2}{s}:=upL (N:=N) (s:=s) (Qh7.eq_def N x0 x1 x2) (fun t=>t.2) x0.length (fun t=>x0.length≤4096 ∧ -1≤t.1∧t.1<x0.length) (fun r:((Int)) => -1≤r∧r<x0.length)
@[reducible,instance] def Jnd{x0 x1 x2}:=mkW (Qkb.eq_1 N x0 x1 x2) (sz x0≤4096∧Sh.sh x0∧Qr Uk x0) (fun r=>sz r≤4096∧Sh.sh r∧Qr (fun d=>dpt d.2.1≤4096) r.2.2.2.2.2.2.2) (k:=by
  intro h
  try simp only[sS,reduceCtorEq]at *
  repeat' (first | intro _ | apply And.intro)
  all_goals first | exact⟨fun _ h=>absurd h JE⟩ | exact⟨fun d hd=>absurd hd JE⟩ | exact Qr.all (And.right (And.right (by assumption))) _ (by assumption) | exact⟨Uk.deep (Qr.all (And.right (And.right (by assumption))) _ (by assumption))⟩ | exact lv)
@[reducible,instance] def Jcq{x0}{s}:=upL (N:=N) (s:=s) (Qfa.eq_def N x0) (fun t=>t) x0.length (fun t=>Sh.sh x0) (fun r:((Unit)⊕(Bool))=>True) (fun _ h=>Qg0 (by grind))
@[reducible,instance] def Jj6{x0}:=mkW (Qf8.eq_1 N x0) (Sh.sh x0) (fun r=>True)
@[reducible,instance] def Jcr{x0 c7}:=mkW (Ou.eq_1 N x0 c7) (True) (fun r=>True)
@[reducible,instance] def Qk6{x0 c7}{s}:=upL (N:=N) (s:=s) (Xl.eq_def N x0 c7) (fun t=>t) x0.length (fun t=>x0.length≤9223372036854775807) (fun r:((Unit)⊕(Int))=>∀t,r=.inr t→0≤t∧t<x0.length)
@[reducible,instance] def Qn7{x0 c7}:=mkW (Zf.eq_1 N x0 c7) (x0.length≤9223372036854775807) (fun r => -1≤r∧r<x0.length)
@[reducible,instance] def Qk7{x0 c7}:=mkW (Ue.eq_1 N x0 c7) (x0.length≤9223372036854775807) (fun r=>True)
@[reducible,instance] def Jhe{x0}:=mkW (Tj.eq_1 N x0) (True) (fun r=>True)
@[reducible,instance] def Q8y{x0}{s}:=upL (N:=N) (s:=s) (Qap.eq_def N x0) (fun t=>t) x0.length (fun t=>Sh.sh x0) (fun r:((Unit)⊕(Bool))=>True) (fun _ h=>Qg0 (by grind))
@[reducible,instance] def Jhf{x0}:=mkW (F5.eq_1 N x0) (Sh.sh x0) (fun r=>True)
@[reducible,instance] def Jbm{x4}{s}:=upL (N:=N) (s:=s) (Qb8.eq_def N x4) (fun t=>t.1) x4.2.length (fun t=>x4.2.length≤9223372036854775807∧Sh.sh x4) (fun r:(((List (Str×Str)))⊕(Int))=>∀c,r=.inr c→c≠0)
@[reducible,instance] def Jbn{x0}{s}:=upL (N:=N) (s:=s) (Qb9.eq_def N x0) (fun t=>t.1) x0.length (fun t=>sz x0≤9223372036854775807∧Sh.sh x0∧x0.length≤9223372036854775807) (fun r:(((List (Str×Str)))⊕(Int))=>∀c,r=.inr c→c≠0)
@[reducible,instance] def Jh8{x0}:=mkW (Qca.eq_1 N x0) (sz x0≤9223372036854775807∧Sh.sh x0) (fun r=>∀c,r=.inr c→c≠0)
@[reducible,instance] def Q5g{x1 c7}{s}:=mkL (N:=N) (s:=s) (Ri.eq_def N x1 c7) (fun t=>t.toNat) (fun t=>List.length x1≤9223372036854775807∧t≤List.length x1) (fun r:((Unit)⊕(Str×Bool))=>True)
@[reducible,instance] def Jcs{x1 x2 c7}:=mkW (Ov.eq_1 N x1 x2 c7) (List.length x1≤9223372036854775807∧x2≤List.length x1) (fun r=>True)
@[reducible,instance] def Jj7{x0 x1}:=mkW (Tk.eq_1 N x0 x1) (sz x0≤9223372036854775807∧Sh.sh x0∧Sh.sh x1∧List.length x1≤9223372036854775807) (fun r=>True)
@[reducible,instance] def Q8z{x0:Int}:WP (Zk N x0) (fun R=>(2000≤x0∧x0≤2400)∧∀r:Int,r=bef x0→R r):=Dm fun h=>by
 obtain⟨h0,h1⟩:=h
 have e1:IntKind.wrap .i64 (x0 - 2000)=x0 - 2000:=Qx (by omega) (by omega)
 have e2:IntKind.wrap .i64 (365*(x0 - 2000))=365*(x0 - 2000):=Qx (by omega) (by omega)
 rw[Zk.eq_1,e1,e2]
 by_cases hc:x0 - 2000>0
 ·have e3:IntKind.wrap .i64 (x0 - 2000 - 1)=x0 - 2001:=by rw[Qx (by omega) (by omega)]; omega
  rw[if_pos (by simpa using hc),e3,QG (by omega),QG (by omega),QG (by omega)]
  refine⟨_,rfl,?_⟩
  simp (disch:=omega) only [Qx]
  unfold bef
  rw[if_pos (by omega)]
  try omega
 ·rw[if_neg (by simpa using hc)]
  refine⟨_,rfl,?_⟩
  unfold bef
  rw[if_neg (by omega)]
  try omega
@[reducible,instance] def Qnp{x0:Int}:WP (O4 N x0) (fun R=>True∧∀r:Bool,lpd x0=(if r=true then 1 else 0)→R r):=Dm fun h=>by
 refine⟨_,rfl,?_⟩
 unfold lpd
 simp only[JZ,QQ,beq_iff_eq,bne_iff_ne,ne_eq]
@[reducible,instance] def Jct{x0 x1:Int}:WP (Z3 N x0 x1) (fun R=>(1≤x1∧x1≤12)∧∀r:Int,((28≤r∧r≤31)∧r=mon x0 x1)→R r):=Dm fun h=>by
 have hx:x1=1∨x1=2∨x1=3∨x1=4∨x1=5∨x1=6∨x1=7∨x1=8∨x1=9∨x1=10∨x1=11∨x1=12:=by omega
 unfold mon
 rcases hx with rfl | rfl | rfl | rfl | rfl | rfl | rfl | rfl | rfl | rfl | rfl | rfl
 case inr.inl =>
  obtain⟨b,e,hb⟩:=(Qnp (N:=N) (x0:=x0)).spec (fun b=>lpd x0=(if b=true then 1 else 0)) ⟨trivial,fun _ h=>h⟩
  rw[Z3.eq_1,e]
  cases b
  ·exact⟨28,rfl,by simp at hb; rw[hb]; decide⟩
  ·exact⟨29,rfl,by simp at hb; rw[hb]; decide⟩
 all_goals exact⟨_,rfl,by simp⟩
@[reducible,instance] def Q5h{x0}{s}:=mkL (N:=N) (s:=s) (Rl.eq_def N x0) (fun t=>(2400 - t.1).toNat) (fun t=>x0<146097∧2000≤t.1∧t.1≤2399∧bef t.1≤x0∧t.2.1=1∧t.2.2=0) (fun r:((Fq))=>2000≤r.1∧r.1≤2399∧bef r.1≤x0∧x0<bef r.1+365+lpd r.1∧r.2.1=1) (step:=by
  intro s h
  have g0:=Jg1 s.1; have g1:=Jg2; have g2:=(show 2000≤s.1∧s.1≤2399→IntKind.wrap .i64 (s.1+1)=s.1+1 from fun a=>Qx (by omega) (by omega))
  try simp only[sS,reduceCtorEq]at *
  repeat' (first | intro _ | apply And.intro)
  all_goals first | exact lv)
@[reducible,instance] def Q5i{s}:=mkL (N:=N) (s:=s) (Rm.eq_def N) (fun t=>(13 - t.2.2.1).toNat) (fun t=>0≤t.1∧t.1≤366∧1≤t.2.2.1∧t.2.2.1≤12∧2000≤t.2.1∧t.2.1≤2399∧t.1<lft t.2.1 t.2.2.1∧t.2.1=s.2.1) (fun r:((Int×Fq))=>0≤r.1∧r.1≤366∧2000≤r.2.1∧r.2.1≤2399∧1≤r.2.2.1∧r.2.2.1≤12∧r.2.1=s.2.1) (step:=by
  intro s h
  have g0:=Jg0 s.2.1; have g1:=Jg3 s.2.1 s.2.2.1; have g2:=Jos s.2.1; have g3:=(show 1≤s.2.2.1∧s.2.2.1≤12→IntKind.wrap .i64 (s.2.2.1+1)=s.2.2.1+1 from fun a=>Qx (by omega) (by omega)); have g4:=(show ∀d:Int,0≤s.1∧s.1≤366→28≤d∧d≤31→IntKind.wrap .i64 (s.1 - d)=s.1 - d from fun d a b=>Qx (by omega) (by omega))
  try simp only[sS,reduceCtorEq]at *
  repeat' (first | intro _ | apply And.intro)
  all_goals first | exact lv)
@[reducible,instance] def Jcu{x0}:=mkW (O5.eq_1 N x0) (True) (fun r=>0≤r.1∧r.1≤2399∧0≤r.2.1∧r.2.1≤12∧0≤r.2.2∧r.2.2≤367∧(0≤x0→x0<146097→2000≤r.1∧365*(r.1 - 2000)≤x0∧1≤r.2.1)) (k:=by
  intro h
  have g0:=Jg0; have g1:=Qw2; have g2:=Jp5; have g3:=(show 0≤x0∧x0<146097→IntKind.wrap .i64 (2000+IntKind.wrap .i64 (Int.tdiv x0 366))=2000+x0 / 366 from fun a=>by rw[QG (by omega),Qx (n:=x0 / 366) (by omega) (by omega),Qx (by omega) (by omega)]); have g4:=(show ∀y:Int,2000≤y→bef y≤x0→x0<146097→IntKind.wrap .i64 (x0 - bef y)=x0 - bef y from fun y a b c=>by have:=Qw2 y a; exact Qx (by omega) (by omega))
  try simp only[sS,reduceCtorEq]at *
  repeat' (first | intro _ | apply And.intro)
  all_goals first | exact lv)
@[reducible,instance] def Jbo{x0 x1}:=mkW (W7.eq_1 N x0 x1) (True) (fun r => -24002≤r∧r≤4799∧(0≤x1→x1≤12622780799 → -1≤r∧r≤12*(x1 / 31536000)+11)) (k:=by
  intro h
  have g0:=(show ∀x:Int,0≤x∧x≤12622780799→IntKind.wrap .i64 (Int.tdiv x 86400)=x / 86400 from fun x a=>by rw[QG (by omega),Qx (by omega) (by omega)])
  try simp only[sS,reduceCtorEq]at *
  repeat' (first | intro _ | apply And.intro)
  all_goals first | (have g1:=g0 x1; simp (disch:=omega) only [Qx]at *; omega) | exact lv)
@[reducible,instance] def Q80{x0 x1}:=mkW (D2.eq_1 N x0 x1) (True) (fun r=>(r≠0→2000≤x0∧x0≤2399∧1≤x1∧x1≤12∧r≤31)∧(2000≤x0→x0≤2399→1≤x1→x1≤12→28≤r))
@[reducible,instance] def Q81{x0}{s}:=upI (N:=N) (s:=s) (Qar.eq_def N x0) (fun t=>t.2) (x0.2.1) (fun t=>1≤t.2∧t.2≤x0.2.1∧x0.2.1≤12∧0≤t.1∧t.1≤366*400+31*t.2∧t.1≤s.1+31*(t.2 - s.2)) (fun r:((Int))=>0≤r∧r≤s.1+31*(x0.2.1 - s.2))
attribute [local instance 1300] Qiz in
@[reducible,instance] def Jhg{x0}:=mkW (Tn.eq_1 N x0) (True) (fun r=>(2000≤x0.1→x0.1≤2399→1≤x0.2.1→x0.2.1≤12→1≤x0.2.2→x0.2.2≤28→r.2=0∧0≤r.1∧r.1≤366*(x0.1 - 2000)+31*x0.2.1)) (k:=by
  intro h
  have g0:=Qw2; have g1:=(show 2000≤x0.1∧x0.1≤2399∧1≤x0.2.2∧x0.2.2≤31→IntKind.wrap .i64 (IntKind.wrap .i64 (bef x0.1+x0.2.2) - 1)=bef x0.1+x0.2.2 - 1 from fun a=>by have:=Qw2 x0.1 a.1; rw[Qx (n:=bef x0.1+x0.2.2) (by omega) (by omega),Qx (by omega) (by omega)])
  try simp only[sS,reduceCtorEq]at *
  repeat' (first | intro _ | apply And.intro)
  all_goals first | exact lv)
@[reducible,instance] def Jbp{x0 x1}:=mkW (F7.eq_1 N x0 x1) (True) (fun r=>0≤x1→x1<4788→1≤x0→x0≤28→r≤2678400*(x1+1)) (k:=by
  intro h
  have g0:=(show 0≤x1∧x1<4788→1≤x0∧x0≤28→∀w:Int×Int,(2000≤IntKind.wrap .i64 (2000+IntKind.wrap .i64 (Int.tdiv x1 12))→IntKind.wrap .i64 (2000+IntKind.wrap .i64 (Int.tdiv x1 12))≤2399→1≤IntKind.wrap .i64 (Int.tmod x1 12+1)→IntKind.wrap .i64 (Int.tmod x1 12+1)≤12→1≤x0→x0≤28→w.2=0∧0≤w.1∧w.1≤366*(IntKind.wrap .i64 (2000+IntKind.wrap .i64 (Int.tdiv x1 12)) - 2000)+31*IntKind.wrap .i64 (Int.tmod x1 12+1))→w.2=0∧IntKind.wrap .i64 (w.1*86400)≤2678400*(x1+1)from fun a b w h=>by rw[QG (by omega),JY (by omega),Qx (n:=x1 / 12) (by omega) (by omega),Qx (by omega) (by omega),Qx (by omega) (by omega)]at h; have h:=h (by omega) (by omega) (by omega) (by omega) b.1 b.2; rw[Qx (by omega) (by omega)]; omega)
  try simp only[sS,reduceCtorEq]at *
  repeat' (first | intro _ | apply And.intro)
  all_goals first | (have k:=fun a b=>g0 a b _ (by assumption); omega) | exact lv)
@[reducible,instance] def Q3b{x0 x1}:=mkW (Wg.eq_1 N x0 x1) (True) (fun r => -1≤x1→x1<4787→1≤x0→x0≤28→r.2≤2678400*(x1+2))
@[reducible,instance] def Q17{x0 x1}{s}:=mkL (N:=N) (s:=s) (Mc.eq_def N x0 x1) (fun t=>(4801 - t.1).toNat) (fun t=>1≤x0∧x0≤28∧0≤x1.1∧x1.1<x1.2∧x1.2≤12622780800 ∧ -1≤t.1∧t.1≤4800∧t.2.length≤t.1+1∧(x1.2≤86400001→t.1≤36)∧(x1.2≤99100800→t.1≤48)∧(x1.2≤86400001→Qr (fun p:Int×Int=>p.2≤99100800) t.2)) (fun r:(((List Qa)))=>r.length≤30000∧(x1.2≤86400001→r.length≤37)∧(x1.2≤99100800→r.length≤49)∧(x1.2≤86400001→Qr (fun p:Int×Int=>p.2≤99100800) r)) (step:=by
  intro s h
  have g0:=(show 0≤x1.1∧x1.1<x1.2∧x1.2≤12622780800→IntKind.wrap .i64 (x1.2 - 1)=x1.2 - 1 from fun a=>Qx (by omega) (by omega))
  try simp only[sS,reduceCtorEq]at *
  repeat' (first | intro _ | apply And.intro)
  all_goals first | exact Vj (by grind) (Zt (by grind)) | exact lv)
@[reducible,instance] def Q82{x0 x1}:=mkW (Hy.eq_1 N x0 x1) (True) (fun r=>r.length≤30000∧(x1.2≤86400001→r.length≤37)∧(x1.2≤99100800→r.length≤49)∧(x1.2≤86400001→Qr (fun p:Int×Int=>p.2≤99100800) r)) (k:=by
  intro h
  try simp only[sS,reduceCtorEq]at *
  repeat' (first | intro _ | apply And.intro)
  all_goals first | exact Ul | exact lv)
@[reducible,instance] def Q18{x0}{s}:=upL (N:=N) (s:=s) (L5.eq_def N x0) (fun t=>t.1) x0.length (fun t=>sz x0≤1000000000000∧t.2=x0.take t.1.toNat∧x0.length≤1000000000000) (fun r:(((List Qb)))=>r=x0) (step:=by
  intro s h h0 h1 h2 hw
  try simp only[sS,reduceCtorEq]at *
  repeat' (first | intro _ | apply And.intro)
  all_goals first | grind [Yp,Y2,Uk.deep] | exact lv)
@[reducible,instance] def Q83{x0}:=mkW (Dz.eq_1 N x0) (sz x0≤1000000000000) (fun r=>r=x0)
@[reducible,instance] def Jcv{x0}:=mkW (Hl.eq_1 N x0) (sz x0≤1000000000000) (fun r=>r=x0)
@[reducible,instance] def Q3c{x0 x1 x2}{s}:=upL (N:=N) (s:=s) (Nw.eq_def N x0 x1 x2) (fun t=>t) x0.length (fun t=>x0.length≤32) (fun r:((Unit)⊕(Bool))=>True)
@[reducible,instance] def Jbq{x0 x1 x2}:=mkW (L6.eq_1 N x0 x1 x2) (x0.length≤32) (fun r=>True)
@[reducible,instance] def Q3d{x0}{s}:=upL (N:=N) (s:=s) (Nx.eq_def N x0) (fun t=>t.1) x0.length (fun t=>x0.length≤1000000000000∧Qfl t.2 x0.length) (fun r:(((List (Int×Int))))=>Qfl r x0.length) (step:=by
  intro s h h0 h1 h2 hw
  try simp only[sS,reduceCtorEq]at *
  repeat' (first | intro _ | apply And.intro)
  all_goals first | exact Qea | exact Qeb (by grind) (by omega) (by omega) | exact lv)
@[reducible,instance] def Jbr{x0}:=mkW (L7.eq_1 N x0) (x0.length≤1000000000000) (fun r=>Qfl r x0.length) (k:=by
  intro h
  try simp only[sS,reduceCtorEq]at *
  repeat' (first | intro _ | apply And.intro)
  all_goals first | exact Qea | exact Qeb (by grind) (by omega) (by omega) | exact lv)
@[reducible,instance] def Q84{x0 x1}{s}:=upL (N:=N) (s:=s) (Qaq.eq_def N x0 x1) (fun t=>t) x0.length (fun t=>x0.length≤1000000000000) (fun r:((Int))=>0≤r∧r≤x0.length)
@[reducible,instance] def Jhh{x0 x1}:=mkW (Tl.eq_1 N x0 x1) (x0.length≤1000000000000∧Qr Jz x0∧1≤x1∧x1≤9999) (fun r=>0≤r.1∧r.1<r.2.length∧r.2.length≤x0.length+1∧Qr Jz r.2) (k:=by
  intro h
  have g0:=h.2.1
  try simp only[sS,reduceCtorEq]at *
  repeat' (first | intro _ | apply And.intro)
  all_goals first | assumption | omega | exact Vj (Vj (Qi2 (by assumption) (by assumption)) (Zt (Jbe (by omega) (by omega)))) (Qi2 (by assumption) (by assumption)) | exact(Qec (by assumption) (by assumption)).1 | exact(Qec (by assumption) (by assumption)).2 | exact lv)
@[reducible,instance] def Q3e{x0 x1 x2}:=mkW (Yn.eq_1 N x0 x1 x2) (True) (fun r=>r=true→x1≤x0∧x0≤x2)
@[reducible,instance] def Jhi{x0}:=mkW (Gu.eq_1 N x0) (True) (fun r=>r=true → -1125899906842624≤x0∧x0≤1125899906842624)
attribute [local instance 1300] Qiz in
@[reducible,instance] def Jhj{x0}:=mkW (Gv.eq_1 N x0) (True) (fun r=>r=0→Q47 x0) (k:=by
  intro h
  have g0:=(Qi0 (w:=x0))
  try simp only[sS,reduceCtorEq]at *
  repeat' (first | intro _ | apply And.intro)
  all_goals first | assumption | (refine⟨?_⟩; grind) | exact lv)
@[reducible,instance] def Jcw{x0 x1}:=mkW (Y8.eq_1 N x0 x1) (True) (fun r=>(x1≠0→r.2≠0))
attribute [local instance 1300] Qiz in
@[reducible,instance] def Jcx{x0 x1}:=mkW (Ox.eq_1 N x0 x1) (True) (fun r=>r.2=0→Jz x0→Jz r.1) (k:=by
  intro h
  try simp only[sS,reduceCtorEq]at *
  repeat' (first | intro _ | apply And.intro)
  all_goals first | assumption | (have q:=Q47.c (Jz.c (by assumption:Jz x0)); refine Qum (by assumption) ?_ ?_<;>grind [Qx]) | exact lv)
@[reducible,instance] def Q3f{x0 x1 c7}:=mkW (Wf.eq_1 N x0 x1 c7) ((x1=0→Jz x0)∧Jz c7) (fun r=>Jz r)
attribute [local instance 1300] Qiz in
@[reducible,instance] def Jhk{x0 x1}:=mkW (Tm.eq_1 N x0 x1) (True) (fun r=>r.2=0→Jz x0→Jz r.1) (k:=by
  intro h
  try simp only[sS,reduceCtorEq]at *
  repeat' (first | intro _ | apply And.intro)
  all_goals first | assumption | (have q:=Q47.c (Jz.c (by assumption:Jz x0)); refine Q08 (by assumption) ?_ ?_ ?_<;>grind [Qi0]) | exact lv)
@[reducible,instance] def Q19{x0 x2 r8 r7 x3}{s}:=upL (N:=N) (s:=s) (L8.eq_def N x0 x2 r8 r7 x3) (fun t=>t.1) x0.length (fun t=>x0.length≤32∧0≤r7∧r7<r8.length∧Jz t.2) (fun r:((Qm))=>Jz r)
@[reducible,instance] def Q85{x0 x1 x2 x3}:=mkW (D0.eq_1 N x0 x1 x2 x3) (x0.length≤32∧sz x1≤1000000000000∧Qr Jz x1.2.1∧1≤x2∧x2≤9999∧x3≤12622780799) (fun r=>r.1=x1.1∧r.2.1.length≤x1.2.1.length+1∧r.2.2=x1.2.2∧Qr Jz r.2.1) (k:=by
  intro h
  try simp only[sS,reduceCtorEq]at *
  repeat' (first | intro _ | apply And.intro)
  all_goals first | ((repeat cases ‹_∧_›); first | assumption | omega | exact Nd (by assumption) (Q09 (by assumption) (by omega)) | exact Qi1 (P:=Jz) (by assumption) (by assumption)) | exact lv)
@[reducible,instance] def Jhl{x0}:=mkW (F6.eq_1 N x0) (sz x0≤1000000000000) (fun r=>r=(x0.1,x0.2.1,x0.2.2.1,x0.2.2.2.1,x0.2.2.2.2.1,x0.2.2.2.2.2.2.1,x0.2.2.2.2.2.2.2.1,x0.2.2.2.2.2.2.2.2.1,x0.2.2.2.2.2.2.2.2.2.1,x0.2.2.2.2.2.2.2.2.2.2,x0.2.2.2.2.2.1))
@[reducible,instance] def Jne{x0}:=mkW (Rj.eq_1 N x0) (sz x0≤9223372036854775807) (fun r=>True)
@[reducible,instance] def Q5j{x0 x1}{s}:=upL (N:=N) (s:=s) (Rk.eq_def N x0 x1) (fun t=>t) x0.length (fun t=>x0.length≤32) (fun r:((Unit)⊕(Int))=>True)
@[reducible,instance] def Jcy{x0 x1}:=mkW (Oy.eq_1 N x0 x1) (x0.length≤32) (fun r=>True)
@[reducible,instance] def Qvf{x0 c7}{s}:=upL (N:=N) (s:=s) (Bg.eq_def N x0 c7) (fun t=>t) x0.2.2.1.length (fun t=>sz x0≤32) (fun r:((Unit)⊕(Bool))=>True)
@[reducible,instance] def Q2a{x0 c7}:=mkW (Er.eq_1 N x0 c7) (sz x0≤32) (fun r=>True)
@[reducible,instance] def Q2b{x0 x1}:=mkW (Es.eq_1 N x0 x1) (True) (fun r=>True)
@[reducible,instance] def Q2c{x0 x1}:=mkW (Et.eq_1 N x0 x1) (True) (fun r=>True)
@[reducible,instance] def Qi4{x0}{s}:=upL (N:=N) (s:=s) (Kp.eq_def N x0) (fun t=>t.1) x0.length (fun t=>x0.length≤32∧t.2.length≤t.1) (fun r:(((List Qa)))=>r.length≤32)
@[reducible,instance] def Qmd{x0}:=mkW (Un.eq_1 N x0) (x0.length≤32) (fun r=>r.length≤32)
@[reducible,instance] def Qx3{r1 c7}{s}:=upL (N:=N) (s:=s) (Ig.eq_def N r1 c7) (fun t=>t.1) r1.length (fun t=>sz r1≤32∧t.2.length≤t.1∧r1.length≤32) (fun r:(((List Qa)))=>r.length≤32)
@[reducible,instance] def Q5k{x0 x1 c7}:=mkW (B3.eq_1 N x0 x1 c7) (x0.length≤32) (fun r=>r.length≤32)
@[reducible,instance] def Q5l{x0 x1 x2}:=mkW (B4.eq_1 N x0 x1 x2) (x0.length≤32) (fun r=>r.length≤32)
@[reducible,instance] def Jcz{x0 x1}:=mkW (Oz.eq_1 N x0 x1) (True) (fun r=>True)
@[reducible,instance] def Q2d{v17 x1 x21 r53}{s}:=upL (N:=N) (s:=s) (L9.eq_def N v17 x1 x21 r53) (fun t=>t) v17.length (fun t=>v17.length≤32) (fun r:((Int))=>0≤r∧r≤v17.length)
@[reducible,instance] def Q2e{x0 x1}:=mkW (U5.eq_1 N x0 x1) (True) (fun r=>r.2=true→r.1.1<r.1.2∧0≤r.1.1∧r.1.2≤x0.2∧r.1.2≤x1.2)
@[reducible,instance] def Q2f{x0 c7 cd ce}:=mkW (Eu.eq_1 N x0 c7 cd ce) (0≤c7∧c7≤86400000∧cd.length≤37888∧Qr (fun p:Int×Int=>p.2≤99100800) cd) (fun r=>r.length≤cd.length+37∧Qr (fun p:Int×Int=>p.2≤99100800) r) (k:=by
  intro h
  have g0:=(show 0≤c7∧c7≤86400000→IntKind.wrap .i64 (c7+1)=c7+1 from fun a=>Qx (by omega) (by omega))
  try simp only[sS,reduceCtorEq]at *
  repeat' (first | intro _ | apply And.intro)
  all_goals first | exact Vj (by grind) (by grind) | exact lv)
@[reducible,instance] def Qvg{x0 x1}{s}:=upL (N:=N) (s:=s) (Bh.eq_def N x0 x1) (fun t=>t.1) x0.length (fun t=>x0.length≤37888∧Qr (fun p:Int×Int=>p.2≤99100800) x0∧0≤x1∧x1≤1∧s.2.length≤75776∧0≤s.1∧t.2.length≤s.2.length+2*(t.1 - s.1)∧Qr (Am 99100800) t.2) (fun r:(((List Q9)))=>r.length≤s.2.length+2*x0.length∧Qr (Am 99100800) r) (step:=by
  intro s h h0 h1 h2 hw
  try simp only[sS,reduceCtorEq]at *
  repeat' (first | intro _ | apply And.intro)
  all_goals first | exact Vj (by grind) (Q05 ⟨by grind,by grind [Qr.all]⟩ ⟨by grind,by grind [Qr.all]⟩) | exact lv)
@[reducible,instance] def Q2g{x0 x1 ca}:=mkW (Ev.eq_1 N x0 x1 ca) (x0.length≤37888∧Qr (fun p:Int×Int=>p.2≤99100800) x0∧0≤x1∧x1≤1∧ca.length≤75776∧Qr (Am 99100800) ca) (fun r=>r.length≤ca.length+2*x0.length∧Qr (Am 99100800) r)
@[reducible,instance] def Qrm{x0 x1}{s}:=upL (N:=N) (s:=s) (Hm.eq_def N x0 x1) (fun t=>t.1) x0.length (fun t=>x0.length≤37888∧Qr (fun p:Int×Int=>p.2≤99100800) x0∧0≤x1∧x1≤1∧s.2.length≤75776∧0≤s.1∧t.2.length≤s.2.length+2*(t.1 - s.1)∧Qr (Am 99100800) t.2) (fun r:(((List Q9)))=>r.length≤s.2.length+2*x0.length∧Qr (Am 99100800) r) (step:=by
  intro s h h0 h1 h2 hw
  try simp only[sS,reduceCtorEq]at *
  repeat' (first | intro _ | apply And.intro)
  all_goals first | exact Vj (by grind) (Q05 ⟨by grind,by grind [Qr.all]⟩ ⟨by grind,by grind [Qr.all]⟩) | exact lv)
@[reducible,instance] def Qvh{x0 x1 ca}:=mkW (Xx.eq_1 N x0 x1 ca) (x0.length≤37888∧Qr (fun p:Int×Int=>p.2≤99100800) x0∧0≤x1∧x1≤1∧ca.length≤75776∧Qr (Am 99100800) ca) (fun r=>r.length≤ca.length+2*x0.length∧Qr (Am 99100800) r)
@[reducible,instance] def Q5m{x0 x1}:=mkW (B5.eq_1 N x0 x1) (True) (fun r=>True)
@[reducible,instance] def Qx4{r3}{s}:=upL (N:=N) (s:=s) (Ih.eq_def N r3) (fun t=>t.2.1) r3.length (fun t=>r3.length≤151552∧Qr (Am 99100800) r3∧t.2.2.2.length=2∧t.2.2.1.length≤t.2.1∧(t.1=true→1≤t.2.2.1.length)∧Qr (fun p:Int×Int=>p.2≤99100800) t.2.2.1) (fun r:(((List Qa)))=>r.length≤151552∧Qr (fun p:Int×Int=>p.2≤99100800) r) (step:=by
  intro s h h0 h1 h2 hw
  have g0:=h.2.1; have g1:=h.2.2.2.2.2; have g2:=(show ∀c∈r3,0≤c.2.1∧c.2.1≤1∧0≤c.1∧c.1≤99100800 from fun c hc=>have k:=h.2.1.all c hc; ⟨k.side.1,k.side.2,k.time.1,k.time.2⟩); have g3:=(show s.2.2.1.length≤151552→1≤s.2.2.1.length→IntKind.wrap .i64 ((s.2.2.1.length:Int) - 1)=(s.2.2.1.length:Int) - 1 from fun a b=>Qx (by omega) (by omega))
  try simp only[sS,reduceCtorEq]at *
  repeat' (first | intro _ | apply And.intro)
  all_goals first | assumption | exact(g2 _ (by assumption)).1 | exact Int.lt_of_le_of_lt (g2 _ (by assumption)).2.1 (by omega) | exact Vj (by assumption) (Zt (by decide)) | exact Vj (by assumption) (Zt (show(0:Int)≤99100800 by decide)) | exact Nd (by assumption) (g2 _ (by assumption)).2.2.2 | exact lv)
@[reducible,instance] def Q5n{x0 x1}:=mkW (B6.eq_1 N x0 x1) (x0.length≤37888∧Qr (fun p:Int×Int=>p.2≤99100800) x0∧x1.length≤37888∧Qr (fun p:Int×Int=>p.2≤99100800) x1) (fun r=>r.length≤151552∧Qr (fun p:Int×Int=>p.2≤99100800) r) (k:=by
  intro h
  try simp only[sS,reduceCtorEq]at *
  repeat' (first | intro _ | apply And.intro)
  all_goals first | exact Ul | exact Vj (by grind) (Zt (by grind)) | exact Nd (by grind) (by grind [Qr.all,Am.side,Am.time]) | exact Qed (P:=Am 99100800) (by grind) (fun x h=>⟨h.side,by have:=h.time; omega⟩) | exact lv)
@[reducible,instance] def Jbs{x0}:=mkW (Md.eq_1 N x0) (x0.length≤37888∧Qr (fun p:Int×Int=>p.2≤99100800) x0) (fun r=>r.length≤151552∧Qr (fun p:Int×Int=>p.2≤99100800) r) (k:=by
  intro h
  try simp only[sS,reduceCtorEq]at *
  repeat' (first | intro _ | apply And.intro)
  all_goals first | exact Ul | exact Vj (by grind) (Zt (by grind)) | exact Nd (by grind) (by grind [Qr.all,Am.side,Am.time]) | exact Qed (P:=Am 99100800) (by grind) (fun x h=>⟨h.side,by have:=h.time; omega⟩) | exact lv)
@[reducible,instance] def Q5o{x22}{s}:=upL (N:=N) (s:=s) (Rn.eq_def N x22) (fun t=>t.1) x22.2.2.2.length (fun t=>x22.2.2.2.length≤32∧0≤t.2.2.1∧t.2.2.1≤86400000∧0≤s.1∧s.2.2.2.length≤36704∧t.2.2.2.length≤s.2.2.2.length+37*(t.1 - s.1)∧Qr (fun p:Int×Int=>p.2≤99100800) t.2.2.2∧t.2.2.1=s.2.2.1) (fun r:((Int×Int×(List Qa)))=>r.2.1=s.2.2.1∧r.2.2.length≤s.2.2.2.length+1184∧Qr (fun p:Int×Int=>p.2≤99100800) r.2.2)
@[reducible,instance] def Q5p{x0}{s}:=upL (N:=N) (s:=s) (Ro.eq_def N x0) (fun t=>t.1) x0.length (fun t=>sz x0≤32∧0≤t.2.2.1∧t.2.2.1≤86400000∧t.2.2.2.length≤1184*t.1∧Qr (fun p:Int×Int=>p.2≤99100800) t.2.2.2∧x0.length≤32) (fun r:((Int×(List Qa)))=>r.2.length≤37888∧Qr (fun p:Int×Int=>p.2≤99100800) r.2) (step:=by
  intro s h h0 h1 h2 hw
  try simp only[sS,reduceCtorEq]at *
  repeat' (first | intro _ | apply And.intro)
  all_goals first | exact Ul | exact Vj (by grind) (Zt (by grind)) | exact Nd (by grind) (by grind [Qr.all,Am.side,Am.time]) | exact Qed (P:=Am 99100800) (by grind) (fun x h=>⟨h.side,by have:=h.time; omega⟩) | exact lv)
@[reducible,instance] def Q5q{r35 v33}{s}:=upL (N:=N) (s:=s) (Rp.eq_def N r35 v33) (fun t=>t.1) r35.length (fun t=>r35.length≤151552∧Qr (fun p:Int×Int=>p.2≤99100800) r35∧t.2.length≤49*t.1) (fun r:(((List Qa)))=>r.length≤7426048) (step:=by
  intro s h h0 h1 h2 hw
  have g0:=(fun p (hp:p∈r35)=>h.2.1.all p hp:∀p∈r35,p.2≤99100800)
  try simp only[sS,reduceCtorEq]at *
  repeat' (first | intro _ | apply And.intro)
  all_goals first | exact lv)
@[reducible,instance] def Jc0{x0 x1 x2}:=mkW (O6.eq_1 N x0 x1 x2) (sz x0≤32∧0≤x2∧x2≤86400000) (fun r=>r.length≤7426048) (k:=by
  intro h
  try simp only[sS,reduceCtorEq]at *
  repeat' (first | intro _ | apply And.intro)
  all_goals first | exact Ul | exact lv)
@[reducible,instance] def Jhm{x0 c7 ca}:=mkW (To.eq_1 N x0 c7 ca) (True) (fun r=>True)
@[reducible,instance] def Qi6{x0 c7 ca}{s}:=upL (N:=N) (s:=s) (K0.eq_def N x0 c7 ca) (fun t=>t.1) x0.length (fun t=>x0.length≤32∧sz x0≤4096∧Qr (fun p:Qo=>p.2.2.2.2.2.length≤32) x0∧t.2.length≤t.1∧sz t.2≤4096∧Qr (fun p:Qo=>p.2.2.2.2.2.length≤32) t.2∧Qr V9 x0∧Qr V9 t.2∧x0.length≤4096) (fun r:(((List Qo)))=>r.length≤32∧sz r≤4096∧Qr (fun p:Qo=>p.2.2.2.2.2.length≤32) r∧Qr V9 r) (step:=by
  intro s h h0 h1 h2 hw
  try simp only[sS,reduceCtorEq]at *
  repeat' (first | intro _ | apply And.intro)
  all_goals first | ((repeat cases ‹_∧_›); first | assumption | exact Vj (by assumption) (Zt (Qi1 (P:=V9) (by assumption) (by assumption)))) | exact Ul | exact Vj (by grind) (Zt (by grind [Qr.all])) | exact lv)
@[reducible,instance] def Qnq{x0 c7 ca}:=mkW (U6.eq_1 N x0 c7 ca) (x0.length≤32∧sz x0≤4096∧Qr (fun p:Qo=>p.2.2.2.2.2.length≤32) x0∧Qr V9 x0) (fun r=>r.length≤32∧sz r≤4096∧Qr (fun p:Qo=>p.2.2.2.2.2.length≤32) r∧Qr V9 r) (k:=by
  intro h
  try simp only[sS,reduceCtorEq]at *
  repeat' (first | intro _ | apply And.intro)
  all_goals first | exact Ul | exact lv)
@[reducible,instance] def Q5r{x0}{s}:=upL (N:=N) (s:=s) (Rq.eq_def N x0) (fun t=>t.1) x0.2.2.2.2.2.length (fun t=>x0.2.2.2.2.2.length≤32∧sz x0≤4096∧t.2=x0.2.2.2.2.2.take t.1.toNat) (fun r:(((List Jw)))=>r=x0.2.2.2.2.2) (step:=by
  intro s h h0 h1 h2 hw
  try simp only[sS,reduceCtorEq]at *
  repeat' (first | intro _ | apply And.intro)
  all_goals first | grind [Yp,Y2,Uk.deep] | exact lv)
@[reducible,instance] def Jc1{x0}:=mkW (O7.eq_1 N x0) (x0.2.2.2.2.2.length≤32∧sz x0≤4096) (fun r=>r=x0)
@[reducible,instance] def Jj8{x0 x1 x2}:=mkW (Qga.eq_1 N x0 x1 x2) (x0.length≤32∧sz x0≤4096∧Qr (fun p:Qo=>p.2.2.2.2.2.length≤32) x0∧Qr V9 x0) (fun r=>r.2.2.2.2.2.2.length≤32∧sz r.2.2.2.2.2.2≤4096∧Qr Qrj r.2.2.2.2.2.2) (k:=by
  intro h
  have g0:=(fun p l hp q=>q.all p hp:∀(p:Qo) (l:List Qo),p∈l→Qr (fun p:Qo=>p.2.2.2.2.2.length≤32) l→p.2.2.2.2.2.length≤32)
  try simp only[sS,reduceCtorEq]at *
  repeat' (first | intro _ | apply And.intro)
  all_goals first | assumption | omega | exact Ul | ((simp (disch:=omega) only [Qx]at *)<;>omega) | exact g0 _ _ (by assumption) (And.left (And.right (And.right (by assumption)))) | exact V9.c (Qr.all (And.right (And.right (And.right (by assumption)))) _ (by assumption)) | exact lv)
@[reducible,instance] def Qry{r12 x0 r4}{s}:=upL (N:=N) (s:=s) (E8.eq_def N r12 x0 r4) (fun t=>t.1) r12.length (fun t=>r12.length≤32∧sz r12≤4096∧t.2.length≤t.1∧sz t.2≤4096∧Qr Qrj r12∧Qr Q1a t.2∧r12.length≤4096) (fun r:(((List J9)))=>r.length≤32∧sz r≤4096∧Qr Q1a r) (step:=by
  intro s h h0 h1 h2 hw
  try simp only[sS,reduceCtorEq]at *
  repeat' (first | intro _ | apply And.intro)
  all_goals first | ((repeat cases ‹_∧_›); first | assumption | omega | exact Ul | exact Vj (by assumption) (Zt (Jj4 (Qi1 (P:=Qrj) (by assumption) (by assumption))))) | exact lv)
@[reducible,instance] def Qrz{x0 x2 x1}{s}:=upL (N:=N) (s:=s) (E9.eq_def N x0 x2 x1) (fun t=>t) x0.2.2.2.length (fun t=>x0.2.2.2.length≤32∧x1.length≤32∧sz x1≤4096∧Qr (fun p:Qo=>p.2.2.2.2.2.length≤32) x1∧Qr V9 x1∧x1.length≤4096) (fun r:((Unit)⊕((List J9)))=>∀t,r=.inr t→t.length≤32∧sz t≤4096∧Qr Q1a t) (step:=by
  intro s h h0 h1 h2 hw
  try simp only[sS,reduceCtorEq]at *
  repeat' (first | intro _ | apply And.intro)
  all_goals first | ((repeat cases ‹_∧_›); first | assumption | omega | exact Ul) | exact lv)
@[reducible,instance] def Qxk{x0 x1 x2}:=mkW (W8.eq_1 N x0 x1 x2) (sz x0≤32∧x1.length≤32∧sz x1≤4096∧Qr (fun p:Qo=>p.2.2.2.2.2.length≤32) x1∧Qr V9 x1) (fun r=>r.length≤32∧sz r≤4096∧Qr Q1a r) (k:=by
  intro h
  try simp only[sS,reduceCtorEq]at *
  repeat' (first | intro _ | apply And.intro)
  all_goals first | ((repeat cases ‹_∧_›); first | assumption | omega | exact Ul) | exact lv)
@[reducible,instance] def Q86{x0 x1}:=mkW (Hz.eq_1 N x0 x1) (True) (fun r=>True)
@[reducible,instance] def Jhn{x0 x1 x2}:=mkW (Tp.eq_1 N x0 x1 x2) (sz x1≤4096∧x1.2.2.2.2.2.2.2.1=x1.2.2.2.2.2.2.2.2.1∧0≤x1.2.2.2.2.2.2.2.1∧x1.2.2.2.2.2.2.2.1≤1099511627776∧x2≤1099511627776) (fun r=>r.2.2.2.2.2.2.2.2.2.2.length≤4096∧r.2.2.2.2.2.2.1=r.2.2.2.2.2.2.2.1∧0≤r.2.2.2.2.2.2.1∧r.2.2.2.2.2.2.1≤2199023255552) (k:=by
  intro h
  try simp only[sS,reduceCtorEq]at *
  repeat' (first | intro _ | apply And.intro)
  all_goals first | assumption | omega | (split<;>split<;>split<;>(simp (disch:=omega) only [Qx]at *)<;>omega) | (have q0:∀a b c:Int,a≤1099511627776→0≤(if(if 0>a then 0 else a)<(if 0>b then 0 else b)then(if 0>a then 0 else a)else(if 0>b then 0 else b))∧(if(if 0>a then 0 else a)<(if 0>b then 0 else b)then(if 0>a then 0 else a)else(if 0>b then 0 else b))≤1099511627776:=(by intros; grind); grind [Qx]) | exact lv)
@[reducible,instance] def Jc2{x0 x1}:=mkW (O8.eq_1 N x0 x1) (True) (fun r=>True)
@[reducible,instance] def Qx5{ca x1}{s}:=upL (N:=N) (s:=s) (Ii.eq_def N ca x1) (fun t=>t.1) ca.length (fun t=>ca.length≤1000000000000∧t.2.2.2.2.2.2.2.2.2.2.2.length≤4096∧sz ca≤1000000000000∧t.2.2.2.2.2.2.2.1=t.2.2.2.2.2.2.2.2.1∧0≤t.2.2.2.2.2.2.2.1∧t.2.2.2.2.2.2.2.1≤1099511627776∧x1.2≤1099511627776) (fun r:((Int×Int×Str×Int×Int×Qa×Int×Int×Int×Bool×(List Str)))=>r.2.2.2.2.2.2.2.2.2.2.length≤4096∧r.2.2.2.2.2.2.1=r.2.2.2.2.2.2.2.1∧0≤r.2.2.2.2.2.2.1∧r.2.2.2.2.2.2.1≤2199023255552)
@[reducible,instance] def Qx6{ca v40 v41 v42 v43 v44 v50 v45 v46 v47 v48 v49}{s}:=upL (N:=N) (s:=s) (Ij.eq_def N ca v40 v41 v42 v43 v44 v50 v45 v46 v47 v48 v49) (fun t=>t) ca.length (fun t=>ca.length≤1000000000000) (fun r:((Int))=>0≤r∧r≤ca.length)
@[reducible,instance] def Q2h{x0 x1}{s}:=upL (N:=N) (s:=s) (Ma.eq_def N x0 x1) (fun t=>t.1) x0.length (fun t=>x0.length≤32∧t.2.2.2.length≤t.1∧sz t.2.2.2≤32) (fun r:(((List Jd)))=>sz r≤32) (step:=by
  intro s h h0 h1 h2 hw
  try simp only[sS,reduceCtorEq]at *
  repeat' (first | intro _ | apply And.intro)
  all_goals first | exact Qfk _ | exact Jbc (by assumption) | exact Jg4 (by assumption) | exact lv)
@[reducible,instance] def Q87{x0 x1}:=mkW (D1.eq_1 N x0 x1) (x0.length≤32) (fun r=>sz r≤32)
attribute [local instance 1300] Jot in
@[reducible,instance] def Q5s{x1 ca cd}:=mkW (B7.eq_1 N x1 ca cd) (ca.length≤999999999999∧sz ca≤1000000000000∧sz x1≤4096∧Qr Hh ca∧Q1a x1) (fun r=>r.2.length≤ca.length+1∧sz r.2≤1000000000000∧Qr Hh r.2∧mis r.2=mis ca) (k:=by
  intro h
  have g0:=h.2.2.2.2.c
  try simp only[sS,reduceCtorEq]at *
  repeat' (first | intro _ | apply And.intro)
  all_goals first | ((repeat cases ‹_∧_›); first | assumption | omega | exact Jg6 (by assumption) (by assumption) (by assumption) (by omega) (by omega) (by omega) | exact Jj5 (by assumption) (by assumption) (by omega)) | exact lv)
@[reducible,instance] def Q3g{x2}{s}:=upL (N:=N) (s:=s) (Ny.eq_def N x2) (fun t=>t.1) x2.1.length (fun t=>sz x2.1≤1000000000000∧t.2.1=x2.1.take t.1.toNat) (fun r:(((List Qb)×(List (Q5×Bool))))=>r.1=x2.1) (step:=by
  intro s h h0 h1 h2 hw
  try simp only[sS,reduceCtorEq]at *
  repeat' (first | intro _ | apply And.intro)
  all_goals first | grind [Yp,Y2,Uk.deep] | exact lv)
@[reducible,instance] def Q3h{r118 x4}{s}:=upL (N:=N) (s:=s) (Nz.eq_def N r118 x4) (fun t=>t.1) r118.length (fun t=>r118.length≤32∧sz r118≤4096∧0≤s.1∧s.2.1.length≤999999999900∧t.2.1.length≤s.2.1.length+(t.1 - s.1)∧sz t.2.1≤1000000000000∧Qr Q1a r118∧Qr Hh t.2.1∧mis t.2.1=mis s.2.1∧r118.length≤4096) (fun r:(((List Qb)×(List (Q5×Bool))))=>r.1.length≤s.2.1.length+32∧sz r.1≤1000000000000∧Qr Hh r.1∧mis r.1=mis s.2.1) (step:=by
  intro s h h0 h1 h2 hw
  try simp only[sS,reduceCtorEq]at *
  repeat' (first | intro _ | apply And.intro)
  all_goals first | ((repeat cases ‹_∧_›); first | assumption | omega | exact Qi1 (P:=Q1a) (by assumption) (by assumption)) | exact lv)
@[reducible,instance] def Q3i{r54 x1 x109 x4}{s}:=upL (N:=N) (s:=s) (N0.eq_def N r54 x1 x109 x4) (fun t=>t.1) r54.length (fun t=>r54.length≤32∧sz r54≤32∧x1.length≤32∧sz x1≤4096∧Qr (fun p:Qo=>p.2.2.2.2.2.length≤32) x1∧0≤s.1∧s.2.1.length≤999999990000∧t.2.1.length≤s.2.1.length+32*(t.1 - s.1)∧sz t.2.1≤1000000000000∧Qr V9 x1∧Qr Hh t.2.1∧mis t.2.1=mis s.2.1∧x1.length≤4096) (fun r:(((List Qb)×(List (Q5×Bool))))=>r.1.length≤s.2.1.length+1024∧sz r.1≤1000000000000∧Qr Hh r.1∧mis r.1=mis s.2.1)
@[reducible,instance] def Q3j{r56 r54 x1 x4}{s}:=upL (N:=N) (s:=s) (N1.eq_def N r56 r54 x1 x4) (fun t=>t.1) r56.length (fun t=>r56.length≤7426048∧r54.length≤32∧sz r54≤32∧x1.length≤32∧sz x1≤4096∧Qr (fun p:Qo=>p.2.2.2.2.2.length≤32) x1∧0≤s.1∧s.2.1.length≤900000000000∧t.2.1.length≤s.2.1.length+1024*(t.1 - s.1)∧sz t.2.1≤1000000000000∧Qr V9 x1∧Qr Hh t.2.1∧mis t.2.1=mis s.2.1∧x1.length≤4096) (fun r:(((List Qb)×(List (Q5×Bool))))=>r.1.length≤s.2.1.length+7604273152∧sz r.1≤1000000000000∧Qr Hh r.1∧mis r.1=mis s.2.1)
@[reducible,instance] def Jbt{x0 x1 x2 x3 x4}:=mkW (Me.eq_1 N x0 x1 x2 x3 x4) (x0.length≤32∧x1.length≤32∧sz x1≤4096∧Qr (fun p:Qo=>p.2.2.2.2.2.length≤32) x1∧x2.1.length≤900000000000∧sz x2.1≤1000000000000∧x2.2.1.length≤1099511627∧x2.2.2.length≤1099511627∧x4≤86400000∧Qr V9 x1∧Qr Hh x2.1) (fun r=>r.1.length≤x2.1.length+7604273152∧sz r.1≤1000000000000∧r.2.1=x2.2.1∧r.2.2=x2.2.2∧Qr Hh r.1∧mis r.1=mis x2.1)
@[reducible,instance] def Jho{x0}:=mkW (Tq.eq_1 N x0) (sz x0≤1000000000000) (fun r=>r=(x0.1,x0.2.1,x0.2.2.1,x0.2.2.2.1,x0.2.2.2.2.1,x0.2.2.2.2.2.2.1,x0.2.2.2.2.2.2.2.1,x0.2.2.2.2.2.2.2.2.1,x0.2.2.2.2.2.2.2.2.2.1,x0.2.2.2.2.2.2.2.2.2.2,x0.2.2.2.2.2.1))
@[reducible,instance] def Q5t{x0}{s}:=upL (N:=N) (s:=s) (Rr.eq_def N x0) (fun t=>t.1) x0.length (fun t=>sz x0≤1000000000000∧t.2=x0.take t.1.toNat∧x0.length≤1000000000000) (fun r:(((List Qb)))=>r=x0) (step:=by
  intro s h h0 h1 h2 hw
  try simp only[sS,reduceCtorEq]at *
  repeat' (first | intro _ | apply And.intro)
  all_goals first | grind [Yp,Y2,Uk.deep] | exact lv)
@[reducible,instance] def Jc3{x0}:=mkW (O9.eq_1 N x0) (sz x0≤1000000000000) (fun r=>r=x0)
@[reducible,instance] def Jbu{x0 x1}:=mkW (Kq.eq_1 N x0 x1) (True) (fun r=>True)
@[reducible,instance] def Jbv{x0 x1}:=mkW (Mf.eq_1 N x0 x1) (True) (fun r=>True)
theorem Qg2{N:Nat}[Xy N]{x2:Int}{L:Int}{s:Int×List Int}:WP (Qf (B8 N x2) N s) (fun R=>((0≤s.1∧s.1≤x2∧x2≤L∧L≤1000000000000)∧s.2=[])∧∀r:List Int,((r.length:Int)=x2 - s.1∧Qr (fun i:Int=>0≤i∧i<L) r)→R r):=⟨fun R h=>(mkL (N:=N) (s:=s) (B8.eq_def N x2) (fun t=>(x2 - t.1).toNat) (fun t=>0≤s.1∧s.1≤t.1∧t.1≤x2∧x2≤L∧L≤1000000000000∧(t.2.length:Int)=t.1 - s.1∧Qr (fun i:Int=>0≤i∧i<L) t.2) (fun r:List Int=>(r.length:Int)=x2 - s.1∧Qr (fun i:Int=>0≤i∧i<L) r) (step:=by
  intro t h
  try simp only[sS,reduceCtorEq]at *
  repeat' (first | intro _ | apply And.intro)
  all_goals first | assumption | omega | ((simp (disch:=omega) only [Qx]at *)<;>omega) | exact Vj (by grind) (Zt (by grind)) | grind)).spec R ⟨⟨h.1.1.1,XV _,h.1.1.2.1,h.1.1.2.2.1,h.1.1.2.2.2,by rw[h.1.2]; simp,by rw[h.1.2]; exact Ul⟩,h.2⟩⟩
attribute [local instance 1300] Qiz in
@[reducible,instance] def Q5u{r6 r7 x0}{s}:=mkL (N:=N) (s:=s) (Rs.eq_def N r6 r7 x0) (fun t=>(r6.length - t.1+(r7.length - t.2.1)).toNat) (fun t=>r6.length+r7.length≤1000000000000∧Qr (fun i:Int=>0≤i∧i<(x0.length:Int)) r6∧Qr (fun i:Int=>0≤i∧i<(x0.length:Int)) r7∧0≤t.1∧t.1≤r6.length∧0≤t.2.1∧t.2.1≤r7.length∧(t.2.2.length:Int)=t.1+t.2.1∧Qr (fun i:Int=>0≤i∧i<(x0.length:Int)) t.2.2) (fun r:(((List Int)))=>r.length=r6.length+r7.length∧Qr (fun i:Int=>0≤i∧i<(x0.length:Int)) r) (step:=by
  intro s h
  have g0:=(fun i hi=>h.2.1.all i hi:∀i∈r6,0≤i∧i<(x0.length:Int)); have g1:=(fun i hi=>h.2.2.1.all i hi:∀i∈r7,0≤i∧i<(x0.length:Int))
  try simp only[sS,reduceCtorEq]at *
  repeat' (first | intro _ | apply And.intro)
  all_goals first | assumption | omega | ((simp (disch:=omega) only [Qx]at *)<;>omega) | exact(g0 _ (by assumption)).1 | exact(g0 _ (by assumption)).2 | exact(g1 _ (by assumption)).1 | exact(g1 _ (by assumption)).2 | exact Vj (by grind) (Zt (g0 _ (by assumption))) | exact Vj (by grind) (Zt (g1 _ (by assumption))) | exact lv)
theorem Ao{N:Nat}[Xy N]{x0:List Qb}(hx:x0.length≤1000000000000):∀(n:Nat) (x1 x2:Int),0≤x1→x1≤x2→x2≤x0.length→x2 - x1<n→W (Uf N n x0 x1 x2) fun r=>(r.length:Int)=x2 - x1∧Qr (fun i:Int=>0≤i∧i<(x0.length:Int)) r
 | 0,x1,x2,h0,h1,h2,h3=>by omega
 | n+1,x1,x2,h0,h1,h2,h3=>by
  unfold Uf
  have e1:IntKind.wrap .i64 (x2 - x1)=x2 - x1:=Qx (by omega) (by omega)
  have e2:IntKind.wrap .i64 (Int.tdiv (x2 - x1) 2)=(x2 - x1) / 2:=by rw[QG (by omega),Qx (by omega) (by omega)]
  have e3:IntKind.wrap .i64 (x1+(x2 - x1) / 2)=x1+(x2 - x1) / 2:=Qx (by omega) (by omega)
  rw[e1,e2,e3]
  by_cases hc:x2 - x1<2
  ·rw[if_pos (by simpa using hc)]
   obtain⟨r,e,hr⟩:=(Qg2 (N:=N) (x2:=x2) (L:=x0.length) (s:=(x1,[]))).spec _ ⟨⟨⟨h0,h1,h2,by omega⟩,rfl⟩,fun r h=>h⟩
   rw[e]; exact⟨r,rfl,hr⟩
  ·rw[if_neg (by simpa using hc)]
   obtain⟨r6,f6,k6⟩:=Ao (N:=N) hx n x1 (x1+(x2 - x1) / 2) h0 (by omega) (by omega) (by omega)
   obtain⟨r7,f7,k7⟩:=Ao (N:=N) hx n (x1+(x2 - x1) / 2) x2 (by omega) (by omega) (by omega) (by omega)
   rw[f6]
   show W ((Uf N n x0 (x1+(x2 - x1) / 2) x2).bind _) _
   rw[f7]
   refine wp ?_
   refine⟨⟨by omega,by omega,by omega⟩,⟨by omega,k6.2,k7.2,XV _,Int.natCast_nonneg _,XV _,Int.natCast_nonneg _,rfl,Ul⟩,fun r h=>⟨by omega,h.2⟩⟩
@[reducible,instance] def Jc4{N:Nat}[hN:Xy N]{x0:List Qb}{x1 x2:Int}:WP (Qfb N x0 x1 x2) (fun R=>(x0.length≤1000000000000∧0≤x1∧x1≤x2∧x2≤x0.length)∧∀r:List Int,((r.length:Int)=x2 - x1∧Qr (fun i:Int=>0≤i∧i<(x0.length:Int)) r)→R r):=Dm (by
  intro h
  have:=hN.le
  exact Ao (N:=N) h.1 N x1 x2 h.2.1 h.2.2.1 h.2.2.2 (by omega))
@[reducible,instance] def Q5v{x0 x4}{s}:=upL (N:=N) (s:=s) (Rt.eq_def N x0 x4) (fun t=>t) x0.2.2.2.2.2.1.length (fun t=>x0.2.2.2.2.2.1.length≤1000000000000) (fun r:((Unit)⊕(Bool))=>True)
@[reducible,instance] def Jc5{x0 x1 x2 x3 x4 x5 x6}:=mkW (Pa.eq_1 N x0 x1 x2 x3 x4 x5 x6) (x0.2.2.2.2.2.1.length≤1000000000000) (fun r=>True)
@[reducible,instance] def Jnf{x0}:=mkW (Qkc.eq_1 N x0) (sz x0≤9223372036854775807) (fun r=>True)
@[reducible,instance] def Jbw{r2 x0 x1 x2 x3 x4 x5 x6}{s}:=upL (N:=N) (s:=s) (Qcb.eq_def N r2 x0 x1 x2 x3 x4 x5 x6) (fun t=>t.2.1) r2.length (fun t=>r2.length≤1000000000000∧Qr (fun i:Int=>0≤i∧i<(x0.length:Int)) r2∧sz x0≤1000000000000∧t.2.2.1.length=x0.length∧sz t.2.2.1≤1000000000000∧t.2.2.2.length≤t.2.1∧0≤t.1∧t.1≤1099511627776∧Qr Hh t.2.2.1∧mis t.2.2.1=mis x0+tks t.2.2.2∧x0.length≤1000000000000) (fun r:((Int×(List Qb)×(List Q7)))=>r.2.1.length=x0.length∧sz r.2.1≤1000000000000∧r.2.2.length≤r2.length∧Qr Hh r.2.1∧mis r.2.1=mis x0+tks r.2.2) (step:=by
  intro s h h0 h1 h2 hw
  have g0:=(fun i hi=>h.2.1.all i hi:∀i∈r2,0≤i∧i<(x0.length:Int))
  try simp only[sS,reduceCtorEq]at *
  repeat' (first | intro _ | apply And.intro)
  all_goals first | ((repeat cases ‹_∧_›); first | assumption | exact Jou (by assumption) (by assumption) (by assumption) (by assumption) (by assumption) | exact Jov (by assumption) (by assumption) (by assumption) (by assumption) (by assumption) (by assumption) | exact(Jg7 (by assumption) (by assumption) (by assumption) (by assumption)).1 | exact(Jg7 (by assumption) (by assumption) (by assumption) (by assumption)).2) | assumption | omega | exact(g0 _ (by assumption)).1 | exact(g0 _ (by assumption)).2 | exact Int.lt_of_lt_of_le (g0 _ (by assumption)).2 (by omega) | exact lv)
@[reducible,instance] def Jh9{x0 x1 x2 x3 x4 x5 x6 x7}:=mkW (Qcc.eq_1 N x0 x1 x2 x3 x4 x5 x6 x7) (sz x0≤1000000000000∧Qr Hh x0∧x7≤1099511627776) (fun r=>r.2.1.length=x0.length∧sz r.2.1≤1000000000000∧r.2.2.length≤x0.length∧Qr Hh r.2.1∧mis r.2.1=mis x0+tks r.2.2) (k:=by
  intro h
  try simp only[sS,reduceCtorEq]at *
  repeat' (first | intro _ | apply And.intro)
  all_goals first | ((repeat cases ‹_∧_›); first | assumption | omega | exact(ZH _).symm) | exact lv)
@[reducible,instance] def Jc6{x0 x1 x2 x3}:=mkW (Pb.eq_1 N x0 x1 x2 x3) (sz x0≤1000000000000∧Qr Hh x0.1∧x1.2.2.2.2.2.2.2.1≤1099511627776) (fun r=>r.2.1.length=x0.1.length∧sz r.2.1≤1000000000000∧r.2.2.1=x0.2.1∧r.2.2.2.1=x0.2.2∧r.2.2.2.2.length≤x0.1.length∧Qr Hh r.2.1∧mis r.2.1=mis x0.1+tks r.2.2.2.2)
@[reducible,instance] def Jbx{x0 x1}:=mkW (Mh.eq_1 N x0 x1) (True) (fun r=>True)
@[reducible,instance] def Jc7{x0}{s}:=upL (N:=N) (s:=s) (Qfc.eq_def N x0) (fun t=>t) x0.length (fun t=>Sh.sh x0) (fun r:((Unit)⊕(Bool))=>True) (fun _ h=>Qg0 (by grind))
@[reducible,instance] def Jj9{x0}:=mkW (Qgb.eq_1 N x0) (Sh.sh x0) (fun r=>True)
@[reducible,instance] def Jc8{x0 c7}:=mkW (Pd.eq_1 N x0 c7) (True) (fun r=>True)
@[reducible,instance] def Qk8{x0 c7}{s}:=upL (N:=N) (s:=s) (Xm.eq_def N x0 c7) (fun t=>t) x0.length (fun t=>x0.length≤9223372036854775807) (fun r:((Unit)⊕(Int))=>True)
@[reducible,instance] def Qn8{x0 c7}:=mkW (Zg.eq_1 N x0 c7) (x0.length≤9223372036854775807) (fun r=>True)
@[reducible,instance] def Qk9{x0 c7}:=mkW (Ug.eq_1 N x0 c7) (x0.length≤9223372036854775807) (fun r=>True)
@[reducible,instance] def Jby{x0}{s}:=upL (N:=N) (s:=s) (Qcd.eq_def N x0) (fun t=>t) x0.length (fun t=>sz x0≤9223372036854775807) (fun r:((Unit)⊕(Int))=>True)
@[reducible,instance] def Jia{x0}:=mkW (Qce.eq_1 N x0) (sz x0≤9223372036854775807) (fun r=>True)
@[reducible,instance] def Jbz{x0}{s}:=upL (N:=N) (s:=s) (Qcf.eq_def N x0) (fun t=>t) x0.length (fun t=>sz x0≤4096∧x0.length≤64∧Sh.sh x0∧x0.length≤4096) (fun r:((Unit)⊕(Int))=>∀c,r=.inr c→c≠0)
@[reducible,instance] def Jib{x0}:=mkW (Dd.eq_1 N x0) (sz x0≤4096∧Sh.sh x0) (fun r=>r=0→1≤x0.length∧x0.length≤64)
@[reducible,instance] def Qx7{x0 x1}{s}:=upL (N:=N) (s:=s) (Ik.eq_def N x0 x1) (fun t=>t) x0.length (fun t=>x0.length≤9223372036854775807) (fun r:((Unit)⊕(Int))=>True)
@[reducible,instance] def Q5w{x0 x1}:=mkW (B9.eq_1 N x0 x1) (x0.length≤9223372036854775807) (fun r=>True)
@[reducible,instance] def Qx8{x0 x1}:=mkW (He.eq_1 N x0 x1) (x0.length≤9223372036854775807) (fun r=>True)
@[reducible,instance] def Q5x{x0}:=mkW (Gw.eq_1 N x0) (True) (fun r=>0≤x0→x0<146097→0≤r) (k:=by
  intro h
  try simp only[sS,reduceCtorEq]at *
  repeat' (first | intro _ | apply And.intro)
  all_goals first | (rw[Qx (by omega) (by omega),JY (by omega)]; omega) | exact lv)
@[reducible,instance] def Jng{x0 x1}:=mkW (Qd6.eq_1 N x0 x1) (x0.length≤9223372036854775807∧0≤x1∧x1<146097) (fun r=>True)
@[reducible,instance] def Jhp{x0 c7 ca}:=mkW (Tr.eq_1 N x0 c7 ca) (True) (fun r=>True)
@[reducible,instance] def Qla{x0 c7 ca}{s}:=upL (N:=N) (s:=s) (Xn.eq_def N x0 c7 ca) (fun t=>t) x0.length (fun t=>x0.length≤9223372036854775807) (fun r:((Unit)⊕(Int))=>True)
@[reducible,instance] def Qn9{x0 c7 ca}:=mkW (Zh.eq_1 N x0 c7 ca) (x0.length≤9223372036854775807) (fun r=>True)
@[reducible,instance] def Qlb{x0 c7 ca}:=mkW (Uh.eq_1 N x0 c7 ca) (x0.length≤9223372036854775807) (fun r=>True)
@[reducible,instance] def Jc9{x0 x1 x2}{s}:=upL (N:=N) (s:=s) (Qfd.eq_def N x0 x1 x2) (fun t=>t) x0.length (fun t=>sz x0≤4096∧x0.length≤4096) (fun r:((Unit)⊕(Str))=>True)
@[reducible,instance] def Jka{x0 x1 x2}:=mkW (Tt.eq_1 N x0 x1 x2) (sz x0≤4096∧1≤x0.length) (fun r=>True) (k:=by
  intro h
  have g0:=(Kt (l:=x0))
  try simp only[sS,reduceCtorEq]at *
  repeat' (first | intro _ | apply And.intro)
  all_goals first | exact lv)
@[reducible,instance] def Jow{x0 x1 x2}:=mkW (Qh8.eq_1 N x0 x1 x2) (sz x0≤4096∧Sh.sh x0∧x1.length≤4096) (fun r=>True) (k:=by
  intro h
  have g0:=(show 0≤x2∧x2≤12622780799→IntKind.wrap .i64 (Int.tdiv x2 86400)=x2 / 86400 from fun a=>by rw[QG (by omega),Qx (by omega) (by omega)])
  try simp only[sS,reduceCtorEq]at *
  repeat' (first | intro _ | apply And.intro)
  all_goals first | exact lv)
@[reducible,instance] def Q88{x3 x1}{s}:=upL (N:=N) (s:=s) (Qas.eq_def N x3 x1) (fun t=>t.1) x3.2.length (fun t=>x3.2.length≤4096∧0≤s.1∧s.2.length≤1099511627∧t.2.length≤s.2.length+2*(t.1 - s.1)) (fun r:(((List Int)))=>r.length≤s.2.length+8192)
@[reducible,instance] def Q89{x0 x1}{s}:=upL (N:=N) (s:=s) (Qat.eq_def N x0 x1) (fun t=>t.1) x0.length (fun t=>sz x0≤4096∧x0.length≤64∧0≤s.1∧t.2.length≤1+8192*t.1∧x0.length≤4096) (fun r:(((List Int)))=>r.length≤524289)
@[reducible,instance] def Jhq{x0 x1}:=mkW (Tu.eq_1 N x0 x1) (sz x0≤4096∧x0.length≤64) (fun r=>r.length≤524289)
@[reducible,instance] def Jhr{r9 v6 x2 x0 r8}{s}:=upL (N:=N) (s:=s) (Qh9.eq_def N r9 v6 x2 x0 r8) (fun t=>t.1) r9.length (fun t=>r9.length≤524289∧sz x0≤4096∧1≤x0.length∧0≤s.1∧s.2.length≤1099511627∧t.2.length≤s.2.length+(t.1 - s.1)∧x0.length≤4096) (fun r:(((List Zp)))=>r.length≤s.2.length+524289)
@[reducible,instance] def Jhs{x2 x1 x0}{s}:=mkL (N:=N) (s:=s) (Qia.eq_def N x2 x1 x0) (fun t=>(146100 - t.1).toNat) (fun t=>sz x0≤4096∧1≤x0.length∧x0.length≤64∧x1.length≤4096∧0≤x2.1∧x2.1<x2.2∧x2.2≤12622780800∧x2.2 - x2.1≤2678400∧x2.1 / 86400≤t.1∧t.1≤x2.1 / 86400+33∧(t.2.length:Int)≤524289*(t.1 - x2.1 / 86400)∧x0.length≤4096) (fun r:(((List Zp)))=>r.length≤17301537) (step:=by
  intro s h
  have g0:=(show 0≤x2.1∧x2.1<x2.2∧x2.2≤12622780800→IntKind.wrap .i64 (Int.tdiv (IntKind.wrap .i64 (x2.2 - 1)) 86400)=(x2.2 - 1) / 86400 from fun a=>by rw[Qx (n:=x2.2 - 1) (by omega) (by omega),QG (by omega),Qx (by omega) (by omega)])
  try simp only[sS,reduceCtorEq]at *
  repeat' (first | intro _ | apply And.intro)
  all_goals first | exact lv)
attribute [local instance 1300] Qiz in
@[reducible,instance] def Jnh{x0 x1 x2}:=mkW (Qkd.eq_1 N x0 x1 x2) (sz x0≤4096∧Sh.sh x0∧x1.length≤4096) (fun r=>r.length≤17301537) (k:=by
  intro h
  have g0:=(show 0≤x2.1∧x2.1<x2.2∧x2.2≤12622780800→IntKind.wrap .i64 (Int.tdiv x2.1 86400)=x2.1 / 86400∧IntKind.wrap .i64 (x2.2 - x2.1)=x2.2 - x2.1 from fun a=>⟨by rw[QG (by omega),Qx (by omega) (by omega)],Qx (by omega) (by omega)⟩)
  try simp only[sS,reduceCtorEq]at *
  repeat' (first | intro _ | apply And.intro)
  all_goals first | exact lv)
@[reducible,instance] def Jb0{x0 c7 ca cd}:=mkW (Mi.eq_1 N x0 c7 ca cd) (True) (fun r=>True)
@[reducible,instance] def Q9a{x0 x1 x2 x3}{s}:=upL (N:=N) (s:=s) (Qau.eq_def N x0 x1 x2 x3) (fun t=>t.1) x0.2.2.2.2.2.1.length (fun t=>sz x0≤4096∧x0.2.2.2.2.2.1.length≤4096) (fun r:((Int×Str×Str×Int)⊕(Bool×Int×Str×Str×Int×(List Vn)))=>∀t,r=.inr t→t.2.2.2.2.2.length≤4096)
@[reducible,instance] def Jht{x0 x1 x2 x3}:=mkW (Tv.eq_1 N x0 x1 x2 x3) (sz x0≤4096) (fun r=>r.2.2.2.2.2.length≤4096)
@[reducible,instance] def Q3k{x1 x0}{s}:=Qk4 (N:=N) (s:=s) (N2.eq_def N x1 x0) x1 (x1.length≤9223372036854775807) (fun y=>0≤y∧y≤x0) (∀y∈x1,0≤y∧y≤x0) (fun u=>u=false)
@[reducible,instance] def Jb1{x0 x1}:=mkW (W9.eq_1 N x0 x1) (x1.length≤9223372036854775807) (fun r=>r=true→Q06 x0 x1) (k:=by
  intro h
  try simp only[sS,reduceCtorEq]at *
  repeat' (first | intro _ | apply And.intro)
  all_goals first | exact Q07 (by assumption) | exact lv)
@[reducible,instance] def Qx9{c7}{s}:=upL (N:=N) (s:=s) (Il.eq_def N c7) (fun t=>t.2) c7.length (fun t=>c7.length≤64∧Qfj Qk5 c7 t.2) (fun r:((Unit)⊕(Int))=>(∀u,r=.inl u→∀y∈c7,Qk5 y)∧∀u,r=.inr u→u≠0) (step:=by
  intro s h h0 h1 h2 hw
  try simp only[sS,reduceCtorEq]at *
  repeat' (first | intro _ | apply And.intro)
  all_goals first | exact Qac | (rw[hw (by assumption)]; exact Nb h0 h.2 (by assumption) (Jbd (by grind) (by grind) (by grind))) | exact Sf h.2 (by omega) _ (by assumption) | exact lv)
@[reducible,instance] def Q5y{c7}:=mkW (Ca.eq_1 N c7) (c7.length≤9223372036854775807) (fun r=>r=0→Qr Qk5 c7∧c7.length≤64) (k:=by
  intro h
  try simp only[sS,reduceCtorEq]at *
  repeat' (first | intro _ | apply And.intro)
  all_goals first | exact⟨by assumption⟩ | exact lv)
@[reducible,instance] def Q2i{c7 x1}{s}:=upL (N:=N) (s:=s) (Mj.eq_def N c7 x1) (fun t=>t.2.2) c7.length (fun t=>c7.length≤64∧Qr Qk5 c7∧0≤t.2.1∧t.2.1≤2199023255552∧x1≤2199023255552) (fun r:((Int)⊕(Int×Bool))=>True) (step:=by
  intro s h h0 h1 h2 hw
  have g0:=(fun y hy=>⟨(h.2.1.all y hy).upto,(h.2.1.all y hy).inc,(h.2.1.all y hy).price⟩:∀y∈c7,(0≤y.1∧y.1≤1099511627776)∧(1≤y.2.1∧y.2.1≤1099511627776)∧(0≤y.2.2∧y.2.2≤1125899906842624)); have g1:=Jg5
  try simp only[sS,reduceCtorEq]at *
  repeat' (first | intro _ | apply And.intro)
  all_goals first | exact Jp6 (by assumption) (g0 _ (by assumption)).2.1 (by assumption) h.2.2.1 (by first | omega | (have k:=(g0 _ (by assumption)).1.2; split<;>omega)) | (have k:=(g0 _ (by assumption)).1.2; split<;>omega) | exact lv)
@[reducible,instance] def Q9b{x1 c7}:=mkW (H0.eq_1 N x1 c7) (c7.length≤64∧Qr Qk5 c7∧x1≤2199023255552) (fun r=>True)
@[reducible,instance] def Q3l{x1 x2 c7}:=mkW (F8.eq_1 N x1 x2 c7) (c7.length≤9223372036854775807) (fun r=>True) (k:=by
  intro h
  have g0:=(show 0≤x1∧x1≤1099511627776→0≤x2∧x2≤1099511627776→IntKind.wrap .i64 (x1+x2)=x1+x2 from fun a b=>Qx (by omega) (by omega)); have g1:=(show 0≤x1∧x1≤1099511627776→IntKind.wrap .i64 (1099511627776 - x1)=1099511627776 - x1 from fun a=>Qx (by omega) (by omega))
  try simp only[sS,reduceCtorEq]at *
  repeat' (first | intro _ | apply And.intro)
  all_goals first | exact lv)
@[reducible,instance] def Q3m{r7}{s}:=upL (N:=N) (s:=s) (N3.eq_def N r7) (fun t=>t.1) r7.length (fun t=>r7.length≤17301537∧t.2.length≤t.1) (fun r:(((List Qp)))=>r.length≤17301537)
@[reducible,instance] def Jb2{x0 x1 x2 x3}:=mkW (Mk.eq_1 N x0 x1 x2 x3) (sz x0≤4096∧Sh.sh x0.2.2.2.2.1∧x1.length≤4096) (fun r=>r.length≤17301537)
@[reducible,instance] def Q5z{r3 x0 x2 r1}{s}:=upL (N:=N) (s:=s) (Ru.eq_def N r3 x0 x2 r1) (fun t=>t.2.2.2.2.1) r3.length (fun t=>r3.length≤17301537∧sz x0≤4096∧t.2.2.2.2.2.length=r3.length) (fun r:((Int×Int×Int×(List Qp)))=>r.2.2.2.length≤17301537)
@[reducible,instance] def Jda{x0 x1 x2 x3}:=mkW (Pe.eq_1 N x0 x1 x2 x3) (sz x0≤4096∧Sh.sh x0.2.2.2.1∧Sh.sh x0.2.2.2.2.1∧x1.length≤4096∧Sh.sh x2.2.2.2.2.2.1∧List.length x2.2.2.2.2.2.1≤9223372036854775807) (fun r=>r.2.2.length≤17301537)
@[reducible,instance] def Q3n{r3}{s}:=upL (N:=N) (s:=s) (N4.eq_def N r3) (fun t=>t.2) r3.length (fun t=>r3.length≤17301537) (fun r:((Int))=>True)
@[reducible,instance] def Jb3{x0 x1}:=mkW (Mp.eq_1 N x0 x1) (True) (fun r=>True)
@[reducible,instance] def Q2j{x0 x1:Qg}{s:Int}:WP (Qf (U7 N x0 x1) N s) (fun R=>(0≤s∧s≤3)∧∀r:Unit⊕Int,True→R r):=⟨fun R h=>(mkL (N:=N) (s:=s) (f':=U7 N x0 x1) (B:=fun t S=>0≤t∧t≤3∧∀r,(match r with | .inl t'=>(0≤t'∧t'≤3)∧(3 - t').toNat<(3 - t).toNat | .inr _=>True)→S r) (hf:=⟨fun t S h=>by
  obtain⟨h0,h1,k⟩:=h
  have hx:t=0∨t=1∨t=2∨t=3:=by omega
  have go:∀(t:Int) (a b:Int),0≤t→t<3→idx ([([x0.1,x1.1]:List Int),([x0.2.1,x1.2.1]:List Int),([x0.2.2.1,x1.2.2.1]:List Int)]:List (List Int)) t=some [a,b]→∃r,U7 N x0 x1 t=some r∧(match r with | .inl t'=>(0≤t'∧t'≤3)∧(3 - t').toNat<(3 - t).toNat | .inr _=>True):=fun t a b h0 h1 e=>by
   have hw:IntKind.wrap .i64 (t+1)=t+1:=Qx (by omega) (by omega)
   unfold U7
   rw[if_pos (by simpa using h1),e]
   by_cases c1:a<b
   ·refine⟨.inr (.inr (-1)),?_,trivial⟩
    show(if decide (a<b)=true then _ else _)=_
    rw[if_pos (by simpa using c1)]
   ·by_cases c2:a>b
    ·refine⟨.inr (.inr 1),?_,trivial⟩
     show(if decide (a<b)=true then _ else _)=_
     rw[if_neg (by simpa using c1)]
     show(if decide (a>b)=true then _ else _)=_
     rw[if_pos (by simpa using c2)]
    ·refine⟨.inl (t+1),?_,⟨by omega,by omega⟩,by omega⟩
     show(if decide (a<b)=true then _ else _)=_
     rw[if_neg (by simpa using c1)]
     show(if decide (a>b)=true then _ else _)=_
     rw[if_neg (by simpa using c2),hw]
  rcases hx with rfl | rfl | rfl | rfl
  ·obtain⟨r,e,hr⟩:=go 0 x0.1 x1.1 (by omega) (by omega) rfl; exact⟨r,e,k r hr⟩
  ·obtain⟨r,e,hr⟩:=go 1 x0.2.1 x1.2.1 (by omega) (by omega) rfl; exact⟨r,e,k r hr⟩
  ·obtain⟨r,e,hr⟩:=go 2 x0.2.2.1 x1.2.2.1 (by omega) (by omega) rfl; exact⟨r,e,k r hr⟩
  ·exact⟨.inr (.inl ()),rfl,k _ trivial⟩⟩) (fun _=>rfl) (fun t=>(3 - t).toNat) (fun t=>0≤t∧t≤3) (fun _=>True) (hμ:=fun t h=>by omega) (step:=fun t h=>⟨h.1,h.2,fun r hr=>by cases r<;>exact hr⟩)).spec R h⟩
@[reducible,instance] def Q9c{x0 x1}:=mkW (Xo.eq_1 N x0 x1) (True) (fun r=>True)
@[reducible,instance] def Jb4{x0 x1 x2 x3}{s}:=upL (N:=N) (s:=s) (Qcg.eq_def N x0 x1 x2 x3) (fun t=>t.1) x0.length (fun t=>x0.length≤9223372036854775807) (fun r:((Qg)⊕(Qg))=>True)
@[reducible,instance] def Jic{x0 x1 x2 x3}:=mkW (Qch.eq_1 N x0 x1 x2 x3) (x0.length≤9223372036854775807) (fun r=>True)
@[reducible,instance] def Jhu{x0:Qc}{x1 x2:Str}{x3:Qg}{x4:Bool}:WP (I1 N x0 x1 x2 x3 x4) (fun R=>True∧∀r:V5,True→R r):=Dm fun h=>by
 rw[I1.eq_1]
 refine wp ?_
 have e:∀(i:Int) (x:Int),([86400,60]:List Int)[i.toNat]?=some x→x∈([86400,60]:List Int)→x≠0:=fun i x _ h=>by
  rcases QJ.1 h with rfl | h
  ·decide
  ·rw[JW.1 h]; decide
 refine⟨fun _=>trivial,fun _=>?_⟩
 refine⟨by decide,fun y hy _ _ _=>⟨by decide,fun y2 hy2 _ _ e2=>⟨e _ _ e2 hy2,⟨trivial,fun r hr=>⟨by decide,fun y3 _ _ _ _=>⟨by decide,fun y4 hy4 _ _ e4=>⟨e _ _ e4 hy4,⟨by decide,fun y5 _ _ _ _=>⟨by decide,fun y6 hy6 _ _ e6=>⟨e _ _ e6 hy6,trivial⟩⟩⟩⟩⟩⟩⟩⟩⟩⟩
@[reducible,instance] def Q50{x1 x0 x2}{s}:=mkL (N:=N) (s:=s) (Rv.eq_def N x1 x0 x2) (fun t=>(t.2.2+1).toNat) (fun t=>1≤x2∧t.2.2≤62) (fun r:((Int×Int)⊕(Int×Int))=>True)
@[reducible,instance] def Jdb{x0 x1 x2}:=mkW (Pg.eq_1 N x0 x1 x2) (1≤x2) (fun r=>True)
@[reducible,instance] def Jb5{x0}:=mkW (Ms.eq_1 N x0) (True) (fun r=>True)
@[reducible,instance] def Jhv{x0 x1 x2}:=mkW (Tx.eq_1 N x0 x1 x2) (True) (fun r=>True)
@[reducible,instance] def Jb6{x0 x1}:=mkW (Mt.eq_1 N x0 x1) (True) (fun r=>True)
@[reducible,instance] def Jid{x0}:=mkW (N6.eq_1 N x0) (True) (fun r=>r=0∨(Q47 x0∧r=IntKind.wrap .i64 (IntKind.wrap .i64 (x0.2.1 - x0.2.2.2.1) - x0.2.2.1)))
attribute [local instance 1300] Qiz in
@[reducible,instance] def Jhw{x0 x1}:=mkW (Tz.eq_1 N x0 x1) (True) (fun r=>r.2=0→Jz x0→Jz r.1) (k:=by
  intro h
  try simp only[sS,reduceCtorEq]at *
  repeat' (first | intro _ | apply And.intro)
  all_goals first | assumption | (have q:=Q47.c (Jz.c (by assumption:Jz x0)); have z:=Jz.z (by assumption:Jz x0); refine Qum (by assumption) ?_ ?_<;>grind [Qx,Qi0]) | exact lv)
@[reducible,instance] def Qxl{c7}{s}:=upL (N:=N) (s:=s) (Df.eq_def N c7) (fun t=>t.1) c7.length (fun t=>c7.length≤1000000000000∧Qfl t.2 c7.length) (fun r:(((List (Int×Int))))=>Qfl r c7.length) (step:=by
  intro s h h0 h1 h2 hw
  try simp only[sS,reduceCtorEq]at *
  repeat' (first | intro _ | apply And.intro)
  all_goals first | exact Qea | exact Qeb (by grind) (by omega) (by omega) | exact lv)
@[reducible,instance] def Q3o{c7}:=mkW (Aa.eq_1 N c7) (c7.length≤1000000000000) (fun r=>Qfl r c7.length) (k:=by
  intro h
  try simp only[sS,reduceCtorEq]at *
  repeat' (first | intro _ | apply And.intro)
  all_goals first | exact Qea | exact Qeb (by grind) (by omega) (by omega) | exact lv)
@[reducible,instance] def Jie{x0 x1 x2 x3}:=mkW (Qcj.eq_1 N x0 x1 x2 x3) (sz x0≤1000000000000) (fun r=>r.2.2.1=x0.1∧r.2.2.2.1.length=x0.2.1.length∧r.2.2.2.2=x0.2.2∧(Qr Jz x0.2.1→Qr Jz r.2.2.2.1)) (k:=by
  intro h
  try simp only[sS,reduceCtorEq]at *
  repeat' (first | intro _ | apply And.intro)
  all_goals first | ((repeat cases ‹_∧_›); first | assumption | omega | exact Nd (by assumption) ((by assumption:_→Jz _→Jz _) (by omega) (Qi1 (P:=Jz) (by assumption) (by assumption)))) | exact(Qec (by assumption) (by grind)).1 | exact(Qec (by assumption) (by grind)).2 | exact lv)
@[reducible,instance] def Q51{x0}{s}:=upI (N:=N) (s:=s) (Rw.eq_def N x0) (fun t=>t) (4) (fun t=>0≤t) (fun r:((Unit)⊕(Bool))=>True)
@[reducible,instance] def Jdc{x0}:=mkW (Pi.eq_1 N x0) (True) (fun r=>True)
@[reducible,instance] def Q3p{x0}:=mkW (Wh.eq_1 N x0) (True) (fun r=>True)
@[reducible,instance] def Jb7{x0}:=mkW (Ga.eq_1 N x0) (True) (fun r=>True)
@[reducible,instance] def Q52{x0}{s}:=upL (N:=N) (s:=s) (Rx.eq_def N x0) (fun t=>t) x0.length (fun t=>x0.length≤9223372036854775807) (fun r:((Unit)⊕(Bool))=>True)
@[reducible,instance] def Jdd{x0}:=mkW (Pj.eq_1 N x0) (x0.length≤9223372036854775807) (fun r=>True)
@[reducible,instance] def Q53{c7 ca}{s}:=upL (N:=N) (s:=s) (Ry.eq_def N c7 ca) (fun t=>t) c7.length (fun t=>c7.length≤1099511627776) (fun r:((Unit)⊕(Int×Int))=>∀t,r=.inr t→0≤t.1∧t.1≤t.2∧t.2≤t.1+1∧t.1<c7.length)
@[reducible,instance] def Jde{c7 ca}:=mkW (Pk.eq_1 N c7 ca) (c7.length≤1099511627776) (fun r=>0≤r.1∧r.1≤r.2∧r.2≤r.1+1∧r.2≤c7.length)
@[reducible,instance] def Jif{x0 x1}:=mkW (Qck.eq_1 N x0 x1) (x0.length≤1099511627776) (fun r=>r.2.length≤x0.length+1)
theorem Gh{N:Nat}[Xy N]:∀(n:Nat) (e:Qj),dpt e≤n→sz e≤4096→W (J3 N n e) fun r=>r=e
 | 0,e,h,hs=>by cases e with | mk a ks=>rw[dpt]at h; omega
 | n+1,e,h,hs=>by
  unfold J3
  have hk:=Qgz (e:=e)
  have hlen:=Kt (l:=e.ks)
  have ih:∀x:Qj,WP (J3 N n x) (fun R=>(x∈e.ks∧sz x≤4096)∧∀r:Qj,r=x→R r):=fun x=>Dm fun hx=>Gh n x (by have:=Jgz hx.1; omega) hx.2
  have loop:=fun s:Int×Int×Int×Str×List Qj=>upL (N:=N) (s:=s) (G1.eq_def N (J3 N n) e) (fun s=>s.1) e.ks.length (fun t=>e.ks.length≤4096∧t.2.1=s.2.1∧t.2.2.1=s.2.2.1∧t.2.2.2.1=s.2.2.2.1∧t.2.2.2.2=e.ks.take t.1.toNat) (fun r:Int×Int×Str×List Qj=>r=(s.2.1,s.2.2.1,s.2.2.2.1,e.ks)) (step:=by
   intro s h h0 h1 h2 hw
   try simp only[sS,reduceCtorEq]at *
   repeat' (first | intro _ | apply And.intro)
   all_goals first | assumption | omega | grind [Yp,Y2])
  refine wp ?_
  simp only[forall_eq]
  refine⟨⟨⟨by omega,trivial,trivial,trivial,by simp⟩,by simp,by simp⟩,?_⟩
  cases e with
  | mk a ks=>rfl
@[reducible,instance] def Qsu{N:Nat}[hN:Xy N]{x0:Qj}:WP (Ac N x0) (fun R=>(sz x0≤4096∧dpt x0≤4096)∧∀r:Qj,r=x0→R r):=Dm (by
  intro h
  have:=hN.le
  exact Gh N x0 (by omega) h.1)
@[reducible,instance] def Qme{x0}{s}:=upL (N:=N) (s:=s) (Wi.eq_def N x0) (fun t=>t.1) x0.2.2.2.1.length (fun t=>sz x0≤4096∧t.2.1=s.2.1∧t.2.2.1=s.2.2.1∧t.2.2.2.1=s.2.2.2.1∧t.2.2.2.2=x0.2.2.2.1.take t.1.toNat) (fun r:((Str×Int×Bool×(List Qq)))=>r.1=s.2.1∧r.2.1=s.2.2.1∧r.2.2.1=s.2.2.2.1∧r.2.2.2=x0.2.2.2.1) (step:=by
  intro s h h0 h1 h2 hw
  try simp only[sS,reduceCtorEq]at *
  repeat' (first | intro _ | apply And.intro)
  all_goals first | grind [Yp,Y2,Uk.deep] | exact lv)
@[reducible,instance] def Qmf{x0}{s}:=upL (N:=N) (s:=s) (Wj.eq_def N x0) (fun t=>t.1) x0.2.2.2.2.1.length (fun t=>sz x0≤4096∧t.2.1=s.2.1∧t.2.2.1=s.2.2.1∧t.2.2.2.1=s.2.2.2.1∧t.2.2.2.2.1=s.2.2.2.2.1∧t.2.2.2.2.2=x0.2.2.2.2.1.take t.1.toNat) (fun r:((Str×Int×Bool×(List Qq)×(List Qt)))=>r.1=s.2.1∧r.2.1=s.2.2.1∧r.2.2.1=s.2.2.2.1∧r.2.2.2.1=s.2.2.2.2.1∧r.2.2.2.2=x0.2.2.2.2.1) (step:=by
  intro s h h0 h1 h2 hw
  try simp only[sS,reduceCtorEq]at *
  repeat' (first | intro _ | apply And.intro)
  all_goals first | grind [Yp,Y2,Uk.deep] | exact lv)
@[reducible,instance] def Q54{x0}{s}:=upL (N:=N) (s:=s) (Rh.eq_def N x0) (fun t=>t.1) x0.1.length (fun t=>sz x0.1≤1000000000000∧t.2.1=x0.1.take t.1.toNat∧t.2.2.1=s.2.2.1∧t.2.2.2=s.2.2.2) (fun r:(((List Qb)×(List Qm)×(List Qg)))=>r.1=x0.1∧r.2.1=s.2.2.1∧r.2.2=s.2.2.2) (step:=by
  intro s h h0 h1 h2 hw
  try simp only[sS,reduceCtorEq]at *
  repeat' (first | intro _ | apply And.intro)
  all_goals first | grind [Yp,Y2,Uk.deep] | exact lv)
@[reducible,instance] def Qnr{x0}:=mkW (Or.eq_1 N x0) (sz x0≤1000000000000) (fun r=>r=x0)
@[reducible,instance] def Qmg{x0}{s}:=upL (N:=N) (s:=s) (Wk.eq_def N x0) (fun t=>t.1) x0.2.2.2.2.2.1.length (fun t=>sz x0≤4096∧t.2.1=s.2.1∧t.2.2.1=s.2.2.1∧t.2.2.2.1=s.2.2.2.1∧t.2.2.2.2.1=s.2.2.2.2.1∧t.2.2.2.2.2.1=s.2.2.2.2.2.1∧t.2.2.2.2.2.2=x0.2.2.2.2.2.1.take t.1.toNat) (fun r:((Str×Int×Bool×(List Qq)×(List Qt)×(List Jc)))=>r.1=s.2.1∧r.2.1=s.2.2.1∧r.2.2.1=s.2.2.2.1∧r.2.2.2.1=s.2.2.2.2.1∧r.2.2.2.2.1=s.2.2.2.2.2.1∧r.2.2.2.2.2=x0.2.2.2.2.2.1) (step:=by
  intro s h h0 h1 h2 hw
  try simp only[sS,reduceCtorEq]at *
  repeat' (first | intro _ | apply And.intro)
  all_goals first | grind [Yp,Y2,Uk.deep] | exact lv)
@[reducible,instance] def Qmh{x0}{s}:=upL (N:=N) (s:=s) (Wl.eq_def N x0) (fun t=>t.1) x0.2.2.2.2.2.2.length (fun t=>sz x0≤4096∧Uk x0∧t.2.1=s.2.1∧t.2.2.1=s.2.2.1∧t.2.2.2.1=s.2.2.2.1∧t.2.2.2.2.1=s.2.2.2.2.1∧t.2.2.2.2.2.1=s.2.2.2.2.2.1∧t.2.2.2.2.2.2.1=s.2.2.2.2.2.2.1∧t.2.2.2.2.2.2.2=x0.2.2.2.2.2.2.take t.1.toNat) (fun r:((Str×Int×Bool×(List Qq)×(List Qt)×(List Jc)×(List Qk)))=>r.1=s.2.1∧r.2.1=s.2.2.1∧r.2.2.1=s.2.2.2.1∧r.2.2.2.1=s.2.2.2.2.1∧r.2.2.2.2.1=s.2.2.2.2.2.1∧r.2.2.2.2.2.1=s.2.2.2.2.2.2.1∧r.2.2.2.2.2.2=x0.2.2.2.2.2.2) (step:=by
  intro s h h0 h1 h2 hw
  try simp only[sS,reduceCtorEq]at *
  repeat' (first | intro _ | apply And.intro)
  all_goals first | grind [Yp,Y2,Uk.deep] | exact lv)
@[reducible,instance] def Qrn{x0}:=mkW (Z4.eq_1 N x0) (sz x0≤4096∧Uk x0) (fun r=>r=x0)
@[reducible,instance] def Qoa{x0}{s}:=upL (N:=N) (s:=s) (G2.eq_def N x0) (fun t=>t.1) x0.2.1.length (fun t=>sz x0≤4096∧Qr Uk x0.2.1∧t.2.1=s.2.1∧t.2.2.1=x0.2.1.take t.1.toNat∧t.2.2.2.1=s.2.2.2.1∧t.2.2.2.2=s.2.2.2.2) (fun r:(((List Qv)×(List Ql)×(List Kl)×(List Int)))=>r.1=s.2.1∧r.2.1=x0.2.1∧r.2.2.1=s.2.2.2.1∧r.2.2.2=s.2.2.2.2) (step:=by
  intro s h h0 h1 h2 hw
  try simp only[sS,reduceCtorEq]at *
  repeat' (first | intro _ | apply And.intro)
  all_goals first | grind [Yp,Y2,Qr.all] | exact lv)
@[reducible,instance] def Qob{x0}{s}:=upL (N:=N) (s:=s) (G5.eq_def N x0) (fun t=>t.1) x0.2.2.2.2.2.length (fun t=>sz x0≤4096∧t.2.1=s.2.1∧t.2.2.1=s.2.2.1∧t.2.2.2.1=s.2.2.2.1∧t.2.2.2.2.1=s.2.2.2.2.1∧t.2.2.2.2.2.1=s.2.2.2.2.2.1∧t.2.2.2.2.2.2=x0.2.2.2.2.2.take t.1.toNat) (fun r:(((List Qv)×(List Ql)×(List Qo)×(List Kl)×(List Int)×(List Yf)))=>r.1=s.2.1∧r.2.1=s.2.2.1∧r.2.2.1=s.2.2.2.1∧r.2.2.2.1=s.2.2.2.2.1∧r.2.2.2.2.1=s.2.2.2.2.2.1∧r.2.2.2.2.2=x0.2.2.2.2.2) (step:=by
  intro s h h0 h1 h2 hw
  try simp only[sS,reduceCtorEq]at *
  repeat' (first | intro _ | apply And.intro)
  all_goals first | grind [Yp,Y2,Uk.deep] | exact lv)
@[reducible,instance] def Qoc{x0 v52}{s}:=upL (N:=N) (s:=s) (G3.eq_def N x0 v52) (fun t=>t.1) ((x0.2.2.1[v52.toNat]?.getD (([]:Str),0,0,([]:Str),false,([]:List Jw))).2.2.2.2.2).length (fun t=>sz x0≤4096∧0≤v52∧v52<x0.2.2.1.length∧t.2.1=s.2.1∧t.2.2.1=s.2.2.1∧t.2.2.2.1=s.2.2.2.1∧t.2.2.2.2.1=s.2.2.2.2.1∧t.2.2.2.2.2.1=s.2.2.2.2.2.1∧t.2.2.2.2.2.2=(x0.2.2.1[v52.toNat]?.getD (([]:Str),0,0,([]:Str),false,([]:List Jw))).2.2.2.2.2.take t.1.toNat) (fun r:((Str×Int×Int×Str×Bool×(List Jw)))=>r.1=s.2.1∧r.2.1=s.2.2.1∧r.2.2.1=s.2.2.2.1∧r.2.2.2.1=s.2.2.2.2.1∧r.2.2.2.2.1=s.2.2.2.2.2.1∧r.2.2.2.2.2=(x0.2.2.1[v52.toNat]?.getD (([]:Str),0,0,([]:Str),false,([]:List Jw))).2.2.2.2.2) (fun s h=>by have h1:=h.1; have h2:=h.2.1; have h3:=h.2.2.1; have h4:v52.toNat<x0.2.2.1.length:=(by omega); have h5:=Qrf (XJ h4); rw[List.getElem?_eq_getElem h4]; simp only[XE]; have h6:=Kt (l:=x0.2.2.1[v52.toNat].2.2.2.2.2); simp only[sz1,mx1]at *; omega) (step:=by
  intro s h h0 h1 h2 hw
  try simp only[sS,reduceCtorEq]at *
  repeat' (first | intro _ | apply And.intro)
  all_goals first | grind [Yp,Y2,Uk.deep] | exact lv)
@[reducible,instance] def Qod{x0}{s}:=upL (N:=N) (s:=s) (G4.eq_def N x0) (fun t=>t.1) x0.2.2.1.length (fun t=>sz x0≤4096∧t.2.1=s.2.1∧t.2.2.1=s.2.2.1∧t.2.2.2.1=x0.2.2.1.take t.1.toNat∧t.2.2.2.2.1=s.2.2.2.2.1∧t.2.2.2.2.2=s.2.2.2.2.2) (fun r:(((List Qv)×(List Ql)×(List Qo)×(List Kl)×(List Int)))=>r.1=s.2.1∧r.2.1=s.2.2.1∧r.2.2.1=x0.2.2.1∧r.2.2.2.1=s.2.2.2.2.1∧r.2.2.2.2=s.2.2.2.2.2) (step:=by
  intro s h h0 h1 h2 hw
  try simp only[sS,reduceCtorEq]at *
  repeat' (first | intro _ | apply And.intro)
  all_goals first | grind [Yp,Y2,Uk.deep] | exact lv)
@[reducible,instance] def Pv{x0}:=mkW (Up.eq_1 N x0) (sz x0≤4096∧Qr Uk x0.2.1) (fun r=>r=x0)
@[reducible,instance] def Jkb{x0}:=mkW (B0.eq_1 N x0) (True) (fun r=>r=(x0.2.2.2.2.2.2.1,x0.2.2.2.2.2.2.2.2.2.2.1,x0.2.2.2.2.2.2.2.2.2.2.2,x0.1))
@[reducible,instance] def Jb8{x0 x1}:=mkW (W0.eq_1 N x0 x1) (True) (fun r=>True)
@[reducible,instance] def Q3q{cw cx cp jb jc jd je jf jg jh ji jj gg gi gj dl dm dn dq du di dv dp dj dw dx ca cd ce cg ci cj ck dh g8}:=mkW (F4.eq_1 N cw cx cp jb jc jd je jf jg jh ji jj gg gi gj dl dm dn dq du di dv dp dj dw dx ca cd ce cg ci cj ck dh g8) (Xz cw) (fun r=>r.2.1=cw∧r.2.2.1=cx∧r.2.2.2.1=cp∧r.2.2.2.2.2.2.2.2.2.2.2.2.2.2.2.2.2.2.2.2.2.2.2.2.2.2.2.2.2.1=ce∧r.2.2.2.2.2.2.2.2.2.2.2.2.2.2.2.2.2.2.2.2.2.2.2.2.2.2.2.2.2.2.1=cg∧r.2.2.2.2.2.2.2.2.2.2.2.2.2.2.2.2.2.2.2.2.2.2.2.2.2.2.2.2.2.2.2.1=ci∧r.2.2.2.2.2.2.2.2.2.2.2.2.2.2.2.2.2.2.2.2.2.2.2.2.2.2.2.2.2.2.2.2.1=cj∧r.2.2.2.2.2.2.2.2.2.2.2.2.2.2.2.2.2.2.2.2.2.2.2.2.2.2.2.2.2.2.2.2.2.1=ck∧r.2.2.2.2.2.2.2.2.2.2.2.2.2.2.2.2.2.2.2.2.2.2.2.2.2.2.2.2.2.2.2.2.2.2.1=dh∧r.2.2.2.2.2.2.2.2.2.2.2.2.2.2.2.2.2.2.2.2.2.2.2.2.2.2.2.2.2.2.2.2.2.2.2=g8) (k:=by
  intro h
  have g0:=h.ev
  try simp only[sS,reduceCtorEq]at *
  repeat' (first | intro _ | apply And.intro)
  all_goals first | exact lv)
@[reducible,instance] def Jkc{cq cm ct gq gr gt gw gx gy gz j9 ja g9 gc ge cy cz d3 d4 d5 d6 d7 d8 d9 da db cd ce cg ci cj ck dh g8 gp}:=mkW (Qf6.eq_1 N cq cm ct gq gr gt gw gx gy gz j9 ja g9 gc ge cy cz d3 d4 d5 d6 d7 d8 d9 da db cd ce cg ci cj ck dh g8 gp) (Xz cq) (fun r=>r.2.1=cq∧r.2.2.1=cm∧r.2.2.2.1=ct∧r.2.2.2.2.2.2.2.2.2.2.2.2.2.2.2.2.2.2.2.2.1=cg∧r.2.2.2.2.2.2.2.2.2.2.2.2.2.2.2.2.2.2.2.2.2.1=ci∧r.2.2.2.2.2.2.2.2.2.2.2.2.2.2.2.2.2.2.2.2.2.2.1=cj∧r.2.2.2.2.2.2.2.2.2.2.2.2.2.2.2.2.2.2.2.2.2.2.2.1=ck∧r.2.2.2.2.2.2.2.2.2.2.2.2.2.2.2.2.2.2.2.2.2.2.2.2.1=dh∧r.2.2.2.2.2.2.2.2.2.2.2.2.2.2.2.2.2.2.2.2.2.2.2.2.2.1=g8∧r.2.2.2.2.2.2.2.2.2.2.2.2.2.2.2.2.2.2.2.2.2.2.2.2.2.2=gp)
@[reducible,instance] def Jkd{cq cm ct gq gr gt gw gx gy gz j9 ja g9 gc ge cy cz d3 d4 d5 d6 d7 d8 d9 da db cd ce cg ci cj ck dh g8 gp jk}:=mkW (Qf7.eq_1 N cq cm ct gq gr gt gw gx gy gz j9 ja g9 gc ge cy cz d3 d4 d5 d6 d7 d8 d9 da db cd ce cg ci cj ck dh g8 gp jk) (Xz cq) (fun r=>r.1=cq∧r.2.1=cm∧r.2.2.1=ct∧r.2.2.2.2.2.2.2.2.2.2.2.2.2.2.2.2.2.2.2.2.2.2.2.2.2.2.2.2.2.1=cg∧r.2.2.2.2.2.2.2.2.2.2.2.2.2.2.2.2.2.2.2.2.2.2.2.2.2.2.2.2.2.2.1=ci∧r.2.2.2.2.2.2.2.2.2.2.2.2.2.2.2.2.2.2.2.2.2.2.2.2.2.2.2.2.2.2.2.1=cj∧r.2.2.2.2.2.2.2.2.2.2.2.2.2.2.2.2.2.2.2.2.2.2.2.2.2.2.2.2.2.2.2.2.1=ck∧r.2.2.2.2.2.2.2.2.2.2.2.2.2.2.2.2.2.2.2.2.2.2.2.2.2.2.2.2.2.2.2.2.2.1=dh∧r.2.2.2.2.2.2.2.2.2.2.2.2.2.2.2.2.2.2.2.2.2.2.2.2.2.2.2.2.2.2.2.2.2.2.1=g8∧r.2.2.2.2.2.2.2.2.2.2.2.2.2.2.2.2.2.2.2.2.2.2.2.2.2.2.2.2.2.2.2.2.2.2.2=gp)
@[reducible,instance] def Q55{cw cx cp dy dz gg gi gj dl dm dn dq du di dv dp dj dw dx ca cd ce cg ci cj ck}:=mkW (B2.eq_1 N cw cx cp dy dz gg gi gj dl dm dn dq du di dv dp dj dw dx ca cd ce cg ci cj ck) (Xz cw∧Wp cp∧sz ca≤4096∧Sh.sh ca∧sz cd≤4096∧Sh.sh cd∧sz ce≤4096∧sz cg≤4096∧Qr (fun d:Qk=>dpt d.2.1≤4096) cg) (fun r=>r.2.1=cw∧r.2.2.1=cx∧r.2.2.2.1=cp∧r.2.2.2.2.1=dy∧r.2.2.2.2.2.1=dz∧sz r.2.2.2.2.2.2.2.2.2.1≤4096∧Sh.sh r.2.2.2.2.2.2.2.2.2.1∧sz r.2.2.2.2.2.2.2.2.2.2.2.2.2.2.2.2.2.2.2.2.2.1≤4096∧Sh.sh r.2.2.2.2.2.2.2.2.2.2.2.2.2.2.2.2.2.2.2.2.2.1∧sz r.2.2.2.2.2.2.2.2.2.2.2.2.2.2.2.2.2.2.2.2.2.2.1≤4096∧sz r.2.2.2.2.2.2.2.2.2.2.2.2.2.2.2.2.2.2.2.2.2.2.2.1≤4096∧Qr (fun d:Qk=>dpt d.2.1≤4096) r.2.2.2.2.2.2.2.2.2.2.2.2.2.2.2.2.2.2.2.2.2.2.2.1∧r.2.2.2.2.2.2.2.2.2.2.2.2.2.2.2.2.2.2.2.2.2.2.2.2.1=ci∧r.2.2.2.2.2.2.2.2.2.2.2.2.2.2.2.2.2.2.2.2.2.2.2.2.2.1=cj∧r.2.2.2.2.2.2.2.2.2.2.2.2.2.2.2.2.2.2.2.2.2.2.2.2.2.2=ck) (k:=by
  intro h
  have g0:=h.1.tarL; have g1:=h.1.tarS; have g2:=h.1.tarO; have g3:=h.2.1.to_; have g4:=h.2.1.toS
  try simp only[sS,reduceCtorEq]at *
  repeat' (first | intro _ | apply And.intro)
  all_goals first | exact lv)
@[reducible,instance] def Jke{cq cm ct de dg g9 gc ge cy cz d3 d4 d5 d6 d7 d8 d9 da db cd ce cg ci cj ck dh}:=mkW (Qf9.eq_1 N cq cm ct de dg g9 gc ge cy cz d3 d4 d5 d6 d7 d8 d9 da db cd ce cg ci cj ck dh) (Xz cq∧Wp ct∧sz cd≤4096∧Sh.sh cd∧sz ce≤4096∧Sh.sh ce∧sz cg≤4096∧sz ci≤4096∧Qr (fun d:Qk=>dpt d.2.1≤4096) ci) (fun r=>r.2.1=cq∧r.2.2.1=cm∧r.2.2.2.1=ct∧r.2.2.2.2.1=de∧r.2.2.2.2.2.1=dg∧sz r.2.2.2.2.2.2.2.2.2.1≤4096∧Sh.sh r.2.2.2.2.2.2.2.2.2.1∧sz r.2.2.2.2.2.2.2.2.2.2.2.2.2.2.2.2.2.2.2.2.2.1≤4096∧Sh.sh r.2.2.2.2.2.2.2.2.2.2.2.2.2.2.2.2.2.2.2.2.2.1∧sz r.2.2.2.2.2.2.2.2.2.2.2.2.2.2.2.2.2.2.2.2.2.2.1≤4096∧sz r.2.2.2.2.2.2.2.2.2.2.2.2.2.2.2.2.2.2.2.2.2.2.2.1≤4096∧Qr (fun d:Qk=>dpt d.2.1≤4096) r.2.2.2.2.2.2.2.2.2.2.2.2.2.2.2.2.2.2.2.2.2.2.2.1∧r.2.2.2.2.2.2.2.2.2.2.2.2.2.2.2.2.2.2.2.2.2.2.2.2.1=cj∧r.2.2.2.2.2.2.2.2.2.2.2.2.2.2.2.2.2.2.2.2.2.2.2.2.2.1=ck∧r.2.2.2.2.2.2.2.2.2.2.2.2.2.2.2.2.2.2.2.2.2.2.2.2.2.2=dh)
@[reducible,instance] def Jdf{cq cm ct de dg g9 gc ge cy cz d3 d4 d5 d6 d7 d8 d9 da db cd ce cg ci cj ck dh g8}:=mkW (Ow.eq_1 N cq cm ct de dg g9 gc ge cy cz d3 d4 d5 d6 d7 d8 d9 da db cd ce cg ci cj ck dh g8) (Xz cq∧Wp ct∧sz cd≤4096∧Sh.sh cd∧sz ce≤4096∧Sh.sh ce∧sz cg≤4096∧sz ci≤4096∧Qr (fun d:Qk=>dpt d.2.1≤4096) ci) (fun r=>r.1=cq∧r.2.1=cm∧r.2.2.1=ct∧r.2.2.2.1=de∧r.2.2.2.2.1=dg∧sz r.2.2.2.2.2.2.2.2.1≤4096∧Sh.sh r.2.2.2.2.2.2.2.2.1∧sz r.2.2.2.2.2.2.2.2.2.2.2.2.2.2.2.2.2.2.2.2.2.1≤4096∧Sh.sh r.2.2.2.2.2.2.2.2.2.2.2.2.2.2.2.2.2.2.2.2.2.1∧sz r.2.2.2.2.2.2.2.2.2.2.2.2.2.2.2.2.2.2.2.2.2.2.1≤4096∧sz r.2.2.2.2.2.2.2.2.2.2.2.2.2.2.2.2.2.2.2.2.2.2.2.1≤4096∧Qr (fun d:Qk=>dpt d.2.1≤4096) r.2.2.2.2.2.2.2.2.2.2.2.2.2.2.2.2.2.2.2.2.2.2.2.1∧r.2.2.2.2.2.2.2.2.2.2.2.2.2.2.2.2.2.2.2.2.2.2.2.2.1=cj∧r.2.2.2.2.2.2.2.2.2.2.2.2.2.2.2.2.2.2.2.2.2.2.2.2.2.1=ck∧r.2.2.2.2.2.2.2.2.2.2.2.2.2.2.2.2.2.2.2.2.2.2.2.2.2.2=dh)
@[reducible,instance] def Jb9{cw cx cp dy dz gg gi gj gm dl dm dn dq du di dv dp dj dw dx ca cd ce cg ci cj}:=mkW (Mg.eq_1 N cw cx cp dy dz gg gi gj gm dl dm dn dq du di dv dp dj dw dx ca cd ce cg ci cj) (Xz cw∧Wp cp∧cx.1.length≤900000000000∧sz cx.1≤1000000000000∧cx.2.1.length≤1000000000∧cx.2.2.length≤1000000000∧Qr V9 cw.2.2.1∧Qr Jz cx.2.1∧Qr Hh cx.1∧1≤cp.2.2.1∧cp.2.2.1≤9999∧cp.2.2.2.2.2.2.2.1≤1099511627776) (fun r=>r.1=cw∧r.2.1=cp∧r.2.2.1=dy∧r.2.2.2.1=dz∧r.2.2.2.2.1=gg∧r.2.2.2.2.2.1=gi∧r.2.2.2.2.2.2.1=gj∧r.2.2.2.2.2.2.2.1=gm∧r.2.2.2.2.2.2.2.2.2.2.2.2.2.2.2.2.2.2.2.2.2.2.1=ca∧r.2.2.2.2.2.2.2.2.2.2.2.2.2.2.2.2.2.2.2.2.2.2.2.1=cd∧r.2.2.2.2.2.2.2.2.2.2.2.2.2.2.2.2.2.2.2.2.2.2.2.2.1=ce∧r.2.2.2.2.2.2.2.2.2.2.2.2.2.2.2.2.2.2.2.1.length≤cx.1.length+7604273152∧sz r.2.2.2.2.2.2.2.2.2.2.2.2.2.2.2.2.2.2.2.1≤1000000000000∧r.2.2.2.2.2.2.2.2.2.2.2.2.2.2.2.2.2.2.2.2.1.length≤cx.2.1.length+1∧r.2.2.2.2.2.2.2.2.2.2.2.2.2.2.2.2.2.2.2.2.2.1=cx.2.2∧r.2.2.2.2.2.2.2.2.2.2.2.2.2.2.2.2.2.2.2.2.2.2.2.2.2.1.length≤1000000000000∧r.2.2.2.2.2.2.2.2.2.2.2.2.2.2.2.2.2.2.2.2.2.2.2.2.2.2.1=ci∧r.2.2.2.2.2.2.2.2.2.2.2.2.2.2.2.2.2.2.2.2.2.2.2.2.2.2.2=cj∧(Qr Jz r.2.2.2.2.2.2.2.2.2.2.2.2.2.2.2.2.2.2.2.2.1∧Qr Hh r.2.2.2.2.2.2.2.2.2.2.2.2.2.2.2.2.2.2.2.1∧mis r.2.2.2.2.2.2.2.2.2.2.2.2.2.2.2.2.2.2.2.1=mis cx.1+tks r.2.2.2.2.2.2.2.2.2.2.2.2.2.2.2.2.2.2.2.2.2.2.2.2.2.1)) (k:=by
  intro h
  have g0:=h.1.ev; have g1:=h.1.prodL; have g2:=h.1.prodS; have g3:=h.1.prodO; have g4:=h.2.1.start
  try simp only[sS,reduceCtorEq]at *
  repeat' (first | intro _ | apply And.intro)
  all_goals first | exact lv)
@[reducible,instance] def Jca{cw cp dy dz gg gi gj gm dl dm dn dq du di dv dp dj dw dx ca cd ce cg ci cj ck dh g8}:=mkW (Mm.eq_1 N cw cp dy dz gg gi gj gm dl dm dn dq du di dv dp dj dw dx ca cd ce cg ci cj ck dh g8) (Xz cw∧Wp cp∧sz gm≤4096∧Sh.sh gm∧sz cg≤4096∧Sh.sh cg∧sz ci≤4096∧sz cj≤4096∧Qr (fun d:Qk=>dpt d.2.1≤4096) cj∧dh.length≤17301537) (fun r=>r.2.1=cw∧r.2.2.1=cp∧r.2.2.2.1=dy∧r.2.2.2.2.1=dz∧r.2.2.2.2.2.1=(gg,gi,gj,gm,cg,ci,cj)∧r.2.2.2.2.2.2.2.2.2.2.2.2.2.2.2.2.2.1=ca∧r.2.2.2.2.2.2.2.2.2.2.2.2.2.2.2.2.2.2.1=cd∧r.2.2.2.2.2.2.2.2.2.2.2.2.2.2.2.2.2.2.2.1=ce∧r.2.2.2.2.2.2.2.2.2.2.2.2.2.2.2.2.2.2.2.2.1=ck∧r.2.2.2.2.2.2.2.2.2.2.2.2.2.2.2.2.2.2.2.2.2.1.length≤17301537∧r.2.2.2.2.2.2.2.2.2.2.2.2.2.2.2.2.2.2.2.2.2.2=g8) (k:=by
  intro h
  have g0:=h.1.hol; have g1:=h.2.1.to_; have g2:=h.2.1.toS
  try simp only[sS,reduceCtorEq]at *
  repeat' (first | intro _ | apply And.intro)
  all_goals first | exact lv)
@[reducible,instance] def Jkf{cq cm ct de dg g9 gc ge gn cy cz d3 d4 d5 d6 d7 d8 d9 da db cd ce cg ci cj ck}:=mkW (Qgc.eq_1 N cq cm ct de dg g9 gc ge gn cy cz d3 d4 d5 d6 d7 d8 d9 da db cd ce cg ci cj ck) (Xz cq∧Wp ct∧cm.1.length≤900000000000∧sz cm.1≤1000000000000∧cm.2.1.length≤1000000000∧cm.2.2.length≤1000000000∧sz gn≤4096∧Sh.sh gn∧sz cd≤4096∧Sh.sh cd∧sz ce≤4096∧sz cg≤4096∧Qr (fun d:Qk=>dpt d.2.1≤4096) cg∧ci.length≤1000000000000∧cj.length≤17301537∧Qr V9 cq.2.2.1∧Qr Jz cm.2.1∧Qr Hh cm.1∧1≤ct.2.2.1∧ct.2.2.1≤9999∧ct.2.2.2.2.2.2.2.1≤1099511627776) (fun r=>r.2.1=cq∧r.2.2.1=ct∧r.2.2.2.1=de∧r.2.2.2.2.1=dg∧r.2.2.2.2.2.1=(g9,gc,ge,gn,cd,ce,cg)∧r.2.2.2.2.2.2.2.2.2.2.2.2.2.2.2.2.2.1.length≤cm.1.length+7604273152∧sz r.2.2.2.2.2.2.2.2.2.2.2.2.2.2.2.2.2.1≤1000000000000∧r.2.2.2.2.2.2.2.2.2.2.2.2.2.2.2.2.2.2.1.length≤cm.2.1.length+1∧r.2.2.2.2.2.2.2.2.2.2.2.2.2.2.2.2.2.2.2.1=cm.2.2∧r.2.2.2.2.2.2.2.2.2.2.2.2.2.2.2.2.2.2.2.2.1.length≤1000000000000∧r.2.2.2.2.2.2.2.2.2.2.2.2.2.2.2.2.2.2.2.2.2.1.length≤17301537∧r.2.2.2.2.2.2.2.2.2.2.2.2.2.2.2.2.2.2.2.2.2.2=ck∧(Qr Jz r.2.2.2.2.2.2.2.2.2.2.2.2.2.2.2.2.2.2.1∧Qr Hh r.2.2.2.2.2.2.2.2.2.2.2.2.2.2.2.2.2.1∧mis r.2.2.2.2.2.2.2.2.2.2.2.2.2.2.2.2.2.1=mis cm.1+tks r.2.2.2.2.2.2.2.2.2.2.2.2.2.2.2.2.2.2.2.2.1))
@[reducible,instance] def Jdg{cq cm ct de dg g9 gc ge gn cy cz d3 d4 d5 d6 d7 d8 d9 da db cd ce cg ci cj ck dh}:=mkW (Pf.eq_1 N cq cm ct de dg g9 gc ge gn cy cz d3 d4 d5 d6 d7 d8 d9 da db cd ce cg ci cj ck dh) (Xz cq∧Wp ct∧cm.1.length≤900000000000∧sz cm.1≤1000000000000∧cm.2.1.length≤1000000000∧cm.2.2.length≤1000000000∧sz gn≤4096∧Sh.sh gn∧sz cd≤4096∧Sh.sh cd∧sz ce≤4096∧sz cg≤4096∧Qr (fun d:Qk=>dpt d.2.1≤4096) cg∧ci.length≤1000000000000∧cj.length≤17301537∧Qr V9 cq.2.2.1∧Qr Jz cm.2.1∧Qr Hh cm.1∧1≤ct.2.2.1∧ct.2.2.1≤9999∧ct.2.2.2.2.2.2.2.1≤1099511627776) (fun r=>r.1=cq∧r.2.2.2.2.1=ct∧r.2.2.2.2.2.1=de∧r.2.2.2.2.2.2.1=dg∧sz r.2.2.2.2.2.2.2.2.2.2.1≤4096∧Sh.sh r.2.2.2.2.2.2.2.2.2.2.1∧sz r.2.2.2.2.2.2.2.2.2.2.2.1≤4096∧Sh.sh r.2.2.2.2.2.2.2.2.2.2.2.1∧sz r.2.2.2.2.2.2.2.2.2.2.2.2.1≤4096∧sz r.2.2.2.2.2.2.2.2.2.2.2.2.2.1≤4096∧Qr (fun d:Qk=>dpt d.2.1≤4096) r.2.2.2.2.2.2.2.2.2.2.2.2.2.1∧r.2.1.length≤cm.1.length+7604273152∧sz r.2.1≤1000000000000∧r.2.2.1.length≤cm.2.1.length+1∧r.2.2.2.1=cm.2.2∧r.2.2.2.2.2.2.2.2.2.2.2.2.2.2.2.2.2.2.2.2.2.2.2.2.2.2.1.length≤1000000000000∧r.2.2.2.2.2.2.2.2.2.2.2.2.2.2.2.2.2.2.2.2.2.2.2.2.2.2.2.1.length≤17301537∧r.2.2.2.2.2.2.2.2.2.2.2.2.2.2.2.2.2.2.2.2.2.2.2.2.2.2.2.2=ck∧(r.2.2.2.2.2.2.2.2.2.2.2.2.2.2.2.2.2.2.2.2.2.2.2.2.2.1=0→(Qr Jz r.2.2.1∧Qr Hh r.2.1∧mis r.2.1=mis cm.1+tks r.2.2.2.2.2.2.2.2.2.2.2.2.2.2.2.2.2.2.2.2.2.2.2.2.2.2.1)))
@[reducible,instance] def Q56{x0}:=mkW (Kr.eq_1 N x0) (True) (fun r=>((x0=1∨x0=2∨x0=3)∧r=0)∨(x0=4∧r=1)∨(4<x0∧x0<16∧r=2)∨r = -1)
def atr(x:Str):Int:=(Ya 0 x).getD 0
theorem Jhx{N:Nat}(x:Str):Ya N x=some (atr x):=by
 have h:∃r,Ya 0 x=some r:=by
  obtain⟨r,e,_⟩:=(mkW (Ya.eq_1 0 x) True (fun r=>True)).spec (fun _=>True) ⟨trivial,fun _ _=>trivial⟩
  exact⟨r,e⟩
 obtain⟨r,e⟩:=h
 unfold atr
 rw[e,XE,←e,Ya.eq_1,Ya.eq_1]
@[reducible,instance] def Q3r{x0:Str}:WP (Ya N x0) (fun R=>True∧∀r:Int,r=atr x0→R r):=Dm fun _=>⟨_,Jhx x0,rfl⟩
@[reducible,instance] def Q57{x0 x1}:=mkW (Cb.eq_1 N x0 x1) (x1.length=2) (fun r=>r.2=0→∃k0 k1,x1[0]?=some k0∧x1[1]?=some k1∧((x0=4∧k0=3∧r.1=3)∨((x0=5∨x0=6)∧k0=3∧k1=3∧r.1=3)∨((x0=7∨x0=8)∧k0=k1∧k0≠3∧r.1=3)∨((x0=9∨x0=10)∧k0=1∧k1=1∧r.1=3)∨(¬ (4≤x0∧x0≤10)∧k0=1∧k1=1∧r.1=1)))
def Vw:Nat→Qj→Int→Prop
 | 0,_,_=>False
 | n+1,e,k =>
  (e.x.1=1∧e.ks.length=0∧k=1)∨(e.x.1=2∧e.ks.length=0∧List.length e.x.2.2≤200∧k=2)∨(e.x.1=3∧e.ks.length=0∧k=atr e.x.2.2∧k≠0) ∨
  (4≤e.x.1∧e.x.1<16∧∃k0 k1,(∀a,e.ks[0]?=some a→Vw n a k0)∧(∀a,e.ks[1]?=some a→Vw n a k1) ∧
   ((e.x.1=4∧e.ks.length=1∧k0=3∧k=3)∨(e.ks.length=2∧(((e.x.1=5∨e.x.1=6)∧k0=3∧k1=3∧k=3)∨((e.x.1=7∨e.x.1=8)∧k0=k1∧k0≠3∧k=3)∨((e.x.1=9∨e.x.1=10)∧k0=1∧k1=1∧k=3)∨(10<e.x.1∧k0=1∧k1=1∧k=1)))))
structure Qdq(n:Nat)(ks:List Qj)(l:List Int)(i:Int):Prop where
 at_:∀j:Nat,(j:Int)<i→∀a k,ks[j]?=some a→l[j]?=some k→Vw n a k
theorem Jhy{n:Nat}{e:Qj}{l:List Int}{r:Int}(h1:(e.x.1=4∧e.ks.length=1)∨(4<e.x.1∧e.x.1<16∧e.ks.length=2))(hk:Qdq n e.ks l e.ks.length)
  (hc:∃k0 k1,l[0]?=some k0∧l[1]?=some k1∧((e.x.1=4∧k0=3∧r=3)∨((e.x.1=5∨e.x.1=6)∧k0=3∧k1=3∧r=3)∨((e.x.1=7∨e.x.1=8)∧k0=k1∧k0≠3∧r=3)∨((e.x.1=9∨e.x.1=10)∧k0=1∧k1=1∧r=3)∨((4≤e.x.1→¬ e.x.1≤10)∧k0=1∧k1=1∧r=1))):Vw (n+1) e r:=by
 obtain⟨k0,k1,e0,e1,h⟩:=hc
 rw[Vw]
 refine .inr (.inr (.inr ⟨by clear hk h; omega,by clear hk h; omega,k0,k1,fun a ha=>hk.at_ 0 (by clear h; omega) a k0 ha e0,fun a ha=>hk.at_ 1 ?_ a k1 ha e1,?_⟩))
 ·have:=(List.getElem?_eq_some_iff.1 ha).1
  omega
 ·rcases h with h | h | h | h | h
  ·exact .inl ⟨h.1,by omega,h.2.1,h.2.2⟩
  ·exact .inr ⟨by omega,.inl h⟩
  ·exact .inr ⟨by omega,.inr (.inl h)⟩
  ·exact .inr ⟨by omega,.inr (.inr (.inl h))⟩
  ·exact .inr ⟨by omega,.inr (.inr (.inr ⟨by omega,h.2.1,h.2.2.1,h.2.2.2⟩))⟩
theorem Jcb{n:Nat}{ks:List Qj}{l:List Int}:Qdq n ks l 0:=⟨fun j h=>by omega⟩
theorem Jcc{n:Nat}{ks:List Qj}{l:List Int}{i k:Int}{x:Qj}(h:Qdq n ks l i)(h0:0≤i)(hx:ks[i.toNat]?=some x)(t:Vw n x k):Qdq n ks (l.set i.toNat k) (i+1):=⟨fun j hj a k' ha hk=>by
 by_cases e:j=i.toNat
 ·subst e
  rw[hx]at ha
  rw[List.getElem?_set_self']at hk
  cases hl:l[i.toNat]? with
  | none=>rw[hl]at hk; cases hk
  | some y =>
   rw[hl]at hk
   simp only[Option.map_eq_map,JS,Function.const_apply,Option.some.injEq]at hk ha
   rw[←hk,←ha]; exact t
 ·rw[List.getElem?_set_ne (by omega)]at hk
  exact h.at_ j (by omega) a k' ha hk⟩
theorem Jhz{n:Nat}{ks:List Qj}{l:List Int}{i j:Int}(h:Qdq n ks l i)(hle:j≤i):Qdq n ks l j:=⟨fun m hm=>h.at_ m (by omega)⟩
theorem Sg{N:Nat}[Xy N]:∀(n:Nat) (e:Qj) (d:Int),1≤d→d≤17→18≤n+d→sz e≤4096→W (V7 N n e d) fun r=>r.2=0→Vw n e r.1
 | 0,e,d,h0,h1,h2,h3=>by omega
 | n+1,e,d,h0,h1,h2,h3=>by
  unfold V7
  by_cases hd:d>16
  ·rw[if_pos (by simpa using hd)]
   exact⟨_,rfl,fun h=>absurd h (by decide)⟩
  ·rw[if_neg (by simpa using hd)]
   have hw:IntKind.wrap .i64 (d+1)=d+1:=Qx (by omega) (by omega)
   have ih:∀x:Qj,WP (V7 N n x (IntKind.wrap .i64 (d+1))) (fun R=>sz x≤4096∧∀r:Int×Int,(r.2=0→Vw n x r.1)→R r):=fun x=>Dm fun h=>by rw[hw]; exact Sg n x (d+1) (by omega) (by omega) (by omega) h
   have hk:=Qgz (e:=e)
   have hlen:=Kt (l:=e.ks)
   have loop:=fun s:Int×List Int=>upL (N:=N) (s:=s) (Qav.eq_def N (V7 N n) e d) (fun s=>s.1) e.ks.length (fun s=>sz e.ks≤4096∧e.ks.length≤2∧s.2.length=2∧Qdq n e.ks s.2 s.1) (fun r:List Int⊕(Int×Int)=>(∀a,r=.inl a→a.length=2∧Qdq n e.ks a e.ks.length)∧∀a,r=.inr a→a.2≠0) (step:=by
    intro s h h0 h1 h2 hw
    try simp only[sS,reduceCtorEq]at *
    repeat' (first | intro _ | apply And.intro)
    all_goals first | assumption | omega | (rw[hw (by assumption)]; exact Jcc h.2.2.2 h0 (by assumption) (by grind)) | exact Jhz h.2.2.2 (by omega) | grind)
   refine wp ?_
   try simp only[sS,reduceCtorEq]at *
   repeat' (first | intro _ | apply And.intro)
   all_goals first | assumption | omega | exact Jcb | exact XU | (rename_i h5 _ h6 h7; exact Jhy (by clear h6 h7 h5; omega) h5.2 (h6 h7)) | (rw[Vw]; exact .inl ⟨by assumption,by omega,rfl⟩) | (rw[Vw]; exact .inr (.inl ⟨by assumption,by omega,by omega,rfl⟩)) | (rw[Vw]; exact .inr (.inr (.inl ⟨by assumption,by omega,rfl,by assumption⟩)))
@[reducible,instance] def Jh0{N:Nat}[hN:Xy N]{x0:Qj}{x1:Int}:WP (Tw N x0 x1) (fun R=>(sz x0≤4096∧x1=1)∧∀r:Int×Int,(r.2=0→Vw N x0 r.1)→R r):=Dm (by
  intro h
  have:=hN.le
  rw[h.2]
  exact Sg N x0 1 (by omega) (by omega) (by omega) h.1)
@[reducible,instance] def Qro{x0}:=mkW (Gy.eq_1 N x0) (sz x0≤4096) (fun r=>r.2=0→Vw N x0 r.1)
@[reducible,instance] def Jni{x0 x1}:=mkW (Qd7.eq_1 N x0 x1) (True) (fun r=>True)
@[reducible,instance] def Jig{x0}:=mkW (Fa.eq_1 N x0) (True) (fun r=>r.2=true → -4611686018427387904≤r.1∧r.1≤4611686018427387904)
@[reducible,instance] def Jcd{x0 x1}:=mkW (Mq.eq_1 N x0 x1) (True) (fun r=>True)
theorem Qns{N:Nat}[Xy N]{self:Qj→V5→Option (Int×Bool)}{i:Int}{e:Qj}{v:V5}{P:Qj→Prop}{Q:Int×Bool→Prop}(ih:∀x,P x→W (self x v) Q)(h:∀a,e.ks[i.toNat]?=some a→P a)(h0:0≤i)(h1:i<e.ks.length):W (Xt N self i e v) Q:=by
 rw[Xt.eq_1]
 have hl:i.toNat<e.ks.length:=by omega
 have he:idx e.ks i=some e.ks[i.toNat]:=by unfold idx; rw[if_pos h0,List.getElem?_eq_getElem hl]
 obtain⟨r,er,hr⟩:=ih _ (h _ (List.getElem?_eq_getElem hl))
 rw[he]
 show W ((self e.ks[i.toNat] v).bind _) _
 rw[er]
 exact⟨_,rfl,hr⟩
@[reducible,instance] def Jox{x0:Int}{x1:Int}:WP (Qib N x0 x1) (fun R=>((-4611686018427387904≤x0∧x0≤4611686018427387904) ∧ -4611686018427387904≤x1∧x1≤4611686018427387904)∧∀r:Int×Bool,(r.2=true → -4611686018427387904≤r.1∧r.1≤4611686018427387904)→R r):=Dm (by
  rintro⟨h0,h1⟩
  unfold Qib
  rcases Int.lt_trichotomy x1 0 with h | h | h
  ·rw[Qx (n := -4611686018427387904 - x1) (by omega) (by omega)]
   refine wp ?_
   simp only[ss,JZ,QQ,decide_eq_true_eq]
   refine⟨fun _ h=>absurd h (by decide),fun hc _=>?_⟩
   rw[Qx (by omega) (by omega)]; omega
  ·subst h
   refine wp ?_
   refine⟨fun _ h=>absurd h (by decide),fun hc _=>?_⟩
   simp only[ZH]
   rw[Qx (by omega) (by omega)]; exact h0
  ·rw[Qx (n:=4611686018427387904 - x1) (by omega) (by omega)]
   refine wp ?_
   simp only[ss,JZ,QQ,decide_eq_true_eq]
   refine⟨fun _ h=>absurd h (by decide),fun hc _=>?_⟩
   rw[Qx (by omega) (by omega)]; omega)
theorem Jkg{a b:Int}(ha : -4611686018427387904≤a∧a≤4611686018427387904)(hb : -4611686018427387904≤b∧b≤4611686018427387904)(h0:b≠0)(hq:(if 0 - a>a then 0 - a else a)≤(4611686018427387904:Int).tdiv (if 0 - b>b then 0 - b else b)) : -4611686018427387904≤a*b∧a*b≤4611686018427387904:=by
 generalize hA:(if 0 - a>a then 0 - a else a)=A at hq
 generalize hB:(if 0 - b>b then 0 - b else b)=B at hq
 have h1:0≤A∧(A=a∨A = -a):=by split at hA<;>omega
 have h2:0<B∧(B=b∨B = -b):=by split at hB<;>omega
 rw[QG (by omega)]at hq
 have h3:A*B≤4611686018427387904:=by
  have:=XH hq (Int.le_of_lt h2.1)
  exact Int.le_trans this (Int.ediv_mul_le _ (by omega))
 have h4:0≤A*B:=Int.mul_nonneg h1.1 (Int.le_of_lt h2.1)
 rcases h1.2 with e1 | e1<;>rcases h2.2 with e2 | e2<;>subst e1 e2<;>(try simp only[Int.neg_mul,Int.mul_neg,Int.neg_neg]at h3 h4)<;>omega
@[reducible,instance] def Jh1{x0:Int}{x1:Int}:WP (I2 N x0 x1) (fun R=>((-4611686018427387904≤x0∧x0≤4611686018427387904) ∧ -4611686018427387904≤x1∧x1≤4611686018427387904)∧∀r:Int×Bool,(r.2=true → -4611686018427387904≤r.1∧r.1≤4611686018427387904)→R r):=Dm (by
  rintro⟨h0,h1⟩
  unfold I2
  rw[Qx (n:=0 - x0) (by omega) (by omega),Qx (n:=0 - x1) (by omega) (by omega)]
  by_cases hz:((x0==0)||(x1==0))=true
  ·rw[if_pos hz]; exact⟨_,rfl,fun _=>by decide⟩
  ·rw[if_neg hz]
   have zz:x1≠0:=fun e=>hz (by rw[e]; simp)
   refine wp ?_
   have hB:(if 0 - x1>x1 then 0 - x1 else x1)≠0∧1≤(if 0 - x1>x1 then 0 - x1 else x1):=by split<;>omega
   refine⟨hB.1,?_⟩
   have hq:(4611686018427387904:Int).tdiv (if 0 - x1>x1 then 0 - x1 else x1)≤4611686018427387904∧0≤(4611686018427387904:Int).tdiv (if 0 - x1>x1 then 0 - x1 else x1):=by
    rw[QG (by omega)]
    exact⟨Int.ediv_le_self _ (by omega),Int.ediv_nonneg (by omega) (by omega)⟩
   rw[Qx (n:=(4611686018427387904:Int).tdiv (if 0 - x1>x1 then 0 - x1 else x1)) (by omega) (by omega)]
   refine⟨fun _ h=>absurd h (by decide),fun hle _=>?_⟩
   have:=Jkg h0 h1 zz (Int.not_lt.1 fun ie=>hle (decide_eq_true ie))
   rw[Qx (n:=x0*x1) (by omega) (by omega)]
   exact this)
theorem Jce(x:Str):atr x=0∨atr x=1∨atr x=2∨atr x=3:=by
 obtain⟨r,e,h⟩:=(mkW (Ya.eq_1 0 x) True (fun r=>r=0∨r=1∨r=2∨r=3)).spec (fun r=>r=0∨r=1∨r=2∨r=3) ⟨trivial,fun _ h=>h⟩
 unfold atr
 rw[e,XE]; exact h
theorem Q58{n:Nat}{e:Qj}{k:Int}(h:Vw n e k):k=1∨k=2∨k=3:=by
 cases n with
 | zero=>exact h.elim
 | succ n =>
  rw[Vw]at h
  have:=Jce e.x.2.2
  rcases h with h | h | h | ⟨h1,h2,k0,k1,h3,h4,h5⟩
  ·omega
  ·omega
  ·obtain⟨h1,h2,h3,h4⟩:=h
   omega
  ·clear h3 h4; omega
structure Q59(n:Nat)(e:Qj)(k:Int):Prop where
 all:∀(i:Nat) (a:Qj),e.ks[i]?=some a→i<2→Vw n a k
theorem Qoe{n:Nat}{e:Qj}{k:Int}(h0:∀a,e.ks[0]?=some a→Vw n a k)(h1:∀a,e.ks[1]?=some a→Vw n a k):Q59 n e k:=⟨fun i a ha hi=>by
 match i,hi with
 | 0,_=>exact h0 a ha
 | 1,_=>exact h1 a ha⟩
theorem Qvi{n:Nat}{e:Qj}(h:Vw (n+1) e 1):e.x.1=1∨e.x.1=3∨(10<e.x.1∧e.x.1<16∧e.ks.length=2∧Q59 n e 1):=by
 rw[Vw]at h
 rcases h with h | h | h | ⟨h1,h2,k0,k1,h3,h4,h5⟩
 ·exact .inl h.1
 ·exact absurd h.2.2.2 (by decide)
 ·exact .inr (.inl h.1)
 ·refine .inr (.inr ?_)
  have h6:10<e.x.1∧e.ks.length=2∧k0=1∧k1=1:=by clear h3 h4; omega
  obtain⟨h7,h8,rfl,rfl⟩:=h6
  exact⟨h7,h2,h8,Qoe h3 h4⟩
theorem Q2k{n:Nat}{e:Qj}(h:Vw (n+1) e 3):e.x.1=3∨(e.x.1=4∧e.ks.length=1∧∀a,e.ks[0]?=some a→Vw n a 3)∨((e.x.1=5∨e.x.1=6)∧e.ks.length=2∧Q59 n e 3)∨(6<e.x.1∧e.ks.length=2∧∃k,(k=1∨k=2)∧Q59 n e k):=by
 rw[Vw]at h
 rcases h with h | h | h | ⟨h1,h2,k0,k1,h3,h4,h5⟩
 ·exact absurd h.2.2 (by decide)
 ·exact absurd h.2.2.2 (by decide)
 ·exact .inl h.1
 ·rcases h5 with h5 | ⟨h5,h6 | h6 | h6 | h6⟩
  ·obtain⟨h6,h7,rfl,_⟩:=h5
   exact .inr (.inl ⟨h6,h7,h3⟩)
  ·obtain⟨h6,rfl,rfl,_⟩:=h6
   exact .inr (.inr (.inl ⟨h6,h5,Qoe h3 h4⟩))
  ·obtain⟨h6,rfl,h7,_⟩:=h6
   by_cases hk:k0=1∨k0=2
   ·exact .inr (.inr (.inr ⟨by omega,h5,k0,hk,Qoe h3 h4⟩))
   ·have hl:(0:Nat)<e.ks.length:=by omega
    have:=Q58 (h3 _ (List.getElem?_eq_getElem hl))
    omega
  ·obtain⟨h6,rfl,rfl,_⟩:=h6
   exact .inr (.inr (.inr ⟨by omega,h5,1,.inl rfl,Qoe h3 h4⟩))
  ·exact absurd h6.2.2.2 (by decide)
theorem Qa3{N:Nat}[Xy N]:∀(n m:Nat) (e:Qj) (v:V5),m≤n→Vw m e 1→W (Uq N n e v) fun r=>r.2=true → -4611686018427387904≤r.1∧r.1≤4611686018427387904
 | n,0,e,v,hm,h=>h.elim
 | 0,m+1,e,v,hm,h=>by omega
 | n+1,m+1,e,v,hm,h=>by
  unfold Uq
  have ih:∀i,WP (Xt N (Uq N n) i e v) (fun R=>(0≤i∧i≤1∧i<e.ks.length∧Q59 m e 1)∧∀r:Int×Bool,(r.2=true → -4611686018427387904≤r.1∧r.1≤4611686018427387904)→R r):=fun i=>Dm fun hi=>Qns (P:=fun x=>Vw m x 1) (fun x hx=>Qa3 n m x v (by omega) hx) (fun a ha=>hi.2.2.2.all i.toNat a ha (by omega)) hi.1 hi.2.2.1
  have hd:∀a b:Int,(-4611686018427387904≤a∧a≤4611686018427387904)→b≠0→IntKind.wrap .i64 (a.tdiv b)=a.tdiv b:=fun a b ha hb=>by
   have h1:=Int.natAbs_tdiv_le_natAbs a b
   exact Qx (by omega) (by omega)
  have hn:¬ e.x.1=1→¬ e.x.1=3→10<e.x.1∧e.x.1<16∧e.ks.length=2:=fun a b=>(Qvi h).elim (fun c=>absurd c a) fun c=>c.elim (fun c=>absurd c b) fun c=>⟨c.1,c.2.1,c.2.2.1⟩
  have wv:∀r:Int×Bool,(r.2=true → -4611686018427387904≤r.1∧r.1≤4611686018427387904)→¬ r.2=false → -4611686018427387904≤IntKind.wrap .i64 (0 - r.1)∧IntKind.wrap .i64 (0 - r.1)≤4611686018427387904:=fun r h1 h2=>by
   have:=h1 (by simpa using h2)
   rw[Qx (by omega) (by omega)]; omega
  have hk:¬ e.x.1=1→¬ e.x.1=3→Q59 m e 1:=fun a b=>(Qvi h).elim (fun c=>absurd c a) fun c=>c.elim (fun c=>absurd c b) fun c=>c.2.2.2
  clear h
  refine wp ?_
  try simp only[sS,reduceCtorEq]at *
  repeat' (first | intro _ | apply And.intro)
  all_goals first | assumption | omega | exact hk (by assumption) (by assumption) | (have q:=wv _ (by assumption) (And.right (by assumption)); first | exact q.1 | exact q.2) | grind
structure Jp7(N:Nat)(e:Qj)(k:Int):Prop where
 out:∃m,m≤N∧Vw m e k
@[reducible,instance] def Jih{x0:Qj}{x1:V5}:WP (Qci N x0 x1) (fun R=>Jp7 N x0 1∧∀r:Int×Bool,True→R r):=Dm fun h=>let⟨m,hm,ht⟩:=h.out; (Qa3 N m x0 x1 hm ht).mono fun _ _=>trivial
theorem Jcf{N:Nat}[hN:Xy N]{e:Qj}{n:Nat}(h:Vw n e 2):Gy N e=some (2,0):=by
 obtain⟨M,rfl⟩:∃M,N=M+1:=⟨N - 1,by have:=hN.le; omega⟩
 cases n with
 | zero=>exact h.elim
 | succ n =>
  rw[Vw]at h
  have h':(e.x.1=2∧e.ks.length=0∧e.x.2.2.length≤200)∨(e.x.1=3∧e.ks.length=0∧2=atr e.x.2.2):=by
   rcases h with h | h | h | ⟨h1,h2,k0,k1,h3,h4,h5⟩
   ·exact absurd h.2.2 (by decide)
   ·exact .inl ⟨h.1,h.2.1,h.2.2.1⟩
   ·exact .inr ⟨h.1,h.2.1,h.2.2.1⟩
   ·exfalso
    clear h3 h4; omega
  unfold Gy Tw V7
  rcases h' with⟨h1,h2,h3⟩ | ⟨h1,h2,h3⟩
  ·rw[h1,h2]
   have u5:¬ ((List.length e.x.2.2:Int)>200):=by omega
   simp only[Kr]
   simp[u5]
  ·rw[h1,h2]
   simp only[Kr,Jhx,←h3]
   simp
structure Cmp(N:Nat)(e:Qj):Prop where
 two:e.ks.length=2
 kids:∃m k,m≤N∧(k=1∨k=2)∧Q59 m e k
@[reducible,instance] def Jh2{x0:Qj}{x1:V5}:WP (I3 N x0 x1) (fun R=>(Cmp N x0∧sz x0≤4096)∧∀r:Int×Bool,True→R r):=Dm fun h=>by
 obtain⟨⟨h2,m,k,hm,hk,hK⟩,hs⟩:=h
 have l0:(0:Nat)<x0.ks.length:=by omega
 have l1:(1:Nat)<x0.ks.length:=by omega
 have e0:idx x0.ks 0=some x0.ks[0]:=T9 (i:=0) l0
 have e1:idx x0.ks 1=some x0.ks[1]:=T9 (i:=1) l1
 have t0:=hK.all 0 _ (List.getElem?_eq_getElem l0) (by omega)
 have t1:=hK.all 1 _ (List.getElem?_eq_getElem l1) (by omega)
 have s0:sz x0.ks[0]≤4096:=Nat.le_trans (Qrf (XJ l0)) (Nat.le_trans Qgz hs)
 unfold I3
 rw[e0,QW]
 rcases hk with rfl | rfl
 ·obtain⟨r,er,_⟩:=(Qro (N:=N) (x0:=x0.ks[0])).spec (fun _=>True) ⟨s0,fun _ _=>trivial⟩
  rw[er,QW,e1]
  have hT:∀x:Qj,Vw m x 1→Jp7 N x 1:=fun x hx=>⟨m,hm,hx⟩
  have q0:=hT _ t0
  have q1:=hT _ t1
  clear hK t0 t1 hT
  refine wp ?_
  try simp only[sS,reduceCtorEq]at *
  repeat' (first | intro _ | apply And.intro)
  all_goals first | assumption | trivial | grind
 ·rw[Jcf t0,QW,if_pos (by rfl),e1]
  clear hK t0 t1
  refine wp ?_
  try simp only[sS,reduceCtorEq]at *
  repeat' (first | intro _ | apply And.intro)
  all_goals first | assumption | trivial | grind
theorem Qrp{N:Nat}[Xy N]{self:Qj→V5→Option Bool}{i:Int}{e:Qj}{v:V5}{P:Qj→Prop}{Q:Bool→Prop}(ih:∀x,P x→W (self x v) Q)(h:∀a,e.ks[i.toNat]?=some a→P a)(h0:0≤i)(h1:i<e.ks.length):W (Uo N self i e v) Q:=by
 rw[Uo.eq_1]
 have hl:i.toNat<e.ks.length:=by omega
 have he:idx e.ks i=some e.ks[i.toNat]:=by unfold idx; rw[if_pos h0,List.getElem?_eq_getElem hl]
 obtain⟨r,er,hr⟩:=ih _ (h _ (List.getElem?_eq_getElem hl))
 rw[he]
 show W ((self e.ks[i.toNat] v).bind _) _
 rw[er]
 exact⟨_,rfl,hr⟩
theorem Qdr{N:Nat}[Xy N]:∀(n m:Nat) (e:Qj) (v:V5),m≤n→m≤N→sz e≤4096→Vw m e 3→W (Yh N n e v) fun _=>True
 | n,0,e,v,hm,_,_,h=>h.elim
 | 0,m+1,e,v,hm,_,_,h=>by omega
 | n+1,m+1,e,v,hm,hN,hs,h=>by
  unfold Yh
  have nk:sz e.ks≤4096:=Nat.le_trans Qgz hs
  have ih:∀i,WP (Uo N (Yh N n) i e v) (fun R=>(0≤i∧i<e.ks.length∧∀a,e.ks[i.toNat]?=some a→Vw m a 3)∧∀r:Bool,True→R r):=fun i=>Dm fun hi=>Qrp (P:=fun x=>sz x≤4096∧Vw m x 3) (fun x hx=>Qdr n m x v (by omega) (by omega) hx.1 hx.2) (fun a ha=>⟨Nat.le_trans (Qrf (List.mem_of_getElem? ha)) nk,hi.2.2 a ha⟩) hi.1 hi.2.1
  have h3:=Q2k h
  clear h
  have q4:e.x.1=4→0<e.ks.length∧∀a,e.ks[(0:Int).toNat]?=some a→Vw m a 3:=fun e4=>by
   rcases h3 with h | h | h | h
   ·omega
   ·exact⟨by omega,h.2.2⟩
   ·obtain⟨h,_⟩:=h; omega
   ·obtain⟨h,_⟩:=h; omega
  have q5:e.x.1=5∨e.x.1=6→e.ks.length=2∧(∀a,e.ks[(0:Int).toNat]?=some a→Vw m a 3)∧∀a,e.ks[(1:Int).toNat]?=some a→Vw m a 3:=fun e4=>by
   rcases h3 with h | h | h | h
   ·omega
   ·obtain⟨h,_⟩:=h; omega
   ·exact⟨h.2.1,fun a ha=>h.2.2.all 0 a ha (by omega),fun a ha=>h.2.2.all 1 a ha (by omega)⟩
   ·obtain⟨h,_⟩:=h; omega
  have q7:¬ e.x.1=3→¬ e.x.1=4→¬ e.x.1=5→¬ e.x.1=6→Cmp N e:=fun a3 a4 a5 a6=>by
   rcases h3 with h | h | h | h
   ·omega
   ·obtain⟨h,_⟩:=h; omega
   ·obtain⟨h,_⟩:=h; omega
   ·obtain⟨_,h1,k,hk,hK⟩:=h
    exact⟨h1,m,k,by omega,hk,hK⟩
  clear h3
  refine wp ?_
  try simp only[sS,reduceCtorEq]at *
  repeat' (first | intro _ | apply And.intro)
  all_goals first | assumption | trivial | omega | exact q7 (by assumption) (by assumption) (by assumption) (by assumption) | exact(q4 (by assumption)).2 _ (by assumption) | exact(q5 (.inl (by assumption))).2.1 _ (by assumption) | exact(q5 (.inl (by assumption))).2.2 _ (by assumption) | exact(q5 (.inr (by assumption))).2.1 _ (by assumption) | exact(q5 (.inr (by assumption))).2.2 _ (by assumption) | (have:=(q4 (by assumption)).1; omega) | (have:=(q5 (.inl (by assumption))).1; omega) | (have:=(q5 (.inr (by assumption))).1; omega) | grind
@[reducible,instance] def Jdh{x0:Qj}{x1:V5}:WP (Qfe N x0 x1) (fun R=>(sz x0≤4096∧Vw N x0 3)∧∀r:Bool,True→R r):=Dm fun h=>Qdr N N x0 x1 (QY _) (QY _) h.1 h.2
@[reducible,instance] def Jkh{x0 x1}:=mkW (Qgd.eq_1 N x0 x1) (sz x0≤4096) (fun r=>True)
@[reducible,instance] def Q6a{x0 c7}:=mkW (Cc.eq_1 N x0 c7) (sz x0.2.1≤4096) (fun r=>True)
@[reducible,instance] def Q3s{x0 x1}{s}:=upL (N:=N) (s:=s) (N5.eq_def N x0 x1) (fun t=>t.2.1) x0.length (fun t=>sz x0≤4096∧x0.length≤4096∧t.2.2.length≤t.2.1) (fun r:((Int×(List Q3))⊕(Int×Int))=>∀a,r=.inl a→a.2.length≤4096)
@[reducible,instance] def Jcg{x0 x1 x2}:=mkW (Mu.eq_1 N x0 x1 x2) (sz x0≤4096) (fun r=>r.2.2.length≤4096)
@[reducible,instance] def Jch{cw cx cp dy dz gk dl dm dn dq du di dv dp dj dw dx ca cd ce}:=mkW (F9.eq_1 N cw cx cp dy dz gk dl dm dn dq du di dv dp dj dw dx ca cd ce) (True) (fun r=>True)
@[reducible,instance] def Q2l{cw cx cp dy dz gk dl dm dn dq du di dv dp dj dw dx ca cd ce}:=mkW (Ew.eq_1 N cw cx cp dy dz gk dl dm dn dq du di dv dp dj dw dx ca cd ce) (Xz cw∧cx.2.2.length≤1000000000∧ce.length≤4096∧sz gk.2.2.2.1≤4096∧Sh.sh gk.2.2.2.1∧sz gk.2.2.2.2.1≤4096∧Sh.sh gk.2.2.2.2.1∧sz gk.2.2.2.2.2.1≤4096∧sz gk.2.2.2.2.2.2≤4096∧Qr (fun d:Qk=>dpt d.2.1≤4096) gk.2.2.2.2.2.2) (fun r=>r.2.1=cw∧r.2.2.1=cx∧r.2.2.2.1=cp∧r.2.2.2.2.1=dy∧r.2.2.2.2.2.1=dz∧r.2.2.2.2.2.2.1=gk∧r.2.2.2.2.2.2.2.2.2.2.2.2.2.2.2.2.2.2.1=ca∧r.2.2.2.2.2.2.2.2.2.2.2.2.2.2.2.2.2.2.2.1=cd∧r.2.2.2.2.2.2.2.2.2.2.2.2.2.2.2.2.2.2.2.2.length≤4096) (k:=by
  intro h
  have g0:=h.1.hol
  try simp only[sS,reduceCtorEq]at *
  repeat' (first | intro _ | apply And.intro)
  all_goals first | exact lv)
@[reducible,instance] def Jki{cq cm ct de dg g7 cy cz d3 d4 d5 d6 d7 d8 d9 da db cd ce cg}:=mkW (Qge.eq_1 N cq cm ct de dg g7 cy cz d3 d4 d5 d6 d7 d8 d9 da db cd ce cg) (Xz cq∧cm.2.2.length≤1000000000∧cg.length≤4096∧sz g7.2.2.2.1≤4096∧Sh.sh g7.2.2.2.1∧sz g7.2.2.2.2.1≤4096∧Sh.sh g7.2.2.2.2.1∧sz g7.2.2.2.2.2.1≤4096∧sz g7.2.2.2.2.2.2≤4096∧Qr (fun d:Qk=>dpt d.2.1≤4096) g7.2.2.2.2.2.2) (fun r=>r.2.1=cq∧r.2.2.1=cm∧r.2.2.2.1=ct∧r.2.2.2.2.1=de∧r.2.2.2.2.2.1=dg∧r.2.2.2.2.2.2.1=g7∧r.2.2.2.2.2.2.2.2.2.2.2.2.2.2.2.2.2.2.1=cd∧r.2.2.2.2.2.2.2.2.2.2.2.2.2.2.2.2.2.2.2.1=ce∧r.2.2.2.2.2.2.2.2.2.2.2.2.2.2.2.2.2.2.2.2.length≤4096)
@[reducible,instance] def Jdi{cq cm ct de dg g7 cy cz d3 d4 d5 d6 d7 d8 d9 da db cd ce cg ci}:=mkW (Ph.eq_1 N cq cm ct de dg g7 cy cz d3 d4 d5 d6 d7 d8 d9 da db cd ce cg ci) (Xz cq∧cm.2.2.length≤1000000000∧cg.length≤4096∧sz g7.2.2.2.1≤4096∧Sh.sh g7.2.2.2.1∧sz g7.2.2.2.2.1≤4096∧Sh.sh g7.2.2.2.2.1∧sz g7.2.2.2.2.2.1≤4096∧sz g7.2.2.2.2.2.2≤4096∧Qr (fun d:Qk=>dpt d.2.1≤4096) g7.2.2.2.2.2.2) (fun r=>r.1=cq∧r.2.1=cm∧r.2.2.1=ct∧r.2.2.2.1=de∧r.2.2.2.2.1=dg∧r.2.2.2.2.2.1=g7∧r.2.2.2.2.2.2.2.2.2.2.2.2.2.2.2.2.2.2.1=cd∧r.2.2.2.2.2.2.2.2.2.2.2.2.2.2.2.2.2.2.2.1=ce∧r.2.2.2.2.2.2.2.2.2.2.2.2.2.2.2.2.2.2.2.2.length≤4096∧(r.2.2.2.2.2.2.2.2.2.2.2.2.2.2.2.2.2.1=0→ci=0))
@[reducible,instance] def Jdj{x0}{s}:=upL (N:=N) (s:=s) (Qe9.eq_def N x0) (fun t=>t.1) x0.1.length (fun t=>sz x0.1≤1000000000000∧t.2.1=x0.1.take t.1.toNat∧t.2.2.1=s.2.2.1∧t.2.2.2=s.2.2.2) (fun r:(((List Qb)×(List Qm)×(List Qg)))=>r.1=x0.1∧r.2.1=s.2.2.1∧r.2.2=s.2.2.2) (step:=by
  intro s h h0 h1 h2 hw
  try simp only[sS,reduceCtorEq]at *
  repeat' (first | intro _ | apply And.intro)
  all_goals first | grind [Yp,Y2,Uk.deep] | exact lv)
@[reducible,instance] def Jkj{x0}:=mkW (Tf.eq_1 N x0) (sz x0≤1000000000000) (fun r=>r=x0)
@[reducible,instance] def Jh3{cw cx cp dy dz gk dl dm dn dq du di dv dp dj dw dx ca cd ce}:=mkW (T0.eq_1 N cw cx cp dy dz gk dl dm dn dq du di dv dp dj dw dx ca cd ce) (sz cx≤1000000000000) (fun r=>r.2.1=cw∧r.2.2.1=cx.1∧r.2.2.2.1.length=cx.2.1.length∧r.2.2.2.2.1.length≤cx.2.2.length+1∧r.2.2.2.2.2.2.2.2.2.2.2.2.2.2.2.2.2.2.2.2.1=ca∧r.2.2.2.2.2.2.2.2.2.2.2.2.2.2.2.2.2.2.2.2.2.1=cd∧r.2.2.2.2.2.2.2.2.2.2.2.2.2.2.2.2.2.2.2.2.2.2=ce∧(Qr Jz cx.2.1→Qr Jz r.2.2.2.1))
@[reducible,instance] def Jkk{cq cm ct de dg g7 cy cz d3 d4 d5 d6 d7 d8 d9 da db cd ce cg}:=mkW (Qgf.eq_1 N cq cm ct de dg g7 cy cz d3 d4 d5 d6 d7 d8 d9 da db cd ce cg) (sz cm≤1000000000000) (fun r=>r.2.2.1.1=cm.1∧r.2.2.1.2.1.length=cm.2.1.length∧r.2.2.1.2.2.length≤cm.2.2.length+1∧r.2.2.2.2.2.2.2.2.2.2.2.2.2.2.2.2.2.2.1=cd∧r.2.2.2.2.2.2.2.2.2.2.2.2.2.2.2.2.2.2.2.1=ce∧r.2.2.2.2.2.2.2.2.2.2.2.2.2.2.2.2.2.2.2.2=cg∧(Qr Jz cm.2.1→Qr Jz r.2.2.1.2.1))
@[reducible,instance] def Jdk{cq cm ct de dg g7 cy cz d3 d4 d5 d6 d7 d8 d9 da db cd ce cg ci}:=mkW (Pl.eq_1 N cq cm ct de dg g7 cy cz d3 d4 d5 d6 d7 d8 d9 da db cd ce cg ci) (sz cm≤1000000000000) (fun r=>r.2.1.1=cm.1∧r.2.1.2.1.length=cm.2.1.length∧r.2.1.2.2.length≤cm.2.2.length+1∧r.2.2.2.2.2.2.2.2.2.2.2.2.2.2.2.2.2.2.1=cd∧r.2.2.2.2.2.2.2.2.2.2.2.2.2.2.2.2.2.2.2.1=ce∧r.2.2.2.2.2.2.2.2.2.2.2.2.2.2.2.2.2.2.2.2=cg∧(r.2.2.2.2.2.2.2.2.2.2.2.2.2.2.2.2.2.1=0→ci=0)∧(Qr Jz cm.2.1→Qr Jz r.2.1.2.1))
@[reducible,instance] def Q6b{x0 x1 x2}:=mkW (Mv.eq_1 N x0 x1 x2) (Xz x0∧Wp x2∧x1.1.length≤900000000000∧sz x1.1≤1000000000000∧x1.2.1.length≤1000000000∧x1.2.2.length≤1000000000∧Qr V9 x0.2.2.1∧Qr Jz x1.2.1∧Qr Hh x1.1∧1≤x2.2.2.1∧x2.2.2.1≤9999∧x2.2.2.2.2.2.2.2.1≤1099511627776) (fun r=>r.1.length≤x1.1.length+7604273152∧sz r.1≤1000000000000∧r.2.1.length≤x1.2.1.length+1∧r.2.2.1.length≤x1.2.2.length+1∧r.2.2.2.2.2.2.2.2.2.2.2.2.2.1.length≤1000000000000∧r.2.2.2.2.2.2.2.2.2.2.2.2.2.2.1.length≤17301537∧r.2.2.2.2.2.2.2.2.2.2.2.2.2.2.2.length≤4096∧Qr Jz r.2.1∧Qr Hh r.1∧mis r.1=mis x1.1+tks r.2.2.2.2.2.2.2.2.2.2.2.2.2.1) (k:=by
  intro h
  try simp only[sS,reduceCtorEq]at *
  repeat' (first | intro _ | apply And.intro)
  all_goals first | exact(ZH _).symm | (simp only[*,sz1,sh1,mx1,QR,Ul,QM,and_true]; done) | (simp only[*,sz1,sh1,mx1,QR]at *; omega) | exact lv)
structure Qi5(l:List Qc)(i j:Int):Prop where
 at_:∀k:Nat,(k:Int)<j→∀a b,l[k]?=some a→l[i.toNat]?=some b→a.1≠b.1
theorem Q6c{l:List Qc}{i:Int}:Qi5 l i 0:=⟨fun k h=>by omega⟩
theorem Q6d{l:List Qc}{i j:Int}{x y:Qc}(h:Qi5 l i j)(h0:0≤j)(hx:l[j.toNat]?=some x)(hy:l[i.toNat]?=some y)(zk:¬ x.1=y.1):Qi5 l i (j+1):=⟨fun k hk a b ha hb=>by
 by_cases e:(k:Int)<j
 ·exact h.at_ k e a b ha hb
 ·have:k=j.toNat:=by omega
  subst this
  rw[hx]at ha; rw[hy]at hb
  rw[←Option.some.inj ha,←Option.some.inj hb]; exact zk⟩
theorem Jci{l:List Qc}{i j m:Int}(h:Qi5 l i j)(hm:m≤j):Qi5 l i m:=⟨fun k hk=>h.at_ k (by omega)⟩
structure Qrq(l:List Qc)(j:Int):Prop where
 at_:∀i:Nat,(i:Int)<j→Qi5 l i i
theorem Q2m{l:List Qc}:Qrq l 0:=⟨fun k h=>by omega⟩
theorem Q2n{l:List Qc}{j:Int}(h:Qrq l j)(h0:0≤j)(k:Qi5 l j j):Qrq l (j+1):=⟨fun i hi=>by
 by_cases e:(i:Int)<j
 ·exact h.at_ i e
 ·have:j=i:=by omega
  rw[←this]; exact k⟩
theorem Q6e{l:List Qc}{j:Int}(h:Qrq l j)(hj:l.length≤j):Ids l:=⟨fun u hu v hv e=>by
 obtain⟨a,ha,ea⟩:=XC hu
 obtain⟨b,hb,eb⟩:=XC hv
 have ga:l[a]?=some u:=by rw[List.getElem?_eq_getElem ha,ea]
 have gb:l[b]?=some v:=by rw[List.getElem?_eq_getElem hb,eb]
 rcases Nat.lt_trichotomy a b with ql | ql | ql
 ·exact absurd e ((h.at_ b (by omega)).at_ a (by omega) u v ga (by simpa using gb))
 ·subst ql; rw[ga]at gb; exact Option.some.inj gb
 ·exact absurd e.symm ((h.at_ a (by omega)).at_ b (by omega) v u gb (by simpa using ga))⟩
@[reducible,instance] def Qxm{v4:Int}{x1:List Qc}{s:Int}:=upI (N:=N) (s:=s) (C8.eq_def N v4 x1) (fun t=>t) v4 (fun t=>x1.length≤24∧0≤v4∧v4<x1.length∧Qi5 x1 v4 t) (fun r:Unit⊕Bool=>(∀u,r=.inl u→Qi5 x1 v4 v4)∧∀u,r=.inr u→u=false) (step:=by
  intro s h h0 hw
  try simp only[sS,reduceCtorEq]at *
  repeat' (first | intro _ | apply And.intro)
  all_goals first | assumption | omega | (rw[hw (by omega)]; exact Q6d h.2.2.2 h0 (by assumption) (by assumption) (by assumption)) | exact Jci h.2.2.2 (by omega) | grind)
theorem Joy{x0:Q2}{x2:Int}(e:x2=24)(hs:Sh.sh x0)(h:(sz x0:Int)≤4096∧(x0.1.length:Int)≤x2∧(x0.2.2.1.length:Int)≤x2∧Qr Uk x0.2.1∧Qr (fun p:Qo=>(p.2.2.2.2.2.length:Int)≤x2) x0.2.2.1):Xz x0:=by
 subst e
 obtain⟨h1,h2,h3,h4,h5⟩:=h
 have h6:=Kt (l:=x0.2.2.2.2.1)
 simp only[sz1,sh1,mx1]at h1 hs h6
 exact⟨by omega,by omega,hs.2.1,h4,by omega,by omega,Qed h5 fun p hp=>by omega,by omega⟩
theorem Jkl{x:Qc}(h:¬ 12622780800≤x.2.2.2.2.2.2.1)(k:x.2.2.2.2.2.2.1<86400000∨12622780800<x.2.2.2.2.2.2.1)(l:(List.length x.2.2.2.2.2.1:Int)≤200):Wp x:=⟨by omega,by omega,by show List.length x.2.2.2.2.2.1≤9223372036854775807; omega⟩
@[reducible,instance] def Qxn{x1:List Qc}{s:Int}:=upL (N:=N) (s:=s) (C9.eq_def N x1) (fun t=>t) x1.length (fun t=>x1.length≤24∧Qfj Wp x1 t∧Qrq x1 t∧Qfj UsF x1 t) (fun r:Unit⊕Bool=>(∀u,r=.inl u→Qr Wp x1∧Ids x1∧Qr UsF x1)∧∀u,r=.inr u→u=false) (step:=by
  intro s h h0 h1 h2 hw
  try simp only[sS,reduceCtorEq]at *
  repeat' (first | intro _ | apply And.intro)
  all_goals first | assumption | omega | exact Q6c | exact⟨Sf h.2.1 (by omega)⟩ | (rw[hw (by omega)]; exact Nb h0 h.2.1 (by assumption) (Jkl (by grind) (by grind) (by grind))) | exact Q6e h.2.2.1 (by omega) | (rw[hw (by omega)]; exact Q2n h.2.2.1 h0 (by assumption)) | exact⟨Sf h.2.2.2 (by omega)⟩ | (rw[hw (by omega)]; exact Nb h0 h.2.2.2 (by assumption) (by grind)) | grind)
@[reducible,instance] def Qey{x0 x1 x2}:=mkW (Wa.eq_1 N x0 x1 x2) (sz x0≤9223372036854775807∧Sh.sh x0∧x2=24) (fun r=>r=true→x1.length≤24∧(sz x0:Int)≤4096∧Xz x0∧Qr Wp x1∧Ids x1∧Qr UsF x1∧Qr V9 x0.2.2.1) (k:=by
  intro h
  have g0:=(fun q=>Joy (x2:=x2) h.2.2 h.2.1 q)
  try simp only[sS,reduceCtorEq]at *
  repeat' (first | intro _ | apply And.intro)
  all_goals first | exact Q2m | exact g0 (by grind) | exact lv)
@[reducible,instance] def Q2o{x0}:=mkW (U9.eq_1 N x0) (True) (fun r => -1125899906842624≤x0→x0≤1125899906842624→r=true)
attribute [local instance 1300] Qiz in
@[reducible,instance] def Q2p{x0}:=mkW (Ey.eq_1 N x0) (True) (fun r=>Jz x0→r=0) (k:=by
  intro h
  try simp only[sS,reduceCtorEq]at *
  repeat' (first | intro _ | apply And.intro)
  all_goals first | (have q:=Q47.c (Jz.c (by assumption:Jz x0)); have z:=Jz.z (by assumption:Jz x0); have e:=Qi0 q.2.1 q.2.2.2.1; exfalso; grind) | exact lv)
attribute [local instance 1300] Qiz in
@[reducible,instance] def Ch{r10}{s}:=upL (N:=N) (s:=s) (Xp.eq_def N r10) (fun t=>t) r10.2.1.length (fun t=>r10.2.1.length≤9223372036854775807∧Qr Jz r10.2.1) (fun r:((Unit)⊕(Bool))=>∀u,r=.inr u→False) (step:=by
  intro s h h0 h1 h2 hw
  try simp only[sS,reduceCtorEq]at *
  repeat' (first | intro _ | apply And.intro)
  all_goals first | ((repeat cases ‹_∧_›); have q:=Qr.all (P:=Jz) (l:=r10.2.1) (by assumption); first | exact absurd (Jz.z (q _ (by assumption))) (by assumption) | exact absurd ((by assumption:Jz _→_=_) (q _ (by assumption))) (by assumption)) | exact lv)
abbrev GS(t:Ty)(i:Sz t.De)(j:Sh t.De):Prop:=∀x:t.De,gd t x→@sz _ i x≤9223372036854775807∧@Sh.sh _ j x
theorem gsI{k:IntKind}:GS (.int k) (inferInstanceAs (Sz Int)) (inferInstanceAs (Sh Int)):=fun _ _=>⟨QM _,True.intro⟩
theorem gsB:GS .bool (inferInstanceAs (Sz Bool)) (inferInstanceAs (Sh Bool)):=fun _ _=>⟨QM _,True.intro⟩
theorem gsS:GS .str (inferInstanceAs (Sz (List UInt8))) (inferInstanceAs (Sh (List UInt8))):=fun x h=>⟨QM _,h⟩
theorem gsL{t:Ty}{i:Sz t.De}{j:Sh t.De}(h:GS t i j):GS (.sl t) (inferInstanceAs (Sz (List t.De))) (inferInstanceAs (Sh (List t.De))):=fun x g=>⟨Jnc g.1 fun y hy=>(h y (g.2 y hy)).1,⟨fun y hy=>(h y (g.2 y hy)).2⟩⟩
theorem gsP{a b:Ty}{i:Sz a.De}{j:Sh a.De}{k:Sz b.De}{l:Sh b.De}(h:GS a i j)(h2:GS b k l):GS (.pr a b) (inferInstanceAs (Sz (a.De×b.De))) (inferInstanceAs (Sh (a.De×b.De))):=fun x g=>⟨XN.2 ⟨(h x.1 g.1).1,(h2 x.2 g.2).1⟩,(h x.1 g.1).2,(h2 x.2 g.2).2⟩
theorem gsR{t:Ty}:GS (.rose t) (inferInstanceAs (Sz (Ke t.De))) (inferInstanceAs (Sh (Ke t.De))):=fun x g=>by
 refine⟨?_,True.intro⟩
 obtain⟨n,hn⟩:=g
 revert x
 induction n with
 | zero=>exact fun x h=>h.elim
 | succ n ih =>
  intro x h
  exact Jg8 (e:=x) h.2.1 fun y hy=>ih y (h.2.2 y hy)
theorem gsT{t:Ty}{i:Sz t.De}{j:Sh t.De}(h:GS t i j):GS (.st t) i j:=h
theorem Jkm:GS Kk (inferInstanceAs (Sz Qj)) (inferInstanceAs (Sh Qj)):=gsR
theorem Jkn:GS Kj (inferInstanceAs (Sz Z8)) (inferInstanceAs (Sh Z8)):=gsT (gsP gsI (gsP gsI gsI))
theorem Q9d:GS Gp (inferInstanceAs (Sz Vn)) (inferInstanceAs (Sh Vn)):=gsT (gsP gsI (gsP gsI gsI))
theorem Jcj:GS Ja (inferInstanceAs (Sz Qa)) (inferInstanceAs (Sh Qa)):=gsT (gsP gsI gsI)
theorem Jh4:GS Jt (inferInstanceAs (Sz Qv)) (inferInstanceAs (Sh Qv)):=gsT (gsP gsI (gsP gsI (gsP gsI (gsP gsI (gsP gsS (gsP gsS gsI))))))
theorem Jko:GS Ua (inferInstanceAs (Sz Qq)) (inferInstanceAs (Sh Qq)):=gsT (gsP gsS (gsL gsS))
theorem Jkp:GS Vs (inferInstanceAs (Sz Qt)) (inferInstanceAs (Sh Qt)):=gsT (gsP gsS (gsL Jkn))
theorem Jkq:GS Gq (inferInstanceAs (Sz Jc)) (inferInstanceAs (Sh Jc)):=gsT (gsP gsI (gsP gsS (gsP gsS (gsP gsI (gsL Q9d)))))
theorem Q2q:GS Y7 (inferInstanceAs (Sz Qk)) (inferInstanceAs (Sh Qk)):=gsT (gsP gsS (gsP Jkm gsI))
theorem Jck:GS J6 (inferInstanceAs (Sz Ql)) (inferInstanceAs (Sh Ql)):=gsT (gsP gsS (gsP gsI (gsP gsB (gsP (gsL Jko) (gsP (gsL Jkp) (gsP (gsL Jkq) (gsL Q2q)))))))
theorem Jcl:GS Kz (inferInstanceAs (Sz Jw)) (inferInstanceAs (Sh Jw)):=gsT (gsP gsI (gsP (gsL gsS) (gsP gsI (gsP gsI (gsP gsI gsB)))))
theorem Q6f:GS Yl (inferInstanceAs (Sz Qo)) (inferInstanceAs (Sh Qo)):=gsT (gsP gsS (gsP gsI (gsP gsI (gsP gsS (gsP gsB (gsL Jcl))))))
theorem Joz:GS Cy (inferInstanceAs (Sz Kl)) (inferInstanceAs (Sh Kl)):=gsT (gsP gsS (gsP gsI gsI))
theorem Qxo:GS V2 (inferInstanceAs (Sz Yf)) (inferInstanceAs (Sh Yf)):=gsT (gsP gsI (gsP gsI (gsP gsB (gsP Jcj (gsP (gsL Q9d) gsI)))))
theorem Jkr:GS Vt (inferInstanceAs (Sz Q2)) (inferInstanceAs (Sh Q2)):=gsT (gsP (gsL Jh4) (gsP (gsL Jck) (gsP (gsL Q6f) (gsP (gsL Joz) (gsP (gsL gsI) (gsL Qxo))))))
abbrev Jp8:Type:=(List Qb)×(List Qm)×(List Qg)×Qc×Int×Str×Int×Str×Int×Int×Int×Int×Int×(List Q7)×(List Qp)×(List Q3)
def Q6g(w:Jp8):Qz:=(w.1,w.2.1,w.2.2.1)
def Q6h(w:Jp8):V4:=(w.2.2.2.1,w.2.2.2.2.1,w.2.2.2.2.2.1,w.2.2.2.2.2.2.1,w.2.2.2.2.2.2.2.1,w.2.2.2.2.2.2.2.2.2.2.2.2.2.1,w.2.2.2.2.2.2.2.2.2.2.2.2.2.2.1,w.2.2.2.2.2.2.2.2.1,w.2.2.2.2.2.2.2.2.2.1,w.2.2.2.2.2.2.2.2.2.2.1,w.2.2.2.2.2.2.2.2.2.2.2.2.2.2.2,w.2.2.2.2.2.2.2.2.2.2.2.1,w.2.2.2.2.2.2.2.2.2.2.2.2.1)
def Qnt(N:Nat)(b:Q2):List Qc→Qz→Option (Qz×List V4)
 | [],s=>some (s,[])
 | u::l,s=>(Mv N b s u).bind fun w=>(Qnt N b l (Q6g w)).bind fun q=>some (q.1,Q6h w::q.2)
theorem Qmi{N:Nat}{b:Q2}{r:List Qc}(hr:r.length≤1000):∀(k n i:Nat) (s:Qz) (o:List V4),r.length=i+k→k<n→o.length≤i →
  Qf (Vi N r b) n ((i:Int),s.1,s.2.1,s.2.2,o)=(Qnt N b (r.drop i) s).bind fun q=>some (q.1,o++q.2)
 | 0,0,i,s,o,hk,hn,ho=>by omega
 | 0,n+1,i,s,o,hk,hn,ho=>by
  have hi:i=r.length:=by omega
  subst hi
  rw[XA]
  have e:Vi N r b ((r.length:Int),s.1,s.2.1,s.2.2,o)=some (.inr (s,o)):=by
   unfold Vi
   rw[if_neg (fun h=>by have:=of_decide_eq_true h; omega)]
  simp[Qf,e,Qnt]
 | k+1,0,i,s,o,hk,hn,ho=>by omega
 | k+1,n+1,i,s,o,hk,hn,ho=>by
  have hlt:i<r.length:=by omega
  rw[List.drop_eq_getElem_cons hlt]
  have e:Vi N r b ((i:Int),s.1,s.2.1,s.2.2,o)=(Mv N b s r[i]).bind fun w=>some (.inl (((i+1:Nat):Int),(Q6g w).1,(Q6g w).2.1,(Q6g w).2.2,o++[Q6h w])):=by
   unfold Vi
   rw[if_pos (decide_eq_true (by omega)),T9 hlt,QW]
   show(Mv N b s r[i]).bind _=_
   refine congrArg _ (funext fun w=>?_)
   rw[Qx (n:=(i:Int)+1) (by omega) (by omega)]
   show(app 272 o [Q6h w]).bind _=_
   rw[Cg (by simp; omega)]; rfl
  simp only[Qnt,Qf,e]
  cases hw:Mv N b s r[i]with
  | none=>rfl
  | some w =>
   simp only[QW]
   rw[Qmi hr k n (i+1) (Q6g w) (o++[Q6h w]) (by omega) (by omega) (by simp; omega)]
   cases Qnt N b (r.drop (i+1)) (Q6g w)with
   | none=>rfl
   | some q=>simp
structure Jh5(k:Nat)(s:Qz):Prop where
 buck:s.1.length≤k*7604273152
 size:sz s.1≤1000000000000
 wall:s.2.1.length≤k
 coun:s.2.2.length≤k
def tkr:List V4→Int
 | []=>0
 | r::l=>tks r.2.2.2.2.2.1+tkr l
theorem Q9e{N:Nat}[Xy N]{b:Q2}(hb:Xz b)(hp:Qr V9 b.2.2.1):∀(l:List Qc) (k:Nat) (s:Qz),k+l.length≤48→(∀u∈l,Wp u∧UsF u)→Jh5 k s→Qr Jz s.2.1→Qr Hh s.1 →
  ∃q,Qnt N b l s=some q∧Jh5 (k+l.length) q.1∧Qr Jz q.1.2.1∧Qr Hh q.1.1∧mis q.1.1=mis s.1+tkr q.2∧q.2.length=l.length∧∀r∈q.2,sz r≤1000000000000
 | [],k,s,hk,hu,hs,hw,hc=>⟨(s,[]),rfl,hs,hw,hc,(ZH _).symm,rfl,fun _ h=>absurd h JE⟩
 | u::l,k,s,hk,hu,hs,hw,hc=>by
  simp only[List.length_cons]at hk ⊢
  have vb:=hu u (.head _)
  obtain⟨w,ew,h1,h2,h3,h4,h5,h6,h7,h8,h9,tu⟩:=(Q6b (N:=N) (x0:=b) (x1:=s) (x2:=u)).spec _ ⟨⟨hb,vb.1,by have:=hs.buck; omega,hs.size,by have:=hs.wall; omega,by have:=hs.coun; omega,hp,hw,hc,vb.2.c.1.1,vb.2.c.1.2,vb.2.c.2.2⟩,fun r h=>h⟩
  obtain⟨q,eq,g1,g2,g3,g4,g5,g6⟩:=Q9e (N:=N) hb hp l (k+1) (Q6g w) (by omega) (fun v hv=>hu v (.tail _ hv)) ⟨by have:=hs.buck; show w.1.length≤_; omega,h2,by have:=hs.wall; show w.2.1.length≤_; omega,by have:=hs.coun; show w.2.2.1.length≤_; omega⟩ h8 h9
  refine⟨(q.1,Q6h w::q.2),by simp only[Qnt,ew,QW,eq],?_,g2,g3,?_,by simp[g5],fun r hr=>?_⟩
  ·have:k+(l.length+1)=k+1+l.length:=by omega
   rw[this]; exact g1
  ·show mis q.1.1=mis s.1+(tks (Q6h w).2.2.2.2.2.1+tkr q.2)
   rw[g4]
   show mis w.1+_=mis s.1+(tks w.2.2.2.2.2.2.2.2.2.2.2.2.2.1+_)
   omega
  ·rcases QJ.1 hr with rfl | hr
   ·simp only[Q6h,sz1,mx1]
    omega
   ·exact g6 r hr
theorem Jcm:Jh5 0 (([]:List Qb),([]:List Qm),([]:List Qg)):=⟨by simp,by rw[Jgy]; omega,by simp,by simp⟩
theorem Jcn{N:Nat}[hN:Xy N]{b:Q2}{s:Qz}{l:List Qc}(hs:sz s≤1000000000000)(hl:l.length≤1000){o:List Qc}(ho:Cl N l=some o)(hp:o.Perm l):Ab N b s l=Qnt N b o s:=by
 obtain⟨c,ec,hc⟩:=(Qnr (N:=N) (x0:=s)).spec (fun r=>r=s) ⟨hs,fun r h=>h⟩
 have mw:=hp.length_eq
 have this:Qf (Vi N o b) N ((0:Int),s.1,s.2.1,s.2.2,[])=(Qnt N b (o.drop 0) s).bind fun q=>some (q.1,[]++q.2):=Qmi (N:=N) (b:=b) (r:=o) (by omega) o.length N 0 s [] (by omega) (by have:=hN.le; omega) (by simp)
 rw[hc]at ec
 unfold Ab
 rw[ec,QW,ho,QW]
 rw[this,XO]
 cases Qnt N b o s with
 | none=>rfl
 | some q=>simp
theorem Jo0{N:Nat}[hN:Xy N]{b:Q2}{l o:List Qc}(hl:l.length≤1000)(ho:Cl N l=some o)(hp:o.Perm l):Gb N b l=Qnt N b o (([]:List Qb),([]:List Qm),([]:List Qg)):=by
 unfold Gb
 rw[Jcn (by decide) hl ho hp]
 cases Qnt N b o (([]:List Qb),([]:List Qm),([]:List Qg))with
 | none=>rfl
 | some q=>rfl
theorem Jks(M:Nat):U8 (M+64)=some true:=by kernel_rfl
theorem Jh6{N:Nat}[hN:Xy N]:U8 N=some true:=by
 have e:N=(N - 64)+64:=by have:=hN.le; omega
 rw[e]; exact Jks _
theorem Jco{N:Nat}[Xy N]{b:Q2}(hs:sz b≤4096)(ht:Qr Uk b.2.1):Up N b=some b:=by
 obtain⟨r,e,hr⟩:=(Pv (N:=N) (x0:=b)).spec (fun r=>r=b) ⟨⟨hs,ht⟩,fun r h=>h⟩
 rw[e,hr]
theorem Jh5.sz_le{k:Nat}{s:Qz}(h:Jh5 k s)(hk:k≤48):sz s≤1000000000000:=by
 have h1:=h.size; have h2:=h.wall; have h3:=h.coun
 simp only[sz1,mx1]
 omega
theorem Jkt{N:Nat}[Xy N]{b:Q2}{l:List Qc}(gb:gd Vt b):∃r,Wa N b l 24=some r∧(r=true→l.length≤24∧sz b≤4096∧Xz b∧Qr Wp l∧Qr UsF l∧Qr V9 b.2.2.1):=by
 have h:=Jkr b gb
 exact(Qey (N:=N) (x0:=b) (x1:=l) (x2:=24)).spec _ ⟨⟨h.1,h.2,rfl⟩,fun r h hr=>by
  have h:=h hr
  exact⟨h.1,by omega,h.2.2.1,h.2.2.2.1,h.2.2.2.2.2.1,h.2.2.2.2.2.2⟩⟩
abbrev st0:Qz:=(([]:List Qb),([]:List Qm),([]:List Qg))
theorem big:Xy 18446744073709551616:=⟨QY _⟩
theorem Qrr(a b:Int):IntKind.wrap .i64 (IntKind.wrap .i64 a+b)=IntKind.wrap .i64 (a+b):=by
 simp only[Q9p]
 split<;>split<;>split<;>omega
theorem Q2r{N:Nat}{s:Qz}(hb:Qr Hh s.1)(hl:s.1.length≤1000000000000):∀(k n i:Nat) (a:Int),s.1.length=i+k→k<n →
  Qf (Jm N s) n (IntKind.wrap .i64 a,(i:Int))=some (.inl (IntKind.wrap .i64 (a+mis (s.1.drop i))))
 | k,0,i,a,hk,hn=>by omega
 | 0,n+1,i,a,hk,hn=>by
  have e:Jm N s (IntKind.wrap .i64 a,(i:Int))=some (.inr (.inl (IntKind.wrap .i64 a))):=by
   unfold Jm
   rw[if_neg (fun h=>by have:=of_decide_eq_true h; simp only at this; omega)]
  have h0:s.1.drop i=[]:=JC (by omega)
  simp[Qf,e,h0,mis]
 | k+1,n+1,i,a,hk,hn=>by
  have hlt:i<s.1.length:=by omega
  have c:=(hb.all _ (XJ hlt)).c
  have e:Jm N s (IntKind.wrap .i64 a,(i:Int))=some (.inl (IntKind.wrap .i64 (a+(s.1[i].2.2.2.2.2.2.2.1 - s.1[i].2.2.2.2.2.2.2.2.1)),((i+1:Nat):Int))):=by
   unfold Jm
   rw[if_pos (decide_eq_true (by simp only; omega)),T9 hlt,QW,if_neg (by simp; omega)]
   have e1:IntKind.wrap .i64 (IntKind.wrap .i64 (IntKind.wrap .i64 a+s.1[i].2.2.2.2.2.2.2.1) - s.1[i].2.2.2.2.2.2.2.2.1)=IntKind.wrap .i64 (a+(s.1[i].2.2.2.2.2.2.2.1 - s.1[i].2.2.2.2.2.2.2.2.1)):=by
    rw[Int.sub_eq_add_neg,Qrr,ZV,Qrr,Int.sub_eq_add_neg]
   simp only
   rw[e1,Qx (n:=(i:Int)+1) (by omega) (by omega)]; rfl
  simp only[Qf,e,QW]
  rw[Q2r hb hl k n (i+1) _ (by omega) (by omega),List.drop_eq_getElem_cons hlt]
  simp only[mis,ZV]
theorem Q2s{N:Nat}{r:List V4}{m:Nat}(hm:m<r.length)(hl:r[m].2.2.2.2.2.1.length≤1000000000000):∀(k n i:Nat) (a:Int),r[m].2.2.2.2.2.1.length=i+k→k<n →
  Qf (Jn N r (m:Int)) n (IntKind.wrap .i64 a,(i:Int))=some (IntKind.wrap .i64 (a+tks (r[m].2.2.2.2.2.1.drop i)))
 | k,0,i,a,hk,hn=>by omega
 | 0,n+1,i,a,hk,hn=>by
  have e:Jn N r (m:Int) (IntKind.wrap .i64 a,(i:Int))=some (.inr (IntKind.wrap .i64 a)):=by
   unfold Jn
   rw[T9 hm,QW,QW,if_neg (fun h=>by have:=of_decide_eq_true h; simp only at this; omega)]
  have h0:r[m].2.2.2.2.2.1.drop i=[]:=JC (by omega)
  simp[Qf,e,h0,tks]
 | k+1,n+1,i,a,hk,hn=>by
  have hlt:i<r[m].2.2.2.2.2.1.length:=by omega
  have e:Jn N r (m:Int) (IntKind.wrap .i64 a,(i:Int))=some (.inl (IntKind.wrap .i64 (a+r[m].2.2.2.2.2.1[i].2.2.2.2),((i+1:Nat):Int))):=by
   unfold Jn
   rw[T9 hm,QW,QW,if_pos (decide_eq_true (by simp only; omega)),QW,QW]
   show(idx r[m].2.2.2.2.2.1 (i:Int)).bind _=_
   rw[T9 hlt,QW]
   simp only
   rw[Qrr,Qx (n:=(i:Int)+1) (by omega) (by omega)]; rfl
  simp only[Qf,e,QW]
  rw[Q2s hm hl k n (i+1) _ (by omega) (by omega),List.drop_eq_getElem_cons hlt]
  simp only[tks,ZV]
theorem Q2t{N:Nat}[hN:Xy N]{r:List V4}(hl:r.length≤1000)(hr:∀x∈r,sz x≤1000000000000):∀(k n i:Nat) (a:Int),r.length=i+k→k<n →
  Qf (Jo N r) n (IntKind.wrap .i64 a,(i:Int))=some (IntKind.wrap .i64 (a+tkr (r.drop i)))
 | k,0,i,a,hk,hn=>by omega
 | 0,n+1,i,a,hk,hn=>by
  have e:Jo N r (IntKind.wrap .i64 a,(i:Int))=some (.inr (IntKind.wrap .i64 a)):=by
   unfold Jo
   rw[if_neg (fun h=>by have:=of_decide_eq_true h; simp only at this; omega)]
  have h0:r.drop i=[]:=JC (by omega)
  simp[Qf,e,h0,tkr]
 | k+1,n+1,i,a,hk,hn=>by
  have hlt:i<r.length:=by omega
  have hz:=hr _ (XJ hlt)
  have hle:r[i].2.2.2.2.2.1.length≤1000000000000:=by
   simp only[sz1,mx1]at hz
   omega
  have e:Jo N r (IntKind.wrap .i64 a,(i:Int))=some (.inl (IntKind.wrap .i64 (a+tks r[i].2.2.2.2.2.1),((i+1:Nat):Int))):=by
   have h3:Qf (Jn N r (i:Int)) N (IntKind.wrap .i64 a,0)=_:=Q2s hlt hle _ N 0 a (QV _).symm (by have:=hN.le; omega)
   unfold Jo
   rw[if_pos (decide_eq_true (by simp only; omega))]
   simp only
   rw[h3,QW,XO,Qx (n:=(i:Int)+1) (by omega) (by omega)]; rfl
  simp only[Qf,e,QW]
  rw[Q2t hl hr k n (i+1) _ (by omega) (by omega),List.drop_eq_getElem_cons hlt]
  simp only[tkr,ZV]
theorem Jo1{N:Nat}[hN:Xy N]{x0:Q2}{x1:List Qc}(g0:gd Vt x0):Vo N x0 x1=some true:=by
 obtain⟨r,er,hr⟩:=Jkt (N:=N) (l:=x1) g0
 unfold Vo
 rw[er,QW]
 cases r with
 | false=>rw[if_pos (by decide),Jh6]; rfl
 | true =>
  rw[if_neg (by decide)]
  obtain⟨h1,h2,h3,h4,h5,h6⟩:=hr rfl
  obtain⟨o,eo,po,so⟩:=Jg9 (N:=N) (l:=x1) (by omega)
  have hoo:=po.length_eq
  obtain⟨q,eq,q1,q2,q3,q4,q5,q6⟩:=Q9e (N:=N) h3 h6 o 0 st0 (by omega) (fun u hu=>⟨h4.all u (po.mem_iff.1 hu),h5.all u (po.mem_iff.1 hu)⟩) Jcm Ul Ul
  have r1:Gb N x0 x1=some q:=by rw[Jo0 (by omega) eo po,eq]
  have hs:=q1.sz_le (by omega)
  have hl:q.1.1.length≤1000000000000∧q.1.2.1.length≤1000000000000:=by
   simp only[sz1,mx1]at hs
   have:=Kt (l:=q.1.1)
   omega
  have hNN:=hN.le
  obtain⟨u,eu,hu⟩:=(Ch (N:=N) (r10:=q.1) (s:=0)).spec _ ⟨⟨⟨by omega,q2⟩,XV _,by omega⟩,fun r h=>h⟩
  have e2:Qf (Jm N q.1) N (0,0)=some (.inl (IntKind.wrap .i64 (0+mis (q.1.1.drop 0)))):=Q2r q3 hl.1 _ N 0 0 (QV _).symm (by omega)
  have e4:Qf (Jo N q.2) N (0,0)=some (IntKind.wrap .i64 (0+tkr (q.2.drop 0))):=Q2t (by omega) q6 _ N 0 0 (QV _).symm (by omega)
  have hm:mis q.1.1=tkr q.2:=by rw[q4]; exact ZM _
  rw[Jco h2 h3.tarO,QW,Cg (by rw[QR]; omega),QW,QU]
  show(Gb N x0 _).bind _=_
  rw[r1,QW,eu,QW]
  cases u with
  | inr u=>exact absurd rfl (hu u)
  | inl u =>
   simp only
   rw[e2,QW]
   simp only
   rw[e4,QW,XO,XO,hm,if_pos (beq_self_eq_true _),Jh6]; rfl
theorem Qlc(x0:Q2)(g0:gd Vt x0)(x1:List Qc)(g1:gd (.sl J2) x1):∃N,Vo N x0 x1=some true:=⟨18446744073709551616,have:=big; Jo1 g0⟩
end Gx
