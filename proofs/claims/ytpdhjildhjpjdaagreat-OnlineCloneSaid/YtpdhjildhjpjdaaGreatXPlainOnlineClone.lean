/- The plain laws for OnlineClone. -/
import Derived.Test.YtpdhjildhjpjdaaGreatXFns
import Derived.Test.YtpdhjildhjpjdaaGreatGRows
import Derived.Lib.RowBridge
import Derived.Test.YtpdhjildhjpjdaaGreatXRm
import Derived.WideShapes
import Derived.ChangeShapes
namespace Gx
open Go Gd
set_option linter.unusedVariables false
set_option linter.unusedSimpArgs false
theorem Q0j{α:Type}{l:List α}{i:Nat}(h:i<l.length):idx l (i:Int)=some l[i]:=Jnp (List.getElem?_eq_getElem h)
theorem Jlg(a b:Nat):((max a b:Nat):Int)=max (a:Int) (b:Int):=by omega
def W{α:Type}(o:Option α)(R:α→Prop):Prop:=∃r,o=some r∧R r
class WP{α:Type}(o:Option α)(T:outParam ((α→Prop)→Prop)):Prop where
 spec:∀R,T R→W o R
class WPf{α β:Type}(f:α→Option β)(T:outParam (α→(β→Prop)→Prop)):Prop where
 spec:∀a R,T a R→W (f a) R
theorem wp{α:Type}{o:Option α}{T:(α→Prop)→Prop}[h:WP o T]{R:α→Prop}(k:T R):W o R:=h.spec R k
theorem W.mono{α:Type}{o:Option α}{R S:α→Prop}(h:W o R)(k:∀r,R r→S r):W o S:=let⟨r,e,hr⟩:=h; ⟨r,e,k r hr⟩
theorem Qhc{α:Type}{o:Option α}{P:Prop}{Q:α→Prop}(h:P→W o Q):WP o (fun R=>P∧∀r,Q r→R r):=⟨fun R k=>(h k.1).mono k.2⟩
instance wpSome {α:Type} (a:α):WP (some a) (fun R=>R a):=⟨fun R h=>⟨a,rfl,h⟩⟩
instance wpNone {α:Type}:WP (none:Option α) (fun _=>False):=⟨fun _ h=>h.elim⟩
instance wpIte {α:Type} {c:Prop} [Decidable c] {a b:Option α} {A B:(α→Prop)→Prop} [ha:WP a A] [hb:WP b B]:WP (if c then a else b) (fun R=>(c→A R)∧(¬ c→B R)):=⟨fun R h=>by
 split
 ·rename_i hc; exact ha.spec R (h.1 hc)
 ·rename_i hc; exact hb.spec R (h.2 hc)⟩
instance wpBind {α β:Type} {o:Option α} {f:α→Option β} {A:(α→Prop)→Prop} {B:α→(β→Prop)→Prop} [ha:WP o A] [hb:WPf f B]:WP (o.bind f) (fun R=>A fun r=>B r R):=⟨fun R h=>by
 obtain⟨r,e,hr⟩:=ha.spec _ h
 rw[e]; exact hb.spec r R hr⟩
instance (priority:=1100) wpAnd {β:Type} {c:Prop} [Decidable c] {a:Option Bool} {f:Bool→Option β} {A:(Bool→Prop)→Prop} {B C:(β→Prop)→Prop} [ha:WP a A] [hb:WP (f true) B] [hc:WP (f false) C] :
  WP ((if c then a else some false).bind f) (fun R=>(c→A fun b=>b=true→B R)∧(c→A fun _=>True)∧C R):=⟨fun R h=>by
 by_cases h0:c
 ·rw[if_pos h0]
  obtain⟨r,e,hr⟩:=ha.spec _ (h.1 h0)
  rw[e]
  cases r with
  | true=>exact hb.spec R (hr rfl)
  | false=>exact hc.spec R h.2.2
 ·rw[if_neg h0]; exact hc.spec R h.2.2⟩
instance (priority:=1100) wpOr {β:Type} {c:Prop} [Decidable c] {a:Option Bool} {f:Bool→Option β} {A:(Bool→Prop)→Prop} {B C:(β→Prop)→Prop} [ha:WP a A] [hb:WP (f true) B] [hc:WP (f false) C] :
  WP ((if c then some true else a).bind f) (fun R=>(¬ c→A fun b=>b=false→C R)∧(¬ c→A fun _=>True)∧B R):=⟨fun R h=>by
 by_cases h0:c
 ·rw[if_pos h0]; exact hb.spec R h.2.2
 ·rw[if_neg h0]
  obtain⟨r,e,hr⟩:=ha.spec _ (h.1 h0)
  rw[e]
  cases r with
  | true=>exact hb.spec R h.2.2
  | false=>exact hc.spec R (hr rfl)⟩
instance (priority:=1200) wpBindT {α β:Type} {a b:Option α} {f:α→Option β} {A:(β→Prop)→Prop} [ha:WP (a.bind f) A]:WP ((if true=true then a else b).bind f) A:=⟨fun R h=>by rw [if_pos rfl]; exact ha.spec R h⟩
instance (priority:=1200) wpBindF {α β:Type} {a b:Option α} {f:α→Option β} {A:(β→Prop)→Prop} [ha:WP (b.bind f) A]:WP ((if false=true then a else b).bind f) A:=⟨fun R h=>by rw [if_neg (by decide)]; exact ha.spec R h⟩
instance (priority:=1200) wpIteT {α:Type} {a b:Option α} {A:(α→Prop)→Prop} [ha:WP a A]:WP (if true=true then a else b) A:=⟨fun R h=>by rw [if_pos rfl]; exact ha.spec R h⟩
instance (priority:=1200) wpIteF {α:Type} {a b:Option α} {A:(α→Prop)→Prop} [ha:WP b A]:WP (if false=true then a else b) A:=⟨fun R h=>by rw [if_neg (by decide)]; exact ha.spec R h⟩
instance (priority:=1000) wpfVar {α β:Type} {f:α→Option β} {T:α→(β→Prop)→Prop} [h:∀a,WP (f a) (T a)]:WPf f T:=⟨fun a R k=>(h a).spec R k⟩
instance (priority:=900) wpfSum {α β γ:Type} {f:α⊕β→Option γ} {A:α→(γ→Prop)→Prop} {B:β→(γ→Prop)→Prop} [ha:WPf (fun a=>f (.inl a)) A] [hb:WPf (fun b=>f (.inr b)) B] :
  WPf f (fun s R=>(∀a,s=.inl a→A a R)∧(∀b,s=.inr b→B b R)):=⟨fun s R k=>by
 cases s with
 | inl a=>exact ha.spec a R (k.1 a rfl)
 | inr b=>exact hb.spec b R (k.2 b rfl)⟩
instance (priority:=850) wpfPairSum {α β γ δ:Type} {f:(α⊕β)×γ→Option δ} {A:α→γ→(δ→Prop)→Prop} {B:β→γ→(δ→Prop)→Prop} [ha:∀a,WPf (fun c=>f (.inl a,c)) (A a)] [hb:∀b,WPf (fun c=>f (.inr b,c)) (B b)] :
  WPf f (fun p R=>(∀a,p.1=.inl a→A a p.2 R)∧(∀b,p.1=.inr b→B b p.2 R)):=⟨fun p R k=>by
 obtain⟨s,c⟩:=p
 cases s with
 | inl a=>exact(ha a).spec c R (k.1 a rfl)
 | inr b=>exact(hb b).spec c R (k.2 b rfl)⟩
instance (priority:=800) wpfPair {α β γ:Type} {f:α×β→Option γ} {A:α→β→(γ→Prop)→Prop} [h:∀a,WPf (fun b=>f (a,b)) (A a)]:WPf f (fun p R=>A p.1 p.2 R):=⟨fun p R k=>(h p.1).spec p.2 R k⟩
class Sz(α:Type) where
 sz:α→Nat
open Sz
instance:Sz Int:=⟨fun _=>0⟩
instance:Sz Bool:=⟨fun _=>0⟩
instance:Sz Unit:=⟨fun _=>0⟩
instance {α β:Type} [Sz α] [Sz β]:Sz (α×β):=⟨fun p=>max (sz p.1) (sz p.2)⟩
instance {α β:Type} [Sz α] [Sz β]:Sz (α⊕β):=⟨fun p=>match p with | .inl a=>sz a | .inr b=>sz b⟩
def szL{α:Type}[Sz α]:List α→Nat
 | []=>0
 | x::l=>max (sz x) (szL l)
instance {α:Type} [Sz α]:Sz (List α):=⟨fun l=>max l.length (szL l)⟩
instance (priority:=2000) szStr:Sz (List UInt8):=⟨fun _=>0⟩
mutual
def rsz{α:Type}:K7 α→Nat
 | .mk _ ks=>max ks.length (Jf2 ks)
def Jf2{α:Type}:List (K7 α)→Nat
 | []=>0
 | x::l=>max (rsz x) (Jf2 l)
end
instance {α:Type}:Sz (K7 α):=⟨rsz⟩
theorem Q9q(x:Int):sz x=0:=rfl
section
variable {α β:Type} [Sz α] [Sz β]
theorem Qmn(p:α×β):sz p=max (sz p.1) (sz p.2):=rfl
theorem Um{l:List α}:l.length≤sz l:=Nat.le_max_left _ _
theorem Jtr{l:List α}:szL l≤sz l:=Nat.le_max_right _ _
theorem Jc1:∀{l:List α} {x:α},x∈l→sz x≤szL l
 | y::l,x,h=>by
  rcases QJ.1 h with rfl | h
  ·exact Nat.le_max_left _ _
  ·exact QW (Jc1 h) (Nat.le_max_right _ _)
theorem Jlh{l:List α}{x:α}(h:x∈l):sz x≤sz l:=QW (Jc1 h) Jtr
theorem Q0k{K:Nat}:∀{l:List α},(∀x∈l,sz x≤K)→szL l≤K
 | [],_=>QR _
 | x::l,h=>XO.2 ⟨h x (.head _),Q0k fun y hy=>h y (.tail _ hy)⟩
theorem Q5m{K:Nat}{l:List α}(hl:l.length≤K)(h:∀x∈l,sz x≤K):sz l≤K:=XO.2 ⟨hl,Q0k h⟩
theorem Q9r{l m:List α}(hl:l.length≤m.length)(h:∀x∈l,x∈m):sz l≤sz m:=Q5m (QW hl Um) fun x hx=>Jlh (h x hx)
theorem Jts:sz ([]:List α)=0:=rfl
theorem Qub:∀l m:List α,szL (l++m)=max (szL l) (szL m)
 | [],m=>by simp[szL]
 | x::l,m=>by simp only[QA,szL,Qub l m]; omega
theorem Jf3(l m:List α):sz (l++m)=max (l.length+m.length) (max (sz l) (sz m)):=by
 show max (l++m).length (szL (l++m))=max _ (max (max l.length (szL l)) (max m.length (szL m)))
 rw[List.length_append,Qub]; omega
theorem Th(x:α)(l:List α):sz (x::l)=max (l.length+1) (max (sz x) (sz l)):=by
 show max (l.length+1) (max (sz x) (szL l))=max _ (max _ (max l.length (szL l)))
 omega
theorem Jc2:∀(l:List α) (i:Nat) (x:α),szL (l.set i x)≤max (szL l) (sz x)
 | [],i,x=>QR _
 | y::l,0,x=>by simp only[List.set_cons_zero,szL]; omega
 | y::l,i+1,x=>by
  have:=Jc2 l i x
  simp only[List.set_cons_succ,szL]; omega
theorem Qdx(l:List α)(i:Nat)(x:α):sz (l.set i x)≤max (sz l) (sz x):=by
 have h1:=Jc2 l i x
 show max (l.set i x).length (szL (l.set i x))≤max (max l.length (szL l)) (sz x)
 rw[List.length_set]; omega
theorem Jli{α:Type}{e:K7 α}:sz e.ks≤sz e:=by
 have:∀l:List (K7 α),szL l=Jf2 l:=fun l=>by
  induction l with
  | nil=>rfl
  | cons x l ih=>simp only[szL,Jf2,ih]; rfl
 cases e with
 | mk x ks =>
  show max ks.length (szL ks)≤rsz (.mk x ks)
  rw[this]; simp only[rsz]; exact QY _
end
class Qhd(α:Type)[Sz α]:Prop where
 flat:∀x:α,sz x=0
instance:Qhd Int:=⟨fun _=>rfl⟩
instance:Qhd Bool:=⟨fun _=>rfl⟩
instance (priority:=2000):Qhd (List UInt8):=⟨fun _=>rfl⟩
instance {α β:Type} [Sz α] [Sz β] [ha:Qhd α] [hb:Qhd β]:Qhd (α×β):=⟨fun x=>by rw [Qmn,ha.flat,hb.flat]; rfl⟩
theorem Qmo{α:Type}[Sz α][h:Qhd α](l:List α):sz l=l.length:=by
 have:szL l≤0:=Q0k fun x _=>Nat.le_of_eq (h.flat x)
 show max l.length (szL l)=l.length
 omega
structure Nu{α:Type}(P:α→Prop)(l:List α)(v:Int):Prop where
 at_:∀j:Nat,(j:Int)<v→∀a,l[j]?=some a→P a
theorem W7{α:Type}{P:α→Prop}{l:List α}:Nu P l 0:=⟨fun j h=>by omega⟩
theorem Rj{α:Type}{P:α→Prop}{l:List α}{v:Int}{x:α}(h0:0≤v)(h:Nu P l v)(hx:l[v.toNat]?=some x)(px:P x):Nu P l (v+1):=⟨fun j hj a ha=>by
 by_cases hjv:(j:Int)<v
 ·exact h.at_ j hjv a ha
 ·have:j=v.toNat:=by omega
  subst this; rw[hx]at ha; exact Option.some.inj ha▸px⟩
theorem Qhy{α:Type}{P:α→Prop}{l:List α}{v:Int}(h:Nu P l v)(hl:l.length≤v):∀a∈l,P a:=fun a ha=>by
 obtain⟨i,hi,e⟩:=List.getElem_of_mem ha
 exact h.at_ i (by omega) a (by rw[List.getElem?_eq_getElem hi,e])
theorem Q0l{α:Type}[Sz α]{B:Int}{l:List α}(h:∀y∈l,(sz y:Int)≤B)(h0:0≤B):(szL l:Int)≤B:=by
 have:=Q0k (K:=B.toNat) fun x hx=>by have:=h x hx; omega
 omega
theorem Rk{α:Type}[Sz α](l:List α):sz l=max l.length (szL l):=rfl
class Sh(α:Type) where
 sh:α→Prop
open Sh
instance:Sh Int:=⟨fun _=>True⟩
instance:Sh Bool:=⟨fun _=>True⟩
instance:Sh Unit:=⟨fun _=>True⟩
instance {α β:Type} [Sh α] [Sh β]:Sh (α×β):=⟨fun p=>sh p.1∧sh p.2⟩
instance {α β:Type} [Sh α] [Sh β]:Sh (α⊕β):=⟨fun p=>match p with | .inl a=>sh a | .inr b=>sh b⟩
structure ShL{α:Type}[Sh α](l:List α):Prop where
 all:∀x∈l,sh x
instance {α:Type} [Sh α]:Sh (List α):=⟨ShL⟩
instance (priority:=2000) shStr:Sh (List UInt8):=⟨fun s=>s.length≤9223372036854775807⟩
instance {α:Type}:Sh (K7 α):=⟨fun _=>True⟩
theorem Jlj{α:Type}[Sh α]{l:List α}{x:α}(h:x∈l)(hl:sh l):sh x:=hl.all x h
theorem Qhe{x:List UInt8}(h:sh x):x.length≤9223372036854775807:=h
theorem Jf4{α:Type}[Sh α](l m:List α):sh (l++m)=(sh l∧sh m):=propext ⟨fun h=>⟨⟨fun x hx=>h.all x (List.mem_append_left _ hx)⟩,⟨fun x hx=>h.all x (List.mem_append_right _ hx)⟩⟩,fun h=>⟨fun x hx=>(QX.1 hx).elim (h.1.all x) (h.2.all x)⟩⟩
theorem Jou{α:Type}[Sh α](x:α)(l:List α):sh (x::l)=(sh x∧sh l):=propext ⟨fun h=>⟨h.all x (.head _),⟨fun y hy=>h.all y (.tail _ hy)⟩⟩,fun h=>⟨fun y hy=>(QJ.1 hy).elim (fun e=>e▸h.1) (h.2.all y)⟩⟩
theorem Qkr{α:Type}[Sh α]{l:List α}{i:Nat}{x:α}(hl:sh l)(hx:sh x):sh (l.set i x):=⟨fun y hy=>(ZQ hy).elim (hl.all y) (fun e=>e▸hx)⟩
theorem Qdy{α:Type}[Sz α]{K:Int}{l:List α}{i:Nat}{x:α}(h1:(sz l:Int)≤K)(h2:(sz x:Int)≤K):((sz (l.set i x):Nat):Int)≤K:=by
 have:=Qdx l i x
 omega
theorem Qhz{α:Type}[Sz α]{K:Nat}{l:List α}{i:Nat}{x:α}(h1:sz l≤K)(h2:sz x≤K):sz (l.set i x)≤K:=by
 have:=Qdx l i x
 omega
section
variable {V:Type} [Sz V]
theorem Quc(key:Int)(v:V):∀m:List (Int×V),sz (Yu (k:=.int .i64) key v m:List (Int×V))≤max (sz m+1) (sz v)
 | []=>by
  show sz [((key,v):Int×V)]≤_
  rw[Th,Qmn]; simp only[Q9q,Jts,JU]; omega
 | x::m=>by
  have ih:=Quc key v m
  unfold Yu
  cases h:eqK (.int .i64) key x.1 with
  | true =>
   show sz ((key,v)::m:List (Int×V))≤_
   rw[Th,Th,Qmn]; simp only[Q9q]; omega
  | false =>
   show sz (x::(Yu (k:=.int .i64) key v m:List (Int×V)))≤_
   rw[Th,Th]
   have:=Um (l:=(Yu (k:=.int .i64) key v m:List (Int×V)))
   have h2:(Yu (k:=.int .i64) key v m:List (Int×V)).length≤m.length+1:=by
    clear ih h this
    induction m with
    | nil=>exact QY _
    | cons y m ih =>
     unfold Yu
     cases eqK (.int .i64) key y.1 with
     | true=>exact XC _
     | false=>exact XJ ih
   omega
theorem Ti(key:Int)(v:V)(m:List (Int×V)):sz (Jj (k:=.int .i64) key v m:List (Int×V))≤max (sz m+1) (sz v):=by
 unfold Jj
 cases(Qg (k:=.int .i64) key m).isSome with
 | true=>exact Quc key v m
 | false =>
  refine QW (Q9r (m:=((key,v):Int×V)::m) (Nat.le_of_eq Ea.length_eq) fun _ h=>Ea.mem_iff.1 h) ?_
  rw[Th,Qmn]; simp only[Q9q]
  have:=Um (l:=m)
  omega
theorem Qxv{W:Type}(key:Int)(v:W):∀m:List (Int×W),(Yu (k:=.int .i64) key v m).length≤m.length+1
 | []=>QY _
 | x::m=>by
  have ih:=Qxv key v m
  unfold Yu
  cases eqK (.int .i64) key x.1 with
  | true=>exact XC _
  | false=>exact XJ ih
theorem Ck{W:Type}(key:Int)(v:W)(m:List (Int×W)):(Jj (k:=.int .i64) key v m).length≤m.length+1:=by
 unfold Jj
 cases(Qg (k:=.int .i64) key m).isSome with
 | true=>exact Qxv key v m
 | false=>exact Nat.le_of_eq Ea.length_eq
theorem Qxw{W:Type}(key:Str)(v:W):∀m:List (Str×W),(Yu (k:=.str) key v m).length≤m.length+1
 | []=>QY _
 | x::m=>by
  have ih:=Qxw key v m
  unfold Yu
  cases eqK .str key x.1 with
  | true=>exact XC _
  | false=>exact XJ ih
theorem Rl{W:Type}(key:Str)(v:W)(m:List (Str×W)):(Jj (k:=.str) key v m).length≤m.length+1:=by
 unfold Jj
 cases(Qg (k:=.str) key m).isSome with
 | true=>exact Qxw key v m
 | false=>exact Nat.le_of_eq Ea.length_eq
theorem L2{W:Type}(key:Str):∀m:List (Str×W),(Ga (k:=.str) key m).length≤m.length
 | []=>QY _
 | x::m=>by
  have ih:=L2 key m
  unfold Ga
  cases eqK .str key x.1 with
  | true=>exact XC _
  | false=>exact XJ ih
theorem Cl{W:Type}(key:Int):∀m:List (Int×W),(Ga (k:=.int .i64) key m).length≤m.length
 | []=>QY _
 | x::m=>by
  have ih:=Cl key m
  unfold Ga
  cases eqK (.int .i64) key x.1 with
  | true=>exact XC _
  | false=>exact XJ ih
theorem Q5n{W:Type}{key:Int}{y:Int×W}:∀{m:List (Int×W)},y∈(Ga (k:=.int .i64) key m:List (Int×W))→y∈m
 | x::m,h=>by
  unfold Ga at h
  cases hk:eqK (.int .i64) key x.1 with
  | true=>rw[hk]at h; exact .tail _ h
  | false =>
   rw[hk]at h
   rcases QJ.1 h with h | h
   ·exact h▸.head _
   ·exact .tail _ (Q5n h)
theorem Qdz(key:Int)(m:List (Int×V)):sz (Ga (k:=.int .i64) key m:List (Int×V))≤sz m:=Q9r (Cl key m) fun _ h=>Q5n h
theorem Cm(key:Int)(d:V):∀m:List (Int×V),sz ((Qg (k:=.int .i64) key m).getD d)≤max (sz m) (sz d)
 | []=>Nat.le_max_right _ _
 | x::m=>by
  have ih:=Cm key d m
  unfold Qg
  rw[Th,Qmn]
  cases eqK (.int .i64) key x.1 with
  | true=>show sz x.2≤_; omega
  | false=>show sz ((Qg (k:=.int .i64) key m).getD d)≤_; omega
end
theorem Tj(x:Int):eqK (.int .i64) x x=true:=by simp[eqK]
theorem Qji(x:Str):eqK .str x x=true:=by simp[eqK]
class Fn(N:Nat):Prop where
 le:18446744073709551616≤N
section
variable {α β σ τ:Type}
instance wpIdx [Sz α] [Sh α] {l:List α} {i:Int}:WP (idx l i) (fun R=>(0≤i∧i<l.length)∧∀x,x∈l→sz x≤sz l→(Sh.sh l→Sh.sh x)→l[i.toNat]?=some x→R x):=⟨fun R h=>by
 obtain⟨⟨h0,h1⟩,hR⟩:=h
 have hi:i.toNat<l.length:=by omega
 have hm:l[i.toNat]∈l:=ZW hi
 refine⟨l[i.toNat],?_,hR _ hm (Jlh hm) (Jlj hm) (List.getElem?_eq_getElem hi)⟩
 unfold idx
 rw[if_pos h0,List.getElem?_eq_getElem hi]⟩
instance wpSidx {s:Str} {i:Int}:WP (Be s i) (fun R=>(0≤i∧i<s.length)∧∀x,0≤x→x<256→R x):=⟨fun R h=>by
 obtain⟨⟨h0,h1⟩,hR⟩:=h
 have hi:i.toNat<s.length:=by omega
 refine⟨((s[i.toNat]).toNat:Int),?_,hR _ (by omega) (by have:=UInt8.toNat_lt s[i.toNat]; omega)⟩
 unfold Be idx
 rw[if_pos h0,List.getElem?_eq_getElem hi]; rfl⟩
instance wpSlc [Sz α] [Sh α] {l:List α} {a b:Int}:WP (slc l a b) (fun R=>(0≤a∧a≤b∧b≤l.length)∧∀s,(s.length:Int)=b - a→(∀x∈s,x∈l)→sz s≤sz l→(Sh.sh l→Sh.sh s)→R s):=⟨fun R h=>by
 obtain⟨⟨h0,h1,h2⟩,hR⟩:=h
 have hlen:(((l.drop a.toNat).take (b - a).toNat).length:Int)=b - a:=by rw[List.length_take,List.length_drop]; omega
 have hm:∀x∈(l.drop a.toNat).take (b - a).toNat,x∈l:=fun x hx=>List.mem_of_mem_drop (ZI hx)
 refine⟨(l.drop a.toNat).take (b - a).toNat,?_,hR _ hlen hm (Q9r (by rw[List.length_take,List.length_drop]; omega) hm) (fun h=>⟨fun x hx=>h.all x (hm x hx)⟩)⟩
 unfold slc
 rw[if_pos ⟨h0,h1,h2⟩]⟩
instance wpApp {b:Nat} {l m:List α}:WP (app b l m) (fun R=>(l.length+m.length)*b≤140737488355328∧R (l++m)):=⟨fun R h=>⟨l++m,by unfold app; rw [if_pos h.1],h.2⟩⟩
instance wpMkL {b:Nat} {l c:Int} {z:α}:WP (mkL b l c z) (fun R=>(0≤l∧l≤c∧(b:Int)*c≤281474976710656)∧R (List.replicate l.toNat z)):=⟨fun R h=>⟨_,by unfold mkL; rw [if_pos h.1],h.2⟩⟩
instance wpQuo {k:IntKind} {x y:Int}:WP (Q8h k x y) (fun R=>y≠0∧R (k.wrap (x.tdiv y))):=⟨fun R h=>⟨_,by unfold Q8h; rw [if_neg h.1],h.2⟩⟩
instance wpRem {x y:Int}:WP (Q2q x y) (fun R=>y≠0∧R (x.tmod y)):=⟨fun R h=>⟨_,by unfold Q2q; rw [if_neg h.1],h.2⟩⟩
instance wpShr {k:IntKind} {x y:Int}:WP (Jh1 k x y) (fun R=>0≤y∧∀r,R r):=⟨fun R h=>⟨_,by unfold Jh1; rw [if_neg (by omega)],h.2 _⟩⟩
instance wpShl {k:IntKind} {x y:Int}:WP (Jd8 k x y) (fun R=>0≤y∧∀r,R r):=⟨fun R h=>⟨_,by unfold Jd8; rw [if_neg (by omega)],h.2 _⟩⟩
instance wpScat {a b:Str}:WP (Jni a b) (fun R=>a.length+b.length≤9223372036854775807∧R (a++b)):=⟨fun R h=>⟨_,by unfold Jni; rw [if_pos h.1],h.2⟩⟩
instance wpChk {b:Bool}:WP (chk b) (fun R=>b=true∧R ()):=⟨fun R h=>⟨(),by rw [h.1]; rfl,h.2⟩⟩
theorem Jtt{f:σ→α→Option σ}{es:List α}(I:Int→σ→Prop)(step:∀(n:Int) s e,e∈es→0≤n→n<es.length→I n s→W (f s e) (I (n+1))){s:σ}:WP (Qpa f es s) (fun R=>I 0 s∧∀r,I es.length r→R r):=Qhc fun h=>by
 have main:∀(l:List α) (n:Int) (s:σ),(∀e∈l,e∈es)→0≤n→n+l.length=es.length→I n s→W (Qpa f l s) (I es.length):=by
  intro l
  induction l with
  | nil=>intro n s hm h0 hn hI; exact⟨s,rfl,by rw[←hn]; simpa using hI⟩
  | cons x l ih =>
   intro n s hm h0 hn hI
   simp only[List.length_cons]at hn
   obtain⟨s1,e1,h1⟩:=step n s x (hm x (.head _)) h0 (by omega) hI
   show W ((f s x).bind fun s'=>Qpa f l s') _
   rw[e1]
   exact ih (n+1) s1 (fun e he=>hm e (.tail _ he)) (by omega) (by omega) h1
 exact main es 0 s (fun _ h=>h) (JT _) (by simp) h
theorem Q9s{f:σ→Option (σ⊕τ)}{N:Nat}[hN:Fn N](μ:σ→Nat)(I:σ→Prop)(Q:τ→Prop)(hμ:∀s,I s→μ s<18446744073709551616)
  (step:∀s,I s→W (f s) fun r=>match r with | .inl s'=>I s'∧μ s'<μ s | .inr t=>Q t) (s:σ):WP (Ql f N s) (fun R=>I s∧∀r,Q r→R r):=Qhc fun h=>by
 have main:∀(k n:Nat) (s:σ),I s→μ s≤k→k<n→W (Ql f n s) Q:=by
  intro k
  induction k with
  | zero =>
   intro n s hI hk hn
   obtain⟨m,rfl⟩:∃m,n=m+1:=⟨n - 1,by omega⟩
   obtain⟨r,e,hr⟩:=step s hI
   cases r with
   | inl s'=>exact absurd hr.2 (by omega)
   | inr t=>exact⟨t,by simp[Ql,e],hr⟩
  | succ k ih =>
   intro n s hI hk hn
   obtain⟨m,rfl⟩:∃m,n=m+1:=⟨n - 1,by omega⟩
   obtain⟨r,e,hr⟩:=step s hI
   cases r with
   | inl s' =>
    obtain⟨t,e2,ht⟩:=ih m s' hr.1 (by have:=hr.2; omega) (by omega)
    exact⟨t,by simp[Ql,e,e2],ht⟩
   | inr t=>exact⟨t,by simp[Ql,e],hr⟩
 exact main (μ s) N s h (QY _) (QB (hμ s h) hN.le)
theorem ss:(∀(p:Prop) [Decidable p],(decide p=true)=p)∧(∀(p:Prop) [Decidable p],(decide p=false)=¬ p)∧(∀b:Bool,(¬ b=true)=(b=false))∧(∀a b:Bool,((a&&b)=true)=(a=true∧b=true))∧(∀a b:Bool,((a||b)=true)=(a=true∨b=true)) ∧
  (∀b:Bool,((!b)=true)=(b=false))∧(∀b:Bool,((!b)=false)=(b=true))∧(∀a b:Bool,((a&&b)=false)=(a=true→b=false))∧(∀a b:Bool,((a||b)=false)=(a=false∧b=false)) ∧
  (∀a b:Int,((a==b)=true)=(a=b))∧(∀a b:Int,((a==b)=false)=¬ a=b)∧(∀a b:Int,((a != b)=true)=¬ a=b)∧(∀a b:Int,((a != b)=false)=(a=b))∧(∀p q:Prop,(¬ (p∧q))=(p→¬ q))∧(∀p q:Prop,(¬ (p∨q))=(¬ p∧¬ q)):=by
 refine⟨?_,?_,?_,?_,?_,?_,?_,?_,?_,?_,?_,?_,?_,?_,?_⟩
 all_goals intros
 all_goals simp
theorem sz1:(∀(α β:Type) [Sz α] [Sz β] (p:α×β),sz p=max (sz p.1) (sz p.2))∧(∀x:Int,sz x=0)∧(∀x:Bool,sz x=0)∧(∀x:Unit,sz x=0)∧(∀x:List UInt8,sz x=0)∧(∀(α β:Type) [Sz α] [Sz β] (a:α),sz (Sum.inl a:α⊕β)=sz a) ∧
  (∀(α β:Type) [Sz α] [Sz β] (b:β),sz (Sum.inr b:α⊕β)=sz b)∧(∀(α:Type) [Sz α] [Qhd α] (l:List α),sz l=l.length) ∧
  (∀(α:Type) [Sz α] (l m:List α),sz (l++m)=max (l.length+m.length) (max (sz l) (sz m)))∧(∀(α:Type) [Sz α] (x:α) (l:List α),sz (x::l)=max (l.length+1) (max (sz x) (sz l)))∧(∀(α:Type) [Sz α],sz ([]:List α)=0) :=
 ⟨fun _ _ _ _ _=>rfl,fun _=>rfl,fun _=>rfl,fun _=>rfl,fun _=>rfl,fun _ _ _ _ _=>rfl,fun _ _ _ _ _=>rfl,fun _ _ _ l=>Qmo l,fun _ _=>Jf3,fun _ _=>Th,fun _ _=>rfl⟩
theorem sh1:(∀(α β:Type) [Sh α] [Sh β] (p:α×β),Sh.sh p=(Sh.sh p.1∧Sh.sh p.2))∧(∀x:Int,Sh.sh x=True)∧(∀x:Bool,Sh.sh x=True)∧(∀x:Unit,Sh.sh x=True)∧(∀(α:Type) (x:K7 α),Sh.sh x=True)∧(∀(α β:Type) [Sh α] [Sh β] (a:α),Sh.sh (Sum.inl a:α⊕β)=Sh.sh a) ∧
  (∀(α β:Type) [Sh α] [Sh β] (b:β),Sh.sh (Sum.inr b:α⊕β)=Sh.sh b)∧(∀(α:Type) [Sh α] (l m:List α),Sh.sh (l++m)=(Sh.sh l∧Sh.sh m))∧(∀(α:Type) [Sh α] (x:α) (l:List α),Sh.sh (x::l)=(Sh.sh x∧Sh.sh l))∧(∀(α:Type) [Sh α],Sh.sh ([]:List α)=True)∧Sh.sh ([]:List UInt8)=True :=
 ⟨fun _ _ _ _ _=>rfl,fun _=>rfl,fun _=>rfl,fun _=>rfl,fun _ _=>rfl,fun _ _ _ _ _=>rfl,fun _ _ _ _ _=>rfl,fun _ _=>Jf4,fun _ _=>Jou,fun _ _=>propext ⟨fun _=>trivial,fun _=>⟨fun _ h=>by cases h⟩⟩,propext ⟨fun _=>trivial,fun _=>by show([]:List UInt8).length≤_; decide⟩⟩
theorem mx1:(∀n:Nat,max 0 n=n)∧(∀n:Nat,max n 0=n)∧(∀a b c:Nat,(max a b≤c)=(a≤c∧b≤c))∧(∀a b:Nat,((max a b:Nat):Int)=max (a:Int) (b:Int))∧(∀a b c:Int,(max a b≤c)=(a≤c∧b≤c)) :=
 ⟨ZT,ZH,fun _ _ _=>propext XO,Jlg,fun _ _ _=>propext Int.max_le⟩
theorem sS:(((∀(α β:Type) (p:α⊕β→Prop),(∀x,p x)=((∀a,p (.inl a))∧∀b,p (.inr b)))∧(∀(α β:Type) (a b:α),((Sum.inl a:α⊕β)=.inl b)=(a=b))∧(∀(α β:Type) (a b:β),((Sum.inr a:α⊕β)=.inr b)=(a=b))∧(∀(α:Type) (p:α→Prop) (a:α),(∀b,a=b→p b)=p a)∧(∀(α:Type) (p:α→Prop) (a:α),(∀b,b=a→p b)=p a)) ∧
  (∀p:Prop,(False→p)=True)∧(∀α:Type,(α→True)=True)∧(∀p:Prop,(p→True)=True)∧(∀p:Prop,(True→p)=p)∧(∀p:Prop,(p∧True)=p)∧(∀p:Prop,(True∧p)=p)∧(∀(α:Type) [Nonempty α] (p:Prop),(α→p)=p)∧(∀(α:Type) [BEq α] [LawfulBEq α] (a b:α),((a==b)=true)=(a=b))∧(∀(α:Type) [BEq α] [LawfulBEq α] (a b:α),((a != b)=true)=(a≠b))∧(∀(α:Type) (a b:α),(a≠b)=¬ (a=b)) ∧
  (∀(α:Type) (l m:List α),(l++m).length=l.length+m.length)∧(∀(α:Type) (x:α) (l:List α),(x::l).length=l.length+1)∧(∀(α:Type),([]:List α).length=0)∧(∀(α:Type) (l:List α) (i:Nat) (x:α),(l.set i x).length=l.length)∧(∀(α:Type) (l:List α),[]++l=l)∧∀n:Nat,0+n=n)∧(type_of% ss)∧(type_of% sz1)∧(type_of% sh1)∧type_of% mx1:=by
 refine⟨⟨⟨fun _ _ p=>propext Sum.forall,?_,?_,?_,?_⟩,?_,?_,?_,?_,?_,?_,fun _ _ _=>propext (forall_const _),fun _ _ _ a b=>propext beq_iff_eq,fun _ _ _ a b=>propext bne_iff_ne,?_,?_,?_,?_,?_,?_,?_⟩,ss,sz1,sh1,mx1⟩
 all_goals simp
theorem lv{P:Prop}(h:P:=by first | assumption | omega | exact W7 | ((simp (disch:=omega) only [Q4] at *)<;>omega) | ((first | refine Qdy ?_ ?_ | refine Qhz ?_ ?_)<;>(try simp only [sz1,mx1])<;>first | omega | ((simp (disch:=omega) only [Q4] at *)<;>omega)) | exact QW Um (by omega) | exact Tj _ | exact Qji _ | grind [Rk,Qdx,Qkr,Ti,Qdz,Cm,Ck,Rl,Cl,L2]):P:=h
theorem mkW {o o':Option α} {T:(α→Prop)→Prop} (e:o=o') [hw:WP o' T] (P:Prop) (Q:α→Prop) (k:P→T Q:=by
  intro h
  try simp only[sS,reduceCtorEq]at *
  repeat' (first | intro _ | apply And.intro)
  all_goals first | assumption | omega | exact W7 | ((simp (disch:=omega) only [Q4]at *)<;>omega) | ((first | refine Qdy ?_ ?_ | refine Qhz ?_ ?_)<;>(try simp only[sz1,mx1])<;>first | omega | ((simp (disch:=omega) only [Q4]at *)<;>omega)) | exact QW Um (by omega) | exact Tj _ | exact Qji _ | grind [Rk,Qdx,Qkr,Ti,Qdz,Cm,Ck,Rl,Cl,L2]):WP o (fun R=>P∧∀r,Q r→R r):=Qhc fun h=>by rw[e]; exact hw.spec Q (k h)
theorem Jvr{f:σ→Option (σ⊕τ)}{N:Nat}[hN:Fn N](ix:σ→Int)(len:Nat)(I:σ→Prop)(Q:τ→Prop)(hl:∀s,I s→len≤9223372036854775807)
  (step:∀s,I s→0≤ix s→ix s≤len→(ix s<len→IntKind.wrap .i64 (ix s+1)=ix s+1)→W (f s) fun r=>match r with | .inl s'=>I s'∧ix s<len∧ix s'=IntKind.wrap .i64 (ix s+1) | .inr t=>Q t) (s:σ) :
  WP (Ql f N s) (fun R=>(I s∧0≤ix s∧ix s≤len)∧∀r,Q r→R r) :=
 Q9s (fun s=>((len:Int) - ix s).toNat) (fun s=>I s∧0≤ix s∧ix s≤len) Q (fun s h=>by have:=hl s h.1; omega) (fun s h=>by
  have hl':=hl s h.1
  have hw:ix s<len→IntKind.wrap .i64 (ix s+1)=ix s+1:=fun hlt=>by
   exact Q4 (by omega) (by omega)
  refine(step s h.1 h.2.1 h.2.2 hw).mono fun r hr=>?_
  cases r with
  | inl s' =>
   obtain⟨h1,h2,h3⟩:=hr
   rw[hw h2]at h3
   exact⟨⟨h1,by omega,by omega⟩,by omega⟩
  | inr t=>exact hr) s
theorem upL {f f':σ→Option (σ⊕τ)} {B:σ→(σ⊕τ→Prop)→Prop} (e:∀s,f s=f' s) [hf:WPf f' B] {N:Nat} [hN:Fn N] (ix:σ→Int) (len:Nat) (I:σ→Prop) (Q:τ→Prop) (hl:∀s,I s→len≤9223372036854775807:=by
  intro s h
  try simp only[sz1,sh1,mx1]at *
  first | omega | exact QW Um (by omega) | grind [Rk])
  (step:∀s,I s→0≤ix s→ix s≤len→len≤9223372036854775807→(ix s<len→IntKind.wrap .i64 (ix s+1)=ix s+1)→B s (fun r=>match r with | .inl s'=>I s'∧ix s<len∧ix s'=IntKind.wrap .i64 (ix s+1) | .inr t=>Q t):=by
  intro s h h0 h1 h2 hw
  try simp only[sS,reduceCtorEq]at *
  repeat' (first | intro _ | apply And.intro)
  all_goals first | assumption | omega | ((simp (disch:=omega) only [Q4]at *)<;>omega) | ((first | refine Qdy ?_ ?_ | refine Qhz ?_ ?_)<;>(try simp only[sz1,mx1])<;>first | omega | ((simp (disch:=omega) only [Q4]at *)<;>omega)) | exact QW Um (by omega) | exact Tj _ | exact Qji _ | grind [Rk,Qdx,Qkr,Ti,Qdz,Cm,Ck,Rl,Cl,L2]) {s:σ} :
  WP (Ql f N s) (fun R=>(I s∧0≤ix s∧ix s≤len)∧∀r,Q r→R r):=Jvr ix len I Q hl (fun s h h0 h1 hw=>by rw[e s]; exact hf.spec s _ (step s h h0 h1 (hl s h) hw)) s
theorem Qmp {α ε:Type} {f f':Int→Option (Int⊕(Unit⊕ε))} {B:Int→(Int⊕(Unit⊕ε)→Prop)→Prop} (e:∀s,f s=f' s) [hf:WPf f' B] {N:Nat} [hN:Fn N] (l:List α) (I:Prop) (P:α→Prop) (C:Prop) (E:ε→Prop) (hl:I→l.length≤9223372036854775807:=by
  intro h
  try simp only[sz1,sh1,mx1]at *
  first | omega | exact QW Um (by omega) | grind [Rk])
  (fin:I→(∀y∈l,P y)→C:=by
  intro h hall
  first | exact hall | exact Q0l hall (by omega))
  (step:∀s:Int,I→0≤s→s≤l.length→l.length≤9223372036854775807→(s<l.length→IntKind.wrap .i64 (s+1)=s+1)→B s (fun r=>match r with | .inl s'=>(∃x,l[s.toNat]?=some x∧P x)∧s<l.length∧s'=IntKind.wrap .i64 (s+1) | .inr t=>(∀u,t=.inl u→l.length≤s)∧∀u,t=.inr u→E u):=by
  intro s h h0 h1 h2 hw
  try simp only[sS,reduceCtorEq]at *
  repeat' (first | intro _ | apply And.intro)
  all_goals first | assumption | omega | ((simp (disch:=omega) only [Q4]at *)<;>omega) | (refine⟨_,by assumption,?_⟩; first | assumption | omega | ((simp (disch:=omega) only [Q4]at *)<;>omega) | ((first | refine Qdy ?_ ?_ | refine Qhz ?_ ?_)<;>(try simp only[sz1,mx1])<;>first | omega | ((simp (disch:=omega) only [Q4]at *)<;>omega)) | exact QW Um (by omega) | exact Tj _ | exact Qji _ | grind [Rk,Qdx,Qkr,Ti,Qdz,Cm,Ck,Rl,Cl,L2]) | exact QW Um (by omega) | exact Tj _ | exact Qji _ | grind [Rk,Qdx,Qkr,Ti,Qdz,Cm,Ck,Rl,Cl,L2]) {s:Int} :
  WP (Ql f N s) (fun R=>(I∧Nu P l s∧0≤s∧s≤l.length)∧∀r:Unit⊕ε,((∀u,r=.inl u→C)∧∀u,r=.inr u→E u)→R r):=⟨fun R h=>by
 have hw:=Jvr (f:=f) (N:=N) (fun s=>s) l.length (fun s=>I∧Nu P l s) (fun r:Unit⊕ε=>(∀u,r=.inl u→C)∧∀u,r=.inr u→E u) (fun s h=>hl h.1) (fun s h h0 h1 hw=>by
  rw[e s]
  refine(hf.spec s _ (step s h.1 h0 h1 (hl h.1) hw)).mono fun r hr=>?_
  cases r with
  | inl s' =>
   obtain⟨x1,x2,x3⟩:=hr
   refine⟨⟨h.1,?_⟩,x2,x3⟩
   rw[x3,hw x2]
   obtain⟨x,y1,y2⟩:=x1
   exact Rj h0 h.2 y1 y2
  | inr t =>
   refine⟨fun u hu=>?_,hr.2⟩
   have hge:=hr.1 u hu
   exact fin h.1 (Qhy h.2 hge)) s
 exact hw.spec R ⟨⟨⟨h.1.1,h.1.2.1⟩,h.1.2.2⟩,h.2⟩⟩
theorem Jvs{f:σ→Option (σ⊕τ)}{N:Nat}[hN:Fn N](ix:σ→Int)(E:Int)(I:σ→Prop)(Q:τ→Prop)(hl:∀s,I s→E≤9223372036854775807)
  (step:∀s,I s→0≤ix s→(ix s<E→IntKind.wrap .i64 (ix s+1)=ix s+1)→W (f s) fun r=>match r with | .inl s'=>I s'∧ix s<E∧ix s'=IntKind.wrap .i64 (ix s+1) | .inr t=>Q t) (s:σ) :
  WP (Ql f N s) (fun R=>(I s∧0≤ix s)∧∀r,Q r→R r) :=
 Q9s (fun s=>(E - ix s).toNat) (fun s=>I s∧0≤ix s) Q (fun s h=>by have:=hl s h.1; omega) (fun s h=>by
  have hl':=hl s h.1
  have hw:ix s<E→IntKind.wrap .i64 (ix s+1)=ix s+1:=fun hlt=>by
   exact Q4 (by omega) (by omega)
  refine(step s h.1 h.2 hw).mono fun r hr=>?_
  cases r with
  | inl s' =>
   obtain⟨h1,h2,h3⟩:=hr
   rw[hw h2]at h3
   exact⟨⟨h1,by omega⟩,by omega⟩
  | inr t=>exact hr) s
theorem upI {f f':σ→Option (σ⊕τ)} {B:σ→(σ⊕τ→Prop)→Prop} (e:∀s,f s=f' s) [hf:WPf f' B] {N:Nat} [hN:Fn N] (ix:σ→Int) (E:Int) (I:σ→Prop) (Q:τ→Prop) (hl:∀s,I s→E≤9223372036854775807:=by
  intro s h
  try simp only[sz1,sh1,mx1]at *
  first | omega | grind [Rk])
  (step:∀s,I s→0≤ix s→(ix s<E→IntKind.wrap .i64 (ix s+1)=ix s+1)→B s (fun r=>match r with | .inl s'=>I s'∧ix s<E∧ix s'=IntKind.wrap .i64 (ix s+1) | .inr t=>Q t):=by
  intro s h h0 hw
  try simp only[sS,reduceCtorEq]at *
  repeat' (first | intro _ | apply And.intro)
  all_goals first | assumption | omega | ((simp (disch:=omega) only [Q4]at *)<;>omega) | ((first | refine Qdy ?_ ?_ | refine Qhz ?_ ?_)<;>(try simp only[sz1,mx1])<;>first | omega | ((simp (disch:=omega) only [Q4]at *)<;>omega)) | exact QW Um (by omega) | exact Tj _ | exact Qji _ | grind [Rk,Qdx,Qkr,Ti,Qdz,Cm,Ck,Rl,Cl,L2]) {s:σ} :
  WP (Ql f N s) (fun R=>(I s∧0≤ix s)∧∀r,Q r→R r):=Jvs ix E I Q hl (fun s h h0 hw=>by rw[e s]; exact hf.spec s _ (step s h h0 hw)) s
theorem mkL {f f':σ→Option (σ⊕τ)} {B:σ→(σ⊕τ→Prop)→Prop} (e:∀s,f s=f' s) [hf:WPf f' B] {N:Nat} [hN:Fn N] (μ:σ→Nat) (I:σ→Prop) (Q:τ→Prop) (hμ:∀s,I s→μ s<18446744073709551616:=by
  intro s h
  try simp only[sz1,sh1,mx1]at *
  first | omega | grind [Rk])
  (step:∀s,I s→B s (fun r=>match r with | .inl s'=>I s'∧μ s'<μ s | .inr t=>Q t):=by
  intro s h
  try simp only[sS,reduceCtorEq]at *
  repeat' (first | intro _ | apply And.intro)
  all_goals first | assumption | omega | ((simp (disch:=omega) only [Q4]at *)<;>omega) | ((first | refine Qdy ?_ ?_ | refine Qhz ?_ ?_)<;>(try simp only[sz1,mx1])<;>first | omega | ((simp (disch:=omega) only [Q4]at *)<;>omega)) | exact QW Um (by omega) | exact Tj _ | exact Qji _ | grind [Rk,Qdx,Qkr,Ti,Qdz,Cm,Ck,Rl,Cl,L2]) {s:σ} :
  WP (Ql f N s) (fun R=>I s∧∀r,Q r→R r):=Q9s μ I Q hμ (fun s h=>by rw[e s]; exact hf.spec s _ (step s h)) s
end
mutual
def dpt{α:Type}:K7 α→Nat
 | .mk _ ks=>Jf5 ks+1
def Jf5{α:Type}:List (K7 α)→Nat
 | []=>0
 | x::l=>max (dpt x) (Jf5 l)
end
theorem Q5o{α:Type}:∀{l:List (K7 α)} {x:K7 α},x∈l→dpt x≤Jf5 l
 | y::l,x,h=>by
  rw[Jf5]
  rcases QJ.1 h with rfl | h
  ·omega
  ·have:=Q5o h; omega
theorem Jlk{α:Type}{e x:K7 α}(h:x∈e.ks):dpt x<dpt e:=by
 cases e with
 | mk a ks=>rw[dpt]; have:=Q5o (l:=ks) h; omega
theorem Jc3{α:Type}{K:Nat}:∀{l:List (K7 α)},(∀x∈l,dpt x≤K)→Jf5 l≤K
 | [],_=>QR _
 | x::l,h=>by rw[Jf5]; exact XO.2 ⟨h x (.head _),Jc3 fun y hy=>h y (.tail _ hy)⟩
theorem Jtu{α:Type}{e:K7 α}{K:Nat}(h:∀x∈e.ks,dpt x≤K):dpt e≤K+1:=by
 cases e with
 | mk a ks=>rw[dpt]; have:=Jc3 (l:=ks) h; omega
structure Qx{α:Type}(P:α→Prop)(l:List α):Prop where
 all:∀x∈l,P x
structure Bd(x:Qw):Prop where
 deep:∀d∈x.2.2.2.2.2.2,dpt d.2.1≤4096
open Go Gd Sz
theorem Q0m(m:List (Int×Int×Int×Int×Str×List Str×List Str×Bool×Bool))(x:Int) :
  ((Qg (k:=.int .i64) x m).getD (0,0,0,([]:Str),([]:List Str),([]:List Str),false,false)).2.2.2.2.1.length≤sz m∧((Qg (k:=.int .i64) x m).getD (0,0,0,([]:Str),([]:List Str),([]:List Str),false,false)).2.2.2.2.2.1.length≤sz m:=by
 have h:=Cm x ((0,0,0,([]:Str),([]:List Str),([]:List Str),false,false):Int×Int×Int×Str×List Str×List Str×Bool×Bool) m
 simp only[sz1,mx1,JU,ZH,ZT]at h ⊢
 omega
theorem Jc4(m:List (Int×Int×Int×Int×Bool×Bool×List Int))(x:Int) :
  ((Qg (k:=.int .i64) x m).getD (0,0,0,false,false,([]:List Int))).2.2.2.2.2.length≤sz m:=by
 have h:=Cm x ((0,0,0,false,false,([]:List Int)):Int×Int×Int×Bool×Bool×List Int) m
 simp only[sz1,mx1,JU,ZH,ZT]at h ⊢
 omega
theorem Q5p(m:List (Int×List Int))(x:Int):((Qg (k:=.int .i64) x m).getD ([]:List Int)).length≤sz m:=by
 have h:=Cm x ([]:List Int) m
 simp only[sz1,mx1,JU,ZH]at h ⊢
 omega
theorem Jov{V:Type}[Sz V]{K:Int}{x:Int}{v:V}{m:List (Int×V)}(h1:(sz m:Int)+1≤K)(h2:(sz v:Int)≤K):((sz (Yu (k:=.int .i64) x v m:List (Int×V)):Nat):Int)≤K:=by
 have:=Quc x v m
 omega
theorem Ie{α:Type}{l:List α}{i:Int}{x:α}(h0:0≤i)(h:l[i.toNat]?=some x):l.take i.toNat++[x]=l.take (i+1).toNat:=by
 have e:(i+1).toNat=i.toNat+1:=by omega
 rw[e,List.take_add_one,h]; rfl
theorem Rm{α:Type}{l:List α}{i:Int}(h:(l.length:Int)≤i):l.take i.toNat=l:=List.take_of_length_le (by omega)
instance (priority:=2000) wpSlcS {l:Str} {a b:Int}:WP (slc l a b) (fun R=>(0≤a∧a≤b∧b≤(List.length l:Int))∧∀s:Str,(List.length s:Int)=b - a→R s):=⟨fun R h=>by
 obtain⟨⟨h0,h1,h2⟩,hR⟩:=h
 refine⟨(l.drop a.toNat).take (b - a).toNat,?_,hR _ (by rw[List.length_take,List.length_drop]; omega)⟩
 unfold slc
 rw[if_pos ⟨h0,h1,h2⟩]⟩
def lpd(y:Int):Int:=if(y.tmod 4=0∧y.tmod 100≠0)∨y.tmod 400=0 then 1 else 0
def bef(y:Int):Int:=365*(y - 2000)+(if y>2000 then(y - 2001) / 4 - (y - 2001) / 100+(y - 2001) / 400+1 else 0)
theorem Qud(y:Int):0≤lpd y∧lpd y≤1:=by unfold lpd; split<;>omega
theorem Que(y:Int)(h:2000≤y):bef (y+1)=bef y+365+lpd y:=by
 unfold bef lpd
 rw[JV (by omega),JV (by omega),JV (by omega)]
 split<;>split<;>split<;>omega
theorem Quf(y:Int)(h:2000≤y):365*(y - 2000)≤bef y∧bef y≤366*(y - 2000):=by
 unfold bef
 split<;>omega
theorem Jll:bef 2400=146097:=by decide
def mon(y m:Int):Int:=if m=2 then 28+lpd y else if m=4∨m=6∨m=9∨m=11 then 30 else 31
def lft(y m:Int):Int:=if m=1 then 365+lpd y else if m=2 then 334+lpd y else if m=3 then 306 else if m=4 then 275 else if m=5 then 245 else if m=6 then 214 else if m=7 then 184 else if m=8 then 153 else if m=9 then 122 else if m=10 then 92 else if m=11 then 61 else if m=12 then 31 else 0
theorem Qmq(y m:Int)(h:1≤m∧m≤12):lft y m=mon y m+lft y (m+1):=by
 have hx:m=1∨m=2∨m=3∨m=4∨m=5∨m=6∨m=7∨m=8∨m=9∨m=10∨m=11∨m=12:=by omega
 rcases hx with rfl | rfl | rfl | rfl | rfl | rfl | rfl | rfl | rfl | rfl | rfl | rfl<;>simp[lft,mon]<;>omega
theorem Jc5(y:Int):lft y 1=365+lpd y:=by simp[lft]
theorem Q9t(y:Int):lft y 13=0:=by simp[lft]
theorem Qxx{W:Type}{key:Int}{v:W}{y:Int×W}:∀{m:List (Int×W)},y∈(Yu (k:=.int .i64) key v m:List (Int×W))→y=(key,v)∨y∈m
 | [],h=>by
  unfold Yu at h
  rcases QJ.1 h with h | h
  ·exact .inl h
  ·exact .inr h
 | x::m,h=>by
  unfold Yu at h
  cases hk:eqK (.int .i64) key x.1 with
  | true =>
   rw[hk]at h
   rcases QJ.1 h with h | h
   ·exact .inl h
   ·exact .inr (.tail _ h)
  | false =>
   rw[hk]at h
   rcases QJ.1 h with h | h
   ·exact .inr (h▸.head _)
   ·rcases Qxx h with h | h
    ·exact .inl h
    ·exact .inr (.tail _ h)
theorem Q5q{W:Type}{key:Int}{v:W}{y:Int×W}{m:List (Int×W)}(h:y∈(Jj (k:=.int .i64) key v m:List (Int×W))):y=(key,v)∨y∈m:=by
 unfold Jj at h
 cases hf:(Qg (k:=.int .i64) key m).isSome with
 | true=>rw[hf]at h; exact Qxx h
 | false=>rw[hf]at h; exact QJ.1 (Ea.mem_iff.1 h)
theorem Qxy{W:Type}{key:Int}:∀{m:List (Int×W)} {v:W},Qg (k:=.int .i64) key m=some v→∃p∈m,p.2=v
 | x::m,v,h=>by
  unfold Qg at h
  cases hk:eqK (.int .i64) key x.1 with
  | true=>rw[hk]at h; exact⟨x,.head _,Option.some.inj h⟩
  | false =>
   rw[hk]at h
   obtain⟨p,hp,e⟩:=Qxy h
   exact⟨p,.tail _ hp,e⟩
structure Qug(m:List (Int×Int))(n:Int):Prop where
 all:∀p∈m,0≤p.2∧p.2<n
theorem Qxz{n:Int}:Qug [] n:=⟨fun _ h=>absurd h JB⟩
theorem Qx0{m:List (Int×Int)}{n key v:Int}(h:Qug m n)(h0:0≤v)(h1:v<n):Qug (Jj (k:=.int .i64) key v m) n:=⟨fun p hp=>by
 rcases Q5q hp with e | hp
 ·rw[e]; exact⟨h0,h1⟩
 ·exact h.all p hp⟩
theorem Qx1{m:List (Int×Int)}{n key d:Int}(h:Qug m n)(hs:(Qg (k:=.int .i64) key m).isSome=true):0≤(Qg (k:=.int .i64) key m).getD d∧(Qg (k:=.int .i64) key m).getD d<n:=by
 cases e:Qg (k:=.int .i64) key m with
 | none=>rw[e]at hs; exact absurd hs (by decide)
 | some v =>
  obtain⟨p,hp,e2⟩:=Qxy e
  have:=h.all p hp
  rw[e2]at this; exact this
theorem Quh{W:Type}{key:Str}{v:W}:∀{m:List (Str×W)},Qg (k:=.str) key (Yu (k:=.str) key v m:List (Str×W))=some v
 | []=>by
  unfold Yu Qg
  rw[Qji]; rfl
 | x::m=>by
  unfold Yu
  cases hk:eqK .str key x.1 with
  | true=>show Qg (k:=.str) key ((key,v)::m:List (Str×W))=_; unfold Qg; rw[Qji]; rfl
  | false =>
   show Qg (k:=.str) key (x::(Yu (k:=.str) key v m:List (Str×W)))=_
   unfold Qg
   rw[hk]; exact Quh
theorem Y9{α:Type}{P:α→Prop}:Qx P []:=⟨fun _ h=>absurd h JB⟩
theorem Uw{α:Type}{P:α→Prop}{l m:List α}(h:Qx P l)(k:Qx P m):Qx P (l++m):=⟨fun x hx=>(QX.1 hx).elim (h.all x) (k.all x)⟩
theorem Wa{α:Type}{P:α→Prop}{x:α}(h:P x):Qx P [x]:=⟨fun y hy=>by rw[JH.1 hy]; exact h⟩
theorem Q5r{α:Type}{P:α→Prop}{x y:α}(h:P x)(k:P y):Qx P [x,y]:=⟨fun z hz=>by
 rcases QJ.1 hz with e | hz
 ·rw[e]; exact h
 ·rw[JH.1 hz]; exact k⟩
theorem allL_set{α:Type}{P:α→Prop}{l:List α}{i:Nat}{x:α}(h:Qx P l)(k:P x):Qx P (l.set i x):=⟨fun y hy=>(ZQ hy).elim (h.all y) (fun e=>e▸k)⟩
theorem Qh0{α:Type}{P Q:α→Prop}{l:List α}(h:Qx P l)(k:∀x,P x→Q x):Qx Q l:=⟨fun x hx=>k x (h.all x hx)⟩
structure Jvt(B:Int)(c:Int×Int×Int):Prop where
 side:0≤c.2.1∧c.2.1≤1
 time:0≤c.1∧c.1≤B
instance wpSortF {l:List (Int×Int×Int)}:WP (Qi7 (fun x:Int×Int×Int=>x.1) l) (fun R=>(l.length≤1099511627776∧Qx (Jvt 12622780800) l)∧∀r,r.length=l.length→(∀P:Int×Int×Int→Prop,Qx P l→Qx P r)→R r):=⟨fun R h=>by
 obtain⟨⟨h1,h2⟩,hR⟩:=h
 have hk:l.all (fun x=>kOk x.1)=true:=QP.2 fun x hx=>by
  have:=(h2.all x hx).time
  unfold kOk
  simp only[QQ,decide_eq_true_eq]
  omega
 have he:∃r,Qi7 (fun x:Int×Int×Int=>x.1) l=some r:=by
  unfold Qi7
  rw[hk]
  have:decide (l.length<4611686018427387904)=true:=decide_eq_true (by omega)
  rw[this]
  simp only[Bool.and_self,cond_true]
  cases Nat.ble l.length 12&&Q9d (fun x:Int×Int×Int=>x.1) l<;>exact⟨_,rfl⟩
 obtain⟨r,e⟩:=he
 have hp:=(Qtj _ e).1
 exact⟨r,e,hR r hp.length_eq (fun P hP=>⟨fun x hx=>hP.all x (hp.mem_iff.1 hx)⟩)⟩⟩
theorem Jlm{β:Type}{c:Prop}[Decidable c]{a:Option Bool}{f:Bool→Option β}{A:(Bool→Prop)→Prop}{B C:(β→Prop)→Prop}[ha:WP a A][hb:WP (f true) B][hc:WP (f false) C] :
  WP ((if c then some true else a).bind f) (fun R=>(c→B R)∧(¬ c→A fun b=>(b=true→B R)∧(b=false→C R))):=⟨fun R h=>by
 by_cases h0:c
 ·rw[if_pos h0]; exact hb.spec R (h.1 h0)
 ·rw[if_neg h0]
  obtain⟨r,e,hr⟩:=ha.spec _ (h.2 h0)
  rw[e]
  cases r with
  | true=>exact hb.spec R (hr.1 rfl)
  | false=>exact hc.spec R (hr.2 rfl)⟩
theorem Jtv{β:Type}{c:Prop}[Decidable c]{a:Option Bool}{f:Bool→Option β}{A:(Bool→Prop)→Prop}{B C:(β→Prop)→Prop}[ha:WP a A][hb:WP (f true) B][hc:WP (f false) C] :
  WP ((if c then a else some false).bind f) (fun R=>(c→A fun b=>(b=true→B R)∧(b=false→C R))∧(¬ c→C R)):=⟨fun R h=>by
 by_cases h0:c
 ·rw[if_pos h0]
  obtain⟨r,e,hr⟩:=ha.spec _ (h.1 h0)
  rw[e]
  cases r with
  | true=>exact hb.spec R (hr.1 rfl)
  | false=>exact hc.spec R (hr.2 rfl)
 ·rw[if_neg h0]; exact hc.spec R (h.2 h0)⟩
instance (priority:=900) wpfOpt {α γ:Type} {f:Option α→Option γ} {A:α→(γ→Prop)→Prop} {B:(γ→Prop)→Prop} [ha:WPf (fun a=>f (some a)) A] [hb:WP (f none) B]:WPf f (fun s R=>(∀a,s=some a→A a R)∧(s=none→B R)):=⟨fun s R k=>by
 cases s with
 | some a=>exact ha.spec a R (k.1 a rfl)
 | none=>exact hb.spec R (k.2 rfl)⟩
theorem Jf6{α:Type}{o:Option α}(h:o=none):isNone o=true:=by rw[h]; rfl
theorem Jln{W:Type}{key:Str}{v:W}{m:List (Str×W)}{C:Prop}(h:Qg (k:=.str) key (Yu (k:=.str) key v m:List (Str×W))=none):C:=by
 rw[Quh]at h; exact absurd h (by simp)
instance wpSortZ {l:List Int}:WP (Jp3 l) (fun R=>l.length≤1099511627776∧∀r,r.length=l.length→R r):=⟨fun R h=>by
 refine⟨Qc3 l,?_,h.2 _ (A1 l).length_eq⟩
 unfold Jp3
 rw[decide_eq_true (by omega)]; rfl⟩
instance wpCompactZ {l:List Int}:WP (Q4q l) (fun R=>l.length≤1099511627776∧∀r,r.length≤l.length→R r):=⟨fun R h=>by
 refine⟨Lib.compact l,?_,h.2 _ (Lib.compact_length_le l)⟩
 unfold Q4q
 rw[decide_eq_true (by omega)]; rfl⟩
instance wpFiltZ {p:Int→Bool} {l:List Int}:WP (Jjw p l) (fun R=>l.length≤1099511627776∧∀r,r.length≤l.length→R r):=⟨fun R h=>by
 refine⟨l.filter fun x=>!p x,?_,h.2 _ (ZC _ _)⟩
 unfold Jjw
 rw[decide_eq_true (by omega)]; rfl⟩
def Q5s(K:Int):List Int→Prop
 | []=>True
 | a::l=>(0≤a∧a≤K)∧Q5s K l
theorem Q5t{K:Int}:∀{l:List Int},(∀y∈l,0≤y∧y≤K)→Q5s K l
 | [],_=>True.intro
 | a::l,h=>⟨h a (.head _),Q5t fun y hy=>h y (.tail _ hy)⟩
structure Qoh(s:Int×Int×Int):Prop where
 upto:0≤s.1∧s.1≤1099511627776
 inc:1≤s.2.1∧s.2.1≤1099511627776
 price:0≤s.2.2∧s.2.2≤1125899906842624
theorem Jf7{s:Int×Int×Int}(h1:Q5s 1099511627776 [s.1,s.2.1])(h2:s.2.1≠0)(h3:Q5s 1125899906842624 [s.2.2]):Qoh s:=⟨h1.1,⟨by have:=h1.2.1; omega,h1.2.1.2⟩,h3.1⟩
theorem Jlo(v a i:Int)(h1:1≤i)(h2:i≤1099511627776)(h3:a<v)(h4:0≤a)(h5:v≤2199023255552):IntKind.wrap .i64 (Int.tdiv (IntKind.wrap .i64 (IntKind.wrap .i64 (IntKind.wrap .i64 (v - a)+i) - 1)) i)≠0:=by
 rw[Q4 (n:=v - a) (by omega) (by omega),Q4 (n:=v - a+i) (by omega) (by omega),Q4 (n:=v - a+i - 1) (by omega) (by omega),QO (by omega)]
 have h6:1≤(v - a+i - 1) / i:=by
  rw[Int.le_ediv_iff_mul_le (by omega)]; omega
 have h7:(v - a+i - 1) / i≤v - a+i - 1:=Int.ediv_le_self _ (by omega)
 rw[Q4 (by omega) (by omega)]; omega
theorem Jvu{v a i:Int}(h:IntKind.wrap .i64 (Int.tdiv (IntKind.wrap .i64 (IntKind.wrap .i64 (IntKind.wrap .i64 (v - a)+i) - 1)) i)=0)(h1:1≤i∧i≤1099511627776)(h3:¬ v≤a)(h4:0≤a)(h5:v≤2199023255552):False:=Jlo v a i h1.1 h1.2 (by omega) h4 h5 h
structure Jwl(b:Qt):Prop where
 ev:b.1.length≤32
 tarL:sz b.2.1≤4096
 tarS:Sh.sh b.2.1
 tarO:Qx Bd b.2.1
 prodL:b.2.2.1.length≤32
 prodS:sz b.2.2.1≤4096
 prodO:Qx (fun p:Qn=>p.2.2.2.2.2.length≤32) b.2.2.1
 hol:b.2.2.2.2.1.length≤4096
theorem Q9u(y m:Int):28≤mon y m∧mon y m≤31:=by
 have:=Qud y
 unfold mon
 split
 ·omega
 ·split<;>omega
theorem Jlp(y m:Int)(h:1≤m∧m≤13):0≤lft y m∧lft y m≤366:=by
 have:=Qud y
 have hx:m=1∨m=2∨m=3∨m=4∨m=5∨m=6∨m=7∨m=8∨m=9∨m=10∨m=11∨m=12∨m=13:=by omega
 rcases hx with rfl | rfl | rfl | rfl | rfl | rfl | rfl | rfl | rfl | rfl | rfl | rfl | rfl<;>simp[lft]<;>omega
def em(M:Int):Int:=bef (2000+M / 12)+(365+lpd (2000+M / 12) - lft (2000+M / 12) (M % 12+1))
theorem Jvv{y m:Int}(h:1≤m∧m≤12):em (12*(y - 2000)+m - 1)=bef y+(365+lpd y - lft y m):=by
 unfold em
 have e1:2000+(12*(y - 2000)+m - 1) / 12=y:=by omega
 have e2:(12*(y - 2000)+m - 1) % 12+1=m:=by omega
 rw[e1,e2]
theorem Qq7{M:Int}(h:0≤M):em M+28≤em (M+1)∧em (M+1)≤em M+31:=by
 have h0:=Q9u (2000+M / 12) (M % 12+1)
 have h1:=Qmq (2000+M / 12) (M % 12+1) (by omega)
 unfold em
 by_cases hc:M % 12=11
 ·have e1:2000+(M+1) / 12=2000+M / 12+1:=by omega
  have e2:(M+1) % 12=0:=by omega
  have h2:=Que (2000+M / 12) (by omega)
  have h3:=Jc5 (2000+M / 12+1)
  have h4:=Q9t (2000+M / 12)
  rw[hc]at h0 h1 ⊢
  rw[e1,e2,h2]
  simp only[Int.zero_add]at *
  rw[h3]
  have e5:(11:Int)+1+1=13:=by decide
  rw[e5,h4]at h1
  omega
 ·have e1:(M+1) / 12=M / 12:=by omega
  have e2:(M+1) % 12+1=M % 12+1+1:=by omega
  rw[e1,e2]
  omega
theorem Jc6{a:Int}(h0:0≤a):∀k:Nat,em a+28*k≤em (a+k)∧em (a+k)≤em a+31*k
 | 0=>by simp
 | k+1=>by
  have ih:=Jc6 h0 k
  have:=Qq7 (M:=a+k) (by omega)
  have e:a+((k+1:Nat):Int)=a+k+1:=by omega
  rw[e]; omega
theorem Jlq{a b:Int}(h0:0≤a)(h:a≤b):em a+28*(b - a)≤em b∧em b≤em a+31*(b - a):=by
 have:=Jc6 h0 (b - a).toNat
 have e:a+((b - a).toNat:Int)=b:=by omega
 rw[e]at this; omega
theorem Jvw:em 0=0:=by decide
theorem Jc7:em 4800=146097:=by decide
structure Qpp(a x r:Int):Prop where
 lo : -1≤r
 hi:r≤4799
 le:0≤r→em r+a - 1≤x / 86400
 lt:r<4799→x / 86400<em (r+1)+a - 1
theorem Jlr{y m d x a:Int}(hy:2000≤y∧y≤2399)(hm:1≤m∧m≤12)(hd:1≤d∧d≤mon y m)(hx:x / 86400=bef y+(365+lpd y - lft y m)+d - 1)(ha:1≤a∧a≤28) :
  (d<a→Qpp a x (12*(y - 2000)+m - 1 - 1))∧(¬ d<a→Qpp a x (12*(y - 2000)+m - 1)):=by
 have he:=Jvv (y:=y) (m:=m) hm
 obtain⟨M,hM⟩:∃M,M=12*(y - 2000)+m - 1:=⟨_,rfl⟩
 rw[←hM]at he ⊢
 have h0:0≤M∧M≤4799:=by omega
 refine⟨fun hc=>⟨by omega,by omega,fun h=>?_,fun h=>?_⟩,fun hc=>⟨by omega,by omega,fun h=>by omega,fun h=>?_⟩⟩
 ·have:=Qq7 (M:=M - 1) (by omega)
  have e:M - 1+1=M:=by omega
  rw[e]at this; omega
 ·have e:M - 1+1=M:=by omega
  rw[e]; omega
 ·have h1:em (M+1)=em M+mon y m:=by
   have h1:=Qmq y m hm
   have ey:y=2000+M / 12:=by omega
   have em':m=M % 12+1:=by omega
   unfold em
   by_cases hc:M % 12=11
   ·have e1:2000+(M+1) / 12=y+1:=by omega
    have e2:(M+1) % 12=0:=by omega
    have h2:=Que y (by omega)
    have h3:=Jc5 (y+1)
    have h4:=Q9t y
    have e5:m=12:=by omega
    rw[←em',←ey,e1,e2,h2]
    simp only[Int.zero_add]at *
    rw[h3]
    rw[e5]at h1 ⊢
    have e6:(12:Int)+1=13:=by decide
    rw[e6,h4]at h1
    omega
   ·have e1:2000+(M+1) / 12=y:=by omega
    have e2:(M+1) % 12+1=m+1:=by omega
    rw[←em',←ey,e1,e2]
    omega
  omega
def bgn(a M:Int):Int:=if M=4800 then 12622780800 else 86400*(em M+a - 1)
structure Jsc(a v:Int)(p:Int×Int):Prop where
 fr:p.1=if v<0 then 0 else bgn a v
 to_:p.2=bgn a (v+1)
theorem Qui{a M:Int}(ha:1≤a∧a≤28)(h0:0≤M)(h1:M≤4799):bgn a M<bgn a (M+1)∧bgn a (M+1)≤bgn a M+2678400:=by
 have h:=Qq7 h0
 unfold bgn
 by_cases hc:M=4799
 ·subst hc
  have:=Jc7
  rw[if_neg (by decide),if_pos (by decide)]
  have e:(4799:Int)+1=4800:=by decide
  rw[e]at h
  omega
 ·rw[if_neg (by omega),if_neg (by omega)]
  omega
theorem Q0n{a M K:Int}(ha:1≤a∧a≤28)(h0:0≤M)(h:M≤K)(h1:K≤4800):bgn a M≤bgn a K:=by
 have e:=Jlq h0 h
 unfold bgn
 by_cases hc:K=4800
 ·subst hc
  have:=Jc7
  split
  ·exact JT _
  ·have:=Qq7 h0
   have h2:=Jlq (a:=M+1) (b:=4800) (by omega) (by omega)
   rw[if_pos rfl]; omega
 ·rw[if_neg (by omega),if_neg hc]; omega
structure Jf8(lo hi:Int)(p:Int×Int):Prop where
 fr:lo - 2678400≤p.1
 to_:p.2≤hi+2678400
theorem Jls{a v x y m n:Int}{p:Int×Int}(ha:1≤a∧a≤28)(hx:0≤x)(hxy:x<y)(hy:y≤12622780800)(hp:Jsc a v p)(hm:Qpp a x m)(hn:Qpp a (y - 1) n)(h1:m≤v)(h2:v≤n):Jf8 x y p:=by
 have hlo:=hm.lo; have hhi:=hn.hi
 refine⟨?_,?_⟩
 ·rw[hp.fr]
  split
  ·rename_i hv
   have hlt:=hm.lt (by omega)
   have e:m+1=0:=by omega
   rw[e,Jvw]at hlt
   omega
  ·have h3:x<bgn a (m+1)∨m=4799:=by
    by_cases hc:m<4799
    ·left
     have hlt:=hm.lt hc
     unfold bgn; rw[if_neg (by omega)]; omega
    ·right; have:=hm.hi; omega
   rcases h3 with h3 | h3
   ·by_cases hc:m<0
    ·have:=Q0n ha (M:=m+1) (K:=v) (by omega) (by omega) (by omega)
     omega
    ·have h4:=Qui ha (M:=m) (by omega) (by have:=hm.hi; omega)
     have h5:=Q0n ha (M:=m) (K:=v) (by omega) h1 (by omega)
     omega
   ·have h5:=Q0n ha (M:=m) (K:=v) (by omega) h1 (by omega)
    have h6:=hm.le (by omega)
    have h7:=Qui ha (M:=m) (by omega) (by omega)
    have h8:bgn a (m+1)=12622780800:=by unfold bgn; rw[h3]; rfl
    omega
 ·rw[hp.to_]
  by_cases hc:v<0
  ·have e:v+1=0:=by omega
   rw[e]
   have e0:bgn a 0=86400*(a - 1):=by unfold bgn; rw[if_neg (by decide),Jvw]; omega
   omega
  ·have h4:=Qui ha (M:=v) (by omega) (by omega)
   have h5:=Q0n ha (M:=v) (K:=n) (by omega) h2 (by omega)
   have h6:=hn.le (by omega)
   have h7:bgn a n≤y - 1:=by unfold bgn; rw[if_neg (by omega)]; omega
   omega
theorem Jlt{a x y m n:Int}(ha:1≤a∧a≤28)(hx:0≤x)(hxy:x<y)(hy:y≤12622780800)(hm:Qpp a x m)(hn:Qpp a (y - 1) n)(h:m≤n):n - m≤(y - x) / 2419200+2:=by
 have hlo:=hm.lo; have hhi:=hn.hi
 by_cases hc:m<n
 ·have h1:=hm.lt (by omega)
  have h2:=hn.le (by omega)
  have h3:=Jlq (a:=m+1) (b:=n) (by omega) (by omega)
  omega
 ·omega
class Vf where
 lo:Int
 hi:Int
 ge:0≤hi
 le:hi≤12622780801
 ok:hi - lo≤69206400
structure Aft[Vf](t:Int):Prop where
 c:Vf.lo≤t
abbrev Nr[Vf]:Int×Int→Prop:=Jf8 Vf.lo Vf.hi
structure Qit[Vf](c:Int×Int×Int):Prop where
 side:0≤c.2.1∧c.2.1≤1
 time:Vf.lo - 2678400≤c.1∧c.1≤Vf.hi+2678400
 all:0≤c.1∧c.1≤12622780800
theorem Zg{α:Type}{P:α→Prop}{l:List α}{x:α}(hx:x∈l)(h:Qx P l):P x:=h.all x hx
theorem Q5u{α:Type}{P:α→Prop}{l m:List α}(h:Qx P m)(k:∀x∈l,x∈m):Qx P l:=⟨fun x hx=>h.all x (k x hx)⟩
theorem Jow[Vf]{x y:Int}{l:List (Int×Int)}(h:Qx (Jf8 x y) l)(h1:Vf.lo≤x)(h2:y≤Vf.hi):Qx Nr l:=Qh0 h fun p hp=>⟨by have:=hp.fr; omega,by have:=hp.to_; omega⟩
theorem Jc8[Vf]{p:Int×Int}{k d:Int}{b:Bool}(h:Nr p)(v:b=true→0≤p.1∧p.1<p.2∧p.2≤12622780800)(hb:b=true)(h0:0≤k)(h1:k≤1):Qit (p.1,k,d)∧Qit (p.2,k,d):=by
 have a:=h.fr; have b:=h.to_; have v:=v hb
 exact⟨⟨⟨h0,h1⟩,⟨a,by simp only; omega⟩,by simp only; omega⟩,⟨⟨h0,h1⟩,⟨by simp only; omega,b⟩,by simp only; omega⟩⟩
theorem Jox[Vf]{c:Int×Int×Int}(h:Qit c):Nr (c.1,0):=⟨h.time.1,by have:=Vf.ge; simp only; omega⟩
theorem Joy[Vf]{p:Int×Int}{c:Int×Int×Int}(h:Nr p)(k:Qit c):Nr (p.1,c.1):=⟨h.fr,k.time.2⟩
theorem Jtw[Vf]{p:Int×Int}(h:Nr p):p.2 - p.1≤74563200:=by have:=h.fr; have:=h.to_; have:=Vf.ok; omega
instance wpCloneF {α:Type} {b:Nat} {l:List α}:WP (Ju b l) (fun R=>l.length*b≤140737488355328∧R l):=⟨fun R h=>⟨l,by
 unfold Ju app
 rw[if_pos (by simpa using h.1)]; rfl,h.2⟩⟩
instance wpCloneR {α:Type} {b:Nat} {l:List α}:WP (Qz7 b l) (fun R=>l.length*b≤140737488355328∧R (l,l)):=⟨fun R h=>⟨(l,l),by
 unfold Qz7 app
 rw[if_pos (by simpa using h.1)]; rfl,h.2⟩⟩
theorem Fo{α:Type}{l:List α}{i:Nat}{x y:α}(h:l[i]?=some x)(e:y=x):l.set i y=l:=by
 subst e
 exact JD fun j=>by
  rw[List.getElem?_set]
  split
  ·rename_i hj; subst hj
   have:=(List.getElem?_eq_some_iff.1 h).1
   rw[if_pos this,h]
  ·rfl
theorem Qd0{l:List Qb}{i:Nat}{x y:Qb}(hx:l[i]?=some x)(hy:l[i]?=some y):l.set i (y.1,y.2.1,y.2.2.1,y.2.2.2.1,y.2.2.2.2.1,x.2.2.2.2.2.1,y.2.2.2.2.2.2.1,y.2.2.2.2.2.2.2.1,y.2.2.2.2.2.2.2.2.1,y.2.2.2.2.2.2.2.2.2.1,y.2.2.2.2.2.2.2.2.2.2)=l:=by
 rw[hx]at hy
 rw[←Option.some.inj hy]
 exact Fo hx rfl
theorem Joz(n:Int):IntKind.wrap .i64 n≤9223372036854775807:=by
 rw[Jee]; split<;>omega
structure L3(b:Qt):Prop where
 ev:b.1.length≤40
 tarL:sz b.2.1≤4096
 tarS:Sh.sh b.2.1
 tarO:Qx Bd b.2.1
 prodL:b.2.2.1.length≤40
 prodS:sz b.2.2.1≤4096
 prodO:Qx (fun p:Qn=>p.2.2.2.2.2.length≤40) b.2.2.1
 hol:b.2.2.2.2.1.length≤4096
set_option linter.defProp false
set_option maxRecDepth 100000
set_option maxHeartbeats 4000000
set_option synthInstance.maxSize 100000
set_option synthInstance.maxHeartbeats 1000000
variable {N:Nat} [Fn N]
@[reducible,instance] def Q7b{x0 x1}{s}:=upL (N:=N) (s:=s) (Sq.eq_def N x0 x1) (fun t=>t) x0.length (fun t=>sz x0≤9223372036854775807) (fun r:((Int))=>0≤r∧r≤x0.length)
@[reducible,instance] def Jf9{x0 x1}:=mkW (Pg.eq_1 N x0 x1) (sz x0≤1099511627776) (fun r=>sz r≤sz x0+1)
@[reducible,instance] def Q0o{x0 x1}{s}:=upL (N:=N) (s:=s) (Lh.eq_def N x0 x1) (fun t=>t.1) x0.length (fun t=>sz x0≤1099511627776∧t.2.length≤t.1∧sz t.2≤(sz x0)) (fun r:(((List Str)))=>sz r≤(sz x0))
@[reducible,instance] def Q7c{x0 x1}:=mkW (B2.eq_1 N x0 x1) (sz x0≤1099511627776) (fun r=>sz r≤(sz x0))
@[reducible,instance] def Jga{x0 x1}:=mkW (Ph.eq_1 N x0 x1) (sz x0≤1099511627776) (fun r=>r.2.2.2.2.1.length≤x0.2.2.2.2.1.length+1∧r.2.2.2.2.2.1.length≤x0.2.2.2.2.2.1.length+1)
@[reducible,instance] def Q0p[Vf]{x0 x1}{s}:=upL (N:=N) (s:=s) (Li.eq_def N x0 x1) (fun t=>t.1) x0.length (fun t=>x0.length≤40∧t.2.1.length≤t.1∧sz t.2.1≤t.1∧sz t.2.2≤t.1∧Qx (fun m:Qm=>Aft m.1) x0∧Qx (fun m:Qo=>Aft m.1) t.2.1) (fun r:(((List Qo)))=>sz r≤40∧Qx (fun m:Qo=>Aft m.1) r) (step:=by
  intro s h h0 h1 h2 hw
  have g0:=h.2.2.2.2.1; have g1:=h.2.2.2.2.2; have g2:=(show 0<s.2.1.length→s.2.1.length≤40→IntKind.wrap .i64 ((s.2.1.length:Int) - 1)=(s.2.1.length:Int) - 1 from fun a b=>Q4 (by omega) (by omega))
  try simp only[sS,reduceCtorEq]at *
  repeat' (first | intro _ | apply And.intro)
  all_goals first | omega | (rw[g2 (by omega) (by omega)]; omega) | ((with_reducible refine allL_set g1 ?_); dsimp only; exact Zg (P:=fun m:Qo=>Aft m.1) (by assumption) g1) | (refine Qdy ?_ ?_<;>(try simp only[sz1,mx1])<;>(rw[hw (by omega)]; omega)) | ((with_reducible refine Uw g1 (Wa ?_)); exact Zg (P:=fun m:Qm=>Aft m.1) (by assumption) g0) | exact lv)
@[reducible,instance] def Q7d[Vf]{x0 x1}:=mkW (B3.eq_1 N x0 x1) (x0.length≤40∧Qx (fun m:Qm=>Aft m.1) x0) (fun r=>sz r≤40∧Qx (fun m:Qo=>Aft m.1) r) (k:=by
  intro h
  try simp only[sS,reduceCtorEq]at *
  repeat' (first | intro _ | apply And.intro)
  all_goals first | ((repeat cases ‹_∧_›); first | assumption | exact Y9) | exact lv)
@[reducible,instance] def Q5v{x0 x1}{s}:=upL (N:=N) (s:=s) (Pi.eq_def N x0 x1) (fun t=>t) x0.2.2.2.2.2.1.length (fun t=>sz x0≤9223372036854775807∧sz x1≤9223372036854775807∧x0.2.2.2.2.2.1.length=x1.2.2.2.2.2.1.length) (fun r:((Unit)⊕(Bool))=>True)
@[reducible,instance] def Jc9{x0 x1}:=mkW (Me.eq_1 N x0 x1) (sz x0≤9223372036854775807∧sz x1≤9223372036854775807) (fun r=>True)
@[reducible,instance] def Q5w{x0 x1}:=mkW (Am.eq_1 N x0 x1) (sz x0≤9223372036854775807∧sz x1≤9223372036854775807) (fun r=>True)
@[reducible,instance] def Q5x{x0 x1}:=mkW (Ao.eq_1 N x0 x1) (True) (fun r=>r=x0)
@[reducible,instance] def Qhf[Vf]{x0}{s}:=upL (N:=N) (s:=s) (U6.eq_def N x0) (fun t=>t.1) x0.length (fun t=>sz x0≤40∧t.2.length≤t.1∧sz t.2≤40∧Qx (fun m:Qo=>Aft m.1) x0∧Qx (fun m:Qo=>Aft m.1) t.2∧x0.length≤40) (fun r:(((List Qo)))=>sz r≤40∧Qx (fun m:Qo=>Aft m.1) r) (step:=by
  intro s h h0 h1 h2 hw
  try simp only[sS,reduceCtorEq]at *
  repeat' (first | intro _ | apply And.intro)
  all_goals first | ((repeat cases ‹_∧_›); first | assumption | exact allL_set (by assumption) (Zg (P:=fun m:Qo=>Aft m.1) (by assumption) (by assumption)) | exact Uw (by assumption) (Wa (Zg (P:=fun m:Qo=>Aft m.1) (by assumption) (by assumption)))) | exact lv)
@[reducible,instance] def Qjj[Vf]{x0}:=mkW (Vy.eq_1 N x0) (sz x0≤40∧Qx (fun m:Qo=>Aft m.1) x0) (fun r=>sz r≤40∧Qx (fun m:Qo=>Aft m.1) r) (k:=by
  intro h
  try simp only[sS,reduceCtorEq]at *
  repeat' (first | intro _ | apply And.intro)
  all_goals first | ((repeat cases ‹_∧_›); first | assumption | exact Y9) | exact lv)
@[reducible,instance] def Q1p[Vf]{r2}{s}:=upL (N:=N) (s:=s) (Nc.eq_def N r2) (fun t=>t.1) r2.length (fun t=>sz r2≤40∧t.2.length≤t.1∧sz t.2≤40∧Qx (fun m:Qo=>Aft m.1) r2∧Qx (fun m:Vw=>Aft m.1.1) t.2∧r2.length≤40) (fun r:(((List Vw)))=>sz r≤40∧Qx (fun m:Vw=>Aft m.1.1) r) (step:=by
  intro s h h0 h1 h2 hw
  try simp only[sS,reduceCtorEq]at *
  repeat' (first | intro _ | apply And.intro)
  all_goals first | ((repeat cases ‹_∧_›); first | assumption | exact Uw (by assumption) (Wa (Zg (P:=fun m:Qo=>Aft m.1) (by assumption) (by assumption)))) | exact lv)
@[reducible,instance] def Q9v[Vf]{x0 x1}:=mkW (Ei.eq_1 N x0 x1) (x0.length≤40∧Qx (fun m:Qm=>Aft m.1) x0) (fun r=>sz r≤40∧Qx (fun m:Vw=>Aft m.1.1) r) (k:=by
  intro h
  try simp only[sS,reduceCtorEq]at *
  repeat' (first | intro _ | apply And.intro)
  all_goals first | ((repeat cases ‹_∧_›); first | assumption | exact Y9) | exact lv)
@[reducible,instance] def Jgb{x0}:=mkW (Zz.eq_1 N x0) (True) (fun r=>r=true→0≤x0.1∧x0.1<x0.2∧x0.2≤12622780800)
@[reducible,instance] def Q7e{x0 x1}:=mkW (G2.eq_1 N x0 x1) (True) (fun r=>True)
@[reducible,instance] def Jda{r1 x2}{s}:=upL (N:=N) (s:=s) (Qeb.eq_def N r1 x2) (fun t=>t.1) r1.length (fun t=>sz r1≤9223372036854775807∧r1.length≤9223372036854775807) (fun r:((Qe×Str×Bool×Bool)⊕(Bool×Vw))=>sz r≤(sz r1))
@[reducible,instance] def Jlu[Vf]{x0 x1 x2}:=mkW (Ej.eq_1 N x0 x1 x2) (x0.length≤40∧Qx (fun m:Qm=>Aft m.1) x0) (fun r=>sz r≤40) (k:=by
  intro h
  try simp only[sS,reduceCtorEq]at *
  repeat' (first | intro _ | apply And.intro)
  all_goals first | ((repeat cases ‹_∧_›); first | assumption) | exact lv)
@[reducible,instance] def Jdb{x0:Int}:WP (Kt N x0) (fun R=>(2000≤x0∧x0≤2400)∧∀r:Int,r=bef x0→R r):=Qhc fun h=>by
 obtain⟨h0,h1⟩:=h
 have e1:IntKind.wrap .i64 (x0 - 2000)=x0 - 2000:=Q4 (by omega) (by omega)
 have e2:IntKind.wrap .i64 (365*(x0 - 2000))=365*(x0 - 2000):=Q4 (by omega) (by omega)
 rw[Kt.eq_1,e1,e2]
 by_cases hc:x0 - 2000>0
 ·have e3:IntKind.wrap .i64 (x0 - 2000 - 1)=x0 - 2001:=by rw[Q4 (by omega) (by omega)]; omega
  rw[if_pos (by simpa using hc),e3,QO (by omega),QO (by omega),QO (by omega)]
  refine⟨_,rfl,?_⟩
  simp (disch:=omega) only [Q4]
  unfold bef
  rw[if_pos (by omega)]
  try omega
 ·rw[if_neg (by simpa using hc)]
  refine⟨_,rfl,?_⟩
  unfold bef
  rw[if_neg (by omega)]
  try omega
@[reducible,instance] def Qqn{x0:Int}:WP (T3 N x0) (fun R=>True∧∀r:Bool,lpd x0=(if r=true then 1 else 0)→R r):=Qhc fun h=>by
 refine⟨_,rfl,?_⟩
 unfold lpd
 simp only[JL,QQ,beq_iff_eq,bne_iff_ne,ne_eq]
@[reducible,instance] def Jg7{x0 x1:Int}:WP (Xc N x0 x1) (fun R=>(1≤x1∧x1≤12)∧∀r:Int,((28≤r∧r≤31)∧r=mon x0 x1)→R r):=Qhc fun h=>by
 have hx:x1=1∨x1=2∨x1=3∨x1=4∨x1=5∨x1=6∨x1=7∨x1=8∨x1=9∨x1=10∨x1=11∨x1=12:=by omega
 unfold mon
 rcases hx with rfl | rfl | rfl | rfl | rfl | rfl | rfl | rfl | rfl | rfl | rfl | rfl
 case inr.inl =>
  obtain⟨b,e,hb⟩:=(Qqn (N:=N) (x0:=x0)).spec (fun b=>lpd x0=(if b=true then 1 else 0)) ⟨trivial,fun _ h=>h⟩
  rw[Xc.eq_1,e]
  cases b
  ·exact⟨28,rfl,by simp at hb; rw[hb]; decide⟩
  ·exact⟨29,rfl,by simp at hb; rw[hb]; decide⟩
 all_goals exact⟨_,rfl,by simp⟩
@[reducible,instance] def Q9w{x0}{s}:=mkL (N:=N) (s:=s) (Qbp.eq_def N x0) (fun t=>(2400 - t.1).toNat) (fun t=>x0<146097∧2000≤t.1∧t.1≤2399∧bef t.1≤x0∧t.2.1=1∧t.2.2=0) (fun r:((Bs))=>2000≤r.1∧r.1≤2399∧bef r.1≤x0∧x0<bef r.1+365+lpd r.1∧r.2.1=1) (step:=by
  intro s h
  have g0:=Que s.1; have g1:=Jll; have g2:=(show 2000≤s.1∧s.1≤2399→IntKind.wrap .i64 (s.1+1)=s.1+1 from fun a=>Q4 (by omega) (by omega))
  try simp only[sS,reduceCtorEq]at *
  repeat' (first | intro _ | apply And.intro)
  all_goals first | exact lv)
@[reducible,instance] def Q9x{s}:=mkL (N:=N) (s:=s) (Qbq.eq_def N) (fun t=>(13 - t.2.2.1).toNat) (fun t=>0≤t.1∧t.1≤366∧1≤t.2.2.1∧t.2.2.1≤12∧2000≤t.2.1∧t.2.1≤2399∧t.1<lft t.2.1 t.2.2.1∧t.2.1=s.2.1∧s.1 - lft s.2.1 s.2.2.1=t.1 - lft t.2.1 t.2.2.1) (fun r:((Int×Bs))=>0≤r.1∧r.1≤366∧2000≤r.2.1∧r.2.1≤2399∧1≤r.2.2.1∧r.2.2.1≤12∧r.2.1=s.2.1∧r.1 - lft r.2.1 r.2.2.1=s.1 - lft s.2.1 s.2.2.1∧r.1<mon r.2.1 r.2.2.1) (step:=by
  intro s h
  have g0:=Qud s.2.1; have g1:=Qmq s.2.1 s.2.2.1; have g2:=Q9t s.2.1; have g3:=(show 1≤s.2.2.1∧s.2.2.1≤12→IntKind.wrap .i64 (s.2.2.1+1)=s.2.2.1+1 from fun a=>Q4 (by omega) (by omega)); have g4:=(show ∀d:Int,0≤s.1∧s.1≤366→28≤d∧d≤31→IntKind.wrap .i64 (s.1 - d)=s.1 - d from fun d a b=>Q4 (by omega) (by omega))
  try simp only[sS,reduceCtorEq]at *
  repeat' (first | intro _ | apply And.intro)
  all_goals first | exact lv)
@[reducible,instance] def Qqo{x0}:=mkW (T4.eq_1 N x0) (0≤x0∧x0<146097) (fun r=>(2000≤r.1∧r.1≤2399)∧(1≤r.2.1∧r.2.1≤12)∧(1≤r.2.2∧r.2.2≤mon r.1 r.2.1)∧x0=bef r.1+(365+lpd r.1 - lft r.1 r.2.1)+r.2.2 - 1) (k:=by
  intro h
  have g0:=Qud; have g1:=Quf; have g2:=Jc5; have g3:=(show 0≤x0∧x0<146097→IntKind.wrap .i64 (2000+IntKind.wrap .i64 (Int.tdiv x0 366))=2000+x0 / 366 from fun a=>by rw[QO (by omega),Q4 (n:=x0 / 366) (by omega) (by omega),Q4 (by omega) (by omega)]); have g4:=(show ∀y:Int,2000≤y→bef y≤x0→x0<146097→IntKind.wrap .i64 (x0 - bef y)=x0 - bef y from fun y a b c=>by have:=Quf y a; exact Q4 (by omega) (by omega)); have g5:=Q9u; have g6:=(show ∀d:Int,0≤d∧d≤366→IntKind.wrap .i64 (d+1)=d+1 from fun d a=>Q4 (by omega) (by omega))
  try simp only[sS,reduceCtorEq]at *
  repeat' (first | intro _ | apply And.intro)
  all_goals first | exact lv)
@[reducible,instance] def Qoi{x0 x1:Int}:WP (Ht N x0 x1) (fun R=>(0≤x1∧x1≤12622780799∧1≤x0∧x0≤28)∧∀r:Int,Qpp x0 x1 r→R r):=Qhc fun h=>by
 obtain⟨h0,h1,h2,h3⟩:=h
 have e:IntKind.wrap .i64 (Int.tdiv x1 86400)=x1 / 86400:=by rw[QO (by omega),Q4 (by omega) (by omega)]
 obtain⟨w,ew,q1,q2,q3,q4⟩:=(Qqo (N:=N) (x0:=x1 / 86400)).spec _ ⟨⟨by omega,by omega⟩,fun r h=>h⟩
 have k:=Jlr (y:=w.1) (m:=w.2.1) (d:=w.2.2) (x:=x1) (a:=x0) q1 q2 q3 q4 ⟨h2,h3⟩
 have e1:IntKind.wrap .i64 (w.1 - 2000)=w.1 - 2000:=Q4 (by omega) (by omega)
 have e2:IntKind.wrap .i64 (12*(w.1 - 2000))=12*(w.1 - 2000):=Q4 (by omega) (by omega)
 have e3:IntKind.wrap .i64 (12*(w.1 - 2000)+w.2.1)=12*(w.1 - 2000)+w.2.1:=Q4 (by omega) (by omega)
 have e4:IntKind.wrap .i64 (12*(w.1 - 2000)+w.2.1 - 1)=12*(w.1 - 2000)+w.2.1 - 1:=Q4 (by omega) (by omega)
 have e5:IntKind.wrap .i64 (12*(w.1 - 2000)+w.2.1 - 1 - 1)=12*(w.1 - 2000)+w.2.1 - 1 - 1:=Q4 (by omega) (by omega)
 rw[Ht.eq_1,e,ew,QU,e1,e2,e3,e4,e5]
 by_cases hc:w.2.2<x0
 ·rw[if_pos (by simpa using hc)]
  exact⟨_,rfl,k.1 hc⟩
 ·rw[if_neg (by simpa using hc)]
  exact⟨_,rfl,k.2 hc⟩
@[reducible,instance] def Jdc{x0 x1}:=mkW (Mh.eq_1 N x0 x1) (True) (fun r=>(r≠0→2000≤x0∧x0≤2399∧1≤x1∧x1≤12∧r≤31)∧(2000≤x0→x0≤2399→1≤x1→x1≤12→28≤r)∧(2399<x0→r=0))
@[reducible,instance] def Jdd{x0}{s}:=upI (N:=N) (s:=s) (Qei.eq_def N x0) (fun t=>t.2) (x0.2.1) (fun t=>1≤t.2∧t.2≤x0.2.1∧x0.2.1≤12∧0≤t.1∧t.1≤150000+31*t.2∧t.1=s.1+(lft x0.1 s.2 - lft x0.1 t.2)) (fun r:((Int))=>r=s.1+(lft x0.1 s.2 - lft x0.1 x0.2.1)) (step:=by
  intro s h h0 hw
  have g0:=Qmq x0.1 s.2; have g1:=Jlp x0.1 s.2; have g2:=Q9u x0.1 s.2; have g3:=(show ∀d:Int,0≤s.1→s.1≤200000→28≤d∧d≤31→IntKind.wrap .i64 (s.1+d)=s.1+d from fun d a b c=>Q4 (by omega) (by omega))
  try simp only[sS,reduceCtorEq]at *
  repeat' (first | intro _ | apply And.intro)
  all_goals first | exact lv)
attribute [local instance 1300] Jlm in
@[reducible,instance] def Quj{x0}:=mkW (Qda.eq_1 N x0) (True) (fun r=>(2000≤x0.1→x0.1≤2399→1≤x0.2.1→x0.2.1≤12→1≤x0.2.2→x0.2.2≤28→r.2=0∧r.1=bef x0.1+(365+lpd x0.1 - lft x0.1 x0.2.1)+x0.2.2 - 1)∧(x0.1=2400→1≤x0.2.2→r.2≠0)) (k:=by
  intro h
  have g0:=Quf; have g1:=(show 2000≤x0.1∧x0.1≤2399∧1≤x0.2.2∧x0.2.2≤31→IntKind.wrap .i64 (IntKind.wrap .i64 (bef x0.1+x0.2.2) - 1)=bef x0.1+x0.2.2 - 1 from fun a=>by have:=Quf x0.1 a.1; rw[Q4 (n:=bef x0.1+x0.2.2) (by omega) (by omega),Q4 (by omega) (by omega)]); have g2:=Jc5 x0.1
  try simp only[sS,reduceCtorEq]at *
  repeat' (first | intro _ | apply And.intro)
  all_goals first | exact lv)
@[reducible,instance] def Jgc{x0 x1:Int}:WP (Hu N x0 x1) (fun R=>((0≤x1∧x1≤4800)∧1≤x0∧x0≤28)∧∀r:Int,r=bgn x0 x1→R r):=Qhc fun h=>by
 obtain⟨⟨h0,h1⟩,h2,h3⟩:=h
 have e:IntKind.wrap .i64 (2000+IntKind.wrap .i64 (Int.tdiv x1 12))=2000+x1 / 12:=by rw[QO (by omega),Q4 (n:=x1 / 12) (by omega) (by omega),Q4 (by omega) (by omega)]
 have e2:IntKind.wrap .i64 (Int.tmod x1 12+1)=x1 % 12+1:=by rw[JV (by omega),Q4 (by omega) (by omega)]
 obtain⟨w,ew,q1,q2⟩:=(Quj (N:=N) (x0:=(2000+x1 / 12,x1 % 12+1,x0))).spec _ ⟨trivial,fun r h=>h⟩
 rw[Hu.eq_1,e,e2,ew,QU]
 unfold bgn
 by_cases hc:x1=4800
 ·subst hc
  rw[if_pos (by simpa using q2 rfl h2),if_pos rfl]; exact⟨_,rfl,rfl⟩
 ·have q:=q1 (by simp only; omega) (by simp only; omega) (by simp only; omega) (by simp only; omega) h2 h3
  have hb:=Quf (2000+x1 / 12) (by omega)
  have hl:=Jlp (2000+x1 / 12) (x1 % 12+1) (by omega)
  have hp:=Qud (2000+x1 / 12)
  simp only at q
  rw[if_neg (by simp[q.1]),if_neg hc]
  refine⟨_,rfl,?_⟩
  rw[q.2]
  unfold em
  rw[Q4 (by omega) (by omega)]
  omega
@[reducible,instance] def Jgd{x0 x1}:=mkW (Pp.eq_1 N x0 x1) (-1≤x1∧x1≤4799∧1≤x0∧x0≤28) (fun r=>Jsc x0 x1 r) (k:=by
  intro h
  have g0:=(show -1≤x1∧x1≤4799→IntKind.wrap .i64 (x1+1)=x1+1 from fun a=>Q4 (by omega) (by omega))
  try simp only[sS,reduceCtorEq]at *
  repeat' (first | intro _ | apply And.intro)
  all_goals first | (refine⟨?_,?_⟩<;>grind) | exact lv)
@[reducible] def Qhg{N:Nat}[Fn N]{x0 m:Int}{x1:Int×Int}(ha:1≤x0∧x0≤28)(hx:0≤x1.1∧x1.1<x1.2∧x1.2≤12622780800)(hm:Qpp x0 x1.1 m)(s:Int×List (Int×Int)) :=
 mkL (N:=N) (s:=s) (Pq.eq_def N x0 x1) (fun t=>(4801 - t.1).toNat) (fun t=>m≤t.1∧t.1≤4800∧(t.2.length:Int)=t.1 - m∧Qx (Jf8 x1.1 x1.2) t.2∧(t.2.length:Int)≤(x1.2 - x1.1) / 2419200+3) (fun r:List (Int×Int)=>(r.length:Int)≤(x1.2 - x1.1) / 2419200+3∧Qx (Jf8 x1.1 x1.2) r) (hμ:=fun t h=>by have:=hm.lo; have:=h.1; omega) (step:=by
  intro t h
  obtain⟨h1,h2,h3,h4,h5⟩:=h
  have e1:IntKind.wrap .i64 (x1.2 - 1)=x1.2 - 1:=Q4 (by omega) (by omega)
  have hlo:=hm.lo
  have e2:IntKind.wrap .i64 (t.1+1)=t.1+1:=Q4 (by omega) (by omega)
  rw[e1,e2]
  refine⟨⟨by omega,by omega,ha.1,ha.2⟩,fun n hn=>⟨fun hc=>?_,fun hc=>⟨h5,h4⟩⟩⟩
  have hc:=of_decide_eq_true hc
  have hh:=hn.hi
  have q:=Jlt ha hx.1 hx.2.1 hx.2.2 hm hn (by omega)
  refine⟨⟨by omega,by omega,ha.1,ha.2⟩,fun p hp=>⟨?_,?_⟩⟩
  ·rw[XE]; omega
  ·refine⟨⟨by simp only; omega,by simp only; omega,by simp only[List.length_append,XE]; omega,?_,by simp only[List.length_append,XE]; omega⟩,by simp only; omega⟩
   exact Uw h4 (Wa (Jls ha hx.1 hx.2.1 hx.2.2 hp hm hn h1 hc)))
@[reducible,instance] def Jde{x0:Int}{x1:Int×Int}:WP (Gg N x0 x1) (fun R=>True∧∀r:List (Int×Int),((r.length:Int)≤max 0 ((x1.2 - x1.1) / 2419200+3)∧r.length≤30000∧Qx (Jf8 x1.1 x1.2) r)→R r):=Qhc fun _=>by
 rw[Gg.eq_1]
 by_cases hc:(((((decide (x0<1))||(decide (x0>28)))||(decide (x1.1<0)))||(decide (x1.1≥x1.2)))||(decide (x1.2>12622780800)))=true
 ·rw[if_pos hc]
  exact⟨_,rfl,by simp only[JU]; omega,by simp,Y9⟩
 ·rw[if_neg hc]
  simp only[Bool.not_eq_true,JR,decide_eq_false_iff_not]at hc
  obtain⟨m,em,hm⟩:=(Qoi (N:=N) (x0:=x0) (x1:=x1.1)).spec _ ⟨⟨by omega,by omega,by omega,by omega⟩,fun r h=>h⟩
  have hlo:=hm.lo; have hhi:=hm.hi
  obtain⟨r,er,h1,h2⟩:=(Qhg (N:=N) (x0:=x0) (x1:=x1) ⟨by omega,by omega⟩ ⟨by omega,by omega,by omega⟩ hm (m,[])).spec _ ⟨⟨JT _,by simp only; omega,by simp,Y9,by simp only[JU]; omega⟩,fun r h=>h⟩
  rw[em,QU,er]
  exact⟨r,rfl,by omega,by omega,h2⟩
@[reducible,instance] def Qx2{x0 ce}{s}:=upL (N:=N) (s:=s) (C8.eq_def N x0 ce) (fun t=>t) x0.2.2.1.length (fun t=>sz x0≤40) (fun r:((Unit)⊕(Bool))=>True)
@[reducible,instance] def Q5y{x0 ce}:=mkW (Ap.eq_1 N x0 ce) (sz x0≤40) (fun r=>True)
@[reducible,instance] def Q5z{x0 x1}:=mkW (Aq.eq_1 N x0 x1) (True) (fun r=>True)
@[reducible,instance] def Q50{x0 x1}:=mkW (Ar.eq_1 N x0 x1) (True) (fun r=>r=(x0.1,x1.2))
@[reducible,instance] def Qmr[Vf]{x0}{s}:=upL (N:=N) (s:=s) (Xx.eq_def N x0) (fun t=>t.1) x0.length (fun t=>x0.length≤40∧t.2.length≤t.1∧Qx (fun m:Qe=>Aft m.1) x0∧Qx (fun m:Qe=>Aft m.1) t.2) (fun r:(((List Qe)))=>r.length≤40∧Qx (fun m:Qe=>Aft m.1) r) (step:=by
  intro s h h0 h1 h2 hw
  try simp only[sS,reduceCtorEq]at *
  repeat' (first | intro _ | apply And.intro)
  all_goals first | ((repeat cases ‹_∧_›); first | assumption | ((with_reducible refine allL_set (by assumption) ?_); dsimp only; exact Zg (P:=fun m:Qe=>Aft m.1) (by assumption) (by assumption)) | exact Uw (by assumption) (Wa (Zg (P:=fun m:Qe=>Aft m.1) (by assumption) (by assumption)))) | exact lv)
@[reducible,instance] def Qpq[Vf]{x0}:=mkW (Zc.eq_1 N x0) (x0.length≤40∧Qx (fun m:Qe=>Aft m.1) x0) (fun r=>r.length≤40∧Qx (fun m:Qe=>Aft m.1) r) (k:=by
  intro h
  try simp only[sS,reduceCtorEq]at *
  repeat' (first | intro _ | apply And.intro)
  all_goals first | ((repeat cases ‹_∧_›); first | assumption | exact Y9) | exact lv)
@[reducible,instance] def Q1q[Vf]{r1 ce}{s}:=upL (N:=N) (s:=s) (Nf.eq_def N r1 ce) (fun t=>t.1) r1.length (fun t=>sz r1≤40∧t.2.length≤t.1∧Qx (fun m:Vw=>Aft m.1.1) r1∧Qx (fun m:Qe=>Aft m.1) t.2∧r1.length≤40) (fun r:(((List Qe)))=>r.length≤40∧Qx (fun m:Qe=>Aft m.1) r) (step:=by
  intro s h h0 h1 h2 hw
  try simp only[sS,reduceCtorEq]at *
  repeat' (first | intro _ | apply And.intro)
  all_goals first | ((repeat cases ‹_∧_›); first | assumption | exact Uw (by assumption) (Wa (Zg (P:=fun m:Vw=>Aft m.1.1) (by assumption) (by assumption)))) | exact lv)
@[reducible,instance] def Q9y[Vf]{x0 x1 ce}:=mkW (D4.eq_1 N x0 x1 ce) (x0.length≤40∧Qx (fun m:Qm=>Aft m.1) x0) (fun r=>r.length≤40∧Qx (fun m:Qe=>Aft m.1) r) (k:=by
  intro h
  try simp only[sS,reduceCtorEq]at *
  repeat' (first | intro _ | apply And.intro)
  all_goals first | ((repeat cases ‹_∧_›); first | assumption | exact Y9) | exact lv)
@[reducible,instance] def Q9z[Vf]{x0 x1 x2}:=mkW (D5.eq_1 N x0 x1 x2) (x0.length≤40∧Qx (fun m:Qm=>Aft m.1) x0) (fun r=>r.length≤40∧Qx (fun m:Qe=>Aft m.1) r) (k:=by
  intro h
  try simp only[sS,reduceCtorEq]at *
  repeat' (first | intro _ | apply And.intro)
  all_goals first | ((repeat cases ‹_∧_›); first | assumption | exact Y9) | exact lv)
@[reducible,instance] def Jg8{x0 x1}:=mkW (T2.eq_1 N x0 x1) (True) (fun r=>True)
@[reducible,instance] def Q51{v17 x1 x21 r53}{s}:=upL (N:=N) (s:=s) (Pn.eq_def N v17 x1 x21 r53) (fun t=>t) v17.length (fun t=>v17.length≤40) (fun r:((Int))=>0≤r∧r≤v17.length)
@[reducible,instance] def Q52{x0 x1}:=mkW (Wy.eq_1 N x0 x1) (True) (fun r=>r.2=true→r.1.1<r.1.2∧0≤r.1.1∧r.1.2≤x0.2∧r.1.2≤x1.2∧(r.2=true→x0.1≤r.1.1))
@[reducible,instance] def Q53[Vf]{x0 ce cd ck}:=mkW (As.eq_1 N x0 ce cd ck) (0≤ce∧ce<Vf.hi∧Aft x0.1∧cd.length≤51200∧Qx Nr cd) (fun r=>(r.length:Int)≤cd.length+32∧Qx Nr r) (k:=by
  intro h
  have g0:=(show 0≤ce∧ce≤12622780800→IntKind.wrap .i64 (ce+1)=ce+1 from fun a=>Q4 (by omega) (by omega)); have g1:=(Vf.ok); have g2:=(Vf.le); have g3:=h.2.2.1.c; have g4:=h.2.2.2.2
  try simp only[sS,reduceCtorEq]at *
  repeat' (first | intro _ | apply And.intro)
  all_goals first | exact Uw g4 (Jow (And.right (And.right (by assumption))) (by grind) (by grind)) | exact lv)
@[reducible,instance] def Qx3[Vf]{x0 x1}{s}:=upL (N:=N) (s:=s) (C9.eq_def N x0 x1) (fun t=>t.1) x0.length (fun t=>x0.length≤51200∧Qx Nr x0∧0≤x1∧x1≤1∧s.2.length≤102400∧0≤s.1∧t.2.length≤s.2.length+2*(t.1 - s.1)∧Qx Qit t.2) (fun r:(((List Q8)))=>r.length≤s.2.length+2*x0.length∧Qx Qit r) (step:=by
  intro s h h0 h1 h2 hw
  try simp only[sS,reduceCtorEq]at *
  repeat' (first | intro _ | apply And.intro)
  all_goals first | ((repeat cases ‹_∧_›); have q:=fun d=>Jc8 (k:=x1) (d:=d) (Zg (P:=Nr) (by assumption) (by assumption)) (by assumption) (by assumption) (by assumption) (by assumption); exact Uw (by assumption) (Q5r (q 1).1 (q (-1)).2)) | exact lv)
@[reducible,instance] def Q54[Vf]{x0 x1 c7}:=mkW (At.eq_1 N x0 x1 c7) (x0.length≤51200∧Qx Nr x0∧0≤x1∧x1≤1∧c7.length≤102400∧Qx Qit c7) (fun r=>r.length≤c7.length+2*x0.length∧Qx Qit r)
@[reducible,instance] def Quk[Vf]{x0 x1}{s}:=upL (N:=N) (s:=s) (Fc.eq_def N x0 x1) (fun t=>t.1) x0.length (fun t=>x0.length≤51200∧Qx Nr x0∧0≤x1∧x1≤1∧s.2.length≤102400∧0≤s.1∧t.2.length≤s.2.length+2*(t.1 - s.1)∧Qx Qit t.2) (fun r:(((List Q8)))=>r.length≤s.2.length+2*x0.length∧Qx Qit r) (step:=by
  intro s h h0 h1 h2 hw
  try simp only[sS,reduceCtorEq]at *
  repeat' (first | intro _ | apply And.intro)
  all_goals first | ((repeat cases ‹_∧_›); have q:=fun d=>Jc8 (k:=x1) (d:=d) (Zg (P:=Nr) (by assumption) (by assumption)) (by assumption) (by assumption) (by assumption) (by assumption); exact Uw (by assumption) (Q5r (q 1).1 (q (-1)).2)) | exact lv)
@[reducible,instance] def Qx4[Vf]{x0 x1 c7}:=mkW (Gq.eq_1 N x0 x1 c7) (x0.length≤51200∧Qx Nr x0∧0≤x1∧x1≤1∧c7.length≤102400∧Qx Qit c7) (fun r=>r.length≤c7.length+2*x0.length∧Qx Qit r)
@[reducible,instance] def Q90{x0 x1}:=mkW (D6.eq_1 N x0 x1) (True) (fun r=>True)
@[reducible,instance] def Q1r[Vf]{r3}{s}:=upL (N:=N) (s:=s) (Ng.eq_def N r3) (fun t=>t.2.1) r3.length (fun t=>r3.length≤204800∧Qx Qit r3∧t.2.2.2.length=2∧t.2.2.1.length≤t.2.1∧(t.1=true→1≤t.2.2.1.length)∧Qx Nr t.2.2.1) (fun r:(((List Qe)))=>r.length≤204800∧Qx Nr r) (step:=by
  intro s h h0 h1 h2 hw
  have g0:=h.2.1; have g1:=h.2.2.2.2.2; have g2:=(show ∀c∈r3,0≤c.2.1∧c.2.1≤1 from fun c hc=>(h.2.1.all c hc).side); have g3:=(show s.2.2.1.length≤204800→1≤s.2.2.1.length→IntKind.wrap .i64 ((s.2.2.1.length:Int) - 1)=(s.2.2.1.length:Int) - 1 from fun a b=>Q4 (by omega) (by omega))
  try simp only[sS,reduceCtorEq]at *
  repeat' (first | intro _ | apply And.intro)
  all_goals first | assumption | exact(g2 _ (by assumption)).1 | exact Int.lt_of_le_of_lt (g2 _ (by assumption)).2 (by omega) | exact Uw (by assumption) (Wa (Jox (Zg (by assumption) g0))) | exact allL_set (by assumption) (Joy (Zg (P:=Nr) (by assumption) (by assumption)) (Zg (P:=Qit) (by assumption) g0)) | exact lv)
@[reducible,instance] def Q91[Vf]{x0 x1}:=mkW (D7.eq_1 N x0 x1) (x0.length≤51200∧Qx Nr x0∧x1.length≤51200∧Qx Nr x1) (fun r=>r.length≤204800∧Qx Nr r) (k:=by
  intro h
  try simp only[sS,reduceCtorEq]at *
  repeat' (first | intro _ | apply And.intro)
  all_goals first | exact Y9 | exact Qh0 (P:=Qit) (by grind) (fun c h=>⟨h.side,h.all⟩) | exact lv)
@[reducible,instance] def Jge[Vf]{x0}:=mkW (Pr.eq_1 N x0) (x0.length≤51200∧Qx Nr x0) (fun r=>r.length≤204800∧Qx Nr r) (k:=by
  intro h
  try simp only[sS,reduceCtorEq]at *
  repeat' (first | intro _ | apply And.intro)
  all_goals first | exact Y9 | exact Qh0 (P:=Qit) (by grind) (fun c h=>⟨h.side,h.all⟩) | exact lv)
@[reducible,instance] def Q92[Vf]{x22}{s}:=upL (N:=N) (s:=s) (Qbr.eq_def N x22) (fun t=>t.1) x22.2.2.2.length (fun t=>x22.2.2.2.length≤40∧0≤t.2.2.1∧t.2.2.1<Vf.hi∧0≤s.1∧s.2.2.2.length≤49920∧t.2.2.2.length≤s.2.2.2.length+32*(t.1 - s.1)∧Qx Nr t.2.2.2∧t.2.2.1=s.2.2.1∧Qx (fun m:Qe=>Aft m.1) x22.2.2.2) (fun r:((Int×Int×(List Qe)))=>r.2.1=s.2.2.1∧r.2.2.length≤s.2.2.2.length+1280∧Qx Nr r.2.2) (step:=by
  intro s h h0 h1 h2 hw
  try simp only[sS,reduceCtorEq]at *
  repeat' (first | intro _ | apply And.intro)
  all_goals first | ((repeat cases ‹_∧_›); first | assumption | omega | exact Zg (P:=fun m:Qe=>Aft m.1) (by assumption) (by assumption)) | exact lv)
@[reducible,instance] def Q93[Vf]{x0}{s}:=upL (N:=N) (s:=s) (Qbs.eq_def N x0) (fun t=>t.1) x0.length (fun t=>sz x0≤40∧0≤t.2.2.1∧t.2.2.1<Vf.hi∧t.2.2.2.length≤1280*t.1∧Qx Nr t.2.2.2∧Qx (fun h:Q2=>Qx (fun m:Qe=>Aft m.1) h.2.2.2) x0∧x0.length≤40) (fun r:((Int×(List Qe)))=>r.2.length≤51200∧Qx Nr r.2) (step:=by
  intro s h h0 h1 h2 hw
  try simp only[sS,reduceCtorEq]at *
  repeat' (first | intro _ | apply And.intro)
  all_goals first | ((repeat cases ‹_∧_›); first | assumption | omega | exact Y9 | exact Zg (P:=fun h:Q2=>Qx (fun m:Qe=>Aft m.1) h.2.2.2) (by assumption) (by assumption)) | exact lv)
@[reducible,instance] def Q94[Vf]{r35 v33}{s}:=upL (N:=N) (s:=s) (Qbt.eq_def N r35 v33) (fun t=>t.1) r35.length (fun t=>r35.length≤204800∧Qx Nr r35∧t.2.length≤35*t.1) (fun r:(((List Qe)))=>r.length≤7168000) (step:=by
  intro s h h0 h1 h2 hw
  have g0:=(fun p (hp:p∈r35)=>Jtw (h.2.1.all p hp):∀p∈r35,p.2 - p.1≤74563200)
  try simp only[sS,reduceCtorEq]at *
  repeat' (first | intro _ | apply And.intro)
  all_goals first | exact lv)
@[reducible,instance] def Jg9[Vf]{x0 x1 x2}:=mkW (T5.eq_1 N x0 x1 x2) (sz x0≤40∧0≤x2∧x2<Vf.hi∧Qx (fun h:Q2=>Qx (fun m:Qe=>Aft m.1) h.2.2.2) x0) (fun r=>r.length≤7168000) (k:=by
  intro h
  try simp only[sS,reduceCtorEq]at *
  repeat' (first | intro _ | apply And.intro)
  all_goals first | exact Y9 | exact lv)
@[reducible,instance] def Q55[Vf]{x0 x1}{s}:=upL (N:=N) (s:=s) (Po.eq_def N x0 x1) (fun t=>t.1) x0.length (fun t=>x0.length≤40∧t.2.2.2.length≤t.1∧sz t.2.2.2≤40∧Qx (fun m:Qm=>Aft m.1) x0∧Qx (fun h:Q2=>Qx (fun m:Qe=>Aft m.1) h.2.2.2) t.2.2.2) (fun r:(((List Q2)))=>sz r≤40∧Qx (fun h:Q2=>Qx (fun m:Qe=>Aft m.1) h.2.2.2) r) (step:=by
  intro s h h0 h1 h2 hw
  try simp only[sS,reduceCtorEq]at *
  repeat' (first | intro _ | apply And.intro)
  all_goals first | ((repeat cases ‹_∧_›); first | assumption | exact Qji _ | exact Jf6 (by assumption) | exact Jln (by assumption) | ((with_reducible refine Uw (Uw (Q5u (by assumption) (by assumption)) (Wa ?_)) (Q5u (by assumption) (by assumption))); dsimp only; assumption)) | exact lv)
@[reducible,instance] def Jdf[Vf]{x0 x1}:=mkW (Mg.eq_1 N x0 x1) (x0.length≤40∧Qx (fun m:Qm=>Aft m.1) x0) (fun r=>sz r≤40∧Qx (fun h:Q2=>Qx (fun m:Qe=>Aft m.1) h.2.2.2) r) (k:=by
  intro h
  try simp only[sS,reduceCtorEq]at *
  repeat' (first | intro _ | apply And.intro)
  all_goals first | ((repeat cases ‹_∧_›); first | assumption | exact Y9) | exact lv)
@[reducible,instance] def Jlv{x0 ce c7}:=mkW (Qdb.eq_1 N x0 ce c7) (True) (fun r=>True)
@[reducible,instance] def Qmx{x0 ce c7}{s}:=upL (N:=N) (s:=s) (Wi.eq_def N x0 ce c7) (fun t=>t.1) x0.length (fun t=>x0.length≤40∧sz x0≤4096∧Qx (fun p:Qn=>p.2.2.2.2.2.length≤40) x0∧t.2.length≤t.1∧sz t.2≤4096∧Qx (fun p:Qn=>p.2.2.2.2.2.length≤40) t.2∧x0.length≤4096) (fun r:(((List Qn)))=>r.length≤40∧sz r≤4096∧Qx (fun p:Qn=>p.2.2.2.2.2.length≤40) r) (step:=by
  intro s h h0 h1 h2 hw
  try simp only[sS,reduceCtorEq]at *
  repeat' (first | intro _ | apply And.intro)
  all_goals first | exact Y9 | exact Uw (by grind) (Wa (by grind [Qx.all])) | exact lv)
@[reducible,instance] def Qqp{x0 ce c7}:=mkW (Z0.eq_1 N x0 ce c7) (x0.length≤40∧sz x0≤4096∧Qx (fun p:Qn=>p.2.2.2.2.2.length≤40) x0) (fun r=>r.length≤40∧sz r≤4096∧Qx (fun p:Qn=>p.2.2.2.2.2.length≤40) r) (k:=by
  intro h
  try simp only[sS,reduceCtorEq]at *
  repeat' (first | intro _ | apply And.intro)
  all_goals first | exact Y9 | exact lv)
@[reducible,instance] def Q95{x0}{s}:=upL (N:=N) (s:=s) (Qbu.eq_def N x0) (fun t=>t.1) x0.2.2.2.2.2.length (fun t=>x0.2.2.2.2.2.length≤40∧sz x0≤4096∧t.2=x0.2.2.2.2.2.take t.1.toNat) (fun r:(((List Yo)))=>r=x0.2.2.2.2.2) (step:=by
  intro s h h0 h1 h2 hw
  try simp only[sS,reduceCtorEq]at *
  repeat' (first | intro _ | apply And.intro)
  all_goals first | grind [Ie,Rm,Bd.deep] | exact lv)
@[reducible,instance] def Jha{x0}:=mkW (T6.eq_1 N x0) (x0.2.2.2.2.2.length≤40∧sz x0≤4096) (fun r=>r=x0)
@[reducible,instance] def Jo0{x0 x1 x2}:=mkW (Qj9.eq_1 N x0 x1 x2) (x0.length≤40∧sz x0≤4096∧Qx (fun p:Qn=>p.2.2.2.2.2.length≤40) x0) (fun r=>r.2.2.2.2.2.2.length≤40∧sz r.2.2.2.2.2.2≤4096) (k:=by
  intro h
  have g0:=(fun p l hp q=>q.all p hp:∀(p:Qn) (l:List Qn),p∈l→Qx (fun p:Qn=>p.2.2.2.2.2.length≤40) l→p.2.2.2.2.2.length≤40)
  try simp only[sS,reduceCtorEq]at *
  repeat' (first | intro _ | apply And.intro)
  all_goals first | assumption | omega | ((simp (disch:=omega) only [Q4]at *)<;>omega) | exact g0 _ _ (by assumption) (And.right (And.right (by assumption))) | exact lv)
@[reducible,instance] def Qu1{r12 x0 r4}{s}:=upL (N:=N) (s:=s) (A8.eq_def N r12 x0 r4) (fun t=>t.1) r12.length (fun t=>r12.length≤40∧sz r12≤4096∧t.2.length≤t.1∧sz t.2≤4096∧r12.length≤4096) (fun r:(((List Yv)))=>r.length≤40∧sz r≤4096)
@[reducible,instance] def Qu2{x0 x2 x1}{s}:=upL (N:=N) (s:=s) (A9.eq_def N x0 x2 x1) (fun t=>t) x0.2.2.2.length (fun t=>x0.2.2.2.length≤40∧x1.length≤40∧sz x1≤4096∧Qx (fun p:Qn=>p.2.2.2.2.2.length≤40) x1∧x1.length≤4096) (fun r:((Unit)⊕((List Yv)))=>∀t,r=.inr t→t.length≤40∧sz t≤4096)
@[reducible,instance] def Q0q{x0 x1 x2}:=mkW (Hv.eq_1 N x0 x1 x2) (sz x0≤40∧x1.length≤40∧sz x1≤4096∧Qx (fun p:Qn=>p.2.2.2.2.2.length≤40) x1) (fun r=>r.length≤40∧sz r≤4096)
@[reducible,instance] def Q56{x0}{s}:=upL (N:=N) (s:=s) (Ps.eq_def N x0) (fun t=>t.1) x0.length (fun t=>sz x0≤1000000000000∧t.2=x0.take t.1.toNat∧x0.length≤1000000000000) (fun r:(((List Qb)))=>r=x0) (step:=by
  intro s h h0 h1 h2 hw
  try simp only[sS,reduceCtorEq]at *
  repeat' (first | intro _ | apply And.intro)
  all_goals first | grind [Ie,Rm,Bd.deep] | exact lv)
@[reducible,instance] def Jdg{x0}:=mkW (Mi.eq_1 N x0) (sz x0≤1000000000000) (fun r=>r=x0)
@[reducible,instance] def Jhb{x0}:=mkW (T8.eq_1 N x0) (sz x0≤1000000000000) (fun r=>r=x0)
@[reducible,instance] def Q7f{x0 x1 x2}{s}:=upL (N:=N) (s:=s) (Sw.eq_def N x0 x1 x2) (fun t=>t) x0.length (fun t=>x0.length≤40) (fun r:((Unit)⊕(Bool))=>True)
@[reducible,instance] def Jgf{x0 x1 x2}:=mkW (Pt.eq_1 N x0 x1 x2) (x0.length≤40) (fun r=>True)
@[reducible,instance] def Q7g{x0}{s}:=upL (N:=N) (s:=s) (Sx.eq_def N x0) (fun t=>t.1) x0.length (fun t=>x0.length≤1000000000000∧Qug t.2 x0.length) (fun r:(((List (Int×Int))))=>Qug r x0.length) (step:=by
  intro s h h0 h1 h2 hw
  try simp only[sS,reduceCtorEq]at *
  repeat' (first | intro _ | apply And.intro)
  all_goals first | exact Qxz | exact Qx0 (by grind) (by omega) (by omega) | exact lv)
@[reducible,instance] def Jgg{x0}:=mkW (Pu.eq_1 N x0) (x0.length≤1000000000000) (fun r=>Qug r x0.length) (k:=by
  intro h
  try simp only[sS,reduceCtorEq]at *
  repeat' (first | intro _ | apply And.intro)
  all_goals first | exact Qxz | exact Qx0 (by grind) (by omega) (by omega) | exact lv)
@[reducible,instance] def Jdh{x0 x1}{s}:=upL (N:=N) (s:=s) (Qej.eq_def N x0 x1) (fun t=>t) x0.length (fun t=>x0.length≤1000000000000) (fun r:((Int))=>0≤r∧r≤x0.length)
@[reducible,instance] def Jlw{x0 x1}:=mkW (Qdd.eq_1 N x0 x1) (x0.length≤1000000000000) (fun r=>0≤r.1∧r.1<r.2.length∧r.2.length≤x0.length+1) (k:=by
  intro h
  try simp only[sS,reduceCtorEq]at *
  repeat' (first | intro _ | apply And.intro)
  all_goals first | exact(Qx1 (by assumption) (by assumption)).1 | exact(Qx1 (by assumption) (by assumption)).2 | exact lv)
@[reducible,instance] def Q7h{x0 x1 x2}:=mkW (Yk.eq_1 N x0 x1 x2) (True) (fun r=>True)
@[reducible,instance] def Jlx{x0}:=mkW (Nw.eq_1 N x0) (True) (fun r=>True)
@[reducible,instance] def Jly{x0}:=mkW (K2.eq_1 N x0) (True) (fun r=>True)
@[reducible,instance] def Jhc{x0 x1}:=mkW (Yw.eq_1 N x0 x1) (True) (fun r=>True)
@[reducible,instance] def Jhd{x0 x1}:=mkW (T9.eq_1 N x0 x1) (True) (fun r=>True)
@[reducible,instance] def Q7i{x0 x1 ce}:=mkW (G6.eq_1 N x0 x1 ce) (True) (fun r=>True)
@[reducible,instance] def Jlz{x0 x1}:=mkW (Qde.eq_1 N x0 x1) (True) (fun r=>True)
@[reducible,instance] def Q57{x0 x2 r8 r7 x3}{s}:=upL (N:=N) (s:=s) (Pv.eq_def N x0 x2 r8 r7 x3) (fun t=>t.1) x0.length (fun t=>x0.length≤40∧0≤r7∧r7<r8.length) (fun r:((Qc))=>True)
@[reducible,instance] def Jdi{x0 x1 x2 x3}:=mkW (Ft.eq_1 N x0 x1 x2 x3) (x0.length≤40∧sz x1≤1000000000000) (fun r=>r.1=x1.1∧r.2.1.length≤x1.2.1.length+1∧r.2.2=x1.2.2)
@[reducible,instance] def Jl0{x0}:=mkW (B5.eq_1 N x0) (sz x0≤1000000000000) (fun r=>r.2.2.2.2.2.2.2.2.2.2.length=x0.2.2.2.2.2.1.length)
@[reducible,instance] def Jsd{x0}:=mkW (Qbn.eq_1 N x0) (sz x0≤9223372036854775807) (fun r=>True)
@[reducible,instance] def Q96{x0 x1}{s}:=upL (N:=N) (s:=s) (Qbo.eq_def N x0 x1) (fun t=>t) x0.length (fun t=>x0.length≤40) (fun r:((Unit)⊕(Int))=>∀u,r=.inr u→0<x0.length)
@[reducible,instance] def Jhe{x0 x1}:=mkW (T1.eq_1 N x0 x1) (x0.length≤40) (fun r=>r≠0→0<x0.length)
@[reducible,instance] def Jdj{x0 x1}:=mkW (Fs.eq_1 N x0 x1) (True) (fun r=>True)
@[reducible,instance] def Jl1{x0 x1 x2}:=mkW (Qdc.eq_1 N x0 x1 x2) (sz x1≤4096) (fun r=>r.2.2.2.2.2.2.2.2.2.2.length≤4096)
@[reducible,instance] def Jhf{x0 x1}:=mkW (T7.eq_1 N x0 x1) (True) (fun r=>True)
@[reducible,instance] def Q1s{c7 x1}{s}:=upL (N:=N) (s:=s) (Nh.eq_def N c7 x1) (fun t=>t.1) c7.length (fun t=>c7.length≤1000000000000∧t.2.2.2.2.2.2.2.2.2.2.2.length≤4096∧sz c7≤1000000000000) (fun r:((Int×Int×Str×Int×Int×Qe×Int×Int×Int×Bool×(List Str)))=>r.2.2.2.2.2.2.2.2.2.2.length≤4096)
@[reducible,instance] def Q1t{c7 v40 v41 v42 v43 v44 v50 v45 v46 v47 v48 v49}{s}:=upL (N:=N) (s:=s) (Ni.eq_def N c7 v40 v41 v42 v43 v44 v50 v45 v46 v47 v48 v49) (fun t=>t) c7.length (fun t=>c7.length≤1000000000000) (fun r:((Int))=>0≤r∧r≤c7.length)
@[reducible,instance] def Q97{x1 c7 cd}:=mkW (D8.eq_1 N x1 c7 cd) (c7.length≤999999999999∧sz c7≤1000000000000∧sz x1≤4096) (fun r=>r.2.length≤c7.length+1∧sz r.2≤1000000000000)
@[reducible,instance] def Q7j{x2}{s}:=upL (N:=N) (s:=s) (Sr.eq_def N x2) (fun t=>t.1) x2.1.length (fun t=>x2.1.length≤1000000000000∧sz x2.1≤1000000000000∧t.2.1.length≤t.1∧sz t.2.1≤1000000000000) (fun r:(((List Qb)×(List (Q5×Bool))))=>r.1.length≤x2.1.length∧sz r.1≤1000000000000)
@[reducible,instance] def Q7k{r118 x4}{s}:=upL (N:=N) (s:=s) (Ss.eq_def N r118 x4) (fun t=>t.1) r118.length (fun t=>r118.length≤40∧sz r118≤4096∧0≤s.1∧s.2.1.length≤999999999900∧t.2.1.length≤s.2.1.length+(t.1 - s.1)∧sz t.2.1≤1000000000000∧r118.length≤4096) (fun r:(((List Qb)×(List (Q5×Bool))))=>r.1.length≤s.2.1.length+40∧sz r.1≤1000000000000)
@[reducible,instance] def Q7l{r54 x1 x109 x4}{s}:=upL (N:=N) (s:=s) (Su.eq_def N r54 x1 x109 x4) (fun t=>t.1) r54.length (fun t=>r54.length≤40∧sz r54≤40∧x1.length≤40∧sz x1≤4096∧Qx (fun p:Qn=>p.2.2.2.2.2.length≤40) x1∧0≤s.1∧s.2.1.length≤999999990000∧t.2.1.length≤s.2.1.length+40*(t.1 - s.1)∧sz t.2.1≤1000000000000∧x1.length≤4096) (fun r:(((List Qb)×(List (Q5×Bool))))=>r.1.length≤s.2.1.length+1600∧sz r.1≤1000000000000)
@[reducible,instance] def Q7m{r56 r54 x1 x4}{s}:=upL (N:=N) (s:=s) (Sv.eq_def N r56 r54 x1 x4) (fun t=>t.1) r56.length (fun t=>r56.length≤7168000∧r54.length≤40∧sz r54≤40∧x1.length≤40∧sz x1≤4096∧Qx (fun p:Qn=>p.2.2.2.2.2.length≤40) x1∧0≤s.1∧s.2.1.length≤900000000000∧t.2.1.length≤s.2.1.length+1600*(t.1 - s.1)∧sz t.2.1≤1000000000000∧x1.length≤4096) (fun r:(((List Qb)×(List (Q5×Bool))))=>r.1.length≤s.2.1.length+11468800000∧sz r.1≤1000000000000)
@[reducible,instance] def Jgh[Vf]{x0 x1 x2 x3 x4}:=mkW (B6.eq_1 N x0 x1 x2 x3 x4) (x0.length≤40∧x1.length≤40∧sz x1≤4096∧Qx (fun p:Qn=>p.2.2.2.2.2.length≤40) x1∧x2.1.length≤900000000000∧sz x2.1≤1000000000000∧x2.2.1.length≤1099511627∧x2.2.2.length≤1099511627∧Qx (fun m:Qm=>Aft m.1) x0∧(0<x0.length→x4<Vf.hi)) (fun r=>r.1.length≤x2.1.length+11468800000∧sz r.1≤1000000000000∧r.2.1=x2.2.1∧r.2.2=x2.2.2) (k:=by
  intro h
  have g0:=h.2.2.2.2.2.2.2.2.1; have g1:=h.2.2.2.2.2.2.2.2.2
  try simp only[sS,reduceCtorEq]at *
  repeat' (first | intro _ | apply And.intro)
  all_goals first | exact g0 | omega | exact lv)
@[reducible,instance] def Jl2{x0}:=mkW (Qdf.eq_1 N x0) (sz x0≤1000000000000) (fun r=>r.2.2.2.2.2.2.2.2.2.2.length=x0.2.2.2.2.2.1.length)
@[reducible,instance] def Q98{x0}{s}:=upL (N:=N) (s:=s) (Qbv.eq_def N x0) (fun t=>t.1) x0.length (fun t=>sz x0≤1000000000000∧t.2.length=t.1∧sz t.2≤1000000000000∧x0.length≤1000000000000) (fun r:(((List Qb)))=>r.length=x0.length∧sz r≤1000000000000)
@[reducible,instance] def Jhg{x0}:=mkW (Ik.eq_1 N x0) (sz x0≤1000000000000) (fun r=>r.length=x0.length∧sz r≤1000000000000)
@[reducible,instance] def Jgi{x0 x1}:=mkW (Xy.eq_1 N x0 x1) (True) (fun r=>True)
@[reducible,instance] def Jgj{x0 x1}:=mkW (Pw.eq_1 N x0 x1) (True) (fun r=>True)
theorem Qks{N:Nat}[Fn N]{x2:Int}{L:Int}{s:Int×List Int}:WP (Ql (D9 N x2) N s) (fun R=>((0≤s.1∧s.1≤x2∧x2≤L∧L≤1000000000000)∧s.2=[])∧∀r:List Int,((r.length:Int)=x2 - s.1∧Qx (fun i:Int=>0≤i∧i<L) r)→R r):=⟨fun R h=>(mkL (N:=N) (s:=s) (D9.eq_def N x2) (fun t=>(x2 - t.1).toNat) (fun t=>0≤s.1∧s.1≤t.1∧t.1≤x2∧x2≤L∧L≤1000000000000∧(t.2.length:Int)=t.1 - s.1∧Qx (fun i:Int=>0≤i∧i<L) t.2) (fun r:List Int=>(r.length:Int)=x2 - s.1∧Qx (fun i:Int=>0≤i∧i<L) r) (step:=by
  intro t h
  try simp only[sS,reduceCtorEq]at *
  repeat' (first | intro _ | apply And.intro)
  all_goals first | assumption | omega | ((simp (disch:=omega) only [Q4]at *)<;>omega) | exact Uw (by grind) (Wa (by grind)) | grind)).spec R ⟨⟨h.1.1.1,JT _,h.1.1.2.1,h.1.1.2.2.1,h.1.1.2.2.2,by rw[h.1.2]; simp,by rw[h.1.2]; exact Y9⟩,h.2⟩⟩
attribute [local instance 1300] Jlm in
@[reducible,instance] def Q99{r6 r7 x0}{s}:=mkL (N:=N) (s:=s) (Qbw.eq_def N r6 r7 x0) (fun t=>(r6.length - t.1+(r7.length - t.2.1)).toNat) (fun t=>r6.length+r7.length≤1000000000000∧Qx (fun i:Int=>0≤i∧i<(x0.length:Int)) r6∧Qx (fun i:Int=>0≤i∧i<(x0.length:Int)) r7∧0≤t.1∧t.1≤r6.length∧0≤t.2.1∧t.2.1≤r7.length∧(t.2.2.length:Int)=t.1+t.2.1∧Qx (fun i:Int=>0≤i∧i<(x0.length:Int)) t.2.2) (fun r:(((List Int)))=>r.length=r6.length+r7.length∧Qx (fun i:Int=>0≤i∧i<(x0.length:Int)) r) (step:=by
  intro s h
  have g0:=(fun i hi=>h.2.1.all i hi:∀i∈r6,0≤i∧i<(x0.length:Int)); have g1:=(fun i hi=>h.2.2.1.all i hi:∀i∈r7,0≤i∧i<(x0.length:Int))
  try simp only[sS,reduceCtorEq]at *
  repeat' (first | intro _ | apply And.intro)
  all_goals first | assumption | omega | ((simp (disch:=omega) only [Q4]at *)<;>omega) | exact(g0 _ (by assumption)).1 | exact(g0 _ (by assumption)).2 | exact(g1 _ (by assumption)).1 | exact(g1 _ (by assumption)).2 | exact Uw (by grind) (Wa (g0 _ (by assumption))) | exact Uw (by grind) (Wa (g1 _ (by assumption))) | exact lv)
theorem Cn{N:Nat}[Fn N]{x0:List Qb}(hx:x0.length≤1000000000000):∀(n:Nat) (x1 x2:Int),0≤x1→x1≤x2→x2≤x0.length→x2 - x1<n→W (U5 N n x0 x1 x2) fun r=>(r.length:Int)=x2 - x1∧Qx (fun i:Int=>0≤i∧i<(x0.length:Int)) r
 | 0,x1,x2,h0,h1,h2,h3=>by omega
 | n+1,x1,x2,h0,h1,h2,h3=>by
  unfold U5
  have e1:IntKind.wrap .i64 (x2 - x1)=x2 - x1:=Q4 (by omega) (by omega)
  have e2:IntKind.wrap .i64 (Int.tdiv (x2 - x1) 2)=(x2 - x1) / 2:=by rw[QO (by omega),Q4 (by omega) (by omega)]
  have e3:IntKind.wrap .i64 (x1+(x2 - x1) / 2)=x1+(x2 - x1) / 2:=Q4 (by omega) (by omega)
  rw[e1,e2,e3]
  by_cases hc:x2 - x1<2
  ·rw[if_pos (by simpa using hc)]
   obtain⟨r,e,hr⟩:=(Qks (N:=N) (x2:=x2) (L:=x0.length) (s:=(x1,[]))).spec _ ⟨⟨⟨h0,h1,h2,by omega⟩,rfl⟩,fun r h=>h⟩
   rw[e]; exact⟨r,rfl,hr⟩
  ·rw[if_neg (by simpa using hc)]
   obtain⟨r6,f6,k6⟩:=Cn (N:=N) hx n x1 (x1+(x2 - x1) / 2) h0 (by omega) (by omega) (by omega)
   obtain⟨r7,f7,k7⟩:=Cn (N:=N) hx n (x1+(x2 - x1) / 2) x2 (by omega) (by omega) (by omega) (by omega)
   rw[f6]
   show W ((U5 N n x0 (x1+(x2 - x1) / 2) x2).bind _) _
   rw[f7]
   refine wp ?_
   refine⟨⟨by omega,by omega,by omega⟩,⟨by omega,k6.2,k7.2,JT _,Int.natCast_nonneg _,JT _,Int.natCast_nonneg _,rfl,Y9⟩,fun r h=>⟨by omega,h.2⟩⟩
@[reducible,instance] def Jhh{N:Nat}[hN:Fn N]{x0:List Qb}{x1 x2:Int}:WP (Qjb N x0 x1 x2) (fun R=>(x0.length≤1000000000000∧0≤x1∧x1≤x2∧x2≤x0.length)∧∀r:List Int,((r.length:Int)=x2 - x1∧Qx (fun i:Int=>0≤i∧i<(x0.length:Int)) r)→R r):=Qhc (by
  intro h
  have:=hN.le
  exact Cn (N:=N) h.1 N x1 x2 h.2.1 h.2.2.1 h.2.2.2 (by omega))
@[reducible,instance] def Jaa{x0 x4}{s}:=upL (N:=N) (s:=s) (Qbx.eq_def N x0 x4) (fun t=>t) x0.2.2.2.2.2.1.length (fun t=>x0.2.2.2.2.2.1.length≤1000000000000) (fun r:((Unit)⊕(Bool))=>True)
@[reducible,instance] def Jhi{x0 x1 x2 x3 x4 x5 x6}:=mkW (Qaa.eq_1 N x0 x1 x2 x3 x4 x5 x6) (x0.2.2.2.2.2.1.length≤1000000000000) (fun r=>True)
@[reducible,instance] def Jse{x0}:=mkW (Qhx.eq_1 N x0) (True) (fun r=>True)
@[reducible,instance] def Jgk{r2 x0 x1 x2 x3 x4 x5 x6}{s}:=upL (N:=N) (s:=s) (Qf4.eq_def N r2 x0 x1 x2 x3 x4 x5 x6) (fun t=>t.2.1) r2.length (fun t=>r2.length≤1000000000000∧Qx (fun i:Int=>0≤i∧i<(x0.length:Int)) r2∧sz x0≤1000000000000∧t.2.2.1.length=x0.length∧sz t.2.2.1≤1000000000000∧t.2.2.2.length≤t.2.1∧x0.length≤1000000000000) (fun r:((Int×(List Qb)×(List Qi)))=>r.2.1.length=x0.length∧sz r.2.1≤1000000000000∧r.2.2.length≤r2.length) (step:=by
  intro s h h0 h1 h2 hw
  have g0:=(fun i hi=>h.2.1.all i hi:∀i∈r2,0≤i∧i<(x0.length:Int))
  try simp only[sS,reduceCtorEq]at *
  repeat' (first | intro _ | apply And.intro)
  all_goals first | assumption | omega | exact(g0 _ (by assumption)).1 | exact(g0 _ (by assumption)).2 | exact Int.lt_of_lt_of_le (g0 _ (by assumption)).2 (by omega) | exact lv)
@[reducible,instance] def Jm6{x0 x1 x2 x3 x4 x5 x6 x7}:=mkW (Lj.eq_1 N x0 x1 x2 x3 x4 x5 x6 x7) (sz x0≤1000000000000) (fun r=>r.2.1.length=x0.length∧sz r.2.1≤1000000000000∧r.2.2.length≤x0.length)
@[reducible,instance] def Jgl:=mkW (Pj.eq_1 N) (True) (fun r=>sz r≤0)
@[reducible,instance] def Jhj{x0 x1}:=mkW (Tw.eq_1 N x0 x1) (sz x0≤9223372036854775807) (fun r=>r.1.length=x0.length)
@[reducible,instance] def Q58{x1 x2}{s}:=upL (N:=N) (s:=s) (Pk.eq_def N x1 x2) (fun t=>t.1) x1.length (fun t=>x1.length≤40∧t.2.length≤t.1) (fun r:(((Unit)⊕(Unit))×(List Qm))=>r.2.length≤40)
@[reducible,instance] def Jdk{x1 x2}:=mkW (Mf.eq_1 N x1 x2) (x1.length≤40) (fun r=>r.length≤40)
@[reducible,instance] def Qx5{x0 x1}{s}:=upL (N:=N) (s:=s) (C7.eq_def N x0 x1) (fun t=>t) x0.length (fun t=>sz x0≤9223372036854775807) (fun r:((Int))=>0≤r∧r≤x0.length)
@[reducible,instance] def Q59{x0 x1}:=mkW (Wu.eq_1 N x0 x1) (sz x0≤1099511627776) (fun r=>r.length≤x0.length+1)
@[reducible,instance] def Qul{x0 x1}{s}:=upL (N:=N) (s:=s) (Fb.eq_def N x0 x1) (fun t=>t) x0.length (fun t=>sz x0≤9223372036854775807) (fun r:((Int))=>0≤r∧r≤x0.length)
@[reducible,instance] def Qx6{x0 x1}:=mkW (Kc.eq_1 N x0 x1) (sz x0≤1099511627776) (fun r=>r.length≤x0.length+1)
@[reducible,instance] def Q6a{x0 x1}{s}:=upL (N:=N) (s:=s) (Pl.eq_def N x0 x1) (fun t=>t.1) x0.length (fun t=>sz x0≤1099511627776∧t.2.length≤t.1∧sz t.2≤(sz x0)) (fun r:(((List Str)))=>sz r≤(sz x0))
@[reducible,instance] def Jdl{x0 x1}:=mkW (Fr.eq_1 N x0 x1) (sz x0≤1099511627776) (fun r=>sz r≤(sz x0))
@[reducible,instance] def Qvr{x1 x2 c7 cd ck cm d7 d8 d9}:=mkW (Wv.eq_1 N x1 x2 c7 cd ck cm d7 d8 d9) (sz x1≤1099511627) (fun r=>sz r.1≤sz x1+1∧r.2.length≤cm.length+1)
@[reducible,instance] def Qqq{x1 cd}{s}:=upL (N:=N) (s:=s) (Hr.eq_def N x1 cd) (fun t=>t.1) ((((Qg (k:=(.int .i64)) x1.2.2.2.1 cd).getD (0,0,0,([]:Str),([]:List Str),([]:List Str),false,false)).2.2.2.2.1)).length (fun t=>sz cd≤1099511627∧t.2.length≤s.2.length∧cd.length≤1099511627) (fun r:(((List (Str×Int))))=>r.length≤s.2.length) (fun t h=>by have:=Q0m cd x1.2.2.2.1; omega)
@[reducible,instance] def Qu3{x1 c7 cd ck cm d7 d8 d9}:=mkW (Xw.eq_1 N x1 c7 cd ck cm d7 d8 d9) (sz c7≤1099511627∧sz cd≤1099511627∧ck.length≤1099511627∧cm.length≤1099511627∧d7.length≤1099511627∧d8.length≤1099511627∧d9.length≤1099511627) (fun r=>sz r.1≤sz c7+1∧sz r.2.1≤sz cd+1∧r.2.2.1.length≤ck.length+1∧r.2.2.2.1.length≤cm.length+1∧r.2.2.2.2.1.length≤d7.length+1∧r.2.2.2.2.2.1.length≤d8.length+1∧r.2.2.2.2.2.2.length≤d9.length+1) (k:=by
  intro h
  have g0:=Q0m cd; have g1:=Jc4 c7
  try simp only[sS,reduceCtorEq]at *
  repeat' (first | intro _ | apply And.intro)
  all_goals first | (refine QW (Ti _ _ _) (XO.2 ⟨?_,?_⟩)<;>(try simp only[sz1,mx1])<;>grind) | exact lv)
@[reducible,instance] def Qpr{d9 cd}{s}:=upL (N:=N) (s:=s) (G3.eq_def N d9 cd) (fun t=>t.1) d9.length (fun t=>d9.length≤1099511627∧sz cd≤1099511627∧(sz t.2.1:Int)≤t.1∧t.2.2.length≤t.1∧sz t.2.2≤t.1+sz cd∧cd.length≤1099511627) (fun r:(((List (Int×(List Int)))×(List Js)))=>sz r.1≤d9.length∧sz r.2≤d9.length+sz cd) (step:=by
  intro s h h0 h1 h2 hw
  have g0:=Q0m cd; have g1:=Q5p s.2.1
  try simp only[sS,reduceCtorEq]at *
  repeat' (first | intro _ | apply And.intro)
  all_goals first | (refine Jov ?_ ?_<;>(try simp only[sz1,mx1,List.length_append,List.length_cons,JU])<;>grind) | exact lv)
@[reducible,instance] def Qps{d8 c7 v20}{s}:=upL (N:=N) (s:=s) (G4.eq_def N d8 c7 v20) (fun t=>t.1) d8.length (fun t=>d8.length≤1099511627∧sz c7≤1099511627∧sz v20≤1099511627∧t.2.1.length≤t.1∧sz t.2.1≤3298534881∧sz t.2.2≤10995116270∧c7.length≤1099511627∧v20.length≤1099511627) (fun r:(((List Q6)×(List Js)))=>sz r.1≤3298534881∧sz r.2≤10995116270) (step:=by
  intro s h h0 h1 h2 hw
  have g0:=Jc4 c7; have g1:=Q5p v20
  try simp only[sS,reduceCtorEq]at *
  repeat' (first | intro _ | apply And.intro)
  all_goals first | exact lv)
@[reducible,instance] def Qum{c7 cd ck cm d7 d8 d9}:=mkW (Xa.eq_1 N c7 cd ck cm d7 d8 d9) (sz c7≤1099511627∧sz cd≤1099511627∧ck.length≤1099511627∧cm.length≤1099511627∧d7.length≤1099511627∧d8.length≤1099511627∧d9.length≤1099511627) (fun r=>sz r.1≤10995116270∧sz r.2≤10995116270)
@[reducible,instance] def Q7n{es:List Qm}{s:(List (Int×Q6))×(List (Int×Js))×(List (Int×Bool))×(List (Str×Int))×(List (Int×Int))×(List Int)×(List Int)}:=Jtt (f:=G5 N) (es:=es) (fun n s=>es.length≤40∧(sz s.1:Int)≤n∧(sz s.2.1:Int)≤n∧(s.2.2.1.length:Int)≤n∧(s.2.2.2.1.length:Int)≤n∧(s.2.2.2.2.1.length:Int)≤n∧(s.2.2.2.2.2.1.length:Int)≤n∧(s.2.2.2.2.2.2.length:Int)≤n) (by
  intro n s e he h0 hn h
  show W (G5 N s e) _
  rw[G5.eq_1]
  refine wp ?_
  try simp only[sS,reduceCtorEq]at *
  repeat' (first | intro _ | apply And.intro)
  all_goals first | assumption | omega) (s:=s)
@[reducible,instance] def Jgm{x0 x1}:=mkW (B4.eq_1 N x0 x1) (x0.length≤40) (fun r=>sz r.1≤10995116270∧sz r.2≤10995116270)
@[reducible,instance] def Jdm{r2 x1}{s}:=upL (N:=N) (s:=s) (Qec.eq_def N r2 x1) (fun t=>t.1) r2.length (fun t=>sz r2≤10995116270∧r2.length≤10995116270) (fun r:((Int×Int×Int×Str×Bool×Bool)⊕(Bool×Js))=>∀t,r=.inr t→sz t.2≤10995116270)
@[reducible,instance] def Jl3{x0 x1 x2}:=mkW (Qc6.eq_1 N x0 x1 x2) (x0.length≤40) (fun r=>sz r.1≤10995116270)
@[reducible,instance] def Q1u{r1 x1}{s}:=upL (N:=N) (s:=s) (Nj.eq_def N r1 x1) (fun t=>t.1) r1.length (fun t=>sz r1≤10995116270∧r1.length≤10995116270) (fun r:((Int×Int×Int×Bool×Bool)⊕(Bool×Q6))=>∀t,r=.inr t→sz t.2≤10995116270)
@[reducible,instance] def Jab{x0 x1 x2}:=mkW (Xz.eq_1 N x0 x1 x2) (x0.length≤40) (fun r=>sz r.1≤10995116270)
@[reducible,instance] def Q0r{x0}:=mkW (Hs.eq_1 N x0) (x0.length≤4096) (fun r=>r=x0)
@[reducible,instance] def Qvs{x0}:=mkW (Ww.eq_1 N x0) (x0.length≤4096) (fun r=>r=x0)
@[reducible,instance] def Qvt{x0}:=mkW (Wx.eq_1 N x0) (x0.length≤4096) (fun r=>r=x0)
theorem Qeq{N:Nat}[Fn N]:∀(n:Nat) (e:Ja),dpt e≤n→sz e≤4096→W (Xb N n e) fun r=>r=e
 | 0,e,h,hs=>by cases e with | mk a ks=>rw[dpt]at h; omega
 | n+1,e,h,hs=>by
  unfold Xb
  have hk:=Jli (e:=e)
  have hlen:=Um (l:=e.ks)
  have ih:∀x:Ja,WP (Xb N n x) (fun R=>(x∈e.ks∧sz x≤4096)∧∀r:Ja,r=x→R r):=fun x=>Qhc fun hx=>Qeq n x (by have:=Jlk hx.1; omega) hx.2
  have loop:=fun s:Int×List Ja=>upL (N:=N) (s:=s) (Qfw.eq_def N (Xb N n) e) (fun s=>s.1) e.ks.length (fun s=>e.ks.length≤4096∧s.2=e.ks.take s.1.toNat) (fun r:List Ja=>r=e.ks) (step:=by
   intro s h h0 h1 h2 hw
   try simp only[sS,reduceCtorEq]at *
   repeat' (first | intro _ | apply And.intro)
   all_goals first | assumption | omega | grind [Ie,Rm])
  refine wp ?_
  simp only[forall_eq]
  refine⟨⟨⟨by omega,by simp⟩,by omega,by omega⟩,?_⟩
  cases e with
  | mk a ks=>rfl
@[reducible,instance] def Jm7{N:Nat}[hN:Fn N]{x0:Ja}:WP (Qpf N x0) (fun R=>(sz x0≤4096∧dpt x0≤4096)∧∀r:Ja,r=x0→R r):=Qhc (by
  intro h
  have:=hN.le
  exact Qeq N x0 (by omega) h.1)
@[reducible,instance] def Jdn{x0}{s}:=upL (N:=N) (s:=s) (Qed.eq_def N x0) (fun t=>t.1) x0.2.2.2.1.length (fun t=>sz x0≤4096∧t.2.1=x0.1∧t.2.2.1=x0.2.1∧t.2.2.2.1=x0.2.2.1∧t.2.2.2.2=x0.2.2.2.1.take t.1.toNat) (fun r:((Str×Int×Bool×(List Q3)))=>r.1=x0.1∧r.2.1=x0.2.1∧r.2.2.1=x0.2.2.1∧r.2.2.2=x0.2.2.2.1) (step:=by
  intro s h h0 h1 h2 hw
  try simp only[sS,reduceCtorEq]at *
  repeat' (first | intro _ | apply And.intro)
  all_goals first | grind [Ie,Rm,Bd.deep] | exact lv)
@[reducible,instance] def Jdo{x0}{s}:=upL (N:=N) (s:=s) (Qee.eq_def N x0) (fun t=>t.1) x0.2.2.2.2.1.length (fun t=>sz x0≤4096∧t.2.1=x0.1∧t.2.2.1=x0.2.1∧t.2.2.2.1=x0.2.2.1∧t.2.2.2.2.1=x0.2.2.2.1∧t.2.2.2.2.2=x0.2.2.2.2.1.take t.1.toNat) (fun r:((Str×Int×Bool×(List Q3)×(List Jg)))=>r.1=x0.1∧r.2.1=x0.2.1∧r.2.2.1=x0.2.2.1∧r.2.2.2.1=x0.2.2.2.1∧r.2.2.2.2=x0.2.2.2.2.1) (step:=by
  intro s h h0 h1 h2 hw
  try simp only[sS,reduceCtorEq]at *
  repeat' (first | intro _ | apply And.intro)
  all_goals first | grind [Ie,Rm,Bd.deep] | exact lv)
@[reducible,instance] def Jdp{x0}{s}:=upL (N:=N) (s:=s) (Qef.eq_def N x0) (fun t=>t.1) x0.2.2.2.2.2.1.length (fun t=>sz x0≤4096∧t.2.1=x0.1∧t.2.2.1=x0.2.1∧t.2.2.2.1=x0.2.2.1∧t.2.2.2.2.1=x0.2.2.2.1∧t.2.2.2.2.2.1=x0.2.2.2.2.1∧t.2.2.2.2.2.2=x0.2.2.2.2.2.1.take t.1.toNat) (fun r:((Str×Int×Bool×(List Q3)×(List Jg)×(List Y5)))=>r.1=x0.1∧r.2.1=x0.2.1∧r.2.2.1=x0.2.2.1∧r.2.2.2.1=x0.2.2.2.1∧r.2.2.2.2.1=x0.2.2.2.2.1∧r.2.2.2.2.2=x0.2.2.2.2.2.1) (step:=by
  intro s h h0 h1 h2 hw
  try simp only[sS,reduceCtorEq]at *
  repeat' (first | intro _ | apply And.intro)
  all_goals first | grind [Ie,Rm,Bd.deep] | exact lv)
@[reducible,instance] def Jdq{x0}{s}:=upL (N:=N) (s:=s) (Qeg.eq_def N x0) (fun t=>t.1) x0.2.2.2.2.2.2.length (fun t=>sz x0≤4096∧Bd x0∧t.2.1=x0.1∧t.2.2.1=x0.2.1∧t.2.2.2.1=x0.2.2.1∧t.2.2.2.2.1=x0.2.2.2.1∧t.2.2.2.2.2.1=x0.2.2.2.2.1∧t.2.2.2.2.2.2.1=x0.2.2.2.2.2.1∧t.2.2.2.2.2.2.2=x0.2.2.2.2.2.2.take t.1.toNat) (fun r:((Str×Int×Bool×(List Q3)×(List Jg)×(List Y5)×(List Ji)))=>r.1=x0.1∧r.2.1=x0.2.1∧r.2.2.1=x0.2.2.1∧r.2.2.2.1=x0.2.2.2.1∧r.2.2.2.2.1=x0.2.2.2.2.1∧r.2.2.2.2.2.1=x0.2.2.2.2.2.1∧r.2.2.2.2.2.2=x0.2.2.2.2.2.2) (step:=by
  intro s h h0 h1 h2 hw
  try simp only[sS,reduceCtorEq]at *
  repeat' (first | intro _ | apply And.intro)
  all_goals first | grind [Ie,Rm,Bd.deep] | exact lv)
@[reducible,instance] def Jl4{x0}:=mkW (Qc7.eq_1 N x0) (sz x0≤4096∧Bd x0) (fun r=>r=x0)
@[reducible,instance] def Jl5{x0 x1 x2}{s}:=upL (N:=N) (s:=s) (Ql0.eq_def N x0 x1 x2) (fun t=>t.2) x0.length (fun t=>x0.length≤4096 ∧ -1≤t.1∧t.1<x0.length) (fun r:((Int)) => -1≤r∧r<x0.length)
@[reducible,instance] def Jsf{x0 x1 x2}:=mkW (Qn0.eq_1 N x0 x1 x2) (sz x0≤4096∧Sh.sh x0∧Qx Bd x0) (fun r=>sz r≤4096∧Sh.sh r∧Qx (fun d=>dpt d.2.1≤4096) r.2.2.2.2.2.2.2) (k:=by
  intro h
  try simp only[sS,reduceCtorEq]at *
  repeat' (first | intro _ | apply And.intro)
  all_goals first | exact⟨fun _ h=>absurd h JB⟩ | exact⟨fun d hd=>absurd hd JB⟩ | exact Qx.all (And.right (And.right (by assumption))) _ (by assumption) | exact⟨Bd.deep (Qx.all (And.right (And.right (by assumption))) _ (by assumption))⟩ | exact lv)
@[reducible,instance] def Jhk{x0}{s}:=upL (N:=N) (s:=s) (Qi8.eq_def N x0) (fun t=>t) x0.length (fun t=>Sh.sh x0) (fun r:((Unit)⊕(Bool))=>True) (fun _ h=>Qhe (by grind))
@[reducible,instance] def Jo1{x0}:=mkW (Qj4.eq_1 N x0) (Sh.sh x0) (fun r=>True)
@[reducible,instance] def Jhl{x0 ce}:=mkW (Tx.eq_1 N x0 ce) (True) (fun r=>True)
@[reducible,instance] def Qoj{x0 ce}{s}:=upL (N:=N) (s:=s) (Gc.eq_def N x0 ce) (fun t=>t) x0.length (fun t=>x0.length≤9223372036854775807) (fun r:((Unit)⊕(Int))=>∀t,r=.inr t→0≤t∧t<x0.length)
@[reducible,instance] def Qq8{x0 ce}:=mkW (Km.eq_1 N x0 ce) (x0.length≤9223372036854775807) (fun r => -1≤r∧r<x0.length)
@[reducible,instance] def Qok{x0 ce}:=mkW (U2.eq_1 N x0 ce) (x0.length≤9223372036854775807) (fun r=>True)
@[reducible,instance] def Jl6{x0}:=mkW (Qc5.eq_1 N x0) (True) (fun r=>True)
@[reducible,instance] def Jdr{x0}{s}:=upL (N:=N) (s:=s) (Qea.eq_def N x0) (fun t=>t) x0.length (fun t=>Sh.sh x0) (fun r:((Unit)⊕(Bool))=>True) (fun _ h=>Qhe (by grind))
@[reducible,instance] def Jl7{x0}:=mkW (Eh.eq_1 N x0) (Sh.sh x0) (fun r=>True)
@[reducible,instance] def Jgn{x4}{s}:=upL (N:=N) (s:=s) (Qfx.eq_def N x4) (fun t=>t.1) x4.2.length (fun t=>x4.2.length≤9223372036854775807∧Sh.sh x4) (fun r:(((List (Str×Str)))⊕(Int))=>∀c,r=.inr c→c≠0)
@[reducible,instance] def Jgo{x0}{s}:=upL (N:=N) (s:=s) (Qfy.eq_def N x0) (fun t=>t.1) x0.length (fun t=>sz x0≤9223372036854775807∧Sh.sh x0∧x0.length≤9223372036854775807) (fun r:(((List (Str×Str)))⊕(Int))=>∀c,r=.inr c→c≠0)
@[reducible,instance] def Jm8{x0}:=mkW (Qfz.eq_1 N x0) (sz x0≤9223372036854775807∧Sh.sh x0) (fun r=>∀c,r=.inr c→c≠0)
@[reducible,instance] def Jac{x1 ce}{s}:=mkL (N:=N) (s:=s) (Qbm.eq_def N x1 ce) (fun t=>t.toNat) (fun t=>List.length x1≤9223372036854775807∧t≤List.length x1) (fun r:((Unit)⊕(Str×Bool))=>True)
@[reducible,instance] def Jhm{x1 x2 ce}:=mkW (Tz.eq_1 N x1 x2 ce) (List.length x1≤9223372036854775807∧x2≤List.length x1) (fun r=>True)
@[reducible,instance] def Jo2{x0 x1}:=mkW (Qj5.eq_1 N x0 x1) (sz x0≤9223372036854775807∧Sh.sh x0∧Sh.sh x1∧List.length x1≤9223372036854775807) (fun r=>True)
@[reducible,instance] def Jhn{x0}{s}:=upL (N:=N) (s:=s) (Qi9.eq_def N x0) (fun t=>t) x0.length (fun t=>Sh.sh x0) (fun r:((Unit)⊕(Bool))=>True) (fun _ h=>Qhe (by grind))
@[reducible,instance] def Jo3{x0}:=mkW (Qj6.eq_1 N x0) (Sh.sh x0) (fun r=>True)
@[reducible,instance] def Jho{x0 ce}:=mkW (T0.eq_1 N x0 ce) (True) (fun r=>True)
@[reducible,instance] def Qol{x0 ce}{s}:=upL (N:=N) (s:=s) (Ge.eq_def N x0 ce) (fun t=>t) x0.length (fun t=>x0.length≤9223372036854775807) (fun r:((Unit)⊕(Int))=>True)
@[reducible,instance] def Qq9{x0 ce}:=mkW (Kn.eq_1 N x0 ce) (x0.length≤9223372036854775807) (fun r=>True)
@[reducible,instance] def Qom{x0 ce}:=mkW (U3.eq_1 N x0 ce) (x0.length≤9223372036854775807) (fun r=>True)
@[reducible,instance] def Jgp{x0}{s}:=upL (N:=N) (s:=s) (Qf0.eq_def N x0) (fun t=>t) x0.length (fun t=>sz x0≤9223372036854775807) (fun r:((Unit)⊕(Int))=>True)
@[reducible,instance] def Jm9{x0}:=mkW (Qf1.eq_1 N x0) (sz x0≤9223372036854775807) (fun r=>True)
@[reducible,instance] def Jgq{x0}{s}:=upL (N:=N) (s:=s) (Qf2.eq_def N x0) (fun t=>t) x0.length (fun t=>sz x0≤4096∧x0.length≤64∧Sh.sh x0∧x0.length≤4096) (fun r:((Unit)⊕(Int))=>∀c,r=.inr c→c≠0)
@[reducible,instance] def Jna{x0}:=mkW (Qf3.eq_1 N x0) (sz x0≤4096∧Sh.sh x0) (fun r=>r=0→1≤x0.length∧x0.length≤64)
@[reducible,instance] def Q1v{x0 x1}{s}:=upL (N:=N) (s:=s) (Nd.eq_def N x0 x1) (fun t=>t) x0.length (fun t=>x0.length≤9223372036854775807) (fun r:((Unit)⊕(Int))=>True)
@[reducible,instance] def Jad{x0 x1}:=mkW (D2.eq_1 N x0 x1) (x0.length≤9223372036854775807) (fun r=>True)
@[reducible,instance] def Q1w{x0 x1}:=mkW (E1.eq_1 N x0 x1) (x0.length≤9223372036854775807) (fun r=>True)
@[reducible,instance] def Jae{x0}:=mkW (D3.eq_1 N x0) (True) (fun r=>0≤x0→x0<146097→0≤r) (k:=by
  intro h
  try simp only[sS,reduceCtorEq]at *
  repeat' (first | intro _ | apply And.intro)
  all_goals first | (rw[Q4 (by omega) (by omega),JV (by omega)]; omega) | exact lv)
@[reducible,instance] def Jsg{x0 x1}:=mkW (Qn1.eq_1 N x0 x1) (x0.length≤9223372036854775807∧0≤x1∧x1<146097) (fun r=>True)
@[reducible,instance] def Jl8{x0 ce c7}:=mkW (Qc8.eq_1 N x0 ce c7) (True) (fun r=>True)
@[reducible,instance] def Qon{x0 ce c7}{s}:=upL (N:=N) (s:=s) (Gf.eq_def N x0 ce c7) (fun t=>t) x0.length (fun t=>x0.length≤9223372036854775807) (fun r:((Unit)⊕(Int))=>True)
@[reducible,instance] def Qra{x0 ce c7}:=mkW (Ko.eq_1 N x0 ce c7) (x0.length≤9223372036854775807) (fun r=>True)
@[reducible,instance] def Qoo{x0 ce c7}:=mkW (U4.eq_1 N x0 ce c7) (x0.length≤9223372036854775807) (fun r=>True)
@[reducible,instance] def Jhp{x0 x1 x2}{s}:=upL (N:=N) (s:=s) (Qja.eq_def N x0 x1 x2) (fun t=>t) x0.length (fun t=>sz x0≤4096∧x0.length≤4096) (fun r:((Unit)⊕(Str))=>True)
@[reducible,instance] def Jo4{x0 x1 x2}:=mkW (Qj7.eq_1 N x0 x1 x2) (sz x0≤4096∧1≤x0.length) (fun r=>True) (k:=by
  intro h
  have g0:=(Um (l:=x0))
  try simp only[sS,reduceCtorEq]at *
  repeat' (first | intro _ | apply And.intro)
  all_goals first | exact lv)
@[reducible,instance] def Jtx{x0 x1 x2}:=mkW (Qtp.eq_1 N x0 x1 x2) (sz x0≤4096∧Sh.sh x0∧x1.length≤4096) (fun r=>True) (k:=by
  intro h
  have g0:=(show 0≤x2∧x2≤12622780799→IntKind.wrap .i64 (Int.tdiv x2 86400)=x2 / 86400 from fun a=>by rw[QO (by omega),Q4 (by omega) (by omega)])
  try simp only[sS,reduceCtorEq]at *
  repeat' (first | intro _ | apply And.intro)
  all_goals first | exact lv)
@[reducible,instance] def Jgr{x0 ce c7 cd}:=mkW (Pm.eq_1 N x0 ce c7 cd) (True) (fun r=>True)
@[reducible,instance] def Jds{x0 x1 x2 x3}{s}:=upL (N:=N) (s:=s) (Qeh.eq_def N x0 x1 x2 x3) (fun t=>t.1) x0.2.2.2.2.2.1.length (fun t=>sz x0≤4096∧x0.2.2.2.2.2.1.length≤4096) (fun r:((Int×Str×Str×Int)⊕(Bool×Int×Str×Str×Int×(List Qp)))=>∀t,r=.inr t→t.2.2.2.2.2.length≤4096)
@[reducible,instance] def Jl9{x0 x1 x2 x3}:=mkW (Qc9.eq_1 N x0 x1 x2 x3) (sz x0≤4096) (fun r=>r.2.2.2.2.2.length≤4096)
@[reducible,instance] def Q7o{x1 x0}{s}:=Qmp (N:=N) (s:=s) (S5.eq_def N x1 x0) x1 (x1.length≤9223372036854775807) (fun y=>0≤y∧y≤x0) (∀y∈x1,0≤y∧y≤x0) (fun u=>u=false)
@[reducible,instance] def Jgs{x0 x1}:=mkW (B7.eq_1 N x0 x1) (x1.length≤9223372036854775807) (fun r=>r=true→Q5s x0 x1) (k:=by
  intro h
  try simp only[sS,reduceCtorEq]at *
  repeat' (first | intro _ | apply And.intro)
  all_goals first | exact Q5t (by assumption) | exact lv)
@[reducible,instance] def Jaf{x0}{s}:=upL (N:=N) (s:=s) (Qby.eq_def N x0) (fun t=>t.2) x0.length (fun t=>x0.length≤64∧Nu Qoh x0 t.2) (fun r:((Unit)⊕(Int))=>(∀u,r=.inl u→∀y∈x0,Qoh y)∧∀u,r=.inr u→u≠0) (step:=by
  intro s h h0 h1 h2 hw
  try simp only[sS,reduceCtorEq]at *
  repeat' (first | intro _ | apply And.intro)
  all_goals first | exact W7 | (rw[hw (by assumption)]; exact Rj h0 h.2 (by assumption) (Jf7 (by grind) (by grind) (by grind))) | exact Qhy h.2 (by omega) _ (by assumption) | exact lv)
@[reducible,instance] def Jhq{x0}:=mkW (Qab.eq_1 N x0) (x0.length≤9223372036854775807) (fun r=>r=0→Qx Qoh x0∧x0.length≤64) (k:=by
  intro h
  try simp only[sS,reduceCtorEq]at *
  repeat' (first | intro _ | apply And.intro)
  all_goals first | exact⟨by assumption⟩ | exact lv)
@[reducible,instance] def Q0s{r1}{s}:=upL (N:=N) (s:=s) (Lg.eq_def N r1) (fun t=>t.1) r1.length (fun t=>sz r1≤1000000000000∧t.2=r1∧r1.length≤1000000000000) (fun r:(((List Qb)))=>r=r1) (step:=by
  intro s h h0 h1 h2 hw
  try simp only[sS,reduceCtorEq]at *
  repeat' (first | intro _ | apply And.intro)
  all_goals first | ((repeat cases ‹_∧_›); subst_vars; exact Qd0 (by assumption) (by assumption)) | grind [Qd0] | exact lv)
@[reducible,instance] def Q7p{x0}:=mkW (G1.eq_1 N x0) (sz x0.1≤1000000000000∧x0.2.1.length≤1000000000000∧x0.2.2.length≤1000000000000) (fun r=>r=x0)
@[reducible,instance] def Q1x{r1}{s}:=upL (N:=N) (s:=s) (Nb.eq_def N r1) (fun t=>t.1) r1.length (fun t=>sz r1≤1000000000000∧t.2=r1∧r1.length≤1000000000000) (fun r:(((List Qb)))=>r=r1) (step:=by
  intro s h h0 h1 h2 hw
  try simp only[sS,reduceCtorEq]at *
  repeat' (first | intro _ | apply And.intro)
  all_goals first | ((repeat cases ‹_∧_›); subst_vars; exact Qd0 (by assumption) (by assumption)) | grind [Qd0] | exact lv)
@[reducible,instance] def Jag{x0}:=mkW (Eg.eq_1 N x0) (sz x0.1≤1000000000000∧x0.2.1.length≤1000000000000∧x0.2.2.length≤1000000000000) (fun r=>r=x0)
@[reducible,instance] def Q1y{x0}:=mkW (Xk.eq_1 N x0) (x0.2.2.2.2.2.2.1.length≤1000000000000∧x0.2.2.2.2.1.2.2.2.2.2.2.1.2.2.2.2.length≤4096) (fun r=>r=(x0.1,x0.2.1,x0.2.2.1,x0.2.2.2.1,x0.2.2.2.2.1.1,x0.2.2.2.2.1.2.1,x0.2.2.2.2.1.2.2.1,x0.2.2.2.2.1.2.2.2.1,x0.2.2.2.2.1.2.2.2.2.1,x0.2.2.2.2.1.2.2.2.2.2.1,x0.2.2.2.2.1.2.2.2.2.2.2.1.1,x0.2.2.2.2.1.2.2.2.2.2.2.1.2.1,x0.2.2.2.2.1.2.2.2.2.2.2.1.2.2.1,x0.2.2.2.2.1.2.2.2.2.2.2.1.2.2.2.1,x0.2.2.2.2.1.2.2.2.2.2.2.2.1,x0.2.2.2.2.1.2.2.2.2.2.2.2.2,x0.2.2.2.2.2.1,x0.2.2.2.2.2.2.2.1,x0.2.2.2.2.2.2.2.2.1,x0.2.2.2.2.2.2.2.2.2.1,x0.2.2.2.2.2.2.2.2.2.2,x0.2.2.2.2.1.2.2.2.2.2.2.1.2.2.2.2,x0.2.2.2.2.2.2.1))
@[reducible,instance] def Jdt{x0 x1 x2 x3}:=mkW (U1.eq_1 N x0 x1 x2 x3) (sz x0.1≤1000000000000∧x0.2.1.length≤1000000000000∧x0.2.2.length≤1000000000000∧x1.2.2.2.2.2.2.1.length≤1000000000000∧x1.2.2.2.2.1.2.2.2.2.2.2.1.2.2.2.2.length≤4096) (fun r=>r=(x1.1,x1.2.1,x1.2.2.1,x1.2.2.2.1,x1.2.2.2.2.1.1,x1.2.2.2.2.1.2.1,x1.2.2.2.2.1.2.2.1,x1.2.2.2.2.1.2.2.2.1,x1.2.2.2.2.1.2.2.2.2.1,x1.2.2.2.2.1.2.2.2.2.2.1,x1.2.2.2.2.1.2.2.2.2.2.2.1.1,x1.2.2.2.2.1.2.2.2.2.2.2.1.2.1,x1.2.2.2.2.1.2.2.2.2.2.2.1.2.2.1,x1.2.2.2.2.1.2.2.2.2.2.2.1.2.2.2.1,x1.2.2.2.2.1.2.2.2.2.2.2.2.1,x1.2.2.2.2.1.2.2.2.2.2.2.2.2,x1.2.2.2.2.2.1,x1.2.2.2.2.2.2.2.1,x1.2.2.2.2.2.2.2.2.1,x1.2.2.2.2.2.2.2.2.2.1,x1.2.2.2.2.2.2.2.2.2.2,(x2.1,x2.2.1,0,0,x3),x0.1,x0.2.1,x0.2.2,x1.2.2.2.2.1.2.2.2.2.2.2.1.2.2.2.2,x1.2.2.2.2.2.2.1))
@[reducible,instance] def Jhr{x0 x1}:=mkW (Gm.eq_1 N x0 x1) (sz x0.1≤1000000000000∧x0.2.1.length≤1000000000000∧x0.2.2.length≤1000000000000∧x1.2.2.2.2.2.2.1.length≤1000000000000∧x1.2.2.2.2.1.2.2.2.2.2.2.1.2.2.2.2.length≤4096) (fun r=>r=(x1.1,x1.2.1,x1.2.2.1,x1.2.2.2.1,x1.2.2.2.2.1.1,x1.2.2.2.2.1.2.1,x1.2.2.2.2.1.2.2.1,x1.2.2.2.2.1.2.2.2.1,x1.2.2.2.2.1.2.2.2.2.1,x1.2.2.2.2.1.2.2.2.2.2.1,x1.2.2.2.2.1.2.2.2.2.2.2.1.1,x1.2.2.2.2.1.2.2.2.2.2.2.1.2.1,x1.2.2.2.2.1.2.2.2.2.2.2.1.2.2.1,x1.2.2.2.2.1.2.2.2.2.2.2.1.2.2.2.1,x1.2.2.2.2.1.2.2.2.2.2.2.2.1,x1.2.2.2.2.1.2.2.2.2.2.2.2.2,x1.2.2.2.2.2.1,x1.2.2.2.2.2.2.2.1,x1.2.2.2.2.2.2.2.2.1,x1.2.2.2.2.2.2.2.2.2.1,x1.2.2.2.2.2.2.2.2.2.2,x1.2.2.2.2.1.2.2.2.2.2.2.1.2.2.2.2,x1.2.2.2.2.2.2.1,x0.1,x0.2.1,x0.2.2))
@[reducible,instance] def Jma{x0 x1}:=mkW (K3.eq_1 N x0 x1) (True) (fun r=>r=true→0≤x0∧x0≤x1)
@[reducible,instance] def Q6b{x0 x1}{s}:=upL (N:=N) (s:=s) (Px.eq_def N x0 x1) (fun t=>t.2.2) x0.length (fun t=>x0.length≤64∧Qx Qoh x0∧0≤t.2.1∧t.2.1≤2199023255552∧x1≤2199023255552) (fun r:((Int)⊕(Int×Bool))=>True) (step:=by
  intro s h h0 h1 h2 hw
  have g0:=(fun y hy=>⟨(h.2.1.all y hy).upto,(h.2.1.all y hy).inc,(h.2.1.all y hy).price⟩:∀y∈x0,(0≤y.1∧y.1≤1099511627776)∧(1≤y.2.1∧y.2.1≤1099511627776)∧(0≤y.2.2∧y.2.2≤1125899906842624)); have g1:=Jlo
  try simp only[sS,reduceCtorEq]at *
  repeat' (first | intro _ | apply And.intro)
  all_goals first | exact Jvu (by assumption) (g0 _ (by assumption)).2.1 (by assumption) h.2.2.1 (by first | omega | (have k:=(g0 _ (by assumption)).1.2; split<;>omega)) | (have k:=(g0 _ (by assumption)).1.2; split<;>omega) | exact lv)
@[reducible,instance] def Jdu{x0 x1}:=mkW (Mj.eq_1 N x0 x1) (x0.length≤64∧Qx Qoh x0∧x1≤2199023255552) (fun r=>True)
@[reducible,instance] def Jmb{x0 x1}:=mkW (Qdg.eq_1 N x0 x1) (x0.length≤4096) (fun r=>True)
@[reducible,instance] def Q6c{x0 x1}:=mkW (Wz.eq_1 N x0 x1) (x0.2.2.2.2.2.2.1.2.2.2.2.length≤4096) (fun r=>True)
@[reducible,instance] def Q7q{x0 x1}:=mkW (K4.eq_1 N x0 x1) (x0.2.2.2.2.2.2.1.2.2.2.2.length≤4096) (fun r=>True)
@[reducible,instance] def Q1z{x0 ce c7}:=mkW (E2.eq_1 N x0 ce c7) (ce.2.2.2.2.2.2.1.2.2.2.2.length≤4096) (fun r=>True)
@[reducible,instance] def Q0t{x0 x2}{s}:=mkL (N:=N) (s:=s) (Lk.eq_def N x0 x2) (fun t=>(t.2 - t.1).toNat) (fun t=>x0.2.2.2.2.2.2.1.2.2.2.2.length≤4096∧0≤t.1∧t.1≤t.2∧t.2≤9223372036854775807) (fun r:((Int))=>True) (step:=by
  intro s h
  have g0:=(show 0≤s.1∧s.1<s.2∧s.2≤9223372036854775807→IntKind.wrap .i64 (s.2 - IntKind.wrap .i64 (Int.tdiv (IntKind.wrap .i64 (s.2 - s.1)) 2))=s.2 - (s.2 - s.1) / 2∧IntKind.wrap .i64 (s.2 - (s.2 - s.1) / 2 - 1)=s.2 - (s.2 - s.1) / 2 - 1 from fun a=>by rw[Q4 (n:=s.2 - s.1) (by omega) (by omega),QO (by omega),Q4 (n:=(s.2 - s.1) / 2) (by omega) (by omega),Q4 (by omega) (by omega),Q4 (by omega) (by omega)]; exact⟨rfl,rfl⟩)
  try simp only[sS,reduceCtorEq]at *
  repeat' (first | intro _ | apply And.intro)
  all_goals first | ((have q:=(by assumption:_∧_∧_∧_); have k:=g0 ⟨q.2.1,(by assumption),q.2.2.2⟩; simp only[k.1,k.2]); omega) | exact lv)
@[reducible,instance] def Q7r{x0 x1 x2}:=mkW (B8.eq_1 N x0 x1 x2) (x0.2.2.2.2.2.2.1.2.2.2.2.length≤4096∧x1≤9223372036854775807) (fun r=>True)
@[reducible,instance] def Jnb{x0}:=mkW (Sy.eq_1 N x0) (True) (fun r=>True)
@[reducible,instance] def Q7s{ce x2}{s}:=upL (N:=N) (s:=s) (S7.eq_def N ce x2) (fun t=>t) ce.length (fun t=>ce.length≤1000000000000) (fun r:((Unit)⊕(Int))=>True)
@[reducible,instance] def Jgt{x0 x1_0 x1_2 x2 x3 ce}:=mkW (Py.eq_1 N x0 x1_0 x1_2 x2 x3 ce) (x0.1.length≤40∧ce.length≤1000000000000) (fun r=>True)
@[reducible,instance] def Jgu[Vf]{x0 x1_0 x1_2 x2 x3 x4 ce}:=mkW (B9.eq_1 N x0 x1_0 x1_2 x2 x3 x4 ce) (x0.1.length≤40∧Qx (fun m:Qm=>Aft m.1) x0.1∧sz x1_0≤1000000000000∧ce.length≤1000000000000∧x2.2.2.2.2.2.2.1.2.2.2.2.length≤4096) (fun r=>True) (k:=by
  intro h
  have g0:=h.2.1; have g1:=Joz
  try simp only[sS,reduceCtorEq]at *
  repeat' (first | intro _ | apply And.intro)
  all_goals first | exact g0 | exact g1 _ | exact lv)
@[reducible,instance] def Jo5{x0 x1}:=mkW (Qdh.eq_1 N x0 x1) (x0.2.2.2.2.2.2.1.2.2.2.2.length≤4096) (fun r=>True)
@[reducible,instance] def Jmc{x0 x1 x2}:=mkW (Nx.eq_1 N x0 x1 x2) (x0.2.2.2.2.2.2.1.2.2.2.2.length≤4096) (fun r=>r.2.2.2.2.2.2.2.2.2.2.2.2.2.2.length≤4096)
@[reducible,instance] def Jnc{x0 x1}:=mkW (S6.eq_1 N x0 x1) (True) (fun r=>True)
@[reducible,instance] def Jhs{x0 x1 x2}:=mkW (Il.eq_1 N x0 x1 x2) (True) (fun r=>True)
@[reducible,instance] def Jo6[Vf]{x0 x1 x2 x3 x4 x5}:=mkW (Qj8.eq_1 N x0 x1 x2 x3 x4 x5) (L3 x0∧Qx (fun m:Qm=>Aft m.1) x0.1∧Sh.sh x4∧List.length x4≤9223372036854775807) (fun r=>r.2.2.2.2.2.2.2.2.2.2.2.2.2.length≤4096∧(r.2.2.2.2.2.2.2.2.2.2.2.2.1=0→x5<12622780800)) (k:=by
  intro h
  have g0:=h.1.ev; have g1:=h.1.tarL; have g2:=h.1.tarS; have g3:=h.1.tarO; have g4:=h.1.hol; have g5:=h.2.1
  try simp only[sS,reduceCtorEq]at *
  repeat' (first | intro _ | apply And.intro)
  all_goals first | assumption | exact lv)
@[reducible,instance] def Jnd{x0 x1 x2}:=mkW (Qf5.eq_1 N x0 x1 x2) (True) (fun r=>True)
@[reducible,instance] def Jgv{v6 x7}{s}:=upL (N:=N) (s:=s) (Qf6.eq_def N v6 x7) (fun t=>t.2) v6.length (fun t=>v6.length≤1000000000000∧t.1 = -1) (fun r:((Int)) => -1≤r∧r<v6.length)
@[reducible,instance] def Jgw{x1}{s}:=upL (N:=N) (s:=s) (Qf7.eq_def N x1) (fun t=>t.1) x1.length (fun t=>x1.length≤1000000000000∧t.2.length=s.2.length∧s.2.length≤1000000000000∧sz t.2≤1000000000000) (fun r:(((List Qb))⊕(Int))=>∀t,r=.inl t→t.length=s.2.length∧sz t≤1000000000000)
@[reducible,instance] def Jne{x0 x1}:=mkW (S8.eq_1 N x0 x1) (sz x0≤1000000000000∧x1.length≤1000000000000) (fun r=>r.2.length≤x0.length∧sz r.2≤1000000000000)
@[reducible,instance] def Qqr{x0 gt gw gx gy gr j9 ja jb jc jd gq je cd ck}:=mkW (Z3.eq_1 N x0 gt gw gx gy gr j9 ja jb jc jd gq je cd ck) (True) (fun r=>True)
@[reducible,instance] def Qjk{ce g8 g9 ga gb gc gg gi gj gk gm db gn ck}{s}:=upL (N:=N) (s:=s) (Kg.eq_def N ce g8 g9 ga gb gc gg gi gj gk gm db gn ck) (fun t=>t) ce.length (fun t=>ce.length≤1000000000000) (fun r:((Unit)⊕(Int))=>∀t,r=.inr t→0≤t∧t<ce.length)
@[reducible,instance] def Qms{ce g8 g9 ga gb gc gg gi gj gk gm db gn ck}:=mkW (Vc.eq_1 N ce g8 g9 ga gb gc gg gi gj gk gm db gn ck) (ce.length≤1000000000000) (fun r => -1≤r∧r<ce.length)
@[reducible,instance] def Qun{cq cz ct d5 da cp cy cx cw d6 cg ci c7 cd}:=mkW (Xd.eq_1 N cq cz ct d5 da cp cy cx cw d6 cg ci c7 cd) (cd.length≤1000000000000) (fun r => -1≤r.1∧r.1<cd.length∧r.2=cd)
@[reducible,instance] def Quo{cq cz ct d5 da cp cy cx cw d6 cg ci c7 cd}:=mkW (Xe.eq_1 N cq cz ct d5 da cp cy cx cw d6 cg ci c7 cd) (cd.length≤1000000000000) (fun r => -1≤r.1∧r.1<cd.length∧r.2.1=cq∧r.2.2.1=cz∧r.2.2.2.1=ct∧r.2.2.2.2.1=d5∧r.2.2.2.2.2.1=da∧r.2.2.2.2.2.2.1=cp∧r.2.2.2.2.2.2.2.1=cy∧r.2.2.2.2.2.2.2.2.1=cx∧r.2.2.2.2.2.2.2.2.2.1=cw∧r.2.2.2.2.2.2.2.2.2.2.1=d6∧r.2.2.2.2.2.2.2.2.2.2.2.1=cg∧r.2.2.2.2.2.2.2.2.2.2.2.2.1=ci∧r.2.2.2.2.2.2.2.2.2.2.2.2.2.1=c7∧r.2.2.2.2.2.2.2.2.2.2.2.2.2.2=cd)
@[reducible,instance] def Qqs{x0 gt gw gx gy gr j9 ja jb jc jd gq cd ck cm}:=mkW (Z4.eq_1 N x0 gt gw gx gy gr j9 ja jb jc jd gq cd ck cm) (True) (fun r=>True)
@[reducible,instance] def Qjl{ce g8 g9 ga gb gc gg gi gj gk gm db ck cm}{s}:=upL (N:=N) (s:=s) (Kh.eq_def N ce g8 g9 ga gb gc gg gi gj gk gm db ck cm) (fun t=>t) ce.length (fun t=>ce.length≤1000000000000) (fun r:((Unit)⊕(Int))=>∀t,r=.inr t→0≤t∧t<ce.length)
@[reducible,instance] def Qmt{ce g8 g9 ga gb gc gg gi gj gk gm db ck cm}:=mkW (Uk.eq_1 N ce g8 g9 ga gb gc gg gi gj gk gm db ck cm) (ce.length≤1000000000000) (fun r => -1≤r.1∧r.1<ce.length∧r.2.1=ce∧r.2.2.1=g8∧r.2.2.2.1=g9∧r.2.2.2.2.1=ga∧r.2.2.2.2.2.1=gb∧r.2.2.2.2.2.2.1=gc∧r.2.2.2.2.2.2.2.1=gg∧r.2.2.2.2.2.2.2.2.1=gi∧r.2.2.2.2.2.2.2.2.2.1=gj∧r.2.2.2.2.2.2.2.2.2.2.1=gk∧r.2.2.2.2.2.2.2.2.2.2.2.1=gm∧r.2.2.2.2.2.2.2.2.2.2.2.2.1=db∧r.2.2.2.2.2.2.2.2.2.2.2.2.2.1=ck∧r.2.2.2.2.2.2.2.2.2.2.2.2.2.2=cm)
@[reducible,instance] def Qup{cq cz ct d5 de dg di dj dl dq du dv dw dx jg dy dz cp cy cx cw d6 cg c7 cd ck}:=mkW (Xf.eq_1 N cq cz ct d5 de dg di dj dl dq du dv dw dx jg dy dz cp cy cx cw d6 cg c7 cd ck) (cd.length≤1000000000000) (fun r => -1≤r.1∧r.1<cd.length∧r.2.1=cq∧r.2.2.1=cz∧r.2.2.2.1=ct∧r.2.2.2.2.1=d5∧r.2.2.2.2.2.1.1=de∧r.2.2.2.2.2.1.2.1=dg∧r.2.2.2.2.2.1.2.2.1=di∧r.2.2.2.2.2.1.2.2.2.1=dj∧r.2.2.2.2.2.1.2.2.2.2.1=dl∧r.2.2.2.2.2.1.2.2.2.2.2.1=dq∧r.2.2.2.2.2.1.2.2.2.2.2.2.1.1=du∧r.2.2.2.2.2.1.2.2.2.2.2.2.1.2.1=dv∧r.2.2.2.2.2.1.2.2.2.2.2.2.1.2.2.1=dw∧r.2.2.2.2.2.1.2.2.2.2.2.2.1.2.2.2.1=dx∧r.2.2.2.2.2.1.2.2.2.2.2.2.1.2.2.2.2=jg∧r.2.2.2.2.2.1.2.2.2.2.2.2.2.1=dy∧r.2.2.2.2.2.1.2.2.2.2.2.2.2.2=dz∧r.2.2.2.2.2.2.1=cp∧r.2.2.2.2.2.2.2.1=cy∧r.2.2.2.2.2.2.2.2.1=cx∧r.2.2.2.2.2.2.2.2.2.1=cw∧r.2.2.2.2.2.2.2.2.2.2.1=d6∧r.2.2.2.2.2.2.2.2.2.2.2.1=cg∧r.2.2.2.2.2.2.2.2.2.2.2.2.1=c7∧r.2.2.2.2.2.2.2.2.2.2.2.2.2.1=cd∧r.2.2.2.2.2.2.2.2.2.2.2.2.2.2=ck)
@[reducible,instance] def Qqt{x0 jh gq je cd}:=mkW (Z5.eq_1 N x0 jh gq je cd) (True) (fun r=>True)
@[reducible,instance] def Qjm{ce jf db gn}{s}:=upL (N:=N) (s:=s) (Ki.eq_def N ce jf db gn) (fun t=>t) ce.length (fun t=>ce.length≤1000000000000) (fun r:((Unit)⊕(Int))=>∀t,r=.inr t→0≤t∧t<ce.length)
@[reducible,instance] def Qmu{ce jf db gn}:=mkW (Ul.eq_1 N ce jf db gn) (ce.length≤1000000000000) (fun r => -1≤r∧r<ce.length)
@[reducible,instance] def Quq{ca cg ci c7}:=mkW (Xg.eq_1 N ca cg ci c7) (c7.length≤1000000000000) (fun r => -1≤r.1∧r.1<c7.length∧r.2=c7)
@[reducible,instance] def Qrb{x1 cq cz ct d5 da cp cy cx cw d6 cg ci c7 cd}:=mkW (Kp.eq_1 N x1 cq cz ct d5 da cp cy cx cw d6 cg ci c7 cd) (cd.length≤1000000000000∧da.2.2.2.2.2.2.1.2.2.2.2.length≤4096) (fun r=>r.1=cq∧r.2.1=cz∧r.2.2.1=ct∧r.2.2.2.1=d5∧r.2.2.2.2.1=da∧r.2.2.2.2.2.1=cp∧r.2.2.2.2.2.2.2.1=cx∧r.2.2.2.2.2.2.2.2.1=cw∧r.2.2.2.2.2.2.2.2.2.1=d6∧r.2.2.2.2.2.2.2.2.2.2.1=cg∧r.2.2.2.2.2.2.2.2.2.2.2.1=ci∧r.2.2.2.2.2.2.2.2.2.2.2.2.1=c7∧r.2.2.2.2.2.2.2.2.2.2.2.2.2.length=cd.length)
@[reducible,instance] def Qrc{x1 ca cg ci c7}:=mkW (Kq.eq_1 N x1 ca cg ci c7) (c7.length≤1000000000000∧ca.2.2.2.2.2.2.1.length≤1000000000000∧ca.2.2.2.2.1.2.2.2.2.2.2.1.2.2.2.2.length≤4096) (fun r=>r.1.1=ca.1∧r.1.2.1=ca.2.1∧r.1.2.2.1=ca.2.2.1∧r.1.2.2.2.1=ca.2.2.2.1∧r.1.2.2.2.2.1=ca.2.2.2.2.1∧r.1.2.2.2.2.2.1=ca.2.2.2.2.2.1∧r.1.2.2.2.2.2.2.1=ca.2.2.2.2.2.2.1∧r.1.2.2.2.2.2.2.2.2.1=ca.2.2.2.2.2.2.2.2.1∧r.1.2.2.2.2.2.2.2.2.2.1=ca.2.2.2.2.2.2.2.2.2.1∧r.1.2.2.2.2.2.2.2.2.2.2=ca.2.2.2.2.2.2.2.2.2.2∧r.2.1=cg∧r.2.2.1=ci∧r.2.2.2.length=c7.length)
@[reducible,instance] def Qur{c7 x1}{s}:=upL (N:=N) (s:=s) (Fd.eq_def N c7 x1) (fun t=>t.2.1) c7.length (fun t=>c7.length≤1000000000000∧t.2.2.length≤t.2.1) (fun r:((Int×(List Qi)))=>r.2.length≤c7.length)
@[reducible,instance] def Qpt{cd x1}{s}:=upL (N:=N) (s:=s) (G7.eq_def N cd x1) (fun t=>t.2.1) cd.length (fun t=>cd.length≤1000000000000∧t.2.2.length≤t.2.1) (fun r:((Int×(List Qi)))=>r.2.length≤cd.length)
@[reducible,instance] def Qx7{x1 cq cz ct d5 da cp cy cx cw d6 cg ci c7 cd}:=mkW (Gr.eq_1 N x1 cq cz ct d5 da cp cy cx cw d6 cg ci c7 cd) (sz cg≤1000000000000∧c7.length≤1000000000000∧cd.length≤1000000000000∧da.2.2.2.2.2.2.1.2.2.2.2.length≤4096) (fun r=>r.1.1=cq∧r.1.2.1=cz∧r.1.2.2.1=ct∧r.1.2.2.2.1=d5∧r.1.2.2.2.2.2.1=0∧r.1.2.2.2.2.2.2.1=([]:List Qi)∧r.1.2.2.2.2.2.2.2.1=0∧r.1.2.2.2.2.2.2.2.2.2.1=cw∧r.1.2.2.2.2.2.2.2.2.2.2=d6∧r.2.2.1=ci∧r.1.2.2.2.2.2.2.1.length≤1000000000000∧r.1.2.2.2.2.1.2.2.2.2.2.2.1.2.2.2.2.length≤4096∧r.2.1.length≤cg.length∧sz r.2.1≤1000000000000∧r.2.2.2.length=cd.length) (k:=by
  intro h
  try simp only[sS,reduceCtorEq]at *
  repeat' (first | intro _ | apply And.intro)
  all_goals first | ((repeat cases ‹_∧_›); first | assumption | omega | (simp only[*]; first | done | assumption | omega)) | exact lv)
@[reducible,instance] def Qus{x1 cq cz ct d5 de dg di dj dl dq du dv dw dx dy dz cp cy cx cw d6 c7 cd ck cm d7}:=mkW (Vj.eq_1 N x1 cq cz ct d5 de dg di dj dl dq du dv dw dx dy dz cp cy cx cw d6 c7 cd ck cm d7) (sz ck≤1000000000000∧cd.length≤1000000000000∧cm.length≤1000000000000∧c7.length≤4096) (fun r=>r.1.1=cq∧r.1.2.1=cz∧r.1.2.2.1=ct∧r.1.2.2.2.1=d5∧r.1.2.2.2.2.2.1=0∧r.1.2.2.2.2.2.2.1=([]:List Qi)∧r.1.2.2.2.2.2.2.2.1=0∧r.1.2.2.2.2.2.2.2.2.2.1=cw∧r.1.2.2.2.2.2.2.2.2.2.2=d6∧r.2.2.2=d7∧r.1.2.2.2.2.2.2.1.length≤1000000000000∧r.1.2.2.2.2.1.2.2.2.2.2.2.1.2.2.2.2.length≤4096∧r.2.1.length≤ck.length∧sz r.2.1≤1000000000000∧r.2.2.1.length=cm.length) (k:=by
  intro h
  try simp only[sS,reduceCtorEq]at *
  repeat' (first | intro _ | apply And.intro)
  all_goals first | ((repeat cases ‹_∧_›); first | assumption | omega | (simp only[*]; first | done | assumption | omega)) | exact lv)
@[reducible,instance] def Q0u[Vf]{x1 x2 x3 cq cz ct d5 de dg di dj dl dq du dv dw dx dy dz cp cy cx cw d6 c7 cd ck cm d7}:=mkW (Hw.eq_1 N x1 x2 x3 cq cz ct d5 de dg di dj dl dq du dv dw dx dy dz cp cy cx cw d6 c7 cd ck cm d7) (L3 x1∧Qx (fun m:Qm=>Aft m.1) x1.1∧(0<x1.1.length→x2<Vf.hi)∧ck.length≤900000000000∧sz ck≤1000000000000∧cm.length≤1000000000∧d7.length≤1000000000∧c7.length≤4096∧cd.length≤1000000000000) (fun r=>r.2.1=cq∧r.2.2.1=cz∧r.2.2.2.1=ct∧r.2.2.2.2.2.1=de∧r.2.2.2.2.2.2.1=dg∧r.2.2.2.2.2.2.2.1=di∧r.2.2.2.2.2.2.2.2.1=dj∧r.2.2.2.2.2.2.2.2.2.1=dl∧r.2.2.2.2.2.2.2.2.2.2.1=dq∧r.2.2.2.2.2.2.2.2.2.2.2.1=du∧r.2.2.2.2.2.2.2.2.2.2.2.2.1=dv∧r.2.2.2.2.2.2.2.2.2.2.2.2.2.1=dw∧r.2.2.2.2.2.2.2.2.2.2.2.2.2.2.1=dx∧r.2.2.2.2.2.2.2.2.2.2.2.2.2.2.2.1=c7∧r.2.2.2.2.2.2.2.2.2.2.2.2.2.2.2.2.1=dy∧r.2.2.2.2.2.2.2.2.2.2.2.2.2.2.2.2.2.1=dz∧r.2.2.2.2.2.2.2.2.2.2.2.2.2.2.2.2.2.2.2.2.1=cx∧r.2.2.2.2.2.2.2.2.2.2.2.2.2.2.2.2.2.2.2.2.2.1=cw∧r.2.2.2.2.2.2.2.2.2.2.2.2.2.2.2.2.2.2.2.2.2.2.1=d6∧r.2.2.2.2.2.2.2.2.2.2.2.2.2.2.2.2.2.2.2.2.2.2.2.2.1=d7∧r.2.2.2.2.2.2.2.2.2.2.2.2.2.2.2.2.2.2.2.2.2.2.2.1.length≤ck.length+11468800000∧sz r.2.2.2.2.2.2.2.2.2.2.2.2.2.2.2.2.2.2.2.2.2.2.2.1≤1000000000000∧r.2.2.2.2.2.2.2.2.2.2.2.2.2.2.2.2.2.2.2.2.2.2.2.2.2.1.length≤1000000000000∧r.2.2.2.2.2.2.2.2.2.2.2.2.2.2.2.2.2.2.2.2.2.2.2.2.2.2.length≤cm.length+1) (k:=by
  intro h
  have g0:=h.1.ev; have g1:=h.1.tarL; have g2:=h.1.tarS; have g3:=h.1.tarO; have g4:=h.1.prodL; have g5:=h.1.prodS; have g6:=h.1.prodO; have g7:=h.1.hol
  try simp only[sS,reduceCtorEq]at *
  repeat' (first | intro _ | apply And.intro)
  all_goals first | ((repeat cases ‹_∧_›); first | assumption | omega | (simp only[*]; first | done | assumption | omega) | grind) | exact lv)
@[reducible,instance] def Qu4[Vf]{x1 x2 x3 ca cg c7 cd}:=mkW (X6.eq_1 N x1 x2 x3 ca cg c7 cd) (L3 x1∧Qx (fun m:Qm=>Aft m.1) x1.1∧(0<x1.1.length→x2<Vf.hi)∧cg.length≤900000000000∧sz cg≤1000000000000∧c7.length≤1000000000∧cd.length≤1000000000∧ca.2.2.2.2.2.2.1.length≤1000000000000∧ca.2.2.2.2.1.2.2.2.2.2.2.1.2.2.2.2.length≤4096) (fun r=>r.2.1.1=ca.1∧r.2.1.2.1=ca.2.1∧r.2.1.2.2.1=ca.2.2.1∧r.2.1.2.2.2.2.1=ca.2.2.2.2.1∧r.2.1.2.2.2.2.2.2.2.2.1=ca.2.2.2.2.2.2.2.2.1∧r.2.1.2.2.2.2.2.2.2.2.2.1=ca.2.2.2.2.2.2.2.2.2.1∧r.2.1.2.2.2.2.2.2.2.2.2.2=ca.2.2.2.2.2.2.2.2.2.2∧r.2.2.2.1=cd∧r.2.1.2.2.2.2.2.2.1.length≤1000000000000∧r.2.1.2.2.2.2.1.2.2.2.2.2.2.1.2.2.2.2.length≤4096∧r.2.2.1.length≤cg.length+11468800000∧sz r.2.2.1≤1000000000000∧r.2.2.2.2.length≤c7.length+1) (k:=by
  intro h
  have g0:=h.1.ev; have g1:=h.1.tarL; have g2:=h.1.tarS; have g3:=h.1.tarO; have g4:=h.1.prodL; have g5:=h.1.prodS; have g6:=h.1.prodO; have g7:=h.1.hol
  try simp only[sS,reduceCtorEq]at *
  repeat' (first | intro _ | apply And.intro)
  all_goals first | ((repeat cases ‹_∧_›); first | assumption | omega | (simp only[*]; first | done | assumption | omega) | grind) | exact lv)
@[reducible,instance] def Q10{x1 x2 x3 x4 cq cz ct d5 da cp cy cx cw d6 cg ci c7 cd}:=mkW (E3.eq_1 N x1 x2 x3 x4 cq cz ct d5 da cp cy cx cw d6 cg ci c7 cd) (True) (fun r=>r=(cg,ci,cq,x1.2.1,ct,d5,da,cp,cy,cx,cw,(x1.1,x1.2.1,x2,x3,x4),(x1.1,x1.2.1,x2,x3,x4),cq,x1.2.1,ct,d5,da,cp,cy,cx,cw,(x1.1,x1.2.1,x2,x3,x4),cg,ci,cd,c7))
@[reducible,instance] def Qvu{x1 x2 x3 x4 ca cg ci c7}:=mkW (Zd.eq_1 N x1 x2 x3 x4 ca cg ci c7) (True) (fun r=>r=(cg,ci,(ca.1,x1.2.1,ca.2.2.1,ca.2.2.2.1,ca.2.2.2.2.1,ca.2.2.2.2.2.1,ca.2.2.2.2.2.2.1,ca.2.2.2.2.2.2.2.1,ca.2.2.2.2.2.2.2.2.1,ca.2.2.2.2.2.2.2.2.2.1,(x1.1,x1.2.1,x2,x3,x4)),(x1.1,x1.2.1,x2,x3,x4),(ca.1,x1.2.1,ca.2.2.1,ca.2.2.2.1,ca.2.2.2.2.1,ca.2.2.2.2.2.1,ca.2.2.2.2.2.2.1,ca.2.2.2.2.2.2.2.1,ca.2.2.2.2.2.2.2.2.1,ca.2.2.2.2.2.2.2.2.2.1,(x1.1,x1.2.1,x2,x3,x4)),cg,ci,c7))
@[reducible,instance] def Qvv{x1 x2 x3 x4 ca cg c7 cd}:=mkW (W0.eq_1 N x1 x2 x3 x4 ca cg c7 cd) (True) (fun r=>r=(cg,(ca.1,x1.2.1,ca.2.2.1,ca.2.2.2.1,ca.2.2.2.2.1,ca.2.2.2.2.2.1,ca.2.2.2.2.2.2.1,ca.2.2.2.2.2.2.2.1,ca.2.2.2.2.2.2.2.2.1,ca.2.2.2.2.2.2.2.2.2.1,(x1.1,x1.2.1,x2,x3,x4)),(x1.1,x1.2.1,x2,x3,x4),(ca.1,x1.2.1,ca.2.2.1,ca.2.2.2.1,ca.2.2.2.2.1,ca.2.2.2.2.2.1,ca.2.2.2.2.2.2.1,ca.2.2.2.2.2.2.2.1,ca.2.2.2.2.2.2.2.2.1,ca.2.2.2.2.2.2.2.2.2.1,(x1.1,x1.2.1,x2,x3,x4)),cg,c7,cd))
@[reducible,instance] def Q0v{x1 ca cg ci c7}:=mkW (Hx.eq_1 N x1 ca cg ci c7) (True) (fun r=>r=((ca.1,ca.2.1,ca.2.2.1,x1,ca.2.2.2.2.1,ca.2.2.2.2.2.1,ca.2.2.2.2.2.2.1,ca.2.2.2.2.2.2.2.1,ca.2.2.2.2.2.2.2.2.1,true,ca.2.2.2.2.2.2.2.2.2.2),cg,ci,c7))
@[reducible,instance] def Qu5{x1 ca cg c7 cd}:=mkW (X5.eq_1 N x1 ca cg c7 cd) (True) (fun r=>r=((ca.1,ca.2.1,ca.2.2.1,x1,ca.2.2.2.2.1,ca.2.2.2.2.2.1,ca.2.2.2.2.2.2.1,ca.2.2.2.2.2.2.2.1,ca.2.2.2.2.2.2.2.2.1,true,ca.2.2.2.2.2.2.2.2.2.2),cg,c7,cd))
@[reducible,instance] def Qu6{x1 x2 cq cz ct d5 da cp cy cx cw d6 cg ci c7 cd}:=mkW (X4.eq_1 N x1 x2 cq cz ct d5 da cp cy cx cw d6 cg ci c7 cd) (True) (fun r=>r.1=cg∧r.2.1=ci∧r.2.2.1=cq∧r.2.2.2.1=x1.2.1∧r.2.2.2.2.1=ct∧r.2.2.2.2.2.1=d5∧r.2.2.2.2.2.2.1=da∧r.2.2.2.2.2.2.2.1=cp∧r.2.2.2.2.2.2.2.2.1=cy∧r.2.2.2.2.2.2.2.2.2.1=cx∧r.2.2.2.2.2.2.2.2.2.2.1=cw∧r.2.2.2.2.2.2.2.2.2.2.2.1.1=x1.1∧r.2.2.2.2.2.2.2.2.2.2.2.1.2.1=x1.2.1∧r.2.2.2.2.2.2.2.2.2.2.2.1.2.2.1=cp∧r.2.2.2.2.2.2.2.2.2.2.2.1.2.2.2.2=x2∧r.2.2.2.2.2.2.2.2.2.2.2.2.1.1=x1.1∧r.2.2.2.2.2.2.2.2.2.2.2.2.1.2.1=x1.2.1∧r.2.2.2.2.2.2.2.2.2.2.2.2.1.2.2.1=cp∧r.2.2.2.2.2.2.2.2.2.2.2.2.1.2.2.2.2=x2∧r.2.2.2.2.2.2.2.2.2.2.2.2.2.1=cq∧r.2.2.2.2.2.2.2.2.2.2.2.2.2.2.1=x1.2.1∧r.2.2.2.2.2.2.2.2.2.2.2.2.2.2.2.1=ct∧r.2.2.2.2.2.2.2.2.2.2.2.2.2.2.2.2.1=d5∧r.2.2.2.2.2.2.2.2.2.2.2.2.2.2.2.2.2.1=da∧r.2.2.2.2.2.2.2.2.2.2.2.2.2.2.2.2.2.2.1=cp∧r.2.2.2.2.2.2.2.2.2.2.2.2.2.2.2.2.2.2.2.1=cy∧r.2.2.2.2.2.2.2.2.2.2.2.2.2.2.2.2.2.2.2.2.1=cx∧r.2.2.2.2.2.2.2.2.2.2.2.2.2.2.2.2.2.2.2.2.2.1=cw∧r.2.2.2.2.2.2.2.2.2.2.2.2.2.2.2.2.2.2.2.2.2.2.1.1=x1.1∧r.2.2.2.2.2.2.2.2.2.2.2.2.2.2.2.2.2.2.2.2.2.2.1.2.1=x1.2.1∧r.2.2.2.2.2.2.2.2.2.2.2.2.2.2.2.2.2.2.2.2.2.2.1.2.2.1=cp∧r.2.2.2.2.2.2.2.2.2.2.2.2.2.2.2.2.2.2.2.2.2.2.1.2.2.2.2=x2∧r.2.2.2.2.2.2.2.2.2.2.2.2.2.2.2.2.2.2.2.2.2.2.2.1=cg∧r.2.2.2.2.2.2.2.2.2.2.2.2.2.2.2.2.2.2.2.2.2.2.2.2.1=ci∧r.2.2.2.2.2.2.2.2.2.2.2.2.2.2.2.2.2.2.2.2.2.2.2.2.2.1=cd∧r.2.2.2.2.2.2.2.2.2.2.2.2.2.2.2.2.2.2.2.2.2.2.2.2.2.2=c7∧r.2.2.2.2.2.2.2.2.2.2.2.1=r.2.2.2.2.2.2.2.2.2.2.2.2.1) (k:=by
  intro h
  try simp only[sS,reduceCtorEq]at *
  repeat' (first | intro _ | apply And.intro)
  all_goals first | ((repeat cases ‹_∧_›); first | assumption | omega | (simp only[*]; first | done | assumption | omega)) | exact lv)
@[reducible,instance] def Qqu{x1 x2 ca cg ci c7}:=mkW (Z6.eq_1 N x1 x2 ca cg ci c7) (True) (fun r=>r.1=cg∧r.2.1=ci∧r.2.2.1.1=ca.1∧r.2.2.1.2.1=x1.2.1∧r.2.2.1.2.2.1=ca.2.2.1∧r.2.2.1.2.2.2.1=ca.2.2.2.1∧r.2.2.1.2.2.2.2.1=ca.2.2.2.2.1∧r.2.2.1.2.2.2.2.2.1=ca.2.2.2.2.2.1∧r.2.2.1.2.2.2.2.2.2.1=ca.2.2.2.2.2.2.1∧r.2.2.1.2.2.2.2.2.2.2.1=ca.2.2.2.2.2.2.2.1∧r.2.2.1.2.2.2.2.2.2.2.2.1=ca.2.2.2.2.2.2.2.2.1∧r.2.2.1.2.2.2.2.2.2.2.2.2.1=ca.2.2.2.2.2.2.2.2.2.1∧r.2.2.1.2.2.2.2.2.2.2.2.2.2.1=x1.1∧r.2.2.1.2.2.2.2.2.2.2.2.2.2.2.1=x1.2.1∧r.2.2.1.2.2.2.2.2.2.2.2.2.2.2.2.1=ca.2.2.2.2.2.1∧r.2.2.1.2.2.2.2.2.2.2.2.2.2.2.2.2.2=x2∧r.2.2.2.1.1=x1.1∧r.2.2.2.1.2.1=x1.2.1∧r.2.2.2.1.2.2.1=ca.2.2.2.2.2.1∧r.2.2.2.1.2.2.2.2=x2∧r.2.2.2.2.1.1=ca.1∧r.2.2.2.2.1.2.1=x1.2.1∧r.2.2.2.2.1.2.2.1=ca.2.2.1∧r.2.2.2.2.1.2.2.2.1=ca.2.2.2.1∧r.2.2.2.2.1.2.2.2.2.1=ca.2.2.2.2.1∧r.2.2.2.2.1.2.2.2.2.2.1=ca.2.2.2.2.2.1∧r.2.2.2.2.1.2.2.2.2.2.2.1=ca.2.2.2.2.2.2.1∧r.2.2.2.2.1.2.2.2.2.2.2.2.1=ca.2.2.2.2.2.2.2.1∧r.2.2.2.2.1.2.2.2.2.2.2.2.2.1=ca.2.2.2.2.2.2.2.2.1∧r.2.2.2.2.1.2.2.2.2.2.2.2.2.2.1=ca.2.2.2.2.2.2.2.2.2.1∧r.2.2.2.2.1.2.2.2.2.2.2.2.2.2.2.1=x1.1∧r.2.2.2.2.1.2.2.2.2.2.2.2.2.2.2.2.1=x1.2.1∧r.2.2.2.2.1.2.2.2.2.2.2.2.2.2.2.2.2.1=ca.2.2.2.2.2.1∧r.2.2.2.2.1.2.2.2.2.2.2.2.2.2.2.2.2.2.2=x2∧r.2.2.2.2.2.1=cg∧r.2.2.2.2.2.2.1=ci∧r.2.2.2.2.2.2.2=c7∧r.2.2.1.2.2.2.2.2.2.2.2.2.2=r.2.2.2.1) (k:=by
  intro h
  try simp only[sS,reduceCtorEq]at *
  repeat' (first | intro _ | apply And.intro)
  all_goals first | ((repeat cases ‹_∧_›); first | assumption | omega | (simp only[*]; first | done | assumption | omega)) | exact lv)
@[reducible,instance] def Jht{x0 x1 x2 x3}:=mkW (Im.eq_1 N x0 x1 x2 x3) (True) (fun r=>r=0→x1.1=x0.1∧x1.2.2.2.1<12622780800)
@[reducible,instance] def Jhu[Vf]{x0 x1 x2}:=mkW (Ff.eq_1 N x0 x1 x2) (L3 x0∧Qx (fun m:Qm=>Aft m.1) x0.1∧x1.1.length≤900000000000∧sz x1.1≤1000000000000∧x1.2.1.length≤1000000000∧x1.2.2.length≤1000000000∧Sh.sh x2.2.2.2.2.2.2.1∧List.length x2.2.2.2.2.2.2.1≤9223372036854775807∧(0<x0.1.length→x2.2.2.2.1<12622780800→x2.2.2.2.1<Vf.hi)) (fun r=>r.2.1=x1.2.2∧r.1.length≤x1.1.length+11468800000∧sz r.1≤1000000000000∧r.2.2.2.2.2.2.2.2.2.2.2.2.2.2.2.2.2.2.2.2.2.2.2.2.2.2.length≤x1.2.1.length+1∧r.2.2.2.2.2.2.2.2.2.2.2.2.2.2.2.2.1.length≤4096∧r.2.2.2.2.2.2.2.2.2.2.2.2.2.2.2.2.2.2.2.2.1.length≤1000000000000∧((r.2.2.1=0∧r.1=x1.1∧r.2.2.2.2.2.2.2.2.2.2.2.2.2.2.2.2.2.2.2.2.2.2.2.2.2.2=x1.2.1)∨(r.2.2.1=x2.1∧1≤x2.1∧r.2.2.2.1=x2.2.1∧r.2.2.2.2.2.2.2.2.2.2.2.2.2.2.2.2.2.2.2.2.2.2.2.2.1=r.2.2.2.2.2.2.2.2.2.2.2.2.2.2.2.2.2.2.2.2.2.2.2.2.2.1))) (k:=by
  intro h
  have g0:=h.1.ev; have g1:=h.1.tarL; have g2:=h.1.tarS; have g3:=h.1.tarO; have g4:=h.1.prodL; have g5:=h.1.prodS; have g6:=h.1.prodO; have g7:=h.1.hol
  try simp only[sS,reduceCtorEq]at *
  repeat' (first | intro _ | apply And.intro)
  all_goals first | ((repeat cases ‹_∧_›); first | assumption | trivial | omega | (simp only[*]; first | done | trivial | assumption | omega) | (refine .inl ?_; (repeat' apply And.intro)<;>first | rfl | assumption | omega | (simp only[*]; done)) | (refine .inr ?_; (repeat' apply And.intro)<;>first | rfl | assumption | omega | (simp only[*]; done) | grind) | grind) | exact lv)
@[reducible,instance] def Jgx[Vf]{x0 x1 x2 x3}:=mkW (X7.eq_1 N x0 x1 x2 x3) (L3 x0∧Qx (fun m:Qm=>Aft m.1) x0.1∧x1.1.length≤900000000000∧sz x1.1≤1000000000000∧x1.2.1.length≤1000000000∧x1.2.2.length≤1000000000∧x2.2.2.2.2.2.2.1.length≤1000000000000∧x2.2.2.2.2.1.2.2.2.2.2.2.1.2.2.2.2.length≤4096∧Sh.sh x3.2.2.2.2.2.2.1∧List.length x3.2.2.2.2.2.2.1≤9223372036854775807∧(0<x0.1.length→x3.2.2.2.1<12622780800→x3.2.2.2.1<Vf.hi)) (fun r=>r.2.1=x1.2.2∧r.2.2.1=x2.1∧r.1.length≤x1.1.length+11468800000∧sz r.1≤1000000000000∧r.2.2.2.2.2.2.2.2.2.2.2.2.2.2.2.2.2.2.2.2.2.2.2.2.2.2.length≤x1.2.1.length+1∧r.2.2.2.2.2.2.2.2.2.2.2.2.2.2.2.2.1.length≤4096∧r.2.2.2.2.2.2.2.2.2.2.2.2.2.2.2.2.2.2.2.2.1.length≤1000000000000∧(((r.2.2.1,r.2.2.2.1,r.2.2.2.2.1,r.2.2.2.2.2.1,(r.2.2.2.2.2.2.1,r.2.2.2.2.2.2.2.1,r.2.2.2.2.2.2.2.2.1,r.2.2.2.2.2.2.2.2.2.1,r.2.2.2.2.2.2.2.2.2.2.1,r.2.2.2.2.2.2.2.2.2.2.2.1,(r.2.2.2.2.2.2.2.2.2.2.2.2.1,r.2.2.2.2.2.2.2.2.2.2.2.2.2.1,r.2.2.2.2.2.2.2.2.2.2.2.2.2.2.1,r.2.2.2.2.2.2.2.2.2.2.2.2.2.2.2.1,r.2.2.2.2.2.2.2.2.2.2.2.2.2.2.2.2.1),r.2.2.2.2.2.2.2.2.2.2.2.2.2.2.2.2.2.1,r.2.2.2.2.2.2.2.2.2.2.2.2.2.2.2.2.2.2.1),r.2.2.2.2.2.2.2.2.2.2.2.2.2.2.2.2.2.2.2.1,r.2.2.2.2.2.2.2.2.2.2.2.2.2.2.2.2.2.2.2.2.1,r.2.2.2.2.2.2.2.2.2.2.2.2.2.2.2.2.2.2.2.2.2.1,r.2.2.2.2.2.2.2.2.2.2.2.2.2.2.2.2.2.2.2.2.2.2.1,r.2.2.2.2.2.2.2.2.2.2.2.2.2.2.2.2.2.2.2.2.2.2.2.1,r.2.2.2.2.2.2.2.2.2.2.2.2.2.2.2.2.2.2.2.2.2.2.2.2.1)=x2∧r.1=x1.1∧r.2.2.2.2.2.2.2.2.2.2.2.2.2.2.2.2.2.2.2.2.2.2.2.2.2.2=x1.2.1∧r.2.2.2.2.2.2.2.2.2.2.2.2.2.2.2.2.2.2.2.2.2.2.2.2.2.1.2.1=x3.2.1∧r.2.2.2.2.2.2.2.2.2.2.2.2.2.2.2.2.2.2.2.2.2.2.2.2.2.1.1=x3.1)∨(r.2.2.2.1=x3.2.1∧r.2.2.2.2.2.2.2.2.2.2.2.2.2.2.2.2.2.2.2.2.2.2.2.2.1=r.2.2.2.2.2.2.2.2.2.2.2.2.2.2.2.2.2.2.2.2.2.2.2.2.2.1))) (k:=by
  intro h
  have g0:=h.1.ev; have g1:=h.1.tarL; have g2:=h.1.tarS; have g3:=h.1.tarO; have g4:=h.1.prodL; have g5:=h.1.prodS; have g6:=h.1.prodO; have g7:=h.1.hol
  try simp only[sS,reduceCtorEq]at *
  repeat' (first | intro _ | apply And.intro)
  all_goals first | ((repeat cases ‹_∧_›); first | assumption | trivial | omega | (simp only[*]; first | done | trivial | assumption | omega) | (refine .inl ?_; (repeat' apply And.intro)<;>first | rfl | assumption | omega | (simp only[*]; done)) | (refine .inr ?_; (repeat' apply And.intro)<;>first | rfl | assumption | omega | (simp only[*]; done) | grind) | grind) | exact lv)
@[reducible,instance] def Jmd[Vf]{x0 x1 x2 x3}:=mkW (Ek.eq_1 N x0 x1 x2 x3) (L3 x0∧Qx (fun m:Qm=>Aft m.1) x0.1∧x1.1.length≤900000000000∧sz x1.1≤1000000000000∧x1.2.1.length≤1000000000∧x1.2.2.length≤1000000000∧x2.2.2.2.2.2.2.1.length≤1000000000000∧x2.2.2.2.2.1.2.2.2.2.2.2.1.2.2.2.2.length≤4096∧Sh.sh x3.2.2.2.2.2.2.1∧List.length x3.2.2.2.2.2.2.1≤9223372036854775807∧(0<x0.1.length→x3.2.2.2.1<12622780800→x3.2.2.2.1<Vf.hi)) (fun r=>r.2.2.2.2.2.2.2.2.2.2.2.2.2.2.2.2.2.2.2.2.2.2.2.2.2.2=x1.2.2∧r.2.1=x2.1∧r.1.length≤x1.1.length+11468800000∧sz r.1≤1000000000000∧r.2.2.2.2.2.2.2.2.2.2.2.2.2.2.2.2.2.2.2.2.2.2.2.2.2.1.length≤x1.2.1.length+1∧r.2.2.2.2.2.2.2.2.2.2.2.2.2.2.2.1.length≤4096∧r.2.2.2.2.2.2.2.2.2.2.2.2.2.2.2.2.2.2.2.1.length≤1000000000000∧(((r.2.1,r.2.2.1,r.2.2.2.1,r.2.2.2.2.1,(r.2.2.2.2.2.1,r.2.2.2.2.2.2.1,r.2.2.2.2.2.2.2.1,r.2.2.2.2.2.2.2.2.1,r.2.2.2.2.2.2.2.2.2.1,r.2.2.2.2.2.2.2.2.2.2.1,(r.2.2.2.2.2.2.2.2.2.2.2.1,r.2.2.2.2.2.2.2.2.2.2.2.2.1,r.2.2.2.2.2.2.2.2.2.2.2.2.2.1,r.2.2.2.2.2.2.2.2.2.2.2.2.2.2.1,r.2.2.2.2.2.2.2.2.2.2.2.2.2.2.2.1),r.2.2.2.2.2.2.2.2.2.2.2.2.2.2.2.2.1,r.2.2.2.2.2.2.2.2.2.2.2.2.2.2.2.2.2.1),r.2.2.2.2.2.2.2.2.2.2.2.2.2.2.2.2.2.2.1,r.2.2.2.2.2.2.2.2.2.2.2.2.2.2.2.2.2.2.2.1,r.2.2.2.2.2.2.2.2.2.2.2.2.2.2.2.2.2.2.2.2.1,r.2.2.2.2.2.2.2.2.2.2.2.2.2.2.2.2.2.2.2.2.2.1,r.2.2.2.2.2.2.2.2.2.2.2.2.2.2.2.2.2.2.2.2.2.2.1,r.2.2.2.2.2.2.2.2.2.2.2.2.2.2.2.2.2.2.2.2.2.2.2.1)=x2∧r.1=x1.1∧r.2.2.2.2.2.2.2.2.2.2.2.2.2.2.2.2.2.2.2.2.2.2.2.2.2.1=x1.2.1∧r.2.2.2.2.2.2.2.2.2.2.2.2.2.2.2.2.2.2.2.2.2.2.2.2.1.2.1=x3.2.1∧r.2.2.2.2.2.2.2.2.2.2.2.2.2.2.2.2.2.2.2.2.2.2.2.2.1.1=x3.1)∨(r.2.2.1=x3.2.1∧r.2.2.2.2.2.2.2.2.2.2.2.2.2.2.2.2.2.2.2.2.2.2.2.1=r.2.2.2.2.2.2.2.2.2.2.2.2.2.2.2.2.2.2.2.2.2.2.2.2.1))) (k:=by
  intro h
  have g0:=h.1.ev; have g1:=h.1.tarL; have g2:=h.1.tarS; have g3:=h.1.tarO; have g4:=h.1.prodL; have g5:=h.1.prodS; have g6:=h.1.prodO; have g7:=h.1.hol
  try simp only[sS,reduceCtorEq]at *
  repeat' (first | intro _ | apply And.intro)
  all_goals first | ((repeat cases ‹_∧_›); first | assumption | trivial | omega | (simp only[*]; first | done | trivial | assumption | omega) | (refine .inl ?_; (repeat' apply And.intro)<;>first | rfl | assumption | omega | (simp only[*]; done)) | (refine .inr ?_; (repeat' apply And.intro)<;>first | rfl | assumption | omega | (simp only[*]; done) | grind) | grind) | exact lv)
@[reducible,instance] def Jdv{x0 x1}:=mkW (Fu.eq_1 N x0 x1) (x0.1.length≤900000000000∧sz x0.1≤1000000000000∧x0.2.1.length≤1000000000∧x0.2.2.length≤1000000000∧x1.2.2.2.2.2.2.1.length≤1000000000000∧x1.2.2.2.2.1.2.2.2.2.2.2.1.2.2.2.2.length≤4096) (fun r=>r.2.1.1=x1.1∧r.2.1.2.1=x1.2.1∧r.2.1.2.2.1=x1.2.2.1∧r.2.1.2.2.2.1=x1.2.2.2.1∧r.2.1.2.2.2.2.2.2.2.2.2.2=x1.2.2.2.2.2.2.2.2.2.2∧r.2.2.2=x0.2.2∧r.2.1.2.2.2.2.2.2.1.length≤1000000000000∧r.2.1.2.2.2.2.1.2.2.2.2.2.2.1.2.2.2.2.length≤4096∧r.1.length≤x0.1.length∧sz r.1≤1000000000000∧r.2.2.1.length=x0.2.1.length∧r.2.1.2.2.2.2.2.2.2.2.2.1=true) (k:=by
  intro h
  try simp only[sS,reduceCtorEq]at *
  repeat' (first | intro _ | apply And.intro)
  all_goals first | ((repeat cases ‹_∧_›); first | assumption | trivial | omega | (simp only[*]; first | done | trivial | assumption | omega) | (refine .inl ?_; (repeat' apply And.intro)<;>first | rfl | assumption | omega | (simp only[*]; done)) | (refine .inr ?_; (repeat' apply And.intro)<;>first | rfl | assumption | omega | (simp only[*]; done) | grind) | grind) | exact lv)
structure Qut(p:Int×Qa):Prop where
 key:Fz p.1=true
 id:p.2.1=p.1
 tk:p.2.2.2.2.2.2.2.1.length≤1000000000000
 st:p.2.2.2.2.2.1.2.2.2.2.2.2.1.2.2.2.2.length≤4096
abbrev Qvw:Qa:=(0,0,0,0,(0,0,0,([]:Str),([]:Str),0,(0,([]:Str),([]:Str),0,([]:List Qp)),0,0),0,([]:List Qi),0,0,false,(0,0,0,0,0))
structure Jah(m:List (Int×Qa))(k q:Int)(a:Qq):Prop where
 ex:∃x:Qa,Qg (k:=.int .i64) k m=some x∧x.2.1=q∧x.2.2.2.2.2.2.2.2.2.2=a
theorem eqI{a b:Int}:eqK (.int .i64) a b=true↔a=b:=Vo rfl
section
variable {V:Type} {k:Int} {x y:V}
theorem Rn:∀{m:List (Int×V)},Qg (k:=.int .i64) k m=some x→(k,x)∈m
 | z::m,h=>by
  unfold Qg at h
  cases hk:eqK (.int .i64) k z.1 with
  | true=>rw[hk]at h; have:=eqI.1 hk; cases Option.some.inj h; subst this; exact .head _
  | false=>rw[hk]at h; exact .tail _ (Rn h)
theorem Quu:∀{m:List (Int×V)},Qg (k:=.int .i64) k (Yu (k:=.int .i64) k x m:List (Int×V))=some x
 | []=>by simp only[Yu,Qg,Tj,cond_true]
 | z::m=>by
  unfold Yu
  cases hk:eqK (.int .i64) k z.1 with
  | true=>simp only[Qg,Tj,cond_true]
  | false=>simp only[cond_false,Qg,hk]; exact Quu
theorem Qx8{j:Int}(h:j≠k):∀{m:List (Int×V)},Qg (k:=.int .i64) j (Yu (k:=.int .i64) k x m:List (Int×V))=Qg (k:=.int .i64) j m
 | []=>by
  have e:eqK (.int .i64) j k=false:=XH.2 fun e=>h (eqI.1 e)
  simp only[Yu,Qg,e,cond_false]
 | z::m=>by
  unfold Yu
  have e:eqK (.int .i64) j k=false:=XH.2 fun e=>h (eqI.1 e)
  cases hk:eqK (.int .i64) k z.1 with
  | true=>have:=eqI.1 hk; subst this; simp only[cond_true,Qg,e,cond_false]
  | false=>simp only[cond_false,Qg,Qx8 h]
theorem Qx9:∀{m:List (Int×V)},(Yu (k:=.int .i64) k x (Yu (k:=.int .i64) k y m:List (Int×V)):List (Int×V))=Yu (k:=.int .i64) k x m
 | []=>by simp only[Yu,Tj,cond_true]
 | z::m=>by
  cases hk:eqK (.int .i64) k z.1 with
  | true=>simp only[Yu,hk,Tj,cond_true]
  | false=>simp only[cond_false,Yu,hk]; rw[Qx9]
theorem Quv:∀{m:List (Int×V)},Qg (k:=.int .i64) k m=some x→(Yu (k:=.int .i64) k x m:List (Int×V))=m
 | z::m,h=>by
  unfold Qg at h
  unfold Yu
  cases hk:eqK (.int .i64) k z.1 with
  | true=>rw[hk]at h; have:=eqI.1 hk; cases Option.some.inj h; subst this; rfl
  | false=>rw[hk]at h; simp only[cond_false]; rw[Quv h]
theorem Quw:∀{m:List (Int×V)},(Qg (k:=.int .i64) k m).isSome=true→(Yu (k:=.int .i64) k x m:List (Int×V)).map Prod.fst=m.map Prod.fst
 | z::m,h=>by
  unfold Qg at h
  unfold Yu
  cases hk:eqK (.int .i64) k z.1 with
  | true=>have:=eqI.1 hk; subst this; rfl
  | false=>rw[hk]at h; simp only[cond_false,QT]; rw[Quw h]
theorem Qd1{m:List (Int×V)}(h:(Qg (k:=.int .i64) k m).isSome=true):(Jj (k:=.int .i64) k x m:List (Int×V))=Yu (k:=.int .i64) k x m:=by
 unfold Jj; rw[h]; rfl
theorem Ro{m:List (Int×V)}(h:Qg (k:=.int .i64) k m=none):(Jj (k:=.int .i64) k x m:List (Int×V))=Qfh (k:=.int .i64) k x m:=by
 unfold Jj; rw[h]; rfl
theorem Qrd:∀{m:List (Int×V)},Qg (k:=.int .i64) k m=none→Qg (k:=.int .i64) k (Qfh (k:=.int .i64) k x m:List (Int×V))=some x∧(Yu (k:=.int .i64) k y (Qfh (k:=.int .i64) k x m:List (Int×V)):List (Int×V))=Qfh (k:=.int .i64) k y m∧(Ga (k:=.int .i64) k (Qfh (k:=.int .i64) k x m:List (Int×V)):List (Int×V))=m
 | [],_=>by simp only[Qfh,Qg,Yu,Ga,Tj,cond_true,and_self]
 | z::m,h=>by
  unfold Qg at h
  unfold Qfh
  cases hk:eqK (.int .i64) k z.1 with
  | true=>rw[hk]at h; cases h
  | false =>
   rw[hk]at h
   cases hl:ltT (.int .i64) k z.1 with
   | true=>simp only[cond_true,Qg,Yu,Ga,Tj,and_self]
   | false =>
    obtain⟨h1,h2,h3⟩:=Qrd h
    simp only[cond_false,Qg,Yu,Ga,hk]
    exact⟨h1,congrArg _ h2,congrArg _ h3⟩
theorem Jme{j:Int}(h:j≠k):∀{m:List (Int×V)},Qg (k:=.int .i64) j (Qfh (k:=.int .i64) k x m:List (Int×V))=Qg (k:=.int .i64) j m
 | []=>by
  have e:eqK (.int .i64) j k=false:=XH.2 fun e=>h (eqI.1 e)
  simp only[Qfh,Qg,e,cond_false]
 | z::m=>by
  unfold Qfh
  have e:eqK (.int .i64) j k=false:=XH.2 fun e=>h (eqI.1 e)
  cases hl:ltT (.int .i64) k z.1 with
  | true=>simp only[cond_true,Qg,e,cond_false]
  | false=>simp only[cond_false,Qg,Jme h]
theorem Qcd{m:List (Int×V)}:Qg (k:=.int .i64) k (Jj (k:=.int .i64) k x m:List (Int×V))=some x:=by
 cases h:Qg (k:=.int .i64) k m with
 | none=>rw[Ro h]; exact(Qrd (y:=x) h).1
 | some y=>rw[Qd1 (by rw[h]; rfl)]; exact Quu
theorem Qux{j:Int}(h:j≠k){m:List (Int×V)}:Qg (k:=.int .i64) j (Jj (k:=.int .i64) k x m:List (Int×V))=Qg (k:=.int .i64) j m:=by
 cases hm:Qg (k:=.int .i64) k m with
 | none=>rw[Ro hm]; exact Jme h
 | some y=>rw[Qd1 (by rw[hm]; rfl)]; exact Qx8 h
theorem L4{m:List (Int×V)}:(Jj (k:=.int .i64) k x (Jj (k:=.int .i64) k y m:List (Int×V)):List (Int×V))=Jj (k:=.int .i64) k x m:=by
 have hi:(Qg (k:=.int .i64) k (Jj (k:=.int .i64) k y m:List (Int×V))).isSome=true:=by rw[Qcd]; rfl
 rw[Qd1 hi]
 cases h:Qg (k:=.int .i64) k m with
 | none=>rw[Ro h,Ro h]; exact(Qrd h).2.1
 | some z =>
  have h':(Qg (k:=.int .i64) k m).isSome=true:=by rw[h]; rfl
  rw[Qd1 h',Qd1 h']; exact Qx9
theorem Jmf{m:List (Int×V)}(h:Qg (k:=.int .i64) k m=none):(Ga (k:=.int .i64) k (Jj (k:=.int .i64) k x m:List (Int×V)):List (Int×V))=m:=by
 rw[Ro h]; exact(Qrd (y:=x) h).2.2
theorem Jgy{m:List (Int×V)}(h:Qg (k:=.int .i64) k m=some x):(Jj (k:=.int .i64) k x m:List (Int×V))=m:=by
 rw[Qd1 (by rw[h]; rfl)]; exact Quv h
theorem Qya{m:List (Int×V)}(h:(Qg (k:=.int .i64) k m).isSome=true):(Jj (k:=.int .i64) k x m:List (Int×V)).map Prod.fst=m.map Prod.fst:=by
 rw[Qd1 h]; exact Quw h
theorem Jmg:∀{m:List (Int×V)},Qg (k:=.int .i64) k m=none→(m.map Prod.fst).Pairwise (·<·)→((Qfh (k:=.int .i64) k x m:List (Int×V)).map Prod.fst).Pairwise (·<·)
 | [],_,_=>by simp[Qfh]
 | z::m,h,hp=>by
  unfold Qg at h
  unfold Qfh
  cases hk:eqK (.int .i64) k z.1 with
  | true=>rw[hk]at h; cases h
  | false =>
   rw[hk]at h
   have hne:k≠z.1:=fun e=>by rw[eqI.2 e]at hk; cases hk
   obtain⟨p1,p2⟩:=List.pairwise_cons.1 (show(z.1::m.map Prod.fst).Pairwise (·<·)from hp)
   cases hl:ltT (.int .i64) k z.1 with
   | true =>
    have hlt:k<z.1:=of_decide_eq_true hl
    refine List.pairwise_cons.2 ⟨fun a ha=>?_,hp⟩
    rcases QJ.1 (show a∈z.1::m.map Prod.fst from ha)with rfl | ha
    ·exact hlt
    ·have:z.1<a:=p1 a ha
     show k<a; omega
   | false =>
    have hlt:¬ k<z.1:=of_decide_eq_false hl
    refine List.pairwise_cons.2 ⟨fun a ha=>?_,Jmg h p2⟩
    have ha:=(Ea (k:=.int .i64) (key:=k) (v:=x) (xs:=m)).map Prod.fst |>.mem_iff.1 ha
    rcases QJ.1 (show a∈k::m.map Prod.fst from ha)with rfl | ha
    ·show z.1<a; omega
    ·exact p1 a ha
theorem Jmh{m:List (Int×V)}(h:(m.map Prod.fst).Pairwise (·<·)):((Jj (k:=.int .i64) k x m:List (Int×V)).map Prod.fst).Pairwise (·<·):=by
 cases hm:Qg (k:=.int .i64) k m with
 | none=>rw[Ro hm]; exact Jmg hm h
 | some y=>rw[Qya (by rw[hm]; rfl)]; exact h
theorem Qyb:∀{m:List (Int×V)},k∈m.map Prod.fst→(Qg (k:=.int .i64) k m).isSome=true
 | z::m,h=>by
  unfold Qg
  cases hk:eqK (.int .i64) k z.1 with
  | true=>rfl
  | false =>
   rw[QT]at h
   rcases QJ.1 h with h | h
   ·rw[h,Tj]at hk; cases hk
   ·exact Qyb h
end
structure Rp(m:List (Int×Qa)):Prop where
 all:Qx Qut m
 so:(m.map Prod.fst).Pairwise (·<·)
theorem Jai{m:List (Int×Qa)}{k:Int}(hs:(Qg (k:=.int .i64) k m).isSome=true)(h:Rp m):Qut (k,(Qg (k:=.int .i64) k m).getD Qvw):=by
 obtain⟨x,hx⟩:=XW.1 hs
 rw[hx]
 exact h.all.all _ (Rn hx)
theorem Qkt{m:List (Int×Qa)}{k:Int}(h:Rp m):((Qg (k:=.int .i64) k m).getD Qvw).2.2.2.2.2.2.1.length≤1000000000000:=by
 cases hx:Qg (k:=.int .i64) k m with
 | none=>exact QR _
 | some x=>exact(h.all.all _ (Rn hx)).tk
theorem Qku{m:List (Int×Qa)}{k:Int}(h:Rp m):((Qg (k:=.int .i64) k m).getD Qvw).2.2.2.2.1.2.2.2.2.2.2.1.2.2.2.2.length≤4096:=by
 cases hx:Qg (k:=.int .i64) k m with
 | none=>exact QR _
 | some x=>exact(h.all.all _ (Rn hx)).st
theorem Qre{m:List (Int×Qa)}{k:Int}{x:Qa}(h:Rp m)(hx:Qut (k,x)):Rp (Jj (k:=.int .i64) k x m):=⟨⟨fun p hp=>(Q5q hp).elim (fun e=>e▸hx) (h.all.all p)⟩,Jmh h.so⟩
theorem Jmi{m:List (Int×Qa)}{k:Int}{x y z:Qa}(h:Rp m)(hx:Qut (k,x)):Rp (Jj (k:=.int .i64) k x (Jj (k:=.int .i64) k y (Jj (k:=.int .i64) k z m))):=by
 rw[L4,L4]; exact Qre h hx
theorem Jmj{m:List (Int×Qa)}{k:Int}{x y z:Qa}(h:Qg (k:=.int .i64) k m=none):Ga (k:=.int .i64) k (Jj (k:=.int .i64) k x (Jj (k:=.int .i64) k y (Jj (k:=.int .i64) k z m)))=m:=by
 rw[L4,L4,Jmf h]
theorem Q6d{m:List (Int×Qa)}{k:Int}{x y z:Qa}:(Jj (k:=.int .i64) k x (Jj (k:=.int .i64) k y (Jj (k:=.int .i64) k z m))).length≤m.length+1:=by
 rw[L4,L4]; exact Ck k x m
theorem Q6e{m:List (Int×Qa)}{k q:Int}{x:Qa}{a:Qq}(h1:x.2.1=q)(h2:x.2.2.2.2.2.2.2.2.2.2=a):Jah (Jj (k:=.int .i64) k x m) k q a:=⟨x,Qcd,h1,h2⟩
theorem Jmk{m:List (Int×Qa)}{k:Int}(hs:(Qg (k:=.int .i64) k m).isSome=true)(h:Rp m):Qg (k:=.int .i64) ((Qg (k:=.int .i64) k m).getD Qvw).1 m=some ((Qg (k:=.int .i64) k m).getD Qvw):=by
 have hi:((Qg (k:=.int .i64) k m).getD Qvw).1=k:=(Jai hs h).id
 rw[hi]
 obtain⟨x,hx⟩:=XW.1 hs
 rw[hx]; rfl
theorem Jo7{α:Type}{o:Option α}(h:o.isSome=false):o=none:=by cases o with | none=>rfl | some x=>cases h
theorem Jo8{m:List (Int×Qa)}{k:Int}(hs:¬(Qg (k:=.int .i64) k m).isSome=false)(h:Rp m):Qut (k,(Qg (k:=.int .i64) k m).getD Qvw):=Jai (ZL hs) h
theorem Jo9{m:List (Int×Qa)}{k:Int}{x:Qa}(hs:¬(Qg (k:=.int .i64) k m).isSome=false)(e:x=(Qg (k:=.int .i64) k m).getD Qvw):Jj (k:=.int .i64) k x m=m:=by
 obtain⟨y,hy⟩:=XW.1 (ZL hs)
 rw[hy]at e
 exact Jgy (hy.trans (congrArg some e.symm))
instance wpSortK {β:Type} {m:List (Int×β)}:WP (Qi5 m) (fun R=>(m.length≤1099511627776∧∀p∈m,Fz p.1=true)∧R (Qc3 (m.map Prod.fst))):=⟨fun R h=>⟨_,by
 have h1:Nat.ble (m.length*8) 140737488355328=true:=by rw[Nat.ble_eq]; have:=h.1.1; omega
 have h2:(m.all fun q=>Fz q.1)=true:=QP.2 fun q hq=>h.1.2 q hq
 unfold Qi5
 rw[h1,h2]; rfl,h.2⟩⟩
structure Qau(l:List Int)(m:List (Int×Qa)):Prop where
 len:l.length=m.length
 all:∀k∈l,(Qg (k:=.int .i64) k m).isSome=true
 on:∀k x,Qg (k:=.int .i64) k m=some x→k∈l
theorem Zl(m:List (Int×Qa)):Qau (Qc3 (m.map Prod.fst)) m:=⟨by rw[(A1 _).length_eq,JO],fun k hk=>Qyb ((A1 _).mem_iff.1 hk),fun k x hx=>(A1 _).mem_iff.2 (QZ.2 ⟨_,Rn hx,rfl⟩)⟩
theorem Qyc{m:List (Int×Qa)}{k:Int}{x:Qa}(h:(Qg (k:=.int .i64) k m).isSome=true):(Jj (k:=.int .i64) k x m).length=m.length:=by
 have:=congrArg List.length (Qya (x:=x) h)
 rw[JO,JO]at this
 exact this
theorem Jaj{l:List Int}{m:List (Int×Qa)}{k:Int}{x:Qa}(hk:k∈l)(h:Qau l m):Qau l (Jj (k:=.int .i64) k x m):=⟨by
 rw[Qyc (h.all k hk)]; exact h.len,fun j hj=>by
 by_cases e:j=k
 ·subst e; rw[Qcd]; rfl
 ·rw[Qux e]; exact h.all j hj,fun j y hy=>by
 by_cases e:j=k
 ·subst e; exact hk
 ·rw[Qux e]at hy; exact h.on j y hy⟩
theorem In{m:List (Int×Qa)}(h:Rp m):∀p∈m,Fz p.1=true:=fun p hp=>(h.all.all p hp).key
structure Qmv(t:Int)(m:List (Int×Qa))(k:Int):Prop where
 ok:∀x:Qa,Qg (k:=.int .i64) k m=some x→x.2.2.2.2.2.2.2.2.2.1=true∨t<x.2.2.2.1
structure Jak(t:Int)(m:List (Int×Qa)):Prop where
 ok:∀k,Qmv t m k
theorem Jpa{t:Int}{m:List (Int×Qa)}{k:Int}{x:Qa}{l:List Int}{v:Int}(h0:0≤v)(h:Nu (Qmv t m) l v)(hk:l[v.toNat]?=some k)(hx:x.2.2.2.2.2.2.2.2.2.1=true):Nu (Qmv t (Jj (k:=.int .i64) k x m)) l (v+1):=by
 have hp:∀j,Qmv t m j→Qmv t (Jj (k:=.int .i64) k x m) j:=fun j hj=>⟨fun y hy=>by
  by_cases e:j=k
  ·subst e; rw[Qcd]at hy; cases Option.some.inj hy; exact .inl hx
  ·rw[Qux e]at hy; exact hj.ok y hy⟩
 refine Rj h0 ⟨fun j hj a ha=>hp a (h.at_ j hj a ha)⟩ hk ⟨fun y hy=>?_⟩
 rw[Qcd]at hy; cases Option.some.inj hy; exact .inl hx
theorem Jml{t:Int}{m:List (Int×Qa)}{k:Int}{l:List Int}{v:Int}(h0:0≤v)(h:Nu (Qmv t m) l v)(hk:l[v.toNat]?=some k)(hx:((Qg (k:=.int .i64) k m).getD Qvw).2.2.2.2.2.2.2.2.2.1=false→¬((Qg (k:=.int .i64) k m).getD Qvw).2.2.2.1≤t):Nu (Qmv t m) l (v+1) :=
 Rj h0 h hk ⟨fun y hy=>by
  rw[hy]at hx
  simp only[Option.getD_some]at hx
  cases hc:y.2.2.2.2.2.2.2.2.2.1 with
  | true=>exact .inl rfl
  | false=>exact .inr (by have:=hx hc; omega)⟩
theorem Jpb{t:Int}{m:List (Int×Qa)}{l:List Int}{v:Int}(h:Nu (Qmv t m) l v)(hv:l.length≤v)(hk:Qau l m):Jak t m:=⟨fun k=>⟨fun x hx=>(Qhy h hv k (hk.on k x hx)).ok x hx⟩⟩
theorem Jmm{l:List Q3}{i:Nat}{x y:Q3}(hx:l[i]?=some x)(hy:l[i]?=some y):l.set i (y.1,x.2)=l:=by
 rw[hx]at hy
 rw[←Option.some.inj hy]
 exact Fo hx rfl
theorem Jmn{l:List Jg}{i:Nat}{x y:Jg}(hx:l[i]?=some x)(hy:l[i]?=some y):l.set i (y.1,x.2)=l:=by
 rw[hx]at hy
 rw[←Option.some.inj hy]
 exact Fo hx rfl
theorem Jmo{l:List Y5}{i:Nat}{x y:Y5}(hx:l[i]?=some x)(hy:l[i]?=some y):l.set i (y.1,y.2.1,y.2.2.1,y.2.2.2.1,x.2.2.2.2)=l:=by
 rw[hx]at hy
 rw[←Option.some.inj hy]
 exact Fo hx rfl
theorem Jmp{l:List Ji}{i:Nat}{x y:Ji}(hx:l[i]?=some x)(hy:l[i]?=some y):l.set i (y.1,x.2.1,y.2.2)=l:=by
 rw[hx]at hy
 rw[←Option.some.inj hy]
 exact Fo hx rfl
theorem Jmq{l:List Yo}{i:Nat}{x y:Yo}(hx:l[i]?=some x)(hy:l[i]?=some y):l.set i (y.1,x.2.1,y.2.2.1,y.2.2.2.1,y.2.2.2.2.1,y.2.2.2.2.2)=l:=by
 rw[hx]at hy
 rw[←Option.some.inj hy]
 exact Fo hx rfl
theorem Jmr{l:List Qn}{i:Nat}{x y:Qn}(hx:l[i]?=some x)(hy:l[i]?=some y):l.set i (y.1,y.2.1,y.2.2.1,y.2.2.2.1,y.2.2.2.2.1,x.2.2.2.2.2)=l:=by
 rw[hx]at hy
 rw[←Option.some.inj hy]
 exact Fo hx rfl
theorem Jpc{l:List Qz}{i:Nat}{x y:Qz}(hx:l[i]?=some x)(hy:l[i]?=some y):l.set i (y.1,y.2.1,y.2.2.1,y.2.2.2.1,x.2.2.2.2.1,y.2.2.2.2.2)=l:=by
 rw[hx]at hy
 rw[←Option.some.inj hy]
 exact Fo hx rfl
structure Qvx(l:List Qm):Prop where
 all:∀e∈l,(0≤e.1∧e.1<12622780800)∧∀a,l[0]?=some a→a.1≤e.1
structure Asc(l:List Qm)(v t:Int):Prop where
 lo:∀j:Nat,(j:Int)<v→∀e,l[j]?=some e→(0≤e.1∧e.1<12622780800)∧∀a,l[0]?=some a→a.1≤e.1
 hi:0<v→∀a,l[0]?=some a→a.1≤t
theorem Jms{l:List Qm}:Asc l 0 0:=⟨fun j h=>by omega,fun h=>by omega⟩
theorem Jmt{l:List Qm}{v t:Int}{x:Qm}(h0:0≤v)(h:Asc l v t)(hx:l[v.toNat]?=some x)(p:0≤x.1)(p2:x.1<12622780800)(q:t≤x.1):Asc l (v+1) x.1:=by
 have key:∀a,l[0]?=some a→a.1≤x.1:=fun a ha=>by
  by_cases hv:0<v
  ·have:=h.hi hv a ha; omega
  ·have e:v.toNat=0:=by omega
   rw[e,ha]at hx
   cases Option.some.inj hx; exact JT _
 refine⟨fun j hj e he=>?_,fun _=>key⟩
 by_cases hv:(j:Int)<v
 ·exact h.lo j hv e he
 ·have e1:v.toNat=j:=by omega
  rw[e1,he]at hx
  cases Option.some.inj hx
  exact⟨⟨p,p2⟩,key⟩
theorem Jpd{l:List Qm}{v t:Int}(h:Asc l v t)(hv:l.length≤v):Qvx l:=⟨fun e he=>by
 obtain⟨j,hj⟩:=List.mem_iff_getElem?.1 he
 exact h.lo j (by have:=(List.getElem?_eq_some_iff.1 hj).1; omega) e hj⟩
structure Qd2(l:List Qm)(t:Int):Prop where
 at_:∀a,l[0]?=some a→t<69120000∨t - 69120000<a.1
theorem Jgz{l:List Qm}{t:Int}{x:Qm}(hx:l[0]?=some x)(ht:¬t<69120000)(h:t≤9223372036854775807)(h1:x.1>IntKind.wrap .i64 (t - 69120000)):Qd2 l t:=⟨fun a ha=>by
 rw[ha]at hx; cases Option.some.inj hx
 rw[Q4 (by omega) (by omega)]at h1
 exact .inr (by omega)⟩
theorem Qyd{l:List Qm}{t:Int}(ht:t<69120000):Qd2 l t:=⟨fun a ha=>.inl ht⟩
theorem Quy{l:List Qm}{t:Int}(ht:l.length=0):Qd2 l t:=⟨fun a ha=>by rw[QE ht]at ha; cases ha⟩
@[reducible,instance] def Qye{ca cj c7}:=mkW (J6.eq_1 N ca cj c7) (True) (fun r=>r=true)
@[reducible,instance] def Jg0{x0 x1}:=mkW (Yb.eq_1 N x0 x1) (True) (fun r=>r=(x0.1,x0.2.1,0,0,x1))
@[reducible,instance] def Qyf{ce}:=mkW (Kf.eq_1 N ce) (True) (fun r=>r=ce)
@[reducible,instance] def Qvy[Vf]{x1 ca cj c7}:=mkW (W6.eq_1 N x1 ca cj c7) (L3 ca∧Qx (fun m:Qm=>Aft m.1) ca.1∧cj.1.length≤900000000000∧sz cj.1≤1000000000000∧cj.2.1.length≤1000000000∧cj.2.2.length≤1000000000∧Sh.sh x1.2.2.2.2.2.2.1∧List.length x1.2.2.2.2.2.2.1≤9223372036854775807∧(0<ca.1.length→x1.2.2.2.1<12622780800→x1.2.2.2.1<Vf.hi)∧Rp c7∧c7.length≤1000000000∧Fz x1.1=true∧Qg (k:=.int .i64) x1.1 c7=none) (fun r=>r.2.1=ca∧r.2.2.1.length≤cj.1.length+11468800000∧sz r.2.2.1≤1000000000000∧r.2.2.2.2.2.length≤cj.2.1.length+1∧r.2.2.2.1=cj.2.2∧Rp r.2.2.2.2.1∧r.2.2.2.2.1.length≤c7.length+1∧((r.2.2.1=cj.1∧r.2.2.2.2.2=cj.2.1∧r.2.2.2.1=cj.2.2∧r.2.2.2.2.1=c7)∨(Jah r.2.2.2.2.1 x1.1 x1.2.1 r.1))) (k:=by
  intro h
  have g0:=h.1.ev; have g1:=h.1.tarL; have g2:=h.1.tarS; have g3:=h.1.tarO; have g4:=h.1.prodL; have g5:=h.1.prodS; have g6:=h.1.prodO; have g7:=h.1.hol
  try simp only[sS,reduceCtorEq]at *
  repeat' (first | intro _ | apply And.intro)
  all_goals first | ((repeat cases ‹_∧_›); first | assumption | omega | exact Qkt (by assumption) | exact Qku (by assumption) | (rw[Jmj (by assumption)]; first | assumption | omega | (refine .inl ?_; grind)) | exact QW Q6d (by omega) | (have k:=(Q6d:(Jj (k:=.int .i64) _ _ _:List (Int×Qa)).length≤_); omega) | (refine Jmi (by assumption) ⟨by assumption,?_,?_,?_⟩<;>(dsimp only; first | assumption | omega | grind)) | (refine Qre (by assumption) ⟨by assumption,?_,?_,?_⟩<;>(dsimp only; first | assumption | omega | grind)) | (refine .inr ?_; rw[L4,L4]; refine Q6e ?_ ?_<;>(dsimp only; grind)) | (simp only[*]; first | done | assumption | omega) | grind) | exact lv)
@[reducible,instance] def Qe8[Vf]{x1 ca cj c7}:=mkW (U7.eq_1 N x1 ca cj c7) (L3 ca∧Qx (fun m:Qm=>Aft m.1) ca.1∧cj.1.length≤900000000000∧sz cj.1≤1000000000000∧cj.2.1.length≤1000000000∧cj.2.2.length≤1000000000∧Sh.sh x1.2.2.2.2.2.2.1∧List.length x1.2.2.2.2.2.2.1≤9223372036854775807∧(0<ca.1.length→x1.2.2.2.1<12622780800→x1.2.2.2.1<Vf.hi)∧Rp c7∧c7.length≤1000000000∧Fz x1.1=true) (fun r=>r.2.1=ca∧r.2.2.1.length≤cj.1.length+11468800000∧sz r.2.2.1≤1000000000000∧r.2.2.2.1.length≤cj.2.1.length+1∧r.2.2.2.2.1=cj.2.2∧Rp r.2.2.2.2.2∧r.2.2.2.2.2.length≤c7.length+1∧((r.2.2.1=cj.1∧r.2.2.2.1=cj.2.1∧r.2.2.2.2.1=cj.2.2∧r.2.2.2.2.2=c7)∨(1≤x1.2.2.1∧x1.2.2.1≤4∧Jah r.2.2.2.2.2 x1.1 x1.2.1 r.1))) (k:=by
  intro h
  have g0:=h.1.ev; have g1:=h.1.tarL; have g2:=h.1.tarS; have g3:=h.1.tarO; have g4:=h.1.prodL; have g5:=h.1.prodS; have g6:=h.1.prodO; have g7:=h.1.hol
  try simp only[sS,reduceCtorEq]at *
  repeat' (first | intro _ | apply And.intro)
  all_goals first | assumption | omega | exact QW Um (by omega) | exact Or.inl trivial | ((repeat cases ‹_∧_›); first | assumption | exact Jo7 (by assumption) | exact Qkt (by assumption) | exact Qku (by assumption) | exact Ck _ _ _ | (have k1:=(Jo8 (by assumption) (by assumption)).id; dsimp only at k1; refine Qre (by assumption) ⟨by assumption,?_,?_,?_⟩<;>dsimp only<;>first | assumption | (exact Eq.trans (by assumption) k1) | omega) | (rcases ‹_∨_› with hh | hh<;>(repeat cases ‹_∧_›)<;>first | exact .inl ⟨by assumption,by assumption,by assumption,by assumption⟩ | exact .inr ⟨by omega,by omega,by assumption⟩ | (refine .inl ⟨?_,?_,?_,Jo9 (by assumption) (by assumption)⟩<;>assumption) | (refine .inr ⟨?_,?_,Q6e ?_ ?_⟩<;>first | omega | (dsimp only; assumption) | (dsimp only; exact Eq.symm (by assumption)))) | omega) | exact lv)
@[reducible,instance] def Quz{ca cj c7}:=mkW (Vk.eq_1 N ca cj c7) (Rp c7∧c7.length≤1000000100) (fun r=>r.1.length≤1000000100∧Qau r.1 c7∧r.2=c7) (k:=by
  intro h
  try simp only[sS,reduceCtorEq]at *
  repeat' (first | intro _ | apply And.intro)
  all_goals first | ((repeat cases ‹_∧_›); first | assumption | omega | exact In (by assumption) | exact In (by assumption) _ (by assumption) | exact Zl _ | exact(Zl _).len▸(by assumption) | exact Y9 | exact Qkt (by assumption) | exact Qku (by assumption) | exact W7 | exact Eq.trans (by assumption) (by assumption)  | (simp only[*]; first | done | assumption)) | exact lv)
@[reducible,instance] def Qhh{x0}:=mkW (Z7.eq_1 N x0) (x0.2.2.2.2.2.2.1.length≤1000000000000∧x0.2.2.2.2.1.2.2.2.2.2.2.1.2.2.2.2.length≤4096) (fun r=>r=(x0.1,x0.2.1,x0.2.2.1,x0.2.2.2.1,x0.2.2.2.2.1.1,x0.2.2.2.2.1.2.1,x0.2.2.2.2.1.2.2.1,x0.2.2.2.2.1.2.2.2.1,x0.2.2.2.2.1.2.2.2.2.1,x0.2.2.2.2.1.2.2.2.2.2.1,x0.2.2.2.2.1.2.2.2.2.2.2.1.1,x0.2.2.2.2.1.2.2.2.2.2.2.1.2.1,x0.2.2.2.2.1.2.2.2.2.2.2.1.2.2.1,x0.2.2.2.2.1.2.2.2.2.2.2.1.2.2.2.1,x0.2.2.2.2.1.2.2.2.2.2.2.2.1,x0.2.2.2.2.1.2.2.2.2.2.2.2.2,x0.2.2.2.2.2.1,x0.2.2.2.2.2.2.2.1,x0.2.2.2.2.2.2.2.2.1,x0.2.2.2.2.2.2.2.2.2.1,x0.2.2.2.2.2.2.2.2.2.2,x0.2.2.2.2.1.2.2.2.2.2.2.1.2.2.2.2,x0.2.2.2.2.2.2.1))
@[reducible,instance] def Qav{ca cj c7}:=mkW (Yc.eq_1 N ca cj c7) (sz cj.1≤1000000000000∧cj.2.1.length≤1000000000000∧cj.2.2.length≤1000000000000) (fun r=>r=cj)
@[reducible,instance] def Qop{r2 r3}{s}:=upL (N:=N) (s:=s) (Gh.eq_def N r2 r3) (fun t=>t.1) r2.length (fun t=>r2.length≤1000000100∧Qau r2 r3∧Rp r3∧r3.length≤1000000100∧t.2.length≤t.1∧Qx (fun x:Qa=>Qg (k:=.int .i64) x.1 r3=some x) t.2) (fun r:(((List Qa)))=>Qx (fun x:Qa=>Qg (k:=.int .i64) x.1 r3=some x) r∧r.length≤1000000100) (step:=by
  intro s h h0 h1 h2 hw
  try simp only[sS,reduceCtorEq]at *
  repeat' (first | intro _ | apply And.intro)
  all_goals first | ((repeat cases ‹_∧_›); first | assumption | omega | exact In (by assumption) | exact In (by assumption) _ (by assumption) | exact Zl _ | exact(Zl _).len▸(by assumption) | exact Y9 | exact Qkt (by assumption) | exact Qku (by assumption) | exact W7 | exact Eq.trans (by assumption) (by assumption) | exact Uw (by assumption) (Wa (Jmk ((by assumption:Qau _ _).all _ (by assumption)) (by assumption))) | (simp only[*]; first | done | assumption)) | exact lv)
@[reducible,instance] def Oa{ca cj c7}:=mkW (Jw.eq_1 N ca cj c7) (Rp c7∧c7.length≤1000000100) (fun r=>r.1=c7∧Qx (fun x:Qa=>Qg (k:=.int .i64) x.1 c7=some x) r.2∧r.2.length≤1000000100) (k:=by
  intro h
  try simp only[sS,reduceCtorEq]at *
  repeat' (first | intro _ | apply And.intro)
  all_goals first | ((repeat cases ‹_∧_›); first | assumption | omega | exact In (by assumption) | exact In (by assumption) _ (by assumption) | exact Zl _ | exact(Zl _).len▸(by assumption) | exact Y9 | exact Qkt (by assumption) | exact Qku (by assumption) | exact W7 | exact Eq.trans (by assumption) (by assumption)  | (simp only[*]; first | done | assumption)) | exact lv)
@[reducible,instance] def Qqv{r2 x1}{s}:=upL (N:=N) (s:=s) (Hz.eq_def N r2 x1) (fun t=>t.1) r2.length (fun t=>r2.length≤1000000100∧Qau r2 t.2.2.2.1∧Rp t.2.2.2.1∧t.2.2.2.1.length≤1000000100∧t.2.1=s.2.1∧t.2.2.2.2.length≤t.1∧sz t.2.2.1.1≤1000000000000∧t.2.2.1.1.length≤s.2.2.1.1.length∧t.2.2.1.2.1.length=s.2.2.1.2.1.length∧t.2.2.1.2.2=s.2.2.1.2.2∧s.2.2.1.1.length≤900000000000∧s.2.2.1.2.1.length≤1000000000∧s.2.2.1.2.2.length≤1000000000∧t.2.2.2.1.length=s.2.2.2.1.length∧Nu (Qmv x1 t.2.2.2.1) r2 t.1) (fun r:((Qt×Qr×(List (Int×Qa))×(List Int)))=>r.1=s.2.1∧sz r.2.1.1≤1000000000000∧r.2.1.1.length≤s.2.2.1.1.length∧r.2.1.2.1.length=s.2.2.1.2.1.length∧r.2.1.2.2=s.2.2.1.2.2∧Rp r.2.2.1∧r.2.2.1.length=s.2.2.2.1.length∧Jak x1 r.2.2.1∧r.2.2.2.length≤1000000100) (step:=by
  intro s h h0 h1 h2 hw
  try simp only[sS,reduceCtorEq]at *
  repeat' (first | intro _ | apply And.intro)
  all_goals first | ((repeat cases ‹_∧_›); first | assumption | omega | exact In (by assumption) | exact In (by assumption) _ (by assumption) | exact Zl _ | exact(Zl _).len▸(by assumption) | exact Y9 | exact Qkt (by assumption) | exact Qku (by assumption) | exact W7 | exact Eq.trans (by assumption) (by assumption) | exact Jaj (by assumption) (by assumption) | (rw[hw (by assumption)]; exact Jpa h0 (by assumption) (by assumption) (by assumption)) | (rw[hw (by assumption)]; exact Jml h0 (by assumption) (by assumption) (by assumption)) | exact Jpb (by assumption) (by omega) (by assumption) | (rw[Qyc ((by assumption:Qau _ _).all _ (by assumption))]; assumption) | (have k1:=(Jai ((by assumption:Qau _ _).all _ (by assumption)) (by assumption)); have k2:=k1.id; dsimp only at k2; refine Qre (by assumption) ⟨k1.key,?_,?_,?_⟩<;>dsimp only<;>first | assumption | (exact Eq.trans (by assumption) k2)) | (simp only[*]; first | done | assumption)) | exact lv)
@[reducible,instance] def R9{x1 ca cj c7}:=mkW (Vx.eq_1 N x1 ca cj c7) (Rp c7∧c7.length≤1000000000∧cj.1.length≤900000000000∧sz cj.1≤1000000000000∧cj.2.1.length≤1000000000∧cj.2.2.length≤1000000000) (fun r=>r.1=ca∧sz r.2.1.1≤1000000000000∧r.2.1.1.length≤cj.1.length∧r.2.1.2.1.length=cj.2.1.length∧r.2.1.2.2=cj.2.2∧Rp r.2.2.1∧r.2.2.1.length=c7.length∧Jak x1 r.2.2.1∧r.2.2.2.length≤1000000100) (k:=by
  intro h
  try simp only[sS,reduceCtorEq]at *
  repeat' (first | intro _ | apply And.intro)
  all_goals first | ((repeat cases ‹_∧_›); first | assumption | omega | exact In (by assumption) | exact In (by assumption) _ (by assumption) | exact Zl _ | exact(Zl _).len▸(by assumption) | exact Y9 | exact Qkt (by assumption) | exact Qku (by assumption) | exact W7 | exact Eq.trans (by assumption) (by assumption)  | (simp only[*]; first | done | assumption)) | exact lv)
@[reducible,instance] def Qu7{x0 x1}{s}:=upL (N:=N) (s:=s) (Ba.eq_def N x0 x1) (fun t=>t) x0.2.2.2.2.2.1.length (fun t=>x0.2.2.2.2.2.1.length=x1.2.2.2.2.2.1.length∧x0.2.2.2.2.2.1.length≤9223372036854775807) (fun r:((Unit)⊕(Bool))=>∀u,r=.inr u→x0≠x1)
@[reducible,instance] def Q0w{x0 x1}:=mkW (Hy.eq_1 N x0 x1) (sz x0≤9223372036854775807) (fun r=>x0=x1→r=true)
@[reducible,instance] def Q0x{x0 x1}{s}:=upL (N:=N) (s:=s) (Lm.eq_def N x0 x1) (fun t=>t) x0.length (fun t=>x0.length=x1.length∧x0.length≤9223372036854775807∧sz x0≤9223372036854775807) (fun r:((Unit)⊕(Bool))=>∀u,r=.inr u→x0≠x1)
@[reducible,instance] def Q7t{x0 x1}:=mkW (Cb.eq_1 N x0 x1) (sz x0≤9223372036854775807) (fun r=>x0=x1→r=true)
@[reducible,instance] def Q0y{x0 x1}{s}:=upL (N:=N) (s:=s) (Ln.eq_def N x0 x1) (fun t=>t) x0.2.1.length (fun t=>x0.2.1.length=x1.2.1.length∧x0.2.1.length≤9223372036854775807) (fun r:((Unit)⊕(Bool))=>∀u,r=.inr u→x0≠x1)
@[reducible,instance] def Q0z{x0 x1}{s}:=upL (N:=N) (s:=s) (Lo.eq_def N x0 x1) (fun t=>t) x0.2.2.length (fun t=>x0.2.2.length=x1.2.2.length∧x0.2.2.length≤9223372036854775807) (fun r:((Unit)⊕(Bool))=>∀u,r=.inr u→x0≠x1)
@[reducible,instance] def Qiu{x0 x1}:=mkW (V8.eq_1 N x0 x1) (sz x0≤9223372036854775807) (fun r=>x0=x1→r=true)
@[reducible,instance] def Q00{x0 x1}{s}:=upL (N:=N) (s:=s) (Lp.eq_def N x0 x1) (fun t=>t) x0.2.2.2.2.2.2.1.2.2.2.2.length (fun t=>x0.2.2.2.2.2.2.1.2.2.2.2.length=x1.2.2.2.2.2.2.1.2.2.2.2.length∧x0.2.2.2.2.2.2.1.2.2.2.2.length≤9223372036854775807) (fun r:((Unit)⊕(Bool))=>∀u,r=.inr u→x0≠x1)
@[reducible,instance] def Q7u{x0 x1}:=mkW (G8.eq_1 N x0 x1) (sz x0≤9223372036854775807) (fun r=>x0=x1→r=true)
@[reducible,instance] def Qrf{x0 x1}{s}:=upL (N:=N) (s:=s) (Et.eq_def N x0 x1) (fun t=>t) x0.length (fun t=>x0.length=x1.length∧x0.length≤9223372036854775807) (fun r:((Unit)⊕(Bool))=>∀u,r=.inr u→x0≠x1)
@[reducible,instance] def Qvz{x0 x1}:=mkW (Ze.eq_1 N x0 x1) (sz x0≤9223372036854775807) (fun r=>x0=x1→r=true)
@[reducible,instance] def Q7v{x0 x1:Qa}:WP (G9 N x0 x1) (fun R=>(sz x0≤9223372036854775807)∧∀r,(x0=x1→r=true)→R r):=Qhc (by
  intro h
  have hz:=h
  simp only[sz1,mx1]at hz
  obtain⟨a,ea,ha⟩:=(inferInstance:WP (G8 N x0.2.2.2.2.1 x1.2.2.2.2.1) _).spec _ ⟨by simp only[sz1,mx1]; omega,fun r h=>h⟩
  obtain⟨b,eb,hb⟩:=(inferInstance:WP (Ze N x0.2.2.2.2.2.2.1 x1.2.2.2.2.2.2.1) _).spec _ ⟨by simp only[sz1,mx1]; omega,fun r h=>h⟩
  unfold G9
  rw[ea,eb]
  by_cases e:x0=x1
  ·subst e
   rw[ha rfl,hb rfl]
   exact⟨true,by simp,fun _=>rfl⟩
  ·simp only[QU]
   split<;>simp only[QU]<;>split<;>exact⟨_,rfl,fun h=>absurd h e⟩)
@[reducible,instance] def Qoq{x0 x1}{s}:=upL (N:=N) (s:=s) (Gi.eq_def N x0 x1) (fun t=>t) x0.length (fun t=>x0.length=x1.length∧x0.length≤9223372036854775807∧sz x0≤9223372036854775807) (fun r:((Unit)⊕(Bool))=>∀u,r=.inr u→x0≠x1)
@[reducible,instance] def Oc{x0 x1}:=mkW (Vd.eq_1 N x0 x1) (sz x0≤9223372036854775807) (fun r=>x0=x1→r=true)
@[reducible,instance] def Q7w{x0}:=mkW (Gv.eq_1 N x0) (True) (fun r=>r.length=5∧(∀b,r[0]?=some b→(b=true↔(x0=1∨x0=2∨x0=3∨x0=14∨x0=15))))
@[reducible,instance] def Jdw{x0}:=mkW (Fq.eq_1 N x0) (True) (fun r=>True)
@[reducible,instance] def Q01{x0}{s}:=upL (N:=N) (s:=s) (I1.eq_def N x0) (fun t=>t) x0.length (fun t=>Sh.sh x0) (fun r:((Unit)⊕(Bool))=>True) (fun _ h=>Qhe (by grind))
@[reducible,instance] def Q7x{x0}:=mkW (Uy.eq_1 N x0) (Sh.sh x0) (fun r=>True)
@[reducible,instance] def Qyg{x0}{s}:=upL (N:=N) (s:=s) (Cq.eq_def N x0) (fun t=>t) x0.length (fun t=>Sh.sh x0) (fun r:((Unit)⊕(Bool))=>True) (fun _ h=>Qhe (by grind))
@[reducible,instance] def Q6f{x0}:=mkW (Wo.eq_1 N x0) (Sh.sh x0) (fun r=>True)
@[reducible,instance] def Q6g{x0}:=mkW (F0.eq_1 N x0) (True) (fun r=>True)
@[reducible,instance] def Q7y{x0 x1}:=mkW (Bt.eq_1 N x0 x1) (Sh.sh x0) (fun r=>r=0→0≤x0.1∧x0.1<12622780800∧x1≤x0.1)
@[reducible,instance] def Qu8{x0 x1}{s}:=Qmp (N:=N) (s:=s) (A3.eq_def N x0 x1) x0.1 (sz x0≤9223372036854775807) (fun y=>y.1≠x1) (∀y∈x0.1,y.1≠x1) (fun u=>0≤u∧u<x0.1.length∧∃a∈x0.1,a.1=x1)
@[reducible,instance] def Q02{x0 x1}:=mkW (K0.eq_1 N x0 x1) (sz x0≤9223372036854775807) (fun r => -1≤r∧r<x0.1.length∧(0≤r→∃a∈x0.1,a.1=x1)∧(r<0→∀a∈x0.1,a.1≠x1))
@[reducible,instance] def Q11{x0 x1}{s}:=Qmp (N:=N) (s:=s) (M3.eq_def N x0 x1) x0.2.1 (sz x0≤9223372036854775807) (fun y=>y.1≠x1) (∀y∈x0.2.1,y.1≠x1) (fun u=>0≤u∧u<x0.2.1.length∧∃a∈x0.2.1,a.1=x1)
@[reducible,instance] def Jal{x0 x1}:=mkW (Xv.eq_1 N x0 x1) (sz x0≤9223372036854775807) (fun r => -1≤r∧r<x0.2.1.length∧(0≤r→∃a∈x0.2.1,a.1=x1)∧(r<0→∀a∈x0.2.1,a.1≠x1))
@[reducible,instance] def Qyh{x0 x1}{s}:=upL (N:=N) (s:=s) (Cr.eq_def N x0 x1) (fun t=>t) x0.2.2.length (fun t=>sz x0≤9223372036854775807) (fun r:((Unit)⊕(Bool))=>True)
@[reducible,instance] def Q6h{x0 x1}:=mkW (Wp.eq_1 N x0 x1) (sz x0≤9223372036854775807) (fun r=>True)
@[reducible,instance] def Q03{x0 x1}{s}:=upL (N:=N) (s:=s) (I2.eq_def N x0 x1) (fun t=>t) x0.2.1.length (fun t=>sz x0≤9223372036854775807) (fun r:((Unit)⊕(Bool))=>True)
@[reducible,instance] def Q7z{x0 x1}:=mkW (Bu.eq_1 N x0 x1) (sz x0≤9223372036854775807) (fun r=>True)
@[reducible,instance] def Qv0{x0 x1}:=mkW (Wq.eq_1 N x0 x1) (sz x0≤9223372036854775807) (fun r=>r=0→x1.2.1≠1→∃a∈x0.1,a.1=x1.2.2.1)
@[reducible,instance] def Q12{x0 x1}{s}:=upL (N:=N) (s:=s) (M4.eq_def N x0 x1) (fun t=>t) x0.length (fun t=>sz x0≤9223372036854775807) (fun r:((Unit)⊕(Bool))=>True)
@[reducible,instance] def Jam{x0 x1}:=mkW (Zo.eq_1 N x0 x1) (sz x0≤9223372036854775807) (fun r=>True)
@[reducible,instance] def Qyi{x0 x1}{s}:=upL (N:=N) (s:=s) (Cs.eq_def N x0 x1) (fun t=>t) x0.2.1.length (fun t=>sz x0≤9223372036854775807) (fun r:((Unit)⊕(Bool))=>True)
@[reducible,instance] def Q6i{x0 x1}:=mkW (F2.eq_1 N x0 x1) (sz x0≤9223372036854775807) (fun r=>True)
@[reducible,instance] def Q6j{x0 x1}:=mkW (F3.eq_1 N x0 x1) (sz x0≤9223372036854775807) (fun r=>r=0→∃a∈x0.2.1,a.1=x1.2.2.2.1)
@[reducible,instance] def Q6k{x0 x1 x2}:=mkW (F4.eq_1 N x0 x1 x2) (sz x0≤9223372036854775807∧Sh.sh x1) (fun r=>r=0→(0≤x1.1∧x1.1<12622780800∧x2≤x1.1∧(x1.2.1=2→∃a∈x0.1,a.1=x1.2.2.1)∧(¬ (x1.2.1=1∨x1.2.1=2∨x1.2.1=3∨x1.2.1=14∨x1.2.1=15)→∃a∈x0.2.1,a.1=x1.2.2.2.1)))
@[reducible,instance] def Q04{x0 x1}{s}:=upL (N:=N) (s:=s) (I3.eq_def N x0 x1) (fun t=>t) x0.length (fun t=>sz x0≤9223372036854775807) (fun r:((Int))=>0≤r∧r≤x0.length)
@[reducible,instance] def Q70{x0 x1}:=mkW (Gw.eq_1 N x0 x1) (sz x0≤1099511627776) (fun r=>sz r≤sz x0+1)
@[reducible,instance] def Qu9{x0 x1}{s}:=upL (N:=N) (s:=s) (A4.eq_def N x0 x1) (fun t=>t.1) x0.length (fun t=>sz x0≤1099511627776∧t.2.length≤t.1∧sz t.2≤(sz x0)) (fun r:(((List Str)))=>sz r≤(sz x0))
@[reducible,instance] def Q05{x0 x1}:=mkW (K1.eq_1 N x0 x1) (sz x0≤1099511627776) (fun r=>sz r≤(sz x0))
@[reducible,instance] def Q06{x0 x1}:=mkW (Hm.eq_1 N x0 x1) (sz x0≤1099511627776) (fun r=>r.2.2.2.2.1.length≤x0.2.2.2.2.1.length+1∧r.2.2.2.2.2.1.length≤x0.2.2.2.2.2.1.length+1)
@[reducible,instance] def Q6l{x0 x1}:=mkW (F5.eq_1 N x0 x1) (sz x0≤1099511627776∧(x1.2.1=2→∃a∈x0.1,a.1=x1.2.2.1)∧(¬ (x1.2.1=1∨x1.2.1=2∨x1.2.1=3∨x1.2.1=14∨x1.2.1=15)→∃a∈x0.2.1,a.1=x1.2.2.2.1)) (fun r=>sz r.1≤sz x0.1+1∧sz r.2.1≤sz x0.2.1+1∧sz r.2.2≤sz x0.2.2+1)
@[reducible,instance] def Qyj{x0}{s}:=upL (N:=N) (s:=s) (Ct.eq_def N x0) (fun t=>t.2.1) x0.length (fun t=>x0.length≤4096∧Sh.sh x0∧sz t.2.2.1≤t.2.1∧sz t.2.2.2.1≤t.2.1∧sz t.2.2.2.2≤t.2.1∧Asc x0 t.2.1 t.1) (fun r:((Unit)⊕(Int×Int))=>(∀u,r=.inl u→Qvx x0)∧∀u,r=.inr u→u.2≠0) (step:=by
  intro s h h0 h1 h2 hw
  try simp only[sS,reduceCtorEq]at *
  repeat' (first | intro _ | apply And.intro)
  all_goals first | assumption | (rw[hw (by assumption)]; refine Jmt h0 h.2.2.2.2.2 (by assumption) ?_ ?_ ?_<;>grind) | exact Jpd h.2.2.2.2.2 (by omega) | exact lv)
@[reducible,instance] def Q6m{x0}:=mkW (F6.eq_1 N x0) (sz x0≤1099511627776∧Sh.sh x0) (fun r=>r.2=0→Qvx x0) (k:=by
  intro h
  try simp only[sS,reduceCtorEq]at *
  repeat' (first | intro _ | apply And.intro)
  all_goals first | exact Jms | assumption | (exfalso; (repeat cases ‹_∧_›); (exact absurd (by assumption) (by assumption))) | exact lv)
@[reducible,instance] def Qyk{x0}{s}:=upL (N:=N) (s:=s) (Cu.eq_def N x0) (fun t=>t) x0.length (fun t=>sz x0≤9223372036854775807∧Sh.sh x0) (fun r:((Unit)⊕(Int))=>True)
@[reducible,instance] def Qyl{x0}{s}:=upI (N:=N) (s:=s) (Cv.eq_def N x0) (fun t=>t) ((x0.length:Int)) (fun t=>sz x0≤9223372036854775807∧1≤t) (fun r:((Unit)⊕(Int))=>True)
@[reducible,instance] def Q6n{x0}:=mkW (F7.eq_1 N x0) (sz x0≤9223372036854775807∧Sh.sh x0) (fun r=>r=0→sz x0≤64)
@[reducible,instance] def Q13{x0}:=mkW (Ew.eq_1 N x0) (sz x0≤9223372036854775807∧Sh.sh x0) (fun r=>r=0→sz x0≤64)
@[reducible,instance] def Q14{x0}{s}:=Qmp (N:=N) (s:=s) (M5.eq_def N x0) x0.2.2.2.2.2 (sz x0≤9223372036854775807∧Sh.sh x0) (fun y=>(sz y:Int)≤64) ((szL (x0.2.2.2.2.2):Int)≤64) (fun u=>u≠0)
@[reducible,instance] def Jan{x0}:=mkW (Dt.eq_1 N x0) (sz x0≤9223372036854775807∧Sh.sh x0) (fun r=>r=0→sz x0≤64)
@[reducible,instance] def Qym{x0}{s}:=Qmp (N:=N) (s:=s) (Cw.eq_def N x0) x0 (sz x0≤9223372036854775807∧Sh.sh x0) (fun y=>(sz y:Int)≤64) ((szL (x0):Int)≤64) (fun u=>u≠0)
@[reducible,instance] def Q6o{x0}:=mkW (F8.eq_1 N x0) (sz x0≤9223372036854775807∧Sh.sh x0) (fun r=>r=0→sz x0≤4096)
theorem Nv{N:Nat}[Fn N]:∀(n:Nat) (e:Ja),dpt e≤n→sz e≤4096→W (V7 N n e) fun r=>r=e
 | 0,e,h,hs=>by cases e with | mk a ks=>rw[dpt]at h; omega
 | n+1,e,h,hs=>by
  unfold V7
  have hk:=Jli (e:=e)
  have hlen:=Um (l:=e.ks)
  have ih:∀x:Ja,WP (V7 N n x) (fun R=>(x∈e.ks∧sz x≤4096)∧∀r:Ja,r=x→R r):=fun x=>Qhc fun hx=>Nv n x (by have:=Jlk hx.1; omega) hx.2
  have loop:=fun(q:List Ja) (s:Int×List Ja)=>upL (N:=N) (s:=s) (O9.eq_def N (V7 N n) q) (fun s=>s.1) q.length (fun s=>q=e.ks∧sz q≤4096∧q.length≤4096∧s.2=q) (fun r:List Ja=>r=q) (step:=by
   intro s h h0 h1 h2 hw
   obtain⟨s1,s2⟩:=s
   obtain⟨h6,h3,h4,h5⟩:=h
   dsimp only at *
   subst h5
   subst h6
   try simp only[sS,reduceCtorEq]at *
   repeat' (first | intro _ | apply And.intro)
   all_goals first | assumption | omega | (subst_vars; exact Fo (by assumption) rfl) | rfl | grind)
  refine wp ?_
  simp only[forall_eq]
  refine⟨by omega,⟨⟨trivial,by omega,by omega,trivial⟩,by omega,by omega⟩,?_⟩
  cases e with
  | mk a ks=>rfl
@[reducible,instance] def Jdx{N:Nat}[hN:Fn N]{x0:Ja}:WP (Qd9 N x0) (fun R=>(sz x0≤4096∧dpt x0≤4096)∧∀r:Ja,r=x0→R r):=Qhc (by
  intro h
  have:=hN.le
  exact Nv N x0 (by omega) h.1)
@[reducible,instance] def Q07{r1}{s}:=upL (N:=N) (s:=s) (Lc.eq_def N r1) (fun t=>t.1) r1.length (fun t=>sz r1≤4096∧t.2=r1∧r1.length≤4096) (fun r:(((List Q3)))=>r=r1) (step:=by
  intro s h h0 h1 h2 hw
  try simp only[sS,reduceCtorEq]at *
  repeat' (first | intro _ | apply And.intro)
  all_goals first | exact QW Um (by omega) | ((repeat cases ‹_∧_›); subst_vars; exact Jmm (by assumption) (by assumption)) | assumption | omega | exact lv)
@[reducible,instance] def Q08{r2}{s}:=upL (N:=N) (s:=s) (Ld.eq_def N r2) (fun t=>t.1) r2.length (fun t=>sz r2≤4096∧t.2=r2∧r2.length≤4096) (fun r:(((List Jg)))=>r=r2) (step:=by
  intro s h h0 h1 h2 hw
  try simp only[sS,reduceCtorEq]at *
  repeat' (first | intro _ | apply And.intro)
  all_goals first | exact QW Um (by omega) | ((repeat cases ‹_∧_›); subst_vars; exact Jmn (by assumption) (by assumption)) | assumption | omega | exact lv)
@[reducible,instance] def Q09{r3}{s}:=upL (N:=N) (s:=s) (Le.eq_def N r3) (fun t=>t.1) r3.length (fun t=>sz r3≤4096∧t.2=r3∧r3.length≤4096) (fun r:(((List Y5)))=>r=r3) (step:=by
  intro s h h0 h1 h2 hw
  try simp only[sS,reduceCtorEq]at *
  repeat' (first | intro _ | apply And.intro)
  all_goals first | exact QW Um (by omega) | ((repeat cases ‹_∧_›); subst_vars; exact Jmo (by assumption) (by assumption)) | assumption | omega | exact lv)
@[reducible,instance] def Q1a{r4}{s}:=upL (N:=N) (s:=s) (Lf.eq_def N r4) (fun t=>t.1) r4.length (fun t=>sz r4≤4096∧t.2=r4∧Qx (fun d:Ji=>dpt d.2.1≤4096) r4∧r4.length≤4096) (fun r:(((List Ji)))=>r=r4) (step:=by
  intro s h h0 h1 h2 hw
  try simp only[sS,reduceCtorEq]at *
  repeat' (first | intro _ | apply And.intro)
  all_goals first | exact QW Um (by omega) | ((repeat cases ‹_∧_›); subst_vars; exact Jmp (by assumption) (by assumption)) | assumption | omega | exact Zg (P:=fun d:Ji=>dpt d.2.1≤4096) (by rw[←h.2.1]; assumption) h.2.2.1 | exact lv)
@[reducible,instance] def Q71{x0}:=mkW (B1.eq_1 N x0) (sz x0≤4096∧Bd x0) (fun r=>r=x0) (k:=by
  intro h
  have g0:=h.2.deep
  try simp only[sS,reduceCtorEq]at *
  repeat' (first | intro _ | apply And.intro)
  all_goals first | exact⟨g0⟩ | assumption | omega | exact lv)
@[reducible,instance] def Q6p{r4}{s}:=upL (N:=N) (s:=s) (Pa.eq_def N r4) (fun t=>t.1) r4.length (fun t=>sz r4≤4096∧t.2=r4∧Qx Bd r4∧r4.length≤4096) (fun r:(((List Qw)))=>r=r4) (step:=by
  intro s h h0 h1 h2 hw
  try simp only[sS,reduceCtorEq]at *
  repeat' (first | intro _ | apply And.intro)
  all_goals first | exact QW Um (by omega) | ((repeat cases ‹_∧_›); subst_vars; exact Fo (by assumption) rfl) | assumption | omega | exact Zg (by rw[←h.2.1]; assumption) h.2.2.1 | exact lv)
@[reducible,instance] def Q6q{r29}{s}:=upL (N:=N) (s:=s) (Pb.eq_def N r29) (fun t=>t.1) r29.length (fun t=>sz r29≤4096∧t.2=r29∧r29.length≤4096) (fun r:(((List Yo)))=>r=r29) (step:=by
  intro s h h0 h1 h2 hw
  try simp only[sS,reduceCtorEq]at *
  repeat' (first | intro _ | apply And.intro)
  all_goals first | exact QW Um (by omega) | ((repeat cases ‹_∧_›); subst_vars; exact Jmq (by assumption) (by assumption)) | assumption | omega | exact lv)
@[reducible,instance] def Q6r{r5}{s}:=upL (N:=N) (s:=s) (Pd.eq_def N r5) (fun t=>t.1) r5.length (fun t=>sz r5≤4096∧t.2=r5∧r5.length≤4096) (fun r:(((List Qn)))=>r=r5) (step:=by
  intro s h h0 h1 h2 hw
  try simp only[sS,reduceCtorEq]at *
  repeat' (first | intro _ | apply And.intro)
  all_goals first | exact QW Um (by omega) | ((repeat cases ‹_∧_›); subst_vars; exact Jmr (by assumption) (by assumption)) | assumption | omega | exact lv)
@[reducible,instance] def Q6s{r6}{s}:=upL (N:=N) (s:=s) (Pe.eq_def N r6) (fun t=>t.1) r6.length (fun t=>t.2=r6∧r6.length≤140737488355328∧Qx (fun a:Qz=>a.2.2.2.2.1.length*24≤140737488355328) r6) (fun r:(((List Qz)))=>r=r6) (step:=by
  intro s h h0 h1 h2 hw
  try simp only[sS,reduceCtorEq]at *
  repeat' (first | intro _ | apply And.intro)
  all_goals first | exact QW Um (by omega) | ((repeat cases ‹_∧_›); subst_vars; exact Jpc (by assumption) (by assumption)) | assumption | omega | exact Zg (P:=fun a:Qz=>a.2.2.2.2.1.length*24≤140737488355328) (by rw[←h.1]; assumption) h.2.2 | exact lv)
@[reducible,instance] def Jdy{x0}:=mkW (Md.eq_1 N x0) (L3 x0∧x0.2.2.2.1.length*32≤140737488355328∧x0.2.2.2.2.2.length*72≤140737488355328∧Qx (fun a:Qz=>a.2.2.2.2.1.length*24≤140737488355328) x0.2.2.2.2.2) (fun r=>r=x0) (k:=by
  intro h
  have g0:=h.1.ev; have g1:=h.1.tarL; have g2:=h.1.tarS; have g3:=h.1.tarO; have g4:=h.1.prodL; have g5:=h.1.prodS; have g6:=h.1.prodO; have g7:=h.1.hol
  try simp only[sS,reduceCtorEq]at *
  repeat' (first | intro _ | apply And.intro)
  all_goals first | assumption | omega | exact QW Um (by omega) | exact lv)
@[reducible,instance] def Q1b{x0 x1}:=mkW (D1.eq_1 N x0 x1) (L3 x0∧x0.2.2.2.1.length*32≤140737488355328∧x0.2.2.2.2.2.length*72≤140737488355328∧Qx (fun a:Qz=>a.2.2.2.2.1.length*24≤140737488355328) x0.2.2.2.2.2∧sz x1.1≤1000000000000∧x1.2.1.length≤1000000000000∧x1.2.2.length≤1000000000000) (fun r=>r=(x0.1,x0.2.1,x0.2.2.1,x0.2.2.2.1,x0.2.2.2.2.1,x0.2.2.2.2.2,x1.1,x1.2.1,x1.2.2,[]))
@[reducible,instance] def Q6t{x0}:=mkW (Wr.eq_1 N x0) (True) (fun r=>True)
@[reducible,instance] def Q6u{x0}:=mkW (F9.eq_1 N x0) (True) (fun r=>True)
@[reducible,instance] def Q1c{x0}{s}:=upL (N:=N) (s:=s) (I4.eq_def N x0) (fun t=>t) x0.length (fun t=>Sh.sh x0) (fun r:((Unit)⊕(Bool))=>True) (fun _ h=>Qhe (by grind))
@[reducible,instance] def Q72{x0}:=mkW (Gy.eq_1 N x0) (Sh.sh x0) (fun r=>True)
@[reducible,instance] def Q1d{x0}{s}:=upL (N:=N) (s:=s) (I5.eq_def N x0) (fun t=>t) x0.length (fun t=>Sh.sh x0) (fun r:((Unit)⊕(Bool))=>True) (fun _ h=>Qhe (by grind))
@[reducible,instance] def Q73{x0}:=mkW (Gz.eq_1 N x0) (Sh.sh x0) (fun r=>True)
@[reducible,instance] def Qva{x0 v1 x1 x2}{s}:=upI (N:=N) (s:=s) (A5.eq_def N x0 v1 x1 x2) (fun t=>t) (9223372036854775807) (fun t=>sz x0≤9223372036854775807∧0≤v1∧v1≤x1∧x1<x0.length∧∀z,x0[x1.toNat]?=some z→0≤x2∧x2<z.2.length∧x0.length≤9223372036854775807) (fun r:((Unit)⊕(Bool))=>True)
@[reducible,instance] def Qvb{x1 x0 x2}{s}:=upI (N:=N) (s:=s) (A6.eq_def N x1 x0 x2) (fun t=>t) (x1+1) (fun t=>sz x0≤9223372036854775807∧0≤x1∧x1<x0.length∧∀z,x0[x1.toNat]?=some z→0≤x2∧x2<z.2.length∧x0.length≤9223372036854775807) (fun r:((Unit)⊕(Bool))=>True)
@[reducible,instance] def Q1e{x0 x1 x2}:=mkW (Ho.eq_1 N x0 x1 x2) (sz x0≤9223372036854775807∧0≤x1∧x1<x0.length∧(∀z,x0[x1.toNat]?=some z→0≤x2∧x2<z.2.length)) (fun r=>True)
@[reducible,instance] def Q1f{x1 x0 x2}{s}:=upI (N:=N) (s:=s) (I6.eq_def N x1 x0 x2) (fun t=>t) (x1) (fun t=>x1≤x0.length∧x0.length≤9223372036854775807) (fun r:((Unit)⊕(Int))=>∀u,r=.inr u→u≠0)
@[reducible,instance] def Q1g{x2 x0 x1}{s}:=upL (N:=N) (s:=s) (I7.eq_def N x2 x0 x1) (fun t=>t) x2.2.length (fun t=>sz x2≤9223372036854775807∧sz x0≤9223372036854775807∧Sh.sh x2∧Sh.sh x0∧0≤x1∧x1<x0.length∧x0[x1.toNat]?=some x2∧x0.length≤9223372036854775807) (fun r:((Unit)⊕(Int))=>∀u,r=.inr u→u≠0)
@[reducible,instance] def Q74{x0 x1}:=mkW (Bv.eq_1 N x0 x1) (sz x0≤9223372036854775807∧Sh.sh x0∧0≤x1∧x1<x0.length) (fun r=>r=0→∃z,x0[x1.toNat]?=some z∧z.2.length≤64)
@[reducible,instance] def Qyn{x0}{s}:=Qmp (N:=N) (s:=s) (Cy.eq_def N x0) x0 (sz x0≤9223372036854775807∧Sh.sh x0) (fun y=>(sz y:Int)≤64) ((szL (x0):Int)≤64) (fun u=>u≠0)
@[reducible,instance] def Q6v{x0}:=mkW (Aa.eq_1 N x0) (sz x0≤9223372036854775807∧Sh.sh x0) (fun r=>r=0→sz x0≤64)
@[reducible,instance] def Qyo{x0}{s}:=upL (N:=N) (s:=s) (Cz.eq_def N x0) (fun t=>t) x0.length (fun t=>sz x0≤9223372036854775807) (fun r:((Unit)⊕(Int))=>True)
@[reducible,instance] def Q6w{x0 x1}:=mkW (Ab.eq_1 N x0 x1) (sz x0≤9223372036854775807) (fun r=>r=0→x0.length≤64)
@[reducible,instance] def Qyp{v1 x0}{s}:=upI (N:=N) (s:=s) (C0.eq_def N v1 x0) (fun t=>t) (v1) (fun t=>v1<x0.length∧x0.length≤9223372036854775807) (fun r:((Unit)⊕(Int))=>∀u,r=.inr u→u≠0)
@[reducible,instance] def Qyq{x0}{s}:=Qmp (N:=N) (s:=s) (C1.eq_def N x0) x0 (sz x0≤9223372036854775807∧Sh.sh x0) (fun y=>(sz y:Int)≤64) ((szL (x0):Int)≤64) (fun u=>u≠0)
@[reducible,instance] def Q6x{x0}:=mkW (Ac.eq_1 N x0) (sz x0≤9223372036854775807∧Sh.sh x0) (fun r=>r=0→sz x0≤64)
@[reducible,instance] def Q1h{x0 x1}{s}:=upL (N:=N) (s:=s) (I8.eq_def N x0 x1) (fun t=>t) x0.2.2.2.1.length (fun t=>sz x0≤9223372036854775807) (fun r:((Unit)⊕(Bool))=>True)
@[reducible,instance] def Q75{x0 x1}:=mkW (Bw.eq_1 N x0 x1) (sz x0≤9223372036854775807) (fun r=>True)
@[reducible,instance] def Q1i{x0 x1}{s}:=upL (N:=N) (s:=s) (I9.eq_def N x0 x1) (fun t=>t) x0.2.2.2.2.1.length (fun t=>sz x0≤9223372036854775807) (fun r:((Unit)⊕(Bool))=>True)
@[reducible,instance] def Q76{x0 x1}:=mkW (Bx.eq_1 N x0 x1) (sz x0≤9223372036854775807) (fun r=>True)
@[reducible,instance] def Qyr{x0}{s}:=upL (N:=N) (s:=s) (C2.eq_def N x0) (fun t=>t.2) x0.length (fun t=>sz x0≤9223372036854775807) (fun r:((Unit)⊕(Int))=>True)
@[reducible,instance] def Q6y{x0}:=mkW (Ad.eq_1 N x0) (sz x0≤9223372036854775807) (fun r=>r=0→x0.length≤64)
@[reducible,instance] def Qys{x0}{s}:=Qmp (N:=N) (s:=s) (C3.eq_def N x0) x0.2.2.2.2.2.1 (sz x0≤9223372036854775807) (fun y=>(sz y:Int)≤64) ((szL (x0.2.2.2.2.2.1):Int)≤64) (fun u=>u≠0)
@[reducible,instance] def Q6z{x0}:=mkW (Ae.eq_1 N x0) (sz x0≤9223372036854775807) (fun r=>r=0→sz x0.2.2.2.2.2.1≤64)
@[reducible,instance] def Q60{x0}:=mkW (Af.eq_1 N x0) (True) (fun r=>r≤2∧(x0=4→r=1)∧(¬ (x0=1∨x0=2∨x0=3∨x0=4)→r=2∨r = -1))
@[reducible,instance] def Q15{x0 x1}{s}:=upL (N:=N) (s:=s) (M6.eq_def N x0 x1) (fun t=>t) x0.length (fun t=>sz x0≤9223372036854775807) (fun r:((Unit)⊕(Bool))=>True)
@[reducible,instance] def Jao{x0 x1}:=mkW (Ef.eq_1 N x0 x1) (sz x0≤9223372036854775807) (fun r=>True)
@[reducible,instance] def Qv1{x0}:=mkW (Zb.eq_1 N x0) (True) (fun r=>True)
@[reducible,instance] def Jap{x0}:=mkW (Du.eq_1 N x0) (Sh.sh x0) (fun r=>r=0→x0.ks.length≤2∧((x0.x.1=4→x0.ks.length=1)∧(¬ (x0.x.1=1∨x0.x.1=2∨x0.x.1=3∨x0.x.1=4)→x0.ks.length=2)))
@[reducible,instance] def Q16{x0 x1}:=mkW (Ey.eq_1 N x0 x1) ((x0.x.1=4→1≤x1.length)∧(¬ (x0.x.1=1∨x0.x.1=2∨x0.x.1=3∨x0.x.1=4)→2≤x1.length)) (fun r=>True)
theorem Jmu{α:Type}{a:α}(ks:List (K7 α)):sz (K7.mk a ks)=sz ks:=by
 have:∀l:List (K7 α),szL l=Jf2 l:=fun l=>by
  induction l with
  | nil=>rfl
  | cons x l ih=>simp only[szL,Jf2,ih]; rfl
 show rsz (.mk a ks)=max ks.length (szL ks)
 rw[this]; simp only[rsz]
theorem Q61{N:Nat}[Fn N]:∀(n:Nat) (e:Ja) (d:Int),1≤d→d≤17→18≤n+d→W (V6 N n e d) fun r=>r.2=0→(sz e≤2∧(dpt e:Int)≤17 - d)
 | 0,e,d,h0,h1,h2=>by omega
 | n+1,e,d,h0,h1,h2=>by
  unfold V6
  by_cases hd:d>16
  ·rw[if_pos (by simpa using hd)]
   exact⟨_,rfl,fun h=>by cases h⟩
  ·rw[if_neg (by simpa using hd)]
   have hw:IntKind.wrap .i64 (d+1)=d+1:=Q4 (by omega) (by omega)
   have ih:∀x:Ja,WP (V6 N n x (IntKind.wrap .i64 (d+1))) (fun R=>True∧∀r:Int×Int,(r.2=0→(sz x≤2∧(dpt x:Int)≤16 - d))→R r):=fun x=>Qhc fun h=>by
    rw[hw]; exact(Q61 n x (d+1) (by omega) (by omega) (by omega)).mono fun r hr hz=>⟨(hr hz).1,by have:=(hr hz).2; omega⟩
   have hfin:e.ks.length≤2→Nu (fun y=>sz y≤2∧(dpt y:Int)≤16 - d) e.ks e.ks.length→sz e≤2∧(dpt e:Int)≤17 - d:=fun hl ha=>by
    have h3:=fun y hy=>Qhy ha (JT _) y hy
    refine⟨?_,?_⟩
    ·have h4:sz e=sz e.ks:=by cases e with | mk a ks=>exact Jmu ks
     rw[h4]
     exact Q5m hl fun y hy=>(h3 y hy).1
    ·have h5:=Jtu (e:=e) (K:=(16 - d).toNat) (fun y hy=>by have:=(h3 y hy).2; omega)
     omega
   have loop:=fun s:Int×List Int=>upL (N:=N) (s:=s) (O8.eq_def N (V6 N n) e d) (fun s=>s.1) e.ks.length (fun s=>e.ks.length≤2∧s.2.length=s.1∧Nu (fun y=>sz y≤2∧(dpt y:Int)≤16 - d) e.ks s.1) (fun r:List Int⊕(Int×Int)=>(∀a,r=.inl a→a.length=e.ks.length∧Nu (fun y=>sz y≤2∧(dpt y:Int)≤16 - d) e.ks e.ks.length)∧∀w,r=.inr w→w.2≠0) (step:=by
    intro s h h0 h1 h2 hw
    try simp only[sS,reduceCtorEq]at *
    repeat' (first | intro _ | apply And.intro)
    all_goals first | assumption | omega | (rw[hw (by assumption)]; exact Rj h0 h.2.2 (by assumption) (by clear h; grind)) | ((have e1:s.1=e.ks.length:=by omega); rw[←e1]; exact h.2.2) | grind)
   refine wp ?_
   simp only[sS,reduceCtorEq,Sum.forall]at *
   repeat' (first | intro _ | apply And.intro)
   all_goals first | assumption | omega | exact W7 | (simp_all; done) | grind
@[reducible,instance] def Jdz{N:Nat}[hN:Fn N]{x0:Ja}{x1:Int}:WP (Qd8 N x0 x1) (fun R=>(x1=1)∧∀r:Int×Int,(r.2=0→(sz x0≤2∧dpt x0≤16))→R r):=Qhc (by
  intro h
  have:=hN.le
  exact(Q61 N x0 x1 (by omega) (by omega) (by omega)).mono fun r hr hz=>⟨(hr hz).1,by have:=(hr hz).2; omega⟩)
@[reducible,instance] def Q77{x0}:=mkW (By.eq_1 N x0) (True) (fun r=>r.2=0→sz x0≤2∧dpt x0≤16)
@[reducible,instance] def Qrg{v1 x0 x2}{s}:=upI (N:=N) (s:=s) (Ep.eq_def N v1 x0 x2) (fun t=>t) (v1) (fun t=>v1≤x0.2.2.2.2.2.2.length∧x0.2.2.2.2.2.2.length≤9223372036854775807) (fun r:((Unit)⊕(Int))=>∀u,r=.inr u→u≠0)
@[reducible,instance] def Qrh{x0}{s}:=Qmp (N:=N) (s:=s) (Er.eq_def N x0) x0.2.2.2.2.2.2 (sz x0≤9223372036854775807∧Sh.sh x0) (fun y=>(sz y:Int)≤64∧dpt y.2.1≤4096) ((szL x0.2.2.2.2.2.2:Int)≤64∧Bd x0) (fun u=>u≠0) (fin:=fun h hall=>⟨Q0l (fun y hy=>(hall y hy).1) (by omega),⟨fun y hy=>(hall y hy).2⟩⟩)
@[reducible,instance] def Qv2{x0}:=mkW (Ws.eq_1 N x0) (sz x0≤9223372036854775807∧Sh.sh x0) (fun r=>r=0→sz x0.2.2.2.2.2.2≤64∧Bd x0)
@[reducible,instance] def Q17{x0}:=mkW (Ez.eq_1 N x0) (sz x0≤9223372036854775807∧Sh.sh x0) (fun r=>r=0→sz x0≤64∧Bd x0)
@[reducible,instance] def Q62{x0 x1}:=mkW (Ag.eq_1 N x0 x1) (sz x0≤9223372036854775807∧sz x1≤9223372036854775807) (fun r=>True)
@[reducible,instance] def Qyt{x0}{s}:=Qmp (N:=N) (s:=s) (C4.eq_def N x0) x0 (sz x0≤9223372036854775807∧Sh.sh x0) (fun y=>(sz y:Int)≤64∧Bd y) ((szL x0:Int)≤64∧Qx Bd x0) (fun u=>u≠0) (fin:=fun h hall=>⟨Q0l (fun y hy=>(hall y hy).1) (by omega),⟨fun y hy=>(hall y hy).2⟩⟩)
@[reducible,instance] def Q63{x0}:=mkW (Ah.eq_1 N x0) (sz x0≤9223372036854775807∧Sh.sh x0) (fun r=>r=0→sz x0≤4096∧Qx Bd x0)
@[reducible,instance] def Q64{x0}:=mkW (Aj.eq_1 N x0) (True) (fun r=>True)
@[reducible,instance] def Q18{x0}{s}:=Qmp (N:=N) (s:=s) (M7.eq_def N x0) x0 (sz x0≤9223372036854775807) (fun y=>(sz y:Int)≤6) ((szL (x0):Int)≤6) (fun u=>u≠true)
@[reducible,instance] def Jaq{x0}:=mkW (Dv.eq_1 N x0) (sz x0≤9223372036854775807) (fun r=>r=true→sz x0≤12)
@[reducible,instance] def Jar{x0}:=mkW (Dw.eq_1 N x0) (sz x0≤9223372036854775807) (fun r=>r=true→sz x0≤12) (k:=by
  intro h
  try simp only[sS,reduceCtorEq]at *
  repeat' (first | intro _ | apply And.intro)
  all_goals first | (simp only[sz1,mx1,Qmo]at *; omega) | exact lv)
@[reducible,instance] def Q1j{x0 x1}:=mkW (Hp.eq_1 N x0 x1) (sz x0≤9223372036854775807∧sz x1≤9223372036854775807) (fun r=>True)
@[reducible,instance] def Q1k{x0 x1}{s}:=upL (N:=N) (s:=s) (La.eq_def N x0 x1) (fun t=>t) x0.length (fun t=>sz x0≤9223372036854775807∧x0.length≤9223372036854775807) (fun r:((Unit)⊕(Int))=>True)
@[reducible,instance] def Q78{x0 x1}:=mkW (Bz.eq_1 N x0 x1) (sz x0≤9223372036854775807) (fun r=>True)
@[reducible,instance] def Q19{x0 x1}:=mkW (E0.eq_1 N x0 x1) (sz x0≤9223372036854775807∧sz x1≤9223372036854775807) (fun r=>True)
@[reducible,instance] def Qvc{x0}{s}:=upI (N:=N) (s:=s) (A7.eq_def N x0) (fun t=>t) (x0.length) (fun t=>sz x0≤9223372036854775807∧x0.length≤9223372036854775807∧1≤t) (fun r:((Unit)⊕(Bool))=>True)
@[reducible,instance] def Q1l{x0}:=mkW (Hq.eq_1 N x0) (sz x0≤9223372036854775807) (fun r=>True)
@[reducible,instance] def Qri{x0}{s}:=upI (N:=N) (s:=s) (Es.eq_def N x0) (fun t=>t) (x0.length) (fun t=>sz x0≤9223372036854775807∧x0.length≤9223372036854775807∧1≤t) (fun r:((Unit)⊕(Bool))=>True)
@[reducible,instance] def Qv3{x0}:=mkW (Wt.eq_1 N x0) (x0.length≤9223372036854775807) (fun r=>True)
@[reducible,instance] def Q1m{x0}{s}:=upL (N:=N) (s:=s) (Lb.eq_def N x0) (fun t=>t) x0.length (fun t=>Sh.sh x0) (fun r:((Unit)⊕(Bool))=>True) (fun _ h=>Qhe (by grind))
@[reducible,instance] def Q79{x0}:=mkW (G0.eq_1 N x0) (Sh.sh x0) (fun r=>True)
@[reducible,instance] def Qyu{x0}{s}:=upL (N:=N) (s:=s) (C6.eq_def N x0) (fun t=>t) x0.2.2.2.2.2.1.length (fun t=>sz x0≤9223372036854775807∧Sh.sh x0) (fun r:((Unit)⊕(Int))=>True)
@[reducible,instance] def Q65{x0}:=mkW (Ak.eq_1 N x0) (sz x0≤9223372036854775807∧Sh.sh x0) (fun r=>True)
@[reducible,instance] def Q66{x0}:=mkW (Zy.eq_1 N x0) (True) (fun r=>True)
@[reducible,instance] def Q67{x0}:=mkW (Al.eq_1 N x0) (True) (fun r=>True)
@[reducible,instance] def Q2a{x0}{s}:=upL (N:=N) (s:=s) (M8.eq_def N x0) (fun t=>t) x0.1.length (fun t=>sz x0≤9223372036854775807∧Sh.sh x0) (fun r:((Unit)⊕(Bool))=>True)
@[reducible,instance] def Q2b{x0}{s}:=upL (N:=N) (s:=s) (M9.eq_def N x0) (fun t=>t) x0.2.1.length (fun t=>sz x0≤9223372036854775807∧Sh.sh x0) (fun r:((Unit)⊕(Bool))=>True)
@[reducible,instance] def Jas{x0}:=mkW (Dy.eq_1 N x0) (sz x0≤9223372036854775807∧Sh.sh x0) (fun r=>r=true→sz x0≤12)
@[reducible,instance] def Q2c{x1}{s}:=Qmp (N:=N) (s:=s) (M2.eq_def N x1) x1 (x1.length≤9223372036854775807) (fun y=>y.2.2.2.2.2.length≤4) (Qx (fun p:Qn=>p.2.2.2.2.2.length≤4) x1) (fun u=>u=false) (fin:=fun h hall=>⟨hall⟩)
attribute [local instance 1300] Jlm in
@[reducible,instance] def Jat{x0 x1 x2 x3}:=mkW (Ee.eq_1 N x0 x1 x2 x3) (x3≤9223372036854775807∧sz x0≤9223372036854775807∧x1.length≤9223372036854775807∧Sh.sh x0) (fun r=>r=true→x0.length≤40∧x1.length≤8∧Qx (fun p:Qn=>p.2.2.2.2.2.length≤4) x1∧Qd2 x0 x3) (k:=by
  intro h
  try simp only[sS,reduceCtorEq]at *
  repeat' (first | intro _ | apply And.intro)
  all_goals first | exact Jgz (by assumption) (by omega) (by omega) (by assumption) | exact Qyd (by omega) | exact Quy (by omega) | (refine(‹_∨_›).elim (fun k=>Quy (by omega)) (fun k=>Qyd (by omega))) | exact lv)
@[reducible,instance] def Qyv{x0}{s}:=Qmp (N:=N) (s:=s) (C5.eq_def N x0) x0.2.2.2.2.1 (x0.2.2.2.2.1.length≤9223372036854775807) (fun y=>True) (∀y∈x0.2.2.2.2.1,True) (fun u=>u=false)
attribute [local instance 1300] Jtv in
@[reducible,instance] def Q68{x0}:=mkW (Ai.eq_1 N x0) (sz x0≤9223372036854775807∧Sh.sh x0) (fun r=>r=true→L3 x0∧Qvx x0.1) (k:=by
  intro h
  try simp only[sS,reduceCtorEq]at *
  repeat' (first | intro _ | apply And.intro)
  all_goals first | ((have hq:=h.1); (have hq2:=h.2); clear h; (repeat cases ‹_∧_›); first | assumption | omega | (refine⟨?_,?_,?_,?_,?_,?_,?_,?_⟩<;>first | assumption | omega | (refine Qh0 (P:=fun p:Qn=>p.2.2.2.2.2.length≤4) ?_ (fun p hp=>QW hp (by decide)); grind) | grind) | grind) | exact lv)
@[reducible,instance] def Q2d{x0}{s}:=Qmp (N:=N) (s:=s) (Na.eq_def N x0) x0.2.2 (sz x0≤9223372036854775807∧Sh.sh x0∧Qx (fun o:Yr=>o.1.2.2.2.1≤9223372036854775807) x0.2.2) (fun y=>Qd2 x0.1.1 y.1.2.2.2.1) (Qx (fun o:Yr=>Qd2 x0.1.1 o.1.2.2.2.1) x0.2.2) (fun u=>u=false) (fin:=fun h hall=>⟨hall⟩) (step:=by
  intro s h h0 h1 h2 hw
  have hA:=h.2.2
  try simp only[sS,reduceCtorEq]at *
  repeat' (first | intro _ | apply And.intro)
  all_goals first | assumption | omega | exact Zg (P:=fun o:Yr=>o.1.2.2.2.1≤9223372036854775807) (by assumption) hA | exact QW Um (by omega) | exact h.2.1.1.1 | (refine⟨_,by assumption,?_⟩; clear h; grind) | (clear h; grind))
@[reducible,instance] def Qkv{x0}:=mkW (Dz.eq_1 N x0) (sz x0≤9223372036854775807∧Sh.sh x0∧Qx (fun o:Yr=>o.1.2.2.2.1≤9223372036854775807) x0.2.2) (fun r=>r=true→L3 x0.1∧Qvx x0.1.1∧sz x0.2.1≤12∧x0.2.2.length≤12∧Qx (fun o:Yr=>Qd2 x0.1.1 o.1.2.2.2.1) x0.2.2)
open Go Go.RowKit Gd Go.WideShapes Go.ChangeShapes
def Qd3{τ:Type}(P:Program)(r:RT τ)(t:TypeId)(good:τ→Prop):Prop :=
 P.cellsOf t=r.size∧(∀{w:World} {rc:Reach} {b:Nat} {v:Value},Value.okWide P w rc b t v→(r.agg=true→∃cs,v=.agg cs)∧(r.agg=false→∃c,v.cells=#[c]∧v=c)) ∧
 ∀{H:Type} (enc:TypeId×Value→H) (w:World) (n:Nat) (cs:List Value) (x:DataW H×List MemPlace),
  DataW.trod enc P w 0 (fun _=>true) true n t cs=some x→(x.1.weights P t).all (·≤reachBytes)=true→∃y,r.rep (lt w) w y cs∧good y
def mb:Ty→Nat
 | .int .i64=>8
 | .str=>16
 | .sl _=>24
 | .pr .bool r=>8+mb r
 | .pr f r=>mb f+mb r
 | .st fs=>mb fs
 | _=>1
def gz:(t:Ty)→t.De→Prop
 | .int k,x=>Qiv k x
 | .bool,_=>True
 | .str,x=>List.length x≤140737488351232
 | .sl e,x=>List.length x*mb e≤140737488351232∧∀y∈x,gz e y
 | .arr _ e,x=>∀y∈x,gz e y
 | .unit,_=>True
 | .pr f r,x=>gz f x.1∧gz r x.2
 | .st fs,x=>gz fs x
 | .ref,_=>True
 | .rose fs,x=>gd (.rose fs) x
abbrev Q7(P:Program)(t:TypeId)(ty:Ty):Prop:=Qd3 P (rt ty) t (gz ty)
section
variable {P:Program}
theorem Qor{t:TypeId}{ty:Ty}(h:Tt P t ty)(hg:∀x,gd ty x→gz ty x):Q7 P t ty :=
 ⟨h.1,h.2.1,fun enc w n cs x hx _=>let⟨y,h1,h2⟩:=h.2.2 enc w n cs x hx; ⟨y,h1,hg y h2⟩⟩
theorem Qyw{t:TypeId}{k:IntKind}(ht:P.underlying t=some (.int k))(hc:P.cellsOf t=1):Q7 P t (.int k):=Qor (Qnx ht hc) fun _ h=>h
theorem Jau{t:TypeId}(ht:P.underlying t=some .bool)(hc:P.cellsOf t=1):Q7 P t .bool:=Qor (Q9a ht hc) fun _ _=>trivial
theorem Jg1{t:TypeId}(ht:P.underlying t=some .string)(hc:P.cellsOf t=1):Q7 P t .str:=by
 refine⟨hc,(Qxf ht hc).2.1,fun enc w n cs x h hw=>?_⟩
 obtain⟨s,rfl,rfl,hs⟩:=DataW.trod_string ht h
 refine⟨s.data.toList,?_,?_⟩
 ·show [Value.string s]=[Yp s.data.toList]
  simp[Yp]
 ·simp only[DataW.weights,JM,QQ,decide_eq_true_eq]at hw
  exact hw.1
theorem Qhi{H:Type}{e:TypeId}:∀{l:List (DataW H)},(DataW.weightsAll P e l).all (·≤reachBytes)=true→∀(i:Nat) d,l[i]?=some d→(d.weights P e).all (·≤reachBytes)=true
 | [],_,i,d,h=>by simp at h
 | x::l,hw,i,d,h=>by
  simp only[DataW.weightsAll,XD,QQ]at hw
  cases i with
  | zero=>simp at h; subst h; exact hw.1
  | succ i=>exact Qhi hw.2 i d (by simpa using h)
theorem Qer{H:Type}:∀{ts:List TypeId} {l:List (DataW H)},(DataW.weightsEach P ts l).all (·≤reachBytes)=true→∀(i:Nat) t d,ts[i]?=some t→l[i]?=some d→(d.weights P t).all (·≤reachBytes)=true
 | [],l,_,i,t,d,h,_=>by simp at h
 | t0::ts,[],_,i,t,d,_,h=>by simp at h
 | t0::ts,x::l,hw,i,t,d,ht,h=>by
  simp only[DataW.weightsEach,XD,QQ]at hw
  cases i with
  | zero=>simp at h ht; subst h; subst ht; exact hw.1
  | succ i=>exact Qer hw.2 i t d (by simpa using ht) (by simpa using h)
theorem Uf{t e:TypeId}{ty:Ty}(ht:P.underlying t=some (.slice e))(hc:P.cellsOf t=1)(he:Q7 P e ty)(hpos:Nat.ble 1 ty.size=true)(hby:Nat.ble (mb ty) (P.bytesOf e)=true):Q7 P t (.sl ty):=by
 have hby:=QK hby
 have hps:0<(rt ty).size:=by rw[Jm]; exact QK hpos
 refine⟨hc,fun hv=>⟨fun h=>(nomatch h),fun _=>?_⟩,fun enc w n cs x h hw=>?_⟩
 ·obtain⟨a,l,c,rfl⟩:=okWide_slice ht hv
  exact⟨_,rfl,rfl⟩
 ·rcases DataW.trod_slice ht h with⟨rfl,_⟩ | ⟨a,len,cap,elems,rest,m,_,rfl,rfl,_,hlc,hcm,hel,hall,_⟩
  ·exact⟨([]:List ty.De),⟨_,rfl,none,0,0,rfl,rfl,QY _,fun h0=>absurd h0 (by omega)⟩,by simp,fun y hy=>by cases hy⟩
  ·simp only[DataW.weights,ht,JM,XD,QQ,decide_eq_true_eq,JO]at hw
   obtain⟨hw1,hw2,_⟩:=hw
   have hsz:P.cellsOf e=(rt ty).size:=he.1
   have h1:∀i,i<len→∃y cs,(rt ty).rep (lt w) w y cs∧gz ty y∧w.cells? 0 (a.add (i*P.cellsOf e)) (P.cellsOf e)=some cs:=by
    intro i hi
    have:=hall i hi
    obtain⟨z,hz⟩:∃z,elems[i]?=some z:=⟨elems[i]'(by omega),List.getElem?_eq_getElem (by omega)⟩
    rw[hz]at this
    obtain⟨cs,hcs,hz2⟩:=Option.bind_eq_some_iff.1 this
    obtain⟨y,hy,hg⟩:=he.2.2 enc w m cs z hz2 (Qhi hw2 i z.1 (by rw[JS,hz]; rfl))
    exact⟨y,cs,hy,hg,hcs⟩
   have h2:∀k,k≤len→∃ys:List ty.De,ys.length=k∧∀i y,ys[i]?=some y→∃cs,(rt ty).rep (lt w) w y cs∧gz ty y∧w.cells? 0 (a.add (i*P.cellsOf e)) (P.cellsOf e)=some cs:=by
    intro k
    induction k with
    | zero=>exact fun _=>⟨[],rfl,fun i y h=>by simp at h⟩
    | succ k ih =>
     intro hk
     obtain⟨ys,hl,hys⟩:=ih (by omega)
     obtain⟨y,cs,hy,hg,hcs⟩:=h1 k (by omega)
     refine⟨ys++[y],by simp[hl],fun i z hz=>?_⟩
     rcases Nat.lt_or_ge i k with hlt | hge
     ·rw[JW (by omega)]at hz
      exact hys i z hz
     ·rw[JE (by omega)]at hz
      have:i - ys.length=0:=by
       rcases Nat.eq_zero_or_pos (i - ys.length)with h | h
       ·exact h
       ·rw[List.getElem?_eq_none (by simp; omega)]at hz; cases hz
      rw[this]at hz
      simp at hz
      subst hz
      have hik:i=k:=by omega
      subst hik
      exact⟨cs,hy,hg,hcs⟩
   obtain⟨ys,hl,hys⟩:=h2 len (QY _)
   refine⟨ys,⟨_,rfl,some a,len,cap,rfl,hl,hlc,fun h0=>?_⟩,?_,fun y hy=>?_⟩
   ·have hsp:a.spot=none:=by
     obtain⟨y,cs,_,_,hcs⟩:=h1 0 h0
     obtain⟨_,hlen,hcell⟩:=World.cells?_some hcs
     have g0:=hcell 0 (by omega)
     obtain⟨c0,hc0⟩:∃c0,cs[0]?=some c0:=⟨cs[0]'(by omega),List.getElem?_eq_getElem (by omega)⟩
     rw[hc0]at g0
     simpa[Addr.add]using World.cell?_spot g0
    obtain⟨b,o,sp⟩:=a
    simp only at hsp
    subst hsp
    refine⟨b,o,rfl,fun i y hi=>?_⟩
    obtain⟨cs,hy,_,hcs⟩:=hys i y hi
    obtain⟨_,hlen,hcell⟩:=World.cells?_some hcs
    refine⟨cs,hy,fun j u hu=>?_⟩
    have hj:j<P.cellsOf e:=by rw[←hlen]; exact(List.getElem?_eq_some_iff.1 hu).1
    have:=hcell j hj
    rw[hu,add_plain,add_plain,hsz]at this
    refine⟨?_,this⟩
    show b<w.heap.size
    unfold World.cell? at this
    rcases Nat.lt_or_ge b w.heap.size with hlt | hge
    ·exact hlt
    ·rw[Array.getElem?_eq_none hge]at this; cases this
   ·have hl':List.length ys=len:=hl
    have:len*mb ty≤(elems.length+rest.length)*P.bytesOf e:=Nat.mul_le_mul (by omega) hby
    rw[hl']
    exact QW this hw1
   ·obtain⟨i,hi⟩:=List.getElem?_of_mem hy
    obtain⟨_,_,hg,_⟩:=hys i y hi
    exact hg
theorem Qd3.fld{τ:Type}{r:RT τ}{t:TypeId}{g:τ→Prop}(ho:Qd3 P r t g){H:Type}{enc:TypeId×Value→H}{w:World}{n:Nat}{cs:List Value}{fs:Array Field}{xs:List (DataW H×List MemPlace)}
  (hlen:xs.length=fs.size) (hf:∀(i:Nat) (f:Field),fs[i]?=some f→DataW.trod enc P w 0 (fun _=>true) true n f.type ((cs.drop f.offset).take (P.cellsOf f.type))=xs[i]?)
  (hw:(DataW.weightsEach P (fs.toList.map (·.type)) (xs.map (·.1))).all (·≤reachBytes)=true)
  (i:Nat) (o:Nat) {f:Field} (hi:fs[i]?=some f) (ht:f.type=t) (hof:f.offset=o):∃y,r.rep (lt w) w y ((cs.drop o).take r.size)∧g y:=by
 have h1:=hf i f hi
 have hlt:=(Array.getElem?_eq_some_iff.1 hi).1
 have hx:xs[i]?=some xs[i]:=List.getElem?_eq_getElem (by omega)
 rw[hx,ht,hof,ho.1]at h1
 refine ho.2.2 enc w n _ _ h1 (Qer hw i t xs[i].1 ?_ ?_)
 ·rw[JS,ZB,hi]
  show some f.type=some t
  rw[ht]
 ·rw[JS,hx]; rfl
inductive Qu0(P:Program)(ff:Array Field):Ty→Nat→Nat→Prop
 | last {ty:Ty} {i off t:Nat} {f:Field} (ho:Q7 P t ty) (hi:ff[i]?=some f) (ht:f.type=t) (hoff:f.offset=off):Qu0 P ff ty i off
 | pr {ty r:Ty} {i off t:Nat} {f:Field} (ho:Q7 P t ty) (hi:ff[i]?=some f) (ht:f.type=t) (hoff:f.offset=off) (hr:Qu0 P ff r (i+1) (off+ty.size)):Qu0 P ff (.pr ty r) i off
theorem Jav{ff:Array Field}{H:Type}{enc:TypeId×Value→H}{w:World}{n:Nat}{cs:List Value}{xs:List (DataW H×List MemPlace)}
  (hlen:xs.length=ff.size) (hf:∀(i:Nat) (f:Field),ff[i]?=some f→DataW.trod enc P w 0 (fun _=>true) true n f.type ((cs.drop f.offset).take (P.cellsOf f.type))=xs[i]?)
  (hw:(DataW.weightsEach P (ff.toList.map (·.type)) (xs.map (·.1))).all (·≤reachBytes)=true) :
  ∀{ty:Ty} {i off:Nat},Qu0 P ff ty i off→cs.length=off+ty.size→∃y,(rt ty).rep (lt w) w y (cs.drop off)∧gz ty y:=by
 intro ty i off h
 induction h with
 | last ho hi ht hoff =>
  intro hl
  obtain⟨y,h1,h2⟩:=Qd3.fld ho hlen hf hw _ _ hi ht hoff
  rw[List.take_of_length_le (by simp; rw[Jm]; omega)]at h1
  exact⟨y,h1,h2⟩
 | pr ho hi ht hoff hr ih =>
  intro hl
  rename_i ty r i off t f
  obtain⟨y,h1,h2⟩:=Qd3.fld ho hlen hf hw _ _ hi ht hoff
  have hl':cs.length=off+ty.size+r.size:=by
   have:(Ty.pr ty r).size=ty.size+r.size:=rfl
   omega
  obtain⟨z,h3,h4⟩:=ih hl'
  refine⟨(y,z),⟨_,cs.drop (off+ty.size),?_,h1,h3⟩,h2,h4⟩
  rw[Jm,←List.drop_drop]
  exact(List.take_append_drop _ _).symm
theorem Vn{t:TypeId}{fs:Ty}{ff:Array Field}(ht:P.underlying t=some (.struct ff))(hc:P.cellsOf t=fs.size)(ho:Qu0 P ff fs 0 0):Q7 P t (.st fs):=by
 refine⟨by rw[hc,Jm]; rfl,fun hv=>⟨fun _=>?_,fun h=>nomatch h⟩,fun enc w n cs x h hw=>?_⟩
 ·obtain⟨c,rfl,_⟩:=okWide_struct ht hv; exact⟨_,rfl⟩
 ·obtain⟨xs,m,_,rfl,hl,hlen,hf⟩:=DataW.trod_struct ht h
  simp only[DataW.weights,ht]at hw
  obtain⟨y,h1,h2⟩:=Jav hlen hf hw ho (by rw[hl,hc]; simp)
  exact⟨y,by simpa[rt,Jsk]using h1,h2⟩
theorem Qd3.arg{τ:Type}{r:RT τ}{t:TypeId}{g:τ→Prop}(ho:Qd3 P r t g){H:Type}{enc:TypeId×Value→H}{w:World}{rc:Reach}{b:Nat}{v:Value}{d:DataW H}{ps:List MemPlace}
  (hv:Value.okWide P w rc b t v) (h:DataW.Trod enc P w 0 (fun _=>true) true t v d ps) (hw:(d.weights P t).all (·≤reachBytes)=true):∃y,isV r (lt w) w y v∧g y:=by
 obtain⟨n,hn⟩:=h
 obtain⟨y,hy,hg⟩:=ho.2.2 enc w n _ _ hn hw
 refine⟨y,⟨_,hy,?_⟩,hg⟩
 unfold RT.val
 cases ha:r.agg with
 | true =>
  obtain⟨cs,rfl⟩:=(ho.2.1 hv).1 ha
  simp[Value.cells]
 | false =>
  obtain⟨c,hc,rfl⟩:=(ho.2.1 hv).2 ha
  rw[hc]; simp
end
section
variable {H:Type} {enc:TypeId×Value→H} {P:Program} {W:World} {base:Nat} {vs:List String} {us:List TypeId}
theorem Jty{t1 t2:TypeId}{args:Array Value}{ds gs:List (DataW H)}{before:List MemPlace}{ts:Array TypeId}(hts:ts=#[t1,t2])
  (hval:∀(j:Nat) t v,ts[j]?=some t→args[j]?=some v→Value.okWide P W .any base t v) (hW:DataW.Whole enc P ts.toList vs false W args.toList ds gs before)
  (hz:(DataW.weightsEach P (ts.toList++us) (ds++gs)).all (·≤reachBytes)=true)
  {τ1 τ2:Type} {r1:RT τ1} {r2:RT τ2} {g1:τ1→Prop} {g2:τ2→Prop} (ho1:Qd3 P r1 t1 g1) (ho2:Qd3 P r2 t2 g2) :
  ∃v1 v2 y1 y2,args=⟨[v1,v2]⟩∧isV r1 (lt W) W y1 v1∧g1 y1∧isV r2 (lt W) W y2 v2∧g2 y2:=by
 subst hts
 obtain⟨p,q,hA,_⟩:=hW
 obtain⟨v1,vs1,d1,ds1,p1,q1,hargs,rfl,rfl,h1,k1⟩:=trodAll_cons hA
 obtain⟨v2,vs2,d2,ds2,p2,q2,rfl,rfl,rfl,h2,k2⟩:=trodAll_cons k1
 obtain⟨rfl,rfl,rfl⟩:=trodAll_nil k2
 obtain rfl:args=⟨[v1,v2]⟩:=by cases args; simp_all
 simp only[QA,DataW.weightsEach,XD,QQ]at hz
 obtain⟨y1,hy1,hg1⟩:=ho1.arg (hval 0 t1 v1 rfl rfl) h1 hz.1
 obtain⟨y2,hy2,hg2⟩:=ho2.arg (hval 1 t2 v2 rfl rfl) h2 hz.2.1
 exact⟨v1,v2,y1,y2,rfl,hy1,hg1,hy2,hg2⟩
end
theorem Jpe{l:List Qm}{t:Int}(h:Qvx l)(hn:Qd2 l t):∃I:Vf,Qx (fun m:Qm=>@Aft I m.1) l∧(0<l.length→t<12622780800→t<I.hi):=by
 cases l with
 | nil=>exact⟨⟨0,0,by omega,by omega,by omega⟩,⟨fun m hm=>absurd hm JB⟩,fun h=>absurd h (by simp)⟩
 | cons a l =>
  have ha:=(h.all a (.head _)).1
  rcases hn.at_ a rfl with ht | ht
  ·exact⟨⟨0,69120000,by omega,by omega,by omega⟩,⟨fun m hm=>@Aft.mk ⟨0,69120000,by omega,by omega,by omega⟩ _ (h.all m hm).1.1⟩,fun _ _=>ht⟩
  ·by_cases hc:a.1+69120000≤12622780800
   ·exact⟨⟨a.1,a.1+69120000,by omega,by omega,by omega⟩,⟨fun m hm=>@Aft.mk ⟨a.1,a.1+69120000,by omega,by omega,by omega⟩ _ ((h.all m hm).2 a rfl)⟩,fun _ _=>by show t<a.1+69120000; omega⟩
   ·exact⟨⟨a.1,12622780800,by omega,by omega,by omega⟩,⟨fun m hm=>@Aft.mk ⟨a.1,12622780800,by omega,by omega,by omega⟩ _ ((h.all m hm).2 a rfl)⟩,fun _ h=>h⟩
structure StO(i:Nat)(s:Qr)(m:List (Int×Qa)):Prop where
 b:s.1.length≤12+i*11468800000
 z:sz s.1≤1000000000000
 w:s.2.1.length≤12+i
 c:s.2.2.length≤12
 ms:Rp m
 l:m.length≤i
structure Jmv(l:List Qm)(x:J5):Prop where
 sh:Sh.sh x.2.2.2.2.2.2.1
 len:List.length x.2.2.2.2.2.2.1≤9223372036854775807
 near:Qd2 l x.2.2.2.1
 key:Fz x.1=true
theorem Jmw{i j:Nat}{s:Qr}{m:List (Int×Qa)}(h:StO i s m)(hij:i≤j):StO j s m:=⟨QW h.b (Nat.add_le_add_left (QI _ hij) 12),h.z,by have:=h.w; omega,h.c,h.ms,by have:=h.l; omega⟩
theorem Jvx{N:Nat}[hN:Fn N]{x1:J5}{b:Qt}{s:Qr}{m:List (Int×Qa)}{i:Nat}(hi:i≤12)(hb:L3 b)(he:Qvx b.1)(hx:Jmv b.1 x1)(h:StO i s m) :
  ∃(a:Qq) (s':Qr) (m':List (Int×Qa)),U7 N x1 b s m=some (a,b,s'.1,s'.2.1,s'.2.2,m')∧StO (i+1) s' m':=by
 obtain⟨I,hA,hT⟩:=Jpe he hx.near
 have hb1:=h.b; have hw1:=h.w; have hc1:=h.c; have hl1:=h.l
 obtain⟨⟨a,b',bk,w,c,m'⟩,er,p1,p2,p3,p4,p5,p6,p7,p8⟩:=(@Qe8 N _ I x1 b s m).spec _ ⟨⟨hb,hA,by omega,h.z,by omega,by omega,hx.sh,hx.len,hT,h.ms,by omega,hx.key⟩,fun r h=>h⟩
 dsimp only at p1 p2 p3 p4 p5 p6 p7 p8
 subst p1
 exact⟨a,(bk,w,c),m',er,⟨by dsimp only; omega,p3,by dsimp only; omega,by dsimp only; rw[p5]; exact hc1,p6,by omega⟩⟩
theorem Jtz{N:Nat}[hN:Fn N]{t:Int}{b:Qt}{s:Qr}{m:List (Int×Qa)}{i:Nat}(hi:i≤12)(h:StO i s m) :
  ∃(s':Qr) (m':List (Int×Qa)) (l:List Int),Vx N t b s m=some (b,s',m',l)∧StO i s' m':=by
 have hb1:=h.b; have hw1:=h.w; have hc1:=h.c; have hl1:=h.l
 obtain⟨⟨b',s',m',l⟩,er,p1,p2,p3,p4,p5,p6,p7,p8,p9⟩:=(R9 (N:=N) (x1:=t) (ca:=b) (cj:=s) (c7:=m)).spec _ ⟨⟨h.ms,by omega,by omega,h.z,by omega,by omega⟩,fun r h=>h⟩
 dsimp only at p1 p2 p3 p4 p5 p6 p7 p8 p9
 subst p1
 exact⟨s',m',l,er,⟨by omega,p2,by omega,by rw[p5]; exact hc1,p6,by omega⟩⟩
theorem Jmx{N:Nat}[hN:Fn N]{b:Qt}{s:Qr}{m:List (Int×Qa)}{i:Nat}(hi:i≤13)(h:StO i s m) :
  Yc N b s m=some s∧V8 N s s=some true∧∃l:List Qa,Jw N b s m=some (m,l)∧Vd N l l=some true:=by
 have hb1:=h.b; have hw1:=h.w; have hc1:=h.c; have hl1:=h.l
 obtain⟨r,e1,q1⟩:=(Qav (N:=N) (ca:=b) (cj:=s) (c7:=m)).spec _ ⟨⟨h.z,by omega,by omega⟩,fun r h=>h⟩
 obtain⟨r2,e2,q2⟩:=(Qiu (N:=N) (x0:=s) (x1:=s)).spec _ ⟨by have:=h.z; simp only[sz1,mx1,Qmo]at *; omega,fun r h=>h⟩
 obtain⟨⟨m',l⟩,e3,q3,q4,q5⟩:=(Oa (N:=N) (ca:=b) (cj:=s) (c7:=m)).spec _ ⟨⟨h.ms,by omega⟩,fun r h=>h⟩
 dsimp only at q3 q4 q5
 subst q3
 have hz:sz l≤9223372036854775807:=Q5m (by omega) fun x hx=>by
  have k:=h.ms.all.all _ (Rn (q4.all x hx))
  have k1:=k.tk; have k2:=k.st
  simp only[sz1,mx1,Qmo]at *; omega
 obtain⟨r4,e4,q6⟩:=(Oc (N:=N) (x0:=l) (x1:=l)).spec _ ⟨hz,fun r h=>h⟩
 exact⟨q1▸e1,(q2 rfl)▸e2,l,e3,(q6 rfl)▸e4⟩
theorem Jpf(M:Nat):Z8 (M+64)=some true:=by kernel_rfl
theorem Jmy{N:Nat}[hN:Fn N]:Z8 N=some true:=by
 have e:N=(N - 64)+64:=by have:=hN.le; omega
 rw[e]; exact Jpf _
theorem Jd0{N:Nat}[hN:Fn N]{o:Yr}{b:Qt}{s:Qr}{m:List (Int×Qa)}{i:Nat}(hi:i≤12)(hb:L3 b)(he:Qvx b.1)(hx:Jmv b.1 o.1)(h:StO i s m) :
  ∃(s':Qr) (m':List (Int×Qa)),Y8 N o b s m=some (b,s',m')∧StO (i+1) s' m':=by
 unfold Y8
 by_cases hc:o.2=true
 ·rw[if_pos hc]
  obtain⟨s',m',l,e1,hs⟩:=Jtz (N:=N) (t:=o.1.2.2.2.1) (b:=b) hi h
  exact⟨s',m',by rw[e1]; rfl,Jmw hs (XC i)⟩
 ·rw[if_neg hc]
  obtain⟨a,s',m',e1,hs⟩:=Jvx (N:=N) hi hb he hx h
  exact⟨s',m',by rw[e1]; rfl,hs⟩
abbrev cSt(i:Int)(b:Qt)(s:Qr)(m:List (Int×Qa)):Int×(List Qm)×(List Qw)×(List Qn)×(List Hk)×(List Int)×(List Qz)×(List Qb)×(List Qc)×(List Qd)×(List (Int×Qa)) :=
 (i,b.1,b.2.1,b.2.2.1,b.2.2.2.1,b.2.2.2.2.1,b.2.2.2.2.2,s.1,s.2.1,s.2.2,m)
theorem Jd1{N:Nat}[hN:Fn N]{x0:J7}(hl:x0.2.2.length≤12)(hb:L3 x0.1)(he:Qvx x0.1.1)(hx:∀o∈x0.2.2,Jmv x0.1.1 o.1){n:Nat}(hn:n≤x0.2.2.length):∀(k f i:Nat) (s:Qr) (m:List (Int×Qa)),n=i+k→k<f→StO i s m →
  ∃s' m',Ql (Jz N (n:Int) x0) f (cSt i x0.1 s m)=some (x0.1,s',m')∧StO n s' m'
 | 0,0,i,s,m,hk,hf,h=>by omega
 | 0,f+1,i,s,m,hk,hf,h=>by
  have e:Jz N (n:Int) x0 (cSt i x0.1 s m)=some (.inr (x0.1,s,m)):=by
   unfold Jz
   rw[if_neg (fun h=>by have:=of_decide_eq_true h; dsimp only[cSt]at this; omega)]
  have hi:i=n:=by omega
  subst hi
  exact⟨s,m,by simp[Ql,e],h⟩
 | k+1,0,i,s,m,hk,hf,h=>by omega
 | k+1,f+1,i,s,m,hk,hf,h=>by
  have hw:IntKind.wrap .i64 ((i:Int)+1)=((i+1:Nat):Int):=Q4 (n:=(i:Int)+1) (by omega) (by omega)
  have hi:i<x0.2.2.length:=by omega
  obtain⟨s1,m1,e1,h1⟩:=Jd0 (N:=N) (b:=x0.1) (by omega) hb he (hx _ (ZW hi)) h
  have e:Jz N (n:Int) x0 (cSt i x0.1 s m)=some (.inl (cSt ((i+1:Nat):Int) x0.1 s1 m1)):=by
   unfold Jz
   rw[if_pos (decide_eq_true (by show(i:Int)<_; omega))]
   dsimp only[cSt]
   rw[Q0j hi,QU]
   have e1':Y8 N x0.2.2[i] (x0.1.1,x0.1.2.1,x0.1.2.2.1,x0.1.2.2.2.1,x0.1.2.2.2.2.1,x0.1.2.2.2.2.2) (s.1,s.2.1,s.2.2) m=some (x0.1,s1,m1):=e1
   rw[e1',QU,hw]
  obtain⟨s',m',e2,h2⟩:=Jd1 (N:=N) hl hb he hx hn k f (i+1) s1 m1 (by omega) (by omega) h1
  exact⟨s',m',by simp only[Ql,e,QU]; exact e2,h2⟩
theorem Q69{N:Nat}[hN:Fn N]{x0:J7}(hl:x0.2.2.length≤12)(hb:L3 x0.1)(he:Qvx x0.1.1)(hx:∀o∈x0.2.2,Jmv x0.1.1 o.1):∀(k f i:Nat) (s:Qr) (m:List (Int×Qa)),x0.2.2.length=i+k→k<f→StO i s m →
  ∃s' m',Ql (J0 N x0) f (cSt i x0.1 s m)=some (x0.1,s',m')∧Ql (Yf N x0) f ((i:Int),x0.1,s,m)=some (x0.1,s',m')∧StO x0.2.2.length s' m'
 | 0,0,i,s,m,hk,hf,h=>by omega
 | 0,f+1,i,s,m,hk,hf,h=>by
  have e:J0 N x0 (cSt i x0.1 s m)=some (.inr (x0.1,s,m)):=by
   unfold J0
   rw[if_neg (fun h=>by have:=of_decide_eq_true h; dsimp only[cSt]at this; omega)]
  have e3:Yf N x0 ((i:Int),x0.1,s,m)=some (.inr (x0.1,s,m)):=by
   unfold Yf
   rw[if_neg (fun h=>by have:=of_decide_eq_true h; dsimp only at this; omega)]
  have hi:x0.2.2.length=i:=by omega
  exact⟨s,m,by simp[Ql,e],by simp[Ql,e3],hi▸h⟩
 | k+1,0,i,s,m,hk,hf,h=>by omega
 | k+1,f+1,i,s,m,hk,hf,h=>by
  have hw:IntKind.wrap .i64 ((i:Int)+1)=((i+1:Nat):Int):=Q4 (n:=(i:Int)+1) (by omega) (by omega)
  have hi:i<x0.2.2.length:=by omega
  obtain⟨s1,m1,e1,h1⟩:=Jd0 (N:=N) (b:=x0.1) (by omega) hb he (hx _ (ZW hi)) h
  have e:J0 N x0 (cSt i x0.1 s m)=some (.inl (cSt ((i+1:Nat):Int) x0.1 s1 m1)):=by
   unfold J0
   rw[if_pos (decide_eq_true (by show(i:Int)<_; omega))]
   dsimp only[cSt]
   rw[Q0j hi,QU]
   have e1':Y8 N x0.2.2[i] (x0.1.1,x0.1.2.1,x0.1.2.2.1,x0.1.2.2.2.1,x0.1.2.2.2.2.1,x0.1.2.2.2.2.2) (s.1,s.2.1,s.2.2) m=some (x0.1,s1,m1):=e1
   rw[e1',QU,hw]
  have e3:Yf N x0 ((i:Int),x0.1,s,m)=some (.inl (((i+1:Nat):Int),x0.1,s1,m1)):=by
   unfold Yf
   rw[if_pos (decide_eq_true (by show(i:Int)<_; omega))]
   dsimp only
   have e1':H0 N x0.2.2[i] x0.1 s m=some (x0.1,s1,m1):=e1
   rw[Q0j hi,QU,e1',QU,hw]
  obtain⟨s',m',e2,e4,h2⟩:=Q69 (N:=N) hl hb he hx k f (i+1) s1 m1 (by omega) (by omega) h1
  exact⟨s',m',by simp only[Ql,e,QU]; exact e2,by simp only[Ql,e3,QU]; exact e4,h2⟩
theorem Jaw{V:Type}{k:Int}{m:List (Int×V)}(h:k∉m.map Prod.fst):Qg (k:=.int .i64) k m=none:=by
 cases hf:Qg (k:=.int .i64) k m with
 | none=>rfl
 | some x=>exact absurd (QZ.2 ⟨_,Rn hf,rfl⟩) h
theorem Jt0{N:Nat}[hN:Fn N]{p:Int×Qa}{acc:List (Int×Qa)}(h:Qut p):V9 N p acc=some (.inl (Jj (k:=.int .i64) p.1 p.2 acc)):=by
 obtain⟨r,e,q⟩:=(Qhh (N:=N) (x0:=p.2)).spec _ ⟨⟨h.tk,h.st⟩,fun r h=>h⟩
 unfold V9
 rw[e,QU]
 rw[q]
theorem Qyx{N:Nat}[hN:Fn N]:∀(l acc:List (Int×Qa)),(∀p∈l,Qut p)→((l++acc).map Prod.fst).Nodup→(acc.map Prod.fst).Pairwise (·<·) →
  ∃r,Mz (V9 N) l acc=some (.inl r)∧r.Perm (l++acc)∧(r.map Prod.fst).Pairwise (·<·)
 | [],acc,_,_,hs=>⟨acc,rfl,.refl _,hs⟩
 | p::l,acc,hl,hn,hs=>by
  have hn':p.1∉(l++acc).map Prod.fst∧((l++acc).map Prod.fst).Nodup:=QN.1 hn
  have hf:Qg (k:=.int .i64) p.1 acc=none:=Jaw fun h=>hn'.1 (by rw[QC]; exact List.mem_append_right _ h)
  have hp:(Jj (k:=.int .i64) p.1 p.2 acc:List (Int×Qa)).Perm (p::acc):=by rw[Ro hf]; exact Ea
  have hq:(l++(Jj (k:=.int .i64) p.1 p.2 acc:List (Int×Qa))).Perm (p::l++acc):=(hp.append_left l).trans List.perm_middle
  obtain⟨r,e,h1,h2⟩:=Qyx (N:=N) l (Jj (k:=.int .i64) p.1 p.2 acc) (fun q hq=>hl q (.tail _ hq)) ((hq.map Prod.fst).nodup_iff.2 hn) (Jmh hs)
  exact⟨r,by simp only[Mz,Jt0 (hl p (.head _))]; exact e,h1.trans hq,h2⟩
theorem Jmz{N:Nat}[hN:Fn N]{m:List (Int×Qa)}(h:Rp m):Ih (V9 N) m []=some (.inl m):=Qs9 fun ys hy=>by
 have hn:(m.map Prod.fst).Nodup:=h.so.imp fun hab e=>by omega
 obtain⟨r,e,h1,h2⟩:=Qyx (N:=N) ys [] (fun p hp=>h.all.all p (hy.mem_iff.1 hp)) (by rw[QH]; exact(hy.map _).nodup_iff.2 hn) (by simp)
 rw[QH]at h1
 have hr:r=m:=List.Perm.eq_of_pairwise (le:=fun a b:Int×Qa=>a.1<b.1) (fun a b _ _ h1 h2=>absurd h1 (by omega)) (JY.1 h2) (JY.1 h.so) (h1.trans hy)
 rw[e,hr]
structure Jt1(b:Qt):Prop where
 bk:L3 b
 t:b.2.2.2.1.length*32≤140737488355328
 a:b.2.2.2.2.2.length*72≤140737488355328
 g:Qx (fun a:Qz=>a.2.2.2.2.1.length*24≤140737488355328) b.2.2.2.2.2
theorem Jm0{N:Nat}[hN:Fn N]{b:Qt}{s:Qr}{m:List (Int×Qa)}{i:Nat}(hi:i≤12)(hb:Jt1 b)(h:StO i s m):D1 N b s=some (b.1,b.2.1,b.2.2.1,b.2.2.2.1,b.2.2.2.2.1,b.2.2.2.2.2,s.1,s.2.1,s.2.2,[]):=by
 have hb1:=h.b; have hw1:=h.w; have hc1:=h.c; have hz:=h.z
 obtain⟨w,ew,hw⟩:=(Q1b (N:=N) (x0:=b) (x1:=s)).spec _ ⟨⟨hb.bk,hb.t,hb.a,hb.g,by omega,by omega,by omega⟩,fun r h=>h⟩
 exact hw▸ew
theorem Jm1{N:Nat}[hN:Fn N]{b:Qt}{s:Qr}{m:List (Int×Qa)}{i:Nat}(hi:i≤12)(hb:Jt1 b)(h:StO i s m):Xl N b s m=some (.inl (b.1,b.2.1,b.2.2.1,b.2.2.2.1,b.2.2.2.2.1,b.2.2.2.2.2,s.1,s.2.1,s.2.2,m)):=by
 unfold Xl J6
 rw[QU,if_neg (by decide),Jm0 hi hb h,QU]
 dsimp only
 rw[Jmz h.ms,QU]
theorem Jpg{N:Nat}[hN:Fn N]{x0:J7}{x1:Int}(h0:0≤x1)(h1:x1≤255)(hz:sz x0≤9223372036854775807)(hs:Sh.sh x0)(ht:x0.1.2.2.2.1.length*32≤140737488355328)(ha:x0.1.2.2.2.2.2.length*72≤140737488355328)(hg:Qx (fun a:Qz=>a.2.2.2.2.1.length*24≤140737488355328) x0.1.2.2.2.2.2)
  (hAt:Qx (fun o:Yr=>o.1.2.2.2.1≤9223372036854775807) x0.2.2) (hk:∀o∈x0.2.2,Fz o.1.1=true):Us N x0 x1=some true:=by
 obtain⟨r,er,hr⟩:=(Qkv (N:=N) (x0:=x0)).spec _ ⟨⟨hz,hs,hAt⟩,fun r h=>h⟩
 unfold Us
 rw[er,QU]
 cases r with
 | false=>rw[if_pos (by decide),Jmy]; rfl
 | true =>
  rw[if_neg (by decide)]
  obtain⟨hb,he,h12,hl,hn⟩:=hr rfl
  have h12':sz x0.2.1.1≤12∧x0.2.1.2.1.length≤12∧x0.2.1.2.2.length≤12:=by
   simp only[sz1,mx1,Qmo]at h12; exact⟨by omega,by omega,by omega⟩
  have hb1:=Um (l:=x0.2.1.1)
  have hs0:StO 0 x0.2.1 []:=⟨by omega,by omega,by omega,by omega,⟨Y9,.nil⟩,by simp⟩
  have hcb:Jt1 x0.1:=⟨hb,ht,ha,hg⟩
  have hx:∀o∈x0.2.2,Jmv x0.1.1 o.1:=fun o ho=>by
   have h1:Sh.sh o.1.2.2.2.2.2.2.1:=by
    have h2:Sh.sh x0.2.2:=hs.2.2
    exact(Jlj ho h2).1.2.2.2.2.2.2.1
   exact⟨h1,h1,hn.all o ho,hk o ho⟩
  have hN':=hN.le
  rw[Jm0 (by omega) hcb hs0,QU]
  have hw1:IntKind.wrap .i64 x1=x1:=Q4 (by omega) (by omega)
  have hw2:IntKind.wrap .i64 ((x0.2.2.length:Int)+1)=(x0.2.2.length:Int)+1:=Q4 (by omega) (by omega)
  obtain⟨n,hn1,hn2⟩:∃n:Nat,x1.tmod ((x0.2.2.length:Int)+1)=n∧n≤x0.2.2.length:=by
   have e1:x1.tmod ((x0.2.2.length:Int)+1)=x1 % ((x0.2.2.length:Int)+1):=JV h0
   have e2:=Int.emod_nonneg x1 (show((x0.2.2.length:Int)+1)≠0 by omega)
   have e3:=Int.emod_lt_of_pos x1 (show 0<((x0.2.2.length:Int)+1) by omega)
   exact⟨(x1 % ((x0.2.2.length:Int)+1)).toNat,by omega,by omega⟩
  have hrem:Q2q x1 ((x0.2.2.length:Int)+1)=some (n:Int):=by
   unfold Q2q
   rw[if_neg (by omega),hn1]
  rw[hw1,hw2,hrem,QU]
  dsimp only
  obtain⟨s1,m1,e1,hs1⟩:=Jd1 (N:=N) hl hb he hx hn2 n N 0 x0.2.1 [] (by omega) (by omega) hs0
  have e1':Ql (Jz N (n:Int) x0) N (0,x0.1.1,x0.1.2.1,x0.1.2.2.1,x0.1.2.2.2.1,x0.1.2.2.2.2.1,x0.1.2.2.2.2.2,x0.2.1.1,x0.2.1.2.1,x0.2.1.2.2,[])=some (x0.1,s1,m1):=e1
  rw[e1',QU]
  dsimp only
  rw[Jm1 (by omega) hcb hs1,QU]
  dsimp only
  obtain⟨s2,m2,e2,e3,hs2⟩:=Q69 (N:=N) hl hb he hx (x0.2.2.length - n) N n s1 m1 (by omega) (by omega) hs1
  have e2':Ql (J0 N x0) N ((n:Int),x0.1.1,x0.1.2.1,x0.1.2.2.1,x0.1.2.2.2.1,x0.1.2.2.2.2.1,x0.1.2.2.2.2.2,s1.1,s1.2.1,s1.2.2,m1)=some (x0.1,s2,m2):=e2
  obtain⟨c1,c2,l1,c3,c4⟩:=Jmx (N:=N) (b:=x0.1) (by omega) hs1
  obtain⟨d1,d2,l2,d3,d4⟩:=Jmx (N:=N) (b:=x0.1) (by omega) hs2
  have c2':V8 N (s1.1,s1.2.1,s1.2.2) (s1.1,s1.2.1,s1.2.2)=some true:=c2
  have d2':V8 N (s2.1,s2.2.1,s2.2.2) (s2.1,s2.2.1,s2.2.2)=some true:=d2
  simp only[c1,c3,e2',c2',c4,e3,d1,d2',d3,d4,Jmy,QU,Bool.not_true,JG,if_false,if_true]
theorem Jt2{α:Type}{e:K7 α}{K:Nat}(h:e.ks.length≤K)(hk:∀y∈e.ks,sz y≤K):sz e≤K:=by
 cases e with
 | mk a ks=>rw[Jmu]; exact Q5m h hk
abbrev GS(t:Ty)(i:Sz t.De)(j:Sh t.De):Prop:=∀x:t.De,gz t x→@sz _ i x≤9223372036854775807∧@Sh.sh _ j x
theorem gsI{k:IntKind}:GS (.int k) (inferInstanceAs (Sz Int)) (inferInstanceAs (Sh Int)):=fun _ _=>⟨QR _,True.intro⟩
theorem gsB:GS .bool (inferInstanceAs (Sz Bool)) (inferInstanceAs (Sh Bool)):=fun _ _=>⟨QR _,True.intro⟩
theorem gsS:GS .str (inferInstanceAs (Sz (List UInt8))) (inferInstanceAs (Sh (List UInt8))):=fun x h=>⟨QR _,QW (show List.length x≤140737488351232 from h) (by decide)⟩
theorem Q1n:∀t:Ty,1≤mb t
 | .int k=>by cases k<;>simp[mb]
 | .bool=>by simp[mb]
 | .str=>by simp[mb]
 | .sl _=>by simp[mb]
 | .arr _ _=>by simp[mb]
 | .unit=>by simp[mb]
 | .pr f r=>by have:=Q1n f; have:=Q1n r; cases f<;>simp only[mb]<;>omega
 | .st fs=>by have:=Q1n fs; simp only[mb]; omega
 | .ref=>by simp[mb]
 | .rose _=>by simp[mb]
theorem gsL{t:Ty}{i:Sz t.De}{j:Sh t.De}(h:GS t i j):GS (.sl t) (inferInstanceAs (Sz (List t.De))) (inferInstanceAs (Sh (List t.De))):=fun x g=>by
 have g1:List.length x*mb t≤140737488351232:=g.1
 have g2:List.length x*1≤List.length x*mb t:=Nat.mul_le_mul_left _ (Q1n t)
 exact⟨Q5m (by omega) fun y hy=>(h y (g.2 y hy)).1,⟨fun y hy=>(h y (g.2 y hy)).2⟩⟩
theorem gsP{a b:Ty}{i:Sz a.De}{j:Sh a.De}{k:Sz b.De}{l:Sh b.De}(h:GS a i j)(h2:GS b k l):GS (.pr a b) (inferInstanceAs (Sz (a.De×b.De))) (inferInstanceAs (Sh (a.De×b.De))):=fun x g=>⟨XO.2 ⟨(h x.1 g.1).1,(h2 x.2 g.2).1⟩,(h x.1 g.1).2,(h2 x.2 g.2).2⟩
theorem gsR{t:Ty}:GS (.rose t) (inferInstanceAs (Sz (K7 t.De))) (inferInstanceAs (Sh (K7 t.De))):=fun x g=>by
 refine⟨?_,True.intro⟩
 obtain⟨n,hn⟩:=g
 revert x
 induction n with
 | zero=>exact fun x h=>h.elim
 | succ n ih =>
  intro x h
  exact Jt2 (e:=x) h.2.1 fun y hy=>ih y (h.2.2 y hy)
theorem gsT{t:Ty}{i:Sz t.De}{j:Sh t.De}(h:GS t i j):GS (.st t) i j:=h
theorem Jph:GS Xt (inferInstanceAs (Sz Ja)) (inferInstanceAs (Sh Ja)):=gsR
theorem Jpi:GS Zm (inferInstanceAs (Sz Xj)) (inferInstanceAs (Sh Xj)):=gsT (gsP gsI (gsP gsI gsI))
theorem Jd2:GS Vu (inferInstanceAs (Sz Qp)) (inferInstanceAs (Sh Qp)):=gsT (gsP gsI (gsP gsI gsI))
theorem Qyy:GS J9 (inferInstanceAs (Sz Qe)) (inferInstanceAs (Sh Qe)):=gsT (gsP gsI gsI)
theorem Jm2:GS Jr (inferInstanceAs (Sz Qm)) (inferInstanceAs (Sh Qm)):=gsT (gsP gsI (gsP gsI (gsP gsI (gsP gsI (gsP gsS (gsP gsS gsI))))))
theorem Jpj:GS Uc (inferInstanceAs (Sz Q3)) (inferInstanceAs (Sh Q3)):=gsT (gsP gsS (gsL gsS))
theorem Jpk:GS Uh (inferInstanceAs (Sz Jg)) (inferInstanceAs (Sh Jg)):=gsT (gsP gsS (gsL Jpi))
theorem Jpl:GS Xs (inferInstanceAs (Sz Y5)) (inferInstanceAs (Sh Y5)):=gsT (gsP gsI (gsP gsS (gsP gsS (gsP gsI (gsL Jd2)))))
theorem Q7a:GS Uq (inferInstanceAs (Sz Ji)) (inferInstanceAs (Sh Ji)):=gsT (gsP gsS (gsP Jph gsI))
theorem Jg2:GS Yn (inferInstanceAs (Sz Qw)) (inferInstanceAs (Sh Qw)):=gsT (gsP gsS (gsP gsI (gsP gsB (gsP (gsL Jpj) (gsP (gsL Jpk) (gsP (gsL Jpl) (gsL Q7a)))))))
theorem Jg3:GS Zi (inferInstanceAs (Sz Yo)) (inferInstanceAs (Sh Yo)):=gsT (gsP gsI (gsP (gsL gsS) (gsP gsI (gsP gsI (gsP gsI gsB)))))
theorem Jax:GS J8 (inferInstanceAs (Sz Qn)) (inferInstanceAs (Sh Qn)):=gsT (gsP gsS (gsP gsI (gsP gsI (gsP gsS (gsP gsB (gsL Jg3))))))
theorem Jt3:GS Fa (inferInstanceAs (Sz Hk)) (inferInstanceAs (Sh Hk)):=gsT (gsP gsS (gsP gsI gsI))
theorem Q1o:GS Vi (inferInstanceAs (Sz Qz)) (inferInstanceAs (Sh Qz)):=gsT (gsP gsI (gsP gsI (gsP gsB (gsP Qyy (gsP (gsL Jd2) gsI)))))
theorem Jpm:GS Ks (inferInstanceAs (Sz Qt)) (inferInstanceAs (Sh Qt)):=gsT (gsP (gsL Jm2) (gsP (gsL Jg2) (gsP (gsL Jax) (gsP (gsL Jt3) (gsP (gsL gsI) (gsL Q1o))))))
theorem Jg4:GS Q9 (inferInstanceAs (Sz Qb)) (inferInstanceAs (Sh Qb)):=gsT (gsP gsI (gsP gsI (gsP gsS (gsP gsI (gsP gsI (gsP (gsL gsS) (gsP Qyy (gsP gsI (gsP gsI (gsP gsI gsB))))))))))
theorem Jg5:GS Ya (inferInstanceAs (Sz Qc)) (inferInstanceAs (Sh Qc)):=gsT (gsP gsI (gsP gsI (gsP gsI (gsP gsI gsI))))
theorem Jay:GS Ur (inferInstanceAs (Sz Qd)) (inferInstanceAs (Sh Qd)):=gsT (gsP gsI (gsP gsI (gsP gsI (gsP gsI gsI))))
theorem Jm3:GS Yi (inferInstanceAs (Sz Qr)) (inferInstanceAs (Sh Qr)):=gsT (gsP (gsL Jg4) (gsP (gsL Jg5) (gsL Jay)))
theorem Jaz:GS Yz (inferInstanceAs (Sz J5)) (inferInstanceAs (Sh J5)):=gsT (gsP gsI (gsP gsI (gsP gsI (gsP gsI (gsP gsI (gsP gsI (gsP gsS (gsP gsI gsI))))))))
theorem Jvy:GS Vv (inferInstanceAs (Sz Yr)) (inferInstanceAs (Sh Yr)):=gsT (gsP Jaz gsB)
theorem Jpn:GS Ui (inferInstanceAs (Sz J7)) (inferInstanceAs (Sh J7)):=gsT (gsP Jpm (gsP Jm3 (gsL Jvy)))
theorem Jd3:IntKind.i64.max=9223372036854775807:=rfl
theorem Jd4:IntKind.i64.min = -9223372036854775808:=rfl
theorem Qqw(x0:J7)(g0:gz Ui x0)(x1:Int)(g1:gz (.int .u8) x1):∃N,Us N x0 x1=some true:=⟨18446744073709551616,by
 have:Fn 18446744073709551616:=⟨QY _⟩
 have h:=Jpn x0 g0
 have hop:∀o∈x0.2.2,gz Vv o:=g0.2.2.2
 have h8:Qiv .u8 x1:=g1
 have u1:IntKind.u8.min=0:=by decide
 have u2:IntKind.u8.max=255:=by decide
 simp only[Qiv,u1,u2]at h8
 refine Jpg h8.1 h8.2 h.1 h.2 ?_ ?_ ⟨fun a ha=>?_⟩ ⟨fun o ho=>?_⟩ fun o ho=>?_
 ·have h1:x0.1.2.2.2.1.length*32≤140737488351232:=g0.1.2.2.2.1.1
  omega
 ·have h1:x0.1.2.2.2.2.2.length*72≤140737488351232:=g0.1.2.2.2.2.2.1
  omega
 ·have h1:a.2.2.2.2.1.length*24≤140737488351232:=(g0.1.2.2.2.2.2.2 a ha).2.2.2.2.1.1
  omega
 ·have h1:Qiv .i64 o.1.2.2.2.1:=(hop o ho).1.2.2.2.1
  simp only[Qiv,Jd4,Jd3]at h1; omega
 ·have h1:Qiv .i64 o.1.1:=(hop o ho).1.1
  simp only[Qiv,Jd4,Jd3]at h1
  unfold Fz
  simp only[QQ,decide_eq_true_eq]; omega⟩
end Gx
